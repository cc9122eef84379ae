/- Composites; rows laid whole; append where the capacity is known to be used up. No program, no condition. -/
import Derived.Test.YtmdeagmbfhbbnaaGreatDoorRQ01
import Derived.Laws.StructEq
import Derived.WideKeyRuns
import Derived.Laws.IdiomRangeMap
import Derived.Laws.BytesString
set_option linter.all false
namespace Go.Abs
def splice(cells:List AV)(off:Nat)(cs:List AV):List AV:=cells.take off++(cs++cells.drop (off+cs.length))
def Zdr(place:Nat→Option (Nat×Nat))(cells:List AV):List (Nat×AV)→Option (List AV)
 |[]=>some cells
 |(i,v)::rest=>
  match place i with
  |none=>none
  |some (off,size)=>if v.cells.length=size∧off+size≤cells.length then Zdr place (splice cells off v.cells) rest else none
theorem foldl_set{us:List Value}:∀(off j:Nat) (cells:Array Value),off+(j+us.length)≤cells.size→
  ((us.zipIdx j).foldl (fun cs (c:Value×Nat)=>cs.setIfInBounds (off+c.2) c.1) cells).toList=cells.toList.take (off+j)++(us++cells.toList.drop (off+j+us.length)):=by
 induction us with
 |nil=>intro off j cells h;simp
 |cons u us ih=>
  intro off j cells h;simp only[Qo]at h;rw[List.zipIdx_cons,Uu,ih off (j+1) _ (by simp;omega),Array.toList_setIfInBounds];have hlt:off+j<cells.toList.length:=by simp;omega
  rw[show off+(j+1)=off+j+1 by omega,Qn (by simpa using hlt),List.getElem_set_self,List.take_set_of_le om,
   show off+j+1+us.length=off+j+(us.length+1) by omega,List.drop_set_of_lt om,Qo,Q7]
  rfl
theorem Zf9{E:Env}{place:Nat→Option (Nat×Nat)}:∀{parts:List (Nat×AV)} {vals:List (Nat×Value)} {cells out:List AV} {vs:Array Value},
  Zdr place cells parts=some out→VRs E cells vs.toList→vals.length=parts.length→
  (∀i (h:i<parts.length) (h':i<vals.length),parts[i].1=vals[i].1∧VR E parts[i].2 vals[i].2∧(∀c∈parts[i].2.cells,c.one=true))→
  ∃us,Instr.fill place vs vals=some us∧VRs E out us.toList
 |[],vals,cells,out,vs,hf,hv,hl,_=>by
  have:vals=[]:=by simpa using hl
  subst this;simp only[Zdr,Qq]at hf;subst hf;exact⟨vs,rfl,hv⟩
 |(i,v)::rest,vals,cells,out,vs,hf,hv,hl,hp=>by
  cases vals with
  |nil=>simp at hl
  |cons iv vals=>
   obtain⟨i',u⟩:=iv;obtain⟨h1,h2,h3⟩:=hp 0 sm sm;simp only[Ud]at h1 h2 h3;subst h1;simp only[Zdr]at hf;simp only[Instr.fill];cases hpl:place i with
   |none=>simp[hpl]at hf
   |some os=>
    obtain⟨off,size⟩:=os;simp only[hpl]at hf⊢;split at hf
    ·rename_i hc;have hcv:=h2.cells h3;have hus:u.cells.size=size:=by have:=hcv.1;simp at this;omega
     have hcs:vs.size=cells.length:=by have:=hv.1;simpa using this
     rw[if_neg (by simp[hus,hcs];omega)];refine Zf9 hf ?_ (by simpa using hl) (fun j hj hj'=>?_)
     ·have:=foldl_set (us:=u.cells.toList) off 0 vs (by simp[hus];omega);rw[←Array.foldl_toList,Array.toList_zipIdx,this];simp only[UD];have hlen:u.cells.toList.length=v.cells.length:=hcv.1;unfold splice;rw[hlen];exact(hv.take _).append (hcv.append (hv.drop _))
     ·have:=hp (j+1) (by simpa using hj) (by simpa using hj');simpa using this
    ·cases hf
def YZ(ρ:Operand→AV)(ps:List (Nat×Operand)):List (Nat×AV):=ps.map fun p=>(p.1,ρ p.2)
section ops
variable {P:Program} {T:TT} {o:Oper} {ρ:Operand→AV}
def Jj(T:TT)(fs:List (Nat×TypeId)):List (Option (Nat×Nat)):=fs.map fun f=>(T f.2).map fun r=>(f.1,r.size)
theorem ZkU{gs:Array Field}{fs:List (Nat×TypeId)}(hT:TOK P T)(hfit:gs.toList.map (fun g=>(g.offset,g.type))=fs)(hall:∀f∈fs,T f.2≠none)(w:World):
  ∃ps:Array (Nat×Nat),(gs.mapM (m:=Sem) fun f=>do pure (f.offset,←sizeOf f.type)).run P w= .ok ps w∧ ∀i:Nat,ps[i]? =(Jj T fs)[i]?.join:=by
 have key:∀(gs:List Field) (fs:List (Nat×TypeId)),gs.map (fun g=>(g.offset,g.type))=fs→(∀f∈fs,T f.2≠none)→
   ∃ps:List (Nat×Nat),(gs.mapM (m:=Sem) fun f=>do pure (f.offset,←sizeOf f.type)).run P w= .ok ps w∧ ∀i:Nat,ps[i]? =(Jj T fs)[i]?.join:=by
  intro gs;induction gs with
  |nil=>intro fs h _;subst h;exact⟨[],sm,by simp[Jj]⟩
  |cons g gs ih=>
   intro fs h hall;subst h;obtain⟨ps,h1,h2⟩:=ih _ rfl (fun f hf=>hall f (Qx _ hf));have hg:=hall (g.offset,g.type) sm;cases hr:T g.type with
   |none=>exact absurd hr hg
   |some r=>
    obtain⟨d,i,z,hf⟩:=Zd (hT g.type r hr);refine⟨(g.offset,r.size)::ps,?_,?_⟩
    ·rw[Qbo];simp only[Sem.run_bind,ZF hf,Result.andThen_ok,Sem.run_pure,h1]
    ·intro i;cases i with
     |zero=>simp[Jj,hr]
     |succ i=>simpa[Jj]using h2 i
 obtain⟨ps,h1,h2⟩:=key gs.toList fs hfit hall;refine⟨ps.toArray,?_,by simpa using h2⟩;rw[Qah,Sem.run_map,h1];rfl
theorem Zpn{t:TypeId}{ps:Array (Nat×Operand)}{r:Zv}{fs:List (Nat×TypeId)}{out:List AV}(hT:TOK P T)(ho:o.op= .build t ps)(h1:T t=some r)(h2:r.td= .struct fs)(hall:∀f∈fs,T f.2≠none)
  (hf:Zdr (fun i=>(Jj T fs)[i]?.join) r.zero (YZ ρ ps.toList)=some out) (hone:∀p∈YZ ρ ps.toList,∀c∈p.2.cells,c.one=true):YV P o ρ (.agg out):=fun E a h=>by
 obtain⟨d,inf,z,hr⟩:=Zd (hT t r h1);have hfit:=hr.fits;rw[h2]at hfit;cases d<;>try(simp[TD.fits]at hfit;done)
 rename_i gs;simp only[TD.fits,Qi,beq_iff_eq]at hfit;have hz:VRs E r.zero z.cells.toList:=Xt hr.zfits;have hparts:∀i (h:i<(YZ ρ ps.toList).length) (h':i<(ps.toList.map fun p=>(p.1,a.eval p.2)).length),
   (YZ ρ ps.toList)[i].1=(ps.toList.map fun p=>(p.1,a.eval p.2))[i].1∧VR E (YZ ρ ps.toList)[i].2 (ps.toList.map fun p=>(p.1,a.eval p.2))[i].2∧(∀c∈(YZ ρ ps.toList)[i].2.cells,c.one=true):=by
  intro i h1 h2;refine⟨by simp[YZ],?_,fun c hc=>hone _ (Qa h1) c hc⟩;simp only[YZ,QO];have hi:i<ps.toList.length:=by simpa[YZ]using h1
  exact h _ (by rw[ho];simp only[Op.operands];simp only[Qay,Qb];exact⟨ps.toList[i],sm,rfl⟩)
 obtain⟨us,hu1,hu2⟩:=Zf9 hf hz (by simp[YZ]) hparts;refine⟨.agg us,fun w=>?_,?_⟩
 ·obtain⟨pl,hp1,hp2⟩:=ZkU (P:=P) (T:=T) (gs:=gs) hT hfit.1 hall w;have he:execOp a.eval o=(do let v←Instr.build t (ps.map fun(i,x)=>(i,a.eval x));pure (Next.value v)):=by simp only[execOp,ho]
  have hpl:(fun i=>pl[i]?)=(fun i=>(Jj T fs)[i]?.join):=funext hp2;have hm:(ps.map fun(i,x)=>(i,a.eval x)).toList=ps.toList.map fun p=>(p.1,a.eval p.2):=by simp
  rw[he];simp only[Instr.build,Sem.run_bind,Yk hr,Result.andThen_ok,run_underlying hr.und,hp1,hm];have hu1':Instr.fill (fun x=>pl[x]?) z.cells (ps.toList.map fun p=>(p.1,a.eval p.2))=some us:=by rw[hpl];exact hu1
  rw[hu1'];rfl
 ·have:us=us.toList.toArray:=by simp
  rw[this];exact .agg out us.toList hu2.1 hu2.2
theorem Zov{t:TypeId}{x:Operand}{f:Nat}{r rf:Zv}{fs:List (Nat×TypeId)}{fo ft:Nat}{cs:List AV}(hT:TOK P T)(ho:o.op= .field t x f)(h1:T t=some r)(h2:r.td= .struct fs)
  (h3:fs[f]? =some (fo,ft)) (h4:T ft=some rf) (hv:ρ x= .agg cs) (hn:rf.isAgg=false→fo<cs.length):
  YV P o ρ (if rf.isAgg then .agg ((cs.drop fo).take rf.size)else cs.getD fo .dead):=fun E a h=>by
 have hx:=h x sO;rw[hv]at hx;obtain⟨d,i,z,hf⟩:=Zd (hT t r h1);obtain⟨d',i',z',hf'⟩:=Zd (hT ft rf h4);have hfit:=hf.fits;rw[h2]at hfit;cases d<;>try(simp[TD.fits]at hfit;done)
 rename_i gs;simp only[TD.fits,Qi,beq_iff_eq]at hfit;have hg:∃g,gs[f]? =some g∧g.offset=fo∧g.type=ft:=by
  have h3':=h3;rw[←hfit.1,QZ]at h3';cases hq:gs.toList[f]? with
  |none=>simp[hq]at h3'
  |some g=>rw[hq]at h3';simp at h3';exact⟨g,by rw[←Array.getElem?_toList];exact hq,h3'.1,h3'.2⟩
 obtain⟨g,hg1,hg2,hg3⟩:=hg;generalize hy:a.eval x=y at hx;cases hx with|agg _ vs hl hvs=>
 have he:execOp a.eval o=(do let v←Instr.field t (a.eval x) f;pure (Next.value v)):=by simp only[execOp,ho]
 have hvv:VRs E cs vs:=⟨hl,hvs⟩
 cases hag:rf.isAgg with
 |true=>
  refine⟨.agg ((vs.drop fo).take rf.size).toArray,fun w=>?_,?_⟩
  ·rw[he,hy];have hpt:(part g.type vs.toArray g.offset).run P w= .ok (.agg ((vs.drop fo).take rf.size).toArray) w:=by
    unfold part;rw[hg3,hg2];simp only[Sem.run_bind,JX hf',hag,Result.andThen_ok,if_true,ZF hf',Sem.run_pure,List.extract_toArray,QaX];congr 4;omega
   simp only[Instr.field,Sem.run_bind,run_underlying hf.und,Result.andThen_ok,hg1,asAgg,Sem.run_pure,hpt]
  ·have:=(hvv.drop fo).take rf.size;simp only[if_true];exact .agg _ _ this.1 this.2
 |false=>
  have hlt:=hn hag;refine⟨vs[fo]'om,fun w=>?_,?_⟩
  ·rw[he,hy];have hpt:(part g.type vs.toArray g.offset).run P w= .ok (vs[fo]'om) w:=by
    unfold part;rw[hg3,hg2];simp[JX hf',hag,Qd (show fo<vs.length by omega)]
   simp only[Instr.field,Sem.run_bind,run_underlying hf.und,Result.andThen_ok,hg1,asAgg,Sem.run_pure,hpt]
  ·simp only[QT,if_false];have:=hvs fo hlt om;simpa[Qp,Qd hlt]using this
end ops
theorem Zqm{P:Program}{m:Nat}{o:Oper}{ρ:Operand→AV}{k:Nat}{xs:List AV}{ow:Own}{H:Za}
  (h:∀E w (a:Act),Zt m H E w→(∀x∈o.op.operands,VR E (ρ x) (a.eval x))→
   ∃(w1:World) (e:TypeId) (vs:List Value) (cap:Nat),(execOp a.eval o).run P w= .ok (.value (.slice (some ⟨w.heap.size,0,none⟩) xs.length cap)) (w1.alloc (.cells vs.toArray e))∧
    w1.os=w.os∧w1.tape=w.tape∧w1.output=w.output∧w.drawn≤w1.drawn∧w1.heap=w.heap∧(∀x∈xs,x.cells.length=k)∧VRs E (flat xs) (vs.take (xs.length*k))∧xs.length≤cap∧xs.length≤maxLen∧
    (match ow with| .any=>True| .full=>cap=xs.length| .buf _ _=>False)):Yq P m o ρ H (.sl k xs ow) H:=by
 intro E w a hr ho;obtain⟨w1,e,vs,cap,hrun,h1,h2,h3,hdr,h4,hk,hv,hcap,hm,how⟩:=h E w a hr ho;obtain⟨hh,hx⟩:=hr.newRow vs.toArray e h1 h2 h3 (fun _=>hdr) h4;refine⟨_,_,_,.inl hrun,?_,hh,hx⟩;refine VR.WW (cs:=vs.take (xs.length*k)) hk (hv.mono hr.norm hx.le) (fun j u hj=>?_) hcap hm ?_
 ·simp only[Env.addRow,if_true,QF];have hlt:j<xs.length*k:=by
   rcases Qg j (xs.length*k)with h|h
   ·exact h
   ·rw[UG,if_neg om]at hj;cases hj
  rw[QV hlt]at hj;simpa using hj
 ·cases ow with
  |any=>trivial
  |full=>exact how
  |buf l j=>exact how.elim
def inOrder(i:Nat):List (Nat×Operand)→Bool
 |[]=>true
 |p::r=>p.1==i&&inOrder (i+1) r
theorem ZaQ{E:Env}{k n:Nat}:∀{ps:List (Nat×Operand)} {xs:List AV} {vals:List (Nat×Value)} {pre post:List Value},
  inOrder n ps=true→xs.length=ps.length→vals.length=ps.length→pre.length=n*k→post.length=ps.length*k→
  (∀i (h:i<ps.length) (h':i<vals.length) (h'':i<xs.length),vals[i].1=ps[i].1∧VR E xs[i] vals[i].2)→(∀x∈xs,x.cells.length=k∧ ∀c∈x.cells,c.one=true)→
  ∃us,Instr.fill (fun i=>some (i*k,k)) (pre++post).toArray vals=some (pre++us).toArray∧VRs E (flat xs) us
 |[],xs,vals,pre,post,_,hx,hl,_,hpost,_,_=>by
  have e1:xs=[]:=by simpa using hx
  have e2:vals=[]:=by simpa using hl
  have e3:post=[]:=Uc (by simpa using hpost);subst e1 e2 e3;exact⟨[],rfl,VRs.nil E⟩
 |p::ps,xs,vals,pre,post,hi,hx,hl,hpre,hpost,hp,ho=>by
  cases xs with
  |nil=>simp at hx
  |cons x xs=>
   cases vals with
   |nil=>simp at hl
   |cons iv vals=>
    obtain⟨i,u⟩:=iv;simp only[inOrder,Qi,beq_iff_eq]at hi;obtain⟨hi1,hi2⟩:=hi;obtain⟨h1,h2⟩:=hp 0 sm sm sm;simp only[Ud]at h1 h2;obtain⟨h3,h4⟩:=ho x sm;have hcv:=h2.cells h4;have hul:u.cells.toList.length=k:=hcv.1.trans h3;have hul':u.cells.size=k:=by simpa using hul
    have hin:i=n:=h1.trans hi1;subst hin;simp only[Qo,GZ]at hpost;simp only[Instr.fill];rw[if_neg (by simp[hul',hpre];omega)];have hset:=foldl_set (us:=u.cells.toList) (i*k) 0 (pre++post).toArray (by simp[hul',hpre];omega);simp only[UD]at hset;have harr:(u.cells.zipIdx.foldl (fun cs (c:Value×Nat)=>cs.setIfInBounds (i*k+c.2) c.1) (pre++post).toArray)=((pre++u.cells.toList)++post.drop k).toArray:=by
     apply Qar;rw[←Array.foldl_toList,Array.toList_zipIdx,hset,hul];simp only[←hpre,Gw,Q7];rw[Qa7,Ux om,QY,show pre.length+k - pre.length=k by omega]
    rw[harr];obtain⟨us,hu1,hu2⟩:=ZaQ (n:=i+1) (pre:=pre++u.cells.toList) (post:=post.drop k) hi2 (by simpa using hx) (by simpa using hl) (by rw[Qh,hpre,hul,GZ]) (by simp;omega)
     (fun j a1 a2 a3=>by have:=hp (j+1) (by simpa using a1) (by simpa using a2) (by simpa using a3);simpa using this) (fun y hy=>ho y (Qx _ hy))
    refine⟨u.cells.toList++us,by rw[hu1,Q7],?_⟩;rw[Yt];exact hcv.append hu2
section ops
variable {P:Program} {T:TT} {o:Oper} {ρ:Operand→AV}
theorem Zg8{m:Nat}{H:Za}{t:TypeId}{n:Nat}{ps:Array (Nat×Operand)}{r re:Zv}{e:TypeId}(hT:TOK P T)(ho:o.op= .buildSlice t n ps)(h1:T t=some r)(h2:r.td= .slice e)(h3:T e=some re)
  (hin:inOrder 0 ps.toList=true) (hn:n=ps.size) (hsz:0<re.size) (hsmall:n*re.size≤2^24) (hk:∀x∈ps.toList.map (fun p=>ρ p.2),x.cells.length=re.size∧ ∀c∈x.cells,c.one=true):
  Yq P m o ρ H (.sl re.size (ps.toList.map fun p=>ρ p.2) .full) H:=Zqm fun E w a hr hops=>by
 obtain⟨d,inf,z,hf⟩:=Zd (hT t r h1);obtain⟨d',i',z',hf'⟩:=Zd (hT e re h3);have hd:=ZH (h2▸hf.fits);subst hd;have he:execOp a.eval o=(do let v←Instr.buildSlice t n (ps.map fun(i,x)=>(i,a.eval x));pure (Next.value v)):=by simp only[execOp,ho]
 have hm:(ps.map fun(i,x)=>(i,a.eval x)).toList=ps.toList.map fun p=>(p.1,a.eval p.2):=by simp
 have hparts:∀i (h:i<ps.toList.length) (h':i<(ps.toList.map fun p=>(p.1,a.eval p.2)).length) (h'':i<(ps.toList.map fun p=>ρ p.2).length),
   (ps.toList.map fun p=>(p.1,a.eval p.2))[i].1=ps.toList[i].1∧VR E (ps.toList.map fun p=>ρ p.2)[i] (ps.toList.map fun p=>(p.1,a.eval p.2))[i].2:=by
  intro i h h' h'';refine⟨sm,?_⟩;simp only[QO];exact hops _ (by rw[ho];simp only[Op.operands,Qay,Qb];exact⟨ps.toList[i],sm,rfl⟩)
 have hfill:∀(cells:List Value),cells.length=n*re.size→ ∃us:List Value,Instr.fill (fun i=>some (i*re.size,re.size)) cells.toArray (ps.toList.map fun p=>(p.1,a.eval p.2))=some us.toArray∧
   VRs E (flat (ps.toList.map fun p=>ρ p.2)) us:=by
  intro cells hc;have:=ZaQ (E:=E) (k:=re.size) (n:=0) (ps:=ps.toList) (xs:=ps.toList.map fun p=>ρ p.2) (vals:=ps.toList.map fun p=>(p.1,a.eval p.2)) (pre:=[]) (post:=cells) hin sm sm sm (by rw[hc,hn];simp) hparts hk;simpa using this
 have hlen:(ps.toList.map fun p=>ρ p.2).length=n:=by simp[hn]
 have hflen:=flat_length (k:=re.size) (xs:=ps.toList.map fun p=>ρ p.2) (fun x hx=>(hk x hx).1);have h24:¬n*re.size>2^24:=by omega
 have hml:n≤maxLen:=by
  have:n≤n*re.size:=Qa8 n hsz;unfold maxLen;omega
 by_cases h0:n*re.size=0
 ·obtain⟨us,hu1,hu2⟩:=hfill [] (by simp[h0]);have hu0:us=[]:=Uc (by rw[hu2.1,hflen,hlen,h0]);refine⟨w,e,us,n,?_,rfl,rfl,rfl,Qe _,rfl,fun x hx=>(hk x hx).1,?_,om,om,by simp[hlen]⟩
  ·rw[he,hlen];have hz:∀f:Nat→Value,(Array.range (n*re.size)).map f= #[]:=fun f=>by rw[h0];simp
   have:Instr.fill (fun i=>some (i*re.size,re.size)) #[] (ps.toList.map fun p=>(p.1,a.eval p.2))=some us.toArray:=hu1;simp only[Instr.buildSlice,Sem.run_bind,run_underlying hf.und,Result.andThen_ok,ZF hf',if_neg h24,Sem.run_pure,if_pos h0,hz,hm,this];simp[newRow,newObj,Sem.run]
  ·rw[hlen,h0,hu0];simpa[hu0]using hu2
 ·obtain⟨us,hu1,hu2⟩:=hfill ((Array.range (n*re.size)).map (z'.cells[· % z'.cells.size]!)).toList sm;have hul:us.length=n*re.size:=by rw[hu2.1,hflen,hlen]
  refine⟨w,e,us,n,?_,rfl,rfl,rfl,Qe _,rfl,fun x hx=>(hk x hx).1,?_,om,om,by simp[hlen]⟩
  ·rw[he,hlen];have:Instr.fill (fun i=>some (i*re.size,re.size)) ((Array.range (n*re.size)).map (z'.cells[· % z'.cells.size]!)) (ps.toList.map fun p=>(p.1,a.eval p.2))=some us.toArray:=by
    rw[←hu1]
   simp only[Instr.buildSlice,Sem.run_bind,run_underlying hf.und,Result.andThen_ok,ZF hf',if_neg h24,Sem.run_pure,if_neg h0,Yk hf',hm,this];simp[newRow,newObj,Sem.run]
  ·rw[hlen,Q5 om];exact hu2
theorem or_append{m:Nat}{H:Za}{t:TypeId}{x y:Operand}{r re:Zv}{e:TypeId}{k k':Nat}{xs ys:List AV}{ow:Own}(hT:TOK P T)
  (ho:o.op= .call {callee:=.builtin .append,args:=#[x,y],argTypes:=#[t,t]}) (h1:T t=some r) (h2:r.td= .slice e) (h3:T e=some re) (hsz:0<re.size)
  (hx:ρ x= .sl k xs .full) (hy:ρ y= .sl k' ys ow) (hk:xs=[]∨k=re.size) (hk':ys=[]∨k'=re.size) (hml:xs.length+ys.length≤maxLen) (hby:(xs.length+ys.length)*re.bytes≤140737488355328):
  Yq P m o ρ H (.sl re.size (xs++ys) .any) H:=fun E w a hr hops=>by
 obtain⟨d,inf,z,hf⟩:=Zd (hT t r h1);obtain⟨d',i',z',hf'⟩:=Zd (hT e re h3);have hd:=ZH (h2▸hf.fits);subst hd;have hxv:=hops x sC;have hyv:=hops y sC;rw[hx]at hxv;rw[hy]at hyv;have he:∀w',(execOp a.eval o).run P w'=((Builtin.append_ #[t,t] o.type #[a.eval x,a.eval y]).run P w').andThen fun v w''=>.ok (.value v) w'':=fun w'=>by
  simp[execOp,ho,resolve,invoke,builtin]
 have hu:P.underlying t=some (.slice e):=hf.und;have hsm:(9223372036854775807:Int)=9223372036854775807:=rfl;have hmx:xs.length+ys.length≤9223372036854775807:=by unfold maxLen at hml;omega
 by_cases hy0:ys=[]
 ·-- nothing is appended:the first one itself
  subst hy0;rw[Qu];have hrun:(Builtin.append_ #[t,t] o.type #[a.eval x,a.eval y]).run P w= .ok (a.eval x) w:=by
   rcases hxv.Vd with⟨⟨a1,e1,_⟩,_,_⟩|⟨b,off,cap,cs,e1,_,_,_,hc,_,_⟩<;>rcases hyv.Vd with⟨⟨a2,e2,_⟩,_,_⟩|⟨b2,off2,cap2,cs2,e2,_,_,_,hc2,_,_⟩<;>rw[e1,e2]
   ·cases a1<;>cases a2<;>simp[Builtin.append_,run_underlying hu,sizeOf,typeInfo,hf'.info,Builtin.lenOf,Builtin.firstCells,loadCells,loadCellsFrom,storeCells]
   ·cases a1<;>simp[Builtin.append_,run_underlying hu,sizeOf,typeInfo,hf'.info,Builtin.lenOf,Builtin.firstCells,loadCells,loadCellsFrom,storeCells]
   ·cases a2<;>simp[Builtin.append_,run_underlying hu,sizeOf,typeInfo,hf'.info,Builtin.lenOf,Builtin.firstCells,hc,loadCells,loadCellsFrom,storeCells]
   ·simp[Builtin.append_,run_underlying hu,sizeOf,typeInfo,hf'.info,Builtin.lenOf,Builtin.firstCells,hc,loadCells,loadCellsFrom,storeCells]
  refine⟨a.eval x,E,w,.inl (by rw[he,hrun];rfl),?_,hr,.refl m E w⟩;rcases hk with rfl|rfl
  ·exact(ZaU hxv).any
  ·exact hxv.any
 ·have hk':k'=re.size:=hk'.resolve_left hy0;subst hk';rcases hyv.Vd with⟨_,e2,_⟩|⟨b2,off2,cap2,cs2,e2,hky,hvy,hFy,_,_,_⟩
  ·exact absurd e2 hy0
  have hylen:0<ys.length:=Qak.2 hy0;have hl2:cs2.length=ys.length*i'.size:=by rw[hvy.1,flat_length hky,hf'.size]
  have hn2:∀j v,cs2[j]? =some v→w.cell? ((⟨b2,off2,none⟩:Addr).add j)=some v:=fun j v hj=>by rw[ZI];exact hr.F _ _ _ (hFy j v hj)
  have hb48:Builtin.nextslicecap (xs.length+ys.length) xs.length*i'.bytes≤281474976710656:=growslice_fits om (by rw[hf'.bytes];exact hby);have fin:∀(vs:List Value) (cap:Nat),(execOp a.eval o).run P w= .ok (.value (.slice (some ⟨w.heap.size,0,none⟩) (xs++ys).length cap)) (w.drew.alloc (.cells vs.toArray e))→(∀x∈xs++ys,x.cells.length=re.size)→
    VRs E (flat (xs++ys)) (vs.take ((xs++ys).length*re.size))→(xs++ys).length≤cap→ ∃cv E' w',((execOp a.eval o).run P w= .ok (.value cv) w'∨((execOp a.eval o).run P w= .ok .skip w'∧cv=undef))∧VR E' (.sl re.size (xs++ys) .any) cv∧Zt m H E' w'∧Ext m E w E' w':=by
   intro vs cap hrun hkk hvv hcap;obtain⟨hh,hxx⟩:=hr.newRow vs.toArray e (w1:=w.drew) rfl rfl rfl (fun _=>Uj _) rfl;refine⟨_,_,_,.inl hrun,?_,hh,hxx⟩;refine VR.WW (cs:=vs.take ((xs++ys).length*re.size)) hkk (hvv.mono hr.norm hxx.le) (fun j u hj=>?_) hcap (by rw[Qh];exact hml) trivial;simp only[Env.addRow,if_true,QF];have hlt:j<(xs++ys).length*re.size:=by
    rcases Qg j ((xs++ys).length*re.size)with h|h
    ·exact h
    ·rw[UG,if_neg om]at hj;cases hj
   rw[QV hlt]at hj;simpa using hj
  rcases hxv.Vd with⟨⟨a1,e1,ea1⟩,ex,_⟩|⟨b1,off1,cap1,cs1,e1,hkx,hvx,hFx,hc1,_,how⟩
  ·subst ex;obtain rfl:=ea1 sm;simp only[QB,QF]at hmx hb48 hml hby;have hr1:=run_append_nil (P:=P) w t o.type e i' z' hu hf'.info hf'.zero ⟨b2,off2,none⟩ ys.length cap2 cs2 hl2 hn2 hylen om (by rw[hf'.bytes];omega);simp only[QY];simp only[QY]at fin;refine fin (cs2++(Builtin.zeroCells z'.cells (grownCap w ys.length 0 e - ys.length)).toList) (grownCap w ys.length 0 e) ?_ hky ?_ (grownCap_ge w _ _ _)
   ·rw[he,e1,e2,hr1];simp only[Result.andThen_ok];congr 3
    apply Qar;simp
   ·rw[MB (by rw[hvy.1,flat_length hky];exact Qe _),Q5 (by rw[hvy.1,flat_length hky];exact Qe _)];exact hvy
  ·have hcap1:cap1=xs.length:=how;subst hcap1;by_cases hx0:xs=[]
   ·subst hx0;simp only[QB,QF]at hmx hb48 hml hby;have hcs1:cs1=[]:=Uc (by rw[hvx.1];rfl);have hr1:=run_append_grow (P:=P) w t o.type e i' z' hu hf'.info hf'.zero ⟨b1,off1,none⟩ 0 0 [] sm sm ⟨b2,off2,none⟩ ys.length cap2 cs2 hl2 hn2 om om (by simpa using hb48);simp only[QY];simp only[QY]at fin;simp only[QF]at hr1;refine fin (cs2++(Builtin.zeroCells z'.cells (grownCap w ys.length 0 e - ys.length)).toList) (grownCap w ys.length 0 e) ?_ hky ?_ (grownCap_ge w _ _ _)
    ·rw[he,e1,e2];simp only[QB];rw[hr1];simp only[Result.andThen_ok];congr 3
     apply Qar;simp
    ·rw[MB (by rw[hvy.1,flat_length hky];exact Qe _),Q5 (by rw[hvy.1,flat_length hky];exact Qe _)];exact hvy
   ·have hkk:=hk.resolve_left hx0;subst hkk;have hl1:cs1.length=xs.length*i'.size:=by rw[hvx.1,flat_length hkx,hf'.size]
    have hn1:∀j v,cs1[j]? =some v→w.cell? ((⟨b1,off1,none⟩:Addr).add j)=some v:=fun j v hj=>by rw[ZI];exact hr.F _ _ _ (hFx j v hj)
    have hr1:=run_append_grow (P:=P) w t o.type e i' z' hu hf'.info hf'.zero ⟨b1,off1,none⟩ xs.length xs.length cs1 hl1 hn1 ⟨b2,off2,none⟩ ys.length cap2 cs2 hl2 hn2 om om hb48;have hkall:∀x∈xs++ys,x.cells.length=re.size:=fun x hx=>by
     rcases Qj.1 hx with h|h
     ·exact hkx x h
     ·exact hky x h
    have hlall:(cs1++cs2).length=(xs++ys).length*re.size:=by rw[Qh,hl1,hl2,hf'.size,Qh,Ue]
    refine fin (cs1++cs2++(Builtin.zeroCells z'.cells (grownCap w (xs.length+ys.length) xs.length e - (xs.length+ys.length))).toList) (grownCap w (xs.length+ys.length) xs.length e) ?_ hkall ?_ (by rw[Qh];exact grownCap_ge w _ _ _)
    ·rw[he,e1,e2,hr1,Qh];simp only[Result.andThen_ok];congr 3
     apply Qar;simp
    ·rw[MB om,Q5 om,YU];exact hvx.append hvy
end ops
def Env.XZ(E:Env)(l k b:Nat):Env:={E with m:=fun l' k'=>if l'=l∧k'=k then some b else E.m l' k'}
theorem Za.upd_same(H:Za)(l k:Nat)(b:Ze):H.upd l k b l k=some b:=by simp[Za.upd]
section
variable {l k:Nat}
theorem Za.upd_ne(H:Za){l' k':Nat}(b:Ze)(h:¬(l'=l∧k'=k)):H.upd l k b l' k'=H l' k':=by simp only[Za.upd,if_neg h]
variable {w:World} {E:Env} {H:Za} {m:Nat}
theorem Zt.Zdi(h:Zt m H E w)(hl:l<m)(hfree:H l k=none)(ob:Obj)(blk:Ze)(hblk:Zen (E.XZ l k w.heap.size) (w.alloc ob) l k blk):
  Zt m (H.upd l k blk) (E.XZ l k w.heap.size) (w.alloc ob)∧Ext m E w (E.XZ l k w.heap.size) (w.alloc ob):=by
 obtain⟨d1,d2,d3⟩:=h.dom l k hl hfree;have hlt:∀l' k' b,E.m l' k'=some b→b<w.heap.size:=fun l' k' b hm=>h.lt b (.inl ⟨l',k',hm⟩)
 have hgt:∀l' k' b,E.g l' k'=some b→b<w.heap.size:=fun l' k' b hm=>h.lt b (.inr ⟨l',k',hm⟩)
 have hm':∀l' k' b,(E.XZ l k w.heap.size).m l' k'=some b→(l'=l∧k'=k∧b=w.heap.size)∨(¬(l'=l∧k'=k)∧E.m l' k'=some b):=by
  intro l' k' b hm;simp only[Env.XZ]at hm;by_cases hc:l'=l∧k'=k
  ·rw[if_pos hc]at hm;exact .inl ⟨hc.1,hc.2,by simpa using hm.symm⟩
  ·rw[if_neg hc]at hm;exact .inr ⟨hc,hm⟩
 have hle:E.le m (E.XZ l k w.heap.size):=⟨fun _ _ _ h=>h,fun l' k' b _ hm=>by
  simp only[Env.XZ];rw[if_neg (fun hc=>by rw[hc.1,hc.2,d1]at hm;cases hm)];exact hm,fun _ _ _ _ _ h=>h,rfl⟩
 have hold:∀b,b<w.heap.size→(w.alloc ob).heap[b]? =w.heap[b]?:=fun b hb=>by
  simp only[World.alloc,U1];rw[if_neg om]
 have hc?:∀b o,b<w.heap.size→(w.alloc ob).cell? ⟨b,o,none⟩=w.cell? ⟨b,o,none⟩:=fun b o hb=>by
  simp only[World.cell?,hold b hb]
 refine⟨{norm:=?_,F:=?_,blk:=?_,dom:=?_,nobuf:=?_,inj:=?_,injg:=h.injg,mg:=?_,mF:=?_,lt:=?_},⟨hle,rfl,rfl,rfl,fun _=>Qe _,sm,fun b hb _=>hold b hb,?_⟩⟩
 ·refine⟨fun l' k' hl'=>?_,h.norm.g,h.norm.hist⟩;simp only[Env.XZ];rw[if_neg (fun hc=>by omega)];exact h.norm.m l' k' hl'
 ·intro b o v hf;rw[hc? b o (h.Zco hf)];exact h.F b o v hf
 ·intro l' k' bb hl' hH;by_cases hc:l'=l∧k'=k
  ·obtain⟨rfl,rfl⟩:=hc;rw[Za.upd_same,Qq]at hH;subst hH;exact hblk
  ·rw[Za.upd_ne H blk hc]at hH;exact(h.blk l' k' bb hl' hH).keep (by simp only[Env.XZ];rw[if_neg hc]) rfl (fun _=>rfl) (fun p _ r hr=>hle.m p.1 p.2 r (h.norm.Zak hr) hr) (fun r hr=>hold r (hr.elim (hlt _ _ _) (hgt _ _ _))) (fun _ _ _ hf=>hf) (fun a _ v hv=>hv.mono h.norm hle)
 ·intro l' k' hl' hH;by_cases hc:l'=l∧k'=k
  ·obtain⟨rfl,rfl⟩:=hc;rw[Za.upd_same]at hH;cases hH
  ·rw[Za.upd_ne H blk hc]at hH;obtain⟨a1,a2,a3⟩:=h.dom l' k' hl' hH;exact⟨by simp only[Env.XZ];rw[if_neg hc];exact a1,a2,a3⟩
 ·intro l' k' hg;have hc:¬(l'=l∧k'=k):=fun hc=>by rw[hc.1,hc.2]at hg;exact hg d2
  rw[Za.upd_ne H blk hc];exact h.nobuf l' k' hg
 ·intro l1 k1 l2 k2 b h1 h2;rcases hm' _ _ _ h1 with⟨a1,a2,a3⟩|⟨_,a1⟩<;>rcases hm' _ _ _ h2 with⟨b1,b2,b3⟩|⟨_,b1⟩
  ·exact⟨a1.trans b1.symm,a2.trans b2.symm⟩
  ·have:=hlt _ _ _ b1;omega
  ·have:=hlt _ _ _ a1;omega
  ·exact h.inj _ _ _ _ _ a1 b1
 ·intro l1 k1 l2 k2 b h1 h2;rcases hm' _ _ _ h1 with⟨a1,a2,a3⟩|⟨_,a1⟩
  ·have:=hgt _ _ _ h2;omega
  ·exact h.mg _ _ _ _ _ a1 h2
 ·intro l1 k1 b o h1;rcases hm' _ _ _ h1 with⟨a1,a2,a3⟩|⟨_,a1⟩
  ·subst a3;cases hf:E.F w.heap.size o with
   |none=>exact hf
   |some v=>have:=h.Zco hf;omega
  ·exact h.mF _ _ _ _ a1
 ·intro b hb;rcases hb with⟨l',k',hm⟩|⟨l',k',hg⟩
  ·rcases hm' _ _ _ hm with⟨_,_,rfl⟩|⟨_,a1⟩
   ·simp
   ·have:=hlt _ _ _ a1;simp;omega
  ·have:=hgt _ _ _ hg;simp;omega
 ·intro b hb ho;rcases ho with⟨l',k',hm⟩|⟨l',k',hg⟩
  ·rcases hm' _ _ _ hm with⟨_,_,rfl⟩|⟨_,a1⟩
   ·omega
   ·exact .inl ⟨l',k',a1⟩
  ·exact .inr ⟨l',k',hg⟩
theorem Zt.turn{w':World}(h:Zt m H E w){b:Nat}(hm:E.m l k=some b∨E.g l k=some b)(blk:Ze)(hnb:E.g l k≠none→blk.isBuf=true)
  (os:w'.os=w.os) (tape:w'.tape=w.tape) (output:w'.output=w.output) (drawn:E.qd=true→w.drawn≤w'.drawn) (size:w'.heap.size=w.heap.size) (hold:∀b',b'≠b→w'.heap[b']? =w.heap[b']?)
  (hF:∀o,E.F b o=none) (hblk:Zen E w' l k blk):
  Zt m (H.upd l k blk) E w'∧Ext m E w E w':=by
 have hlm:l<m:=hm.elim (fun hm=>h.norm.Zak hm) (fun hm=>h.norm.ZtN hm);have hne:∀l' k' b',E.m l' k'=some b'∨E.g l' k'=some b'→ ¬(l'=l∧k'=k)→b'≠b:=fun l' k' b' hm' hc e=>by
  subst e;rcases hm' with hm'|hm'<;>rcases hm with hm|hm
  ·exact hc (h.inj _ _ _ _ _ hm' hm)
  ·exact h.mg _ _ _ _ _ hm' hm
  ·exact h.mg _ _ _ _ _ hm hm'
  ·exact hc (h.injg _ _ _ _ _ hm' hm)
 refine⟨{norm:=h.norm,F:=?_,blk:=?_,dom:=?_,nobuf:=?_,inj:=h.inj,injg:=h.injg,mg:=h.mg,mF:=h.mF,lt:=?_},⟨.refl m E,os,tape,output,drawn,om,fun b' _ ho=>?_,fun _ _ h=>h⟩⟩
 ·intro b' o v hf;have:b'≠b:=fun e=>by subst e;rw[hF o]at hf;cases hf
  have hc:=h.F b' o v hf;simp only[World.cell?,hold b' this]at hc⊢;exact hc
 ·intro l' k' bb hl' hH;by_cases hc:l'=l∧k'=k
  ·obtain⟨rfl,rfl⟩:=hc;rw[Za.upd_same,Qq]at hH;subst hH;exact hblk
  ·rw[Za.upd_ne H blk hc]at hH;exact(h.blk l' k' bb hl' hH).keep rfl rfl (fun _=>rfl) (fun _ _ _ h=>h) (fun r hr=>hold r (hne _ _ _ hr hc)) (fun _ _ _ h=>h) (fun _ _ _ h=>h)
 ·intro l' k' hl' hH;by_cases hc:l'=l∧k'=k
  ·obtain⟨rfl,rfl⟩:=hc;rw[Za.upd_same]at hH;cases hH
  ·rw[Za.upd_ne H blk hc]at hH;exact h.dom l' k' hl' hH
 ·intro l' k' hg;by_cases hc:l'=l∧k'=k
  ·obtain⟨rfl,rfl⟩:=hc;exact⟨blk,Za.upd_same _ _ _ _,hnb hg⟩
  ·rw[Za.upd_ne H blk hc];exact h.nobuf l' k' hg
 ·intro b' ho;rw[size];exact h.lt b' ho
 ·exact hold b' (fun e=>ho (by subst e;exact hm.elim (fun hm=>.inl ⟨l,k,hm⟩) (fun hm=>.inr ⟨l,k,hm⟩)))
theorem Zt.m_g(h:Zt m H E w){b:Nat}(hm:E.m l k=some b):E.g l k=none:=by
 cases hg:E.g l k with
 |none=>rfl
 |some g=>
  obtain⟨bb,hb,hi⟩:=h.nobuf l k (by rw[hg];simp);have:=h.blk l k bb (h.norm.Zak hm) hb;cases bb with
  |buf e sz fr=>rw[this.2]at hm;cases hm
  |Zg e sz cs n=>rw[this.2]at hm;cases hm
  |_=>cases hi
section ops
variable {P:Program} {T:TT} {o:Oper} {ρ:Operand→AV}
theorem Ji{t:TypeId}{r:Zv}{d:TypeDesc}{i:TypeInfo}{z:Value}(hf:VX P t r d i z){b off:Nat}{cs:List Value}{w:World}(hc:∀j u,cs[j]? =some u→w.cell? ⟨b,off+j,none⟩=some u)
  (hl:r.size≤cs.length) (h1:r.isAgg=false→0<cs.length):
  (loadVar t ⟨b,off,none⟩).run P w= .ok (if r.isAgg then .agg (cs.take r.size).toArray else cs.getD 0 undef) w:=by
 unfold loadVar;cases hag:r.isAgg with
 |true=>
  have:=run_loadCells_list (P:=P) w ⟨b,off,none⟩ (cs.take r.size) (fun j v hj=>by
   rw[ZI];exact hc j v (by
    rcases Qg j r.size with h|h
    ·rwa [QV h]at hj
    ·rw[UG,if_neg om]at hj;cases hj))
  rw[QI,QaI hl]at this;simp only[Sem.run_bind,JX hf,hag,Result.andThen_ok,if_true,ZF hf,this,Sem.run_pure]
 |false=>
  have h0:=h1 hag;have hx:cs[0]? =some cs[0]:=Qd h0;have:=hc 0 _ hx;simp only[UD]at this;simp[JX hf,hag,this,Qp,hx]
theorem Zci{E:Env}{cs:List AV}{vs:List Value}{r:Zv}(hv:VRs E cs vs)(h1:r.isAgg=false→0<cs.length):
  VR E (if r.isAgg then .agg (cs.take r.size)else cs.getD 0 .dead) (if r.isAgg then .agg (vs.take r.size).toArray else vs.getD 0 undef):=by
 cases hag:r.isAgg with
 |true=>
  have:=hv.take r.size;simp only[if_true];exact .agg _ _ this.1 this.2
 |false=>
  have h0:=h1 hag;simp only[QT,if_false];have h2:0<vs.length:=by rw[hv.1];exact h0
  have:=hv.2 0 h0 h2;simpa[Qp,Qd h0,Qd h2]using this
theorem ZdC{m:Nat}{H:Za}{t:TypeId}{x:Operand}{r:Zv}{cs:List AV}(hT:TOK P T)(ho:o.op= .load t x)(h1:T t=some r)(hv:ρ x= .iptr cs)(hl:r.size≤cs.length)(h0:r.isAgg=false→0<cs.length):
  Yq P m o ρ H (if r.isAgg then .agg (cs.take r.size)else cs.getD 0 .dead) H:=fun E w a hr hops=>by
 have hx:=hops x sO;rw[hv]at hx;obtain⟨d,i,z,hf⟩:=Zd (hT t r h1);have he:execOp a.eval o=(do let v←Instr.loadAt t (a.eval x);pure (Next.value v)):=by simp only[execOp,ho]
 generalize hy:a.eval x=y at hx;cases hx with|iptr _ b off c hc hcv=>
 have hvs:VRs E cs ((List.range cs.length).map c):=⟨sm,fun j h1 h2=>by simpa using hcv j h1⟩
 have hcell:∀j u,((List.range cs.length).map c)[j]? =some u→w.cell? ⟨b,off+j,none⟩=some u:=fun j u hj=>by
  rw[QZ]at hj;rcases Qg j cs.length with h|h
  ·rw[List.getElem?_range h]at hj;simp only[Us,Qq]at hj;subst hj;exact hr.F _ _ _ (hc j h)
  ·rw[Ut (by simpa using h)]at hj;cases hj
 have hrun:=Ji (P:=P) hf hcell (by simpa using hl) (by simpa using h0);refine⟨_,E,w,.inl ?_,Zci hvs h0,hr,.refl m E w⟩;rw[he,hy];simp only[Instr.loadAt,Instr.sureAddr,Sem.run_bind,Sem.run_pure,Result.andThen_ok,hrun]
theorem Zju{m:Nat}{H:Za}{t:TypeId}{x:Operand}{r:Zv}{l k off:Nat}{cs:List AV}(hT:TOK P T)(ho:o.op= .load t x)(h1:T t=some r)(hv:ρ x= .ptr l k off)(hH:H l k=some (.box cs))
  (hl:off+r.size≤cs.length) (h0:r.isAgg=false→off<cs.length):
  Yq P m o ρ H (if r.isAgg then .agg ((cs.drop off).take r.size)else(cs.drop off).getD 0 .dead) H:=fun E w a hr hops=>by
 have hx:=hops x sO;rw[hv]at hx;obtain⟨d,i,z,hf⟩:=Zd (hT t r h1);have he:execOp a.eval o=(do let v←Instr.loadAt t (a.eval x);pure (Next.value v)):=by simp only[execOp,ho]
 generalize hy:a.eval x=y at hx;cases hx with|ptr _ _ _ b hm=>
 obtain⟨b',hm',c,t',hcc,hvs⟩:=hr.box l k cs (hr.norm.Zak hm) hH;rw[hm]at hm';cases hm';have hcell:∀j u,(c.toList.drop off)[j]? =some u→w.cell? ⟨b,off+j,none⟩=some u:=fun j u hj=>by
  rw[UC]at hj;simp only[World.cell?,hcc];simpa using hj
 have hlen:=hvs.1;have hrun:=Ji (P:=P) hf hcell (by rw[QL];omega) (fun h=>by rw[QL];have:=h0 h;omega);refine⟨_,E,w,.inl ?_,Zci (hvs.drop off) (fun h=>by rw[QL];have:=h0 h;omega),hr,.refl m E w⟩;rw[he,hy];simp only[Instr.loadAt,Instr.sureAddr,Sem.run_bind,Sem.run_pure,Result.andThen_ok,hrun]
theorem ZjY{m:Nat}{H:Za}{t:TypeId}{x y:Operand}{r:Zv}{l k off:Nat}{cs:List AV}{v:AV}(hT:TOK P T)(ho:o.op= .store t x y)(h1:T t=some r)(hx:ρ x= .ptr l k off)(hy:ρ y=v)(hH:H l k=some (.box cs))
  (hvl:v.cells.length=r.size) (hone:∀c∈v.cells,c.one=true) (hl:off+r.size≤cs.length):
  Yq P m o ρ H (.tup []) (H.upd l k (.box (splice cs off v.cells))):=fun E w a hr hops=>by
 have hxv:=hops x sO;have hyv:=hops y sO;rw[hx]at hxv;rw[hy]at hyv;obtain⟨d,i,z,hf⟩:=Zd (hT t r h1);have he:execOp a.eval o=(do Instr.storeAt t (a.eval x) (a.eval y);pure .skip):=by simp only[execOp,ho]
 generalize hp:a.eval x=p at hxv;cases hxv with|ptr _ _ _ b hm=>
 obtain⟨b',hm',c,t',hcc,hvs⟩:=hr.box l k cs (hr.norm.Zak hm) hH;rw[hm]at hm';cases hm';have hcv:=hyv.cells hone;have hus:(a.eval y).cells.toList.length=r.size:=hcv.1.trans hvl;have hlen:=hvs.1;have hst:=run_storeCells_at P b off t' (a.eval y).cells.toList 0 c w hcc (by rw[hus];simp at hlen;omega) (fun u hu=>by
  obtain⟨j,hj,rfl⟩:=QJ hu;exact(hcv.2 j (by rw[←hcv.1];exact hj) hj).one (hone _ (Qa _)))
 simp only[UD]at hst;obtain⟨hh,hx'⟩:=hr.turn (w':=w.setRow b (c.toList.take off++(a.eval y).cells.toList++c.toList.drop (off+(a.eval y).cells.toList.length)).toArray) (.inl hm) (.box (splice cs off v.cells)) (fun hg=>absurd (hr.m_g hm) hg) rfl rfl rfl (fun _=>Qe _) (by simp[World.setRow])
  (fun b' hb'=>setRow_other w b b' _ hb') (fun o=>hr.mF _ _ _ o hm) ⟨b,hm,_,t',setRow_heap w b c _ t' (0,0) hcc,by
   unfold splice;rw[hus,hvl,Q7];exact(hvs.take off).append (hcv.append (hvs.drop _))⟩
 refine⟨undef,E,_,.inr ⟨?_,rfl⟩,VY E,hh,hx'⟩;rw[he,hp];simp only[Instr.storeAt,Instr.sureAddr,storeVar,Sem.run_bind,Sem.run_pure,Result.andThen_ok,ZF hf];rw[if_neg (by simp at hus;simp[hus])];simp only[hst,Result.andThen_ok]
theorem Zt.mrow{m:Nat}{H:Za}{E:Env}{w:World}(h:Zt m H E w){l k n g cap e sz:Nat}{cs:List AV}(hh:E.hist l k n=some (.slice (some ⟨g,0,none⟩) n cap))(hH:H l k=some (.Zg e sz cs n))(hn:0<n):
  ∃cur,E.g l k=some g∧w.heap[g]? =some (.cells cur e (0,0))∧n≤cap∧cap≤maxLen∧cur.size=cap*sz∧(∀o,E.F g o=none)∧VRs E cs (cur.toList.take (n*sz))∧cs.length=n*sz:=by
 obtain⟨⟨h0,v,h1,h2,h3⟩,_⟩:=h.Zg l k e sz cs n (h.norm.Xr hh) hH;rw[hh]at h1;cases h1;rcases h3 with⟨a,q1,q2,_⟩|⟨g',cap',cur,q1,q2,q3,q4,q5,q6,q7,q8⟩
 ·omega
 ·cases q1;exact⟨cur,q2,q3,q4,q5,q6,q7,q8,h0⟩
theorem ZiG{m:Nat}{H:Za}{t:TypeId}{x:Operand}{r:Zv}{l k n off e sz:Nat}{cs:List AV}(hT:TOK P T)(ho:o.op= .load t x)(h1:T t=some r)(hv:ρ x= .eptr l k n off)(hH:H l k=some (.Zg e sz cs n))(hn:0<n)
  (hl:off+r.size≤cs.length) (h0:r.isAgg=false→off<cs.length):
  Yq P m o ρ H (if r.isAgg then .agg ((cs.drop off).take r.size)else(cs.drop off).getD 0 .dead) H:=fun E w a hr hops=>by
 have hx:=hops x sO;rw[hv]at hx;obtain⟨d,i,z,hf⟩:=Zd (hT t r h1);have he:execOp a.eval o=(do let v←Instr.loadAt t (a.eval x);pure (Next.value v)):=by simp only[execOp,ho]
 generalize hy:a.eval x=y at hx;cases hx with|eptr _ _ _ _ g cap hh=>
 obtain⟨cur,q1,q2,q3,q4,q5,q6,q7,q8⟩:=hr.mrow hh hH hn;have hcell:∀j u,((cur.toList.take (n*sz)).drop off)[j]? =some u→w.cell? ⟨g,off+j,none⟩=some u:=fun j u hj=>by
  rw[UC]at hj;simp only[World.cell?,q2];rcases Qg (off+j) (n*sz)with h|h
  ·rw[QV h]at hj;simpa using hj
  ·rw[UG,if_neg om]at hj;cases hj
 have hlen:=q7.1;have hrun:=Ji (P:=P) hf hcell (by rw[QL];omega) (fun h=>by rw[QL];have:=h0 h;omega);refine⟨_,E,w,.inl ?_,Zci (q7.drop off) (fun h=>by rw[QL];have:=h0 h;omega),hr,.refl m E w⟩;rw[he,hy];simp only[Instr.loadAt,Instr.sureAddr,Sem.run_bind,Sem.run_pure,Result.andThen_ok,hrun]
theorem Zcv{m:Nat}{H:Za}{t:TypeId}{x y:Operand}{r:Zv}{l k n off e sz:Nat}{cs:List AV}{v:AV}(hT:TOK P T)(ho:o.op= .store t x y)(h1:T t=some r)(hx:ρ x= .eptr l k n off)(hy:ρ y=v)(hH:H l k=some (.Zg e sz cs n))(hn:0<n)
  (hvl:v.cells.length=r.size) (hone:∀c∈v.cells,c.one=true) (hl:off+r.size≤cs.length):
  Yq P m o ρ H (.tup []) (H.upd l k (.Zg e sz (splice cs off v.cells) n)):=fun E w a hr hops=>by
 have hxv:=hops x sO;have hyv:=hops y sO;rw[hx]at hxv;rw[hy]at hyv;obtain⟨d,i,z,hf⟩:=Zd (hT t r h1);have he:execOp a.eval o=(do Instr.storeAt t (a.eval x) (a.eval y);pure .skip):=by simp only[execOp,ho]
 generalize hp:a.eval x=p at hxv;cases hxv with|eptr _ _ _ _ g cap hh=>
 obtain⟨c,q1,q2,q3,q4,q5,q6,q7,q8⟩:=hr.mrow hh hH hn;have hcv:=hyv.cells hone;have hus:(a.eval y).cells.toList.length=r.size:=hcv.1.trans hvl;have hlen:=q7.1;have hle:n*sz≤cap*sz:=QD _ q3;have hst:=run_storeCells_at P g off e (a.eval y).cells.toList 0 c w q2 (by rw[hus];omega) (fun u hu=>by
  obtain⟨j,hj,rfl⟩:=QJ hu;exact(hcv.2 j (by rw[←hcv.1];exact hj) hj).one (hone _ (Qa _)))
 simp only[UD]at hst;have hsl:(splice cs off v.cells).length=cs.length:=by simp only[splice,Qh,QI,QL];omega
 obtain⟨⟨_,v0,hv0,hj0,_⟩,hm0⟩:=hr.Zg l k e sz cs n (hr.norm.Xr hh) hH;rw[hh]at hv0;cases hv0;obtain⟨hh2,hx'⟩:=hr.turn (w':=w.setRow g (c.toList.take off++(a.eval y).cells.toList++c.toList.drop (off+(a.eval y).cells.toList.length)).toArray) (.inr q1) (.Zg e sz (splice cs off v.cells) n) (fun _=>rfl) rfl rfl rfl (fun _=>Qe _) (by simp[World.setRow])
  (fun b' hb'=>setRow_other w g b' _ hb') q6 ⟨⟨by rw[hsl,q8],_,hh,hj0,.inr ⟨g,cap,_,rfl,q1,setRow_heap w g c _ e (0,0) q2,q3,q4,by simp only[U7,Qh,QI,QL,Uf]at hus hlen hle⊢;omega,q6,by
   have e1:((c.toList.take off++(a.eval y).cells.toList++c.toList.drop (off+(a.eval y).cells.toList.length)).toArray.toList).take (n*sz)=
     (c.toList.take (n*sz)).take off++((a.eval y).cells.toList++(c.toList.take (n*sz)).drop (off+r.size)):=by
    rw[U2,hus,Q7,Qag,Qag,Qax,Qax,QaT];have h1:min off (n*sz)=off:=by omega
    have h2:min (n*sz) off=off:=by omega
    have h3:(c.toList.take off).length=off:=by rw[QI];simp;omega
    rw[h1,h2,h3,hus,Q5 (l:=(a.eval y).cells.toList) om,show n*sz - off - r.size=n*sz - (off+r.size) by omega]
   rw[e1];unfold splice;rw[hvl];exact(q7.take off).append (hcv.append (q7.drop _))⟩⟩,hm0⟩
 refine⟨undef,E,_,.inr ⟨?_,rfl⟩,VY E,hh2,hx'⟩;rw[he,hp];simp only[Instr.storeAt,Instr.sureAddr,storeVar,Sem.run_bind,Sem.run_pure,Result.andThen_ok,ZF hf];rw[if_neg (by simp at hus;simp[hus])];simp only[hst,Result.andThen_ok]
theorem ZgN{t:TypeId}{v:Value}{w:World}:(newVar t v).run P w= .ok ⟨w.heap.size,0,none⟩ (w.alloc (.cells v.cells t)):=by
 simp[newVar,newRow,newObj,Sem.run]
theorem Zp8{m:Nat}{H:Za}{E:Env}{w:World}(h:Zt m H E w){l k:Nat}(hl:l<m)(hfree:H l k=none){cs:List AV}{v:Value}(hv:VRs E cs v.cells.toList)(t:TypeId):
  Zt m (H.upd l k (.box cs)) (E.XZ l k w.heap.size) (w.alloc (.cells v.cells t))∧Ext m E w (E.XZ l k w.heap.size) (w.alloc (.cells v.cells t)):=by
 have hle:E.le m (E.XZ l k w.heap.size):=by
  obtain⟨d1,_,_⟩:=h.dom l k hl hfree;exact⟨fun _ _ _ h=>h,fun l' k' b _ hm=>by
   simp only[Env.XZ];rw[if_neg (fun hc=>by rw[hc.1,hc.2,d1]at hm;cases hm)];exact hm,fun _ _ _ _ _ h=>h,rfl⟩
 exact h.Zdi hl hfree _ (.box cs) ⟨w.heap.size,by simp[Env.XZ],v.cells,t,heap_alloc_new w _,hv.mono h.norm hle⟩
theorem Zr3{m:Nat}{H:Za}{t:TypeId}{x:Operand}{l k:Nat}{v:AV}(ho:o.op= .box t x)(hx:ρ x=v)(hone:∀c∈v.cells,c.one=true)(hl:l<m)(hfree:H l k=none):
  Yq P m o ρ H (.ptr l k 0) (H.upd l k (.box v.cells)):=fun E w a hr hops=>by
 have hxv:=hops x sO;rw[hx]at hxv;have he:execOp a.eval o=(do let v←Instr.box t (a.eval x);pure (Next.value v)):=by simp only[execOp,ho]
 obtain⟨hh,hxx⟩:=Zp8 hr hl hfree (hxv.cells hone) t;refine⟨.pointer (some ⟨w.heap.size,0,none⟩),_,_,.inl ?_,.ptr l k 0 _ (by simp[Env.XZ]),hh,hxx⟩;rw[he];simp only[Instr.box,Sem.run_bind,ZgN,Sem.run_pure,Result.andThen_ok]
theorem Zp9{m:Nat}{H:Za}{t:TypeId}{l k:Nat}{r:Zv}(hT:TOK P T)(ho:o.op= .alloc t)(h1:T t=some r)(hl:l<m)(hfree:H l k=none):
  Yq P m o ρ H (.ptr l k 0) (H.upd l k (.box r.zero)):=fun E w a hr hops=>by
 obtain⟨d,i,z,hf⟩:=Zd (hT t r h1);have he:execOp a.eval o=(do let v←Instr.alloc t true (.tuple #[]);pure (Next.value v)):=by simp only[execOp,ho]
 obtain⟨hh,hxx⟩:=Zp8 hr hl hfree (Xt hf.zfits) t;refine⟨.pointer (some ⟨w.heap.size,0,none⟩),_,_,.inl ?_,.ptr l k 0 _ (by simp[Env.XZ]),hh,hxx⟩;rw[he];simp only[Instr.alloc,Sem.run_bind,Yk hf,ZgN,Sem.run_pure,Result.andThen_ok]
end ops
end
structure Fun (P:Program) (f:FuncId) (fn:Func) (c:Code):Prop where
 get:P.funcs[f]? =some fn
 body:fn.body=some c
 name : (fn.name == "runtime.NumGoroutine") = false
section
variable {c:Code} {fn:Func} {f:FuncId} {P:Program}
theorem Y4(h:Fun P f fn c)(args:Array Value)(w:World):(callFunc f args).run P w= .ok (.enter f args) w:=by
 have hn:=h.name;simp only[beq_eq_false_iff_ne,ne_eq]at hn;simp[callFunc,program,Sem.run,h.get,h.body,hn]
variable {w:World} {n:Nat} {ro:Option Nat}
theorem JA{args:Array Value}{R:Ending→World→Prop}(h:Calls P f args w R):CallsIn (fr ro) n P f args w R:=
 (callsIn_wide (n:=n)).2 h
theorem JI{p:Prop}:(fr ro).depth.isSome=true→p:=fun h=>by cases h
theorem ZdD{m:Nat}{o:Oper}{ρ:Operand→AV}{H H':Za}{g:Operand}{caps:List AV}{args:Array Operand}{ts:Array TypeId}{r:AV}(hf:Fun P f fn c)
  (ho:o.op= .call {callee:=.value g,args:=args,argTypes:=ts}) (hg:ρ g= .fn (.func f) caps) (az:List AV) (has:∀E (a:Act),(∀x∈args,VR E (ρ x) (a.eval x))→VRs E az (args.toList.map a.eval))
  (hc:Zi P m f (az++caps) H (fun r' H1=>r'=r∧H1=H')):XE P m o ρ H r H':=fun E w a Q K hr hops hk ro=>by
 have hgv:=hops g (by rw[ho];simp[Op.operands,Call.operands]);rw[hg]at hgv;have he:execOp a.eval o=(do let d←resolve a.eval {callee:=.value g,args:=args,argTypes:=ts} o.type;invoke d.target d.args):=by simp only[execOp,ho]
 generalize hy:a.eval g=y at hgv;cases hgv with|fn _ _ vs hl hvs=>
 have hrun:(execOp a.eval o).run P w= .ok (.enter f (args.map a.eval++vs.toArray)) w:=by
  rw[he];simp[resolve,hy,Deferred.ofValue,invoke,Y4 hf]
 refine Y9 hrun (fun _ e=>by cases e) ⟨JI,JA ?_⟩;have h1:=hc E w (args.toList.map a.eval++vs) hr ((has E a (fun x hx=>hops x (by rw[ho];simp[Op.operands,Call.operands,hx]))).append ⟨hl,hvs⟩);rw[show(args.toList.map a.eval++vs).toArray=args.map a.eval++vs.toArray by rw[←List.append_toArray,←Array.toList_map]]at h1;refine h1.mono ?_;rintro e w' ⟨r',v,H1,E',rfl,⟨rfl,rfl⟩,hv,hh,hx⟩;exact hk E' w' v hv hh hx
def VD(P:Program)(m:Nat)(l:Nat)(args:List AV)(H:Za)(Q:AV→Za→Prop):Prop:=
 ∀E w vs,Zt m H E w→VRs E args vs→ ∃fn tmps ca cb,(Instr.yield l vs.toArray).run P w= .ok (.round l fn tmps ca cb) w∧
  ∀ro n,RoundIn (fr ro) n P l fn tmps ca cb w fun e w'=>∃r v H' E',e= .returned v∧Q r H'∧VR E' r v∧Zt m H' E' w'∧Ext m E w E' w'
theorem VD.mono{P:Program}{m l:Nat}{args:List AV}{H:Za}{Q Q':AV→Za→Prop}(h:VD P m l args H Q)(hq:∀r H',Q r H'→Q' r H'):VD P m l args H Q':=fun E w vs hr hv=>by
 obtain⟨fn,tmps,ca,cb,h1,h2⟩:=h E w vs hr hv;exact⟨fn,tmps,ca,cb,h1,fun ro n=>(h2 ro n).mono fun e w' ⟨r,v,H',E',he,hQ,rest⟩=>⟨r,v,H',E',he,hq _ _ hQ,rest⟩⟩
inductive WkS:AV→AV→Prop
 |refl (v:AV):WkS v v
 |nil (k k':Nat) (o:Own):WkS (.sl k [] o) (.sl k' [] .any)
 |sl (k:Nat) (xs ys:List AV) (o:Own) (hl:ys.length=xs.length) (h:∀i (h:i<xs.length) (h':i<ys.length),WkS xs[i] ys[i]):WkS (.sl k xs o) (.sl k ys .any)
 |agg (az bs:List AV) (hl:bs.length=az.length) (h:∀i (h:i<az.length) (h':i<bs.length),WkS az[i] bs[i]):WkS (.agg az) (.agg bs)
 |ssl (k:Nat) (xs zs ys:List AV) (hl:ys.length=xs.length) (h:∀i (h:i<xs.length) (h':i<ys.length),WkS xs[i] ys[i]):WkS (.ssl k xs zs) (.sl k ys .any)
 |sem (a b:AV) (ha:a.cells=[a]) (hb:b.cells=[b]) (h:∀E v,VR E a v→VR E b v):WkS a b
def ZdV:List AV→List AV→Prop
 |[],[]=>True
 |a::az,b::bs=>WkS a b∧ZdV az bs
 |_,_=>False
theorem ZdV.len:∀{az bs:List AV},ZdV az bs→bs.length=az.length
 |[],[],_=>rfl
 |a::az,b::bs,h=>by rw[Qo,Qo,ZdV.len h.2]
 |[],_::_,h=>h.elim
 |_::_,[],h=>h.elim
theorem ZdV.get:∀{az bs:List AV},ZdV az bs→ ∀i (h:i<az.length) (h':i<bs.length),WkS az[i] bs[i]
 |a::az,b::bs,h,0,_,_=>h.1
 |a::az,b::bs,h,i+1,h1,h2=>by
  simp only[UW];exact ZdV.get h.2 i (by simpa using h1) (by simpa using h2)
variable {az bs:List AV}
theorem WkS.Zei(h:ZdV az bs):WkS (.agg az) (.agg bs):=.agg az bs h.len h.get
theorem WkS.slL{k:Nat}{o:Own}(h:ZdV az bs):WkS (.sl k az o) (.sl k bs .any):=.sl k az bs o h.len h.get
variable {E:Env}
theorem WkS.both{a b:AV}(h:WkS a b):(∀v,VR E a v→VR E b v)∧a.cells.length=b.cells.length∧ ∀j (h:j<a.cells.length) (h':j<b.cells.length) v,VR E a.cells[j] v→VR E b.cells[j] v:=by
 induction h with
 |refl v=>exact⟨fun _ h=>h,rfl,fun _ _ _ _ h=>h⟩
 |nil k k' o=>
  have h1:∀v,VR E (.sl k [] o) v→VR E (.sl k' [] .any) v:=fun v hv=>(ZaU hv).any
  refine⟨h1,rfl,fun j h h' v hv=>?_⟩;cases j with
  |zero=>exact h1 v hv
  |succ j=>simp[AV.cells]at h
 |sl k xs ys o hl h ih=>
  have h1:∀v,VR E (.sl k xs o) v→VR E (.sl k ys .any) v:=by
   intro v hv;cases hv with
   |slnil _ _ a ho ha=>
    have:ys=[]:=Uc hl;subst this;exact .slnil k .any a trivial (fun h=>absurd rfl h)
   |sl _ _ _ b off cap c hk hc hv hcap hm ho=>
    rw[←hl];refine .sl k ys .any b off cap c (fun i hi=>?_) (fun i j hi hj=>hc i j om hj) (fun i hi j hj=>?_) om om trivial
    ·rw[←(ih i om hi).2.1];exact hk i om
    ·have hi':i<xs.length:=by omega
     have:=(ih i hi' hi).2;exact this.2 j (by rw[this.1];exact hj) hj _ (hv i hi' j (by rw[this.1];exact hj))
  refine⟨h1,rfl,fun j h h' v hv=>?_⟩;cases j with
  |zero=>exact h1 v hv
  |succ j=>simp[AV.cells]at h
 |agg az bs hl h ih=>
  refine⟨fun v hv=>?_,hl.symm,fun j h h' v hv=>(ih j h h').1 v hv⟩;cases hv with
  |agg _ vs hvl hv=>exact .agg bs vs (hvl.trans hl.symm) fun i hi hi'=>(ih i om hi).1 _ (hv i om hi')
 |ssl k xs zs ys hl h ih=>
  have h1:∀v,VR E (.ssl k xs zs) v→VR E (.sl k ys .any) v:=by
   intro v hv;cases hv with
   |ssl _ _ _ b off cap c hk hc hv hcap hm=>
    have hla:xs.length≤(xs++zs).length:=by simp
    have hg:∀i (hi:i<xs.length),(xs++zs)[i]'om=xs[i]:=fun i hi=>MG hi
    rw[←hl];refine .sl k ys .any b off cap c (fun i hi=>?_) (fun i j hi hj=>hc i j om hj) (fun i hi j hj=>?_) om om trivial
    ·rw[←(ih i om hi).2.1,←hg i om];exact hk i om
    ·have hi':i<xs.length:=by omega
     have:=(ih i hi' hi).2;have hx:=hv i om;simp only[hg i hi']at hx;exact this.2 j (by rw[this.1];exact hj) hj _ (hx j (by rw[this.1];exact hj))
  refine⟨h1,rfl,fun j h h' v hv=>?_⟩;cases j with
  |zero=>exact h1 v hv
  |succ j=>simp[AV.cells]at h
 |sem a b ha hb h=>
  refine⟨h E,by rw[ha,hb];rfl,fun j h1 h2 v hv=>?_⟩;simp only[ha,hb]at hv h1 h2⊢;cases j with
  |zero=>exact h E v hv
  |succ j=>simp at h1
inductive Wk:AV→AV→Prop
 |refl (v:AV):Wk v v
 |any (k:Nat) (xs:List AV) (o:Own):Wk (.sl k xs o) (.sl k xs .any)
 |nil (k k':Nat) (o:Own):Wk (.sl k [] o) (.sl k' [] .any)
 |dead (v:AV):Wk v .dead
 |deep {a b:AV} (h:WkS a b):Wk a b
 |sem {a b:AV} (h:∀E v,VR E a v→VR E b v):Wk a b
theorem Wk.vr{a b:AV}{v:Value}(h:Wk a b)(hv:VR E a v):VR E b v:=by
 cases h with
 |refl=>exact hv
 |any=>exact hv.any
 |nil=>exact(ZaU hv).any
 |dead=>exact .dead v
 |deep h=>exact h.both.1 v hv
 |sem h=>exact h E v hv
def Wks:List AV→List AV→Prop
 |[],[]=>True
 |a::az,b::bs=>Wk a b∧Wks az bs
 |_,_=>False
def ZdT(tm:List (Nat×AV))(H:Za)(n:Nat)(L:List (Nat×Ze))(T:TT):ResultVar→AV
 | .tmp t=>lkv tm t
 | .cell t ty=>match lkv tm t with
  | .ptr l k off=>match full n L H l k,T ty with
   |some (.box cs),some r=>if off+r.size≤cs.length∧(r.isAgg=false→off<cs.length)then(if r.isAgg then .agg ((cs.drop off).take r.size)else(cs.drop off).getD 0 .dead)else .dead
   |_,_=>.dead
  |_=>.dead
def XW(tm:List (Nat×AV))(H:Za)(n:Nat)(L:List (Nat×Ze))(T:TT):ResultVar→Prop
 | .tmp _=>True
 | .cell t ty=>∃l k off cs r,lkv tm t= .ptr l k off∧full n L H l k=some (.box cs)∧T ty=some r∧off+r.size≤cs.length∧(r.isAgg=false→off<cs.length)
def tupR:List AV→AV
 |[v]=>v
 |vs=>.tup vs
def Zh1(tmps:Array Value):ResultVar→Sem Value
 | .tmp t=>pure (tmps.getD t undef)
 | .cell x t=>do loadVar t (←asAddr (tmps.getD x undef))
theorem ZcR(fn:Func)(tmps:Array Value):results fn tmps=(do
  let vs←fn.results.mapM (Zh1 tmps)
  pure (if h:vs.size=1 then vs[0]else .tuple vs)):=by
 unfold results;congr 1
theorem ZbU{P:Program}{T:TT}(hT:TOK P T){B:Base}{n N:Nat}{s:Zb}{E:Env}{a:Act}{w:World}(hs:Yn B n N s E a w):∀(l:List ResultVar),(∀x∈l,XW s.tmps s.H n s.L T x)→
  ∃vs:List Value,(l.mapM (m:=Sem) (Zh1 a.tmps)).run P w= .ok vs w∧VRs E (l.map (ZdT s.tmps s.H n s.L T)) vs
 |[],_=>⟨[],rfl,VRs.nil E⟩
 |x::l,h=>by
  obtain⟨vs,h1,h2⟩:=ZbU hT hs l (fun y hy=>h y (Qx _ hy));have hx:=h x sm;cases x with
  |tmp t=>
   refine⟨a.tmps.getD t undef::vs,?_,VRs.cons (hs.tmps t) h2⟩;rw[Qbo];simp only[Zh1,Sem.run_bind,Sem.run_pure,Result.andThen_ok,h1]
  |cell t ty=>
   obtain⟨l1,k,off,cs,r,e1,e2,e3,e4,e5⟩:=hx;obtain⟨d,i,z,hf⟩:=Zd (hT ty r e3);have hp:=hs.tmps t;rw[e1]at hp;generalize hy:a.tmps.getD t undef=y at hp;cases hp with|ptr _ _ _ b hm=>
   obtain⟨b',hm',c,t',hcc,hvs⟩:=hs.heap.box l1 k cs (hs.heap.norm.Zak hm) e2;rw[hm]at hm';cases hm';have hcell:∀j u,(c.toList.drop off)[j]? =some u→w.cell? ⟨b,off+j,none⟩=some u:=fun j u hj=>by
    rw[UC]at hj;simp only[World.cell?,hcc];simpa using hj
   have hlen:=hvs.1;have hrun:=Ji (P:=P) hf hcell (by rw[QL];omega) (fun h=>by rw[QL];have:=e5 h;omega);have hvr:=Zci (r:=r) (hvs.drop off) (fun h=>by rw[QL];have:=e5 h;omega);refine⟨_::vs,?_,VRs.cons (v:=if r.isAgg then .agg ((c.toList.drop off).take r.size).toArray else(c.toList.drop off).getD 0 undef) ?_ h2⟩
   ·rw[Qbo];have hasa:(asAddr (Value.pointer (some ⟨b,off,none⟩))).run P w= .ok ⟨b,off,none⟩ w:=rfl;simp only[Zh1,Sem.run_bind,hy,hasa,Sem.run_pure,Result.andThen_ok,hrun,h1]
   ·have:ZdT s.tmps s.H n s.L T (.cell t ty)=if r.isAgg then .agg ((cs.drop off).take r.size)else(cs.drop off).getD 0 .dead:=by
     simp only[ZdT,e1,e2,e3];rw[if_pos ⟨e4,e5⟩]
    rw[this];exact hvr
def PostF(P:Program)(T:TT)(n:Nat)(rs:List ResultVar)(Q:AV→Za→Prop):Exit→Zb→Prop
 | .normal,s| .ret,s=>(∀x∈rs,XW s.tmps s.H n s.L T x)∧ ∃r,Wks (rs.map (ZdT s.tmps s.H n s.L T)) r∧(∀v∈r,Below n v)∧Q (tupR r) s.H
 |_,_=>False
def numbered:Nat→List AV→List (Nat×AV)
 |_,[]=>[]
 |i,v::r=>(i,v)::numbered (i+1) r
theorem lkv_numbered:∀(az:List AV) (i t:Nat),lkv (numbered i az) t=if i≤t then az.getD (t - i) .dead else .dead
 |[],i,t=>by simp[numbered,lkv]
 |v::r,i,t=>by
  simp only[numbered,lkv];rw[lkv_numbered r (i+1) t];by_cases h1:i=t
  ·subst h1;simp
  ·by_cases h2:i≤t
   ·rw[if_neg h1,if_pos om,if_pos h2,show t - i=(t - (i+1))+1 by omega,QaK]
   ·rw[if_neg h1,if_neg om,if_neg h2]
theorem forall₂_vr{E:Env}:∀{az rs:List AV} {vs:List Value},Wks az rs→VRs E az vs→VRs E rs vs
 |[],[],_,_,h=>h
 |_::_,_::_,_,⟨h1,h2⟩,h=>by
  obtain⟨v,r,rfl,hv,hr⟩:=h.YR;exact VRs.cons (h1.vr hv) (forall₂_vr h2 hr)
theorem Zt.leave{B:Base}{N:Nat}{s:Zb}{a:Act}(hs:Yn B n N s E a w):Zt n s.H (E.cut n) w:=by
 have h:=hs.heap;have hfull:∀l k,l<n→full n s.L s.H l k=s.H l k:=fun l k hl=>by simp only[full];rw[if_neg om]
 have hcm:∀l k b,(E.cut n).m l k=some b→l<n∧E.m l k=some b:=fun l k b hm=>by
  simp only[Env.cut]at hm;split at hm
  ·exact⟨‹_›,hm⟩
  ·cases hm
 have hcg:∀l k b,(E.cut n).g l k=some b→l<n∧E.g l k=some b:=fun l k b hm=>by
  simp only[Env.cut]at hm;split at hm
  ·exact⟨‹_›,hm⟩
  ·cases hm
 refine{norm:=Env.Zgp n E,F:=h.F,blk:=?_,dom:=?_,nobuf:=?_,inj:=?_,injg:=?_,mg:=?_,mF:=?_,lt:=?_}
 ·intro l k b hl hH;have hb:=hs.out l k _ hl hH;refine(h.blk l k b om (by rw[hfull l k hl];exact hH)).keep (by simp only[Env.cut,if_pos hl]) (by simp only[Env.cut,if_pos hl]) (fun j=>by simp only[Env.cut,if_pos hl]) (fun p hp r hr=>?_) (fun _ _=>rfl) (fun _ _ _ h=>h) (fun a ha v hv=>hv.cut (hb.1 a ha));simp only[Env.cut,if_pos (hb.2 p hp)];exact hr
 ·intro l k hl hH;obtain⟨d1,d2,d3⟩:=h.dom l k om (by rw[hfull l k hl];exact hH);simp only[Env.cut,if_pos hl];exact⟨d1,d2,d3⟩
 ·intro l k hg;cases hx:(E.cut n).g l k with
  |none=>exact absurd hx hg
  |some b=>
   obtain⟨hl,hg'⟩:=hcg l k b hx;rw[←hfull l k hl];exact h.nobuf l k (by rw[hg'];simp)
 ·intro l k l' k' b h1 h2;exact h.inj _ _ _ _ _ (hcm _ _ _ h1).2 (hcm _ _ _ h2).2
 ·intro l k l' k' b h1 h2;exact h.injg _ _ _ _ _ (hcg _ _ _ h1).2 (hcg _ _ _ h2).2
 ·intro l k l' k' b h1 h2;exact h.mg _ _ _ _ _ (hcm _ _ _ h1).2 (hcg _ _ _ h2).2
 ·intro l k b o h1;exact h.mF _ _ _ _ (hcm _ _ _ h1).2
 ·intro b hb;rcases hb with⟨l,k,hm⟩|⟨l,k,hg⟩
  ·exact h.lt b (.inl ⟨l,k,(hcm _ _ _ hm).2⟩)
  ·exact h.lt b (.inr ⟨l,k,(hcg _ _ _ hg).2⟩)
variable {H:Za}
theorem Zt.enter(hr:Zt n H E w):Zt (n+1) (full n [] H) E w:=by
 have hc:Zt n (full n [] H) E w:=hr.congr (fun l k hl=>by simp only[full];rw[if_neg om]);refine{norm:=hr.norm.mono om,F:=hr.F,blk:=?_,dom:=?_,nobuf:=hc.nobuf,inj:=hr.inj,injg:=hr.injg,mg:=hr.mg,mF:=hr.mF,lt:=hr.lt}
 ·intro l k b hl hH;rcases Qg l n with h'|h'
  ·exact hc.blk l k b h' hH
  ·have:l=n:=by omega
   subst this;simp[full,lkb]at hH
 ·intro l k hl hH;rcases Qg l n with h'|h'
  ·exact hc.dom l k h' hH
  ·exact⟨hr.norm.m l k h',hr.norm.g l k h',fun j=>hr.norm.hist l k j h'⟩
theorem Zt.putObj{n:Nat}{H:Za}{E:Env}{w:World}(h:Zt n H E w){D:Nat}{x y:Obj}(hD:w.heap[D]? =some x)(hx:∀c t r,x≠ .cells c t r)(ho:¬E.own D):Zt n H E (w.putObj D y):=by
 have hF:∀o v,E.F D o=some v→False:=fun o v hv=>by
  have:=h.F D o v hv;simp only[World.cell?,hD]at this;split at this
  ·rename_i e;cases e;exact hx _ _ _ rfl
  ·cases this
 refine{norm:=h.norm,F:=fun b o v hv=>?_,blk:=fun l k b hl hb=>?_,dom:=h.dom,nobuf:=h.nobuf,inj:=h.inj,injg:=h.injg,mg:=h.mg,mF:=h.mF,lt:=fun b hb=>by rw[World.putObj_size];exact h.lt b hb}
 ·have hne:b≠D:=fun e=>hF o v (e▸hv)
  have:=h.F b o v hv;simp only[World.cell?,World.putObj_heap_other hne]at this⊢;exact this
 ·exact(h.blk l k b hl hb).keep rfl rfl (fun _=>rfl) (fun _ _ _ h=>h) (fun r hr=>World.putObj_heap_other (fun e=>ho (e▸hr.elim (fun h=>.inl ⟨_,_,h⟩) (fun h=>.inr ⟨_,_,h⟩)))) (fun _ _ _ h=>h) (fun _ _ _ h=>h)
theorem ZaP{P:Program}{fn:Func}{tmps:Array Value}{R:Ending→World→Prop}{m:Nat}{H:Za}{E:Env}:∀(l:List Nat) (w:World),l.Nodup→(∀D∈l,w.heap[D]? =some (.deferred (some []))∧ ¬E.own D)→Zt m H E w→
  (∀w2,Zt m H E w2→(∀b,b∉l→w2.heap[b]? =w.heap[b]?)→w2.os=w.os→w2.tape=w.tape→w2.output=w.output→w2.drawn=w.drawn→w2.heap.size=w.heap.size→ ∃v,(results fn tmps).run P w2= .ok v w2∧R (.returned v) w2)→
  LeavesInM Fence.wide 0 P fn tmps R (l.map mark) .returning w
 |[],w,_,_,hr,hk=>hk w hr (fun _ _=>rfl) rfl rfl rfl rfl rfl
 |D::l,w,hn,hD,hr,hk=>by
  obtain⟨h1,h2⟩:=hD D sm;obtain⟨n1,n2⟩:=Gm.1 hn;refine⟨sm,.inl ⟨D,_,rfl,run_takeDeferred h1,?_⟩⟩;refine ZaP l _ n2 (fun D' hD'=>?_) (hr.putObj h1 (fun _ _ _ e=>by cases e) h2) (fun w2 q1 q2 q3 q4 q5 q6 q7=>?_)
  ·obtain⟨a1,a2⟩:=hD D' (Qx _ hD');exact⟨(World.putObj_heap_other (show D'≠D from fun e=>n1 (e▸hD'))).trans a1,a2⟩
  ·refine hk w2 q1 (fun b hb=>?_) q3 q4 q5 q6 (by rw[q7,World.putObj_size]);simp only[Qk,not_or]at hb;rw[q2 b hb.2,World.putObj_heap_other hb.1]
theorem Znc{T:TT}{args:List AV}{Q:AV→Za→Prop}(hT:TOK P T)(hf:Fun P f fn c)(hN:args.length≤fn.ntmps)
  (h:∀B,AK P ⟨none,B⟩ n fn.ntmps [.code c] (PostF P T n fn.results.toList Q) ⟨numbered 0 args,[],H⟩):Zi P n f args H Q:=fun E w vs hr hv=>by
 refine(callsIn_wide (n:=0)).1 (callsIn_of_wp_marks hf.get hf.body trivial ?_);have hlen:vs.length=args.length:=hv.1;have hs:Yn ⟨w.heap.size,[]⟩ n fn.ntmps ⟨numbered 0 args,[],H⟩ E {tmps:=vs.toArray++Array.replicate (fn.ntmps - vs.toArray.size) undef,defers:=[]} w:=by
  refine⟨by simp;omega,.nil _ (Qe _),fun t=>?_,?_,fun l k b hl hb=>hr.out hl hb⟩
  ·rw[lkv_numbered];simp only[Un,if_true,MI];by_cases ht:t<args.length
   ·have h1:=hv.2 t ht om;have e1:args.getD t .dead=args[t]:=by simp[Qp,Qd ht]
    have e2:(vs.toArray++Array.replicate (fn.ntmps - vs.toArray.size) undef).getD t undef=vs[t]'om:=by
     rw[Ua,MR (by simp;omega)];simp[Qd (show t<vs.length by omega)]
    rw[e1,e2];exact h1
   ·have e1:args.getD t .dead= .dead:=by simp[Qp,Ut (by omega:args.length≤t)]
    rw[e1];exact .dead _
  ·exact hr.enter
 refine wpIn_mono (h ⟨w.heap.size,[]⟩ E w _ hs) ?_;rintro e a' w' ⟨s',E',hQ,hs',hx⟩;have fin:(∀x∈fn.results.toList,XW s'.tmps s'.H n s'.L T x)∧(∃r,Wks (fn.results.toList.map (ZdT s'.tmps s'.H n s'.L T)) r∧(∀v∈r,Below n v)∧Q (tupR r) s'.H)→
   LeavesInM Fence.wide 0 P fn a'.tmps (fun e w2=>∃r v' H' E',e= .returned v'∧Q r H'∧VR E' r v'∧Zt n H' E' w2∧Ext n E w E' w2) a'.defers .returning w':=by
  rintro⟨hok,r,hw,hb,hq⟩;obtain⟨hl0,l,hl1,hl2,hl3⟩:=hs'.defs;rw[hl1,Qu];refine ZaP l w' hl2 (fun D hD=>(hl3 D hD).2) hs'.heap (fun w2 k1 k2 k3 k4 k5 k6 k7=>?_);have hs2:Yn ⟨w.heap.size,[]⟩ n fn.ntmps s' E' {a' with defers:=[]} w2:=⟨hs'.size,.nil _ (by rw[k7];exact hl0),hs'.tmps,k1,hs'.out⟩
  obtain⟨us,hu1,hu2⟩:=ZbU hT hs2 fn.results.toList hok;have hvr:=forall₂_vr hw hu2;have hvc:VRs (E'.cut n) r us:=⟨hvr.1,fun i h1 h2=>(hvr.2 i h1 h2).cut (hb _ (Qa h1))⟩
  have hres:(results fn a'.tmps).run P w2= .ok (if h:us.toArray.size=1 then us.toArray[0]else .tuple us.toArray) w2:=by
   rw[ZcR,Qah];simp only[Sem.run_bind,Sem.run_map,hu1,Result.andThen_ok,Sem.run_pure]
  refine⟨_,hres,tupR r,_,s'.H,E'.cut n,rfl,hq,?_,Zt.leave hs2,⟨Env.ZiT hx.le,k3.trans hx.os,k4.trans hx.tape,k5.trans hx.output,fun hq=>by rw[k6];exact hx.drawn hq,by rw[k7];exact hx.size,fun b hb' ho=>?_,fun b hb' ho=>hx.own b hb' ?_⟩⟩
  ·by_cases h1:us.toArray.size=1
   ·rw[dif_pos h1];cases r with
    |nil=>have:=hvc.1;simp at this h1;rw[this]at h1;simp at h1
    |cons x r=>
     cases r with
     |nil=>
      obtain⟨v,q,rfl,h3,h4⟩:=hvc.YR;exact h3
     |cons y r=>have:=hvc.1;simp at this h1;omega
   ·rw[dif_neg h1];have:tupR r= .tup r:=by
     cases r with
     |nil=>rfl
     |cons x r=>
      cases r with
      |nil=>have:=hvc.1;simp at this h1;omega
      |cons y r=>rfl
    rw[this];exact .tup r us hvc.1 hvc.2
  ·rw[k2 b (fun hm=>by have:w.heap.size≤b:=(hl3 b hm).1;omega)];exact hx.block b hb' ho
  ·rcases ho with⟨l,k,hm⟩|⟨l,k,hm⟩
   ·simp only[Env.cut]at hm;split at hm
    ·exact .inl ⟨l,k,hm⟩
    ·cases hm
   ·simp only[Env.cut]at hm;split at hm
    ·exact .inr ⟨l,k,hm⟩
    ·cases hm
 cases e with
 |normal=>exact fin hQ
 |ret=>exact fin hQ
 |_=>exact hQ.elim
end
inductive KL where
 |int (k:IntKind) (n:Int)
 |str (l:List UInt8)
 |bool (b:Bool)
 deriving DecidableEq
def KL.val:KL→Value
 | .int k n=>.int k n
 | .str l=>.string ⟨l.toArray⟩
 | .bool b=>.bool b
def AV.kl:AV→Option KL
 | .int k n=>some (.int k n)
 | .str l=>some (.str l)
 | .bool b=>some (.bool b)
 |_=>none
def klAll:List AV→Option (List KL)
 |[]=>some []
 |a::r=>match a.kl,klAll r with
  |some x,some xs=>some (x::xs)
  |_,_=>none
theorem ZsH{E:Env}{a:AV}{v:Value}{q:KL}(h:a.kl=some q)(hv:VR E a v):v=q.val:=by
 cases hv<;>simp[AV.kl]at h<;>subst h<;>rfl
theorem Zck{E:Env}:∀{az:List AV} {vs:List Value} {ls:List KL},klAll az=some ls→VRs E az vs→vs=ls.map KL.val
 |[],vs,ls,h,hv=>by simp[klAll]at h;subst h;simpa using hv.of_nil
 |a::r,vs,ls,h,hv=>by
  obtain⟨v,us,rfl,h1,h2⟩:=hv.YR;simp only[klAll]at h;split at h
  ·rename_i x xs hx hxs;cases h;rw[ZsH hx h1,Zck hxs h2];rfl
  ·cases h
def covers(T:TT):List (Nat×TypeId)→Nat→Option Nat
 |[],n=>some n
 |(o,ft)::r,n=>if o=n then match T ft with
  |some rf=>covers T r (n+rf.size)
  |none=>none else none
def ZV(T:TT):Nat→TypeId→List KL→Bool
 |0,_,_=>false
 |d+1,t,l=>match T t with
  |some r=>match r.td with
   | .int k=>match l with
    |[.int k' _]=>k==k'
    |_=>false
   | .str=>match l with
    |[.str _]=>true
    |_=>false
   | .bool=>match l with
    |[.bool _]=>true
    |_=>false
   | .struct fs=>l.length==r.size&&covers T fs 0==some r.size&&fs.all fun p=>match T p.2 with
    |some rf=>ZV T d p.2 ((l.drop p.1).take rf.size)
    |none=>false
   |_=>false
  |none=>false
def XK(r:Zv)(l:List KL):Value:=if r.isAgg then .agg (l.map KL.val).toArray else(l.map KL.val).getD 0 undef
theorem Zoc{l m:List KL}(n k:Nat)(h:l.length=m.length):(l.drop n==m.drop n)=((l.drop n).take k==(m.drop n).take k&&(l.drop (n+k)==m.drop (n+k))):=by
 rw[UQ];simp only[beq_iff_eq,Qi];rw[←List.drop_drop,←List.drop_drop];constructor
 ·intro e;rw[e];exact⟨rfl,rfl⟩
 ·rintro⟨h1,h2⟩;rw[←QX k (l.drop n),←QX k (m.drop n),h1,h2]
section
variable {P:Program} {T:TT}
theorem ZaK(hT:TOK P T){t:TypeId}{r:Zv}(h1:T t=some r){d:Nat}{l:List KL}{off:Nat}(hl:off+r.size≤l.length)(hk:ZV T d t ((l.drop off).take r.size)=true)(w:World):
  (part t (l.map KL.val).toArray off).run P w= .ok (XK r ((l.drop off).take r.size)) w:=by
 obtain⟨dd,i,z,hf⟩:=Zd (hT t r h1);unfold part XK;simp only[Sem.run_bind,JX hf,Result.andThen_ok];cases hag:r.isAgg with
 |true=>
  simp only[if_true,ZF hf,Sem.run_bind,Result.andThen_ok,Sem.run_pure];congr 2
  apply Qar;simp[List.extract,←List.map_drop,←List.map_take]
 |false=>
  simp only[QT,if_false];have h2:∃q,(l.drop off).take r.size=[q]:=by
   cases d with
   |zero=>simp[ZV]at hk
   |succ d=>
    simp only[ZV,h1]at hk;split at hk
    ·split at hk
     ·rename_i e;exact⟨_,e⟩
     ·cases hk
    ·split at hk
     ·rename_i e;exact⟨_,e⟩
     ·cases hk
    ·split at hk
     ·rename_i e;exact⟨_,e⟩
     ·cases hk
    ·rename_i fs hfs;simp[Zv.isAgg,hfs]at hag
    ·cases hk
  obtain⟨q,hq⟩:=h2;rw[hq];have hx:l[off]? =some q:=by
   have:=congrArg (·[0]?) hq;have hsz:0<r.size:=by
    rcases UY r.size with h|h
    ·rw[h]at hq;simp at hq
    ·exact h
   simp only[UG,hsz,if_true,UC,UD,Gl]at this;exact this
  simp[hx]
theorem ZcV(hT:TOK P T):∀(d:Nat) (t:TypeId) (r:Zv) (la lb:List KL),T t=some r→ZV T d t la=true→ZV T d t lb=true→ ∀dd,d≤dd→ ∀w,
  (Op.equalIn dd t (XK r la) (XK r lb)).run P w= .ok (la==lb) w
 |0,_,_,_,_,_,h,_,_,_,_=>by simp[ZV]at h
 |d+1,t,r,la,lb,h1,ha,hb,dd,hd,w=>by
  obtain⟨dd,rfl⟩:∃x,dd=x+1:=⟨dd - 1,om⟩
  obtain⟨de,i,z,hf⟩:=Zd (hT t r h1);simp only[ZV,h1]at ha hb;split at ha
  ·rename_i k hk;have hag:r.isAgg=false:=by simp[Zv.isAgg,hk]
   have hu:P.underlying t=some (.int k):=by
    have:=hf.fits;rw[hk]at this;rw[hf.und];cases de<;>simp[TD.fits]at this;rw[this]
   simp only[hk]at hb;split at ha<;>first|exact absurd ha Gv|skip
   split at hb<;>first|exact absurd hb Gv|skip
   simp only[beq_iff_eq]at ha hb;subst ha;subst hb;simp only[XK,hag,QT,if_false,Qs,Uy,U4,KL.val,run_equalIn_int w dd t _ _ _ _ hu];congr 1
   rw[UQ];simp
  ·rename_i hk;have hag:r.isAgg=false:=by simp[Zv.isAgg,hk]
   have hu:P.underlying t=some .string:=by
    have:=hf.fits;rw[hk]at this;rw[hf.und];cases de<;>simp[TD.fits]at this;rfl
   simp only[hk]at hb;split at ha<;>first|exact absurd ha Gv|skip
   split at hb<;>first|exact absurd hb Gv|skip
   simp only[XK,hag,QT,if_false,Qs,Uy,U4,KL.val,run_equalIn_string w dd t _ _ hu,ByteArray.toList_mk];congr 1
   rw[UQ];simp
  ·rename_i hk;have hag:r.isAgg=false:=by simp[Zv.isAgg,hk]
   have hu:P.underlying t=some .bool:=by
    have:=hf.fits;rw[hk]at this;rw[hf.und];cases de<;>simp[TD.fits]at this;rfl
   simp only[hk]at hb;split at ha<;>first|exact absurd ha Gv|skip
   split at hb<;>first|exact absurd hb Gv|skip
   simp only[XK,hag,QT,if_false,Qs,Uy,U4,KL.val,run_equalIn_bool' w dd t _ _ hu];congr 1
   rw[UQ];simp
  ·rename_i fs hk;simp only[hk,Qi,beq_iff_eq,QA]at ha hb;obtain⟨⟨la1,la2⟩,la3⟩:=ha;obtain⟨⟨lb1,_⟩,lb3⟩:=hb;have hag:r.isAgg=true:=by simp[Zv.isAgg,hk]
   have hft:=hf.fits;rw[hk]at hft;cases de<;>try(simp[TD.fits]at hft;done)
   rename_i gs;simp only[TD.fits,Qi,beq_iff_eq,QA,bne_iff_ne]at hft;have hgs:P.fieldsOf t=gs:=by simp[Program.fieldsOf,hf.und]
   simp only[XK,hag,if_true];rw[run_equalIn_struct w dd t _ _ (by rw[hgs];exact hf.und) (hf.stood fs hk).1,hgs]
   have key : ∀ (gl : List Field) (n : Nat), (∀ g ∈ gl, g.name ≠ "_") → (∀ g ∈ gl, (g.offset, g.type) ∈ fs) → covers T (gl.map fun g => (g.offset, g.type)) n = some r.size → n ≤ r.size → ∀ w,
     (Op.eqFields dd (la.map KL.val).toArray (lb.map KL.val).toArray gl).run P w= .ok (la.drop n==lb.drop n) w:=by
    intro gl;induction gl with
    |nil=>
     intro n _ _ hc _ w;simp only[Uy,covers,Qq]at hc;subst hc;rw[Ux om,Ux om];simp[Op.eqFields]
    |cons g gl ih=>
     intro n hn hin hc hle w;simp only[Qs,covers]at hc;split at hc
     ·rename_i hoff;split at hc
      ·rename_i rf hrf;have hcov:∀(l:List (Nat×TypeId)) (m x:Nat),covers T l m=some x→m≤x:=by
        intro l;induction l with
        |nil=>intro m x h;simp only[covers,Qq]at h;omega
        |cons p l ihl=>
         intro m x h;obtain⟨o,ft⟩:=p;simp only[covers]at h;split at h
         ·split at h
          ·have:=ihl _ _ h;omega
          ·cases h
         ·cases h
       have hle2:=hcov _ _ _ hc;have hka:=la3 _ (hin g sm);have hkb:=lb3 _ (hin g sm);simp only[hrf]at hka hkb;subst hoff;have ihd:=ZcV hT d g.type rf _ _ hrf hka hkb dd om;simp only[Op.eqFields];rw[if_pos (hn g sm)];simp only[Sem.run_bind,ZaK hT hrf (d:=d) (l:=la) (off:=g.offset) om hka,ZaK hT hrf (d:=d) (l:=lb) (off:=g.offset) om hkb,Result.andThen_ok,ihd];rw[Zoc g.offset rf.size om];cases((la.drop g.offset).take rf.size==(lb.drop g.offset).take rf.size)with
       |true=>
        simp only[Qbq,QT,if_false,MP];exact ih (g.offset+rf.size) (fun g hg=>hn g (Qx _ hg)) (fun g hg=>hin g (Qx _ hg)) hc hle2 w
       |false=>simp
      ·cases hc
     ·cases hc
   have hcv:covers T (gs.toList.map fun g=>(g.offset,g.type)) 0=some r.size:=by rw[hft.1];exact la2
   have:=key gs.toList 0 (fun g hg=>hft.2 g hg) (fun g hg=>by rw[←hft.1];exact Qb.2 ⟨g,hg,rfl⟩) hcv (Un _) w;simpa using this
  ·cases ha
end
section ops
variable {P:Program} {T:TT} {o:Oper} {ρ:Operand→AV}
theorem Zbr{d t:Nat}{r:Zv}{l:List KL}(h1:T t=some r)(h:ZV T d t l=true)(hag:r.isAgg=true):∃fs,r.td= .struct fs:=by
 cases d with
 |zero=>simp[ZV]at h
 |succ d=>
  simp only[ZV,h1]at h;split at h
  ·rename_i hk;simp[Zv.isAgg,hk]at hag
  ·rename_i hk;simp[Zv.isAgg,hk]at hag
  ·rename_i hk;simp[Zv.isAgg,hk]at hag
  ·rename_i fs hk;exact⟨fs,hk⟩
  ·cases h
theorem Zok{op:BinOp}{t yt:TypeId}{x y:Operand}{r:Zv}{az bs:List AV}{la lb:List KL}(hT:TOK P T)(ho:o.op= .binOp op t x y yt)(h1:T t=some r)(hag:r.isAgg=true)(hx:ρ x= .agg az)(hy:ρ y= .agg bs)
  (ha:klAll az=some la) (hb:klAll bs=some lb) (fa:ZV T 100 t la=true) (fb:ZV T 100 t lb=true) (hop:op= .eql∨op= .neq):YV P o ρ (.bool (if op= .eql then la==lb else !(la==lb))):=fun E a h=>by
 have k1:=h x sO;have k2:=h y sO;obtain⟨d,inf,z,hf⟩:=Zd (hT t r h1);rw[hx]at k1;rw[hy]at k2;obtain⟨fs,hfs⟩:=Zbr h1 fa hag;have he:execOp a.eval o=(do let v←(do eqGuard op t x y (a.eval x) (a.eval y);binOp op t (a.eval x) (a.eval y));pure (Next.value v)):=by simp only[execOp,ho]
 generalize hu:a.eval x=u at k1 he;generalize hv:a.eval y=v at k2 he;cases k1 with|agg _ us hl1 hv1=>
 cases k2 with|agg _ vs hl2 hv2=>
 have e1:=Zck ha ⟨hl1,hv1⟩;have e2:=Zck hb ⟨hl2,hv2⟩;subst e1;subst e2;refine⟨.bool (if op= .eql then la==lb else !(la==lb)),fun w=>?_,.bool _⟩;have heq:=ZcV hT 100 t r la lb h1 fa fb 10000 om w;simp only[XK,hag,if_true]at heq;rw[he];rcases hop with rfl|rfl
 ·simp only[Sem.run_bind,run_eqGuard_agg w _ t x y _ _ (hf.stood fs hfs).2,Result.andThen_ok,run_eql_struct,heq,Sem.run_pure,if_true]
 ·simp only[Sem.run_bind,run_eqGuard_agg w _ t x y _ _ (hf.stood fs hfs).2,Result.andThen_ok,run_neq_struct,heq,Sem.run_pure,reduceCtorEq,if_false]
end ops
def XP(q:List KL):List (List KL)→Nat→Option Nat
 |[],_=>none
 |l::r,i=>if q=l then some i else XP q r (i+1)
theorem ZaS{q:List KL}:∀{ls:List (List KL)} {i j:Nat},XP q ls i=some j→i≤j∧ls[j - i]? =some q
 |[],_,_,h=>by cases h
 |l::r,i,j,h=>by
  simp only[XP]at h;split at h
  ·rename_i e;cases h;subst e;simp
  ·obtain⟨h1,h2⟩:=ZaS h;refine⟨om,?_⟩;rw[show j - i=(j - (i+1))+1 by omega,UJ];exact h2
def Zjk(q:List KL):List MapEntry→List (List KL)→Nat→Option (Nat×Value)
 |e::es,l::ls,i=>if q=l then some (i,e.val)else Zjk q es ls (i+1)
 |_,_,_=>none
theorem Zme{q:List KL}:∀{es:List MapEntry} {ls:List (List KL)} {i:Nat},es.length=ls.length→Zjk q es ls i=(XP q ls i).bind fun j=>(es[j - i]?).map fun e=>(j,e.val)
 |[],[],_,_=>rfl
 |e::es,l::ls,i,h=>by
  simp only[Zjk,XP];split
  ·simp
  ·rw[Zme (by simpa using h)];cases hf:XP q ls (i+1)with
   |none=>rfl
   |some j=>
    obtain⟨h1,_⟩:=ZaS hf;simp only[UE];rw[show j - i=(j - (i+1))+1 by omega,UJ]
 |[],_::_,_,h=>by simp at h
 |_::_,[],_,h=>by simp at h
section
variable {P:Program} {T:TT}
theorem WS{d t:Nat}{r:Zv}{l:List KL}(h1:T t=some r)(h:ZV T d t l=true)(hag:r.isAgg=false):
  (∃k n,r.td= .int k∧l=[.int k n])∨(∃s,r.td= .str∧l=[.str s])∨ ∃b,r.td= .bool∧l=[.bool b]:=by
 cases d with
 |zero=>simp[ZV]at h
 |succ d=>
  simp only[ZV,h1]at h;split at h
  ·rename_i k hk;split at h
   ·rename_i k' n;simp only[beq_iff_eq]at h;subst h;exact .inl ⟨k,n,hk,rfl⟩
   ·cases h
  ·rename_i hk;split at h
   ·exact .inr (.inl ⟨_,hk,rfl⟩)
   ·cases h
  ·rename_i hk;split at h
   ·exact .inr (.inr ⟨_,hk,rfl⟩)
   ·cases h
  ·rename_i fs hfs;simp[Zv.isAgg,hfs]at hag
  ·cases h
theorem fits_int{k:IntKind}{d:TypeDesc}(h:(TD.int k).fits d=true):d= .int k:=by
 cases d<;>simp[TD.fits]at h;rw[h]
theorem fits_bool{d:TypeDesc}(h:TD.bool.fits d=true):d= .bool:=by
 cases d<;>simp[TD.fits]at h;rfl
theorem ZbA {fs : List (Nat × TypeId)} {d : TypeDesc} (h : (TD.struct fs).fits d = true) : ∃ gs, d = .struct gs ∧ gs.toList.map (fun g => (g.offset, g.type)) = fs ∧ ∀ g ∈ gs.toList, g.name ≠ "_" := by
 cases d<;>try(simp[TD.fits]at h;done)
 rename_i gs;simp only[TD.fits,Qi,beq_iff_eq,QA,bne_iff_ne]at h;exact⟨gs,rfl,h.1,h.2⟩
theorem Zlo{t d:Nat}{r:Zv}{q l:List KL}{de:TypeDesc}(h1:T t=some r)(hfit:r.td.fits de=true)(hag:r.isAgg=false)(hq:ZV T d t q=true)(hl:ZV T d t l=true):
  Instr.sameNow de (XK r q) (XK r l)=some (decide (q=l)):=by
 rcases WS h1 hq hag with⟨k,n,hk,rfl⟩|⟨s,hk,rfl⟩|⟨b,hk,rfl⟩<;>rcases WS h1 hl hag with⟨k',n',hk',rfl⟩|⟨s',hk',rfl⟩|⟨b',hk',rfl⟩<;>rw[hk]at hk' hfit<;>cases hk'
 ·obtain rfl:=fits_int hfit;simp only[XK,hag,QT,if_false,Qs,Uy,U4,KL.val,Instr.sameNow,if_true];rw[Qq,UQ];simp
 ·obtain rfl:=VL hfit;simp only[XK,hag,QT,if_false,Qs,Uy,U4,KL.val,Instr.sameNow];rw[Qq,UQ,beq_toListBytes,ByteArray.toList_mk,ByteArray.toList_mk];simp
 ·obtain rfl:=fits_bool hfit;simp only[XK,hag,QT,if_false,Qs,Uy,U4,KL.val,Instr.sameNow];rw[Qq,UQ];simp
theorem ZgM{t d:Nat}{r:Zv}{q:List KL}{de:TypeDesc}(h1:T t=some r)(hfit:r.td.fits de=true)(hag:r.isAgg=false)(hq:ZV T d t q=true):∀(es:List MapEntry) (ls:List (List KL)) (i:Nat),
  es.map (·.key)=ls.map (XK r)→(∀l∈ls,ZV T d t l=true)→Instr.findNow de (XK r q) es i=some (Zjk q es ls i)
 |[],[],_,_,_=>rfl
 |e::es,l::ls,i,h,hf=>by
  simp only[Qs,Ub]at h;simp only[Instr.findNow,h.1,Zlo h1 hfit hag hq (hf l sm),Zjk];by_cases hql:q=l
  ·simp[hql]
  ·simp only[hql,decide_false,if_false];exact ZgM h1 hfit hag hq es ls (i+1) h.2 (fun l hl=>hf l (Qx _ hl))
 |[],_::_,_,h,_=>by simp at h
 |_::_,[],_,h,_=>by simp at h
theorem ZcA(hT:TOK P T){t:Nat}{r:Zv}{q:List KL}(h1:T t=some r)(hq:ZV T 100 t q=true)(w:World):∀(es:List MapEntry) (ls:List (List KL)) (i:Nat),
  es.map (·.key)=ls.map (XK r)→(∀l∈ls,ZV T 100 t l=true)→(Instr.findAsking t (XK r q) es i).run P w= .ok (Zjk q es ls i) w
 |[],[],_,_,_=>rfl
 |e::es,l::ls,i,h,hf=>by
  simp only[Qs,Ub]at h;have he:(Op.equal t (XK r q) (XK r l)).run P w= .ok (q==l) w:=ZcV hT 100 t r q l h1 hq (hf l sm) 10000 om w;simp only[Instr.findAsking,h.1,Sem.run_bind,he,Result.andThen_ok,Zjk];by_cases hql:q=l
  ·simp[hql]
  ·simp only[hql,beq_iff_eq,if_false];exact ZcA hT h1 hq w es ls (i+1) h.2 (fun l hl=>hf l (Qx _ hl))
 |[],_::_,_,h,_=>by simp at h
 |_::_,[],_,h,_=>by simp at h
theorem ZlZ(hT:TOK P T){t:Nat}{r:Zv}{q:List KL}(h1:T t=some r)(hq:ZV T 100 t q=true)(w:World)(es:List MapEntry)(ls:List (List KL))
  (h:es.map (·.key)=ls.map (XK r)) (hf:∀l∈ls,ZV T 100 t l=true):(Instr.findKey t (XK r q) es).run P w= .ok (Zjk q es ls 0) w:=by
 obtain⟨de,inf,z,hrf⟩:=Zd (hT t r h1);cases hag:r.isAgg with
 |false=>
  simp[Instr.findKey,run_underlying hrf.und,ZgM h1 hrf.fits hag hq es ls 0 h hf]
 |true=>
  obtain⟨fs,hfs⟩:=Zbr h1 hq hag;obtain⟨gs,rfl,_⟩:=ZbA (hfs▸hrf.fits);rw[run_findKey_eq w (by rw[hrf.und])];exact ZcA hT h1 hq w es ls 0 h hf
theorem ZeP(hT:TOK P T)(em:Bool):∀(d:Nat) (t:TypeId) (r:Zv) (l:List KL),T t=some r→ZV T d t l=true→ ∀dd,d≤dd→ ∀w:World,(Instr.checkKey em dd t (XK r l)).run P w= .ok () w
 |0,_,_,_,_,h,_,_,_=>by simp[ZV]at h
 |d+1,t,r,l,h1,hk,dd,hd,w=>by
  obtain⟨dd,rfl⟩:∃x,dd=x+1:=⟨dd - 1,om⟩
  obtain⟨de,inf,z,hrf⟩:=Zd (hT t r h1);cases hag:r.isAgg with
  |false=>
   rcases WS h1 hk hag with⟨k,n,hk',rfl⟩|⟨s,hk',rfl⟩|⟨b,hk',rfl⟩
   ·have:=fits_int (hk'▸hrf.fits);subst this;simp[Instr.checkKey,run_underlying hrf.und,XK,hag,KL.val]
   ·have:=VL (hk'▸hrf.fits);subst this;simp[Instr.checkKey,run_underlying hrf.und,XK,hag,KL.val]
   ·have:=fits_bool (hk'▸hrf.fits);subst this;simp[Instr.checkKey,run_underlying hrf.und,XK,hag,KL.val]
  |true=>
   obtain⟨fs,hfs⟩:=Zbr h1 hk hag;obtain⟨gs,rfl,hgs,hn⟩:=ZbA (hfs▸hrf.fits);simp only[ZV,h1,hfs,Qi,beq_iff_eq,QA]at hk;obtain⟨⟨hlen,hcv⟩,hall⟩:=hk;have hle:∀(fl:List (Nat×TypeId)) (n x:Nat),covers T fl n=some x→n≤x∧ ∀p∈fl,∀rf,T p.2=some rf→p.1+rf.size≤x:=by
    intro fl;induction fl with
    |nil=>intro n x h;simp only[covers,Qq]at h;exact⟨om,sm⟩
    |cons p fl ih=>
     intro n x h;obtain⟨o,ft⟩:=p;simp only[covers]at h;split at h
     ·rename_i ho;split at h
      ·rename_i rf hrf';obtain⟨a1,a2⟩:=ih _ _ h;refine⟨om,fun p hp rf' hrf2=>?_⟩;rcases Qk.1 hp with rfl|hp
       ·simp only[hrf',Qq]at hrf2;subst hrf2;simp only;omega
       ·exact a2 p hp rf' hrf2
      ·cases h
     ·cases h
   have hin:=(hle _ _ _ hcv).2;simp only[XK,hag,if_true];unfold Instr.checkKey;simp only[Sem.run_bind,run_underlying hrf.und,Result.andThen_ok];rw[←Array.forIn_toList];have key:∀(gl:List Field),(∀g∈gl,(g.offset,g.type)∈fs)→ ∀w:World,
     (forIn gl PUnit.unit fun f (_ : PUnit) => (if f.name ≠ "_" then do
       let a←part f.type (l.map KL.val).toArray f.offset
       Instr.checkKey em dd f.type a
       pure (ForInStep.yield PUnit.unit)
      else pure (ForInStep.yield PUnit.unit):Sem (ForInStep PUnit))).run P w= .ok PUnit.unit w:=by
    intro gl;induction gl with
    |nil=>intro _ w;rfl
    |cons g gl ih=>
     intro hg w;have hgf:=hall _ (hg g sm);cases hrg:T g.type with
     |none=>rw[hrg]at hgf;simp at hgf
     |some rf=>
      simp only[hrg]at hgf;have hpart:=ZaK hT hrg (d:=d) (l:=l) (off:=g.offset) (by rw[hlen];exact hin _ (hg g sm) rf hrg) hgf;have hck:=ZeP hT em d g.type rf _ hrg hgf dd om;simp only[List.forIn_cons,Sem.run_bind,Sem.run_ite];split
      ·simp only[hpart,hck,Sem.run_bind,Result.andThen_ok,Sem.run_pure];exact ih (fun g hg'=>hg g (Qx _ hg')) w
      ·simp only[Sem.run_pure,Result.andThen_ok];exact ih (fun g hg'=>hg g (Qx _ hg')) w
   have:=key gs.toList (fun g hg=>by rw[←hgs];exact Qb.2 ⟨g,hg,rfl⟩) w;rw[this];rfl
theorem Zjy(r:Zv)(l:List KL)(hs:r.isAgg=false→ ∃x,l=[x]):Instr.sameBits 10000 (XK r l) (XK r l)=true:=by
 have h1:∀(x:KL) n,Instr.sameBits n x.val x.val=true:=by
  intro x n;cases x with
  |int k n=>simp[KL.val,Instr.sameBits]
  |bool b=>simp[KL.val,Instr.sameBits]
  |str s=>simp only[KL.val,Instr.sameBits];rw[beq_toListBytes];simp
 unfold XK;cases hag:r.isAgg with
 |true=>
  simp only[if_true,Instr.sameBits,beq_self_eq_true,MP,QA];intro p hp;obtain⟨i,hi,rfl⟩:=QJ hp;simp only[List.getElem_zip];rw[QO];exact h1 _ _
 |false=>
  obtain⟨x,rfl⟩:=hs hag;simp only[QT,if_false,Qs,Uy,U4];exact h1 x _
theorem ZjH{t d:Nat}{r:Zv}{l:List KL}(h1:T t=some r)(h:ZV T d t l=true)(w:World):(Instr.keyThatStays (XK r l) (XK r l)).run P w= .ok (XK r l) w:=by
 simp only[Instr.keyThatStays];rw[if_pos (Zjy r l (fun hag=>by
  rcases WS h1 h hag with⟨k,n,_,e⟩|⟨s,_,e⟩|⟨b,_,e⟩<;>exact⟨_,e⟩))]
 rfl
end
def AV.isAgg:AV→Bool
 | .agg _=>true
 |_=>false
def AV.kls(a:AV):List KL:=(klAll a.cells).getD []
def YE(T:TT)(kt:TypeId)(a:AV):Bool:=match T kt with
 |some rk=>match klAll a.cells with
  |some l=>ZV T 100 kt l&&a.isAgg==rk.isAgg
  |none=>false
 |none=>false
def Xz(k:AV)(es:List (AV×AV)):Option Nat:=XP k.kls (es.map fun p=>p.1.kls) 0
def XI(r:Zv):AV:=if r.isAgg then .agg r.zero else r.zero.getD 0 .dead
theorem ZcO{T:TT}{kt:TypeId}{a:AV}(h:YE T kt a=true):∃rk,T kt=some rk∧klAll a.cells=some a.kls∧ZV T 100 kt a.kls=true∧a.isAgg=rk.isAgg:=by
 unfold YE at h;split at h
 ·rename_i rk hrk;split at h
  ·rename_i l hl;simp only[Qi,beq_iff_eq]at h;exact⟨rk,hrk,by simp[AV.kls,hl],by simpa[AV.kls,hl]using h.1,h.2⟩
  ·cases h
 ·cases h
theorem Zit{E:Env}{T:TT}{kt:TypeId}{a:AV}{v:Value}{rk:Zv}(h:YE T kt a=true)(hrk:T kt=some rk)(hv:VR E a v):v=XK rk a.kls:=by
 obtain⟨rk',h1,h2,h3,h4⟩:=ZcO h;rw[hrk]at h1;cases h1;cases hv with
 |agg cs vs hl hvs=>
  have:rk.isAgg=true:=by rw[←h4];rfl
  have e:=Zck h2 ⟨hl,hvs⟩;simp only[XK,this,if_true];rw[←e]
 |int k n=>simp only[AV.cells,klAll,AV.kl,Qq]at h2;rw[←h2];simp[XK,←h4,AV.isAgg,KL.val]
 |bool b=>simp only[AV.cells,klAll,AV.kl,Qq]at h2;rw[←h2];simp[XK,←h4,AV.isAgg,KL.val]
 |str l=>simp only[AV.cells,klAll,AV.kl,Qq]at h2;rw[←h2];simp[XK,←h4,AV.isAgg,KL.val]
 |_=>simp[AV.cells,klAll,AV.kl]at h2
section
variable {P:Program} {T:TT}
theorem Zdl(hT:TOK P T){E:Env}{w:World}{kt:TypeId}{k:AV}{kv:Value}{es:List (AV×AV)}{ent:Array MapEntry}(hk:YE T kt k=true)(hes:∀p∈es,YE T kt p.1=true)(hv:VR E k kv)(hs:ent.size=es.length)
  (hr:∀i (h:i<es.length) (h':i<ent.size),VR E es[i].1 ent[i].key∧VR E es[i].2 ent[i].val∧ent[i].born=i):
  (∀em,(Instr.checkKey em 10000 kt kv).run P w= .ok () w)∧(Instr.keyThatStays kv kv).run P w= .ok kv w∧(∀i,Xz k es=some i→ ∃h:i<es.length,∀h':i<ent.size,ent[i].key=kv)∧
  (Instr.findKey kt kv ent.toList).run P w= .ok ((Xz k es).bind fun j=>(ent[j]?).map fun e=>(j,e.val)) w:=by
 obtain⟨rk,h1,h2,h3,h4⟩:=ZcO hk;have e1:=Zit hk h1 hv;subst e1;have hkeys:ent.toList.map (·.key)=(es.map fun p=>p.1.kls).map (XK rk):=by
  apply MZ
  ·simp[hs]
  ·intro i a1 a2;simp only[Qv,Uf]at a1 a2;simp only[QO,U9];exact Zit (hes _ (Qa a2)) h1 (hr i a2 a1).1
 have hf:∀l∈es.map (fun p=>p.1.kls),ZV T 100 kt l=true:=by
  intro l hl;obtain⟨p,hp,rfl⟩:=Qb.1 hl;obtain⟨_,_,_,h,_⟩:=ZcO (hes p hp);exact h
 refine⟨fun em=>ZeP hT em 100 kt rk _ h1 h3 10000 om w,ZjH h1 h3 w,fun i hi=>?_,?_⟩
 ·obtain⟨_,h6⟩:=ZaS hi;rw[MI,QZ]at h6;cases hg:es[i]? with
  |none=>rw[hg]at h6;cases h6
  |some p=>
   rw[hg,Us,Qq]at h6;have hlt:i<es.length:=by
    rcases Qg i es.length with h|h
    ·exact h
    ·rw[Ut h]at hg;cases hg
   refine⟨hlt,fun h'=>?_⟩;have:=Zit (hes _ (Qa hlt)) h1 (hr i hlt h').1;rw[Qd hlt,Qq]at hg;rw[hg,h6]at this;exact this
 ·rw[ZlZ hT h1 h3 w ent.toList _ hkeys hf,Zme (by simp[hs])];simp[Xz]
theorem Zf3{k:AV}{es:List (AV×AV)}{i:Nat}(h:Xz k es=some i):i<es.length:=by
 obtain⟨_,h6⟩:=ZaS h;rw[MI,QZ]at h6;rcases Qg i es.length with h|h
 ·exact h
 ·rw[Ut h]at h6;cases h6
theorem ZbX{E:Env}{t:TypeId}{r:Zv}{d:TypeDesc}{i:TypeInfo}{z:Value}(hf:VX P t r d i z)(h0:r.isAgg=false→r.size=1):VR E (XI r) z:=by
 have h:=Xt (E:=E) hf.zfits;unfold XI;cases hag:r.isAgg with
 |true=>
  have hz:isAggV z=true:=by rw[←hf.zagg];exact hag
  cases z<;>simp[isAggV]at hz;simp only[if_true];exact .agg _ _ h.1 h.2
 |false=>
  have hz:isAggV z=false:=by rw[←hf.zagg];exact hag
  have hsz:=hf.zsize;have hc:z.cells= #[z]:=by cases z<;>simp[isAggV]at hz<;>rfl
  rw[hc]at h;obtain⟨h1,h2⟩:=h;simp only[Qo,QB]at h1;simp only[QT,if_false];have h3:=h2 0 om sm;simpa[Qp,Qd (show 0<r.zero.length by omega)]using h3
def mapOf(T:TT)(t:TypeId):Option (TypeId×TypeId×Zv):=
 match T t with
 |some r=>match r.td with
  | .map k e=>(T e).map fun re=>(k,e,re)
  |_=>none
 |none=>none
theorem Vy(hT:TOK P T){t k e:TypeId}{re:Zv}(h:mapOf T t=some (k,e,re)):P.underlying t=some (.map k e)∧T e=some re:=by
 unfold mapOf at h;split at h
 ·rename_i r hr;split at h
  ·rename_i k' e' hd;simp only[Ul]at h;obtain⟨re',h1,h2⟩:=h;cases h2;obtain⟨d,i,z,hf⟩:=Zd (hT t r hr);have:=hf.fits;rw[hd]at this;cases d<;>simp[TD.fits]at this;obtain⟨rfl,rfl⟩:=this;exact⟨hf.und,h1⟩
  ·cases h
 ·cases h
end
section ops
variable {P:Program} {T:TT} {o:Oper} {ρ:Operand→AV}
theorem Zlr{m:Nat}{H:Za}{t:TypeId}{l k:Nat}(ho:o.op= .makeMap t none)(hl:l<m)(hfree:H l k=none):
  Yq P m o ρ H (.map l k) (H.upd l k (.map [])):=fun E w a hr hops=>by
 have he:execOp a.eval o=(do let v←Instr.makeMap t none;pure (Next.value v)):=by simp only[execOp,ho];rfl
 obtain⟨hh,hx⟩:=hr.Zdi hl hfree (.map #[] 0) (.map []) ⟨w.heap.size,by simp[Env.XZ],#[],heap_alloc_new w _,rfl,fun i h=>absurd h (Qm _)⟩;refine⟨.map (some w.heap.size),_,_,.inl ?_,.map l k _ (by simp[Env.XZ]),hh,hx⟩;rw[he];simp[Instr.makeMap,newObj,Sem.run]
def nilA(v:AV):AV:=match v with
 | .sl _ [] .full=>.Xg
 |v=>v
theorem Zg9{k:Nat}{z:Value}(h:fitsConst (.sl k [] .full) z=true):z= .slice none 0 0:=by
 cases z with
 |slice a n c=>
  cases a with
  |none=>
   cases n with
   |zero=>cases c with
    |zero=>rfl
    |succ c=>simp[fitsConst]at h
   |succ n=>simp[fitsConst]at h
  |some a=>simp[fitsConst]at h
 |_=>simp[fitsConst]at h
theorem Zfo{E:Env}{t:TypeId}{r:Zv}{d:TypeDesc}{i:TypeInfo}{z:Value}(hf:VX P t r d i z)(h0:r.isAgg=false→r.size=1):VR E (nilA (XI r)) z:=by
 have h:=ZbX (E:=E) hf h0;unfold nilA;split
 ·rename_i k he;cases hag:r.isAgg with
  |true=>simp[XI,hag]at he
  |false=>
   have hz:isAggV z=false:=by rw[←hf.zagg];exact hag
   have hc:z.cells= #[z]:=by cases z<;>simp[isAggV]at hz<;>rfl
   have hs:=hf.zfits;rw[hc]at hs;simp only[XI,hag,QT,if_false]at he
   match hzz:r.zero with
   |[]=>rw[hzz]at he;simp at he
   |a::az=>
    rw[hzz]at he hs;simp only[U4]at he;subst he;simp only[fitsAll,Qi]at hs;rw[Zg9 hs.1];exact .Xg
 ·exact h
def lookA(re:Zv)(k:AV)(es:List (AV×AV))(ok:Bool):AV:=
 let r:AV×Bool:=match Xz k es with
  |some i=>((es.getD i (.dead,.dead)).2,true)
  |none=>(nilA (XI re),false)
 if ok then .tup [r.1,.bool r.2]else r.1
theorem ZnL{m:Nat}{H:Za}{t:TypeId}{x y:Operand}{ok:Bool}{kt e:TypeId}{re:Zv}{l j:Nat}{k:AV}{es:List (AV×AV)}(hT:TOK P T)(ho:o.op= .lookup t x y ok)(h1:mapOf T t=some (kt,e,re))(h0:re.isAgg=false→re.size=1)
  (hx:ρ x= .map l j) (hy:ρ y=k) (hH:H l j=some (.map es)) (hk:YE T kt k=true) (hes:∀p∈es,YE T kt p.1=true):
  Yq P m o ρ H (lookA re k es ok) H:=fun E w a hr hops=>by
 have hxv:=hops x sO;have hyv:=hops y sO;rw[hx]at hxv;rw[hy]at hyv;obtain⟨hu,hre⟩:=Vy hT h1;obtain⟨d',i',z',hf'⟩:=Zd (hT e re hre);have he:execOp a.eval o=(do let v←Instr.lookup t (a.eval x) (a.eval y) ok;pure (Next.value v)):=by simp only[execOp,ho]
 generalize hp:a.eval x=p at hxv;cases hxv with|map _ _ b hm=>
 obtain⟨b',hm',ent,hc,hs,hv⟩:=hr.map l j es (hr.norm.Zak hm) hH;rw[hm]at hm';cases hm';obtain⟨f1,f2,f3,f4⟩:=Zdl hT (w:=w) hk hes hyv hs hv;have hg:(getObj b).run P w= .ok (.map ent es.length) w:=by simp[getObj,Sem.run,hc]
 cases hfa:Xz k es with
 |none=>
  rw[hfa]at f4;simp only[Qbb]at f4;refine⟨if ok then .tuple #[z',.bool false]else z',E,w,.inl ?_,?_,hr,.refl m E w⟩
  ·rw[he,hp];simp only[Instr.lookup,Sem.run_bind,run_underlying hu,Result.andThen_ok,hg,Sem.run_pure,f1,f4,Yk hf']
  ·unfold lookA;rw[hfa];cases ok with
   |true=>exact .tup _ [z',.bool false] rfl ((VRs.cons (Zfo hf' h0) (VRs.cons (.bool _) (VRs.nil E))).2)
   |false=>exact Zfo hf' h0
 |some i=>
  rw[hfa]at f4;have hi:=Zf3 hfa;have hi':i<ent.size:=by omega
  simp only[UE,UK hi',Us]at f4;have hval:=(hv i hi hi').2.1;refine⟨if ok then .tuple #[ent[i].val,.bool true]else ent[i].val,E,w,.inl ?_,?_,hr,.refl m E w⟩
  ·rw[he,hp];simp only[Instr.lookup,Sem.run_bind,run_underlying hu,Result.andThen_ok,hg,Sem.run_pure,f1,f4]
  ·unfold lookA;rw[hfa];have hgd:(es.getD i (.dead,.dead)).2=es[i].2:=by simp[Qp,Qd hi]
   simp only[hgd];cases ok with
   |true=>exact .tup _ [ent[i].val,.bool true] rfl ((VRs.cons hval (VRs.cons (.bool _) (VRs.nil E))).2)
   |false=>exact hval
theorem ZcB{t:TypeId}{x y:Operand}{ok:Bool}{kt e:TypeId}{re:Zv}{k:AV}(hT:TOK P T)(ho:o.op= .lookup t x y ok)(h1:mapOf T t=some (kt,e,re))(h0:re.isAgg=false→re.size=1)
  (hx:ρ x= .nilm) (hy:ρ y=k) (hk:YE T kt k=true):YV P o ρ (lookA re k [] ok):=fun E a hops=>by
 have hxv:=hops x sO;have hyv:=hops y sO;rw[hx]at hxv;rw[hy]at hyv;obtain⟨hu,hre⟩:=Vy hT h1;obtain⟨d',i',z',hf'⟩:=Zd (hT e re hre);have he:execOp a.eval o=(do let v←Instr.lookup t (a.eval x) (a.eval y) ok;pure (Next.value v)):=by simp only[execOp,ho]
 generalize hp:a.eval x=p at hxv;cases hxv;refine⟨if ok then .tuple #[z',.bool false]else z',fun w=>?_,?_⟩
 ·obtain⟨f1,f2,f3,f4⟩:=Zdl hT (w:=w) (es:=[]) (ent:=#[]) hk sm hyv rfl (fun i h=>absurd h (Qm _));rw[he,hp];have f4':(Instr.findKey kt (a.eval y) []).run P w= .ok none w:=f4;simp only[Instr.lookup,Sem.run_bind,run_underlying hu,Result.andThen_ok,Sem.run_pure,f1,f4',Yk hf']
 ·unfold lookA;have:Xz k []=none:=rfl;rw[this];cases ok with
  |true=>exact .tup _ [z',.bool false] rfl ((VRs.cons (Zfo hf' h0) (VRs.cons (.bool _) (VRs.nil E))).2)
  |false=>exact Zfo hf' h0
def ZaH(k v:AV)(es:List (AV×AV)):List (AV×AV):=
 match Xz k es with
 |some i=>es.set i (k,v)
 |none=>es++[(k,v)]
theorem V3{w:World}{b:Nat}{es:Array MapEntry}{c:Nat}{o':Obj}(hb:w.heap[b]? =some (.map es c)):(setObj b o').run P w= .ok () {w with heap:=w.heap.setIfInBounds b o'}:=by
 simp[setObj,Sem.run,hb]
theorem ZbV{m:Nat}{H:Za}{E:Env}{w:World}(hr:Zt m H E w){l j b:Nat}(hm:E.m l j=some b){x:Obj}(hb:w.heap[b]? =some x){es:List (AV×AV)}{ent:Array MapEntry}(hs:ent.size=es.length)
  (hv:∀i (h:i<es.length) (h':i<ent.size),VR E es[i].1 ent[i].key∧VR E es[i].2 ent[i].val∧ent[i].born=i):
  Zt m (H.upd l j (.map es)) E {w with heap:=w.heap.setIfInBounds b (.map ent es.length)}∧Ext m E w E {w with heap:=w.heap.setIfInBounds b (.map ent es.length)}:=by
 have hlt:b<w.heap.size:=(QN.1 hb).1;exact hr.turn (.inl hm) (.map es) (fun hg=>absurd (hr.m_g hm) hg) rfl rfl rfl (fun _=>Qe _) sm (fun b' hne=>by simp[UN (Ne.symm hne)]) (fun o=>hr.mF _ _ _ o hm)
  ⟨b,hm,ent,by simp[hlt],hs,hv⟩
theorem Zc5{m:Nat}{H:Za}{t:TypeId}{x y z:Operand}{kt e:TypeId}{re:Zv}{l j:Nat}{k v:AV}{es:List (AV×AV)}(hT:TOK P T)(ho:o.op= .mapUpdate t x y z∨o.op= .insert t x y z)(h1:mapOf T t=some (kt,e,re))
  (hx:ρ x= .map l j) (hy:ρ y=k) (hz:ρ z=v) (hH:H l j=some (.map es)) (hk:YE T kt k=true) (hes:∀p∈es,YE T kt p.1=true):
  Yq P m o ρ H (.tup []) (H.upd l j (.map (ZaH k v es))):=fun E w a hr hops=>by
 have hxv:=hops x (by rcases ho with ho|ho<;>simp[ho,Op.operands]);have hyv:=hops y (by rcases ho with ho|ho<;>simp[ho,Op.operands]);have hzv:=hops z (by rcases ho with ho|ho<;>simp[ho,Op.operands]);rw[hx]at hxv;rw[hy]at hyv;rw[hz]at hzv;obtain⟨hu,hre⟩:=Vy hT h1;have he:execOp a.eval o=(do Instr.mapUpdate t (a.eval x) (a.eval y) (a.eval z);pure .skip):=by rcases ho with ho|ho<;>simp only[execOp,ho]
 generalize hp:a.eval x=p at hxv;cases hxv with|map _ _ b hm=>
 obtain⟨b',hm',ent,hc,hs,hv⟩:=hr.map l j es (hr.norm.Zak hm) hH;rw[hm]at hm';cases hm';obtain⟨f1,f2,f3,f4⟩:=Zdl hT (w:=w) hk hes hyv hs hv;have hg:(getObj b).run P w= .ok (.map ent es.length) w:=by simp[getObj,Sem.run,hc]
 cases hfa:Xz k es with
 |none=>
  rw[hfa]at f4;simp only[Qbb]at f4;have hput:ZaH k v es=es++[(k,v)]:=by simp only[ZaH,hfa]
  obtain⟨hh,hxx⟩:=ZbV hr hm hc (es:=es++[(k,v)]) (ent:=ent.push {key:=a.eval y,val:=a.eval z,born:=es.length}) (by simp[hs]) (fun i h h'=>by
   rcases Qg i es.length with hi|hi
   ·rw[MG hi,Qbg om];exact hv i hi om
   ·have:i=es.length:=by simp at h;omega
    subst this;simp only[QaS];simp only[←hs,Qbl];exact⟨hyv,hzv,trivial⟩)
  refine⟨undef,E,_,.inr ⟨?_,rfl⟩,VY E,by rw[hput];exact hh,hxx⟩;rw[he,hp];simp only[Instr.mapUpdate,Sem.run_bind,run_underlying hu,Result.andThen_ok,hg,f1,f4,V3 hc,Sem.run_pure,Qh,Qo,QB,QF]
 |some i=>
  rw[hfa]at f4;have hi:=Zf3 hfa;have hi':i<ent.size:=by omega
  simp only[UE,UK hi',Us]at f4;have hkey:ent[i].key=a.eval y:=by obtain⟨_,h⟩:=f3 i hfa;exact h hi'
  have hput:ZaH k v es=es.set i (k,v):=by simp only[ZaH,hfa]
  obtain⟨hh,hxx⟩:=ZbV hr hm hc (es:=es.set i (k,v)) (ent:=ent.modify i fun e=>{e with key:=a.eval y,val:=a.eval z}) (by simp[hs]) (fun j h h'=>by
   simp only[Mc]at h;have h3:=hv j h om;rw[Gf,QaC];by_cases hij:i=j
   ·subst hij;simp only[if_true];exact⟨hyv,hzv,h3.2.2⟩
   ·simp only[hij,if_false];exact h3)
  refine⟨undef,E,_,.inr ⟨?_,rfl⟩,VY E,by rw[hput];exact hh,hxx⟩;rw[he,hp];simp only[Instr.mapUpdate,Sem.run_bind,run_underlying hu,Result.andThen_ok,hg,f1,f4,UK hi',Us,Um,hkey,f2,V3 hc,Sem.run_pure,Mc]
def Ze6(re:Zv)(k:AV)(es:List (AV×AV)):AV×List (AV×AV):=
 match Xz k es with
 |some i=>(.tup [(es.getD i (.dead,.dead)).2,.int .i64 i],es.set i (k,(es.getD i (.dead,.dead)).2))
 |none=>(.tup [XI re,.int .i64 es.length],es++[(k,XI re)])
theorem ZkR{m:Nat}{H:Za}{t:TypeId}{x y:Operand}{kt e:TypeId}{re:Zv}{l j:Nat}{k:AV}{es:List (AV×AV)}(hT:TOK P T)(ho:o.op= .mapEntry t x y)(h1:mapOf T t=some (kt,e,re))(h0:re.isAgg=false→re.size=1)
  (hx:ρ x= .map l j) (hy:ρ y=k) (hH:H l j=some (.map es)) (hk:YE T kt k=true) (hes:∀p∈es,YE T kt p.1=true):
  Yq P m o ρ H (Ze6 re k es).1 (H.upd l j (.map (Ze6 re k es).2)):=fun E w a hr hops=>by
 have hxv:=hops x sO;have hyv:=hops y sO;rw[hx]at hxv;rw[hy]at hyv;obtain⟨hu,hre⟩:=Vy hT h1;obtain⟨d',i',z',hf'⟩:=Zd (hT e re hre);have he:execOp a.eval o=(do let v←Instr.mapEntry t (a.eval x) (a.eval y);pure (Next.value v)):=by simp only[execOp,ho]
 generalize hp:a.eval x=p at hxv;cases hxv with|map _ _ b hm=>
 obtain⟨b',hm',ent,hc,hs,hv⟩:=hr.map l j es (hr.norm.Zak hm) hH;rw[hm]at hm';cases hm';obtain⟨f1,f2,f3,f4⟩:=Zdl hT (w:=w) hk hes hyv hs hv;have hg:(getObj b).run P w= .ok (.map ent es.length) w:=by simp[getObj,Sem.run,hc]
 cases hfa:Xz k es with
 |none=>
  rw[hfa]at f4;simp only[Qbb]at f4;have hput:Ze6 re k es=(.tup [XI re,.int .i64 es.length],es++[(k,XI re)]):=by simp only[Ze6,hfa]
  obtain⟨hh,hxx⟩:=ZbV hr hm hc (es:=es++[(k,XI re)]) (ent:=ent.push {key:=a.eval y,val:=z',born:=es.length}) (by simp[hs]) (fun i h h'=>by
   rcases Qg i es.length with hi|hi
   ·rw[MG hi,Qbg om];exact hv i hi om
   ·have:i=es.length:=by simp at h;omega
    subst this;simp only[QaS];simp only[←hs,Qbl];exact⟨hyv,ZbX hf' h0,trivial⟩)
  refine⟨.tuple #[z',.int .i64 es.length],E,_,.inl ?_,?_,by rw[hput];exact hh,hxx⟩
  ·rw[he,hp];simp only[Instr.mapEntry,Sem.run_bind,run_underlying hu,Result.andThen_ok,hg,f1,f4,Yk hf',V3 hc,Sem.run_pure,Qh,Qo,QB,QF,goInt]
  ·rw[hput];exact .tup _ [z',.int .i64 es.length] rfl ((VRs.cons (ZbX hf' h0) (VRs.cons (.int _ _) (VRs.nil E))).2)
 |some i=>
  rw[hfa]at f4;have hi:=Zf3 hfa;have hi':i<ent.size:=by omega
  simp only[UE,UK hi',Us]at f4;have hkey:ent[i].key=a.eval y:=by obtain⟨_,h⟩:=f3 i hfa;exact h hi'
  have hgd:(es.getD i (.dead,.dead)).2=es[i].2:=by simp[Qp,Qd hi]
  have hput:Ze6 re k es=(.tup [es[i].2,.int .i64 i],es.set i (k,es[i].2)):=by simp only[Ze6,hfa,hgd]
  have hborn:=(hv i hi hi').2.2;obtain⟨hh,hxx⟩:=ZbV hr hm hc (es:=es.set i (k,es[i].2)) (ent:=ent.modify i fun e=>{e with key:=a.eval y}) (by simp[hs]) (fun j h h'=>by
   simp only[Mc]at h;have h3:=hv j h om;rw[Gf,QaC];by_cases hij:i=j
   ·subst hij;simp only[if_true];exact⟨hyv,h3.2.1,h3.2.2⟩
   ·simp only[hij,if_false];exact h3)
  refine⟨.tuple #[ent[i].val,.int .i64 i],E,_,.inl ?_,?_,by rw[hput];exact hh,hxx⟩
  ·rw[he,hp];simp only[Instr.mapEntry,Sem.run_bind,run_underlying hu,Result.andThen_ok,hg,f1,f4,UK hi',Us,Um,hkey,f2,V3 hc,Sem.run_pure,Mc,goInt,hborn]
  ·rw[hput];exact .tup _ [ent[i].val,.int .i64 i] rfl ((VRs.cons (hv i hi hi').2.1 (VRs.cons (.int _ _) (VRs.nil E))).2)
theorem Zg7{ent:Array MapEntry}{n i:Nat}(hs:ent.size=n)(hb:∀j (h:j<ent.size),ent[j].born=j)(hi:i<n):ent.findIdx? (fun e=>((e.born:Nat):Int)==((i:Nat):Int))=some i:=by
 rw[Array.findIdx?_eq_some_iff_getElem];refine⟨om,?_,fun j hj=>?_⟩
 ·simp[hb i om]
 ·simp only[hb j om,beq_iff_eq];omega
theorem Zg4{m:Nat}{H:Za}{t:TypeId}{x y z:Operand}{l j:Nat}{i:Nat}{kk:IntKind}{v:AV}{es:List (AV×AV)}(ho:o.op= .entryStore t x y z)(hx:ρ x= .map l j)(hy:ρ y= .int kk i)(hz:ρ z=v)(hH:H l j=some (.map es))(hi:i<es.length):
  Yq P m o ρ H (.tup []) (H.upd l j (.map (es.set i ((es.getD i (.dead,.dead)).1,v)))):=fun E w a hr hops=>by
 have hxv:=hops x sO;have hyv:=hops y sO;have hzv:=hops z sO;rw[hx]at hxv;rw[hy]at hyv;rw[hz]at hzv;have he:execOp a.eval o=(do Instr.entryStore t (a.eval x) (a.eval y) (a.eval z);pure .skip):=by simp only[execOp,ho]
 generalize hp:a.eval x=p at hxv;generalize hq:a.eval y=q at hyv;cases hxv with|map _ _ b hm=>
 cases hyv;obtain⟨b',hm',ent,hc,hs,hv⟩:=hr.map l j es (hr.norm.Zak hm) hH;rw[hm]at hm';cases hm';have hg:(getObj b).run P w= .ok (.map ent es.length) w:=by simp[getObj,Sem.run,hc]
 have hfi:=Zg7 hs (fun j h=>(hv j om h).2.2) hi;have hgd:(es.getD i (.dead,.dead)).1=es[i].1:=by simp[Qp,Qd hi]
 obtain⟨hh,hxx⟩:=ZbV hr hm hc (es:=es.set i (es[i].1,v)) (ent:=ent.modify i fun e=>{e with val:=a.eval z}) (by simp[hs]) (fun j h h'=>by
   simp only[Mc]at h;have h3:=hv j h om;rw[Gf,QaC];by_cases hij:i=j
   ·subst hij;simp only[if_true];exact⟨h3.1,hzv,h3.2.2⟩
   ·simp only[hij,if_false];exact h3)
 refine⟨undef,E,_,.inr ⟨?_,rfl⟩,VY E,by rw[hgd];exact hh,hxx⟩;rw[he,hp,hq];simp only[Instr.entryStore,Sem.run_bind,Sem.run_pure,Result.andThen_ok,hg,asInt,asIntOf,hfi,V3 hc,Mc]
end ops
def Za6(P:Program)(m:Nat)(o:Oper)(ρ:Operand→AV)(H:Za)(S:AV→Za→Prop):Prop:=
 ∀E w (a:Act) (Q:Exit→Act→World→Prop) (K:Act→World→Prop),Zt m H E w→(∀x∈o.op.operands,VR E (ρ x) (a.eval x))→
  (∀E' w' cv v H',S v H'→VR E' v cv→Zt m H' E' w'→Ext m E w E' w'→K (a.put o.dst cv) w')→ ∀ro,o.wpIn (fr ro) 0 P a w K Q
def Ztb(H:Za)(l k l' j:Nat)(es:List (AV×AV))(seen:List Nat)(v:AV)(H':Za):Prop:=
 ((∀i,i<es.length→i∈seen)∧v= .tup [.bool false]∧H'=H)∨
 ∃i,i<es.length∧i∉seen∧v= .tup [.bool true,(es.getD i (.dead,.dead)).1,(es.getD i (.dead,.dead)).2]∧H'=H.upd l k (.iter l' j es.length (seen++[i]))
theorem Zt.Zpa{m:Nat}{H:Za}{E:Env}{w:World}(hr:Zt m H E w){l k l' j b b' since:Nat}{seen:List Nat}{x:Obj}(hm:E.m l k=some b)(hm':E.m l' j=some b')(hb:w.heap[b]? =some x):
  Zt m (H.upd l k (.iter l' j since seen)) E {w with heap:=w.heap.setIfInBounds b (.mapIter (some b') since seen.toArray since)}∧Ext m E w E {w with heap:=w.heap.setIfInBounds b (.mapIter (some b') since seen.toArray since)}:=by
 have hlt:b<w.heap.size:=(QN.1 hb).1;exact hr.turn (.inl hm) (.iter l' j since seen) (fun hg=>absurd (hr.m_g hm) hg) rfl rfl rfl (fun _=>Qe _) sm (fun b' hne=>by simp[UN (Ne.symm hne)]) (fun o=>hr.mF _ _ _ o hm)
  ⟨b,b',hm,hm',by simp[hlt]⟩
section ops
variable {P:Program} {T:TT} {o:Oper} {ρ:Operand→AV}
theorem Zom{m:Nat}{H:Za}{t:TypeId}{x:Operand}{kt e:TypeId}{re:Zv}{l k l' j:Nat}{es:List (AV×AV)}(hT:TOK P T)(ho:o.op= .range t x)(h1:mapOf T t=some (kt,e,re))
  (hx:ρ x= .map l' j) (hH:H l' j=some (.map es)) (hl:l<m) (hfree:H l k=none):
  Yq P m o ρ H (.ptr l k 0) (H.upd l k (.iter l' j es.length [])):=fun E w a hr hops=>by
 have hxv:=hops x sO;rw[hx]at hxv;obtain⟨hu,hre⟩:=Vy hT h1;have he:execOp a.eval o=(do let v←Instr.range t (a.eval x);pure (Next.value v)):=by simp only[execOp,ho]
 generalize hp:a.eval x=p at hxv;cases hxv with|map _ _ b hm=>
 obtain⟨b',hm',ent,hc,hs,hv⟩:=hr.map l' j es (hr.norm.Zak hm) hH;rw[hm]at hm';cases hm';have hne:¬(l'=l∧j=k):=fun hc=>by rw[hc.1,hc.2,hfree]at hH;cases hH
 obtain⟨hh,hxx⟩:=hr.Zdi hl hfree (.mapIter (some b) es.length #[] es.length) (.iter l' j es.length []) ⟨w.heap.size,b,by simp[Env.XZ],by simp only[Env.XZ];rw[if_neg hne];exact hm,heap_alloc_new w _⟩;refine⟨.pointer (some ⟨w.heap.size,0,none⟩),_,_,.inl ?_,.ptr l k 0 _ (by simp[Env.XZ]),hh,hxx⟩;rw[he,hp];simp[Instr.range,Sem.run_bind,run_underlying hu,getObj,Sem.run,hc,newObj,Result.andThen]
theorem run_next_at{w:World}{ty:TypeId}{r bm:Nat}{seen:List Nat}{es:Array MapEntry}{n:Nat}(hr:w.heap[r]? =some (.mapIter (some bm) n seen.toArray n))(hb:w.heap[bm]? =some (.map es n))(hs:es.size=n)
  (hborn:∀i (h:i<es.size),es[i].born=i):
  ((∀i,i<n→i∈seen)∧(Instr.next (.pointer (some ⟨r,0,none⟩)) false ty).run P w= .ok (.tuple #[.bool false]) w)∨
  ∃(i:Nat) (h:i<es.size),i∉seen∧ ∃dr,w.drawn≤dr∧(Instr.next (.pointer (some ⟨r,0,none⟩)) false ty).run P w= .ok (.tuple #[.bool true,es[i].key,es[i].val]) {w with heap:=w.heap.setIfInBounds r (.mapIter (some bm) n (seen++[i]).toArray n),drawn:=dr}:=by
 have hold:∀x∈es.toList,x.born<n:=by
  intro x hx;obtain⟨i,hi,rfl⟩:=QJ hx;simp only[Uf]at hi;simp only[U9,hborn i hi];omega
 simp only[Instr.next,getObj,Sem.run_bind,Sem.run,hr,hb,Result.andThen,next_test_false seen.toArray es n n hold (Qe _),QT,if_false];have hmem:∀x,x∈(Array.filter (fun e=>!seen.toArray.contains e.born) es).toList→ ∃(i:Nat) (h:i<es.size),x=es[i]∧i∉seen:=by
  intro x hx;simp only[Array.toList_filter,MH,G9,Array.mem_toList_iff]at hx;obtain⟨i,hi,rfl⟩:=Array.getElem_of_mem hx.1;refine⟨i,hi,rfl,fun hc=>?_⟩;have:=hx.2;rw[hborn i hi]at this;simp[hc]at this
 have hall:(Array.filter (fun e=>!seen.toArray.contains e.born) es).size=0→ ∀i,i<n→i∈seen:=by
  intro h0 i hi;have he:Array.filter (fun e=>!seen.toArray.contains e.born) es= #[]:=UR h0;rw[QaY]at he;have:=he es[i] (Array.getElem_mem om);rw[hborn i om]at this;simpa using this
 generalize Array.filter (fun e=>!seen.toArray.contains e.born) es=L at hmem hall⊢;have hlt:∀x∈L.toList,x.born<n:=by
  intro x hx;obtain⟨i,hi,rfl,_⟩:=hmem x hx;rw[hborn i hi];omega
 have e1:L.filter (fun x=>decide (x.born<n))=L:=Array.filter_eq_self.2 (fun x hx=>by simpa using hlt x (by simpa using hx));have e2:L.filter (fun x=>decide (x.born ≥ n))= #[]:=by
  rw[QaY];intro x hx;have:=hlt x (by simpa using hx);simp;omega
 simp only[e1,e2,Array.append_empty];by_cases h0:L.size=0
 ·left
  refine⟨hall h0,?_⟩;have:L= #[]:=UR h0;subst this;simp[choose,Sem.run,Question.forced]
 ·right
  have hne:L.isEmpty=false:=by simp[Array.isEmpty,h0]
  simp only[hne,QT,if_false,Array.empty_append,Array.size_map];have hch:∃(j dr:Nat),j<L.size∧w.drawn≤dr∧(choose (Question.mapNext L.size)).run P w= .ok j {w with drawn:=dr}:=by
   by_cases hf:L.size≤1
   ·exact⟨0,w.drawn,om,Qe _,by simp[choose,Sem.run,Question.forced,hf]⟩
   ·exact⟨_,w.drawn+1,QaN _ om,Uj _,by
     simp only[choose,Sem.run,Question.forced,decide_eq_true_eq,hf,if_false,Question.cut];rfl⟩
  obtain⟨j,dr,hj,hdr,hrun⟩:=hch;obtain⟨i,hi,hei,hns⟩:=hmem L[j] sm;refine⟨i,hi,hns,dr,hdr,?_⟩;have hset:∀o',(setObj r o').run P {w with drawn:=dr}= .ok () {w with heap:=w.heap.setIfInBounds r o',drawn:=dr}:=fun o'=>by
   simp only[setObj,Sem.run,hr]
  simp only[hrun,Array.getElem?_map,UK hj,Us,Sem.run_bind,hset,Result.andThen];rw[hei,hborn i hi];simp[Sem.run]
theorem ZqQ{m:Nat}{H:Za}{x:Operand}{l k l' j:Nat}{es:List (AV×AV)}{seen:List Nat}(ho:o.op= .next x false)(hx:ρ x= .ptr l k 0)(hH:H l k=some (.iter l' j es.length seen))(hM:H l' j=some (.map es)):
  Za6 P m o ρ H (Ztb H l k l' j es seen):=fun E w a Q K hr hops hK ro=>by
 have hxv:=hops x sO;rw[hx]at hxv;have he:execOp a.eval o=(do let v←Instr.next (a.eval x) false o.type;pure (Next.value v)):=by simp only[execOp,ho]
 generalize hp:a.eval x=p at hxv;cases hxv with|ptr _ _ _ b hm=>
 obtain⟨r,r',a1,a2,a3⟩:=hr.blk l k _ (hr.norm.Zak hm) hH;rw[hm]at a1;cases a1;obtain⟨b',hm',ent,hc,hs,hv⟩:=hr.map l' j es (hr.norm.Zak a2) hM;rw[a2]at hm';cases hm';rcases run_next_at (P:=P) (ty:=o.type) a3 hc hs (fun i h=>(hv i om h).2.2)with⟨n1,n2⟩|⟨i,hi,n1,dr,hdr,n2⟩
 ·have hrun:(execOp a.eval o).run P w= .ok (.value (.tuple #[.bool false])) w:=by
   rw[he,hp];simp only[Sem.run_bind,n2,Result.andThen_ok,Sem.run_pure]
  refine Y9 hrun (fun _ e=>by cases e) ?_;exact hK E w _ (.tup [.bool false]) H (.inl ⟨n1,rfl,rfl⟩) (.tup _ [.bool false] rfl ((VRs.cons (.bool _) (VRs.nil E)).2)) hr (.refl m E w)
 ·have hrun:(execOp a.eval o).run P w= .ok (.value (.tuple #[.bool true,ent[i].key,ent[i].val])) {w with heap:=w.heap.setIfInBounds b (.mapIter (some r') es.length (seen++[i]).toArray es.length),drawn:=dr}:=by
   rw[he,hp];simp only[Sem.run_bind,n2,Result.andThen_ok,Sem.run_pure]
  refine Y9 hrun (fun _ e=>by cases e) ?_;have hi2:i<es.length:=by omega
  obtain⟨hh,hxx⟩:=hr.Zpa (since:=es.length) (seen:=seen++[i]) hm a2 a3;have hgd:es.getD i (.dead,.dead)=es[i]:=by simp[Qp,Qd hi2]
  obtain⟨q1,q2,_⟩:=hv i hi2 hi;refine hK E _ _ (.tup [.bool true,es[i].1,es[i].2]) (H.upd l k (.iter l' j es.length (seen++[i]))) (.inr ⟨i,hi2,n1,by rw[hgd],rfl⟩)
   (.tup _ [.bool true,ent[i].key,ent[i].val] rfl ((VRs.cons (.bool _) (VRs.cons q1 (VRs.cons q2 (VRs.nil E)))).2)) ?_ ?_
  ·exact{norm:=hh.norm,F:=hh.F,blk:=fun l k b hl hb=>(hh.blk l k b hl hb).keep rfl rfl (fun _=>rfl) (fun _ _ _ h=>h) (fun _ _=>rfl) (fun _ _ _ h=>h) (fun _ _ _ h=>h),dom:=hh.dom,nobuf:=hh.nobuf,inj:=hh.inj,injg:=hh.injg,mg:=hh.mg,mF:=hh.mF,lt:=hh.lt}
  ·exact⟨hxx.le,hxx.os,hxx.tape,hxx.output,fun _=>hdr,hxx.size,hxx.block,hxx.own⟩
theorem ZpG{m:Nat}{H:Za}{x:Operand}{l k l' j i:Nat}{es:List (AV×AV)}{seen:List Nat}(ho:o.op= .entry x)(hx:ρ x= .ptr l k 0)(hH:H l k=some (.iter l' j es.length (seen++[i])))(hM:H l' j=some (.map es))(hi:i<es.length):
  Yq P m o ρ H (.tup [(es.getD i (.dead,.dead)).1,(es.getD i (.dead,.dead)).2]) H:=fun E w a hr hops=>by
 have hxv:=hops x sO;rw[hx]at hxv;have he:execOp a.eval o=(do let v←Instr.entry (a.eval x);pure (Next.value v)):=by simp only[execOp,ho]
 generalize hp:a.eval x=p at hxv;cases hxv with|ptr _ _ _ b hm=>
 obtain⟨r,r',a1,a2,a3⟩:=hr.blk l k _ (hr.norm.Zak hm) hH;rw[hm]at a1;cases a1;obtain⟨b',hm',ent,hc,hs,hv⟩:=hr.map l' j es (hr.norm.Zak a2) hM;rw[a2]at hm';cases hm';have hi':i<ent.size:=by omega
 have hf:ent.find? (·.born==i)=some ent[i]:=by
  rw[←Array.find?_toList];rw[List.find?_eq_some_iff_getElem];refine⟨by simp[(hv i hi hi').2.2],i,by simpa using hi',sm,fun j' hj'=>?_⟩;have:=(hv j' om om).2.2;simp only[U9,this,G9,beq_eq_false_iff_ne];omega
 have hgd:es.getD i (.dead,.dead)=es[i]:=by simp[Qp,Qd hi]
 obtain⟨q1,q2,_⟩:=hv i hi hi';refine⟨.tuple #[ent[i].key,ent[i].val],E,w,.inl ?_,by rw[hgd];exact .tup _ [ent[i].key,ent[i].val] rfl ((VRs.cons q1 (VRs.cons q2 (VRs.nil E))).2),hr,.refl m E w⟩;rw[he,hp];have hbk:(seen++[i]).toArray.back? =some i:=by simp
 simp only[Instr.entry,getObj,Sem.run_bind,Sem.run,a3,hc,Result.andThen,hbk,bne_self_eq_false,QT,if_false,hf];rfl
theorem Zew{t:TypeId}{x ix:Operand}{r re:Zv}{e:TypeId}{sz l k n:Nat}{kk:IntKind}{i:Int}(hT:TOK P T)(ho:o.op= .indexAddr t x ix)
  (h1:T t=some r) (h2:r.td= .slice e) (h3:T e=some re) (hv:ρ x= .msl sz l k n) (hi:ρ ix= .int kk i) (hlo:0≤i) (hhi:i<n):
  YV P o ρ (.eptr l k n (i.toNat*re.size)):=fun E a h=>by
 have hx:=h x sO;have hix:=h ix sO;rw[hv]at hx;rw[hi]at hix;obtain⟨d,inf,z,hf⟩:=Zd (hT t r h1);obtain⟨d',i',z',hf'⟩:=Zd (hT e re h3);have hd:=ZH (h2▸hf.fits);subst hd;cases hyi:a.eval ix<;>rw[hyi]at hix<;>cases hix;generalize hy:a.eval x=y at hx;cases hx with
 |mnil=>omega
 |msl _ _ _ _ g cap hh=>
  refine⟨.pointer (some ⟨g,i.toNat*re.size,none⟩),fun w=>?_,.eptr l k n _ g cap hh⟩;simp[execOp,ho,hy,hyi,Instr.indexAt,asIntOf,run_underlying hf.und,hlo,hhi,ZF hf',ZI]
theorem Zed{t:TypeId}{x ix:Operand}{r re:Zv}{e:TypeId}{sz l k n off m:Nat}{kk:IntKind}{i:Int}(hT:TOK P T)(ho:o.op= .indexAddr t x ix)
  (h1:T t=some r) (h2:r.td= .slice e) (h3:T e=some re) (hsz:sz=re.size) (hv:ρ x= .sub sz l k n off m) (hi:ρ ix= .int kk i) (hlo:0≤i) (hhi:i<m):
  YV P o ρ (.eptr l k n ((off+i.toNat)*re.size)):=fun E a h=>by
 have hx:=h x sO;have hix:=h ix sO;rw[hv]at hx;rw[hi]at hix;obtain⟨d,inf,z,hf⟩:=Zd (hT t r h1);obtain⟨d',i',z',hf'⟩:=Zd (hT e re h3);have hd:=ZH (h2▸hf.fits);subst hd;cases hyi:a.eval ix<;>rw[hyi]at hix<;>cases hix;generalize hy:a.eval x=y at hx;cases hx with
 |sub _ _ _ _ _ _ g cap hh hm=>
  refine⟨.pointer (some ⟨g,(off+i.toNat)*re.size,none⟩),fun w=>?_,.eptr l k n _ g cap hh⟩;subst hsz;simp[execOp,ho,hy,hyi,Instr.indexAt,asIntOf,run_underlying hf.und,hlo,hhi,ZF hf',ZI,Ue]
theorem Zlz{t:TypeId}{x:Operand}{r:Zv}{e:TypeId}{sz l k n:Nat}(hT:TOK P T)(ho:o.op= .call {callee:=.builtin .len,args:=#[x],argTypes:=#[t]})
  (h1:T t=some r) (h2:r.td= .slice e) (hv:ρ x= .msl sz l k n):YV P o ρ (.int .i64 n):=fun E a h=>by
 have hx:=h x sC;rw[hv]at hx;obtain⟨d,inf,z,hf⟩:=Zd (hT t r h1);have hd:=ZH (h2▸hf.fits);subst hd;generalize hy:a.eval x=y at hx;cases hx with
 |mnil=>exact⟨_,fun w=>by simp[execOp,ho,hy,resolve,invoke,builtin,Builtin.len_,run_underlying hf.und,goInt],.int _ _⟩
 |msl=>exact⟨_,fun w=>by simp[execOp,ho,hy,resolve,invoke,builtin,Builtin.len_,run_underlying hf.und,goInt],.int _ _⟩
theorem Zla{t:TypeId}{x:Operand}{r:Zv}{e:TypeId}{sz l k n off m:Nat}(hT:TOK P T)(ho:o.op= .call {callee:=.builtin .len,args:=#[x],argTypes:=#[t]})
  (h1:T t=some r) (h2:r.td= .slice e) (hv:ρ x= .sub sz l k n off m):YV P o ρ (.int .i64 m):=fun E a h=>by
 have hx:=h x sC;rw[hv]at hx;obtain⟨d,inf,z,hf⟩:=Zd (hT t r h1);have hd:=ZH (h2▸hf.fits);subst hd;generalize hy:a.eval x=y at hx;cases hx with
 |sub=>exact⟨_,fun w=>by simp[execOp,ho,hy,resolve,invoke,builtin,Builtin.len_,run_underlying hf.und,goInt],.int _ _⟩
theorem ZdL{t:TypeId}{x:Operand}{f:Nat}{r rf:Zv}{fs:List (Nat×TypeId)}{fo ft l k n off:Nat}(hT:TOK P T)(ho:o.op= .fieldAddr t x f)(h1:T t=some r)(h2:r.td= .struct fs)
  (h3:fs[f]? =some (fo,ft)) (h4:T ft=some rf) (h5:rf.size≠0) (hv:ρ x= .eptr l k n off):YV P o ρ (.eptr l k n (off+fo)):=fun E a h=>by
 have hx:=h x sO;rw[hv]at hx;obtain⟨d,i,z,hf⟩:=Zd (hT t r h1);obtain⟨d',i',z',hf'⟩:=Zd (hT ft rf h4);obtain⟨gs,rfl,hgs,_⟩:=ZbA (h2▸hf.fits);have hg:∃g,gs[f]? =some g∧g.offset=fo∧g.type=ft:=by
  have h3':=h3;rw[←hgs,QZ]at h3';cases hq:gs.toList[f]? with
  |none=>simp[hq]at h3'
  |some g=>rw[hq]at h3';simp at h3';exact⟨g,by rw[←Array.getElem?_toList];exact hq,h3'.1,h3'.2⟩
 obtain⟨g,hg1,hg2,hg3⟩:=hg;generalize hy:a.eval x=y at hx;cases hx with|eptr _ _ _ _ b cap hh=>
 refine⟨.pointer (some ⟨b,off+fo,none⟩),fun w=>?_,.eptr l k n _ b cap hh⟩;simp[execOp,ho,hy,Instr.fieldAt,run_underlying hf.und,hg1,Instr.sureAddr,fieldPlace,hg3,ZF hf',h5,ZI,hg2]
end ops
section
variable {P:Program} {T:TT} {o:Oper} {ρ:Operand→AV}
theorem Zin{t:TypeId}{x:Operand}{r:Zv}(hT:TOK P T)(ho:o.op= .makeInterface t x)(h1:T t=some r)(h2:r.td≠ .iface):YV P o ρ (.ifc t (ρ x)):=fun E a h=>by
 obtain⟨d,i,z,hf⟩:=Zd (hT t r h1);have hx:=h x sO;refine⟨.iface t (a.eval x),fun w=>?_,.ifc t _ _ hx⟩;have hu:P.underlying t=some d:=hf.und;have hfit:=hf.fits;simp only[execOp,ho,Instr.makeInterface,Sem.run_bind,run_underlying hu,Result.andThen_ok];cases d<;>first|(simp[Sem.run_pure];done)|skip
 all_goals(cases hr:r.td<;>rw[hr]at hfit<;>first|(simp[TD.fits]at hfit;done)|exact absurd hr h2)
theorem ZgY{x:Operand}{xt t:TypeId}{r:Zv}{v:AV}(hT:TOK P T)(ho:o.op= .typeAssert x xt t true)(h1:T t=some r)(h2:r.td≠ .iface)(hx:ρ x= .ifc t v):YV P o ρ (.tup [v,.bool true]):=fun E a h=>by
 obtain⟨d,i,z,hf⟩:=Zd (hT t r h1);have hv:=h x sO;rw[hx]at hv;cases hy:a.eval x<;>rw[hy]at hv<;>cases hv;rename_i u hu;refine⟨.tuple #[u,.bool true],fun w=>?_,?_⟩
 ·have hud:P.underlying t=some d:=hf.und;have hfit:=hf.fits;simp only[execOp,ho,hy,Instr.typeAssert,Sem.run_bind,run_underlying hud,Result.andThen_ok];cases d<;>first|(simp[Sem.run_pure];done)|skip
  all_goals(cases hr:r.td<;>rw[hr]at hfit<;>first|(simp[TD.fits]at hfit;done)|exact absurd hr h2)
 ·exact .tup [v,.bool true] [u,.bool true] rfl (VRs.cons hu (VRs.cons (.bool true) (VRs.nil E))).2
theorem Ze9{x:Operand}{xt t:TypeId}{r:Zv}{v:AV}(hT:TOK P T)(ho:o.op= .typeAssert x xt t false)(h1:T t=some r)(h2:r.td≠ .iface)(hx:ρ x= .ifc t v):YV P o ρ v:=fun E a h=>by
 obtain⟨d,i,z,hf⟩:=Zd (hT t r h1);have hv:=h x sO;rw[hx]at hv;cases hy:a.eval x<;>rw[hy]at hv<;>cases hv;rename_i u hu;refine⟨u,fun w=>?_,hu⟩;have hud:P.underlying t=some d:=hf.und;have hfit:=hf.fits;simp only[execOp,ho,hy,Instr.typeAssert,Sem.run_bind,run_underlying hud,Result.andThen_ok];cases d<;>first|(simp[Sem.run_pure];done)|skip
 all_goals(cases hr:r.td<;>rw[hr]at hfit<;>first|(simp[TD.fits]at hfit;done)|exact absurd hr h2)
theorem Zid{x:Operand}{xt t t':TypeId}{r:Zv}{v:AV}(hT:TOK P T)(ho:o.op= .typeAssert x xt t true)(h1:T t=some r)(h2:r.td≠ .iface)(h3:t'≠t)(h0:r.isAgg=false→r.size=1)(hx:ρ x= .ifc t' v):YV P o ρ (.tup [XI r,.bool false]):=fun E a h=>by
 obtain⟨d,i,z,hf⟩:=Zd (hT t r h1);have hv:=h x sO;rw[hx]at hv;cases hy:a.eval x<;>rw[hy]at hv<;>cases hv;refine⟨.tuple #[z,.bool false],fun w=>?_,?_⟩
 ·have hud:P.underlying t=some d:=hf.und;have hfit:=hf.fits;simp only[execOp,ho,hy,Instr.typeAssert,Sem.run_bind,run_underlying hud,Result.andThen_ok];cases d<;>first|(simp[Sem.run_pure,h3,Yk hf];done)|skip
  all_goals(cases hr:r.td<;>rw[hr]at hfit<;>first|(simp[TD.fits]at hfit;done)|exact absurd hr h2)
 ·exact .tup _ [z,.bool false] rfl (VRs.cons (ZbX hf h0) (VRs.cons (.bool false) (VRs.nil E))).2
theorem Zg5{x:Operand}{xt t:TypeId}{r:Zv}(hT:TOK P T)(ho:o.op= .typeAssert x xt t true)(h1:T t=some r)(h2:r.td≠ .iface)(h0:r.isAgg=false→r.size=1)(hx:ρ x= .nili):YV P o ρ (.tup [XI r,.bool false]):=fun E a h=>by
 obtain⟨d,i,z,hf⟩:=Zd (hT t r h1);have hv:=h x sO;rw[hx]at hv;cases hy:a.eval x<;>rw[hy]at hv<;>cases hv;refine⟨.tuple #[z,.bool false],fun w=>?_,?_⟩
 ·have hud:P.underlying t=some d:=hf.und;have hfit:=hf.fits;simp only[execOp,ho,hy,Instr.typeAssert,Sem.run_bind,run_underlying hud,Result.andThen_ok];cases d<;>first|(simp[Sem.run_pure,Yk hf];done)|skip
  all_goals(cases hr:r.td<;>rw[hr]at hfit<;>first|(simp[TD.fits]at hfit;done)|exact absurd hr h2)
 ·exact .tup _ [z,.bool false] rfl (VRs.cons (ZbX hf h0) (VRs.cons (.bool false) (VRs.nil E))).2
def ZqL(y:Operand)(v:AV):Option Bool:=match y with
 | .const (.slice none 0 0)=>(match v with
  | .Xg=>some true
  | .sl _ (_::_) _=>some false
  | .sln _=>some false
  | .msl _ _ _ (_+1)=>some false
  |_=>none)
 |_=>none
theorem Zqq{op:BinOp}{t yt:TypeId}{x y:Operand}{r:Zv}{e:TypeId}{b:Bool}(hT:TOK P T)(ho:o.op= .binOp op t x y yt)(h1:T t=some r)(h2:r.td= .slice e)(hq:ZqL y (ρ x)=some b)(hop:op= .eql∨op= .neq):YV P o ρ (.bool (if op= .eql then b else !b)):=fun E a h=>by
 have k1:=h x sO;obtain⟨d,inf,z,hf⟩:=Zd (hT t r h1);unfold ZqL at hq;split at hq
 ·have k2:VR E .Xg (a.eval (.const (.slice none 0 0))):=.Xg;split at hq
  ·rename_i hx;cases hq;rw[hx]at k1;obtain⟨h3,h4⟩:=JK (P:=P) hf.und (h2▸hf.fits) k1 k2 (.ss e) hop;exact⟨_,Yr ho rfl rfl h4 h3,.bool _⟩
  ·rename_i hx;cases hq;rw[hx]at k1;obtain⟨h3,h4⟩:=JK (P:=P) hf.und (h2▸hf.fits) k1 k2 (.sn e _ _ _ _) hop;exact⟨_,Yr ho rfl rfl h4 h3,.bool _⟩
  ·rename_i hx;cases hq;rw[hx]at k1;obtain⟨h3,h4⟩:=JK (P:=P) hf.und (h2▸hf.fits) k1 k2 (.sx e _) hop;exact⟨_,Yr ho rfl rfl h4 h3,.bool _⟩
  ·rename_i hx;cases hq;rw[hx]at k1;obtain⟨h3,h4⟩:=JK (P:=P) hf.und (h2▸hf.fits) k1 k2 (.sm e _ _ _ _) hop;exact⟨_,Yr ho rfl rfl h4 h3,.bool _⟩
  ·cases hq
 ·cases hq
end
section
variable {P:Program} {T:TT} {o:Oper} {ρ:Operand→AV}
theorem Zgf{n:Nat}{e:TypeId}{d:TypeDesc}(h:(TD.array n e).fits d=true):d= .array n e:=by
 cases d<;>simp[TD.fits]at h;obtain⟨rfl,rfl⟩:=h;rfl
theorem Zh7{t:TypeId}{ps:Array (Nat×Operand)}{r re:Zv}{n:Nat}{e:TypeId}{out:List AV}(hT:TOK P T)(ho:o.op= .build t ps)(h1:T t=some r)(h2:r.td= .array n e)(h3:T e=some re)
  (hf:Zdr (fun i=>some (i*re.size,re.size)) r.zero (YZ ρ ps.toList)=some out) (hone:∀p∈YZ ρ ps.toList,∀c∈p.2.cells,c.one=true):YV P o ρ (.agg out):=fun E a h=>by
 obtain⟨d,inf,z,hr⟩:=Zd (hT t r h1);obtain⟨d',inf',z',hr'⟩:=Zd (hT e re h3);have hd:=Zgf (h2▸hr.fits);subst hd;have hz:VRs E r.zero z.cells.toList:=Xt hr.zfits;have hparts:∀i (h:i<(YZ ρ ps.toList).length) (h':i<(ps.toList.map fun p=>(p.1,a.eval p.2)).length),
   (YZ ρ ps.toList)[i].1=(ps.toList.map fun p=>(p.1,a.eval p.2))[i].1∧VR E (YZ ρ ps.toList)[i].2 (ps.toList.map fun p=>(p.1,a.eval p.2))[i].2∧(∀c∈(YZ ρ ps.toList)[i].2.cells,c.one=true):=by
  intro i h1 h2;refine⟨by simp[YZ],?_,fun c hc=>hone _ (Qa h1) c hc⟩;simp only[YZ,QO];have hi:i<ps.toList.length:=by simpa[YZ]using h1
  exact h _ (by rw[ho];simp only[Op.operands];simp only[Qay,Qb];exact⟨ps.toList[i],sm,rfl⟩)
 obtain⟨us,hu1,hu2⟩:=Zf9 hf hz (by simp[YZ]) hparts;refine⟨.agg us,fun w=>?_,?_⟩
 ·have he:execOp a.eval o=(do let v←Instr.build t (ps.map fun(i,x)=>(i,a.eval x));pure (Next.value v)):=by simp only[execOp,ho]
  have hm:(ps.map fun(i,x)=>(i,a.eval x)).toList=ps.toList.map fun p=>(p.1,a.eval p.2):=by simp
  rw[he];have hu1':Instr.fill (fun i=>some (i*re.size,re.size)) z.cells (ps.toList.map fun p=>(p.1,a.eval p.2))=some us:=hu1;simp only[Instr.build,Sem.run_bind,Yk hr,Result.andThen_ok,run_underlying hr.und,ZF hr',hm,hu1'];rfl
 ·have:us=us.toList.toArray:=by simp
  rw[this];exact .agg out us.toList hu2.1 hu2.2
theorem Zeo{t:TypeId}{x ix:Operand}{r re:Zv}{e:TypeId}{N l k off:Nat}{kk:IntKind}{i:Int}(hT:TOK P T)(ho:o.op= .indexAddr t x ix)
  (h1:T t=some r) (h2:r.td= .array N e) (h3:T e=some re) (hv:ρ x= .ptr l k off) (hi:ρ ix= .int kk i) (hlo:0≤i) (hhi:i<N):
  YV P o ρ (.ptr l k (off+i.toNat*re.size)):=fun E a h=>by
 have hx:=h x sO;have hix:=h ix sO;rw[hv]at hx;rw[hi]at hix;obtain⟨d,inf,z,hf⟩:=Zd (hT t r h1);obtain⟨d',i',z',hf'⟩:=Zd (hT e re h3);have hd:=Zgf (h2▸hf.fits);subst hd;cases hyi:a.eval ix<;>rw[hyi]at hix<;>cases hix;generalize hy:a.eval x=y at hx;cases hx with
 |ptr _ _ _ b hm=>
  refine⟨.pointer (some ⟨b,off+i.toNat*re.size,none⟩),fun w=>?_,.ptr l k _ b hm⟩;simp[execOp,ho,hy,hyi,Instr.indexAt,asIntOf,run_underlying hf.und,hlo,hhi,ZF hf',ZI,Instr.sureAddr]
theorem Zdw{t:TypeId}{x ix:Operand}{r re:Zv}{e:TypeId}{N:Nat}{cs:List AV}{kk:IntKind}{i:Int}(hT:TOK P T)(ho:o.op= .indexAddr t x ix)
  (h1:T t=some r) (h2:r.td= .array N e) (h3:T e=some re) (hv:ρ x= .iptr cs) (hi:ρ ix= .int kk i) (hlo:0≤i) (hhi:i<N):
  YV P o ρ (.iptr (cs.drop (i.toNat*re.size))):=fun E a h=>by
 have hx:=h x sO;have hix:=h ix sO;rw[hv]at hx;rw[hi]at hix;obtain⟨d,inf,z,hf⟩:=Zd (hT t r h1);obtain⟨d',i',z',hf'⟩:=Zd (hT e re h3);have hd:=Zgf (h2▸hf.fits);subst hd;cases hyi:a.eval ix<;>rw[hyi]at hix<;>cases hix;generalize hy:a.eval x=y at hx;cases hx with
 |iptr _ b off c hc hv'=>
  refine⟨.pointer (some ⟨b,off+i.toNat*re.size,none⟩),fun w=>?_,?_⟩
  ·simp[execOp,ho,hy,hyi,Instr.indexAt,asIntOf,run_underlying hf.und,hlo,hhi,ZF hf',ZI,Instr.sureAddr]
  ·refine .iptr _ b _ (fun j=>c (i.toNat*re.size+j)) (fun j hj=>?_) (fun j hj=>?_)
   ·simp only[QL]at hj;have:=hc (i.toNat*re.size+j) om;rw[MQ];exact this
   ·simp only[QL]at hj;have:=hv' (i.toNat*re.size+j) om;simpa[Qaa]using this
end
section ops
variable {P:Program} {T:TT} {o:Oper} {ρ:Operand→AV}
theorem ZbN{m:Nat}{H:Za}{E:Env}{w:World}(hr:Zt m H E w){k:Nat}{ys:List AV}{ow:Own}{yv:Value}(hy:VR E (.sl k ys ow) yv)(hne:ys≠[])(hone:∀y∈ys,∀c∈y.cells,c.one=true):
  ∃b off cap cs,yv= .slice (some ⟨b,off,none⟩) ys.length cap∧(∀y∈ys,y.cells.length=k)∧VRs E (flat ys) cs∧cs.length=ys.length*k∧(∀j v,cs[j]? =some v→w.cell? ⟨b,off+j,none⟩=some v)∧(∀u∈cs,u.oneCell'=true):=by
 rcases hy.Vd with⟨_,e2,_⟩|⟨b2,off2,cap2,cs2,e2,hky,hvy,hFy,_,_,_⟩
 ·exact absurd e2 hne
 refine⟨b2,off2,cap2,cs2,e2,hky,hvy,by rw[hvy.1,flat_length hky],fun j v hj=>hr.F _ _ _ (hFy j v hj),fun u hu=>?_⟩;obtain⟨i,hi,rfl⟩:=QJ hu;have hi':i<(flat ys).length:=by rw[←hvy.1];exact hi
 refine(hvy.2 i hi' hi).one ?_;have hmem:(flat ys)[i]∈flat ys:=Qa hi';simp only[flat,Qz]at hmem;obtain⟨y',hy',hc'⟩:=hmem;exact hone y' hy' _ hc'
theorem Zfd{m:Nat}{H:Za}{src dst e:TypeId}{x:Operand}{rs rd re:Zv}{b:Int}{ow:Own}(hT:TOK P T)(ho:o.op= .convert src dst x)(h1:T src=some rs)(h2:rs.td= .slice e)(h3:T e=some re)(h4:re.td= .int .u8)
  (h5:T dst=some rd) (h6:rd.td= .str) (hx:ρ x= .sl 1 [.int .u8 b] ow):Yq P m o ρ H (.str [UInt8.ofNat b.toNat]) H:=fun E w a hr hops=>by
 have hxv:=hops x sO;rw[hx]at hxv;obtain⟨d,i,z,hf⟩:=Zd (hT src rs h1);obtain⟨d',i',z',hf'⟩:=Zd (hT e re h3);obtain⟨d2,i2,z2,hf2⟩:=Zd (hT dst rd h5);have hd:=ZH (h2▸hf.fits);subst hd;have hd':=Zar (h4▸hf'.fits);subst hd';have hd2:=VL (h6▸hf2.fits);subst hd2;obtain⟨b2,off2,cap2,cs2,e2,hky,hvy,hl2,hn2,hone⟩:=ZbN hr hxv sm (fun y hy c hc=>by simp only[Ql]at hy;subst hy;simp only[AV.cells,Ql]at hc;subst hc;rfl);have hcs:cs2=[.int .u8 b]:=by
  have hfl:flat [AV.int .u8 b]=[.int .u8 b]:=rfl;rw[hfl]at hvy;obtain⟨v,r,rfl,hv,hn⟩:=hvy.YR;cases hv;rw[hn.of_nil]
 subst hcs;have hld:(loadCells (⟨b2,off2,none⟩:Addr) 1).run P w= .ok ([b].map (Value.int .u8)).toArray w:=by
  have:=run_firstCells_some (P:=P) w 1 1 ⟨b2,off2,none⟩ 1 cap2 [.int .u8 b] sm (fun j v hj=>by rw[ZI];exact hn2 j v hj);simpa[Builtin.firstCells]using this
 refine⟨.string ⟨#[UInt8.ofNat b.toNat]⟩,E,w,.inl ?_,.str _,hr,.refl m E w⟩;have hc:=(run_convert_bytes_string (P:=P) w src dst e (some ⟨b2,off2,none⟩) 1 cap2 hf.und hf'.und hf2.und).trans (run_bytesToString w ⟨b2,off2,none⟩ 1 cap2 [b] hld);simp only[execOp,ho,e2,G8,Sem.run_bind];rw[hc];rfl
end ops
end Go.Abs
