/- Calls; a function's body; regions az goals. No program, no condition. -/
import Derived.Test.YtmdeagmbfhbbnaaGreatDoorRM01
import Derived.Laws.StructEq
import Derived.WideKeyRuns
import Derived.Laws.IdiomRangeMap
import Derived.Laws.BytesString
set_option linter.all false
set_option maxRecDepth 100000
namespace Go.Abs
structure Fun (P:Program) (f:FuncId) (fn:Func) (c:Code):Prop where
 get:P.funcs[f]? =some fn
 body:fn.body=some c
 name : (fn.name == "runtime.NumGoroutine") = false
section
variable {c:Code} {fn:Func} {f:FuncId} {P:Program}
def Xa(h:Fun P f fn c)(args:Array Value)(w:World):(callFunc f args).run P w= .ok (.enter f args) w:=by
 have hn:=h.name;simp only[beq_eq_false_iff_ne,ne_eq]at hn;simp[callFunc,program,Sem.run,h.get,h.body,hn]
variable {w:World} {n:Nat} {ro:Option Nat}
def JB{args:Array Value}{R:Ending→World→Prop}(h:Calls P f args w R):CallsIn (fr ro) n P f args w R:=
 (callsIn_wide (n:=n)).2 h
def JZ{p:Prop}:(fr ro).depth.isSome=true→p:=fun h=>by cases h
def Zdp{m:Nat}{o:Oper}{ρ:Operand→AV}{H H':Za}{g:Operand}{caps:List AV}{args:Array Operand}{ts:Array TypeId}{r:AV}(hf:Fun P f fn c)
  (ho:o.op= .call {callee:=.value g,args:=args,argTypes:=ts}) (hg:ρ g= .fn (.func f) caps) (az:List AV) (has:∀E (a:Act),(∀x∈args,VR E (ρ x) (a.eval x))→VRs E az (args.toList.map a.eval))
  (hc:Zi P m f (az++caps) H (fun r' H1=>r'=r∧H1=H')):XO P m o ρ H r H':=fun E w a Q K hr hops hk ro=>by
 have hgv:=hops g (by rw[ho];simp[Op.operands,Call.operands]);rw[hg]at hgv;have he:execOp a.eval o=(do let d←resolve a.eval {callee:=.value g,args:=args,argTypes:=ts} o.type;invoke d.target d.args):=by simp only[execOp,ho]
 generalize hy:a.eval g=y at hgv;cases hgv with|fn _ _ vs hl hvs=>
 have hrun:(execOp a.eval o).run P w= .ok (.enter f (args.map a.eval++vs.toArray)) w:=by
  rw[he];simp[resolve,hy,Deferred.ofValue,invoke,Xa hf]
 refine Xb hrun (fun _ e=>by cases e) ⟨JZ,JB ?_⟩;have h1:=hc E w (args.toList.map a.eval++vs) hr ((has E a (fun x hx=>hops x (by rw[ho];simp[Op.operands,Call.operands,hx]))).append ⟨hl,hvs⟩);rw[show(args.toList.map a.eval++vs).toArray=args.map a.eval++vs.toArray by rw[←List.append_toArray,←Array.toList_map]]at h1;refine h1.mono ?_;rintro e w' ⟨r',v,H1,E',rfl,⟨rfl,rfl⟩,hv,hh,hx⟩;exact hk E' w' v hv hh hx
def VO(P:Program)(m:Nat)(l:Nat)(args:List AV)(H:Za)(Q:AV→Za→Prop):Prop:=
 ∀E w vs,Zt m H E w→VRs E args vs→ ∃fn tmps ca cb,(Instr.yield l vs.toArray).run P w= .ok (.round l fn tmps ca cb) w∧
  ∀ro n,RoundIn (fr ro) n P l fn tmps ca cb w fun e w'=>∃r v H' E',e= .returned v∧Q r H'∧VR E' r v∧Zt m H' E' w'∧Ext m E w E' w'
def VO.mono{P:Program}{m l:Nat}{args:List AV}{H:Za}{Q Q':AV→Za→Prop}(h:VO P m l args H Q)(hq:∀r H',Q r H'→Q' r H'):VO P m l args H Q':=fun E w vs hr hv=>by
 obtain⟨fn,tmps,ca,cb,h1,h2⟩:=h E w vs hr hv;exact⟨fn,tmps,ca,cb,h1,fun ro n=>(h2 ro n).mono fun e w' ⟨r,v,H',E',he,hQ,rest⟩=>⟨r,v,H',E',he,hq _ _ hQ,rest⟩⟩
inductive WkS:AV→AV→Prop
 |refl (v:AV):WkS v v
 |nil (k k':Nat) (o:Own):WkS (.sl k [] o) (.sl k' [] .any)
 |sl (k:Nat) (xs ys:List AV) (o:Own) (hl:ys.length=xs.length) (h:∀i (h:i<xs.length) (h':i<ys.length),WkS xs[i] ys[i]):WkS (.sl k xs o) (.sl k ys .any)
 |agg (az bs:List AV) (hl:bs.length=az.length) (h:∀i (h:i<az.length) (h':i<bs.length),WkS az[i] bs[i]):WkS (.agg az) (.agg bs)
 |ssl (k:Nat) (xs zs ys:List AV) (hl:ys.length=xs.length) (h:∀i (h:i<xs.length) (h':i<ys.length),WkS xs[i] ys[i]):WkS (.ssl k xs zs) (.sl k ys .any)
 |sem (a b:AV) (ha:a.cells=[a]) (hb:b.cells=[b]) (h:∀E v,VR E a v→VR E b v):WkS a b
def Zdt:List AV→List AV→Prop
 |[],[]=>True
 |a::az,b::bs=>WkS a b∧Zdt az bs
 |_,_=>False
theorem Zdt.len:∀{az bs:List AV},Zdt az bs→bs.length=az.length
 |[],[],_=>rfl
 |a::az,b::bs,h=>by rw[Qq,Qq,Zdt.len h.2]
 |[],_::_,h=>h.elim
 |_::_,[],h=>h.elim
def Zdt.get:∀{az bs:List AV},Zdt az bs→ ∀i (h:i<az.length) (h':i<bs.length),WkS az[i] bs[i]
 |a::az,b::bs,h,0,_,_=>h.1
 |a::az,b::bs,h,i+1,h1,h2=>by
  simp only[UU];exact Zdt.get h.2 i (by simpa using h1) (by simpa using h2)
variable {az bs:List AV}
def WkS.ZcZ(h:Zdt az bs):WkS (.agg az) (.agg bs):=.agg az bs h.len h.get
def WkS.slL{k:Nat}{o:Own}(h:Zdt az bs):WkS (.sl k az o) (.sl k bs .any):=.sl k az bs o h.len h.get
variable {E:Env}
def WkS.both{a b:AV}(h:WkS a b):(∀v,VR E a v→VR E b v)∧a.cells.length=b.cells.length∧ ∀j (h:j<a.cells.length) (h':j<b.cells.length) v,VR E a.cells[j] v→VR E b.cells[j] v:=by
 induction h with
 |refl v=>exact⟨fun _ h=>h,rfl,fun _ _ _ _ h=>h⟩
 |nil k k' o=>
  have h1:∀v,VR E (.sl k [] o) v→VR E (.sl k' [] .any) v:=fun v hv=>(ZaX hv).any
  refine⟨h1,rfl,fun j h h' v hv=>?_⟩;cases j with
  |zero=>exact h1 v hv
  |succ j=>simp[AV.cells]at h
 |sl k xs ys o hl h ih=>
  have h1:∀v,VR E (.sl k xs o) v→VR E (.sl k ys .any) v:=by
   intro v hv;cases hv with
   |slnil _ _ a ho ha=>
    have:ys=[]:=Ug hl;subst this;exact .slnil k .any a trivial (fun h=>absurd rfl h)
   |sl _ _ _ b off cap c hk hc hv hcap hm ho=>
    rw[←hl];refine .sl k ys .any b off cap c (fun i hi=>?_) (fun i j hi hj=>hc i j om hj) (fun i hi j hj=>?_) om om trivial
    ·rw[←(ih i om hi).2.1];exact hk i om
    ·have hi':i<xs.length:=om;have:=(ih i hi' hi).2;exact this.2 j (by rw[this.1];exact hj) hj _ (hv i hi' j (by rw[this.1];exact hj))
  refine⟨h1,rfl,fun j h h' v hv=>?_⟩;cases j with
  |zero=>exact h1 v hv
  |succ j=>simp[AV.cells]at h
 |agg az bs hl h ih=>
  refine⟨fun v hv=>?_,hl.symm,fun j h h' v hv=>(ih j h h').1 v hv⟩;cases hv with
  |agg _ vs hvl hv=>exact .agg bs vs (hvl.trans hl.symm) fun i hi hi'=>(ih i om hi).1 _ (hv i om hi')
 |ssl k xs zs ys hl h ih=>
  have h1:∀v,VR E (.ssl k xs zs) v→VR E (.sl k ys .any) v:=by
   intro v hv;cases hv with
   |ssl _ _ _ b off cap c hk hc hv hcap hm=>
    have hla:xs.length≤(xs++zs).length:=sm;have hg:∀i (hi:i<xs.length),(xs++zs)[i]'om=xs[i]:=fun i hi=>MV hi
    rw[←hl];refine .sl k ys .any b off cap c (fun i hi=>?_) (fun i j hi hj=>hc i j om hj) (fun i hi j hj=>?_) om om trivial
    ·rw[←(ih i om hi).2.1,←hg i om];exact hk i om
    ·have hi':i<xs.length:=om;have:=(ih i hi' hi).2;have hx:=hv i om;simp only[hg i hi']at hx;exact this.2 j (by rw[this.1];exact hj) hj _ (hx j (by rw[this.1];exact hj))
  refine⟨h1,rfl,fun j h h' v hv=>?_⟩;cases j with
  |zero=>exact h1 v hv
  |succ j=>simp[AV.cells]at h
 |sem a b ha hb h=>
  refine⟨h E,by rw[ha,hb];rfl,fun j h1 h2 v hv=>?_⟩;simp only[ha,hb]at hv h1 h2⊢;cases j with
  |zero=>exact h E v hv
  |succ j=>simp at h1
inductive Wk:AV→AV→Prop
 |refl (v:AV):Wk v v
 |any (k:Nat) (xs:List AV) (o:Own):Wk (.sl k xs o) (.sl k xs .any)
 |nil (k k':Nat) (o:Own):Wk (.sl k [] o) (.sl k' [] .any)
 |dead (v:AV):Wk v .dead
 |deep {a b:AV} (h:WkS a b):Wk a b
 |sem {a b:AV} (h:∀E v,VR E a v→VR E b v):Wk a b
def Wk.vr{a b:AV}{v:Value}(h:Wk a b)(hv:VR E a v):VR E b v:=by
 cases h with
 |refl=>exact hv
 |any=>exact hv.any
 |nil=>exact(ZaX hv).any
 |dead=>exact .dead v
 |deep h=>exact h.both.1 v hv
 |sem h=>exact h E v hv
def Wks:List AV→List AV→Prop
 |[],[]=>True
 |a::az,b::bs=>Wk a b∧Wks az bs
 |_,_=>False
def Zdi(tm:List (Nat×AV))(H:Za)(n:Nat)(L:List (Nat×Ze))(T:TT):ResultVar→AV
 | .tmp t=>lkv tm t
 | .cell t ty=>match lkv tm t with
  | .ptr l k off=>match full n L H l k,T ty with
   |some (.box cs),some r=>if off+r.size≤cs.length∧(r.isAgg=false→off<cs.length)then(if r.isAgg then .agg ((cs.drop off).take r.size)else(cs.drop off).getD 0 .dead)else .dead
   |_,_=>.dead
  |_=>.dead
def X8(tm:List (Nat×AV))(H:Za)(n:Nat)(L:List (Nat×Ze))(T:TT):ResultVar→Prop
 | .tmp _=>True
 | .cell t ty=>∃l k off cs r,lkv tm t= .ptr l k off∧full n L H l k=some (.box cs)∧T ty=some r∧off+r.size≤cs.length∧(r.isAgg=false→off<cs.length)
def tupR:List AV→AV
 |[v]=>v
 |vs=>.tup vs
def Zim(tmps:Array Value):ResultVar→Sem Value
 | .tmp t=>pure (tmps.getD t undef)
 | .cell x t=>do loadVar t (←asAddr (tmps.getD x undef))
def ZcU(fn:Func)(tmps:Array Value):results fn tmps=(do
  let vs←fn.results.mapM (Zim tmps)
  pure (if h:vs.size=1 then vs[0]else .tuple vs)):=by
 unfold results;congr 1
def ZbN{P:Program}{T:TT}(hT:TOK P T){B:Base}{n N:Nat}{s:Zb}{E:Env}{a:Act}{w:World}(hs:Yq B n N s E a w):∀(l:List ResultVar),(∀x∈l,X8 s.tmps s.H n s.L T x)→
  ∃vs:List Value,(l.mapM (m:=Sem) (Zim a.tmps)).run P w= .ok vs w∧VRs E (l.map (Zdi s.tmps s.H n s.L T)) vs
 |[],_=>⟨[],rfl,VRs.nil E⟩
 |x::l,h=>by
  obtain⟨vs,h1,h2⟩:=ZbN hT hs l (fun y hy=>h y (Qz _ hy));have hx:=h x sm;cases x with
  |tmp t=>
   refine⟨a.tmps.getD t undef::vs,?_,VRs.cons (hs.tmps t) h2⟩;rw[QbJ];simp only[Zim,Sem.run_bind,Sem.run_pure,Result.andThen_ok,h1]
  |cell t ty=>
   obtain⟨l1,k,off,cs,r,e1,e2,e3,e4,e5⟩:=hx;obtain⟨d,i,z,hf⟩:=Zd (hT ty r e3);have hp:=hs.tmps t;rw[e1]at hp;generalize hy:a.tmps.getD t undef=y at hp;cases hp with|ptr _ _ _ b hm=>
   obtain⟨b',hm',c,t',hcc,hvs⟩:=hs.heap.box l1 k cs (hs.heap.norm.Zaw hm) e2;rw[hm]at hm';cases hm';have hcell:∀j u,(c.toList.drop off)[j]? =some u→w.cell? ⟨b,off+j,none⟩=some u:=fun j u hj=>by
    rw[UM]at hj;simp only[World.cell?,hcc];simpa using hj
   have hlen:=hvs.1;have hrun:=Jk (P:=P) hf hcell (by rw[QU];omega) (fun h=>by rw[QU];have:=e5 h;omega);have hvr:=Zco (r:=r) (hvs.drop off) (fun h=>by rw[QU];have:=e5 h;omega);refine⟨_::vs,?_,VRs.cons (v:=if r.isAgg then .agg ((c.toList.drop off).take r.size).toArray else(c.toList.drop off).getD 0 undef) ?_ h2⟩
   ·rw[QbJ];have hasa:(asAddr (Value.pointer (some ⟨b,off,none⟩))).run P w= .ok ⟨b,off,none⟩ w:=rfl;simp only[Zim,Sem.run_bind,hy,hasa,Sem.run_pure,Result.andThen_ok,hrun,h1]
   ·have:Zdi s.tmps s.H n s.L T (.cell t ty)=if r.isAgg then .agg ((cs.drop off).take r.size)else(cs.drop off).getD 0 .dead:=by
     simp only[Zdi,e1,e2,e3];rw[if_pos ⟨e4,e5⟩]
    rw[this];exact hvr
def PostF(P:Program)(T:TT)(n:Nat)(rs:List ResultVar)(Q:AV→Za→Prop):Exit→Zb→Prop
 | .normal,s| .ret,s=>(∀x∈rs,X8 s.tmps s.H n s.L T x)∧ ∃r,Wks (rs.map (Zdi s.tmps s.H n s.L T)) r∧(∀v∈r,Below n v)∧Q (tupR r) s.H
 |_,_=>False
def numbered:Nat→List AV→List (Nat×AV)
 |_,[]=>[]
 |i,v::r=>(i,v)::numbered (i+1) r
def lkv_numbered:∀(az:List AV) (i t:Nat),lkv (numbered i az) t=if i≤t then az.getD (t - i) .dead else .dead
 |[],i,t=>by simp[numbered,lkv]
 |v::r,i,t=>by
  simp only[numbered,lkv];rw[lkv_numbered r (i+1) t];by_cases h1:i=t
  ·subst h1;simp
  ·by_cases h2:i≤t
   ·rw[if_neg h1,if_pos om,if_pos h2,show t - i=(t - (i+1))+1 by omega,Qa2]
   ·rw[if_neg h1,if_neg om,if_neg h2]
def forall₂_vr{E:Env}:∀{az rs:List AV} {vs:List Value},Wks az rs→VRs E az vs→VRs E rs vs
 |[],[],_,_,h=>h
 |_::_,_::_,_,⟨h1,h2⟩,h=>by
  obtain⟨v,r,rfl,hv,hr⟩:=h.YW;exact VRs.cons (h1.vr hv) (forall₂_vr h2 hr)
def Zt.leave{B:Base}{N:Nat}{s:Zb}{a:Act}(hs:Yq B n N s E a w):Zt n s.H (E.cut n) w:=by
 have h:=hs.heap;have hfull:∀l k,l<n→full n s.L s.H l k=s.H l k:=fun l k hl=>by simp only[full];rw[if_neg om]
 have hcm:∀l k b,(E.cut n).m l k=some b→l<n∧E.m l k=some b:=fun l k b hm=>by
  simp only[Env.cut]at hm;split at hm
  ·exact⟨‹_›,hm⟩
  ·cases hm
 have hcg:∀l k b,(E.cut n).g l k=some b→l<n∧E.g l k=some b:=fun l k b hm=>by
  simp only[Env.cut]at hm;split at hm
  ·exact⟨‹_›,hm⟩
  ·cases hm
 refine{norm:=Env.Zg7 n E,F:=h.F,blk:=?_,dom:=?_,nobuf:=?_,inj:=?_,injg:=?_,mg:=?_,mF:=?_,lt:=?_}
 ·intro l k b hl hH;have hb:=hs.out l k _ hl hH;refine(h.blk l k b om (by rw[hfull l k hl];exact hH)).keep (by simp only[Env.cut,if_pos hl]) (by simp only[Env.cut,if_pos hl]) (fun j=>by simp only[Env.cut,if_pos hl]) (fun p hp r hr=>?_) (fun _ _=>rfl) (fun _ _ _ h=>h) (fun a ha v hv=>hv.cut (hb.1 a ha));simp only[Env.cut,if_pos (hb.2 p hp)];exact hr
 ·intro l k hl hH;obtain⟨d1,d2,d3⟩:=h.dom l k om (by rw[hfull l k hl];exact hH);simp only[Env.cut,if_pos hl];exact⟨d1,d2,d3⟩
 ·intro l k hg;cases hx:(E.cut n).g l k with
  |none=>exact absurd hx hg
  |some b=>
   obtain⟨hl,hg'⟩:=hcg l k b hx;rw[←hfull l k hl];exact h.nobuf l k (by rw[hg'];simp)
 ·intro l k l' k' b h1 h2;exact h.inj _ _ _ _ _ (hcm _ _ _ h1).2 (hcm _ _ _ h2).2
 ·intro l k l' k' b h1 h2;exact h.injg _ _ _ _ _ (hcg _ _ _ h1).2 (hcg _ _ _ h2).2
 ·intro l k l' k' b h1 h2;exact h.mg _ _ _ _ _ (hcm _ _ _ h1).2 (hcg _ _ _ h2).2
 ·intro l k b o h1;exact h.mF _ _ _ _ (hcm _ _ _ h1).2
 ·intro b hb;rcases hb with⟨l,k,hm⟩|⟨l,k,hg⟩
  ·exact h.lt b (.inl ⟨l,k,(hcm _ _ _ hm).2⟩)
  ·exact h.lt b (.inr ⟨l,k,(hcg _ _ _ hg).2⟩)
variable {H:Za}
def Zt.enter(hr:Zt n H E w):Zt (n+1) (full n [] H) E w:=by
 have hc:Zt n (full n [] H) E w:=hr.congr (fun l k hl=>by simp only[full];rw[if_neg om]);refine{norm:=hr.norm.mono om,F:=hr.F,blk:=?_,dom:=?_,nobuf:=hc.nobuf,inj:=hr.inj,injg:=hr.injg,mg:=hr.mg,mF:=hr.mF,lt:=hr.lt}
 ·intro l k b hl hH;rcases Qe l n with h'|h'
  ·exact hc.blk l k b h' hH
  ·have:l=n:=om;subst this;simp[full,lkb]at hH
 ·intro l k hl hH;rcases Qe l n with h'|h'
  ·exact hc.dom l k h' hH
  ·exact⟨hr.norm.m l k h',hr.norm.g l k h',fun j=>hr.norm.hist l k j h'⟩
def Zt.putObj{n:Nat}{H:Za}{E:Env}{w:World}(h:Zt n H E w){D:Nat}{x y:Obj}(hD:w.heap[D]? =some x)(hx:∀c t r,x≠ .cells c t r)(ho:¬E.own D):Zt n H E (w.putObj D y):=by
 have hF:∀o v,E.F D o=some v→False:=fun o v hv=>by
  have:=h.F D o v hv;simp only[World.cell?,hD]at this;split at this
  ·rename_i e;cases e;exact hx _ _ _ rfl
  ·cases this
 refine{norm:=h.norm,F:=fun b o v hv=>?_,blk:=fun l k b hl hb=>?_,dom:=h.dom,nobuf:=h.nobuf,inj:=h.inj,injg:=h.injg,mg:=h.mg,mF:=h.mF,lt:=fun b hb=>by rw[World.putObj_size];exact h.lt b hb}
 ·have hne:b≠D:=fun e=>hF o v (e▸hv)
  have:=h.F b o v hv;simp only[World.cell?,World.putObj_heap_other hne]at this⊢;exact this
 ·exact(h.blk l k b hl hb).keep rfl rfl (fun _=>rfl) (fun _ _ _ h=>h) (fun r hr=>World.putObj_heap_other (fun e=>ho (e▸hr.elim (fun h=>.inl ⟨_,_,h⟩) (fun h=>.inr ⟨_,_,h⟩)))) (fun _ _ _ h=>h) (fun _ _ _ h=>h)
theorem ZaZ{P:Program}{fn:Func}{tmps:Array Value}{R:Ending→World→Prop}{m:Nat}{H:Za}{E:Env}:∀(l:List Nat) (w:World),l.Nodup→(∀D∈l,w.heap[D]? =some (.deferred (some []))∧ ¬E.own D)→Zt m H E w→
  (∀w2,Zt m H E w2→(∀b,b∉l→w2.heap[b]? =w.heap[b]?)→w2.os=w.os→w2.tape=w.tape→w2.output=w.output→w2.drawn=w.drawn→w2.heap.size=w.heap.size→ ∃v,(results fn tmps).run P w2= .ok v w2∧R (.returned v) w2)→
  LeavesInM Fence.wide 0 P fn tmps R (l.map mark) .returning w
 |[],w,_,_,hr,hk=>hk w hr (fun _ _=>rfl) rfl rfl rfl rfl rfl
 |D::l,w,hn,hD,hr,hk=>by
  obtain⟨h1,h2⟩:=hD D sm;obtain⟨n1,n2⟩:=GN.1 hn;refine⟨sm,.inl ⟨D,_,rfl,run_takeDeferred h1,?_⟩⟩;refine ZaZ l _ n2 (fun D' hD'=>?_) (hr.putObj h1 (fun _ _ _ e=>by cases e) h2) (fun w2 q1 q2 q3 q4 q5 q6 q7=>?_)
  ·obtain⟨a1,a2⟩:=hD D' (Qz _ hD');exact⟨(World.putObj_heap_other (show D'≠D from fun e=>n1 (e▸hD'))).trans a1,a2⟩
  ·refine hk w2 q1 (fun b hb=>?_) q3 q4 q5 q6 (by rw[q7,World.putObj_size]);simp only[Ql,not_or]at hb;rw[q2 b hb.2,World.putObj_heap_other hb.1]
theorem Zof{T:TT}{args:List AV}{Q:AV→Za→Prop}(hT:TOK P T)(hf:Fun P f fn c)(hN:args.length≤fn.ntmps)
  (h:∀B,AK P ⟨none,B⟩ n fn.ntmps [.code c] (PostF P T n fn.results.toList Q) ⟨numbered 0 args,[],H⟩):Zi P n f args H Q:=fun E w vs hr hv=>by
 refine(callsIn_wide (n:=0)).1 (callsIn_of_wp_marks hf.get hf.body trivial ?_);have hlen:vs.length=args.length:=hv.1;have hs:Yq ⟨w.heap.size,[]⟩ n fn.ntmps ⟨numbered 0 args,[],H⟩ E {tmps:=vs.toArray++Array.replicate (fn.ntmps - vs.toArray.size) undef,defers:=[]} w:=by
  refine⟨by simp;omega,.nil _ (Qg _),fun t=>?_,?_,fun l k b hl hb=>hr.out hl hb⟩
  ·rw[lkv_numbered];simp only[Uw,if_true,MW];by_cases ht:t<args.length
   ·have h1:=hv.2 t ht om;have e1:args.getD t .dead=args[t]:=by simp[Qn,Qb ht]
    have e2:(vs.toArray++Array.replicate (fn.ntmps - vs.toArray.size) undef).getD t undef=vs[t]'om:=by
     rw[QE,Gs (by simp;omega)];simp[Qb (show t<vs.length by omega)]
    rw[e1,e2];exact h1
   ·have e1:args.getD t .dead= .dead:=by simp[Qn,Uu (by omega:args.length≤t)]
    rw[e1];exact .dead _
  ·exact hr.enter
 refine wpIn_mono (h ⟨w.heap.size,[]⟩ E w _ hs) ?_;rintro e a' w' ⟨s',E',hQ,hs',hx⟩;have fin:(∀x∈fn.results.toList,X8 s'.tmps s'.H n s'.L T x)∧(∃r,Wks (fn.results.toList.map (Zdi s'.tmps s'.H n s'.L T)) r∧(∀v∈r,Below n v)∧Q (tupR r) s'.H)→
   LeavesInM Fence.wide 0 P fn a'.tmps (fun e w2=>∃r v' H' E',e= .returned v'∧Q r H'∧VR E' r v'∧Zt n H' E' w2∧Ext n E w E' w2) a'.defers .returning w':=by
  rintro⟨hok,r,hw,hb,hq⟩;obtain⟨hl0,l,hl1,hl2,hl3⟩:=hs'.defs;rw[hl1,Qs];refine ZaZ l w' hl2 (fun D hD=>(hl3 D hD).2) hs'.heap (fun w2 k1 k2 k3 k4 k5 k6 k7=>?_);have hs2:Yq ⟨w.heap.size,[]⟩ n fn.ntmps s' E' {a' with defers:=[]} w2:=⟨hs'.size,.nil _ (by rw[k7];exact hl0),hs'.tmps,k1,hs'.out⟩
  obtain⟨us,hu1,hu2⟩:=ZbN hT hs2 fn.results.toList hok;have hvr:=forall₂_vr hw hu2;have hvc:VRs (E'.cut n) r us:=⟨hvr.1,fun i h1 h2=>(hvr.2 i h1 h2).cut (hb _ (Qa h1))⟩
  have hres:(results fn a'.tmps).run P w2= .ok (if h:us.toArray.size=1 then us.toArray[0]else .tuple us.toArray) w2:=by
   rw[ZcU,Qaw];simp only[Sem.run_bind,Sem.run_map,hu1,Result.andThen_ok,Sem.run_pure]
  refine⟨_,hres,tupR r,_,s'.H,E'.cut n,rfl,hq,?_,Zt.leave hs2,⟨Env.Ziv hx.le,k3.trans hx.os,k4.trans hx.tape,k5.trans hx.output,fun hq=>by rw[k6];exact hx.drawn hq,by rw[k7];exact hx.size,fun b hb' ho=>?_,fun b hb' ho=>hx.own b hb' ?_⟩⟩
  ·by_cases h1:us.toArray.size=1
   ·rw[dif_pos h1];cases r with
    |nil=>have:=hvc.1;simp at this h1;rw[this]at h1;simp at h1
    |cons x r=>
     cases r with
     |nil=>
      obtain⟨v,q,rfl,h3,h4⟩:=hvc.YW;exact h3
     |cons y r=>have:=hvc.1;simp at this h1;omega
   ·rw[dif_neg h1];have:tupR r= .tup r:=by
     cases r with
     |nil=>rfl
     |cons x r=>
      cases r with
      |nil=>have:=hvc.1;simp at this h1;omega
      |cons y r=>rfl
    rw[this];exact .tup r us hvc.1 hvc.2
  ·rw[k2 b (fun hm=>by have:w.heap.size≤b:=(hl3 b hm).1;omega)];exact hx.block b hb' ho
  ·rcases ho with⟨l,k,hm⟩|⟨l,k,hm⟩
   ·simp only[Env.cut]at hm;split at hm
    ·exact .inl ⟨l,k,hm⟩
    ·cases hm
   ·simp only[Env.cut]at hm;split at hm
    ·exact .inr ⟨l,k,hm⟩
    ·cases hm
 cases e with
 |normal=>exact fin hQ
 |ret=>exact fin hQ
 |_=>exact hQ.elim
end
inductive KL where
 |int (k:IntKind) (n:Int)
 |str (l:List UInt8)
 |bool (b:Bool)
 deriving DecidableEq
def KL.val:KL→Value
 | .int k n=>.int k n
 | .str l=>.string ⟨l.toArray⟩
 | .bool b=>.bool b
def AV.kl:AV→Option KL
 | .int k n=>some (.int k n)
 | .str l=>some (.str l)
 | .bool b=>some (.bool b)
 |_=>none
def klAll:List AV→Option (List KL)
 |[]=>some []
 |a::r=>match a.kl,klAll r with
  |some x,some xs=>some (x::xs)
  |_,_=>none
def Ztl{E:Env}{a:AV}{v:Value}{q:KL}(h:a.kl=some q)(hv:VR E a v):v=q.val:=by
 cases hv<;>simp[AV.kl]at h<;>subst h<;>rfl
def Zcw{E:Env}:∀{az:List AV} {vs:List Value} {ls:List KL},klAll az=some ls→VRs E az vs→vs=ls.map KL.val
 |[],vs,ls,h,hv=>by simp[klAll]at h;subst h;simpa using hv.of_nil
 |a::r,vs,ls,h,hv=>by
  obtain⟨v,us,rfl,h1,h2⟩:=hv.YW;simp only[klAll]at h;split at h
  ·rename_i x xs hx hxs;cases h;rw[Ztl hx h1,Zcw hxs h2];rfl
  ·cases h
def covers(T:TT):List (Nat×TypeId)→Nat→Option Nat
 |[],n=>some n
 |(o,ft)::r,n=>if o=n then match T ft with
  |some rf=>covers T r (n+rf.size)
  |none=>none else none
def Z8(T:TT):Nat→TypeId→List KL→Bool
 |0,_,_=>false
 |d+1,t,l=>match T t with
  |some r=>match r.td with
   | .int k=>match l with
    |[.int k' _]=>k==k'
    |_=>false
   | .str=>match l with
    |[.str _]=>true
    |_=>false
   | .bool=>match l with
    |[.bool _]=>true
    |_=>false
   | .struct fs=>l.length==r.size&&covers T fs 0==some r.size&&fs.all fun p=>match T p.2 with
    |some rf=>Z8 T d p.2 ((l.drop p.1).take rf.size)
    |none=>false
   |_=>false
  |none=>false
def XV(r:Zu)(l:List KL):Value:=if r.isAgg then .agg (l.map KL.val).toArray else(l.map KL.val).getD 0 undef
def Zoz{l m:List KL}(n k:Nat)(h:l.length=m.length):(l.drop n==m.drop n)=((l.drop n).take k==(m.drop n).take k&&(l.drop (n+k)==m.drop (n+k))):=by
 rw[U3];simp only[beq_iff_eq,Qd];rw[←List.drop_drop,←List.drop_drop];constructor
 ·intro e;rw[e];exact⟨rfl,rfl⟩
 ·rintro⟨h1,h2⟩;rw[←Q7 k (l.drop n),←Q7 k (m.drop n),h1,h2]
section
variable {P:Program} {T:TT}
def Zbk(hT:TOK P T){t:TypeId}{r:Zu}(h1:T t=some r){d:Nat}{l:List KL}{off:Nat}(hl:off+r.size≤l.length)(hk:Z8 T d t ((l.drop off).take r.size)=true)(w:World):
  (part t (l.map KL.val).toArray off).run P w= .ok (XV r ((l.drop off).take r.size)) w:=by
 obtain⟨dd,i,z,hf⟩:=Zd (hT t r h1);unfold part XV;simp only[Sem.run_bind,JL hf,Result.andThen_ok];cases hag:r.isAgg with
 |true=>
  simp only[if_true,ZE hf,Sem.run_bind,Result.andThen_ok,Sem.run_pure];congr 2
  apply QaD;simp[List.extract,←List.map_drop,←List.map_take]
 |false=>
  simp only[QW,if_false];have h2:∃q,(l.drop off).take r.size=[q]:=by
   cases d with
   |zero=>simp[Z8]at hk
   |succ d=>
    simp only[Z8,h1]at hk;split at hk
    ·split at hk
     ·rename_i e;exact⟨_,e⟩
     ·cases hk
    ·split at hk
     ·rename_i e;exact⟨_,e⟩
     ·cases hk
    ·split at hk
     ·rename_i e;exact⟨_,e⟩
     ·cases hk
    ·rename_i fs hfs;simp[Zu.isAgg,hfs]at hag
    ·cases hk
  obtain⟨q,hq⟩:=h2;rw[hq];have hx:l[off]? =some q:=by
   have:=congrArg (·[0]?) hq;have hsz:0<r.size:=by
    rcases Gf r.size with h|h
    ·rw[h]at hq;simp at hq
    ·exact h
   simp only[UY,hsz,if_true,UM,UF,GI]at this;exact this
  simp[hx]
def Zc6(hT:TOK P T):∀(d:Nat) (t:TypeId) (r:Zu) (la lb:List KL),T t=some r→Z8 T d t la=true→Z8 T d t lb=true→ ∀dd,d≤dd→ ∀w,
  (Op.equalIn dd t (XV r la) (XV r lb)).run P w= .ok (la==lb) w
 |0,_,_,_,_,_,h,_,_,_,_=>by simp[Z8]at h
 |d+1,t,r,la,lb,h1,ha,hb,dd,hd,w=>by
  obtain⟨dd,rfl⟩:∃x,dd=x+1:=⟨dd - 1,om⟩
  obtain⟨de,i,z,hf⟩:=Zd (hT t r h1);simp only[Z8,h1]at ha hb;split at ha
  ·rename_i k hk;have hag:r.isAgg=false:=by simp[Zu.isAgg,hk]
   have hu:P.underlying t=some (.int k):=by
    have:=hf.fits;rw[hk]at this;rw[hf.und];cases de<;>simp[TD.fits]at this;rw[this]
   simp only[hk]at hb;split at ha<;>first|exact absurd ha GY|skip
   split at hb<;>first|exact absurd hb GY|skip
   simp only[beq_iff_eq]at ha hb;subst ha;subst hb;simp only[XV,hag,QW,if_false,Qv,Ux,MF,KL.val,run_equalIn_int w dd t _ _ _ _ hu];congr 1
   rw[U3];simp
  ·rename_i hk;have hag:r.isAgg=false:=by simp[Zu.isAgg,hk]
   have hu:P.underlying t=some .string:=by
    have:=hf.fits;rw[hk]at this;rw[hf.und];cases de<;>simp[TD.fits]at this;rfl
   simp only[hk]at hb;split at ha<;>first|exact absurd ha GY|skip
   split at hb<;>first|exact absurd hb GY|skip
   simp only[XV,hag,QW,if_false,Qv,Ux,MF,KL.val,run_equalIn_string w dd t _ _ hu,ByteArray.toList_mk];congr 1
   rw[U3];simp
  ·rename_i hk;have hag:r.isAgg=false:=by simp[Zu.isAgg,hk]
   have hu:P.underlying t=some .bool:=by
    have:=hf.fits;rw[hk]at this;rw[hf.und];cases de<;>simp[TD.fits]at this;rfl
   simp only[hk]at hb;split at ha<;>first|exact absurd ha GY|skip
   split at hb<;>first|exact absurd hb GY|skip
   simp only[XV,hag,QW,if_false,Qv,Ux,MF,KL.val,run_equalIn_bool' w dd t _ _ hu];congr 1
   rw[U3];simp
  ·rename_i fs hk;simp only[hk,Qd,beq_iff_eq,Qy]at ha hb;obtain⟨⟨la1,la2⟩,la3⟩:=ha;obtain⟨⟨lb1,_⟩,lb3⟩:=hb;have hag:r.isAgg=true:=by simp[Zu.isAgg,hk]
   have hft:=hf.fits;rw[hk]at hft;cases de<;>try(simp[TD.fits]at hft;done)
   rename_i gs;simp only[TD.fits,Qd,beq_iff_eq,Qy,bne_iff_ne]at hft;have hgs:P.fieldsOf t=gs:=by simp[Program.fieldsOf,hf.und]
   simp only[XV,hag,if_true];rw[run_equalIn_struct w dd t _ _ (by rw[hgs];exact hf.und) (hf.stood fs hk).1,hgs]
   have key : ∀ (gl : List Field) (n : Nat), (∀ g ∈ gl, g.name ≠ "_") → (∀ g ∈ gl, (g.offset, g.type) ∈ fs) → covers T (gl.map fun g => (g.offset, g.type)) n = some r.size → n ≤ r.size → ∀ w,
     (Op.eqFields dd (la.map KL.val).toArray (lb.map KL.val).toArray gl).run P w= .ok (la.drop n==lb.drop n) w:=by
    intro gl;induction gl with
    |nil=>
     intro n _ _ hc _ w;simp only[Ux,covers,Qp]at hc;subst hc;rw[UK om,UK om];simp[Op.eqFields]
    |cons g gl ih=>
     intro n hn hin hc hle w;simp only[Qv,covers]at hc;split at hc
     ·rename_i hoff;split at hc
      ·rename_i rf hrf;have hcov:∀(l:List (Nat×TypeId)) (m x:Nat),covers T l m=some x→m≤x:=by
        intro l;induction l with
        |nil=>intro m x h;simp only[covers,Qp]at h;omega
        |cons p l ihl=>
         intro m x h;obtain⟨o,ft⟩:=p;simp only[covers]at h;split at h
         ·split at h
          ·have:=ihl _ _ h;omega
          ·cases h
         ·cases h
       have hle2:=hcov _ _ _ hc;have hka:=la3 _ (hin g sm);have hkb:=lb3 _ (hin g sm);simp only[hrf]at hka hkb;subst hoff;have ihd:=Zc6 hT d g.type rf _ _ hrf hka hkb dd om;simp only[Op.eqFields];rw[if_pos (hn g sm)];simp only[Sem.run_bind,Zbk hT hrf (d:=d) (l:=la) (off:=g.offset) om hka,Zbk hT hrf (d:=d) (l:=lb) (off:=g.offset) om hkb,Result.andThen_ok,ihd];rw[Zoz g.offset rf.size om];cases((la.drop g.offset).take rf.size==(lb.drop g.offset).take rf.size)with
       |true=>
        simp only[U6,QW,if_false,Ud];exact ih (g.offset+rf.size) (fun g hg=>hn g (Qz _ hg)) (fun g hg=>hin g (Qz _ hg)) hc hle2 w
       |false=>simp
      ·cases hc
     ·cases hc
   have hcv:covers T (gs.toList.map fun g=>(g.offset,g.type)) 0=some r.size:=by rw[hft.1];exact la2
   have:=key gs.toList 0 (fun g hg=>hft.2 g hg) (fun g hg=>by rw[←hft.1];exact Qi.2 ⟨g,hg,rfl⟩) hcv (Uw _) w;simpa using this
  ·cases ha
end
section ops
variable {P:Program} {T:TT} {o:Oper} {ρ:Operand→AV}
def Zb2{d t:Nat}{r:Zu}{l:List KL}(h1:T t=some r)(h:Z8 T d t l=true)(hag:r.isAgg=true):∃fs,r.td= .struct fs:=by
 cases d with
 |zero=>simp[Z8]at h
 |succ d=>
  simp only[Z8,h1]at h;split at h
  ·rename_i hk;simp[Zu.isAgg,hk]at hag
  ·rename_i hk;simp[Zu.isAgg,hk]at hag
  ·rename_i hk;simp[Zu.isAgg,hk]at hag
  ·rename_i fs hk;exact⟨fs,hk⟩
  ·cases h
def Zou{op:BinOp}{t yt:TypeId}{x y:Operand}{r:Zu}{az bs:List AV}{la lb:List KL}(hT:TOK P T)(ho:o.op= .binOp op t x y yt)(h1:T t=some r)(hag:r.isAgg=true)(hx:ρ x= .agg az)(hy:ρ y= .agg bs)
  (ha:klAll az=some la) (hb:klAll bs=some lb) (fa:Z8 T 100 t la=true) (fb:Z8 T 100 t lb=true) (hop:op= .eql∨op= .neq):Y0 P o ρ (.bool (if op= .eql then la==lb else !(la==lb))):=fun E a h=>by
 have k1:=h x sO;have k2:=h y sO;obtain⟨d,inf,z,hf⟩:=Zd (hT t r h1);rw[hx]at k1;rw[hy]at k2;obtain⟨fs,hfs⟩:=Zb2 h1 fa hag;have he:execOp a.eval o=(do let v←(do eqGuard op t x y (a.eval x) (a.eval y);binOp op t (a.eval x) (a.eval y));pure (Next.value v)):=by simp only[execOp,ho]
 generalize hu:a.eval x=u at k1 he;generalize hv:a.eval y=v at k2 he;cases k1 with|agg _ us hl1 hv1=>
 cases k2 with|agg _ vs hl2 hv2=>
 have e1:=Zcw ha ⟨hl1,hv1⟩;have e2:=Zcw hb ⟨hl2,hv2⟩;subst e1;subst e2;refine⟨.bool (if op= .eql then la==lb else !(la==lb)),fun w=>?_,.bool _⟩;have heq:=Zc6 hT 100 t r la lb h1 fa fb 10000 om w;simp only[XV,hag,if_true]at heq;rw[he];rcases hop with rfl|rfl
 ·simp only[Sem.run_bind,run_eqGuard_agg w _ t x y _ _ (hf.stood fs hfs).2,Result.andThen_ok,run_eql_struct,heq,Sem.run_pure,if_true]
 ·simp only[Sem.run_bind,run_eqGuard_agg w _ t x y _ _ (hf.stood fs hfs).2,Result.andThen_ok,run_neq_struct,heq,Sem.run_pure,reduceCtorEq,if_false]
end ops
def XW(q:List KL):List (List KL)→Nat→Option Nat
 |[],_=>none
 |l::r,i=>if q=l then some i else XW q r (i+1)
def Zbi{q:List KL}:∀{ls:List (List KL)} {i j:Nat},XW q ls i=some j→i≤j∧ls[j - i]? =some q
 |[],_,_,h=>by cases h
 |l::r,i,j,h=>by
  simp only[XW]at h;split at h
  ·rename_i e;cases h;subst e;simp
  ·obtain⟨h1,h2⟩:=Zbi h;refine⟨om,?_⟩;rw[show j - i=(j - (i+1))+1 by omega,U2];exact h2
def Zld(q:List KL):List MapEntry→List (List KL)→Nat→Option (Nat×Value)
 |e::es,l::ls,i=>if q=l then some (i,e.val)else Zld q es ls (i+1)
 |_,_,_=>none
theorem ZnA{q:List KL}:∀{es:List MapEntry} {ls:List (List KL)} {i:Nat},es.length=ls.length→Zld q es ls i=(XW q ls i).bind fun j=>(es[j - i]?).map fun e=>(j,e.val)
 |[],[],_,_=>rfl
 |e::es,l::ls,i,h=>by
  simp only[Zld,XW];split
  ·simp
  ·rw[ZnA (by simpa using h)];cases hf:XW q ls (i+1)with
   |none=>rfl
   |some j=>
    obtain⟨h1,_⟩:=Zbi hf;simp only[UJ];rw[show j - i=(j - (i+1))+1 by omega,U2]
 |[],_::_,_,h=>by simp at h
 |_::_,[],_,h=>by simp at h
section
variable {P:Program} {T:TT}
def Vo{d t:Nat}{r:Zu}{l:List KL}(h1:T t=some r)(h:Z8 T d t l=true)(hag:r.isAgg=false):
  (∃k n,r.td= .int k∧l=[.int k n])∨(∃s,r.td= .str∧l=[.str s])∨ ∃b,r.td= .bool∧l=[.bool b]:=by
 cases d with
 |zero=>simp[Z8]at h
 |succ d=>
  simp only[Z8,h1]at h;split at h
  ·rename_i k hk;split at h
   ·rename_i k' n;simp only[beq_iff_eq]at h;subst h;exact .inl ⟨k,n,hk,rfl⟩
   ·cases h
  ·rename_i hk;split at h
   ·exact .inr (.inl ⟨_,hk,rfl⟩)
   ·cases h
  ·rename_i hk;split at h
   ·exact .inr (.inr ⟨_,hk,rfl⟩)
   ·cases h
  ·rename_i fs hfs;simp[Zu.isAgg,hfs]at hag
  ·cases h
def fits_int{k:IntKind}{d:TypeDesc}(h:(TD.int k).fits d=true):d= .int k:=by
 cases d<;>simp[TD.fits]at h;rw[h]
def fits_bool{d:TypeDesc}(h:TD.bool.fits d=true):d= .bool:=by
 cases d<;>simp[TD.fits]at h;rfl
def ZbC {fs : List (Nat × TypeId)} {d : TypeDesc} (h : (TD.struct fs).fits d = true) : ∃ gs, d = .struct gs ∧ gs.toList.map (fun g => (g.offset, g.type)) = fs ∧ ∀ g ∈ gs.toList, g.name ≠ "_" := by
 cases d<;>try(simp[TD.fits]at h;done)
 rename_i gs;simp only[TD.fits,Qd,beq_iff_eq,Qy,bne_iff_ne]at h;exact⟨gs,rfl,h.1,h.2⟩
def Zmv{t d:Nat}{r:Zu}{q l:List KL}{de:TypeDesc}(h1:T t=some r)(hfit:r.td.fits de=true)(hag:r.isAgg=false)(hq:Z8 T d t q=true)(hl:Z8 T d t l=true):
  Instr.sameNow de (XV r q) (XV r l)=some (decide (q=l)):=by
 rcases Vo h1 hq hag with⟨k,n,hk,rfl⟩|⟨s,hk,rfl⟩|⟨b,hk,rfl⟩<;>rcases Vo h1 hl hag with⟨k',n',hk',rfl⟩|⟨s',hk',rfl⟩|⟨b',hk',rfl⟩<;>rw[hk]at hk' hfit<;>cases hk'
 ·obtain rfl:=fits_int hfit;simp only[XV,hag,QW,if_false,Qv,Ux,MF,KL.val,Instr.sameNow,if_true];rw[Qp,U3];simp
 ·obtain rfl:=VU hfit;simp only[XV,hag,QW,if_false,Qv,Ux,MF,KL.val,Instr.sameNow];rw[Qp,U3,beq_toListBytes,ByteArray.toList_mk,ByteArray.toList_mk];simp
 ·obtain rfl:=fits_bool hfit;simp only[XV,hag,QW,if_false,Qv,Ux,MF,KL.val,Instr.sameNow];rw[Qp,U3];simp
theorem Zgo{t d:Nat}{r:Zu}{q:List KL}{de:TypeDesc}(h1:T t=some r)(hfit:r.td.fits de=true)(hag:r.isAgg=false)(hq:Z8 T d t q=true):∀(es:List MapEntry) (ls:List (List KL)) (i:Nat),
  es.map (·.key)=ls.map (XV r)→(∀l∈ls,Z8 T d t l=true)→Instr.findNow de (XV r q) es i=some (Zld q es ls i)
 |[],[],_,_,_=>rfl
 |e::es,l::ls,i,h,hf=>by
  simp only[Qv,Uf]at h;simp only[Instr.findNow,h.1,Zmv h1 hfit hag hq (hf l sm),Zld];by_cases hql:q=l
  ·simp[hql]
  ·simp only[hql,decide_false,if_false];exact Zgo h1 hfit hag hq es ls (i+1) h.2 (fun l hl=>hf l (Qz _ hl))
 |[],_::_,_,h,_=>by simp at h
 |_::_,[],_,h,_=>by simp at h
theorem ZcE(hT:TOK P T){t:Nat}{r:Zu}{q:List KL}(h1:T t=some r)(hq:Z8 T 100 t q=true)(w:World):∀(es:List MapEntry) (ls:List (List KL)) (i:Nat),
  es.map (·.key)=ls.map (XV r)→(∀l∈ls,Z8 T 100 t l=true)→(Instr.findAsking t (XV r q) es i).run P w= .ok (Zld q es ls i) w
 |[],[],_,_,_=>rfl
 |e::es,l::ls,i,h,hf=>by
  simp only[Qv,Uf]at h;have he:(Op.equal t (XV r q) (XV r l)).run P w= .ok (q==l) w:=Zc6 hT 100 t r q l h1 hq (hf l sm) 10000 om w;simp only[Instr.findAsking,h.1,Sem.run_bind,he,Result.andThen_ok,Zld];by_cases hql:q=l
  ·simp[hql]
  ·simp only[hql,beq_iff_eq,if_false];exact ZcE hT h1 hq w es ls (i+1) h.2 (fun l hl=>hf l (Qz _ hl))
 |[],_::_,_,h,_=>by simp at h
 |_::_,[],_,h,_=>by simp at h
def Zmw(hT:TOK P T){t:Nat}{r:Zu}{q:List KL}(h1:T t=some r)(hq:Z8 T 100 t q=true)(w:World)(es:List MapEntry)(ls:List (List KL))
  (h:es.map (·.key)=ls.map (XV r)) (hf:∀l∈ls,Z8 T 100 t l=true):(Instr.findKey t (XV r q) es).run P w= .ok (Zld q es ls 0) w:=by
 obtain⟨de,inf,z,hrf⟩:=Zd (hT t r h1);cases hag:r.isAgg with
 |false=>
  simp[Instr.findKey,run_underlying hrf.und,Zgo h1 hrf.fits hag hq es ls 0 h hf]
 |true=>
  obtain⟨fs,hfs⟩:=Zb2 h1 hq hag;obtain⟨gs,rfl,_⟩:=ZbC (hfs▸hrf.fits);rw[run_findKey_eq w (by rw[hrf.und])];exact ZcE hT h1 hq w es ls 0 h hf
def Zfg(hT:TOK P T)(em:Bool):∀(d:Nat) (t:TypeId) (r:Zu) (l:List KL),T t=some r→Z8 T d t l=true→ ∀dd,d≤dd→ ∀w:World,(Instr.checkKey em dd t (XV r l)).run P w= .ok () w
 |0,_,_,_,_,h,_,_,_=>by simp[Z8]at h
 |d+1,t,r,l,h1,hk,dd,hd,w=>by
  obtain⟨dd,rfl⟩:∃x,dd=x+1:=⟨dd - 1,om⟩
  obtain⟨de,inf,z,hrf⟩:=Zd (hT t r h1);cases hag:r.isAgg with
  |false=>
   rcases Vo h1 hk hag with⟨k,n,hk',rfl⟩|⟨s,hk',rfl⟩|⟨b,hk',rfl⟩
   ·have:=fits_int (hk'▸hrf.fits);subst this;simp[Instr.checkKey,run_underlying hrf.und,XV,hag,KL.val]
   ·have:=VU (hk'▸hrf.fits);subst this;simp[Instr.checkKey,run_underlying hrf.und,XV,hag,KL.val]
   ·have:=fits_bool (hk'▸hrf.fits);subst this;simp[Instr.checkKey,run_underlying hrf.und,XV,hag,KL.val]
  |true=>
   obtain⟨fs,hfs⟩:=Zb2 h1 hk hag;obtain⟨gs,rfl,hgs,hn⟩:=ZbC (hfs▸hrf.fits);simp only[Z8,h1,hfs,Qd,beq_iff_eq,Qy]at hk;obtain⟨⟨hlen,hcv⟩,hall⟩:=hk;have hle:∀(fl:List (Nat×TypeId)) (n x:Nat),covers T fl n=some x→n≤x∧ ∀p∈fl,∀rf,T p.2=some rf→p.1+rf.size≤x:=by
    intro fl;induction fl with
    |nil=>intro n x h;simp only[covers,Qp]at h;exact⟨om,sm⟩
    |cons p fl ih=>
     intro n x h;obtain⟨o,ft⟩:=p;simp only[covers]at h;split at h
     ·rename_i ho;split at h
      ·rename_i rf hrf';obtain⟨a1,a2⟩:=ih _ _ h;refine⟨om,fun p hp rf' hrf2=>?_⟩;rcases Ql.1 hp with rfl|hp
       ·simp only[hrf',Qp]at hrf2;subst hrf2;simp only;omega
       ·exact a2 p hp rf' hrf2
      ·cases h
     ·cases h
   have hin:=(hle _ _ _ hcv).2;simp only[XV,hag,if_true];unfold Instr.checkKey;simp only[Sem.run_bind,run_underlying hrf.und,Result.andThen_ok];rw[←Array.forIn_toList];have key:∀(gl:List Field),(∀g∈gl,(g.offset,g.type)∈fs)→ ∀w:World,
     (forIn gl PUnit.unit fun f (_ : PUnit) => (if f.name ≠ "_" then do
       let a←part f.type (l.map KL.val).toArray f.offset
       Instr.checkKey em dd f.type a
       pure (ForInStep.yield PUnit.unit)
      else pure (ForInStep.yield PUnit.unit):Sem (ForInStep PUnit))).run P w= .ok PUnit.unit w:=by
    intro gl;induction gl with
    |nil=>intro _ w;rfl
    |cons g gl ih=>
     intro hg w;have hgf:=hall _ (hg g sm);cases hrg:T g.type with
     |none=>rw[hrg]at hgf;simp at hgf
     |some rf=>
      simp only[hrg]at hgf;have hpart:=Zbk hT hrg (d:=d) (l:=l) (off:=g.offset) (by rw[hlen];exact hin _ (hg g sm) rf hrg) hgf;have hck:=Zfg hT em d g.type rf _ hrg hgf dd om;simp only[List.forIn_cons,Sem.run_bind,Sem.run_ite];split
      ·simp only[hpart,hck,Sem.run_bind,Result.andThen_ok,Sem.run_pure];exact ih (fun g hg'=>hg g (Qz _ hg')) w
      ·simp only[Sem.run_pure,Result.andThen_ok];exact ih (fun g hg'=>hg g (Qz _ hg')) w
   have:=key gs.toList (fun g hg=>by rw[←hgs];exact Qi.2 ⟨g,hg,rfl⟩) w;rw[this];rfl
def ZkI(r:Zu)(l:List KL)(hs:r.isAgg=false→ ∃x,l=[x]):Instr.sameBits 10000 (XV r l) (XV r l)=true:=by
 have h1:∀(x:KL) n,Instr.sameBits n x.val x.val=true:=by
  intro x n;cases x with
  |int k n=>simp[KL.val,Instr.sameBits]
  |bool b=>simp[KL.val,Instr.sameBits]
  |str s=>simp only[KL.val,Instr.sameBits];rw[beq_toListBytes];simp
 unfold XV;cases hag:r.isAgg with
 |true=>
  simp only[if_true,Instr.sameBits,beq_self_eq_true,Ud,Qy];intro p hp;obtain⟨i,hi,rfl⟩:=QJ hp;simp only[List.getElem_zip];rw[QN];exact h1 _ _
 |false=>
  obtain⟨x,rfl⟩:=hs hag;simp only[QW,if_false,Qv,Ux,MF];exact h1 x _
def Zli{t d:Nat}{r:Zu}{l:List KL}(h1:T t=some r)(h:Z8 T d t l=true)(w:World):(Instr.keyThatStays (XV r l) (XV r l)).run P w= .ok (XV r l) w:=by
 simp only[Instr.keyThatStays];rw[if_pos (ZkI r l (fun hag=>by
  rcases Vo h1 h hag with⟨k,n,_,e⟩|⟨s,_,e⟩|⟨b,_,e⟩<;>exact⟨_,e⟩))]
 rfl
end
def AV.isAgg:AV→Bool
 | .agg _=>true
 |_=>false
def AV.kls(a:AV):List KL:=(klAll a.cells).getD []
def YF(T:TT)(kt:TypeId)(a:AV):Bool:=match T kt with
 |some rk=>match klAll a.cells with
  |some l=>Z8 T 100 kt l&&a.isAgg==rk.isAgg
  |none=>false
 |none=>false
def XB(k:AV)(es:List (AV×AV)):Option Nat:=XW k.kls (es.map fun p=>p.1.kls) 0
def XP(r:Zu):AV:=if r.isAgg then .agg r.zero else r.zero.getD 0 .dead
def Zc3{T:TT}{kt:TypeId}{a:AV}(h:YF T kt a=true):∃rk,T kt=some rk∧klAll a.cells=some a.kls∧Z8 T 100 kt a.kls=true∧a.isAgg=rk.isAgg:=by
 unfold YF at h;split at h
 ·rename_i rk hrk;split at h
  ·rename_i l hl;simp only[Qd,beq_iff_eq]at h;exact⟨rk,hrk,by simp[AV.kls,hl],by simpa[AV.kls,hl]using h.1,h.2⟩
  ·cases h
 ·cases h
def ZiR{E:Env}{T:TT}{kt:TypeId}{a:AV}{v:Value}{rk:Zu}(h:YF T kt a=true)(hrk:T kt=some rk)(hv:VR E a v):v=XV rk a.kls:=by
 obtain⟨rk',h1,h2,h3,h4⟩:=Zc3 h;rw[hrk]at h1;cases h1;cases hv with
 |agg cs vs hl hvs=>
  have:rk.isAgg=true:=by rw[←h4];rfl
  have e:=Zcw h2 ⟨hl,hvs⟩;simp only[XV,this,if_true];rw[←e]
 |int k n=>simp only[AV.cells,klAll,AV.kl,Qp]at h2;rw[←h2];simp[XV,←h4,AV.isAgg,KL.val]
 |bool b=>simp only[AV.cells,klAll,AV.kl,Qp]at h2;rw[←h2];simp[XV,←h4,AV.isAgg,KL.val]
 |str l=>simp only[AV.cells,klAll,AV.kl,Qp]at h2;rw[←h2];simp[XV,←h4,AV.isAgg,KL.val]
 |_=>simp[AV.cells,klAll,AV.kl]at h2
section
variable {P:Program} {T:TT}
def Zdu(hT:TOK P T){E:Env}{w:World}{kt:TypeId}{k:AV}{kv:Value}{es:List (AV×AV)}{ent:Array MapEntry}(hk:YF T kt k=true)(hes:∀p∈es,YF T kt p.1=true)(hv:VR E k kv)(hs:ent.size=es.length)
  (hr:∀i (h:i<es.length) (h':i<ent.size),VR E es[i].1 ent[i].key∧VR E es[i].2 ent[i].val∧ent[i].born=i):
  (∀em,(Instr.checkKey em 10000 kt kv).run P w= .ok () w)∧(Instr.keyThatStays kv kv).run P w= .ok kv w∧(∀i,XB k es=some i→ ∃h:i<es.length,∀h':i<ent.size,ent[i].key=kv)∧
  (Instr.findKey kt kv ent.toList).run P w= .ok ((XB k es).bind fun j=>(ent[j]?).map fun e=>(j,e.val)) w:=by
 obtain⟨rk,h1,h2,h3,h4⟩:=Zc3 hk;have e1:=ZiR hk h1 hv;subst e1;have hkeys:ent.toList.map (·.key)=(es.map fun p=>p.1.kls).map (XV rk):=by
  apply Gh
  ·simp[hs]
  ·intro i a1 a2;simp only[Qw,Uj]at a1 a2;simp only[QN,ML];exact ZiR (hes _ (Qa a2)) h1 (hr i a2 a1).1
 have hf:∀l∈es.map (fun p=>p.1.kls),Z8 T 100 kt l=true:=by
  intro l hl;obtain⟨p,hp,rfl⟩:=Qi.1 hl;obtain⟨_,_,_,h,_⟩:=Zc3 (hes p hp);exact h
 refine⟨fun em=>Zfg hT em 100 kt rk _ h1 h3 10000 om w,Zli h1 h3 w,fun i hi=>?_,?_⟩
 ·obtain⟨_,h6⟩:=Zbi hi;rw[MW,Ua]at h6;cases hg:es[i]? with
  |none=>rw[hg]at h6;cases h6
  |some p=>
   rw[hg,Us,Qp]at h6;have hlt:i<es.length:=by
    rcases Qe i es.length with h|h
    ·exact h
    ·rw[Uu h]at hg;cases hg
   refine⟨hlt,fun h'=>?_⟩;have:=ZiR (hes _ (Qa hlt)) h1 (hr i hlt h').1;rw[Qb hlt,Qp]at hg;rw[hg,h6]at this;exact this
 ·rw[Zmw hT h1 h3 w ent.toList _ hkeys hf,ZnA (by simp[hs])];simp[XB]
def ZgB{k:AV}{es:List (AV×AV)}{i:Nat}(h:XB k es=some i):i<es.length:=by
 obtain⟨_,h6⟩:=Zbi h;rw[MW,Ua]at h6;rcases Qe i es.length with h|h
 ·exact h
 ·rw[Uu h]at h6;cases h6
def ZbB{E:Env}{t:TypeId}{r:Zu}{d:TypeDesc}{i:TypeInfo}{z:Value}(hf:Jb P t r d i z)(h0:r.isAgg=false→r.size=1):VR E (XP r) z:=by
 have h:=Xv (E:=E) hf.zfits;unfold XP;cases hag:r.isAgg with
 |true=>
  have hz:isAggV z=true:=by rw[←hf.zagg];exact hag
  cases z<;>simp[isAggV]at hz;simp only[if_true];exact .agg _ _ h.1 h.2
 |false=>
  have hz:isAggV z=false:=by rw[←hf.zagg];exact hag
  have hsz:=hf.zsize;have hc:z.cells= #[z]:=by cases z<;>simp[isAggV]at hz<;>rfl
  rw[hc]at h;obtain⟨h1,h2⟩:=h;simp only[Qq,QB]at h1;simp only[QW,if_false];have h3:=h2 0 om sm;simpa[Qn,Qb (show 0<r.zero.length by omega)]using h3
def mapOf(T:TT)(t:TypeId):Option (TypeId×TypeId×Zu):=
 match T t with
 |some r=>match r.td with
  | .map k e=>(T e).map fun re=>(k,e,re)
  |_=>none
 |none=>none
def VF(hT:TOK P T){t k e:TypeId}{re:Zu}(h:mapOf T t=some (k,e,re)):P.underlying t=some (.map k e)∧T e=some re:=by
 unfold mapOf at h;split at h
 ·rename_i r hr;split at h
  ·rename_i k' e' hd;simp only[Ur]at h;obtain⟨re',h1,h2⟩:=h;cases h2;obtain⟨d,i,z,hf⟩:=Zd (hT t r hr);have:=hf.fits;rw[hd]at this;cases d<;>simp[TD.fits]at this;obtain⟨rfl,rfl⟩:=this;exact⟨hf.und,h1⟩
  ·cases h
 ·cases h
end
section ops
variable {P:Program} {T:TT} {o:Oper} {ρ:Operand→AV}
def ZmF{m:Nat}{H:Za}{t:TypeId}{l k:Nat}(ho:o.op= .makeMap t none)(hl:l<m)(hfree:H l k=none):
  Yv P m o ρ H (.map l k) (H.upd l k (.map [])):=fun E w a hr hops=>by
 have he:execOp a.eval o=(do let v←Instr.makeMap t none;pure (Next.value v)):=by simp only[execOp,ho];rfl
 obtain⟨hh,hx⟩:=hr.ZdO hl hfree (.map #[] 0) (.map []) ⟨w.heap.size,by simp[Env.X9],#[],heap_alloc_new w _,rfl,fun i h=>absurd h (Qo _)⟩;refine⟨.map (some w.heap.size),_,_,.inl ?_,.map l k _ (by simp[Env.X9]),hh,hx⟩;rw[he];simp[Instr.makeMap,newObj,Sem.run]
def nilA(v:AV):AV:=match v with
 | .sl _ [] .full=>.Xl
 |v=>v
theorem Zhw{k:Nat}{z:Value}(h:fitsConst (.sl k [] .full) z=true):z= .slice none 0 0:=by
 cases z with
 |slice a n c=>
  cases a with
  |none=>
   cases n with
   |zero=>cases c with
    |zero=>rfl
    |succ c=>simp[fitsConst]at h
   |succ n=>simp[fitsConst]at h
  |some a=>simp[fitsConst]at h
 |_=>simp[fitsConst]at h
def ZfA{E:Env}{t:TypeId}{r:Zu}{d:TypeDesc}{i:TypeInfo}{z:Value}(hf:Jb P t r d i z)(h0:r.isAgg=false→r.size=1):VR E (nilA (XP r)) z:=by
 have h:=ZbB (E:=E) hf h0;unfold nilA;split
 ·rename_i k he;cases hag:r.isAgg with
  |true=>simp[XP,hag]at he
  |false=>
   have hz:isAggV z=false:=by rw[←hf.zagg];exact hag
   have hc:z.cells= #[z]:=by cases z<;>simp[isAggV]at hz<;>rfl
   have hs:=hf.zfits;rw[hc]at hs;simp only[XP,hag,QW,if_false]at he
   match hzz:r.zero with
   |[]=>rw[hzz]at he;simp at he
   |a::az=>
    rw[hzz]at he hs;simp only[MF]at he;subst he;simp only[fitsAll,Qd]at hs;rw[Zhw hs.1];exact .Xl
 ·exact h
def lookA(re:Zu)(k:AV)(es:List (AV×AV))(ok:Bool):AV:=
 let r:AV×Bool:=match XB k es with
  |some i=>((es.getD i (.dead,.dead)).2,true)
  |none=>(nilA (XP re),false)
 if ok then .tup [r.1,.bool r.2]else r.1
def ZoE{m:Nat}{H:Za}{t:TypeId}{x y:Operand}{ok:Bool}{kt e:TypeId}{re:Zu}{l j:Nat}{k:AV}{es:List (AV×AV)}(hT:TOK P T)(ho:o.op= .lookup t x y ok)(h1:mapOf T t=some (kt,e,re))(h0:re.isAgg=false→re.size=1)
  (hx:ρ x= .map l j) (hy:ρ y=k) (hH:H l j=some (.map es)) (hk:YF T kt k=true) (hes:∀p∈es,YF T kt p.1=true):
  Yv P m o ρ H (lookA re k es ok) H:=fun E w a hr hops=>by
 have hxv:=hops x sO;have hyv:=hops y sO;rw[hx]at hxv;rw[hy]at hyv;obtain⟨hu,hre⟩:=VF hT h1;obtain⟨d',i',z',hf'⟩:=Zd (hT e re hre);have he:execOp a.eval o=(do let v←Instr.lookup t (a.eval x) (a.eval y) ok;pure (Next.value v)):=by simp only[execOp,ho]
 generalize hp:a.eval x=p at hxv;cases hxv with|map _ _ b hm=>
 obtain⟨b',hm',ent,hc,hs,hv⟩:=hr.map l j es (hr.norm.Zaw hm) hH;rw[hm]at hm';cases hm';obtain⟨f1,f2,f3,f4⟩:=Zdu hT (w:=w) hk hes hyv hs hv;have hg:(getObj b).run P w= .ok (.map ent es.length) w:=by simp[getObj,Sem.run,hc]
 cases hfa:XB k es with
 |none=>
  rw[hfa]at f4;simp only[Qbr]at f4;refine⟨if ok then .tuple #[z',.bool false]else z',E,w,.inl ?_,?_,hr,.refl m E w⟩
  ·rw[he,hp];simp only[Instr.lookup,Sem.run_bind,run_underlying hu,Result.andThen_ok,hg,Sem.run_pure,f1,f4,Yl hf']
  ·unfold lookA;rw[hfa];cases ok with
   |true=>exact .tup _ [z',.bool false] rfl ((VRs.cons (ZfA hf' h0) (VRs.cons (.bool _) (VRs.nil E))).2)
   |false=>exact ZfA hf' h0
 |some i=>
  rw[hfa]at f4;have hi:=ZgB hfa;have hi':i<ent.size:=om;simp only[UJ,UG hi',Us]at f4;have hval:=(hv i hi hi').2.1;refine⟨if ok then .tuple #[ent[i].val,.bool true]else ent[i].val,E,w,.inl ?_,?_,hr,.refl m E w⟩
  ·rw[he,hp];simp only[Instr.lookup,Sem.run_bind,run_underlying hu,Result.andThen_ok,hg,Sem.run_pure,f1,f4]
  ·unfold lookA;rw[hfa];have hgd:(es.getD i (.dead,.dead)).2=es[i].2:=by simp[Qn,Qb hi]
   simp only[hgd];cases ok with
   |true=>exact .tup _ [ent[i].val,.bool true] rfl ((VRs.cons hval (VRs.cons (.bool _) (VRs.nil E))).2)
   |false=>exact hval
def ZcH{t:TypeId}{x y:Operand}{ok:Bool}{kt e:TypeId}{re:Zu}{k:AV}(hT:TOK P T)(ho:o.op= .lookup t x y ok)(h1:mapOf T t=some (kt,e,re))(h0:re.isAgg=false→re.size=1)
  (hx:ρ x= .nilm) (hy:ρ y=k) (hk:YF T kt k=true):Y0 P o ρ (lookA re k [] ok):=fun E a hops=>by
 have hxv:=hops x sO;have hyv:=hops y sO;rw[hx]at hxv;rw[hy]at hyv;obtain⟨hu,hre⟩:=VF hT h1;obtain⟨d',i',z',hf'⟩:=Zd (hT e re hre);have he:execOp a.eval o=(do let v←Instr.lookup t (a.eval x) (a.eval y) ok;pure (Next.value v)):=by simp only[execOp,ho]
 generalize hp:a.eval x=p at hxv;cases hxv;refine⟨if ok then .tuple #[z',.bool false]else z',fun w=>?_,?_⟩
 ·obtain⟨f1,f2,f3,f4⟩:=Zdu hT (w:=w) (es:=[]) (ent:=#[]) hk sm hyv rfl (fun i h=>absurd h (Qo _));rw[he,hp];have f4':(Instr.findKey kt (a.eval y) []).run P w= .ok none w:=f4;simp only[Instr.lookup,Sem.run_bind,run_underlying hu,Result.andThen_ok,Sem.run_pure,f1,f4',Yl hf']
 ·unfold lookA;have:XB k []=none:=rfl;rw[this];cases ok with
  |true=>exact .tup _ [z',.bool false] rfl ((VRs.cons (ZfA hf' h0) (VRs.cons (.bool _) (VRs.nil E))).2)
  |false=>exact ZfA hf' h0
def ZaN(k v:AV)(es:List (AV×AV)):List (AV×AV):=
 match XB k es with
 |some i=>es.set i (k,v)
 |none=>es++[(k,v)]
def V6{w:World}{b:Nat}{es:Array MapEntry}{c:Nat}{o':Obj}(hb:w.heap[b]? =some (.map es c)):(setObj b o').run P w= .ok () {w with heap:=w.heap.setIfInBounds b o'}:=by
 simp[setObj,Sem.run,hb]
def Zb3{m:Nat}{H:Za}{E:Env}{w:World}(hr:Zt m H E w){l j b:Nat}(hm:E.m l j=some b){x:Obj}(hb:w.heap[b]? =some x){es:List (AV×AV)}{ent:Array MapEntry}(hs:ent.size=es.length)
  (hv:∀i (h:i<es.length) (h':i<ent.size),VR E es[i].1 ent[i].key∧VR E es[i].2 ent[i].val∧ent[i].born=i):
  Zt m (H.upd l j (.map es)) E {w with heap:=w.heap.setIfInBounds b (.map ent es.length)}∧Ext m E w E {w with heap:=w.heap.setIfInBounds b (.map ent es.length)}:=by
 have hlt:b<w.heap.size:=(QX.1 hb).1;exact hr.turn (.inl hm) (.map es) (fun hg=>absurd (hr.m_g hm) hg) rfl rfl rfl (fun _=>Qg _) sm (fun b' hne=>by simp[UQ (Ne.symm hne)]) (fun o=>hr.mF _ _ _ o hm)
  ⟨b,hm,ent,by simp[hlt],hs,hv⟩
def Zd2{m:Nat}{H:Za}{t:TypeId}{x y z:Operand}{kt e:TypeId}{re:Zu}{l j:Nat}{k v:AV}{es:List (AV×AV)}(hT:TOK P T)(ho:o.op= .mapUpdate t x y z∨o.op= .insert t x y z)(h1:mapOf T t=some (kt,e,re))
  (hx:ρ x= .map l j) (hy:ρ y=k) (hz:ρ z=v) (hH:H l j=some (.map es)) (hk:YF T kt k=true) (hes:∀p∈es,YF T kt p.1=true):
  Yv P m o ρ H (.tup []) (H.upd l j (.map (ZaN k v es))):=fun E w a hr hops=>by
 have hxv:=hops x (by rcases ho with ho|ho<;>simp[ho,Op.operands]);have hyv:=hops y (by rcases ho with ho|ho<;>simp[ho,Op.operands]);have hzv:=hops z (by rcases ho with ho|ho<;>simp[ho,Op.operands]);rw[hx]at hxv;rw[hy]at hyv;rw[hz]at hzv;obtain⟨hu,hre⟩:=VF hT h1;have he:execOp a.eval o=(do Instr.mapUpdate t (a.eval x) (a.eval y) (a.eval z);pure .skip):=by rcases ho with ho|ho<;>simp only[execOp,ho]
 generalize hp:a.eval x=p at hxv;cases hxv with|map _ _ b hm=>
 obtain⟨b',hm',ent,hc,hs,hv⟩:=hr.map l j es (hr.norm.Zaw hm) hH;rw[hm]at hm';cases hm';obtain⟨f1,f2,f3,f4⟩:=Zdu hT (w:=w) hk hes hyv hs hv;have hg:(getObj b).run P w= .ok (.map ent es.length) w:=by simp[getObj,Sem.run,hc]
 cases hfa:XB k es with
 |none=>
  rw[hfa]at f4;simp only[Qbr]at f4;have hput:ZaN k v es=es++[(k,v)]:=by simp only[ZaN,hfa]
  obtain⟨hh,hxx⟩:=Zb3 hr hm hc (es:=es++[(k,v)]) (ent:=ent.push {key:=a.eval y,val:=a.eval z,born:=es.length}) (by simp[hs]) (fun i h h'=>by
   rcases Qe i es.length with hi|hi
   ·rw[MV hi,QbC om];exact hv i hi om
   ·have:i=es.length:=by simp at h;omega
    subst this;simp only[Qa8];simp only[←hs,QbH];exact⟨hyv,hzv,trivial⟩)
  refine⟨undef,E,_,.inr ⟨?_,rfl⟩,V4 E,by rw[hput];exact hh,hxx⟩;rw[he,hp];simp only[Instr.mapUpdate,Sem.run_bind,run_underlying hu,Result.andThen_ok,hg,f1,f4,V6 hc,Sem.run_pure,Qh,Qq,QB,QK]
 |some i=>
  rw[hfa]at f4;have hi:=ZgB hfa;have hi':i<ent.size:=om;simp only[UJ,UG hi',Us]at f4;have hkey:ent[i].key=a.eval y:=by obtain⟨_,h⟩:=f3 i hfa;exact h hi'
  have hput:ZaN k v es=es.set i (k,v):=by simp only[ZaN,hfa]
  obtain⟨hh,hxx⟩:=Zb3 hr hm hc (es:=es.set i (k,v)) (ent:=ent.modify i fun e=>{e with key:=a.eval y,val:=a.eval z}) (by simp[hs]) (fun j h h'=>by
   simp only[MO]at h;have h3:=hv j h om;rw[Gy,QaY];by_cases hij:i=j
   ·subst hij;simp only[if_true];exact⟨hyv,hzv,h3.2.2⟩
   ·simp only[hij,if_false];exact h3)
  refine⟨undef,E,_,.inr ⟨?_,rfl⟩,V4 E,by rw[hput];exact hh,hxx⟩;rw[he,hp];simp only[Instr.mapUpdate,Sem.run_bind,run_underlying hu,Result.andThen_ok,hg,f1,f4,UG hi',Us,Um,hkey,f2,V6 hc,Sem.run_pure,MO]
def Zfs(re:Zu)(k:AV)(es:List (AV×AV)):AV×List (AV×AV):=
 match XB k es with
 |some i=>(.tup [(es.getD i (.dead,.dead)).2,.int .i64 i],es.set i (k,(es.getD i (.dead,.dead)).2))
 |none=>(.tup [XP re,.int .i64 es.length],es++[(k,XP re)])
def Zlb{m:Nat}{H:Za}{t:TypeId}{x y:Operand}{kt e:TypeId}{re:Zu}{l j:Nat}{k:AV}{es:List (AV×AV)}(hT:TOK P T)(ho:o.op= .mapEntry t x y)(h1:mapOf T t=some (kt,e,re))(h0:re.isAgg=false→re.size=1)
  (hx:ρ x= .map l j) (hy:ρ y=k) (hH:H l j=some (.map es)) (hk:YF T kt k=true) (hes:∀p∈es,YF T kt p.1=true):
  Yv P m o ρ H (Zfs re k es).1 (H.upd l j (.map (Zfs re k es).2)):=fun E w a hr hops=>by
 have hxv:=hops x sO;have hyv:=hops y sO;rw[hx]at hxv;rw[hy]at hyv;obtain⟨hu,hre⟩:=VF hT h1;obtain⟨d',i',z',hf'⟩:=Zd (hT e re hre);have he:execOp a.eval o=(do let v←Instr.mapEntry t (a.eval x) (a.eval y);pure (Next.value v)):=by simp only[execOp,ho]
 generalize hp:a.eval x=p at hxv;cases hxv with|map _ _ b hm=>
 obtain⟨b',hm',ent,hc,hs,hv⟩:=hr.map l j es (hr.norm.Zaw hm) hH;rw[hm]at hm';cases hm';obtain⟨f1,f2,f3,f4⟩:=Zdu hT (w:=w) hk hes hyv hs hv;have hg:(getObj b).run P w= .ok (.map ent es.length) w:=by simp[getObj,Sem.run,hc]
 cases hfa:XB k es with
 |none=>
  rw[hfa]at f4;simp only[Qbr]at f4;have hput:Zfs re k es=(.tup [XP re,.int .i64 es.length],es++[(k,XP re)]):=by simp only[Zfs,hfa]
  obtain⟨hh,hxx⟩:=Zb3 hr hm hc (es:=es++[(k,XP re)]) (ent:=ent.push {key:=a.eval y,val:=z',born:=es.length}) (by simp[hs]) (fun i h h'=>by
   rcases Qe i es.length with hi|hi
   ·rw[MV hi,QbC om];exact hv i hi om
   ·have:i=es.length:=by simp at h;omega
    subst this;simp only[Qa8];simp only[←hs,QbH];exact⟨hyv,ZbB hf' h0,trivial⟩)
  refine⟨.tuple #[z',.int .i64 es.length],E,_,.inl ?_,?_,by rw[hput];exact hh,hxx⟩
  ·rw[he,hp];simp only[Instr.mapEntry,Sem.run_bind,run_underlying hu,Result.andThen_ok,hg,f1,f4,Yl hf',V6 hc,Sem.run_pure,Qh,Qq,QB,QK,goInt]
  ·rw[hput];exact .tup _ [z',.int .i64 es.length] rfl ((VRs.cons (ZbB hf' h0) (VRs.cons (.int _ _) (VRs.nil E))).2)
 |some i=>
  rw[hfa]at f4;have hi:=ZgB hfa;have hi':i<ent.size:=om;simp only[UJ,UG hi',Us]at f4;have hkey:ent[i].key=a.eval y:=by obtain⟨_,h⟩:=f3 i hfa;exact h hi'
  have hgd:(es.getD i (.dead,.dead)).2=es[i].2:=by simp[Qn,Qb hi]
  have hput:Zfs re k es=(.tup [es[i].2,.int .i64 i],es.set i (k,es[i].2)):=by simp only[Zfs,hfa,hgd]
  have hborn:=(hv i hi hi').2.2;obtain⟨hh,hxx⟩:=Zb3 hr hm hc (es:=es.set i (k,es[i].2)) (ent:=ent.modify i fun e=>{e with key:=a.eval y}) (by simp[hs]) (fun j h h'=>by
   simp only[MO]at h;have h3:=hv j h om;rw[Gy,QaY];by_cases hij:i=j
   ·subst hij;simp only[if_true];exact⟨hyv,h3.2.1,h3.2.2⟩
   ·simp only[hij,if_false];exact h3)
  refine⟨.tuple #[ent[i].val,.int .i64 i],E,_,.inl ?_,?_,by rw[hput];exact hh,hxx⟩
  ·rw[he,hp];simp only[Instr.mapEntry,Sem.run_bind,run_underlying hu,Result.andThen_ok,hg,f1,f4,UG hi',Us,Um,hkey,f2,V6 hc,Sem.run_pure,MO,goInt,hborn]
  ·rw[hput];exact .tup _ [ent[i].val,.int .i64 i] rfl ((VRs.cons (hv i hi hi').2.1 (VRs.cons (.int _ _) (VRs.nil E))).2)
def Zhj{ent:Array MapEntry}{n i:Nat}(hs:ent.size=n)(hb:∀j (h:j<ent.size),ent[j].born=j)(hi:i<n):ent.findIdx? (fun e=>((e.born:Nat):Int)==((i:Nat):Int))=some i:=by
 rw[Array.findIdx?_eq_some_iff_getElem];refine⟨om,?_,fun j hj=>?_⟩
 ·simp[hb i om]
 ·simp only[hb j om,beq_iff_eq];omega
def Zhh{m:Nat}{H:Za}{t:TypeId}{x y z:Operand}{l j:Nat}{i:Nat}{kk:IntKind}{v:AV}{es:List (AV×AV)}(ho:o.op= .entryStore t x y z)(hx:ρ x= .map l j)(hy:ρ y= .int kk i)(hz:ρ z=v)(hH:H l j=some (.map es))(hi:i<es.length):
  Yv P m o ρ H (.tup []) (H.upd l j (.map (es.set i ((es.getD i (.dead,.dead)).1,v)))):=fun E w a hr hops=>by
 have hxv:=hops x sO;have hyv:=hops y sO;have hzv:=hops z sO;rw[hx]at hxv;rw[hy]at hyv;rw[hz]at hzv;have he:execOp a.eval o=(do Instr.entryStore t (a.eval x) (a.eval y) (a.eval z);pure .skip):=by simp only[execOp,ho]
 generalize hp:a.eval x=p at hxv;generalize hq:a.eval y=q at hyv;cases hxv with|map _ _ b hm=>
 cases hyv;obtain⟨b',hm',ent,hc,hs,hv⟩:=hr.map l j es (hr.norm.Zaw hm) hH;rw[hm]at hm';cases hm';have hg:(getObj b).run P w= .ok (.map ent es.length) w:=by simp[getObj,Sem.run,hc]
 have hfi:=Zhj hs (fun j h=>(hv j om h).2.2) hi;have hgd:(es.getD i (.dead,.dead)).1=es[i].1:=by simp[Qn,Qb hi]
 obtain⟨hh,hxx⟩:=Zb3 hr hm hc (es:=es.set i (es[i].1,v)) (ent:=ent.modify i fun e=>{e with val:=a.eval z}) (by simp[hs]) (fun j h h'=>by
   simp only[MO]at h;have h3:=hv j h om;rw[Gy,QaY];by_cases hij:i=j
   ·subst hij;simp only[if_true];exact⟨h3.1,hzv,h3.2.2⟩
   ·simp only[hij,if_false];exact h3)
 refine⟨undef,E,_,.inr ⟨?_,rfl⟩,V4 E,by rw[hgd];exact hh,hxx⟩;rw[he,hp,hq];simp only[Instr.entryStore,Sem.run_bind,Sem.run_pure,Result.andThen_ok,hg,asInt,asIntOf,hfi,V6 hc,MO]
end ops
def Zbg(P:Program)(m:Nat)(o:Oper)(ρ:Operand→AV)(H:Za)(S:AV→Za→Prop):Prop:=
 ∀E w (a:Act) (Q:Exit→Act→World→Prop) (K:Act→World→Prop),Zt m H E w→(∀x∈o.op.operands,VR E (ρ x) (a.eval x))→
  (∀E' w' cv v H',S v H'→VR E' v cv→Zt m H' E' w'→Ext m E w E' w'→K (a.put o.dst cv) w')→ ∀ro,o.wpIn (fr ro) 0 P a w K Q
def Zu7(H:Za)(l k l' j:Nat)(es:List (AV×AV))(seen:List Nat)(v:AV)(H':Za):Prop:=
 ((∀i,i<es.length→i∈seen)∧v= .tup [.bool false]∧H'=H)∨
 ∃i,i<es.length∧i∉seen∧v= .tup [.bool true,(es.getD i (.dead,.dead)).1,(es.getD i (.dead,.dead)).2]∧H'=H.upd l k (.iter l' j es.length (seen++[i]))
def Zt.ZqY{m:Nat}{H:Za}{E:Env}{w:World}(hr:Zt m H E w){l k l' j b b' since:Nat}{seen:List Nat}{x:Obj}(hm:E.m l k=some b)(hm':E.m l' j=some b')(hb:w.heap[b]? =some x):
  Zt m (H.upd l k (.iter l' j since seen)) E {w with heap:=w.heap.setIfInBounds b (.mapIter (some b') since seen.toArray since)}∧Ext m E w E {w with heap:=w.heap.setIfInBounds b (.mapIter (some b') since seen.toArray since)}:=by
 have hlt:b<w.heap.size:=(QX.1 hb).1;exact hr.turn (.inl hm) (.iter l' j since seen) (fun hg=>absurd (hr.m_g hm) hg) rfl rfl rfl (fun _=>Qg _) sm (fun b' hne=>by simp[UQ (Ne.symm hne)]) (fun o=>hr.mF _ _ _ o hm)
  ⟨b,b',hm,hm',by simp[hlt]⟩
section ops
variable {P:Program} {T:TT} {o:Oper} {ρ:Operand→AV}
def ZqD{m:Nat}{H:Za}{t:TypeId}{x:Operand}{kt e:TypeId}{re:Zu}{l k l' j:Nat}{es:List (AV×AV)}(hT:TOK P T)(ho:o.op= .range t x)(h1:mapOf T t=some (kt,e,re))
  (hx:ρ x= .map l' j) (hH:H l' j=some (.map es)) (hl:l<m) (hfree:H l k=none):
  Yv P m o ρ H (.ptr l k 0) (H.upd l k (.iter l' j es.length [])):=fun E w a hr hops=>by
 have hxv:=hops x sO;rw[hx]at hxv;obtain⟨hu,hre⟩:=VF hT h1;have he:execOp a.eval o=(do let v←Instr.range t (a.eval x);pure (Next.value v)):=by simp only[execOp,ho]
 generalize hp:a.eval x=p at hxv;cases hxv with|map _ _ b hm=>
 obtain⟨b',hm',ent,hc,hs,hv⟩:=hr.map l' j es (hr.norm.Zaw hm) hH;rw[hm]at hm';cases hm';have hne:¬(l'=l∧j=k):=fun hc=>by rw[hc.1,hc.2,hfree]at hH;cases hH
 obtain⟨hh,hxx⟩:=hr.ZdO hl hfree (.mapIter (some b) es.length #[] es.length) (.iter l' j es.length []) ⟨w.heap.size,b,by simp[Env.X9],by simp only[Env.X9];rw[if_neg hne];exact hm,heap_alloc_new w _⟩;refine⟨.pointer (some ⟨w.heap.size,0,none⟩),_,_,.inl ?_,.ptr l k 0 _ (by simp[Env.X9]),hh,hxx⟩;rw[he,hp];simp[Instr.range,Sem.run_bind,run_underlying hu,getObj,Sem.run,hc,newObj,Result.andThen]
def run_next_at{w:World}{ty:TypeId}{r bm:Nat}{seen:List Nat}{es:Array MapEntry}{n:Nat}(hr:w.heap[r]? =some (.mapIter (some bm) n seen.toArray n))(hb:w.heap[bm]? =some (.map es n))(hs:es.size=n)
  (hborn:∀i (h:i<es.size),es[i].born=i):
  ((∀i,i<n→i∈seen)∧(Instr.next (.pointer (some ⟨r,0,none⟩)) false ty).run P w= .ok (.tuple #[.bool false]) w)∨
  ∃(i:Nat) (h:i<es.size),i∉seen∧ ∃dr,w.drawn≤dr∧(Instr.next (.pointer (some ⟨r,0,none⟩)) false ty).run P w= .ok (.tuple #[.bool true,es[i].key,es[i].val]) {w with heap:=w.heap.setIfInBounds r (.mapIter (some bm) n (seen++[i]).toArray n),drawn:=dr}:=by
 have hold:∀x∈es.toList,x.born<n:=by
  intro x hx;obtain⟨i,hi,rfl⟩:=QJ hx;simp only[Uj]at hi;simp only[ML,hborn i hi];omega
 simp only[Instr.next,getObj,Sem.run_bind,Sem.run,hr,hb,Result.andThen,next_test_false seen.toArray es n n hold (Qg _),QW,if_false];have hmem:∀x,x∈(Array.filter (fun e=>!seen.toArray.contains e.born) es).toList→ ∃(i:Nat) (h:i<es.size),x=es[i]∧i∉seen:=by
  intro x hx;simp only[Array.toList_filter,Uy,MJ,Array.mem_toList_iff]at hx;obtain⟨i,hi,rfl⟩:=Array.getElem_of_mem hx.1;refine⟨i,hi,rfl,fun hc=>?_⟩;have:=hx.2;rw[hborn i hi]at this;simp[hc]at this
 have hall:(Array.filter (fun e=>!seen.toArray.contains e.born) es).size=0→ ∀i,i<n→i∈seen:=by
  intro h0 i hi;have he:Array.filter (fun e=>!seen.toArray.contains e.born) es= #[]:=Mc h0;rw[Qbi]at he;have:=he es[i] (Array.getElem_mem om);rw[hborn i om]at this;simpa using this
 generalize Array.filter (fun e=>!seen.toArray.contains e.born) es=L at hmem hall⊢;have hlt:∀x∈L.toList,x.born<n:=by
  intro x hx;obtain⟨i,hi,rfl,_⟩:=hmem x hx;rw[hborn i hi];omega
 have e1:L.filter (fun x=>decide (x.born<n))=L:=Array.filter_eq_self.2 (fun x hx=>by simpa using hlt x (by simpa using hx));have e2:L.filter (fun x=>decide (x.born ≥ n))= #[]:=by
  rw[Qbi];intro x hx;have:=hlt x (by simpa using hx);simp;omega
 simp only[e1,e2,Array.append_empty];by_cases h0:L.size=0
 ·left
  refine⟨hall h0,?_⟩;have:L= #[]:=Mc h0;subst this;simp[choose,Sem.run,Question.forced]
 ·right
  have hne:L.isEmpty=false:=by simp[Array.isEmpty,h0]
  simp only[hne,QW,if_false,Array.empty_append,Array.size_map];have hch:∃(j dr:Nat),j<L.size∧w.drawn≤dr∧(choose (Question.mapNext L.size)).run P w= .ok j {w with drawn:=dr}:=by
   by_cases hf:L.size≤1
   ·exact⟨0,w.drawn,om,Qg _,by simp[choose,Sem.run,Question.forced,hf]⟩
   ·exact⟨_,w.drawn+1,Qaj _ om,Ul _,by
     simp only[choose,Sem.run,Question.forced,decide_eq_true_eq,hf,if_false,Question.cut];rfl⟩
  obtain⟨j,dr,hj,hdr,hrun⟩:=hch;obtain⟨i,hi,hei,hns⟩:=hmem L[j] sm;refine⟨i,hi,hns,dr,hdr,?_⟩;have hset:∀o',(setObj r o').run P {w with drawn:=dr}= .ok () {w with heap:=w.heap.setIfInBounds r o',drawn:=dr}:=fun o'=>by
   simp only[setObj,Sem.run,hr]
  simp only[hrun,Array.getElem?_map,UG hj,Us,Sem.run_bind,hset,Result.andThen];rw[hei,hborn i hi];simp[Sem.run]
def ZrI{m:Nat}{H:Za}{x:Operand}{l k l' j:Nat}{es:List (AV×AV)}{seen:List Nat}(ho:o.op= .next x false)(hx:ρ x= .ptr l k 0)(hH:H l k=some (.iter l' j es.length seen))(hM:H l' j=some (.map es)):
  Zbg P m o ρ H (Zu7 H l k l' j es seen):=fun E w a Q K hr hops hK ro=>by
 have hxv:=hops x sO;rw[hx]at hxv;have he:execOp a.eval o=(do let v←Instr.next (a.eval x) false o.type;pure (Next.value v)):=by simp only[execOp,ho]
 generalize hp:a.eval x=p at hxv;cases hxv with|ptr _ _ _ b hm=>
 obtain⟨r,r',a1,a2,a3⟩:=hr.blk l k _ (hr.norm.Zaw hm) hH;rw[hm]at a1;cases a1;obtain⟨b',hm',ent,hc,hs,hv⟩:=hr.map l' j es (hr.norm.Zaw a2) hM;rw[a2]at hm';cases hm';rcases run_next_at (P:=P) (ty:=o.type) a3 hc hs (fun i h=>(hv i om h).2.2)with⟨n1,n2⟩|⟨i,hi,n1,dr,hdr,n2⟩
 ·have hrun:(execOp a.eval o).run P w= .ok (.value (.tuple #[.bool false])) w:=by
   rw[he,hp];simp only[Sem.run_bind,n2,Result.andThen_ok,Sem.run_pure]
  refine Xb hrun (fun _ e=>by cases e) ?_;exact hK E w _ (.tup [.bool false]) H (.inl ⟨n1,rfl,rfl⟩) (.tup _ [.bool false] rfl ((VRs.cons (.bool _) (VRs.nil E)).2)) hr (.refl m E w)
 ·have hrun:(execOp a.eval o).run P w= .ok (.value (.tuple #[.bool true,ent[i].key,ent[i].val])) {w with heap:=w.heap.setIfInBounds b (.mapIter (some r') es.length (seen++[i]).toArray es.length),drawn:=dr}:=by
   rw[he,hp];simp only[Sem.run_bind,n2,Result.andThen_ok,Sem.run_pure]
  refine Xb hrun (fun _ e=>by cases e) ?_;have hi2:i<es.length:=om;obtain⟨hh,hxx⟩:=hr.ZqY (since:=es.length) (seen:=seen++[i]) hm a2 a3;have hgd:es.getD i (.dead,.dead)=es[i]:=by simp[Qn,Qb hi2]
  obtain⟨q1,q2,_⟩:=hv i hi2 hi;refine hK E _ _ (.tup [.bool true,es[i].1,es[i].2]) (H.upd l k (.iter l' j es.length (seen++[i]))) (.inr ⟨i,hi2,n1,by rw[hgd],rfl⟩)
   (.tup _ [.bool true,ent[i].key,ent[i].val] rfl ((VRs.cons (.bool _) (VRs.cons q1 (VRs.cons q2 (VRs.nil E)))).2)) ?_ ?_
  ·exact{norm:=hh.norm,F:=hh.F,blk:=fun l k b hl hb=>(hh.blk l k b hl hb).keep rfl rfl (fun _=>rfl) (fun _ _ _ h=>h) (fun _ _=>rfl) (fun _ _ _ h=>h) (fun _ _ _ h=>h),dom:=hh.dom,nobuf:=hh.nobuf,inj:=hh.inj,injg:=hh.injg,mg:=hh.mg,mF:=hh.mF,lt:=hh.lt}
  ·exact⟨hxx.le,hxx.os,hxx.tape,hxx.output,fun _=>hdr,hxx.size,hxx.block,hxx.own⟩
def ZpZ{m:Nat}{H:Za}{x:Operand}{l k l' j i:Nat}{es:List (AV×AV)}{seen:List Nat}(ho:o.op= .entry x)(hx:ρ x= .ptr l k 0)(hH:H l k=some (.iter l' j es.length (seen++[i])))(hM:H l' j=some (.map es))(hi:i<es.length):
  Yv P m o ρ H (.tup [(es.getD i (.dead,.dead)).1,(es.getD i (.dead,.dead)).2]) H:=fun E w a hr hops=>by
 have hxv:=hops x sO;rw[hx]at hxv;have he:execOp a.eval o=(do let v←Instr.entry (a.eval x);pure (Next.value v)):=by simp only[execOp,ho]
 generalize hp:a.eval x=p at hxv;cases hxv with|ptr _ _ _ b hm=>
 obtain⟨r,r',a1,a2,a3⟩:=hr.blk l k _ (hr.norm.Zaw hm) hH;rw[hm]at a1;cases a1;obtain⟨b',hm',ent,hc,hs,hv⟩:=hr.map l' j es (hr.norm.Zaw a2) hM;rw[a2]at hm';cases hm';have hi':i<ent.size:=om;have hf:ent.find? (·.born==i)=some ent[i]:=by
  rw[←Array.find?_toList];rw[List.find?_eq_some_iff_getElem];refine⟨by simp[(hv i hi hi').2.2],i,by simpa using hi',sm,fun j' hj'=>?_⟩;have:=(hv j' om om).2.2;simp only[ML,this,MJ,beq_eq_false_iff_ne];omega
 have hgd:es.getD i (.dead,.dead)=es[i]:=by simp[Qn,Qb hi]
 obtain⟨q1,q2,_⟩:=hv i hi hi';refine⟨.tuple #[ent[i].key,ent[i].val],E,w,.inl ?_,by rw[hgd];exact .tup _ [ent[i].key,ent[i].val] rfl ((VRs.cons q1 (VRs.cons q2 (VRs.nil E))).2),hr,.refl m E w⟩;rw[he,hp];have hbk:(seen++[i]).toArray.back? =some i:=sm;simp only[Instr.entry,getObj,Sem.run_bind,Sem.run,a3,hc,Result.andThen,hbk,bne_self_eq_false,QW,if_false,hf];rfl
def ZeH{t:TypeId}{x ix:Operand}{r re:Zu}{e:TypeId}{sz l k n:Nat}{kk:IntKind}{i:Int}(hT:TOK P T)(ho:o.op= .indexAddr t x ix)
  (h1:T t=some r) (h2:r.td= .slice e) (h3:T e=some re) (hv:ρ x= .msl sz l k n) (hi:ρ ix= .int kk i) (hlo:0≤i) (hhi:i<n):
  Y0 P o ρ (.eptr l k n (i.toNat*re.size)):=fun E a h=>by
 have hx:=h x sO;have hix:=h ix sO;rw[hv]at hx;rw[hi]at hix;obtain⟨d,inf,z,hf⟩:=Zd (hT t r h1);obtain⟨d',i',z',hf'⟩:=Zd (hT e re h3);have hd:=ZJ (h2▸hf.fits);subst hd;cases hyi:a.eval ix<;>rw[hyi]at hix<;>cases hix;generalize hy:a.eval x=y at hx;cases hx with
 |mnil=>omega
 |msl _ _ _ _ g cap hh=>
  refine⟨.pointer (some ⟨g,i.toNat*re.size,none⟩),fun w=>?_,.eptr l k n _ g cap hh⟩;simp[execOp,ho,hy,hyi,Instr.indexAt,asIntOf,run_underlying hf.und,hlo,hhi,ZE hf',ZK]
def ZeU{t:TypeId}{x ix:Operand}{r re:Zu}{e:TypeId}{sz l k n off m:Nat}{kk:IntKind}{i:Int}(hT:TOK P T)(ho:o.op= .indexAddr t x ix)
  (h1:T t=some r) (h2:r.td= .slice e) (h3:T e=some re) (hsz:sz=re.size) (hv:ρ x= .sub sz l k n off m) (hi:ρ ix= .int kk i) (hlo:0≤i) (hhi:i<m):
  Y0 P o ρ (.eptr l k n ((off+i.toNat)*re.size)):=fun E a h=>by
 have hx:=h x sO;have hix:=h ix sO;rw[hv]at hx;rw[hi]at hix;obtain⟨d,inf,z,hf⟩:=Zd (hT t r h1);obtain⟨d',i',z',hf'⟩:=Zd (hT e re h3);have hd:=ZJ (h2▸hf.fits);subst hd;cases hyi:a.eval ix<;>rw[hyi]at hix<;>cases hix;generalize hy:a.eval x=y at hx;cases hx with
 |sub _ _ _ _ _ _ g cap hh hm=>
  refine⟨.pointer (some ⟨g,(off+i.toNat)*re.size,none⟩),fun w=>?_,.eptr l k n _ g cap hh⟩;subst hsz;simp[execOp,ho,hy,hyi,Instr.indexAt,asIntOf,run_underlying hf.und,hlo,hhi,ZE hf',ZK,Ui]
def Zlu{t:TypeId}{x:Operand}{r:Zu}{e:TypeId}{sz l k n:Nat}(hT:TOK P T)(ho:o.op= .call {callee:=.builtin .len,args:=#[x],argTypes:=#[t]})
  (h1:T t=some r) (h2:r.td= .slice e) (hv:ρ x= .msl sz l k n):Y0 P o ρ (.int .i64 n):=fun E a h=>by
 have hx:=h x sC;rw[hv]at hx;obtain⟨d,inf,z,hf⟩:=Zd (hT t r h1);have hd:=ZJ (h2▸hf.fits);subst hd;generalize hy:a.eval x=y at hx;cases hx with
 |mnil=>exact⟨_,fun w=>by simp[execOp,ho,hy,resolve,invoke,builtin,Builtin.len_,run_underlying hf.und,goInt],.int _ _⟩
 |msl=>exact⟨_,fun w=>by simp[execOp,ho,hy,resolve,invoke,builtin,Builtin.len_,run_underlying hf.und,goInt],.int _ _⟩
def Zl0{t:TypeId}{x:Operand}{r:Zu}{e:TypeId}{sz l k n off m:Nat}(hT:TOK P T)(ho:o.op= .call {callee:=.builtin .len,args:=#[x],argTypes:=#[t]})
  (h1:T t=some r) (h2:r.td= .slice e) (hv:ρ x= .sub sz l k n off m):Y0 P o ρ (.int .i64 m):=fun E a h=>by
 have hx:=h x sC;rw[hv]at hx;obtain⟨d,inf,z,hf⟩:=Zd (hT t r h1);have hd:=ZJ (h2▸hf.fits);subst hd;generalize hy:a.eval x=y at hx;cases hx with
 |sub=>exact⟨_,fun w=>by simp[execOp,ho,hy,resolve,invoke,builtin,Builtin.len_,run_underlying hf.und,goInt],.int _ _⟩
def ZdB{t:TypeId}{x:Operand}{f:Nat}{r rf:Zu}{fs:List (Nat×TypeId)}{fo ft l k n off:Nat}(hT:TOK P T)(ho:o.op= .fieldAddr t x f)(h1:T t=some r)(h2:r.td= .struct fs)
  (h3:fs[f]? =some (fo,ft)) (h4:T ft=some rf) (h5:rf.size≠0) (hv:ρ x= .eptr l k n off):Y0 P o ρ (.eptr l k n (off+fo)):=fun E a h=>by
 have hx:=h x sO;rw[hv]at hx;obtain⟨d,i,z,hf⟩:=Zd (hT t r h1);obtain⟨d',i',z',hf'⟩:=Zd (hT ft rf h4);obtain⟨gs,rfl,hgs,_⟩:=ZbC (h2▸hf.fits);have hg:∃g,gs[f]? =some g∧g.offset=fo∧g.type=ft:=by
  have h3':=h3;rw[←hgs,Ua]at h3';cases hq:gs.toList[f]? with
  |none=>simp[hq]at h3'
  |some g=>rw[hq]at h3';simp at h3';exact⟨g,by rw[←Array.getElem?_toList];exact hq,h3'.1,h3'.2⟩
 obtain⟨g,hg1,hg2,hg3⟩:=hg;generalize hy:a.eval x=y at hx;cases hx with|eptr _ _ _ _ b cap hh=>
 refine⟨.pointer (some ⟨b,off+fo,none⟩),fun w=>?_,.eptr l k n _ b cap hh⟩;simp[execOp,ho,hy,Instr.fieldAt,run_underlying hf.und,hg1,Instr.sureAddr,fieldPlace,hg3,ZE hf',h5,ZK,hg2]
end ops
section
variable {P:Program} {T:TT} {o:Oper} {ρ:Operand→AV}
def ZiL{t:TypeId}{x:Operand}{r:Zu}(hT:TOK P T)(ho:o.op= .makeInterface t x)(h1:T t=some r)(h2:r.td≠ .iface):Y0 P o ρ (.ifc t (ρ x)):=fun E a h=>by
 obtain⟨d,i,z,hf⟩:=Zd (hT t r h1);have hx:=h x sO;refine⟨.iface t (a.eval x),fun w=>?_,.ifc t _ _ hx⟩;have hu:P.underlying t=some d:=hf.und;have hfit:=hf.fits;simp only[execOp,ho,Instr.makeInterface,Sem.run_bind,run_underlying hu,Result.andThen_ok];cases d<;>first|(simp[Sem.run_pure];done)|skip
 all_goals(cases hr:r.td<;>rw[hr]at hfit<;>first|(simp[TD.fits]at hfit;done)|exact absurd hr h2)
def Zhl{x:Operand}{xt t:TypeId}{r:Zu}{v:AV}(hT:TOK P T)(ho:o.op= .typeAssert x xt t true)(h1:T t=some r)(h2:r.td≠ .iface)(hx:ρ x= .ifc t v):Y0 P o ρ (.tup [v,.bool true]):=fun E a h=>by
 obtain⟨d,i,z,hf⟩:=Zd (hT t r h1);have hv:=h x sO;rw[hx]at hv;cases hy:a.eval x<;>rw[hy]at hv<;>cases hv;rename_i u hu;refine⟨.tuple #[u,.bool true],fun w=>?_,?_⟩
 ·have hud:P.underlying t=some d:=hf.und;have hfit:=hf.fits;simp only[execOp,ho,hy,Instr.typeAssert,Sem.run_bind,run_underlying hud,Result.andThen_ok];cases d<;>first|(simp[Sem.run_pure];done)|skip
  all_goals(cases hr:r.td<;>rw[hr]at hfit<;>first|(simp[TD.fits]at hfit;done)|exact absurd hr h2)
 ·exact .tup [v,.bool true] [u,.bool true] rfl (VRs.cons hu (VRs.cons (.bool true) (VRs.nil E))).2
def Zfn{x:Operand}{xt t:TypeId}{r:Zu}{v:AV}(hT:TOK P T)(ho:o.op= .typeAssert x xt t false)(h1:T t=some r)(h2:r.td≠ .iface)(hx:ρ x= .ifc t v):Y0 P o ρ v:=fun E a h=>by
 obtain⟨d,i,z,hf⟩:=Zd (hT t r h1);have hv:=h x sO;rw[hx]at hv;cases hy:a.eval x<;>rw[hy]at hv<;>cases hv;rename_i u hu;refine⟨u,fun w=>?_,hu⟩;have hud:P.underlying t=some d:=hf.und;have hfit:=hf.fits;simp only[execOp,ho,hy,Instr.typeAssert,Sem.run_bind,run_underlying hud,Result.andThen_ok];cases d<;>first|(simp[Sem.run_pure];done)|skip
 all_goals(cases hr:r.td<;>rw[hr]at hfit<;>first|(simp[TD.fits]at hfit;done)|exact absurd hr h2)
def Zi1{x:Operand}{xt t t':TypeId}{r:Zu}{v:AV}(hT:TOK P T)(ho:o.op= .typeAssert x xt t true)(h1:T t=some r)(h2:r.td≠ .iface)(h3:t'≠t)(h0:r.isAgg=false→r.size=1)(hx:ρ x= .ifc t' v):Y0 P o ρ (.tup [XP r,.bool false]):=fun E a h=>by
 obtain⟨d,i,z,hf⟩:=Zd (hT t r h1);have hv:=h x sO;rw[hx]at hv;cases hy:a.eval x<;>rw[hy]at hv<;>cases hv;refine⟨.tuple #[z,.bool false],fun w=>?_,?_⟩
 ·have hud:P.underlying t=some d:=hf.und;have hfit:=hf.fits;simp only[execOp,ho,hy,Instr.typeAssert,Sem.run_bind,run_underlying hud,Result.andThen_ok];cases d<;>first|(simp[Sem.run_pure,h3,Yl hf];done)|skip
  all_goals(cases hr:r.td<;>rw[hr]at hfit<;>first|(simp[TD.fits]at hfit;done)|exact absurd hr h2)
 ·exact .tup _ [z,.bool false] rfl (VRs.cons (ZbB hf h0) (VRs.cons (.bool false) (VRs.nil E))).2
def Zhq{x:Operand}{xt t:TypeId}{r:Zu}(hT:TOK P T)(ho:o.op= .typeAssert x xt t true)(h1:T t=some r)(h2:r.td≠ .iface)(h0:r.isAgg=false→r.size=1)(hx:ρ x= .nili):Y0 P o ρ (.tup [XP r,.bool false]):=fun E a h=>by
 obtain⟨d,i,z,hf⟩:=Zd (hT t r h1);have hv:=h x sO;rw[hx]at hv;cases hy:a.eval x<;>rw[hy]at hv<;>cases hv;refine⟨.tuple #[z,.bool false],fun w=>?_,?_⟩
 ·have hud:P.underlying t=some d:=hf.und;have hfit:=hf.fits;simp only[execOp,ho,hy,Instr.typeAssert,Sem.run_bind,run_underlying hud,Result.andThen_ok];cases d<;>first|(simp[Sem.run_pure,Yl hf];done)|skip
  all_goals(cases hr:r.td<;>rw[hr]at hfit<;>first|(simp[TD.fits]at hfit;done)|exact absurd hr h2)
 ·exact .tup _ [z,.bool false] rfl (VRs.cons (ZbB hf h0) (VRs.cons (.bool false) (VRs.nil E))).2
def Zrs(y:Operand)(v:AV):Option Bool:=match y with
 | .const (.slice none 0 0)=>(match v with
  | .Xl=>some true
  | .sl _ (_::_) _=>some false
  | .sln _=>some false
  | .msl _ _ _ (_+1)=>some false
  |_=>none)
 |_=>none
def Zrf{op:BinOp}{t yt:TypeId}{x y:Operand}{r:Zu}{e:TypeId}{b:Bool}(hT:TOK P T)(ho:o.op= .binOp op t x y yt)(h1:T t=some r)(h2:r.td= .slice e)(hq:Zrs y (ρ x)=some b)(hop:op= .eql∨op= .neq):Y0 P o ρ (.bool (if op= .eql then b else !b)):=fun E a h=>by
 have k1:=h x sO;obtain⟨d,inf,z,hf⟩:=Zd (hT t r h1);unfold Zrs at hq;split at hq
 ·have k2:VR E .Xl (a.eval (.const (.slice none 0 0))):=.Xl;split at hq
  ·rename_i hx;cases hq;rw[hx]at k1;obtain⟨h3,h4⟩:=J7 (P:=P) hf.und (h2▸hf.fits) k1 k2 (.ss e) hop;exact⟨_,Yu ho rfl rfl h4 h3,.bool _⟩
  ·rename_i hx;cases hq;rw[hx]at k1;obtain⟨h3,h4⟩:=J7 (P:=P) hf.und (h2▸hf.fits) k1 k2 (.sn e _ _ _ _) hop;exact⟨_,Yu ho rfl rfl h4 h3,.bool _⟩
  ·rename_i hx;cases hq;rw[hx]at k1;obtain⟨h3,h4⟩:=J7 (P:=P) hf.und (h2▸hf.fits) k1 k2 (.sx e _) hop;exact⟨_,Yu ho rfl rfl h4 h3,.bool _⟩
  ·rename_i hx;cases hq;rw[hx]at k1;obtain⟨h3,h4⟩:=J7 (P:=P) hf.und (h2▸hf.fits) k1 k2 (.sm e _ _ _ _) hop;exact⟨_,Yu ho rfl rfl h4 h3,.bool _⟩
  ·cases hq
 ·cases hq
end
section
variable {P:Program} {T:TT} {o:Oper} {ρ:Operand→AV}
def ZgR{n:Nat}{e:TypeId}{d:TypeDesc}(h:(TD.array n e).fits d=true):d= .array n e:=by
 cases d<;>simp[TD.fits]at h;obtain⟨rfl,rfl⟩:=h;rfl
def ZiS{t:TypeId}{ps:Array (Nat×Operand)}{r re:Zu}{n:Nat}{e:TypeId}{out:List AV}(hT:TOK P T)(ho:o.op= .build t ps)(h1:T t=some r)(h2:r.td= .array n e)(h3:T e=some re)
  (hf:ZdK (fun i=>some (i*re.size,re.size)) r.zero (Y4 ρ ps.toList)=some out) (hone:∀p∈Y4 ρ ps.toList,∀c∈p.2.cells,c.one=true):Y0 P o ρ (.agg out):=fun E a h=>by
 obtain⟨d,inf,z,hr⟩:=Zd (hT t r h1);obtain⟨d',inf',z',hr'⟩:=Zd (hT e re h3);have hd:=ZgR (h2▸hr.fits);subst hd;have hz:VRs E r.zero z.cells.toList:=Xv hr.zfits;have hparts:∀i (h:i<(Y4 ρ ps.toList).length) (h':i<(ps.toList.map fun p=>(p.1,a.eval p.2)).length),
   (Y4 ρ ps.toList)[i].1=(ps.toList.map fun p=>(p.1,a.eval p.2))[i].1∧VR E (Y4 ρ ps.toList)[i].2 (ps.toList.map fun p=>(p.1,a.eval p.2))[i].2∧(∀c∈(Y4 ρ ps.toList)[i].2.cells,c.one=true):=by
  intro i h1 h2;refine⟨by simp[Y4],?_,fun c hc=>hone _ (Qa h1) c hc⟩;simp only[Y4,QN];have hi:i<ps.toList.length:=by simpa[Y4]using h1
  exact h _ (by rw[ho];simp only[Op.operands];simp only[QaO,Qi];exact⟨ps.toList[i],sm,rfl⟩)
 obtain⟨us,hu1,hu2⟩:=Zf0 hf hz (by simp[Y4]) hparts;refine⟨.agg us,fun w=>?_,?_⟩
 ·have he:execOp a.eval o=(do let v←Instr.build t (ps.map fun(i,x)=>(i,a.eval x));pure (Next.value v)):=by simp only[execOp,ho]
  have hm:(ps.map fun(i,x)=>(i,a.eval x)).toList=ps.toList.map fun p=>(p.1,a.eval p.2):=sm
  rw[he];have hu1':Instr.fill (fun i=>some (i*re.size,re.size)) z.cells (ps.toList.map fun p=>(p.1,a.eval p.2))=some us:=hu1;simp only[Instr.build,Sem.run_bind,Yl hr,Result.andThen_ok,run_underlying hr.und,ZE hr',hm,hu1'];rfl
 ·have:us=us.toList.toArray:=sm;rw[this];exact .agg out us.toList hu2.1 hu2.2
def ZeL{t:TypeId}{x ix:Operand}{r re:Zu}{e:TypeId}{N l k off:Nat}{kk:IntKind}{i:Int}(hT:TOK P T)(ho:o.op= .indexAddr t x ix)
  (h1:T t=some r) (h2:r.td= .array N e) (h3:T e=some re) (hv:ρ x= .ptr l k off) (hi:ρ ix= .int kk i) (hlo:0≤i) (hhi:i<N):
  Y0 P o ρ (.ptr l k (off+i.toNat*re.size)):=fun E a h=>by
 have hx:=h x sO;have hix:=h ix sO;rw[hv]at hx;rw[hi]at hix;obtain⟨d,inf,z,hf⟩:=Zd (hT t r h1);obtain⟨d',i',z',hf'⟩:=Zd (hT e re h3);have hd:=ZgR (h2▸hf.fits);subst hd;cases hyi:a.eval ix<;>rw[hyi]at hix<;>cases hix;generalize hy:a.eval x=y at hx;cases hx with
 |ptr _ _ _ b hm=>
  refine⟨.pointer (some ⟨b,off+i.toNat*re.size,none⟩),fun w=>?_,.ptr l k _ b hm⟩;simp[execOp,ho,hy,hyi,Instr.indexAt,asIntOf,run_underlying hf.und,hlo,hhi,ZE hf',ZK,Instr.sureAddr]
def Zdy{t:TypeId}{x ix:Operand}{r re:Zu}{e:TypeId}{N:Nat}{cs:List AV}{kk:IntKind}{i:Int}(hT:TOK P T)(ho:o.op= .indexAddr t x ix)
  (h1:T t=some r) (h2:r.td= .array N e) (h3:T e=some re) (hv:ρ x= .iptr cs) (hi:ρ ix= .int kk i) (hlo:0≤i) (hhi:i<N):
  Y0 P o ρ (.iptr (cs.drop (i.toNat*re.size))):=fun E a h=>by
 have hx:=h x sO;have hix:=h ix sO;rw[hv]at hx;rw[hi]at hix;obtain⟨d,inf,z,hf⟩:=Zd (hT t r h1);obtain⟨d',i',z',hf'⟩:=Zd (hT e re h3);have hd:=ZgR (h2▸hf.fits);subst hd;cases hyi:a.eval ix<;>rw[hyi]at hix<;>cases hix;generalize hy:a.eval x=y at hx;cases hx with
 |iptr _ b off c hc hv'=>
  refine⟨.pointer (some ⟨b,off+i.toNat*re.size,none⟩),fun w=>?_,?_⟩
  ·simp[execOp,ho,hy,hyi,Instr.indexAt,asIntOf,run_underlying hf.und,hlo,hhi,ZE hf',ZK,Instr.sureAddr]
  ·refine .iptr _ b _ (fun j=>c (i.toNat*re.size+j)) (fun j hj=>?_) (fun j hj=>?_)
   ·simp only[QU]at hj;have:=hc (i.toNat*re.size+j) om;rw[Gn];exact this
   ·simp only[QU]at hj;have:=hv' (i.toNat*re.size+j) om;simpa[Qaq]using this
end
section ops
variable {P:Program} {T:TT} {o:Oper} {ρ:Operand→AV}
def ZbI{m:Nat}{H:Za}{E:Env}{w:World}(hr:Zt m H E w){k:Nat}{ys:List AV}{ow:Own}{yv:Value}(hy:VR E (.sl k ys ow) yv)(hne:ys≠[])(hone:∀y∈ys,∀c∈y.cells,c.one=true):
  ∃b off cap cs,yv= .slice (some ⟨b,off,none⟩) ys.length cap∧(∀y∈ys,y.cells.length=k)∧VRs E (flat ys) cs∧cs.length=ys.length*k∧(∀j v,cs[j]? =some v→w.cell? ⟨b,off+j,none⟩=some v)∧(∀u∈cs,u.oneCell'=true):=by
 rcases hy.Vr with⟨_,e2,_⟩|⟨b2,off2,cap2,cs2,e2,hky,hvy,hFy,_,_,_⟩
 ·exact absurd e2 hne
 refine⟨b2,off2,cap2,cs2,e2,hky,hvy,by rw[hvy.1,flat_length hky],fun j v hj=>hr.F _ _ _ (hFy j v hj),fun u hu=>?_⟩;obtain⟨i,hi,rfl⟩:=QJ hu;have hi':i<(flat ys).length:=by rw[←hvy.1];exact hi
 refine(hvy.2 i hi' hi).one ?_;have hmem:(flat ys)[i]∈flat ys:=Qa hi';simp only[flat,Qx]at hmem;obtain⟨y',hy',hc'⟩:=hmem;exact hone y' hy' _ hc'
def Zfm{m:Nat}{H:Za}{src dst e:TypeId}{x:Operand}{rs rd re:Zu}{b:Int}{ow:Own}(hT:TOK P T)(ho:o.op= .convert src dst x)(h1:T src=some rs)(h2:rs.td= .slice e)(h3:T e=some re)(h4:re.td= .int .u8)
  (h5:T dst=some rd) (h6:rd.td= .str) (hx:ρ x= .sl 1 [.int .u8 b] ow):Yv P m o ρ H (.str [UInt8.ofNat b.toNat]) H:=fun E w a hr hops=>by
 have hxv:=hops x sO;rw[hx]at hxv;obtain⟨d,i,z,hf⟩:=Zd (hT src rs h1);obtain⟨d',i',z',hf'⟩:=Zd (hT e re h3);obtain⟨d2,i2,z2,hf2⟩:=Zd (hT dst rd h5);have hd:=ZJ (h2▸hf.fits);subst hd;have hd':=ZaC (h4▸hf'.fits);subst hd';have hd2:=VU (h6▸hf2.fits);subst hd2;obtain⟨b2,off2,cap2,cs2,e2,hky,hvy,hl2,hn2,hone⟩:=ZbI hr hxv sm (fun y hy c hc=>by simp only[Qm]at hy;subst hy;simp only[AV.cells,Qm]at hc;subst hc;rfl);have hcs:cs2=[.int .u8 b]:=by
  have hfl:flat [AV.int .u8 b]=[.int .u8 b]:=rfl;rw[hfl]at hvy;obtain⟨v,r,rfl,hv,hn⟩:=hvy.YW;cases hv;rw[hn.of_nil]
 subst hcs;have hld:(loadCells (⟨b2,off2,none⟩:Addr) 1).run P w= .ok ([b].map (Value.int .u8)).toArray w:=by
  have:=run_firstCells_some (P:=P) w 1 1 ⟨b2,off2,none⟩ 1 cap2 [.int .u8 b] sm (fun j v hj=>by rw[ZK];exact hn2 j v hj);simpa[Builtin.firstCells]using this
 refine⟨.string ⟨#[UInt8.ofNat b.toNat]⟩,E,w,.inl ?_,.str _,hr,.refl m E w⟩;have hc:=(run_convert_bytes_string (P:=P) w src dst e (some ⟨b2,off2,none⟩) 1 cap2 hf.und hf'.und hf2.und).trans (run_bytesToString w ⟨b2,off2,none⟩ 1 cap2 [b] hld);simp only[execOp,ho,e2,GZ,Sem.run_bind];rw[hc];rfl
end ops
structure Cx where
 P:Program
 T:TT
 φ:Fm
 n:Nat
 N:Nat
def ones(v:AV):Bool:=v.cells.all AV.one
def Zb.put(s:Zb)(d:Option Nat)(v:AV):Zb:=⟨Yk s.tmps d v,s.L,s.H⟩
def setb:List (Nat×Ze)→Nat→Ze→List (Nat×Ze)
 |[],k,b=>[(k,b)]
 |(i,v)::r,k,b=>if i=k then(k,b)::r else(i,v)::setb r k b
def lkb_setb:∀(L:List (Nat×Ze)) (k:Nat) (b:Ze) (t:Nat),lkb (setb L k b) t=if t=k then some b else lkb L t
 |[],k,b,t=>by
  simp only[setb,lkb];by_cases h:k=t
  ·subst h;simp
  ·rw[if_neg h,if_neg (fun e=>h e.symm)]
 |(i,v)::r,k,b,t=>by
  simp only[setb];by_cases hi:i=k
  ·subst hi;simp only[if_true,lkb];by_cases h:i=t
   ·subst h;simp
   ·simp[h,Ne.symm h]
  ·simp only[if_neg hi,lkb,lkb_setb r k b t];by_cases h:i=t
   ·subst h;simp[hi]
   ·simp[h]
def setb_setb:∀(L:List (Nat×Ze)) (k:Nat) (b b':Ze),setb (setb L k b) k b'=setb L k b'
 |[],k,b,b'=>by simp[setb]
 |(i,v)::r,k,b,b'=>by
  simp only[setb];split
  ·simp[setb]
  ·rename_i h;simp only[setb,if_neg h,setb_setb r k b b']
def Zr(n:Nat)(L:List (Nat×Ze))(H:Za)(k:Nat)(b:Ze):full n (setb L k b) H=(full n L H).upd n k b:=by
 funext l j;simp only[full,Za.upd,lkb_setb];by_cases h:l=n
 ·subst h;simp
 ·simp[h]
def Yi(n:Nat)(L:List (Nat×Ze))(H:Za)(l k:Nat)(b:Ze)(h:l≠n):full n L (H.upd l k b)=(full n L H).upd l k b:=by
 funext l' j;simp only[full,Za.upd];by_cases h1:l'=n
 ·subst h1;have:¬(l'=l∧j=k):=fun c=>h c.1.symm
  simp[this]
 ·simp[h1]
def Zdv(T:TT)(t:TypeId)(f:Nat):Option (Nat×Zu):=
 match T t with
 |some r=>match r.td with
  | .struct fs=>match fs[f]? with
   |some (fo,ft)=>(T ft).map fun rf=>(fo,rf)
   |none=>none
  |_=>none
 |none=>none
section
variable {t:Nat} {T:TT}
def Zdl{f:Nat}{fo:Nat}{rf:Zu}(h:Zdv T t f=some (fo,rf)):∃r fs ft,T t=some r∧r.td= .struct fs∧fs[f]? =some (fo,ft)∧T ft=some rf:=by
 unfold Zdv at h;split at h
 ·rename_i r hr;split at h
  ·rename_i fs hfs;split at h
   ·rename_i fo' ft hf;simp only[Ur]at h;obtain⟨rf',h1,h2⟩:=h;cases h2;exact⟨r,fs,ft,hr,hfs,hf,h1⟩
   ·cases h
  ·cases h
 ·cases h
def sliceOf(T:TT)(t:TypeId):Option (TypeId×Zu):=
 match T t with
 |some r=>match r.td with
  | .slice e=>(T e).map fun re=>(e,re)
  |_=>none
 |none=>none
variable {re:Zu}
def Z4{e:Nat}(h:sliceOf T t=some (e,re)):∃r,T t=some r∧r.td= .slice e∧T e=some re:=by
 unfold sliceOf at h;split at h
 ·rename_i r hr;split at h
  ·rename_i e' he;simp only[Ur]at h;obtain⟨re',h1,h2⟩:=h;cases h2;exact⟨r,hr,he,h1⟩
  ·cases h
 ·cases h
def ZkR(T:TT)(t:TypeId):Option (Nat×Zu):=
 match T t with
 |some r=>match r.td with
  | .array n e=>(T e).map fun re=>(n,re)
  |_=>none
 |none=>none
def Zhc{n:Nat}(h:ZkR T t=some (n,re)):∃r e,T t=some r∧r.td= .array n e∧T e=some re:=by
 unfold ZkR at h;split at h
 ·rename_i r hr;split at h
  ·rename_i n' e he;simp only[Ur]at h;obtain⟨re',h1,h2⟩:=h;cases h2;exact⟨r,e,hr,he,h1⟩
  ·cases h
 ·cases h
def JY(T:TT)(t:TypeId):Option TD:=(T t).map (·.td)
def YJ{d:TD}(h:JY T t=some d):∃r,T t=some r∧r.td=d:=by
 simp only[JY,Ur]at h;exact h
def ldA(r:Zu)(cs:List AV):AV:=if r.isAgg then .agg (cs.take r.size)else cs.getD 0 .dead
def isEq:BinOp→Bool
 | .eql=>true
 | .neq=>true
 |_=>false
def eqB:BinOp→Bool→Bool
 | .eql,b=>b
 |_,b=>!b
variable {op:BinOp}
def Zcv(h:isEq op=true):op= .eql∨op= .neq:=by
 cases op<;>first|exact .inl rfl|exact .inr rfl|cases h
def Zgu(b:Bool)(h:isEq op=true):eqB op b=if op= .eql then b else !b:=by
 cases op<;>first|rfl|cases h
def Zrv(b:Builtin)(x y:Int):Option Int:=
 match b with
 | .max=>some (if y>x then y else x)
 | .min=>some (if y<x then y else x)
 |_=>none
variable {o:Oper}
def ZtT{P:Program}{ρ:Operand→AV}{b:Builtin}{x y:Operand}{ts:Array TypeId}{k k':IntKind}{m n v:Int}(ho:o.op= .call {callee:=.builtin b,args:=#[x,y],argTypes:=ts})
  (hx:ρ x= .int k m) (hy:ρ y= .int k' n) (hv:Zrv b m n=some v):Y0 P o ρ (.int k v):=fun E a h=>by
 have h1:=h x sC;have h2:=h y sC;rw[hx]at h1;rw[hy]at h2;cases ha:a.eval x<;>rw[ha]at h1<;>cases h1;cases hb:a.eval y<;>rw[hb]at h2<;>cases h2;refine⟨.int k v,fun w=>?_,.int _ _⟩;cases b<;>simp only[Zrv,Qp,reduceCtorEq]at hv<;>subst hv
 ·simp[execOp,ho,ha,hb,resolve,invoke,builtin,Builtin.max_,Builtin.max2]
 ·simp[execOp,ho,ha,hb,resolve,invoke,builtin,Builtin.min_,Builtin.min2]
def fullOwn:List AV→Own→Own
 |_,.any=>.any
 |_,.buf _ _=>.any
 |[],.full=>.full
 |_::_,.full=>.any
def ZlW{P:Program}{T:TT}{o:Oper}{ρ:Operand→AV}{t:TypeId}{x:Operand}{r:Zu}{e:TypeId}{k:Nat}(hT:TOK P T)(ho:o.op= .call {callee:=.builtin .cap,args:=#[x],argTypes:=#[t]})
  (h1:T t=some r) (h2:r.td= .slice e) (hv:ρ x= .sl k [] .full):Y0 P o ρ (.int .i64 0):=fun E a h=>by
 have hx:=h x sC;rw[hv]at hx;obtain⟨d,inf,z,hf⟩:=Zd (hT t r h1);have hd:=ZJ (h2▸hf.fits);subst hd;generalize hy:a.eval x=y at hx;cases hx with
 |slnil=>exact⟨_,fun w=>by simp[execOp,ho,hy,resolve,invoke,builtin,Builtin.cap_,run_underlying hf.und,goInt],.int _ _⟩
 |sl _ _ _ b off cap c hk hc hv hcap hm ho'=>
  have:cap=0:=ho';subst this;exact⟨_,fun w=>by simp[execOp,ho,hy,resolve,invoke,builtin,Builtin.cap_,run_underlying hf.und,goInt],.int _ _⟩
variable {x:Operand} {ρ:Operand→AV} {P:Program}
def ZiM{t:TypeId}{lo hi:Option Operand}{r:Zu}{e:TypeId}{k:Nat}(hT:TOK P T)(ho:o.op= .slice t x lo hi none)(h1:T t=some r)(h2:r.td= .slice e)
  (h2':T e=some re) (hv:ρ x= .sl k [] .full) (hl:bnd ρ lo 0=some 0) (hh:bnd ρ hi 0=some 0):Y0 P o ρ (.sl k [] .full):=fun E a hops=>by
 have hx:=hops x sO;have hb:∀y,lo=some y∨hi=some y→VR E (ρ y) (a.eval y):=fun y hy=>hops y (by rcases hy with rfl|rfl<;>simp[ho,Op.operands])
 rw[hv]at hx;obtain⟨d,inf,z,hf⟩:=Zd (hT t r h1);obtain⟨d',i',z',hf'⟩:=Zd (hT e re h2');have hd:=ZJ (h2▸hf.fits);subst hd;have he:execOp a.eval o=(do let v←Instr.sliceAt t (a.eval x) (lo.map a.eval) (hi.map a.eval) none;pure (Next.value v)):=by simp only[execOp,ho];rfl
 have hval:∃ad,a.eval x= .slice ad 0 0:=by
  generalize a.eval x=q at hx;cases hx with
  |slnil _ _ a ho ha=>exact⟨a,rfl⟩
  |sl _ _ _ b off cap c hk hc hv hcap hm ho=>
   have:cap=0:=ho;subst this;exact⟨_,rfl⟩
 obtain⟨ad,hval⟩:=hval;have hrun:=fun w=>WV (P:=P) (s:=true) (len:=0) (cap:=0) hb hl hh (G6 0) (G6 0) sm w
 refine⟨.slice ad 0 0,fun w=>?_,by rw[hval]at hx;exact hx⟩;have hrun:=hrun w;rw[he,hval];simp at hrun;cases ad<;>simp[Instr.sliceAt,Instr.slice,run_underlying hf.und,hrun,ZE hf']
def evP(T:TT)(o:Op)(ty:TypeId)(ρ:Operand→AV):Prop×AV:=
 match o with
 | .move x=>(True,mv T ty x (ρ x))
 | .assign x=>(True,mv T ty x (ρ x))
 | .pick c x y=>match ρ c with
  | .bool true=>(True,mv T ty x (ρ x))
  | .bool false=>(True,mv T ty y (ρ y))
  |_=>(False,.dead)
 | .nilCheck x=>match ρ x with
  | .ptr l k off=>(True,.ptr l k off)
  | .iptr cs=>(True,.iptr cs)
  | .eptr l k n off=>(True,.eptr l k n off)
  | .fn (.func f) c=>(True,.fn (.func f) c)
  | .fn (.yield f) c=>(True,.fn (.yield f) c)
  |_=>(False,.dead)
 | .fieldAddr t x f=>match Zdv T t f with
  |some (fo,rf)=>match ρ x with
   | .ptr l k off=>(rf.size≠0,.ptr l k (off+fo))
   | .iptr cs=>(rf.size≠0,.iptr (cs.drop fo))
   | .eptr l k n off=>(rf.size≠0,.eptr l k n (off+fo))
   |_=>(False,.dead)
  |none=>(False,.dead)
 | .indexAddr t x ix=>match sliceOf T t with
  |some (_,re)=>match ρ x,ρ ix with
   | .sl k xs _,.int _ i=>(k=re.size∧0≤i∧i<xs.length,.iptr (xs.getD i.toNat .dead).cells)
   | .msl _ l k n,.int _ i=>(0≤i∧i<n,.eptr l k n (i.toNat*re.size))
   | .sub sz l k n off m,.int _ i=>(sz=re.size∧0≤i∧i<m,.eptr l k n ((off+i.toNat)*re.size))
   |_,_=>(False,.dead)
  |none=>match ZkR T t with
   |some (N,re)=>match ρ x,ρ ix with
    | .ptr l k off,.int _ i=>(0≤i∧i<N,.ptr l k (off+i.toNat*re.size))
    | .iptr cs,.int _ i=>(0≤i∧i<N,.iptr (cs.drop (i.toNat*re.size)))
    |_,_=>(False,.dead)
   |none=>(False,.dead)
 | .field t x f=>match Zdv T t f with
  |some (fo,rf)=>match ρ x with
   | .agg cs=>(rf.isAgg=false→fo<cs.length,if rf.isAgg then .agg ((cs.drop fo).take rf.size)else cs.getD fo .dead)
   |_=>(False,.dead)
  |none=>(False,.dead)
 | .extract x i=>match ρ x with
  | .tup vs=>(i<vs.length,vs.getD i .dead)
  |_=>(False,.dead)
 | .build t ps=>match T t with
  |some r=>match r.td with
   | .struct fs=>match ZdK (fun i=>(Jr T fs)[i]?.join) r.zero (Y4 ρ ps.toList)with
    |some out=>((∀f∈fs,T f.2≠none)∧(∀p∈Y4 ρ ps.toList,ones p.2=true),.agg out)
    |none=>(False,.dead)
   |_=>match ZkR T t with
    |some (_,re)=>match ZdK (fun i=>some (i*re.size,re.size)) r.zero (Y4 ρ ps.toList)with
     |some out=>((∀p∈Y4 ρ ps.toList,ones p.2=true),.agg out)
     |none=>(False,.dead)
    |none=>(False,.dead)
  |none=>(False,.dead)
 | .makeFunc f fs cs=>match fs.toList with
  |[]=>(True,.fn f (cs.toList.map ρ))
  |x::r=>(cs= #[],.bfn f ((x::r).map ρ))
 | .unOp op _ x=>match op,ρ x with
  | .not,.bool b=>(True,.bool (!b))
  | .neg,.int k n=>(True,.int k (k.wrap (0 - n)))
  |_,_=>(False,.dead)
 | .convert s d x=>match JY T s,JY T d,ρ x with
  |some (.int _),some (.int k),.int _ n=>(True,.int k (k.wrap n))
  |some .str,some .str,.str s=>(True,.str s)
  |some (.slice e),some .str,.sl 1 [.int .u8 b] _=>(JY T e=some (.int .u8),.str [UInt8.ofNat b.toNat])
  |_,_,_=>(False,.dead)
 | .makeInterface t x=>match JY T t with
  |some .iface=>(False,.dead)
  |some _=>(True,.ifc t (ρ x))
  |none=>(False,.dead)
 | .typeAssert x _ t ok=>match T t,ρ x with
  |some r,.ifc t' v=>if t'=t then(r.td≠ .iface,if ok then .tup [v,.bool true]else v)else(ok=true∧r.td≠ .iface∧(r.isAgg=false→r.size=1),.tup [XP r,.bool false])
  |some r,.nili=>(ok=true∧r.td≠ .iface∧(r.isAgg=false→r.size=1),.tup [XP r,.bool false])
  |_,_=>(False,.dead)
 | .binOp op t x y _=>match Zrs y (ρ x)with
  |some b=>((∃e,JY T t=some (.slice e))∧isEq op=true,.bool (eqB op b))
  |none=>match ρ x,ρ y with
  | .int k a,.int k' b=>match op with
   | .quo=>(k=k'∧b≠0,.int k (k.wrap (a.tdiv b)))
   | .rem=>(k=k'∧b≠0,.int k (a.tmod b))
   | .shr=>(0≤b,.int k (a.fdiv (2^(min b.toNat k.bits))))
   |op=>match ZnH op k a b with
    |some v=>(k=k',v)
    |none=>(False,.dead)
  | .str a,.str b=>match op with
   | .add=>(a.length+b.length≤9223372036854775807,.str (a++b))
   |op=>match ZmO op a b with
    |some v=>(True,v)
    |none=>(False,.dead)
  | .bool a,.bool b=>(JY T t=some .bool∧isEq op=true,.bool (if op= .eql then a==b else !(a==b)))
  | .nilp,.nilp=>(JY T t=some .ptr∧isEq op=true,.bool (eqB op true))
  | .ptr _ _ _,.nilp=>(JY T t=some .ptr∧isEq op=true,.bool (eqB op false))
  | .iptr _,.nilp=>(JY T t=some .ptr∧isEq op=true,.bool (eqB op false))
  | .nilf,.nilf=>(JY T t=some .func∧isEq op=true,.bool (eqB op true))
  | .fn _ _,.nilf=>(JY T t=some .func∧isEq op=true,.bool (eqB op false))
  | .nilm,.nilm=>((∃k e,JY T t=some (.map k e))∧isEq op=true,.bool (eqB op true))
  | .map _ _,.nilm=>((∃k e,JY T t=some (.map k e))∧isEq op=true,.bool (eqB op false))
  | .agg az,.agg bs=>match T t,klAll az,klAll bs with
   |some r,some la,some lb=>(r.isAgg=true∧Z8 T 100 t la=true∧Z8 T 100 t lb=true∧isEq op=true,.bool (eqB op (la==lb)))
   |_,_,_=>(False,.dead)
  |_,_=>(False,.dead)
 | .lookup t x y ok=>match mapOf T t,ρ x with
  |some (kt,_,re),.nilm=>((re.isAgg=false→re.size=1)∧YF T kt (ρ y)=true,lookA re (ρ y) [] ok)
  |_,_=>(False,.dead)
 | .index t x ix=>match JY T t,ρ x,ρ ix with
  |some .str,.str s,.int _ i=>(0≤i∧i<s.length,.int .u8 (s.getD i.toNat 0).toNat)
  |_,_,_=>(False,.dead)
 | .slice t x lo hi mx=>match mx,ρ x with
  |none,.str s=>match bnd ρ lo 0,bnd ρ hi s.length with
   |some l,some h=>(JY T t=some .str∧0≤l∧l≤h∧h≤s.length,.str ((s.take h.toNat).drop l.toNat))
   |_,_=>(False,.dead)
  |none,.sl k xs ow=>match sliceOf T t,bnd ρ lo 0,bnd ρ hi xs.length with
   |some (_,re),some l,some h=>(k=re.size∧0≤l∧l≤h∧h≤xs.length,.sl k ((xs.take h.toNat).drop l.toNat) (fullOwn xs ow))
   |_,_,_=>(False,.dead)
  |_,_=>(False,.dead)
 | .buildSlice t n ps=>match sliceOf T t with
  |some (_,re)=>(inOrder 0 ps.toList=true∧n=ps.size∧0<re.size∧n*re.size≤2^24∧(∀x∈ps.toList.map (fun p=>ρ p.2),x.cells.length=re.size∧ones x=true),.sl re.size (ps.toList.map fun p=>ρ p.2) .full)
  |none=>(False,.dead)
 | .call c=>match c.callee,c.args.toList,c.argTypes.toList with
  | .builtin .len,[x],[t]=>match ρ x with
   | .sl _ xs _=>(∃q,sliceOf T t=some q,.int .i64 xs.length)
   | .msl _ _ _ n=>(∃q,sliceOf T t=some q,.int .i64 n)
   | .sub _ _ _ _ _ m=>(∃q,sliceOf T t=some q,.int .i64 m)
   | .str s=>(JY T t=some .str,.int .i64 s.length)
   |_=>(False,.dead)
  | .builtin .cap,[x],[t]=>match ρ x with
   | .sl _ [] .full=>(∃q,sliceOf T t=some q,.int .i64 0)
   |_=>(False,.dead)
  | .builtin .append,[x,y],[t,t']=>match sliceOf T t,mv T t x (ρ x),mv T t y (ρ y)with
   |some (_,re),.sl k xs .full,.sl k' ys _=>(t'=t∧0<re.size∧(xs=[]∨k=re.size)∧(ys=[]∨k'=re.size)∧xs.length+ys.length≤maxLen∧(xs.length+ys.length)*re.bytes≤140737488355328,.sl re.size (xs++ys) .any)
   |_,_,_=>(False,.dead)
  | .builtin b,[x,y],_=>match ρ x,ρ y with
   | .int k m,.int _ n=>match Zrv b m n with
    |some v=>(True,.int k v)
    |none=>(False,.dead)
   |_,_=>(False,.dead)
  |_,_,_=>(False,.dead)
 |_=>(False,.dead)
variable {v:AV}
def YK(h:ones v=true):∀c∈v.cells,c.one=true:=by
 simpa[ones,Qy]using h
def Ztb(P:Program)(o:Oper)(ρ:Operand→AV)(v:AV):Prop:=∀m G,XO P m o ρ G v G
def Y0.YQ(h:Y0 P o ρ v):Ztb P o ρ v:=fun m G=>(h.run m G).sem
def Zc1{t yt:TypeId}{y:Operand}{u:AV}{b:Bool}{d:TD}(hT:TOK P T)(ho:o.op= .binOp op t x y yt)(hx:ρ x=u)(hy:ρ y=v)
  (h1:JY T t=some d∧isEq op=true) (hk:NilK d u v b):Ztb P o ρ (.bool (eqB op b)):=by
 obtain⟨r,b1,b2⟩:=YJ h1.1;subst b2;rw[Zgu b h1.2];exact(ZoL hT ho b1 hx hy hk (Zcv h1.2)).YQ
def WG{m:Nat}{H H':Za}(t:TypeId)(h:Yv P m o (fun z=>mv T t z (ρ z)) H v H'):Yv P m o ρ H v H':=
 fun E w a hr hops=>h E w a hr (fun z hz=>Zh4 (hops z hz))
def Zos(hT:TOK P T):∀p,evP T o.op o.type ρ=p→p.1→Ztb P o ρ p.2:=by
 intro p hp h;unfold evP at hp;split at hp
 ·rename_i x ho;subst hp;exact(ZrN ho).YQ
 ·rename_i x ho;subst hp;exact(Zoa ho).YQ
 ·rename_i c x y ho;split at hp
  ·rename_i hc;subst hp;exact(Znk (t:=true) ho hc).YQ
  ·rename_i hc;subst hp;exact(Znk (t:=false) ho hc).YQ
  ·subst hp;exact h.elim
 ·rename_i x ho;split at hp
  ·rename_i hx;subst hp;exact(V5 ho hx rfl).YQ
  ·rename_i hx;subst hp;exact(V5 ho hx rfl).YQ
  ·rename_i hx;subst hp;exact(V5 ho hx rfl).YQ
  ·rename_i hx;subst hp;exact(V5 ho hx rfl).YQ
  ·rename_i hx;subst hp;exact(V5 ho hx rfl).YQ
  ·subst hp;exact h.elim
 ·rename_i t x f ho;split at hp
  ·rename_i fo rf hfd;obtain⟨r,fs,ft,h1,h2,h3,h4⟩:=Zdl hfd;split at hp
   ·rename_i hx;subst hp;exact(Zew hT ho h1 h2 h3 h4 h hx).YQ
   ·rename_i hx;subst hp;exact(Zdf hT ho h1 h2 h3 h4 h hx).YQ
   ·rename_i hx;subst hp;exact(ZdB hT ho h1 h2 h3 h4 h hx).YQ
   ·subst hp;exact h.elim
  ·subst hp;exact h.elim
 ·rename_i t x ix ho;split at hp
  ·rename_i e re hs;obtain⟨r,h1,h2,h3⟩:=Z4 hs;split at hp
   ·rename_i hx hi;subst hp;obtain⟨a1,a2,a3⟩:=h;exact(Zfr hT ho h1 h2 h3 a1 hx hi a2 a3).YQ
   ·rename_i hx hi;subst hp;obtain⟨a2,a3⟩:=h;exact(ZeH hT ho h1 h2 h3 hx hi a2 a3).YQ
   ·rename_i hx hi;subst hp;obtain⟨a1,a2,a3⟩:=h;exact(ZeU hT ho h1 h2 h3 a1 hx hi a2 a3).YQ
   ·subst hp;exact h.elim
  ·split at hp
   ·rename_i N re hs;obtain⟨r,e,h1,h2,h3⟩:=Zhc hs;split at hp
    ·rename_i hx hi;subst hp;exact(ZeL hT ho h1 h2 h3 hx hi h.1 h.2).YQ
    ·rename_i hx hi;subst hp;exact(Zdy hT ho h1 h2 h3 hx hi h.1 h.2).YQ
    ·subst hp;exact h.elim
   ·subst hp;exact h.elim
 ·rename_i t x f ho;split at hp
  ·rename_i fo rf hfd;obtain⟨r,fs,ft,h1,h2,h3,h4⟩:=Zdl hfd;split at hp
   ·rename_i hx;subst hp;exact(Zqf hT ho h1 h2 h3 h4 hx h).YQ
   ·subst hp;exact h.elim
  ·subst hp;exact h.elim
 ·rename_i x i ho;split at hp
  ·rename_i hx;subst hp;exact(ZmA ho hx h).YQ
  ·subst hp;exact h.elim
 ·rename_i t ps ho;split at hp
  ·rename_i r hr;split at hp
   ·rename_i fs hfs;split at hp
    ·rename_i out hout;subst hp;obtain⟨a1,a2⟩:=h;exact(Zpj hT ho hr hfs a1 hout (fun p hp=>YK (a2 p hp))).YQ
    ·subst hp;exact h.elim
   ·split at hp
    ·rename_i N re hs;obtain⟨r',e,h1,h2,h3⟩:=Zhc hs;split at hp
     ·rename_i out hout;subst hp;rw[hr]at h1;cases h1;exact(ZiS hT ho hr h2 h3 hout (fun p hp=>YK (h p hp))).YQ
     ·subst hp;exact h.elim
    ·subst hp;exact h.elim
  ·subst hp;exact h.elim
 ·rename_i f fs cs ho;split at hp
  ·rename_i hfs;subst hp;have e:fs= #[]:=by
    apply Qau.1;rw[hfs]
   subst e;exact(ZjM ho).YQ
  ·rename_i x r hfs;subst hp;have h:cs= #[]:=h;subst h;simp only;rw[←hfs];exact(Zis ho).YQ
 ·rename_i op t x ho;split at hp
  ·rename_i hx;subst hp;exact(Ztm ho hx).YQ
  ·rename_i hx;subst hp;exact(ZsP ho hx).YQ
  ·subst hp;exact h.elim
 ·rename_i s d x ho;split at hp
  ·rename_i h1 h2 hx;subst hp;obtain⟨rs,b1,b2⟩:=YJ h1;obtain⟨rd,c1,c2⟩:=YJ h2;exact(Zgd hT ho b1 b2 c1 c2 hx).YQ
  ·rename_i h1 h2 hx;subst hp;obtain⟨rs,b1,b2⟩:=YJ h1;obtain⟨rd,c1,c2⟩:=YJ h2;exact(ZgQ hT ho b1 b2 c1 c2 hx).YQ
  ·rename_i h1 h2 hx;subst hp;obtain⟨rs,b1,b2⟩:=YJ h1;obtain⟨rd,c1,c2⟩:=YJ h2;obtain⟨re,d1,d2⟩:=YJ h;exact fun m G=>(Zfm hT ho b1 b2 d1 d2 c1 c2 hx).sem
  ·subst hp;exact h.elim
 ·rename_i t x ho;split at hp
  ·subst hp;exact h.elim
  ·rename_i d hd hne;subst hp;obtain⟨r,b1,b2⟩:=YJ hne;exact(ZiL hT ho b1 (fun e=>hd (b2▸e▸rfl))).YQ
  ·subst hp;exact h.elim
 ·rename_i x xt t ok ho;split at hp
  ·rename_i r t' v hr hx;split at hp
   ·rename_i e;subst hp;subst e;cases ok with
    |true=>exact(Zhl hT ho hr h hx).YQ
    |false=>exact(Zfn hT ho hr h hx).YQ
   ·rename_i e;subst hp;obtain⟨rfl,c1,c2⟩:=h;exact(Zi1 hT ho hr c1 e c2 hx).YQ
  ·rename_i r hr hx;subst hp;obtain⟨rfl,c1,c2⟩:=h;exact(Zhq hT ho hr c1 c2 hx).YQ
  ·subst hp;exact h.elim
 ·rename_i op t x y yt ho;split at hp
  ·rename_i b hq;subst hp;obtain⟨⟨e,h1⟩,h2⟩:=h;obtain⟨r,b1,b2⟩:=YJ h1;simp only;rw[Zgu b h2];exact(Zrf hT ho b1 b2 hq (Zcv h2)).YQ
  split at hp
  ·rename_i hx hy;split at hp
   ·subst hp;obtain⟨rfl,h⟩:=h;exact(Ztj ho hx hy rfl h).YQ
   ·subst hp;obtain⟨rfl,h⟩:=h;exact(ZsU ho hx hy rfl h).YQ
   ·subst hp;exact(ZsT ho hx hy rfl h).YQ
   ·split at hp
    ·rename_i v hv;subst hp;have h:_=_:=h;subst h;exact(Zl8 ho hx hy hv).YQ
    ·subst hp;exact h.elim
  ·rename_i hx hy;split at hp
   ·subst hp;exact(Zn3 ho hx hy rfl h).YQ
   ·split at hp
    ·rename_i v hv;subst hp;exact(ZmC ho hx hy hv).YQ
    ·subst hp;exact h.elim
  ·rename_i hx hy;subst hp;obtain⟨h1,h2⟩:=h;obtain⟨r,b1,b2⟩:=YJ h1;exact(ZjO hT ho b1 b2 hx hy (Zcv h2)).YQ
  ·rename_i hx hy;subst hp;exact Zc1 hT ho hx hy h .pp
  ·rename_i hx hy;subst hp;exact Zc1 hT ho hx hy h (.pq _ _ _)
  ·rename_i hx hy;subst hp;exact Zc1 hT ho hx hy h (.pi _)
  ·rename_i hx hy;subst hp;exact Zc1 hT ho hx hy h .ff
  ·rename_i hx hy;subst hp;exact Zc1 hT ho hx hy h (.fg _ _)
  ·rename_i hx hy;subst hp;obtain⟨⟨k,e,h1⟩,h2⟩:=h;exact Zc1 hT ho hx hy ⟨h1,h2⟩ (.mm _ _)
  ·rename_i hx hy;subst hp;obtain⟨⟨k,e,h1⟩,h2⟩:=h;exact Zc1 hT ho hx hy ⟨h1,h2⟩ (.mn _ _ _ _)
  ·rename_i hx hy;split at hp
   ·rename_i r la lb h1 h2 h3;subst hp;obtain⟨c1,c2,c3,c4⟩:=h;simp only;rw[Zgu _ c4];exact(Zou hT ho h1 c1 hx hy h2 h3 c2 c3 (Zcv c4)).YQ
   ·subst hp;exact h.elim
  ·subst hp;exact h.elim
 ·rename_i t x y ok ho;split at hp
  ·rename_i kt e re hm hx;subst hp;exact(ZcH hT ho hm h.1 hx rfl h.2).YQ
  ·subst hp;exact h.elim
 ·rename_i t x ix ho;split at hp
  ·rename_i h1 hx hi;subst hp;obtain⟨r,b1,b2⟩:=YJ h1;exact(Zju hT ho b1 b2 hx hi h.1 h.2).YQ
  ·subst hp;exact h.elim
 ·rename_i t x lo hi mx ho;split at hp
  ·rename_i hx;split at hp
   ·rename_i l h' hl hh;subst hp;obtain⟨h1,c1,c2,c3⟩:=h;obtain⟨r,b1,b2⟩:=YJ h1;exact(Zi7 hT ho b1 b2 hx hl hh c1 c2 c3).YQ
   ·subst hp;exact h.elim
  ·rename_i k xs ow hx;split at hp
   ·rename_i e re l h' hss hl hh;subst hp;obtain⟨r,b1,b2,b3⟩:=Z4 hss;obtain⟨c0,c1,c2,c3⟩:=h;have hs:=ZkD hT ho b1 b2 b3 c0 hx hl hh c1 c2 c3;cases ow with
    |any=>exact hs.YQ
    |buf=>exact hs.YQ
    |full=>
     cases xs with
     |cons y ys=>exact hs.YQ
     |nil=>
      have e1:l=0:=by simp at c3;omega
      have e2:h'=0:=by simp at c3;omega
      subst e1 e2;exact(ZiM hT ho b1 b2 b3 hx hl hh).YQ
   ·subst hp;exact h.elim
  ·subst hp;exact h.elim
 ·rename_i t n ps ho;split at hp
  ·rename_i e re hs;subst hp;obtain⟨r,b1,b2,b3⟩:=Z4 hs;obtain⟨c1,c2,c3,c4,c5⟩:=h;exact fun m G=>(Zhk hT ho b1 b2 b3 c1 c2 c3 c4 (fun x hx=>⟨(c5 x hx).1,YK (c5 x hx).2⟩)).sem
  ·subst hp;exact h.elim
 ·rename_i c ho;obtain⟨cal,args,ts⟩:=c;simp only at hp;split at hp
  ·rename_i ha ht;obtain⟨args⟩:=args;obtain⟨ts⟩:=ts;simp only at ha ht;subst ha ht;split at hp
   ·rename_i hx;subst hp;obtain⟨q,hq⟩:=h;obtain⟨r,b1,b2,b3⟩:=Z4 hq;exact(Zoj hT ho b1 b2 hx).YQ
   ·rename_i hx;subst hp;obtain⟨q,hq⟩:=h;obtain⟨r,b1,b2,b3⟩:=Z4 hq;exact(Zlu hT ho b1 b2 hx).YQ
   ·rename_i hx;subst hp;obtain⟨q,hq⟩:=h;obtain⟨r,b1,b2,b3⟩:=Z4 hq;exact(Zl0 hT ho b1 b2 hx).YQ
   ·rename_i hx;subst hp;obtain⟨r,b1,b2⟩:=YJ h;exact(Zmn hT ho b1 b2 hx).YQ
   ·subst hp;exact h.elim
  ·rename_i ha ht;obtain⟨args⟩:=args;obtain⟨ts⟩:=ts;simp only at ha ht;subst ha ht;split at hp
   ·rename_i hx;subst hp;obtain⟨q,hq⟩:=h;obtain⟨r,b1,b2,b3⟩:=Z4 hq;exact(ZlW hT ho b1 b2 hx).YQ
   ·subst hp;exact h.elim
  ·rename_i ha ht;obtain⟨args⟩:=args;obtain⟨ts⟩:=ts;simp only at ha ht;subst ha ht;split at hp
   ·rename_i e re k xs k' ys ow hs hx hy;subst hp;obtain⟨r,b1,b2,b3⟩:=Z4 hs;obtain⟨c0,c1,c2,c3,c4,c5⟩:=h;subst c0;exact fun m G=>(WG (T:=T) _ (or_append hT ho b1 b2 b3 c1 hx hy c2 c3 c4 c5)).sem
   ·subst hp;exact h.elim
  ·rename_i ha _;obtain⟨args⟩:=args;simp only at ha;subst ha;split at hp
   ·rename_i hx hy;split at hp
    ·rename_i v hv;subst hp;exact(ZtT ho hx hy hv).YQ
    ·subst hp;exact h.elim
   ·subst hp;exact h.elim
  ·subst hp;exact h.elim
 ·subst hp;exact h.elim
end
def Env.Zx(E:Env)(l j n:Nat)(v:Value)(g:Nat)(c:List Value):Env where
 F:=fun b o=>if b=g then c[o]? else E.F b o
 m:=E.m
 hist:=fun l' j' n'=>if l'=l∧j'=j∧n'=n then some v else E.hist l' j' n'
 g:=fun l' j'=>if l'=l∧j'=j then some g else E.g l' j'
 qd:=E.qd
section
variable {l j n m:Nat} {w:World} {E:Env} {H:Za}
def Zt.ZjP{w':World}(h:Zt m H E w){g':Nat}{v:Value}{nb:Ze}(hl:l<m)(hj:E.hist l j n=none)(hnb:nb.isBuf=true)(c:List Value)
  (size:w.heap.size≤w'.heap.size) (hold:∀b,b<w.heap.size→b≠g'→w'.heap[b]? =w.heap[b]?) (hgm:∀l' k' b,E.m l' k'=some b→b≠g') (hgg:∀l' k' b,E.g l' k'=some b→ ¬(l'=l∧k'=j)→b≠g')
  (hg'lt:g'<w'.heap.size) (hcell:∀o u,c[o]? =some u→w'.cell? ⟨g',o,none⟩=some u) (hF:∀o v,E.F g' o=some v→c[o]? =some v)
  (hblk:Zei (E.Zx l j n v g' c) w' l j nb):
  Zt m (H.upd l j nb) (E.Zx l j n v g' c) w'∧E.le m (E.Zx l j n v g' c):=by
 have hlt:∀l' k' b,E.m l' k'=some b→b<w.heap.size:=fun l' k' b hm=>h.lt b (.inl ⟨l',k',hm⟩)
 have hgt:∀l' k' b,E.g l' k'=some b→b<w.heap.size:=fun l' k' b hm=>h.lt b (.inr ⟨l',k',hm⟩)
 have hle:E.le m (E.Zx l j n v g' c):=by
  refine⟨fun b o v hf=>?_,fun _ _ _ _ hm=>hm,fun l' k' i u _ hi=>?_,rfl⟩
  ·simp only[Env.Zx];by_cases hb:b=g'
   ·subst hb;rw[if_pos rfl];exact hF o v hf
   ·rw[if_neg hb];exact hf
  ·simp only[Env.Zx];rw[if_neg (fun hc=>by rw[hc.1,hc.2.1,hc.2.2,hj]at hi;cases hi)];exact hi
 refine⟨{norm:=?_,F:=?_,blk:=?_,dom:=?_,nobuf:=?_,inj:=h.inj,injg:=?_,mg:=?_,mF:=?_,lt:=?_},hle⟩
 ·refine⟨h.norm.m,fun l' k' hl'=>?_,fun l' k' i hl'=>?_⟩
  ·simp only[Env.Zx];rw[if_neg (fun hc=>by omega)];exact h.norm.g l' k' hl'
  ·simp only[Env.Zx];rw[if_neg (fun hc=>by omega)];exact h.norm.hist l' k' i hl'
 ·intro b o u hf;simp only[Env.Zx]at hf;by_cases hb:b=g'
  ·subst hb;rw[if_pos rfl]at hf;exact hcell o u hf
  ·rw[if_neg hb]at hf;have hblt:=h.ZcB hf;have hc:=h.F b o u hf;simp only[World.cell?,hold b hblt hb]at hc⊢;exact hc
 ·intro l' k' bb hl' hH';by_cases hc':l'=l∧k'=j
  ·obtain⟨rfl,rfl⟩:=hc';rw[Za.upd_same,Qp]at hH';subst hH';exact hblk
  ·rw[Za.upd_ne H _ hc']at hH';refine(h.blk l' k' bb hl' hH').keep rfl (by simp only[Env.Zx];rw[if_neg hc']) (fun i=>by simp only[Env.Zx];rw[if_neg (fun hc=>hc' ⟨hc.1,hc.2.1⟩)]) (fun _ _ _ h=>h) (fun r hr=>?_) (fun g o hg hf=>?_) (fun a _ v hv=>hv.mono h.norm hle)
   ·rcases hr with hr|hr
    ·exact hold r (hlt _ _ _ hr) (hgm _ _ _ hr)
    ·exact hold r (hgt _ _ _ hr) (hgg _ _ _ hr hc')
   ·simp only[Env.Zx];rw[if_neg (hgg _ _ _ hg hc')];exact hf
 ·intro l' k' hl' hH';by_cases hc':l'=l∧k'=j
  ·obtain⟨rfl,rfl⟩:=hc';rw[Za.upd_same]at hH';cases hH'
  ·rw[Za.upd_ne H _ hc']at hH';obtain⟨d1,d2,d3⟩:=h.dom l' k' hl' hH';exact⟨d1,by simp only[Env.Zx];rw[if_neg hc'];exact d2,fun i=>by simp only[Env.Zx];rw[if_neg (fun hc=>hc' ⟨hc.1,hc.2.1⟩)];exact d3 i⟩
 ·intro l' k' hg;by_cases hc':l'=l∧k'=j
  ·obtain⟨rfl,rfl⟩:=hc';exact⟨nb,Za.upd_same H _ _ _,hnb⟩
  ·rw[Za.upd_ne H _ hc'];simp only[Env.Zx,if_neg hc']at hg;exact h.nobuf l' k' hg
 ·intro l1 k1 l2 k2 b h1 h2;simp only[Env.Zx]at h1 h2;by_cases c1:l1=l∧k1=j<;>by_cases c2:l2=l∧k2=j
  ·exact⟨c1.1.trans c2.1.symm,c1.2.trans c2.2.symm⟩
  ·rw[if_pos c1,Qp]at h1;rw[if_neg c2]at h2;exact absurd h1.symm (hgg _ _ _ h2 c2)
  ·rw[if_neg c1]at h1;rw[if_pos c2,Qp]at h2;exact absurd h2.symm (hgg _ _ _ h1 c1)
  ·rw[if_neg c1]at h1;rw[if_neg c2]at h2;exact h.injg _ _ _ _ _ h1 h2
 ·intro l1 k1 l2 k2 b h1 h2;simp only[Env.Zx]at h2;by_cases c2:l2=l∧k2=j
  ·rw[if_pos c2,Qp]at h2;exact hgm _ _ _ h1 h2.symm
  ·rw[if_neg c2]at h2;exact h.mg _ _ _ _ _ h1 h2
 ·intro l1 k1 b o h1;simp only[Env.Zx];rw[if_neg (hgm _ _ _ h1)];exact h.mF _ _ _ _ h1
 ·intro b hb;rcases hb with⟨l',k',hm⟩|⟨l',k',hg⟩
  ·have:=hlt _ _ _ hm;omega
  ·simp only[Env.Zx]at hg;by_cases c2:l'=l∧k'=j
   ·rw[if_pos c2,Qp]at hg;omega
   ·rw[if_neg c2]at hg;have:=hgt _ _ _ hg;omega
def Zt.ZfJ{w':World}(h:Zt m H E w){g':Nat}{v:Value}{nb:Ze}(hl:l<m)(hm0:E.m l j=none)(hj:E.hist l j n=none)(hnb:nb.isBuf=true)(c:List Value)
  (os:w'.os=w.os) (tape:w'.tape=w.tape) (output:w'.output=w.output) (drawn:E.qd=true→w.drawn≤w'.drawn) (size:w.heap.size≤w'.heap.size) (hold:∀b,b<w.heap.size→b≠g'→w'.heap[b]? =w.heap[b]?)
  (hg':E.g l j=some g'∨w.heap.size≤g') (hg'lt:g'<w'.heap.size) (hcell:∀o u,c[o]? =some u→w'.cell? ⟨g',o,none⟩=some u) (hF:∀o v,E.F g' o=some v→c[o]? =some v)
  (hblk:Zei (E.Zx l j n v g' c) w' l j nb):
  Zt m (H.upd l j nb) (E.Zx l j n v g' c) w'∧Ext m E w (E.Zx l j n v g' c) w':=by
 have hgm:∀l' k' b,E.m l' k'=some b→b≠g':=fun l' k' b hm e'=>by
  subst e';rcases hg' with hg'|hg'
  ·exact h.mg _ _ _ _ _ hm hg'
  ·have:=h.lt b (.inl ⟨l',k',hm⟩);omega
 have hgg:∀l' k' b,E.g l' k'=some b→ ¬(l'=l∧k'=j)→b≠g':=fun l' k' b hm hne e'=>by
  subst e';rcases hg' with hg'|hg'
  ·exact hne (h.injg _ _ _ _ _ hm hg')
  ·have:=h.lt b (.inr ⟨l',k',hm⟩);omega
 obtain⟨hh,hle⟩:=h.ZjP hl hj hnb c size hold hgm hgg hg'lt hcell hF hblk;refine⟨hh,hle,os,tape,output,drawn,size,fun b hb ho=>?_,fun b hb ho=>?_⟩
 ·refine hold b hb (fun e'=>ho ?_);subst e';rcases hg' with hg'|hg'
  ·exact .inr ⟨l,j,hg'⟩
  ·omega
 ·rcases ho with⟨l',k',hm⟩|⟨l',k',hg⟩
  ·exact .inl ⟨l',k',hm⟩
  ·simp only[Env.Zx]at hg;by_cases c2:l'=l∧k'=j
   ·rw[if_pos c2,Qp]at hg;subst hg;rcases hg' with hg'|hg'
    ·exact .inr ⟨l,j,hg'⟩
    ·omega
   ·rw[if_neg c2]at hg;exact .inr ⟨l',k',hg⟩
def Env.Yy(E:Env)(l j:Nat)(v:Value):Env:={E with hist:=fun l' j' n'=>if l'=l∧j'=j∧n'=0 then some v else E.hist l' j' n'}
def Zt.adopt(h:Zt m H E w)(hl:l<m)(hfree:H l j=none)(ad:Option Addr)(e k:Nat)(mb:Bool):
  Zt m (H.upd l j (if mb then .Zg e k [] 0 else .buf e k 0)) (E.Yy l j (.slice ad 0 0)) w∧Ext m E w (E.Yy l j (.slice ad 0 0)) w:=by
 obtain⟨d1,d2,d3⟩:=h.dom l j hl hfree;have hle:E.le m (E.Yy l j (.slice ad 0 0)):=⟨fun _ _ _ h=>h,fun _ _ _ _ h=>h,fun l' k' i u _ hi=>by
  simp only[Env.Yy];rw[if_neg (fun hc=>by rw[hc.1,hc.2.1,d3]at hi;cases hi)];exact hi,rfl⟩
 refine⟨{norm:=⟨h.norm.m,h.norm.g,fun l' k' i hl'=>?_⟩,F:=h.F,blk:=?_,dom:=?_,nobuf:=?_,inj:=h.inj,injg:=h.injg,mg:=h.mg,mF:=h.mF,lt:=h.lt},⟨hle,rfl,rfl,rfl,fun _=>Qg _,Qg _,fun _ _ _=>rfl,fun _ _ h=>h⟩⟩
 ·simp only[Env.Yy];rw[if_neg (fun hc=>by omega)];exact h.norm.hist l' k' i hl'
 ·intro l' k' bb hl' hH;by_cases hc:l'=l∧k'=j
  ·obtain⟨rfl,rfl⟩:=hc;rw[Za.upd_same,Qp]at hH;subst hH;have h0:(E.Yy l' k' (.slice ad 0 0)).hist l' k' 0=some (.slice ad 0 0):=by simp[Env.Yy]
   have h1:∀i,0<i→(E.Yy l' k' (.slice ad 0 0)).hist l' k' i=none:=fun i hi=>by simp only[Env.Yy];rw[if_neg (fun hc=>by omega)];exact d3 i
   cases mb with
   |false=>exact⟨⟨.slice ad 0 0,h0,h1,.inl ⟨ad,rfl,rfl,d2⟩⟩,d1⟩
   |true=>exact⟨⟨sm,.slice ad 0 0,h0,h1,.inl ⟨ad,rfl,rfl,d2⟩⟩,d1⟩
  ·rw[Za.upd_ne _ _ hc]at hH;exact(h.blk l' k' bb hl' hH).keep rfl rfl (fun i=>by simp only[Env.Yy];rw[if_neg (fun h=>hc ⟨h.1,h.2.1⟩)]) (fun _ _ _ h=>h) (fun _ _=>rfl) (fun _ _ _ h=>h) (fun a _ v hv=>hv.mono h.norm hle)
 ·intro l' k' hl' hH;by_cases hc:l'=l∧k'=j
  ·obtain⟨rfl,rfl⟩:=hc;rw[Za.upd_same]at hH;cases hH
  ·rw[Za.upd_ne _ _ hc]at hH;obtain⟨e1,e2,e3⟩:=h.dom l' k' hl' hH;exact⟨e1,e2,fun i=>by simp only[Env.Yy];rw[if_neg (fun h=>hc ⟨h.1,h.2.1⟩)];exact e3 i⟩
 ·intro l' k' hg;by_cases hc:l'=l∧k'=j
  ·obtain⟨rfl,rfl⟩:=hc;exact absurd d2 hg
  ·rw[Za.upd_ne _ _ hc];exact h.nobuf l' k' hg
def Yd{b:Ze}(h:H l j=some b):H.upd l j b=H:=by
 funext l' j';simp only[Za.upd];split
 ·rename_i hc;rw[hc.1,hc.2,h]
 ·rfl
def Zpg(w:World)(e sz n:Nat)(xv:Value)(cs1:List Value):Prop:=
 (n=0∧cs1=[]∧ ∃a,xv= .slice a 0 0)∨
 ∃g cap cur,xv= .slice (some ⟨g,0,none⟩) n cap∧w.heap[g]? =some (.cells cur e (0,0))∧n≤cap∧cap≤maxLen∧cur.size=cap*sz∧cur.toList.take (n*sz)=cs1
def ZbL{P:Program}{T:TT}(hT:TOK P T){t ty e:TypeId}{r re:Zu}(h1:T t=some r)(h2:r.td= .slice e)(h3:T e=some re){c b2 off2 cap2:Nat}{xv:Value}{cs1 cs2:List Value}
  (hcur:Zpg w e re.size n xv cs1) (hc:0<c) (hl2:cs2.length=c*re.size) (hn2:∀j v,cs2[j]? =some v→w.cell? ⟨b2,off2+j,none⟩=some v) (hone:∀u∈cs2,u.oneCell'=true)
  (hml:n+c≤maxLen) (hby:(n+c)*re.bytes≤140737488355328):
  ∃g' cap cur w',(Builtin.append_ #[t,t] ty #[xv,.slice (some ⟨b2,off2,none⟩) c cap2]).run P w= .ok (.slice (some ⟨g',0,none⟩) (n+c) cap) w'∧w'.os=w.os∧w'.tape=w.tape∧w'.output=w.output∧w.drawn≤w'.drawn∧w.heap.size≤w'.heap.size∧
   (∀b,b<w.heap.size→b≠g'→w'.heap[b]? =w.heap[b]?)∧((∃cap0,xv= .slice (some ⟨g',0,none⟩) n cap0∧0<cap0)∨w.heap.size≤g')∧w'.heap[g']? =some (.cells cur e (0,0))∧n+c≤cap∧cap≤maxLen∧cur.size=cap*re.size∧
   cs1++cs2=cur.toList.take ((n+c)*re.size):=by
 obtain⟨d,inf,z,hf⟩:=Zd (hT t r h1);obtain⟨d',i',z',hf'⟩:=Zd (hT e re h3);have hd:=ZJ (h2▸hf.fits);subst hd;have hu:P.underlying t=some (.slice e):=hf.und;have hmx:n+c≤9223372036854775807:=by unfold maxLen at hml;omega
 have hl2':cs2.length=c*i'.size:=by rw[hf'.size];exact hl2
 have hn2':∀j v,cs2[j]? =some v→w.cell? ((⟨b2,off2,none⟩:Addr).add j)=some v:=fun j v hj=>by rw[ZK];exact hn2 j v hj
 rcases hcur with⟨rfl,rfl,ad,rfl⟩|⟨g,cap,cur,rfl,q3,q4,q5,q6,q7⟩
 ·simp only[QK]at hmx hml hby⊢;have hge:=grownCap_ge w c 0 e;cases ad with
  |none=>
   have hr1:=run_append_nil (P:=P) w t ty e i' z' hu hf'.info hf'.zero ⟨b2,off2,none⟩ c cap2 cs2 hl2' hn2' hc om (by rw[hf'.bytes];omega);refine⟨w.heap.size,grownCap w c 0 e,cs2.toArray++Builtin.zeroCells z'.cells (grownCap w c 0 e - c),w.drew.alloc (.cells (cs2.toArray++Builtin.zeroCells z'.cells (grownCap w c 0 e - c)) e),hr1,rfl,rfl,rfl,Ul _,sm,fun b hb _=>heap_alloc_old w.drew _ hb,.inr (Qg _),heap_alloc_new w.drew _,hge,grownCap_le_maxLen w _ _ _ hml,?_,?_⟩
   ·simp only[G8,MK,size_zeroCells,hl2,hf'.zsize,←Nat.add_mul];congr 1;omega
   ·simp only[Q5,GU];rw[←hl2];simp
  |some ad=>
   have hb48:Builtin.nextslicecap (0+c) 0*i'.bytes≤281474976710656:=growslice_fits om (by rw[hf'.bytes,QK];exact hby);have hr1:=run_append_grow (P:=P) w t ty e i' z' hu hf'.info hf'.zero ad 0 0 [] sm sm ⟨b2,off2,none⟩ c cap2 cs2 hl2' hn2' om om hb48;simp only[QK]at hr1;refine⟨w.heap.size,grownCap w c 0 e,#[]++cs2.toArray++Builtin.zeroCells z'.cells (grownCap w c 0 e - c),w.drew.alloc (.cells (#[]++cs2.toArray++Builtin.zeroCells z'.cells (grownCap w c 0 e - c)) e),hr1,rfl,rfl,rfl,Ul _,sm,fun b hb _=>heap_alloc_old w.drew _ hb,.inr (Qg _),heap_alloc_new w.drew _,hge,grownCap_le_maxLen w _ _ _ hml,?_,?_⟩
   ·simp only[G8,MK,size_zeroCells,hl2,hf'.zsize,QB,QK,←Nat.add_mul];congr 1;omega
   ·simp only[Q5,GU,MG];rw[←hl2];simp
 ·have hle:n*re.size≤cap*re.size:=QF _ q4;have hl1:cs1.length=n*re.size:=by rw[←q7,QM];simp;omega
  have hn1:∀j v,cs1[j]? =some v→w.cell? ((⟨g,0,none⟩:Addr).add j)=some v:=fun j v hj=>by
   rw[ZK];simp only[World.cell?,q3,QK];rw[←q7]at hj;rcases Qe j (n*re.size)with h|h
   ·rw[QZ h]at hj;simpa using hj
   ·rw[UY,if_neg om]at hj;cases hj
  have hglt:g<w.heap.size:=(QX.1 q3).1;by_cases hroom:n+c≤cap
  ·have hfit:n*i'.size+cs2.length≤cur.size:=by rw[hl2,q6,hf'.size,←Ui];exact QF _ hroom
   have hr1:=run_append_room (P:=P) w t ty e i' hu hf'.info g n cap cur q3 ⟨b2,off2,none⟩ c cap2 cs2 hl2' hn2' hone hroom hfit;rw[hf'.size]at hr1 hfit;refine⟨g,cap,_,_,hr1,rfl,rfl,rfl,Qg _,by simp[World.setRow],fun b _ hb=>setRow_other w g b _ hb,.inl ⟨cap,rfl,om⟩,setRow_heap w g cur _ e (0,0) q3,hroom,q5,?_,?_⟩
   ·simp only[MK,Qh,QM,QU,Uj];rw[←q6];omega
   ·rw[MG,q7];rw[show(n+c)*re.size=(cs1++cs2).length by rw[Qh,hl1,hl2,Ui],GX]
  ·have hb48:Builtin.nextslicecap (n+c) cap*i'.bytes≤281474976710656:=growslice_fits om (by rw[hf'.bytes];exact hby);have hge:=grownCap_ge w (n+c) cap e;have hr1:=run_append_grow (P:=P) w t ty e i' z' hu hf'.info hf'.zero ⟨g,0,none⟩ n cap cs1 (by rw[hf'.size];exact hl1) hn1 ⟨b2,off2,none⟩ c cap2 cs2 hl2' hn2' om om hb48;refine⟨w.heap.size,grownCap w (n+c) cap e,cs1.toArray++cs2.toArray++Builtin.zeroCells z'.cells (grownCap w (n+c) cap e - (n+c)),w.drew.alloc (.cells (cs1.toArray++cs2.toArray++Builtin.zeroCells z'.cells (grownCap w (n+c) cap e - (n+c))) e),hr1,rfl,rfl,rfl,Ul _,sm,fun b hb _=>heap_alloc_old w.drew _ hb,.inr (Qg _),heap_alloc_new w.drew _,hge,grownCap_le_maxLen w _ _ _ hml,?_,?_⟩
   ·simp only[G8,MK,size_zeroCells,hl1,hl2,hf'.zsize,←Nat.add_mul];congr 1;omega
   ·simp only[GU,MG];rw[show(n+c)*re.size=(cs1++cs2).length by rw[Qh,hl1,hl2,Ui],GX]
def WT{P:Program}{T:TT}(hT:TOK P T){t ty e:TypeId}{r re:Zu}(h1:T t=some r)(h2:r.td= .slice e)(h3:T e=some re){k':Nat}{ow:Own}{xv yv:Value}{c:Nat}{ad:Option Addr}(hxv:xv= .slice ad n c)(hnc:n≤c)(hy:VR E (.sl k' [] ow) yv):
  (Builtin.append_ #[t,t] ty #[xv,yv]).run P w= .ok xv w:=by
 obtain⟨d,inf,z,hf⟩:=Zd (hT t r h1);obtain⟨d',i',z',hf'⟩:=Zd (hT e re h3);have hd:=ZJ (h2▸hf.fits);subst hd;subst hxv;have hu:P.underlying t=some (.slice e):=hf.und;rcases hy.Vr with⟨⟨a2,e2,_⟩,_,_⟩|⟨b2,off2,cap2,cs2,e2,_,_,_,hc2,_,_⟩<;>rw[e2]
 ·cases ad<;>cases a2<;>simp[Builtin.append_,run_underlying hu,sizeOf,typeInfo,hf'.info,Builtin.lenOf,Builtin.firstCells,loadCells,loadCellsFrom,storeCells,hnc]
 ·cases ad<;>simp[Builtin.append_,run_underlying hu,sizeOf,typeInfo,hf'.info,Builtin.lenOf,Builtin.firstCells,loadCells,loadCellsFrom,storeCells,hnc]
section ops
variable {P:Program} {T:TT} {o:Oper} {ρ:Operand→AV}
def Xu{a:Act}{t t':TypeId}{x y:Operand}{w w':World}{v:Value}(ho:o.op= .call {callee:=.builtin .append,args:=#[x,y],argTypes:=#[t,t']})
  (h:(Builtin.append_ #[t,t'] o.type #[a.eval x,a.eval y]).run P w= .ok v w'):(execOp a.eval o).run P w= .ok (.value v) w':=by
 have he:(execOp a.eval o).run P w=((Builtin.append_ #[t,t'] o.type #[a.eval x,a.eval y]).run P w).andThen fun v w''=>.ok (.value v) w'':=by
  simp[execOp,ho,resolve,invoke,builtin]
 rw[he,h];rfl
def Ze0{P:Program}{m:Nat}{H:Za}{E:Env}{w:World}{S:Sem Value}{xv:Value}{e:TypeId}{sz k l j:Nat}{xs ys:List AV}{cs2:List Value}
  (hr:Zt m H E w) (hx:VR E (.sl k xs (.buf l j)) xv) (hl:l<m) (hH:H l j=some (.buf e sz xs.length)) (hk:k=sz) (hky:∀y∈ys,y.cells.length=sz) (hvy:VRs E (flat ys) cs2) (hylen:0<ys.length) (hml:xs.length+ys.length≤maxLen)
  (hrunA:∀cs1,Zpg w e sz xs.length xv cs1→ ∃g' cap cur w',S.run P w= .ok (.slice (some ⟨g',0,none⟩) (xs.length+ys.length) cap) w'∧w'.os=w.os∧w'.tape=w.tape∧w'.output=w.output∧w.drawn≤w'.drawn∧w.heap.size≤w'.heap.size∧
   (∀b,b<w.heap.size→b≠g'→w'.heap[b]? =w.heap[b]?)∧((∃cap0,xv= .slice (some ⟨g',0,none⟩) xs.length cap0∧0<cap0)∨w.heap.size≤g')∧w'.heap[g']? =some (.cells cur e (0,0))∧xs.length+ys.length≤cap∧cap≤maxLen∧cur.size=cap*sz∧
   cs1++cs2=cur.toList.take ((xs.length+ys.length)*sz)):
  ∃cv E' w',S.run P w= .ok cv w'∧VR E' (.sl k (xs++ys) (.buf l j)) cv∧Zt m (H.upd l j (.buf e sz (xs.length+ys.length))) E' w'∧Ext m E w E' w':=by
 subst hk;have hl2:cs2.length=ys.length*k:=by rw[hvy.1,flat_length hky]
 obtain⟨⟨v0,hv0,hj0,hr0⟩,hm0⟩:=hr.buf l j e k xs.length hl hH;have hxs:=hx.Vr;have hxv:xv=v0:=by
  rcases hxs with⟨⟨a1,e1,_⟩,ex,how⟩|⟨_,_,_,_,_,_,_,_,_,_,how⟩
  ·subst ex;have:E.hist l j 0=some _:=how;simp only[QB]at hv0;rw[hv0]at this;rw[e1]at*;exact(U7 this).symm
  ·have:E.hist l j xs.length=some xv:=how;rw[hv0]at this;exact(U7 this).symm
 subst hxv;have hcur:∃cs1,Zpg w e k xs.length xv cs1∧VRs E (flat xs) cs1∧(∀x∈xs,x.cells.length=k):=by
  rcases hr0 with⟨a0,q1,q2,q3⟩|⟨g,cap,cur,q1,q2,q3,q4,q5,q6,q7⟩
  ·have ex:xs=[]:=Ug q2;subst ex;exact⟨[],.inl ⟨rfl,rfl,a0,q1⟩,VRs.nil E,sm⟩
  ·rcases hxs with⟨⟨a1,e1,ea1⟩,_,_⟩|⟨b1,off1,cap1,cs1,e1,hkx,hvx,hFx,hc1,hm1,how⟩
   ·obtain rfl:=ea1 sm;rw[e1]at q1;cases q1
   ·rw[e1]at q1;simp only[Value.slice.injEq,Qp,Addr.mk.injEq,true_and,and_true]at q1;obtain⟨⟨rfl,rfl⟩,rfl⟩:=q1;refine⟨cs1,.inr ⟨b1,cap1,cur,e1,q3,q4,q5,q6,?_⟩,hvx,hkx⟩;have hl1:cs1.length=xs.length*k:=by rw[hvx.1,flat_length hkx]
    apply Qbm;intro i;rcases Qe i (xs.length*k)with hi|hi
    ·rw[QZ hi];have hi1:i<cs1.length:=om;have:=hr.F _ _ _ (hFx i _ (Qb hi1));simp only[World.cell?,q3,QK]at this;rw[Qb hi1,←this];simp
    ·rw[UY,if_neg om,Uu om]
 obtain⟨cs1,hcur,hvx,hkx⟩:=hcur;obtain⟨g',cap,cur,w',hrun,os,tp,out,hdr,size,hold,hg',hnew,hcap,hcml,hcs,hcc⟩:=hrunA cs1 hcur;have hreuse:w.heap.size≤g'∨(E.g l j=some g'∧(∀o,xs.length*k≤o→E.F g' o=none)∧ ∃c0,w.heap[g']? =some (.cells c0 e (0,0))∧c0.toList.take (xs.length*k)=cs1):=by
  rcases hg' with⟨cap0,hx0,hpos⟩|hg'
  ·refine .inr ?_;rcases hr0 with⟨a0,q1,q2,q3⟩|⟨g,cap,cur,q1,q2,q3,q4,q5,q6,q7⟩
   ·rw[hx0]at q1;simp only[Value.slice.injEq]at q1;omega
   ·rcases hcur with⟨_,_,a0,e0⟩|⟨g0,cap0',cur0,e0,p3,p4,p5,p6,p7⟩
    ·rw[hx0]at e0;simp only[Value.slice.injEq]at e0;omega
    ·rw[hx0]at q1 e0;simp only[Value.slice.injEq,Qp,Addr.mk.injEq,true_and,and_true]at q1 e0;obtain⟨rfl,rfl⟩:=q1;obtain⟨rfl,rfl⟩:=e0;exact⟨q2,q7,cur0,p3,p7⟩
  ·exact .inl hg'
 have hfree:E.hist l j (xs.length+ys.length)=none:=hj0 _ om;have hlen:(xs++ys).length=xs.length+ys.length:=Qh;have hcF:∀o u,(cs1++cs2)[o]? =some u→w'.cell? ⟨g',o,none⟩=some u:=fun o u hu=>by
  rw[hcc]at hu;simp only[World.cell?,hnew];rcases Qe o ((xs.length+ys.length)*k)with h|h
  ·rw[QZ h]at hu;simpa using hu
  ·rw[UY,if_neg om]at hu;cases hu
 have hclen:(cs1++cs2).length=(xs.length+ys.length)*k:=by
  rw[Qh,hvx.1,flat_length hkx,hl2,Ui]
 obtain⟨hh,hxx⟩:=hr.ZfJ (n:=xs.length+ys.length) (v:=.slice (some ⟨g',0,none⟩) (xs.length+ys.length) cap) (nb:=.buf e k (xs.length+ys.length)) (g':=g') hl hm0 hfree rfl (cs1++cs2) os tp out (fun _=>hdr) size hold
  (hreuse.elim .inr (fun h=>.inl h.1)) (QX.1 hnew).1 hcF (fun o u hu=>by
   rcases hreuse with hn|⟨_,q7,c0,p3,p7⟩
   ·have:=hr.ZcB hu;omega
   ·have hlt:o<xs.length*k:=by
     rcases Qe o (xs.length*k)with h|h
     ·exact h
     ·rw[q7 o h]at hu;cases hu
    have hc:=hr.F _ _ _ hu;simp only[World.cell?,p3]at hc;rw[UE (by rw[hvx.1,flat_length hkx];exact hlt),←p7,QZ hlt];simpa using hc)
  ⟨⟨_,by simp[Env.Zx],fun i hi=>by simp only[Env.Zx];rw[if_neg (fun h=>by omega)];exact hj0 i om,.inr ⟨g',cap,cur,rfl,by simp[Env.Zx],hnew,hcap,hcml,hcs,fun o ho=>by
   simp only[Env.Zx,if_true];exact Uu om⟩⟩,hm0⟩
 refine⟨_,_,w',hrun,?_,hh,hxx⟩;have hkall:∀x∈xs++ys,x.cells.length=k:=fun x hx=>by
  rcases Qk.1 hx with h|h
  ·exact hkx x h
  ·exact hky x h
 have hvv:VRs E (flat (xs++ys)) (cs1++cs2):=by rw[YZ];exact hvx.append hvy
 have:=VR.Vs (E:=E.Zx l j (xs.length+ys.length) (.slice (some ⟨g',0,none⟩) (xs.length+ys.length) cap) g' (cs1++cs2)) (k:=k) (xs:=xs++ys) (o:=.buf l j) (b:=g') (off:=0) (cap:=cap) (cs:=cs1++cs2) hkall
  (hvv.mono hr.norm hxx.le) (fun i u hi=>by simp only[Env.Zx,if_true,QK];exact hi) (by rw[hlen];exact hcap) (by rw[hlen];exact hml) (by rw[hlen];simp[Zax,Env.Zx])
 rwa [hlen]at this
def Zgt{m:Nat}{H:Za}{E:Env}{w:World}{xv yv:Value}{t ty e:TypeId}{r re:Zu}{k k' l j:Nat}{xs ys:List AV}{ow:Own}(hT:TOK P T)
  (h1:T t=some r) (h2:r.td= .slice e) (h3:T e=some re) (hsz:0<re.size) (hr:Zt m H E w) (hx:VR E (.sl k xs (.buf l j)) xv) (hy:VR E (.sl k' ys ow) yv) (hl:l<m) (hH:H l j=some (.buf e re.size xs.length)) (hk:k=re.size) (hk':ys=[]∨k'=re.size)
  (hone:∀y∈ys,∀c∈y.cells,c.one=true) (hml:xs.length+ys.length≤maxLen) (hby:(xs.length+ys.length)*re.bytes≤140737488355328):
  ∃cv E' w',(Builtin.append_ #[t,t] ty #[xv,yv]).run P w= .ok cv w'∧VR E' (.sl k (xs++ys) (.buf l j)) cv∧Zt m (H.upd l j (.buf e re.size (xs.length+ys.length))) E' w'∧Ext m E w E' w':=by
 subst hk;obtain⟨⟨v0,hv0,hj0,hr0⟩,hm0⟩:=hr.buf l j e re.size xs.length hl hH;have hxs:=hx.Vr;have hxv:xv=v0:=by
  rcases hxs with⟨⟨a1,e1,_⟩,ex,how⟩|⟨_,_,_,_,_,_,_,_,_,_,how⟩
  ·subst ex;have:E.hist l j 0=some _:=how;simp only[QB]at hv0;rw[hv0]at this;rw[e1]at*;exact(U7 this).symm
  ·have:E.hist l j xs.length=some xv:=how;rw[hv0]at this;exact(U7 this).symm
 subst hxv;by_cases hy0:ys=[]
 ·subst hy0;refine⟨xv,E,w,?_,by rw[Qs];exact hx,by rw[QB,UF,Yd hH];exact hr,.refl m E w⟩;rcases hxs with⟨⟨a1,e1,_⟩,_,_⟩|⟨b,off,cap,cs,e1,_,_,_,hc,_,_⟩
  ·exact WT hT h1 h2 h3 e1 (Qg _) hy
  ·exact WT hT h1 h2 h3 e1 hc hy
 ·have hk':k'=re.size:=hk'.resolve_left hy0;subst hk';obtain⟨b2,off2,cap2,cs2,e2,hky,hvy,hl2,hn2,hone2⟩:=ZbI hr hy hy0 hone;have hylen:0<ys.length:=G9.2 hy0;subst e2;exact Ze0 hr hx hl hH rfl hky hvy hylen hml fun cs1 hcur=>ZbL hT (ty:=ty) h1 h2 h3 hcur hylen hl2 hn2 hone2 hml hby
theorem ZeY{m:Nat}{H:Za}{E:Env}{w:World}{xv yv:Value}{t ty e:TypeId}{r re:Zu}{sz k' l j n:Nat}{cs:List AV}{ys:List AV}{ow:Own}(hT:TOK P T)
  (h1:T t=some r) (h2:r.td= .slice e) (h3:T e=some re) (hsz:0<re.size) (hr:Zt m H E w) (hx:VR E (.msl sz l j n) xv) (hy:VR E (.sl k' ys ow) yv) (hl:l<m) (hH:H l j=some (.Zg e re.size cs n)) (hk':ys=[]∨k'=re.size)
  (hone:∀y∈ys,∀c∈y.cells,c.one=true) (hml:n+ys.length≤maxLen) (hby:(n+ys.length)*re.bytes≤140737488355328):
  ∃cv E' w',(Builtin.append_ #[t,t] ty #[xv,yv]).run P w= .ok cv w'∧VR E' (.msl sz l j (n+ys.length)) cv∧Zt m (H.upd l j (.Zg e re.size (cs++flat ys) (n+ys.length))) E' w'∧Ext m E w E' w':=by
 obtain⟨⟨h0,v0,hv0,hj0,hr0⟩,hm0⟩:=hr.Zg l j e re.size cs n hl hH;have hxv:xv=v0∧ ∃ad c,xv= .slice ad n c:=by
  cases hx with
  |mnil _ _ _ a hh _=>rw[hv0]at hh;cases hh;exact⟨rfl,_,_,rfl⟩
  |msl _ _ _ _ g cap hh=>rw[hv0]at hh;cases hh;exact⟨rfl,_,_,rfl⟩
 obtain⟨rfl,ad,c0,hxs⟩:=hxv;by_cases hy0:ys=[]
 ·subst hy0;refine⟨xv,E,w,WT hT h1 h2 h3 hxs ?_ hy,by simpa using hx,by simpa[flat,Yd hH]using hr,.refl m E w⟩;rcases hr0 with⟨a0,q1,q2,q3⟩|⟨g,cap,cur,q1,q2,q3,q4,_⟩
  ·omega
  ·rw[hxs]at q1;cases q1;exact q4
 ·have hk':k'=re.size:=hk'.resolve_left hy0;subst hk';obtain⟨b2,off2,cap2,cs2,e2,hky,hvy,hl2,hn2,hone2⟩:=ZbI hr hy hy0 hone;have hylen:0<ys.length:=G9.2 hy0;have hcur:∃cs1,Zpg w e re.size n xv cs1∧VRs E cs cs1:=by
   rcases hr0 with⟨a0,q1,q2,q3⟩|⟨g,cap,cur,q1,q2,q3,q4,q5,q6,q7,q8⟩
   ·have:cs=[]:=Ug (by rw[h0,q2];simp);subst this;exact⟨[],.inl ⟨q2,rfl,a0,q1⟩,VRs.nil E⟩
   ·exact⟨_,.inr ⟨g,cap,cur,q1,q3,q4,q5,q6,rfl⟩,q8⟩
  obtain⟨cs1,hcur,hvx⟩:=hcur;subst e2;obtain⟨g',cap,cur,w',hrun,os,tp,out,hdr,size,hold,hg',hnew,hcap,hcml,hcs,hcc⟩:=ZbL hT (ty:=ty) h1 h2 h3 hcur hylen hl2 hn2 hone2 hml hby;have hreuse:w.heap.size≤g'∨(E.g l j=some g'∧ ∀o,E.F g' o=none):=by
   rcases hg' with⟨cap0,hx0,hpos⟩|hg'
   ·refine .inr ?_;rcases hr0 with⟨a0,q1,q2,q3⟩|⟨g,cap,cur,q1,q2,q3,q4,q5,q6,q7,q8⟩
    ·rw[hx0]at q1;simp only[Value.slice.injEq]at q1;omega
    ·rw[hx0]at q1;simp only[Value.slice.injEq,Qp,Addr.mk.injEq,true_and,and_true]at q1;obtain⟨rfl,rfl⟩:=q1;exact⟨q2,q7⟩
   ·exact .inl hg'
  have hF0:∀o,E.F g' o=none:=by
   rcases hreuse with hn|⟨_,q7⟩
   ·intro o;cases hf:E.F g' o with
    |none=>rfl
    |some u=>have:=hr.ZcB hf;omega
   ·exact q7
  have hfree:E.hist l j (n+ys.length)=none:=hj0 _ om;have hle:E.le m (E.Zx l j (n+ys.length) (.slice (some ⟨g',0,none⟩) (n+ys.length) cap) g' []):=by
   refine⟨fun b o v hf=>?_,fun _ _ _ _ hm=>hm,fun l' k' i u _ hi=>?_,rfl⟩
   ·simp only[Env.Zx];by_cases hb:b=g'
    ·subst hb;rw[hF0 o]at hf;cases hf
    ·rw[if_neg hb];exact hf
   ·simp only[Env.Zx];rw[if_neg (fun hc=>by rw[hc.1,hc.2.1,hc.2.2,hfree]at hi;cases hi)];exact hi
  have hflat:(flat ys).length=ys.length*re.size:=flat_length hky;obtain⟨hh,hxx⟩:=hr.ZfJ (n:=n+ys.length) (v:=.slice (some ⟨g',0,none⟩) (n+ys.length) cap) (nb:=.Zg e re.size (cs++flat ys) (n+ys.length)) (g':=g') hl hm0 hfree rfl [] os tp out (fun _=>hdr) size hold
   (hreuse.elim .inr (fun h=>.inl h.1)) (QX.1 hnew).1 (fun o u hu=>by simp at hu) (fun o u hu=>by rw[hF0 o]at hu;cases hu)
   ⟨⟨by rw[Qh,h0,hflat,Ui],_,by simp[Env.Zx],fun i hi=>by simp only[Env.Zx];rw[if_neg (fun h=>by omega)];exact hj0 i om,.inr ⟨g',cap,cur,rfl,by simp[Env.Zx],hnew,hcap,hcml,hcs,fun o=>by simp[Env.Zx],by
    rw[←hcc];exact(hvx.append hvy).mono hr.norm hle⟩⟩,hm0⟩
  exact⟨_,_,w',hrun,.msl sz l j _ g' cap (by simp[Env.Zx]),hh,hxx⟩
def ZcD{m:Nat}{H:Za}{t:TypeId}{x y:Operand}{r re:Zu}{e:TypeId}{k k' l j:Nat}{xs ys:List AV}{ow:Own}(hT:TOK P T)
  (ho:o.op= .call {callee:=.builtin .append,args:=#[x,y],argTypes:=#[t,t]}) (h1:T t=some r) (h2:r.td= .slice e) (h3:T e=some re) (hsz:0<re.size)
  (hx:ρ x= .sl k xs (.buf l j)) (hy:ρ y= .sl k' ys ow) (hl:l<m) (hH:H l j=some (.buf e re.size xs.length)) (hk:k=re.size) (hk':ys=[]∨k'=re.size) (hone:∀y∈ys,∀c∈y.cells,c.one=true)
  (hml:xs.length+ys.length≤maxLen) (hby:(xs.length+ys.length)*re.bytes≤140737488355328):
  Yv P m o ρ H (.sl k (xs++ys) (.buf l j)) (H.upd l j (.buf e re.size (xs.length+ys.length))):=fun E w a hr hops=>by
 have hxv:=hops x sC;have hyv:=hops y sC;rw[hx]at hxv;rw[hy]at hyv;obtain⟨cv,E',w',a1,a2,a3,a4⟩:=Zgt hT (ty:=o.type) h1 h2 h3 hsz hr hxv hyv hl hH hk hk' hone hml hby;exact⟨cv,E',w',.inl (Xu ho a1),a2,a3,a4⟩
def Zb8{m:Nat}{H:Za}{t:TypeId}{x y:Operand}{r re:Zu}{e:TypeId}{sz k' l j n:Nat}{cs ys:List AV}{ow:Own}(hT:TOK P T)
  (ho:o.op= .call {callee:=.builtin .append,args:=#[x,y],argTypes:=#[t,t]}) (h1:T t=some r) (h2:r.td= .slice e) (h3:T e=some re) (hsz:0<re.size)
  (hx:ρ x= .msl sz l j n) (hy:ρ y= .sl k' ys ow) (hl:l<m) (hH:H l j=some (.Zg e re.size cs n)) (hk':ys=[]∨k'=re.size) (hone:∀y∈ys,∀c∈y.cells,c.one=true)
  (hml:n+ys.length≤maxLen) (hby:(n+ys.length)*re.bytes≤140737488355328):
  Yv P m o ρ H (.msl sz l j (n+ys.length)) (H.upd l j (.Zg e re.size (cs++flat ys) (n+ys.length))):=fun E w a hr hops=>by
 have hxv:=hops x sC;have hyv:=hops y sC;rw[hx]at hxv;rw[hy]at hyv;obtain⟨cv,E',w',a1,a2,a3,a4⟩:=ZeY hT (ty:=o.type) h1 h2 h3 hsz hr hxv hyv hl hH hk' hone hml hby;exact⟨cv,E',w',.inl (Xu ho a1),a2,a3,a4⟩
def Zbt{m:Nat}{H:Za}{t:TypeId}{x y:Operand}{r re:Zu}{e:TypeId}{k k' l j:Nat}{ys:List AV}{ow:Own}(hT:TOK P T)
  (ho:o.op= .call {callee:=.builtin .append,args:=#[x,y],argTypes:=#[t,t]}) (h1:T t=some r) (h2:r.td= .slice e) (h3:T e=some re) (hsz:0<re.size)
  (hx:ρ x= .sl k [] .full) (hy:ρ y= .sl k' ys ow) (hl:l<m) (hH:H l j=none) (hk':ys=[]∨k'=re.size) (hone:∀y∈ys,∀c∈y.cells,c.one=true)
  (hml:ys.length≤maxLen) (hby:ys.length*re.bytes≤140737488355328):
  Yv P m o ρ H (.sl re.size ys (.buf l j)) (H.upd l j (.buf e re.size ys.length))∧Yv P m o ρ H (.msl re.size l j ys.length) (H.upd l j (.Zg e re.size (flat ys) ys.length)):=by
 have Zau:∀a b,(H.upd l j a).upd l j b=H.upd l j b:=fun a b=>by
  funext l' j';simp only[Za.upd];split<;>rfl
 constructor
 ·intro E w a hr hops;have hxv:=hops x sC;have hyv:=hops y sC;rw[hx]at hxv;rw[hy]at hyv;have hval:∃ad,a.eval x= .slice ad 0 0:=by
   generalize a.eval x=q at hxv;cases hxv with
   |slnil _ _ a ho ha=>exact⟨a,rfl⟩
   |sl _ _ _ b off cap c hk hc hv hcap hm ho=>
    have:cap=0:=ho;subst this;exact⟨_,rfl⟩
  obtain⟨ad,hval⟩:=hval;obtain⟨hh,hxx⟩:=hr.adopt hl hH ad e re.size false;simp only[QW,if_false]at hh;have hx2:VR (E.Yy l j (.slice ad 0 0)) (.sl re.size [] (.buf l j)) (a.eval x):=by
   rw[hval]at hxv⊢;cases hxv with
   |slnil _ _ _ ho ha=>exact .slnil _ _ _ (by simp[Zax,Env.Yy]) (fun _=>ha sm)
   |sl _ _ _ b off cap c hk hc hv hcap hm ho=>exact .sl _ [] _ b off 0 c (fun i h=>absurd h (Qo _)) (fun i j h=>absurd h (Qo _)) (fun i h=>absurd h (Qo _)) (Qg _) hm (by simp[Zax,Env.Yy])
  obtain⟨cv,E',w',a1,a2,a3,a4⟩:=Zgt hT (ty:=o.type) (xs:=[]) h1 h2 h3 hsz hh hx2 (hyv.mono hr.norm hxx.le) hl (Za.upd_same _ _ _ _) rfl hk' hone (by simpa using hml) (by simpa using hby);rw[Zau]at a3;simp only[QB,QK,Q5]at a2 a3;exact⟨cv,E',w',.inl (Xu ho a1),a2,a3,hxx.trans a4⟩
 ·intro E w a hr hops;have hxv:=hops x sC;have hyv:=hops y sC;rw[hx]at hxv;rw[hy]at hyv;have hval:∃ad,a.eval x= .slice ad 0 0∧ ∀x,ad=some x→x.spot=none:=by
   generalize a.eval x=q at hxv;cases hxv with
   |slnil _ _ a ho ha=>obtain rfl:=ha sm;exact⟨none,rfl,fun _ e=>by cases e⟩
   |sl _ _ _ b off cap c hk hc hv hcap hm ho=>
    have:cap=0:=ho;subst this;exact⟨_,rfl,fun _ e=>by cases e;rfl⟩
  obtain⟨ad,hval,hsp⟩:=hval;obtain⟨hh,hxx⟩:=hr.adopt hl hH ad e re.size true;simp only[if_true]at hh;have hx2:VR (E.Yy l j (.slice ad 0 0)) (.msl re.size l j 0) (a.eval x):=by
   rw[hval];exact .mnil _ _ _ _ (by simp[Env.Yy]) hsp
  obtain⟨cv,E',w',a1,a2,a3,a4⟩:=ZeY hT (ty:=o.type) (n:=0) (cs:=[]) h1 h2 h3 hsz hh hx2 (hyv.mono hr.norm hxx.le) hl (Za.upd_same _ _ _ _) hk' hone (by simpa using hml) (by simpa using hby);rw[Zau]at a3;simp only[QK,Q5]at a2 a3;exact⟨cv,E',w',.inl (Xu ho a1),a2,a3,hxx.trans a4⟩
end ops
theorem ZdT{P:Program}{T:TT}{o:Oper}{ρ:Operand→AV}{m:Nat}{H:Za}{t:TypeId}{n l j:Nat}{ps:Array (Nat×Operand)}{r re:Zu}{e:TypeId}(hT:TOK P T)(ho:o.op= .buildSlice t n ps)(h1:T t=some r)(h2:r.td= .slice e)(h3:T e=some re)
  (hin:inOrder 0 ps.toList=true) (hn:n=ps.size) (hn0:0<n) (hsz:0<re.size) (hsmall:n*re.size≤2^24) (hk:∀x∈ps.toList.map (fun p=>ρ p.2),x.cells.length=re.size∧ ∀c∈x.cells,c.one=true) (hl:l<m) (hH:H l j=none):
  Yv P m o ρ H (.msl re.size l j n) (H.upd l j (.Zg e re.size (flat (ps.toList.map fun p=>ρ p.2)) n)):=fun E w a hr hops=>by
 obtain⟨d,inf,z,hf⟩:=Zd (hT t r h1);obtain⟨d',i',z',hf'⟩:=Zd (hT e re h3);have hd:=ZJ (h2▸hf.fits);subst hd;have he:execOp a.eval o=(do let v←Instr.buildSlice t n (ps.map fun(i,x)=>(i,a.eval x));pure (Next.value v)):=by simp only[execOp,ho]
 have hm:(ps.map fun(i,x)=>(i,a.eval x)).toList=ps.toList.map fun p=>(p.1,a.eval p.2):=sm
 have hparts:∀i (h:i<ps.toList.length) (h':i<(ps.toList.map fun p=>(p.1,a.eval p.2)).length) (h'':i<(ps.toList.map fun p=>ρ p.2).length),
   (ps.toList.map fun p=>(p.1,a.eval p.2))[i].1=ps.toList[i].1∧VR E (ps.toList.map fun p=>ρ p.2)[i] (ps.toList.map fun p=>(p.1,a.eval p.2))[i].2:=by
  intro i h h' h'';refine⟨sm,?_⟩;simp only[QN];exact hops _ (by rw[ho];simp only[Op.operands,QaO,Qi];exact⟨ps.toList[i],sm,rfl⟩)
 have hfill:∀(cells:List Value),cells.length=n*re.size→ ∃us:List Value,Instr.fill (fun i=>some (i*re.size,re.size)) cells.toArray (ps.toList.map fun p=>(p.1,a.eval p.2))=some us.toArray∧
   VRs E (flat (ps.toList.map fun p=>ρ p.2)) us:=by
  intro cells hc;have:=ZaT (E:=E) (k:=re.size) (n:=0) (ps:=ps.toList) (xs:=ps.toList.map fun p=>ρ p.2) (vals:=ps.toList.map fun p=>(p.1,a.eval p.2)) (pre:=[]) (post:=cells) hin sm sm sm (by rw[hc,hn];simp) hparts hk;simpa using this
 have hlen:(ps.toList.map fun p=>ρ p.2).length=n:=by simp[hn]
 have hflen:=flat_length (k:=re.size) (xs:=ps.toList.map fun p=>ρ p.2) (fun x hx=>(hk x hx).1);have h24:¬n*re.size>2^24:=om;have hml:n≤maxLen:=by
  have:n≤n*re.size:=Qbq n hsz;unfold maxLen;omega
 have h0:¬n*re.size=0:=QbM (Nat.mul_pos hn0 hsz);obtain⟨us,hu1,hu2⟩:=hfill ((Array.range (n*re.size)).map (z'.cells[· % z'.cells.size]!)).toList sm;have hul:us.length=n*re.size:=by rw[hu2.1,hflen,hlen]
 have hrun:(execOp a.eval o).run P w= .ok (.value (.slice (some ⟨w.heap.size,0,none⟩) n n)) (w.alloc (.cells us.toArray e)):=by
  rw[he];have:Instr.fill (fun i=>some (i*re.size,re.size)) ((Array.range (n*re.size)).map (z'.cells[· % z'.cells.size]!)) (ps.toList.map fun p=>(p.1,a.eval p.2))=some us.toArray:=by
   rw[←hu1]
  simp only[Instr.buildSlice,Sem.run_bind,run_underlying hf.und,Result.andThen_ok,ZE hf',if_neg h24,Sem.run_pure,if_neg h0,Yl hf',hm,this];simp[newRow,newObj,Sem.run]
 obtain⟨d1,d2,d3⟩:=hr.dom l j hl hH;have hF0:∀o,E.F w.heap.size o=none:=fun o=>by
  cases hq:E.F w.heap.size o with
  |none=>rfl
  |some u=>exact absurd (hr.ZcB hq) (QY _)
 have hle:E.le m (E.Zx l j n (.slice (some ⟨w.heap.size,0,none⟩) n n) w.heap.size []):=by
  refine⟨fun b o v hf=>?_,fun _ _ _ _ hm=>hm,fun l' k' i u _ hi=>?_,rfl⟩
  ·simp only[Env.Zx];by_cases hb:b=w.heap.size
   ·subst hb;rw[hF0 o]at hf;cases hf
   ·rw[if_neg hb];exact hf
  ·simp only[Env.Zx];rw[if_neg (fun hc=>by rw[hc.1,hc.2.1,hc.2.2,d3]at hi;cases hi)];exact hi
 have hnew:(w.alloc (.cells us.toArray e)).heap[w.heap.size]? =some (.cells us.toArray e (0,0)):=by simp only[World.alloc,Array.getElem?_push_size]
 obtain⟨hh,hxx⟩:=hr.ZfJ (n:=n) (v:=.slice (some ⟨w.heap.size,0,none⟩) n n) (nb:=.Zg e re.size (flat (ps.toList.map fun p=>ρ p.2)) n) (g':=w.heap.size) (w':=w.alloc (.cells us.toArray e)) hl d1 (d3 n) rfl [] rfl rfl rfl (fun _=>Qg _)
  (by simp only[World.alloc,Array.size_push];omega) (fun b hb _=>by simp only[World.alloc,MI];rw[if_neg om]) (.inr (Qg _)) (by simp only[World.alloc,Array.size_push];omega) (fun o u hu=>by simp at hu) (fun o u hu=>by rw[hF0 o]at hu;cases hu)
  ⟨⟨by rw[hflen,hlen],_,by simp[Env.Zx],fun i hi=>by simp only[Env.Zx];rw[if_neg (fun h=>by omega)];exact d3 i,.inr ⟨w.heap.size,n,us.toArray,rfl,by simp[Env.Zx],hnew,Qg _,hml,by simp[hul],fun o=>by simp[Env.Zx],by
   have:us.toArray.toList.take (n*re.size)=us:=by rw[Q9 (by simp[hul])]
   rw[this];exact hu2.mono hr.norm hle⟩⟩,d1⟩
 exact⟨_,_,_,.inl hrun,.msl re.size l j _ w.heap.size n (by simp[Env.Zx]),hh,hxx⟩
end
def zeroV(r:Zu):AV:=if r.isAgg then .agg r.zero else r.zero.getD 0 .dead
section
variable {P:Program}
def Zee(w:World)(t tx ty e:TypeId)(i:TypeInfo)(z:Value)(ht:P.underlying t=some (.slice e))(hx:P.underlying tx=some (.int .i64))(hi:P.info? e=some i)(hz:i.zero=some z)
  (g sLen sCap:Nat) (cur:Array Value) (hg:w.heap[g]? =some (.cells cur e (0,0))) (m:Nat) (hm0:0<m) (hs0:0<i.size) (hm:(m:Int)≤9223372036854775807) (h48:(m:Int)*i.bytes≤281474976710656) (news:List Value) (hn:news=(Builtin.zeroCells z.cells m).toList)
  (h1:∀u∈news,u.oneCell'=true) (hroom:sLen+m≤sCap) (hfit:sLen*i.size+news.length≤cur.size):
  (Builtin.append_ #[t,tx] ty #[.slice (some ⟨g,0,none⟩) sLen sCap,.int .i64 m]).run P w=
   .ok (.slice (some ⟨g,0,none⟩) (sLen+m) sCap) (w.setRow g (cur.toList.take (sLen*i.size)++news++cur.toList.drop (sLen*i.size+news.length)).toArray):=by
 have hst:=run_storeCells_at P g (sLen*i.size) e news 0 cur w hg (by simpa using hfit) h1;simp only[UF]at hst;have hw:IntKind.i64.wrap (m:Int)=m:=IntWalk.i64_in _ om;have hl0:¬((m:Int)<0):=om;have hb:¬(281474976710656<(m:Int)*i.bytes):=om;have hms:¬(m*i.size=0):=QbM (Nat.mul_pos hm0 hs0);subst hn;simp only[Builtin.append_,run_underlying ht,run_underlying hx,asInt,asIntOf,sizeOf,typeInfo,zeroValue,hi,hz,hw,hl0,hb,hroom,hms,Addr.add_lit,hst,Sem.run_bind,Sem.run_pure,Result.andThen_ok,if_true,if_false];simp[hi,hz,hw,hl0,hb,hroom,Addr.add_lit,run_underlying ht,run_underlying hx,typeInfo];rw[if_neg (by simpa[Nat.mul_eq_zero]using hms)];rw[hst];simp
def VD(w:World)(t tx ty e:TypeId)(i:TypeInfo)(z:Value)(ht:P.underlying t=some (.slice e))(hx:P.underlying tx=some (.int .i64))(hi:P.info? e=some i)(hz:i.zero=some z)
  (base:Option Addr) (sLen sCap:Nat) (olds:List Value) (hold:(Builtin.firstCells i.size sLen (.slice base sLen sCap)).run P w.drew= .ok olds.toArray w.drew)
  (m:Nat) (hm0:0<m) (hs0:0<i.size) (hm:(m:Int)≤9223372036854775807) (h48:(m:Int)*i.bytes≤281474976710656) (news:List Value) (hn:news=(Builtin.zeroCells z.cells m).toList)
  (hg:sCap<sLen+m) (h63:((sLen+m:Nat):Int)≤9223372036854775807) (hfit:Builtin.nextslicecap (sLen+m) sCap*i.bytes≤281474976710656):
  (Builtin.append_ #[t,tx] ty #[.slice base sLen sCap,.int .i64 m]).run P w=
   .ok (.slice (some ⟨w.heap.size,0,none⟩) (sLen+m) (grownCap w (sLen+m) sCap e))
    (w.drew.alloc (.cells ((olds++news).toArray++Builtin.zeroCells z.cells (grownCap w (sLen+m) sCap e - (sLen+m))) e)):=by
 have hw:IntKind.i64.wrap (m:Int)=m:=IntWalk.i64_in _ om;have hl0:¬((m:Int)<0):=om;have hb:¬(281474976710656<(m:Int)*i.bytes):=om;have hms:¬(m*i.size=0):=QbM (Nat.mul_pos hm0 hs0);have hms':¬(m=0∨i.size=0):=om;have hnn:¬(sLen+m≤sCap):=om;have h63':¬(9223372036854775807<((sLen:Int)+(m:Int))):=om;have h48':¬(281474976710656<Builtin.nextslicecap (sLen+m) sCap*i.bytes):=om;subst hn;simp[Builtin.append_,run_underlying ht,run_underlying hx,asInt,asIntOf,sizeOf,typeInfo,zeroValue,hi,hz,hw,hl0,hb,hnn,hms',h63',h48',Question.forced,hold,newRow,grownCap];rw[if_neg hms];congr 3
 apply QaD;simp[Uc]
def ZgK(z:Array Value)(n:Nat)(h:0<z.size):(Builtin.zeroCells z (n+1)).toList=z.toList++(Builtin.zeroCells z n).toList:=by
 apply Gh
 ·simp[Builtin.zeroCells,Ui];omega
 intro i h1 h2;simp only[Builtin.zeroCells,Gg,Array.toList_range,QN,MZ,List.getElem_append,Uj];split
 ·rename_i hi;rw[Qav hi];simp[hi]
 ·rename_i hi;rw[Qba om]
def Zcx(v:AV)(n:Nat):flat (List.replicate (n+1) v)=v.cells++flat (List.replicate n v):=by rw[List.replicate_succ,Yw]
def ZbD{E:Env}{v:AV}{z:Array Value}(h:VRs E v.cells z.toList)(hz:0<z.size):∀n,VRs E (flat (List.replicate n v)) (Builtin.zeroCells z n).toList
 |0=>by simp[Builtin.zeroCells,flat];exact VRs.nil E
 |n+1=>by rw[Zcx,ZgK z n hz];exact h.append (ZbD h hz n)
def Zfq{T:TT}(hT:TOK P T){w:World}{t tx ty e:TypeId}{r re rx:Zu}(h1:T t=some r)(h2:r.td= .slice e)(h3:T e=some re)(h4:T tx=some rx)(h5:rx.td= .int .i64)(hsz:0<re.size){n c:Nat}{xv:Value}{cs1:List Value}
  (hcur:Zpg w e re.size n xv cs1) (hc:0<c) (hml:n+c≤maxLen) (hby:(n+c)*re.bytes≤140737488355328) (z:Value) (hz:∀d i z',Jb P e re d i z'→z'=z) (hone:∀u∈(Builtin.zeroCells z.cells c).toList,u.oneCell'=true):
  ∃g' cap cur w',(Builtin.append_ #[t,tx] ty #[xv,.int .i64 c]).run P w= .ok (.slice (some ⟨g',0,none⟩) (n+c) cap) w'∧w'.os=w.os∧w'.tape=w.tape∧w'.output=w.output∧w.drawn≤w'.drawn∧w.heap.size≤w'.heap.size∧
   (∀b,b<w.heap.size→b≠g'→w'.heap[b]? =w.heap[b]?)∧((∃cap0,xv= .slice (some ⟨g',0,none⟩) n cap0∧0<cap0)∨w.heap.size≤g')∧w'.heap[g']? =some (.cells cur e (0,0))∧n+c≤cap∧cap≤maxLen∧cur.size=cap*re.size∧
   cs1++(Builtin.zeroCells z.cells c).toList=cur.toList.take ((n+c)*re.size):=by
 obtain⟨d,inf,z0,hf⟩:=Zd (hT t r h1);obtain⟨d',i',z',hf'⟩:=Zd (hT e re h3);obtain⟨dx,ix,zx,hfx⟩:=Zd (hT tx rx h4);obtain rfl:=hz _ _ _ hf';have hd:=ZJ (h2▸hf.fits);subst hd;have hdx:=ZaC (h5▸hfx.fits);subst hdx;have hu:P.underlying t=some (.slice e):=hf.und;have hux:P.underlying tx=some (.int .i64):=hfx.und;have hmx:n+c≤9223372036854775807:=by unfold maxLen at hml;omega
 have hs0:0<i'.size:=by rw[hf'.size];exact hsz
 have hcb:(c:Int)*i'.bytes≤281474976710656:=by
  have:c*re.bytes≤(n+c)*re.bytes:=QF _ om;rw[hf'.bytes];have h:((c*re.bytes:Nat):Int)≤140737488355328:=om;rw[Qal]at h;omega
 have hl2:(Builtin.zeroCells z'.cells c).toList.length=c*re.size:=by rw[Uj,size_zeroCells,hf'.zsize]
 generalize hcs2:(Builtin.zeroCells z'.cells c).toList=cs2 at*;rcases hcur with⟨rfl,rfl,ad,rfl⟩|⟨g,cap,cur,rfl,q3,q4,q5,q6,q7⟩
 ·simp only[QK]at hmx hml hby⊢;have hge:=grownCap_ge w c 0 e;have hb48:Builtin.nextslicecap (0+c) 0*i'.bytes≤281474976710656:=growslice_fits om (by rw[hf'.bytes,QK];exact hby);have hr1:=VD (P:=P) w t tx ty e i' z' hu hux hf'.info hf'.zero ad 0 0 [] (by cases ad<;>simp[Builtin.firstCells,loadCells,loadCellsFrom]) c hc hs0 om hcb cs2 hcs2.symm om om hb48;simp only[QK,Q5]at hr1;refine⟨w.heap.size,grownCap w c 0 e,cs2.toArray++Builtin.zeroCells z'.cells (grownCap w c 0 e - c),w.drew.alloc (.cells (cs2.toArray++Builtin.zeroCells z'.cells (grownCap w c 0 e - c)) e),hr1,rfl,rfl,rfl,Ul _,sm,fun b hb _=>heap_alloc_old w.drew _ hb,.inr (Qg _),heap_alloc_new w.drew _,hge,grownCap_le_maxLen w _ _ _ hml,?_,?_⟩
  ·simp only[G8,MK,size_zeroCells,hl2,hf'.zsize,←Nat.add_mul];congr 1;omega
  ·simp only[Q5,GU];rw[←hl2];simp
 ·have hle:n*re.size≤cap*re.size:=QF _ q4;have hl1:cs1.length=n*re.size:=by rw[←q7,QM];simp;omega
  have hn1:∀j v,cs1[j]? =some v→w.cell? ((⟨g,0,none⟩:Addr).add j)=some v:=fun j v hj=>by
   rw[ZK];simp only[World.cell?,q3,QK];rw[←q7]at hj;rcases Qe j (n*re.size)with h|h
   ·rw[QZ h]at hj;simpa using hj
   ·rw[UY,if_neg om]at hj;cases hj
  have hglt:g<w.heap.size:=(QX.1 q3).1;by_cases hroom:n+c≤cap
  ·have hfit:n*i'.size+cs2.length≤cur.size:=by rw[hl2,q6,hf'.size,←Ui];exact QF _ hroom
   have hr1:=Zee (P:=P) w t tx ty e i' z' hu hux hf'.info hf'.zero g n cap cur q3 c hc hs0 om hcb cs2 hcs2.symm hone hroom hfit;rw[hf'.size]at hr1 hfit;refine⟨g,cap,_,_,hr1,rfl,rfl,rfl,Qg _,by simp[World.setRow],fun b _ hb=>setRow_other w g b _ hb,.inl ⟨cap,rfl,om⟩,setRow_heap w g cur _ e (0,0) q3,hroom,q5,?_,?_⟩
   ·simp only[MK,Qh,QM,QU,Uj];rw[←q6];omega
   ·rw[MG,q7];rw[show(n+c)*re.size=(cs1++cs2).length by rw[Qh,hl1,hl2,Ui],GX]
  ·have hb48:Builtin.nextslicecap (n+c) cap*i'.bytes≤281474976710656:=growslice_fits om (by rw[hf'.bytes];exact hby);have hge:=grownCap_ge w (n+c) cap e;have hfo:=run_firstCells_some (P:=P) w.drew i'.size n ⟨g,0,none⟩ n cap cs1 (by rw[hf'.size];exact hl1) (by simpa using hn1);have hr1:=VD (P:=P) w t tx ty e i' z' hu hux hf'.info hf'.zero (some ⟨g,0,none⟩) n cap cs1 hfo c hc hs0 om hcb cs2 hcs2.symm om om hb48;refine⟨w.heap.size,grownCap w (n+c) cap e,(cs1++cs2).toArray++Builtin.zeroCells z'.cells (grownCap w (n+c) cap e - (n+c)),w.drew.alloc (.cells ((cs1++cs2).toArray++Builtin.zeroCells z'.cells (grownCap w (n+c) cap e - (n+c))) e),hr1,rfl,rfl,rfl,Ul _,sm,fun b hb _=>heap_alloc_old w.drew _ hb,.inr (Qg _),heap_alloc_new w.drew _,hge,grownCap_le_maxLen w _ _ _ hml,?_,?_⟩
   ·simp only[G8,MK,size_zeroCells,hl1,hl2,hf'.zsize,←Nat.add_mul,Qh];congr 1;omega
   ·simp only[GU,MG];rw[show(n+c)*re.size=(cs1++cs2).length by rw[Qh,hl1,hl2,Ui],GX]
end
section ops
variable {P:Program} {T:TT} {o:Oper} {ρ:Operand→AV}
def Zge{m:Nat}{H:Za}{t tx:TypeId}{x y:Operand}{r re rx:Zu}{e:TypeId}{k l j c:Nat}{xs:List AV}(hT:TOK P T)
  (ho:o.op= .call {callee:=.builtin .append,args:=#[x,y],argTypes:=#[t,tx]}) (h1:T t=some r) (h2:r.td= .slice e) (h3:T e=some re) (h4:T tx=some rx) (h5:rx.td= .int .i64) (hsz:0<re.size)
  (hx:ρ x= .sl k xs (.buf l j)) (hy:ρ y= .int .i64 c) (hl:l<m) (hH:H l j=some (.buf e re.size xs.length)) (hk:k=re.size) (hzc:(zeroV re).cells=re.zero)
  (hml:xs.length+c≤maxLen) (hby:(xs.length+c)*re.bytes≤140737488355328):
  Yv P m o ρ H (.sl k (xs++List.replicate c (zeroV re)) (.buf l j)) (H.upd l j (.buf e re.size (xs.length+c))):=fun E w a hr hops=>by
 have hxv:=hops x sC;have hyv:=hops y sC;rw[hx]at hxv;rw[hy]at hyv;have hyv:a.eval y= .int .i64 c:=by
  generalize a.eval y=q at hyv;cases hyv;rfl
 obtain⟨d',i',z',hf'⟩:=Zd (hT e re h3);rcases Gf c with rfl|hc
 ·refine⟨a.eval x,E,w,.inl (Xu ho ?_),by simpa using hxv,by rw[UF,Yd hH];exact hr,.refl m E w⟩;rw[hyv];obtain⟨d,inf,z0,hf⟩:=Zd (hT t r h1);obtain⟨dx,ix,zx,hfx⟩:=Zd (hT tx rx h4);have hd:=ZJ (h2▸hf.fits);subst hd;have hdx:=ZaC (h5▸hfx.fits);subst hdx;have hu:P.underlying t=some (.slice e):=hf.und;have hux:P.underlying tx=some (.int .i64):=hfx.und;have hw0:IntKind.i64.wrap 0=0:=rfl;rcases hxv.Vr with⟨⟨ad,e1,_⟩,_,_⟩|⟨b,off,cap,cs,e1,_,_,_,hcc,_,_⟩<;>rw[e1]
  ·cases ad<;>simp[Builtin.append_,run_underlying hu,run_underlying hux,asInt,asIntOf,sizeOf,typeInfo,hf'.info,storeCells,hw0]
  ·simp[Builtin.append_,run_underlying hu,run_underlying hux,asInt,asIntOf,sizeOf,typeInfo,hf'.info,storeCells,hw0,hcc]
 ·have hv0:VRs E (zeroV re).cells z'.cells.toList:=by rw[hzc];exact Xv hf'.zfits
  have hvz:=ZbD hv0 (by rw[hf'.zsize];exact hsz) c;have hcl:(zeroV re).cells.length=re.size:=by rw[hv0.1.symm,Uj,hf'.zsize]
  have hone:∀u∈(Builtin.zeroCells z'.cells c).toList,u.oneCell'=true:=fun u hu=>by
   obtain⟨i,hi,rfl⟩:=QJ hu;have hi':i<(flat (List.replicate c (zeroV re))).length:=by rw[←hvz.1];exact hi
   refine(hvz.2 i hi' hi).one ?_;have hmem:(flat (List.replicate c (zeroV re)))[i]∈flat (List.replicate c (zeroV re)):=Qa hi';simp only[flat,Qx]at hmem;obtain⟨y',hy',hc'⟩:=hmem;rw[(Uk.1 hy').2,hzc]at hc';exact fitsAll_one hf'.zfits _ hc'
  have hlr:(List.replicate c (zeroV re)).length=c:=G5;obtain⟨cv,E',w',a1,a2,a3,a4⟩:=Ze0 (P:=P) (S:=Builtin.append_ #[t,tx] o.type #[a.eval x,.int .i64 c]) (ys:=List.replicate c (zeroV re)) hr hxv hl hH hk (fun y hy=>by rw[(Uk.1 hy).2];exact hcl) hvz (by rw[hlr];exact hc) (by rw[hlr];exact hml)
   (fun cs1 hcur=>by
    rw[hlr];exact Zfq hT h1 h2 h3 h4 h5 hsz hcur hc hml hby z' (fun d1 i1 z1 hf1=>by have e1:=hf1.info.symm.trans hf'.info;cases e1;have e2:=hf1.zero.symm.trans hf'.zero;cases e2;rfl) hone)
  rw[hlr]at a3;exact⟨cv,E',w',.inl (Xu ho (by rw[hyv];exact a1)),a2,a3,a4⟩
end ops
section
variable {P:Program}
theorem Zt.Zqx{m:Nat}{H:Za}{E:Env}{w w':World}(hr:Zt m H E w){l j n cap e sz:Nat}{cs:List AV}{cur:Array Value}(hl:l<m)(hH:H l j=none)(os:w'.os=w.os)(tape:w'.tape=w.tape)(output:w'.output=w.output)
  (drawn:w.drawn≤w'.drawn) (size:w'.heap.size=w.heap.size+1) (hold:∀b,b<w.heap.size→w'.heap[b]? =w.heap[b]?) (hnew:w'.heap[w.heap.size]? =some (.cells cur e (0,0))) (h1:n≤cap) (h2:cap≤maxLen) (h3:cur.size=cap*sz)
  (h4:cs.length=n*sz) (h5:VRs E cs (cur.toList.take (n*sz))):
  ∃E',VR E' (.msl sz l j n) (.slice (some ⟨w.heap.size,0,none⟩) n cap)∧Zt m (H.upd l j (.Zg e sz cs n)) E' w'∧Ext m E w E' w':=by
 obtain⟨d1,d2,d3⟩:=hr.dom l j hl hH;have hF0:∀o,E.F w.heap.size o=none:=fun o=>by
  cases hq:E.F w.heap.size o with
  |none=>rfl
  |some u=>exact absurd (hr.ZcB hq) (QY _)
 have hle:E.le m (E.Zx l j n (.slice (some ⟨w.heap.size,0,none⟩) n cap) w.heap.size []):=by
  refine⟨fun b o v hf=>?_,fun _ _ _ _ hm=>hm,fun l' k' i u _ hi=>?_,rfl⟩
  ·simp only[Env.Zx];by_cases hb:b=w.heap.size
   ·subst hb;rw[hF0 o]at hf;cases hf
   ·rw[if_neg hb];exact hf
  ·simp only[Env.Zx];rw[if_neg (fun hc=>by rw[hc.1,hc.2.1,hc.2.2,d3]at hi;cases hi)];exact hi
 obtain⟨hh,hxx⟩:=hr.ZfJ (n:=n) (v:=.slice (some ⟨w.heap.size,0,none⟩) n cap) (nb:=.Zg e sz cs n) (g':=w.heap.size) (w':=w') hl d1 (d3 n) rfl [] os tape output (fun _=>drawn) om (fun b hb _=>hold b hb) (.inr (Qg _)) om (fun o u hu=>by simp at hu) (fun o u hu=>by rw[hF0 o]at hu;cases hu)
  ⟨⟨h4,_,by simp[Env.Zx],fun i hi=>by simp only[Env.Zx];rw[if_neg (fun h=>by omega)];exact d3 i,.inr ⟨w.heap.size,cap,cur,rfl,by simp[Env.Zx],hnew,h1,h2,h3,fun o=>by simp[Env.Zx],h5.mono hr.norm hle⟩⟩,d1⟩
 exact⟨_,.msl sz l j _ w.heap.size cap (by simp[Env.Zx]),hh,hxx⟩
def run_makeSlice(w:World){t e:TypeId}{i:TypeInfo}{z:Value}(ht:P.underlying t=some (.slice e))(hi:P.info? e=some i)(hz:i.zero=some z)(l c:Nat)(hlc:l≤c)(hs0:0<i.size)(hc:(c:Int)≤9223372036854775807)
  (hb:(i.bytes:Int)*c≤140737488355328) (k k':IntKind):
  (Instr.makeSlice t (.int k l) (.int k' c)).run P w= .ok (.slice (some ⟨w.heap.size,0,none⟩) l c) (w.alloc (.cells ((Array.range (c*i.size)).map (z.cells[· % z.cells.size]!)) e)):=by
 have hw:IntKind.i64.wrap (c:Int)=c:=IntWalk.i64_in _ om;have hwl:IntKind.i64.wrap (l:Int)=l:=IntWalk.i64_in _ om;have h1:¬((c:Int)<0):=om;have h2:¬((l:Int)<0):=om;have h3:¬((c:Int)<(l:Int)):=om;have h4:¬(281474976710656<(i.bytes:Int)*c):=om;have h5:¬(140737488355328<c*i.bytes):=by
  have:((c*i.bytes:Nat):Int)=(i.bytes:Int)*c:=by rw[Qal,Int.mul_comm]
  omega
 rcases Gf c with rfl|hc0
 ·have hl0:l=0:=om;subst hl0;have hw0:IntKind.i64.wrap 0=0:=rfl;simp[hw0,Instr.makeSlice,run_underlying ht,asInt,asIntOf,sizeOf,typeInfo,hi,hw,askRoom,roomBytes,newRow,show(Array.range 0)= #[] from rfl]
 have h6:¬(c=0∨i.size=0):=om;simp[Instr.makeSlice,run_underlying ht,asInt,asIntOf,sizeOf,typeInfo,zeroValue,hi,hz,hw,hwl,h1,h2,h3,h4,h5,h6,askRoom,roomBytes,newRow];exact fun h=>absurd (Nat.mul_eq_zero.1 h) h6
variable {T:TT} {o:Oper} {ρ:Operand→AV}
def ZiN{m:Nat}{H:Za}{t:TypeId}{x y:Operand}{r re:Zu}{e l c:Nat}{k k':IntKind}{q j:Nat}(hT:TOK P T)(ho:o.op= .makeSlice t x y)(h1:T t=some r)(h2:r.td= .slice e)(h3:T e=some re)(hsz:0<re.size)
  (hx:ρ x= .int k l) (hy:ρ y= .int k' c) (hlc:l≤c) (hzc:(zeroV re).cells=re.zero) (hml:c≤maxLen) (hby:c*re.bytes≤140737488355328) (hq:q<m) (hH:H q j=none):
  Yv P m o ρ H (.msl re.size q j l) (H.upd q j (.Zg e re.size (flat (List.replicate l (zeroV re))) l)):=fun E w a hr hops=>by
 have hxv:=hops x sO;have hyv:=hops y sO;rw[hx]at hxv;rw[hy]at hyv;have hxv:a.eval x= .int k l:=by
  generalize a.eval x=q at hxv;cases hxv;rfl
 have hyv:a.eval y= .int k' c:=by
  generalize a.eval y=q at hyv;cases hyv;rfl
 obtain⟨d,inf,z0,hf⟩:=Zd (hT t r h1);obtain⟨d',i',z',hf'⟩:=Zd (hT e re h3);have hd:=ZJ (h2▸hf.fits);subst hd;have hv0:VRs E (zeroV re).cells z'.cells.toList:=by rw[hzc];exact Xv hf'.zfits
 have hvz:=ZbD hv0 (by rw[hf'.zsize];exact hsz) l;have hcl:(zeroV re).cells.length=re.size:=by rw[hv0.1.symm,Uj,hf'.zsize]
 have hmx:c≤9223372036854775807:=by unfold maxLen at hml;omega
 have hrun:=run_makeSlice (P:=P) w hf.und hf'.info hf'.zero l c hlc (by rw[hf'.size];exact hsz) om (by
  rw[hf'.bytes];have:((c*re.bytes:Nat):Int)=(re.bytes:Int)*c:=by rw[Qal,Int.mul_comm]
  omega) k k'
 obtain⟨cur,hcur⟩:∃cur,cur=(Array.range (c*i'.size)).map (z'.cells[· % z'.cells.size]!):=⟨_,rfl⟩
 rw[←hcur]at hrun;have hcur2:cur=Builtin.zeroCells z'.cells c:=by
  rw[hcur,Builtin.zeroCells,hf'.size,hf'.zsize]
 have hcs:cur.size=c*re.size:=by rw[hcur2,size_zeroCells,hf'.zsize]
 have htake:cur.toList.take (l*re.size)=(Builtin.zeroCells z'.cells l).toList:=by
  rw[hcur2];apply Gh
  ·simp only[QM,Uj,size_zeroCells,hf'.zsize];exact Qa0 (QF _ hlc)
  intro i g1 g2;simp[Builtin.zeroCells]
 obtain⟨E',a1,a2,a3⟩:=hr.Zqx (w':=w.alloc (.cells cur e)) (n:=l) (cap:=c) (e:=e) (sz:=re.size) (cs:=flat (List.replicate l (zeroV re))) (cur:=cur) hq hH rfl rfl rfl (Qg _) sm
  (fun b hb=>heap_alloc_old w _ hb) (heap_alloc_new w _) hlc hml hcs (by rw[flat_length (k:=re.size) (fun x hx=>by rw[(Uk.1 hx).2];exact hcl),G5]) (by rw[htake];exact hvz)
 refine⟨_,E',_,.inl ?_,a1,a2,a3⟩;have he:execOp a.eval o=(do let v←Instr.makeSlice t (a.eval x) (a.eval y);pure (Next.value v)):=by simp only[execOp,ho]
 rw[he,hxv,hyv];simp only[Sem.run_bind,hrun,Result.andThen_ok,Sem.run_pure]
def Zdk{m:Nat}{H:Za}{t:TypeId}{x:Operand}{hi:Option Operand}{r re:Zu}{e e':TypeId}{sz sz' q j n:Nat}{h:Int}{cs:List AV}(hT:TOK P T)(ho:o.op= .slice t x none hi none)(h1:T t=some r)(h2:r.td= .slice e)
  (h2':T e=some re) (hv:ρ x= .msl sz q j n) (hH:H q j=some (.Zg e' sz' cs n)) (hh:bnd ρ hi n=some h) (h0:0≤h) (h3:h≤n) (hn:0<n):Yv P m o ρ H (.sub sz q j n 0 h.toNat) H:=fun E w a hr hops=>by
 have hx:=hops x sO;have hb:∀y,(none:Option Operand)=some y∨hi=some y→VR E (ρ y) (a.eval y):=fun y hy=>hops y (by rcases hy with hy|rfl<;>first|cases hy|simp[ho,Op.operands])
 rw[hv]at hx;have hq:q<m:=by
  have hbl:=hx.lvl hr.norm;cases hbl with|msl _ _ _ _ hb'=>exact hb'
 obtain⟨⟨_,v0,hv0,_,hr0⟩,_⟩:=hr.Zg q j e' sz' cs n hq hH;obtain⟨d,inf,z,hf⟩:=Zd (hT t r h1);obtain⟨d',i',z',hf'⟩:=Zd (hT e re h2');have hd:=ZJ (h2▸hf.fits);subst hd;have he:execOp a.eval o=(do let v←Instr.sliceAt t (a.eval x) none (hi.map a.eval) none;pure (Next.value v)):=by simp only[execOp,ho];rfl
 generalize hy:a.eval x=y at hx;cases hx with
 |mnil=>omega
 |msl _ _ _ _ g cap hh'=>
  have hcap:n≤cap:=by
   rcases hr0 with⟨ad,q1,q2,q3⟩|⟨g',cap',cur,q1,q2,q3,q4,_⟩
   ·omega
   ·rw[hv0,q1]at hh';simp only[Qp,Value.slice.injEq]at hh';omega
  have hrun:=WV (P:=P) (s:=true) (len:=n) (cap:=cap) (lo:=none) hb (l:=0) rfl hh (G6 0) h0 om w;have hvr:=VR.sub (E:=E) sz q j n 0 h.toNat g cap hh' om;simp only[GV,MW]at hvr;refine⟨_,E,w,.inl ?_,hvr,hr,.refl m E w⟩;rw[he,hy];simp only[QbA,Int.toNat_zero]at hrun;have h00:¬cap=0:=om;simp[Instr.sliceAt,Instr.slice,run_underlying hf.und,hrun,ZE hf',ZK,h00]
def Zgq{m:Nat}{H:Za}{t tx:TypeId}{x y:Operand}{r re rx:Zu}{e k c:Nat}{q j:Nat}(hT:TOK P T)(ho:o.op= .call {callee:=.builtin .append,args:=#[x,y],argTypes:=#[t,tx]})(h1:T t=some r)(h2:r.td= .slice e)(h3:T e=some re)
  (h4:T tx=some rx) (h5:rx.td= .int .i64) (hsz:0<re.size) (hx:ρ x= .sl k [] .full) (hy:ρ y= .int .i64 c) (hc0:0<c) (hzc:(zeroV re).cells=re.zero) (hml:c≤maxLen) (hby:c*re.bytes≤140737488355328) (hq:q<m) (hH:H q j=none):
  Yv P m o ρ H (.msl re.size q j c) (H.upd q j (.Zg e re.size (flat (List.replicate c (zeroV re))) c)):=fun E w a hr hops=>by
 have hxv:=hops x sC;have hyv:=hops y sC;rw[hx]at hxv;rw[hy]at hyv;have hyv:a.eval y= .int .i64 c:=by
  generalize a.eval y=q at hyv;cases hyv;rfl
 have hval:∃ad,a.eval x= .slice ad 0 0:=by
  generalize a.eval x=q at hxv;cases hxv with
  |slnil _ _ a ho ha=>exact⟨a,rfl⟩
  |sl _ _ _ b off cap c hk hc hv hcap hm ho=>
   have:cap=0:=ho;subst this;exact⟨_,rfl⟩
 obtain⟨ad,hval⟩:=hval;obtain⟨d,inf,z0,hf⟩:=Zd (hT t r h1);obtain⟨d',i',z',hf'⟩:=Zd (hT e re h3);obtain⟨dx,ix,zx,hfx⟩:=Zd (hT tx rx h4);have hd:=ZJ (h2▸hf.fits);subst hd;have hdx:=ZaC (h5▸hfx.fits);subst hdx;have hu:P.underlying t=some (.slice e):=hf.und;have hux:P.underlying tx=some (.int .i64):=hfx.und;have hv0:VRs E (zeroV re).cells z'.cells.toList:=by rw[hzc];exact Xv hf'.zfits
 have hvz:=ZbD hv0 (by rw[hf'.zsize];exact hsz) c;have hcl:(zeroV re).cells.length=re.size:=by rw[hv0.1.symm,Uj,hf'.zsize]
 have hmx:c≤9223372036854775807:=by unfold maxLen at hml;omega
 have hcb:(c:Int)*i'.bytes≤281474976710656:=by
  rw[hf'.bytes];have h:((c*re.bytes:Nat):Int)≤140737488355328:=om;rw[Qal]at h;omega
 have hb48:Builtin.nextslicecap (0+c) 0*i'.bytes≤281474976710656:=growslice_fits om (by rw[hf'.bytes,QK];exact hby);obtain⟨cs2,hcs2⟩:∃cs2,cs2=(Builtin.zeroCells z'.cells c).toList:=⟨_,rfl⟩
 have hl2:cs2.length=c*re.size:=by rw[hcs2,Uj,size_zeroCells,hf'.zsize]
 have hge:=grownCap_ge w c 0 e;have hr1:=VD (P:=P) w t tx o.type e i' z' hu hux hf'.info hf'.zero ad 0 0 [] (by cases ad<;>simp[Builtin.firstCells,loadCells,loadCellsFrom]) c hc0 (by rw[hf'.size];exact hsz) om hcb cs2 hcs2 om om hb48;simp only[QK,Q5]at hr1;obtain⟨E',a1,a2,a3⟩:=hr.Zqx (w':=w.drew.alloc (.cells (cs2.toArray++Builtin.zeroCells z'.cells (grownCap w c 0 e - c)) e)) (n:=c) (cap:=grownCap w c 0 e) (e:=e) (sz:=re.size) (cs:=flat (List.replicate c (zeroV re)))
  (cur:=cs2.toArray++Builtin.zeroCells z'.cells (grownCap w c 0 e - c)) hq hH rfl rfl rfl (Ul _) sm (fun b hb=>heap_alloc_old w.drew _ hb) (heap_alloc_new w.drew _) hge (grownCap_le_maxLen w _ _ _ hml)
  (by
   simp only[G8,MK,size_zeroCells,hl2,hf'.zsize,←Nat.add_mul];congr 1;omega)
  (by rw[flat_length (k:=re.size) (fun x hx=>by rw[(Uk.1 hx).2];exact hcl),G5])
  (by
   have:(cs2.toArray++Builtin.zeroCells z'.cells (grownCap w c 0 e - c)).toList.take (c*re.size)=cs2:=by
    rw[GU,MG,←hl2,Gv];rfl
   rw[this,hcs2];exact hvz)
 refine⟨_,E',_,.inl (Xu ho ?_),a1,a2,a3⟩;rw[hval,hyv];exact hr1
end
end Go.Abs
