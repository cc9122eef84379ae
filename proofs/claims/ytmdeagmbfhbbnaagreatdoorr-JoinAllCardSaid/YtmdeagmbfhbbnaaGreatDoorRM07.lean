/- Parts of slices that may be written: cut out, cleared, moved. No program, no condition. -/
import Derived.Test.YtmdeagmbfhbbnaaGreatDoorRM02
import Derived.Test.YtmdeagmbfhbbnaaGreatDoorRM06
import Derived.Test.YtmdeagmbfhbbnaaGreatDoorRM05
import Derived.Test.YtmdeagmbfhbbnaaGreatDoorRM03
set_option linter.all false
set_option maxRecDepth 100000
open Go.Proofs.Tryz
namespace Go.Abs
def Zt.ZnM{m:Nat}{H:Za}{E:Env}{w:World}(hr:Zt m H E w){l k n g cap e sz off:Nat}{cs vs:List AV}{us:List Value}(hh:E.hist l k n=some (.slice (some ⟨g,0,none⟩) n cap))(hH:H l k=some (.Zg e sz cs n))(hn:0<n)(hcv:VRs E vs us)(hl:off+vs.length≤cs.length)
  {c:Array Value} (q2:w.heap[g]? =some (.cells c e (0,0))):
  Zt m (H.upd l k (.Zg e sz (splice cs off vs) n)) E (w.setRow g (c.toList.take off++us++c.toList.drop (off+us.length)).toArray)∧Ext m E w E (w.setRow g (c.toList.take off++us++c.toList.drop (off+us.length)).toArray):=by
 obtain⟨c',q1,q2',q3,q4,q5,q6,q7,q8⟩:=hr.mrow hh hH hn;rw[q2']at q2;cases q2;have hus:us.length=vs.length:=hcv.1;have hlen:=q7.1;have hle:n*sz≤cap*sz:=QF _ q3;have hsl:(splice cs off vs).length=cs.length:=by simp only[splice,Qh,QM,QU];omega
 obtain⟨⟨_,v0,hv0,hj0,_⟩,hm0⟩:=hr.Zg l k e sz cs n (hr.norm.Xw hh) hH;rw[hh]at hv0;cases hv0;exact hr.turn (w':=w.setRow g (c.toList.take off++us++c.toList.drop (off+us.length)).toArray) (.inr q1) (.Zg e sz (splice cs off vs) n) (fun _=>rfl) rfl rfl rfl (fun _=>Qg _) (by simp[World.setRow])
  (fun b' hb'=>setRow_other w g b' _ hb') q6 ⟨⟨by rw[hsl,q8],_,hh,hj0,.inr ⟨g,cap,_,rfl,q1,setRow_heap w g c _ e (0,0) q2',q3,q4,by simp only[MK,Qh,QM,QU,Uj]at hus hlen hle⊢;omega,q6,by
   have e1:((c.toList.take off++us++c.toList.drop (off+us.length)).toArray.toList).take (n*sz)=(c.toList.take (n*sz)).take off++(us++(c.toList.take (n*sz)).drop (off+vs.length)):=by
    rw[MG,hus,Uc,Qat,Qat,QaJ,QaJ,Qa9];have h1:min off (n*sz)=off:=om;have h2:min (n*sz) off=off:=om;have h3:(c.toList.take off).length=off:=by rw[QM];simp;omega
    rw[h1,h2,h3,hus,Q9 (l:=us) om,show n*sz - off - vs.length=n*sz - (off+vs.length) by omega]
   rw[e1];unfold splice;exact(q7.take off).append (hcv.append (q7.drop _))⟩⟩,hm0⟩
section
variable {P:Program} {T:TT} {o:Oper} {ρ:Operand→AV}
def X3{m:Nat}{H:Za}{v:AV}{t:TypeId}{x:Operand}{lo hi:Option Operand}{r re:Zu}{e e':TypeId}{sz sz' q j n:Nat}{a h:Int}{cs:List AV}(hT:TOK P T)(ho:o.op= .slice t x lo hi none)(h1:T t=some r)(h2:r.td= .slice e)
  (h2':T e=some re) (hv:ρ x= .msl sz q j n) (hH:H q j=some (.Zg e' sz' cs n)) (hlo:bnd ρ lo 0=some a) (hh:bnd ρ hi n=some h) (ha:0≤a) (h0:a≤h) (h3:h≤n) (hn:0<n) (he:(if a<n then .sub re.size q j n a.toNat (h.toNat - a.toNat)else .sl re.size [] .any)=v):
  Yv P m o ρ H v H:=fun E w ac hr hops=>by
 subst he;have hx:=hops x sO;have hb:∀y,lo=some y∨hi=some y→VR E (ρ y) (ac.eval y):=fun y hy=>hops y (by rcases hy with rfl|rfl<;>simp[ho,Op.operands])
 rw[hv]at hx;have hq:q<m:=by
  have hbl:=hx.lvl hr.norm;cases hbl with|msl _ _ _ _ hb'=>exact hb'
 obtain⟨⟨_,v0,hv0,_,hr0⟩,_⟩:=hr.Zg q j e' sz' cs n hq hH;obtain⟨d,inf,z,hf⟩:=Zd (hT t r h1);obtain⟨d',i',z',hf'⟩:=Zd (hT e re h2');have hd:=ZJ (h2▸hf.fits);subst hd;have he:execOp ac.eval o=(do let v←Instr.sliceAt t (ac.eval x) (lo.map ac.eval) (hi.map ac.eval) none;pure (Next.value v)):=by simp only[execOp,ho];rfl
 generalize hy:ac.eval x=y at hx;cases hx with
 |mnil=>omega
 |msl _ _ _ _ g cap hh'=>
  have hcap:n≤cap:=by
   rcases hr0 with⟨ad,q1,q2,q3⟩|⟨g',cap',cur,q1,q2,q3,q4,_⟩
   ·omega
   ·rw[hv0,q1]at hh';simp only[Qp,Value.slice.injEq]at hh';omega
  have hrun:=WV (P:=P) (s:=true) (len:=n) (cap:=cap) hb hlo hh ha h0 om w;by_cases han:a<n
  ·have hvr:=VR.sub (E:=E) re.size q j n a.toNat (h.toNat - a.toNat) g cap hh' om;rw[if_pos han];refine⟨_,E,w,.inl ?_,hvr,hr,.refl m E w⟩;rw[he,hy];have h00:¬cap=a.toNat:=om;simp[Instr.sliceAt,Instr.slice,run_underlying hf.und,hrun,ZE hf',ZK,h00]
  ·have e1:h.toNat - a.toNat=0:=om;rw[if_neg han];refine⟨.slice (some (if cap=a.toNat then⟨g,0,none⟩else⟨g,a.toNat*re.size,none⟩)) 0 (cap - a.toNat),E,w,.inl ?_,?_,hr,.refl m E w⟩
   ·rw[he,hy];simp[Instr.sliceAt,Instr.slice,run_underlying hf.und,hrun,ZE hf',ZK,e1];split<;>rfl
   ·split
    ·exact VR.sl re.size [] .any g 0 (cap - a.toNat) (fun _ _=>undef) (fun i h=>absurd h (Qo _)) (fun i j h=>absurd h (Qo _)) (fun i h=>absurd h (Qo _)) (Uw _) (Uw _) trivial
    ·exact VR.sl re.size [] .any g (a.toNat*re.size) (cap - a.toNat) (fun _ _=>undef) (fun i h=>absurd h (Qo _)) (fun i j h=>absurd h (Qo _)) (fun i h=>absurd h (Qo _)) (Uw _) (Uw _) trivial
def Ziz{m:Nat}{H:Za}{v:AV}{t:TypeId}{x:Operand}{lo hi:Option Operand}{r re:Zu}{e e':TypeId}{sz sz' q j n off k:Nat}{a h:Int}{cs:List AV}(hT:TOK P T)(ho:o.op= .slice t x lo hi none)(h1:T t=some r)(h2:r.td= .slice e)
  (h2':T e=some re) (hv:ρ x= .sub sz q j n off k) (hsz:sz=re.size) (hH:H q j=some (.Zg e' sz' cs n)) (hlo:bnd ρ lo 0=some a) (hh:bnd ρ hi k=some h) (ha:0≤a) (h0:a≤h) (h3:off+h.toNat≤n) (hn:off+a.toNat<n) (hval:.sub re.size q j n (off+a.toNat) (h.toNat - a.toNat)=v):
  Yv P m o ρ H v H:=fun E w ac hr hops=>by
 subst hval;have hx:=hops x sO;have hb:∀y,lo=some y∨hi=some y→VR E (ρ y) (ac.eval y):=fun y hy=>hops y (by rcases hy with rfl|rfl<;>simp[ho,Op.operands])
 rw[hv]at hx;have hq:q<m:=by
  have hbl:=hx.lvl hr.norm;cases hbl with|sub _ _ _ _ _ _ hb'=>exact hb'
 obtain⟨⟨_,v0,hv0,_,hr0⟩,_⟩:=hr.Zg q j e' sz' cs n hq hH;obtain⟨d,inf,z,hf⟩:=Zd (hT t r h1);obtain⟨d',i',z',hf'⟩:=Zd (hT e re h2');have hd:=ZJ (h2▸hf.fits);subst hd;have he:execOp ac.eval o=(do let v←Instr.sliceAt t (ac.eval x) (lo.map ac.eval) (hi.map ac.eval) none;pure (Next.value v)):=by simp only[execOp,ho];rfl
 generalize hy:ac.eval x=y at hx;cases hx with
 |sub _ _ _ _ _ _ g cap hh' hm=>
  have hcap:n≤cap:=by
   rcases hr0 with⟨ad,q1,q2,q3⟩|⟨g',cap',cur,q1,q2,q3,q4,_⟩
   ·omega
   ·rw[hv0,q1]at hh';simp only[Qp,Value.slice.injEq]at hh';omega
  have hrun:=WV (P:=P) (s:=true) (len:=k) (cap:=cap - off) hb hlo hh ha h0 om w;have hvr:=VR.sub (E:=E) re.size q j n (off+a.toNat) (h.toNat - a.toNat) g cap hh' om;refine⟨_,E,w,.inl ?_,hvr,hr,.refl m E w⟩;rw[he,hy];have h00:¬cap - off=a.toNat:=om;have h01:cap - off - a.toNat=cap - (off+a.toNat):=om;subst hsz;simp[Instr.sliceAt,Instr.slice,run_underlying hf.und,hrun,ZE hf',ZK,h00,h01,Ui]
def Jq{m:Nat}{H:Za}{t:TypeId}{x:Operand}{r re:Zu}{e q j n off k sz:Nat}{cs D:List AV}(hT:TOK P T)(ho:o.op= .call {callee:=.builtin .clear,args:=#[x],argTypes:=#[t]})(h1:T t=some r)(h2:r.td= .slice e)
  (h2':T e=some re) (hs:sz=re.size) (hv:ρ x= .sub sz q j n off k) (hH:H q j=some (.Zg e sz cs n)) (hsz:0<sz) (hzc:(zeroV re).cells=re.zero) (hk:0<k) (hD:splice cs (off*sz) (flat (List.replicate k (zeroV re)))=D):
  Yv P m o ρ H (.tup []) (H.upd q j (.Zg e sz D n)):=fun E w ac hr hops=>by
 subst hs;subst hD;have hx:=hops x sC;rw[hv]at hx;obtain⟨d,inf,z,hf⟩:=Zd (hT t r h1);obtain⟨d',i',z',hf'⟩:=Zd (hT e re h2');have hd:=ZJ (h2▸hf.fits);subst hd;generalize hy:ac.eval x=y at hx;cases hx with
 |sub _ _ _ _ _ _ g cap hh hm=>
  have hn:0<n:=om;obtain⟨c,q1,q2,q3,q4,q5,q6,q7,q8⟩:=hr.mrow hh hH hn;have hv0:VRs E (zeroV re).cells z'.cells.toList:=by rw[hzc];exact Xv hf'.zfits
  have hvz:=ZbD hv0 (by rw[hf'.zsize];exact hsz) k;have hcl:(zeroV re).cells.length=re.size:=by rw[hv0.1.symm,Uj,hf'.zsize]
  have hfl:(flat (List.replicate k (zeroV re))).length=k*re.size:=by rw[flat_length (k:=re.size) (fun x hx=>by rw[(Uk.1 hx).2];exact hcl),G5]
  have hone:∀u∈(Builtin.zeroCells z'.cells k).toList,u.oneCell'=true:=fun u hu=>by
   obtain⟨i,hi,rfl⟩:=QJ hu;have hi':i<(flat (List.replicate k (zeroV re))).length:=by rw[←hvz.1];exact hi
   refine(hvz.2 i hi' hi).one ?_;have hmem:(flat (List.replicate k (zeroV re)))[i]∈flat (List.replicate k (zeroV re)):=Qa hi';simp only[flat,Qx]at hmem;obtain⟨y',hy',hc'⟩:=hmem;rw[(Uk.1 hy').2,hzc]at hc';exact fitsAll_one hf'.zfits _ hc'
  have hlen2:(Builtin.zeroCells z'.cells k).toList.length=k*re.size:=by rw[hvz.1,hfl]
  have hle:n*re.size≤cap*re.size:=QF _ q3;have hle2:off*re.size+k*re.size≤n*re.size:=by rw[←Ui];exact QF _ hm
  obtain⟨hh2,hx'⟩:=hr.ZnM hh hH hn hvz (off:=off*re.size) (by rw[hfl,q8];exact hle2) q2;have hst:=run_storeCells_at P g (off*re.size) e (Builtin.zeroCells z'.cells k).toList 0 c w q2 (by rw[hlen2];omega) hone;simp only[UF]at hst;refine⟨.tuple #[],E,_,.inl ?_,.tup [] [] rfl (fun i h=>absurd h (Qo _)),hh2,hx'⟩;cases k with
  |zero=>omega
  |succ k=>
   simp[execOp,ho,hy,resolve,invoke,builtin,Builtin.clear_,run_underlying hf.und,Yl hf',hst]
def ZgV{m:Nat}{H:Za}{t:TypeId}{x y:Operand}{r re:Zu}{e q j n i off k sz:Nat}{cs D:List AV}(hT:TOK P T)(ho:o.op= .call {callee:=.builtin .append,args:=#[x,y],argTypes:=#[t,t]})(h1:T t=some r)(h2:r.td= .slice e)
  (h2':T e=some re) (hs:sz=re.size) (hv:ρ x= .sub sz q j n 0 i) (hw:ρ y= .sub sz q j n off k) (hH:H q j=some (.Zg e sz cs n)) (hsz:0<sz) (hk:0<k) (hin:i+k≤n) (hone:∀a∈cs,a.one=true) (hD:splice cs (i*sz) ((cs.drop (off*sz)).take (k*sz))=D):
  Yv P m o ρ H (.sub sz q j n 0 (i+k)) (H.upd q j (.Zg e sz D n)):=fun E w ac hr hops=>by
 subst hs;subst hD;have hx:=hops x sC;have hy:=hops y sC;rw[hv]at hx;rw[hw]at hy;obtain⟨d,inf,z,hf⟩:=Zd (hT t r h1);obtain⟨d',i',z',hf'⟩:=Zd (hT e re h2');have hd:=ZJ (h2▸hf.fits);subst hd;generalize hxe:ac.eval x=xv at hx;generalize hye:ac.eval y=yv at hy;cases hx with
 |sub _ _ _ _ _ _ g cap hh hm=>
 cases hy with
 |sub _ _ _ _ _ _ g2 cap2 hhy hmy=>
  rw[hh]at hhy;simp only[Qp,Value.slice.injEq,Addr.mk.injEq]at hhy;obtain⟨⟨rfl,_,_⟩,_,rfl⟩:=hhy;have hn:0<n:=om;obtain⟨c,q1,q2,q3,q4,q5,q6,q7,q8⟩:=hr.mrow hh hH hn;have hle:n*re.size≤cap*re.size:=QF _ q3;have hle2:off*re.size+k*re.size≤n*re.size:=by rw[←Nat.add_mul];exact QF _ hmy
  have hle3:i*re.size+k*re.size≤n*re.size:=by rw[←Ui];exact QF _ hin
  have hcv:VRs E ((cs.drop (off*re.size)).take (k*re.size)) (((c.toList.take (n*re.size)).drop (off*re.size)).take (k*re.size)):=(q7.drop _).take _;have hvl:((cs.drop (off*re.size)).take (k*re.size)).length=k*re.size:=by simp only[QM,QU];omega
  have hul:(((c.toList.take (n*re.size)).drop (off*re.size)).take (k*re.size)).length=k*re.size:=by rw[hcv.1,hvl]
  have hnews:∀jj v,(((c.toList.take (n*re.size)).drop (off*re.size)).take (k*re.size))[jj]? =some v→w.cell? ((⟨g,off*re.size,none⟩:Addr).add jj)=some v:=fun jj v hj=>by
   have hjl:jj<k*re.size:=by rw[←hul];exact(Ub.1 hj).1
   rw[QZ hjl,UM,QZ om]at hj;rw[ZK];simp only[World.cell?,q2];simpa using hj
  have ho1:∀u∈((c.toList.take (n*re.size)).drop (off*re.size)).take (k*re.size),u.oneCell'=true:=fun u hu=>by
   obtain⟨ii,hi,rfl⟩:=QJ hu;have hi':ii<((cs.drop (off*re.size)).take (k*re.size)).length:=by rw[←hcv.1];exact hi
   exact(hcv.2 ii hi' hi).one (hone _ (MN (UC (Qa hi'))))
  obtain⟨hh2,hx'⟩:=hr.ZnM hh hH hn hcv (off:=i*re.size) (by rw[hvl,q8];exact hle3) q2;have hr1:=run_append_room (P:=P) w t o.type e i' hf.und hf'.info g i cap c q2 ⟨g,off*re.size,none⟩ k (cap - off) _ (by rw[hul,hf'.size]) hnews ho1 om (by rw[hul,hf'.size,q5];omega);rw[hf'.size]at hr1;have hvr:=VR.sub (E:=E) re.size q j n 0 (i+k) g cap hh om;simp only[GV,MW]at hvr;refine⟨_,E,_,.inl (Xu ho ?_),hvr,hh2,hx'⟩;rw[hxe,hye];simp only[GV,MW];exact hr1
def Zdb{m:Nat}{H:Za}{t:TypeId}{x y:Operand}{r re:Zu}{e e':TypeId}{sz sz' q j n off i k':Nat}{ow:Own}{cs:List AV}(hT:TOK P T)(ho:o.op= .call {callee:=.builtin .append,args:=#[x,y],argTypes:=#[t,t]})(h1:T t=some r)(h2:r.td= .slice e)
  (h2':T e=some re) (hv:ρ x= .sub sz q j n off i) (hw:ρ y= .sl k' [] ow) (hH:H q j=some (.Zg e' sz' cs n)) (hn:0<n):Yv P m o ρ H (.sub sz q j n off i) H:=fun E w ac hr hops=>by
 have hx:=hops x sC;have hy:=hops y sC;rw[hv]at hx;rw[hw]at hy;refine⟨ac.eval x,E,w,.inl (Xu ho ?_),hx,hr,.refl m E w⟩;generalize ac.eval x=xv at hx;cases hx with
 |sub _ _ _ _ _ _ g cap hh hm=>
  obtain⟨c,q1,q2,q3,_⟩:=hr.mrow hh hH hn;exact WT hT h1 h2 h2' rfl om hy
def ZiA{m:Nat}{H:Za}{t:TypeId}{x y0 y1 y2:Operand}{r re:Zu}{e e':TypeId}{sz sz' q j n:Nat}{a h b:Int}{k0 k1 k2:IntKind}{cs:List AV}(hT:TOK P T)(ho:o.op= .slice t x (some y0) (some y1) (some y2))(h1:T t=some r)(h2:r.td= .slice e)
  (h2':T e=some re) (hv:ρ x= .msl sz q j n) (hH:H q j=some (.Zg e' sz' cs n)) (hlo:ρ y0= .int k0 a) (hh:ρ y1= .int k1 h) (hmx:ρ y2= .int k2 b) (ha:0≤a) (h0:a≤h) (h3:h≤b) (h4:b≤n) (hn:0<n):
  Yv P m o ρ H .dead H:=fun E w ac hr hops=>by
 have hx:=hops x sO;have v0:=hops y0 sO;have v1:=hops y1 sO;have v2:=hops y2 sO;rw[hv]at hx;rw[hlo]at v0;rw[hh]at v1;rw[hmx]at v2;have hq:q<m:=by
  have hbl:=hx.lvl hr.norm;cases hbl with|msl _ _ _ _ hb'=>exact hb'
 obtain⟨⟨_,w0,hw0,_,hr0⟩,_⟩:=hr.Zg q j e' sz' cs n hq hH;obtain⟨d,inf,z,hf⟩:=Zd (hT t r h1);obtain⟨d',i',z',hf'⟩:=Zd (hT e re h2');have hd:=ZJ (h2▸hf.fits);subst hd;have he:execOp ac.eval o=(do let v←Instr.sliceAt t (ac.eval x) (some (ac.eval y0)) (some (ac.eval y1)) (some (ac.eval y2));pure (Next.value v)):=by simp only[execOp,ho];rfl
 generalize hy:ac.eval x=y at hx;generalize hy0:ac.eval y0=u0 at v0;generalize hy1:ac.eval y1=u1 at v1;generalize hy2:ac.eval y2=u2 at v2;cases v0;cases v1;cases v2;cases hx with
 |mnil=>omega
 |msl _ _ _ _ g cap hh'=>
  have hcap:n≤cap:=by
   rcases hr0 with⟨ad,q1,q2,q3⟩|⟨g',cap',cur,q1,q2,q3,q4,_⟩
   ·omega
   ·rw[hw0,q1]at hh';simp only[Qp,Value.slice.injEq]at hh';omega
  have c1:0≤b∧b≤(cap:Int):=om;have c2:0≤h∧h≤(b.toNat:Int):=om;have c3:0≤a∧a≤(h.toNat:Int):=om;have e3:¬(h:Int)<0:=om;refine⟨.slice (if b.toNat=a.toNat then some ⟨g,0,none⟩else some (Addr.add ⟨g,0,none⟩ (a.toNat*re.size))) (h.toNat - a.toNat) (b.toNat - a.toNat),E,w,.inl ?_,.dead _,hr,.refl m E w⟩;rw[he,hy,hy0,hy1,hy2];simp[Instr.sliceAt,Instr.slice,Instr.sliceBounds,Instr.sliceBound,asIntOf,run_underlying hf.und,ZE hf',c1,c2,c3,show max h 0=h by omega,show max b 0=b by omega,show h≤b by omega,show a≤h by omega]
end
section
variable {P:Program} {T:TT} {o:Oper} {ρ:Operand→AV}
def Zhp{m:Nat}{H:Za}{t:TypeId}{x y:Operand}{r re:Zu}{e k q j n sz:Nat}{ys:List AV}(hT:TOK P T)
  (ho:o.op= .call {callee:=.builtin .append,args:=#[x,y],argTypes:=#[t,t]}) (h1:T t=some r) (h2:r.td= .slice e) (h3:T e=some re) (hs:sz=re.size) (hsz:0<sz)
  (hx:ρ x= .sl k [] .full) (hy:ρ y= .msl sz q j n) (hH:H q j=some (.Zg e sz (flat ys) n)) (hk:∀y∈ys,y.cells.length=sz) (hn:ys.length=n) (h0:0<n) (hml:n≤maxLen) (hby:n*re.bytes≤140737488355328):
  Yv P m o ρ H (.sl sz ys .any) H:=fun E w a hr hops=>by
 subst hs;obtain⟨d,inf,z,hf⟩:=Zd (hT t r h1);obtain⟨d',i',z',hf'⟩:=Zd (hT e re h3);have hd:=ZJ (h2▸hf.fits);subst hd;have hxv:=hops x sC;have hyv:=hops y sC;rw[hx]at hxv;rw[hy]at hyv;have he:∀w',(execOp a.eval o).run P w'=((Builtin.append_ #[t,t] o.type #[a.eval x,a.eval y]).run P w').andThen fun v w''=>.ok (.value v) w'':=fun w'=>by
  simp[execOp,ho,resolve,invoke,builtin]
 have hu:P.underlying t=some (.slice e):=hf.und;have hmx:n≤9223372036854775807:=by unfold maxLen at hml;omega
 generalize hye:a.eval y=yv at hyv;cases hyv with
 |mnil=>exact absurd h0 (QY 0)
 |msl _ _ _ _ g cap hh=>
  subst hn;obtain⟨c,q1,q2,q3,q4,q5,q6,q7,q8⟩:=hr.mrow hh hH h0;obtain⟨cs2,hcs⟩:∃cs2,cs2=c.toList.take (ys.length*re.size):=⟨_,rfl⟩
  rw[←hcs]at q7;have hl2:cs2.length=ys.length*i'.size:=by rw[q7.1,flat_length hk,hf'.size]
  have hl2':cs2.length=ys.length*re.size:=by rw[q7.1,flat_length hk]
  have hn2:∀jj v,cs2[jj]? =some v→w.cell? ((⟨g,0,none⟩:Addr).add jj)=some v:=fun jj v hj=>by
   have hjl:jj<ys.length*re.size:=by rw[←hl2'];exact(Ub.1 hj).1
   rw[hcs,QZ hjl]at hj;rw[ZK];simp only[World.cell?,q2];simpa using hj
  have fin:∀(vs:List Value) (cp:Nat),(execOp a.eval o).run P w= .ok (.value (.slice (some ⟨w.heap.size,0,none⟩) ys.length cp)) (w.drew.alloc (.cells vs.toArray e))→
    vs.take (ys.length*re.size)=cs2→ys.length≤cp→ ∃cv E' w',((execOp a.eval o).run P w= .ok (.value cv) w'∨((execOp a.eval o).run P w= .ok .skip w'∧cv=undef))∧VR E' (.sl re.size ys .any) cv∧Zt m H E' w'∧Ext m E w E' w':=by
   intro vs cp hrun hvs hcap;obtain⟨hh1,hxx⟩:=hr.newRow vs.toArray e (w1:=w.drew) rfl rfl rfl (fun _=>Ul _) rfl;refine⟨_,_,_,.inl hrun,?_,hh1,hxx⟩;refine VR.Vs (cs:=cs2) hk (q7.mono hr.norm hxx.le) (fun jj u hj=>?_) hcap hml trivial;simp only[Env.addRow,if_true,QK];have hlt:jj<ys.length*re.size:=by rw[←hl2'];exact(Ub.1 hj).1
   rw[←hvs,QZ hlt]at hj;simpa using hj
  have hb48:Builtin.nextslicecap ys.length 0*i'.bytes≤281474976710656:=growslice_fits om (by rw[hf'.bytes];exact hby);rcases hxv.Vr with⟨⟨a1,e1,ea1⟩,ex,_⟩|⟨b1,off1,cap1,cs1,e1,hkx,hvx,hFx,hc1,_,how⟩
  ·obtain rfl:=ea1 sm;have hr1:=run_append_nil (P:=P) w t o.type e i' z' hu hf'.info hf'.zero ⟨g,0,none⟩ ys.length cap cs2 hl2 hn2 h0 om (by rw[hf'.bytes];omega);refine fin (cs2++(Builtin.zeroCells z'.cells (grownCap w ys.length 0 e - ys.length)).toList) (grownCap w ys.length 0 e) ?_ ?_ (grownCap_ge w _ _ _)
   ·rw[he,e1,hye,hr1];simp only[Result.andThen_ok];congr 3
    apply QaD;simp
   ·rw[MS om,Q9 om]
  ·have hcap1:cap1=0:=how;subst hcap1;have hr1:=run_append_grow (P:=P) w t o.type e i' z' hu hf'.info hf'.zero ⟨b1,off1,none⟩ 0 0 [] sm sm ⟨g,0,none⟩ ys.length cap cs2 hl2 hn2 om om (by simpa using hb48);simp only[Q5,QK]at hr1;refine fin (cs2++(Builtin.zeroCells z'.cells (grownCap w ys.length 0 e - ys.length)).toList) (grownCap w ys.length 0 e) ?_ ?_ (grownCap_ge w _ _ _)
   ·rw[he,e1,hye];simp only[QB];rw[hr1];simp only[Result.andThen_ok];congr 3
    apply QaD;simp
   ·rw[MS om,Q9 om]
end
section
variable {cs:List AV} {L:List (Nat×Ze)} {tm:List (Nat×AV)}
def ZeM{n N:Nat}{H:Za}{j0 j i k0:Nat}(e k:Nat)(hb:lkb L j0=some (.box cs))(hi:cs[i]? =some (.sl k0 [] .full))(hj:lkb L j=none):
  AWk n N ⟨tm,L,H⟩ ⟨tm,setb (setb L j (.buf e k 0)) j0 (.box (cs.set i (.sl k [] (.buf n j)))),H⟩:=fun B E w a hs=>by
 have h:=hs.heap;obtain⟨b0,hm0,c,t,hc,hv⟩:=h.box n j0 cs (Qr n) (by simp only[full,if_true];exact hb);obtain⟨hil,hie⟩:=Ub.1 hi;have hvi:=hv.2 i hil (by rw[hv.1];exact hil);rw[hie]at hvi;have hval:∃ad,c.toList[i]'(by rw[hv.1];exact hil)= .slice ad 0 0∧ ∀x,ad=some x→x.spot=none:=by
  generalize c.toList[i]'(by rw[hv.1];exact hil)=x at hvi;cases hvi with
  |slnil _ _ a ho ha=>obtain rfl:=ha sm;exact⟨none,rfl,fun _ e=>by cases e⟩
  |sl _ _ _ b off cap c hk hc hv hcap hm ho=>
   have:cap=0:=ho;subst this;exact⟨_,rfl,fun _ e=>by cases e;rfl⟩
 obtain⟨ad,hval,hsp⟩:=hval;have hfree:full n L H n j=none:=by simp only[full,if_true];exact hj
 obtain⟨hh,hx⟩:=h.adopt (Qr n) hfree ad e k false;have hne:j0≠j:=fun e=>by rw[e,hj]at hb;cases hb
 have hm1:(E.Yy n j (.slice ad 0 0)).m n j0=some b0:=hm0;obtain⟨hh2,hx2⟩:=hh.turn (w':=w) (.inl hm1) (.box (cs.set i (.sl k [] (.buf n j)))) (fun hg=>absurd (hh.m_g hm1) hg) rfl rfl rfl (fun _=>Qg _) rfl (fun _ _=>rfl) (fun o=>hh.mF _ _ _ o hm1)
  ⟨b0,hm1,c,t,hc,by rw[MO];exact hv.1,fun i' h1 h2=>by
   rw[Gy];split
   ·rename_i e1;subst e1;rw[hval]at hvi⊢;cases hvi with
    |slnil _ _ _ ho ha=>exact .slnil k _ _ (by simp[Zax,Env.Yy]) (fun _=>ha sm)
    |sl _ _ _ b off cap c hk hc hv hcap hm ho=>exact .sl k [] _ b off 0 c (fun i h=>absurd h (Qo _)) (fun i j h=>absurd h (Qo _)) (fun i h=>absurd h (Qo _)) (Qg _) hm (by simp[Zax,Env.Yy])
   ·exact(hv.2 i' (by simpa using h1) h2).mono h.norm hx.le⟩
 have hxx:=hx.trans hx2;refine⟨_,⟨hs.size,hs.defs.ext hxx,fun t'=>(hs.tmps t').mono h.norm hxx.le,?_,hs.out⟩,hxx.mono (Ul n)⟩;show Zt (n+1) (full n (setb (setb L j _) j0 _) H) _ _;rw[Zr,Zr];exact hh2
def J3{cx:Cx}{c:Code}{k:List Itm}{Q:Exit→Zb→Prop}{H:Za}{k0:Nat}(j0 j i e sz:Nat)(hb:lkb L j0=some (.box cs))(hi:cs[i]? =some (.sl k0 [] .full))(hj:lkb L j=none)
  (h:AKc cx (.code c::k) Q ⟨tm,setb (setb L j (.buf e sz 0)) j0 (.box (cs.set i (.sl sz [] (.buf cx.n j)))),H⟩):AKc cx (.code c::k) Q ⟨tm,L,H⟩:=
 ZO (ZeM e sz hb hi hj) h
def WkS.any(k:Nat)(xs:List AV)(o:Own):WkS (.sl k xs o) (.sl k xs .any):=.sl k xs xs o rfl fun _ _ _=>.refl _
end
end Go.Abs

namespace Go.Proofs.YtmdeagmbfhbbnaaGreatDoorR
open Go.Abs
def ZuV(t:Tm)(b:Bnd)(n:Nat)(H:Za)(i:Nat):Zb:=⟨[(5,.int .i64 i),(1,.sl 5 (b.map eBd) .any),(2,.ptr n 2 0),(4,.ptr n 4 0)],[(2,.box t.cs),(4,.box [.int .u8 0,.int .i64 0,.str [],.sl 4 [] .full])],H⟩
def ZtV(t:Tm)(b:Bnd)(n:Nat)(H:Za)(i:Nat):Zb:=⟨[(7,.int .i64 i),(6,.sl 4 (((t.args.take i).map (Zv b)).map Tm.enc) (.buf n 200)),(1,.sl 5 (b.map eBd) .any),(2,.ptr n 2 0),(4,.ptr n 4 0)],[(200,.buf 40 4 i),(2,.box t.cs),(4,.box [.int .u8 0,.int .i64 0,.str [],.sl 4 [] .full])],H⟩
def Zq0(b:Bnd)(t:Tm):Zv b t=match (if t.kind=3 then Zz t.name b else none)with
  |some v=>v
  |none=>.mk t.kind t.num t.name (t.args.map (Zv b)):=by
 cases t;rw[Zv,Jm];rfl
def w17(b:Bnd)(hb:b.length≤1000000)(t:Tm)(ht:t.Good):Pure prog 17 [t.enc,Zj b] (Zv b t).enc:=by
 intro n H;have ih:∀u∈t.args,Pure prog 17 [u.enc,Zj b] (Zv b u).enc:=fun u hu=>w17 b hb u (ht.arg hu)
 have hl:=ht.len;have hbi:∀q,Inside n q (.sl 5 (b.map eBd) .any):=fun q=>(Zw n b).inside
 have ho:∀(q:Nat→Prop) (r:List Tm),q 200→Inside n q (.sl 4 (r.map Tm.enc) (.buf n 200)):=fun q r h=>Abs.Yj (mB fun u=>Tm.blw n u) h
 have hap:=Zq0 b t;refine aF func17 fun B=>?_
 refine gk ?_;refine ZL (ZuV t b n H) (fun i=>t.kind=3→Zz t.name b=Zz t.name (b.drop i)) b.length rfl ?_ (fun _=>rfl) ?_
 ·exact KK
 intro i hi hq;refine ZQ rfl ?_;rcases Qe i b.length with h|h
 ·rw[Qu h]at hq;simp only[Zz]at hq;refine nq h ?_;refine nT ?_;cases hk:(t.kind==3)with
  |false=>
   have hk':¬t.kind=3:=by simpa using hk
   refine dq hk ?_;refine gm ?_;refine⟨fun e=>absurd e hk',?_⟩;exact KK
  |true=>
   have hk':t.kind=3:=by simpa using hk
   have hq:=hq hk';by_cases hnm:b[i].1=t.name
   ·have e1:(t.name==b[i].1)=true:=by simp[hnm]
    rw[if_pos hnm]at hq;rw[if_pos hk',hq]at hap;refine dq4 hk (getD_map eBd _ _ h) h e1 ?_;refine nT ?_;refine nq2 (getD_map eBd _ _ h) h ?_;refine nW ?_;rw[hap];refine Z9 (.inl rfl) _ n 4 0 b[i].2.cs sS sF rfl (Qg _) sS ?_ (Tm.blw _ _) rfl;exact xS
   ·have e1:(t.name==b[i].1)=false:=by simp;exact fun e=>hnm e.symm
    rw[if_neg hnm]at hq;refine dq4 hk (getD_map eBd _ _ h) h e1 ?_;refine gm ?_;refine⟨fun _=>hq,?_⟩;exact KK
 ·have hap2:Zv b t= .mk t.kind t.num t.name (t.args.map (Zv b)):=by
   rw[hap];by_cases hk:t.kind=3
   ·rw[if_pos hk,hq hk,QT h];rfl
   ·rw[if_neg hk]
  rw[hap2];refine nq (QD.2 h) ?_;refine gg ?_;refine gk ?_;refine Xn 6 200 40 4 rfl rfl ?_;refine Zm (ZtV t b n H) t.args.length rfl ?_ ?_
  ·exact KK
  intro j hj;refine ZQ rfl ?_;rcases Qe j t.args.length with h'|h'
  ·have hm:((t.args.take j).map (Zv b)).map Tm.enc++[(Zv b t.args[j]).enc]=((t.args.take (j+1)).map (Zv b)).map Tm.enc:=by rw[Qj h',QC,QC];rfl
   have hmin:(t.args.take j).length=j:=Uo hj;refine nr ?_;refine aq h' ?_;refine nT ?_;refine nq2 (Tm.Zh _ _ h') h' ?_;refine WE (Zf func17 rfl rfl) (ih _ (Qa h')) (by simp only[go_sem,simprocAttr,Zj]) ?_;simp only[go_sem,simprocAttr,Zj];simp only[go_sem,simprocAttr,hmin];refine⟨by first|exact⟨rfl,dc⟩|exact rfl,⟨Zl om,om⟩,?_⟩;rw[hm];refine gd ?_;exact KK
  ·have hj':j=t.args.length:=om;subst hj';refine nr ?_;simp only[go_sem,simprocAttr,QY];refine gg ?_;refine nt0 ?_;refine ge ?_;refine Z9 (.inl rfl) _ n 4 0 [.int .u8 t.kind,.int .i64 t.num,.str t.name,.sl 4 ((t.args.map (Zv b)).map Tm.enc) (.buf n 200)] sS sF rfl (Qg _) sS ?_ (Tm.blw _ _) rfl;refine aS ?_;rw[Tm.VJ];exact .deep (.ZcZ ⟨.refl _,.refl _,.refl _,.any _ _ _,trivial⟩)
termination_by SizeOf.sizeOf t
decreasing_by exact Tm.Y2 hu
def sw9(l2 b2:Nat)(A:List Am)(H:Za)(i:Nat):Zb:=
 ⟨[(4,.int .i64 i),(3,.ptr l2 b2 0),(0,.sl 2 (A.map Am.enc) .any)],[],put H l2 b2 (XM sto0 (A.take i))⟩
def w9(n:Nat)(H:Za)(l2 b2:Nat)(A:List Am)(hl2:l2<n)(hf:YH H l2 b2)(hg:Vp A)(hlen:A.length≤1000000)(hn:0<n)(hT:Tabs H):
  Zi prog n 9 [.sl 2 (A.map Am.enc) .any] H (fun r H'=>r= .ptr l2 b2 0∧H'=put H l2 b2 (XM sto0 A)):=by
 refine aF func9 fun B=>?_
 refine gc ?_;refine ZsA rfl l2 b2 hl2 hf sS ?_;refine aS ?_;refine gh ?_;have hpi:∀q,Inside n q (.ptr l2 b2 0):=fun q=>.ptr _ _ _ (.inl hl2)
 refine Zm (sw9 l2 b2 A H) A.length rfl ?_ ?_
 ·exact KK
 intro i hi;refine ZQ rfl ?_;have hok:Ok (XM sto0 (A.take i)):=ok0.XM fun x hx=>hg x (UC hx)
 rcases Qe i A.length with h|h
 ·have hgi:=hg _ (Qa h);have hnx2:=ZoI sto0 A i h;refine nq h ?_;refine nT ?_;refine nq2 (Am.Zh _ _ h) h ?_;refine ZtG rfl l2 b2 _ A[i] rfl hl2 hf hok.fit hgi hn hT sS ?_;rw[←hnx2];refine aS ?_;refine gd ?_;exact KK
 ·refine nq (QD.2 h) ?_;refine gg ?_;have hi':i=A.length:=om;subst hi';rw[QI];refine ge ?_;exact Zn (.refl _) (.ptr _ _ _ hl2) ⟨rfl,rfl⟩
def call9{cx:Cx}{op:Oper}{args:List Operand}{ts:List TypeId}{F:Zb→Prop}{tm:List (Nat×AV)}{L:List (Nat×Ze)}{H:Za}(hP:cx.P=prog)(l2 b2:Nat)(A:List Am)(o:Own)(hl2:l2<cx.n)(hf:YH H l2 b2)(hg:Vp A)(hlen:A.length≤1000000)
  (hn:0<cx.n) (hT:Tabs H) (ha:Yn cx.T (evT tm) args ts=[.sl 2 (A.map Am.enc) o]) (hF:F ⟨Yk tm op.dst (.ptr l2 b2 0),L,put H l2 b2 (XM sto0 A)⟩):WO cx false op (.func 9) args ts ⟨tm,L,H⟩ F:=by
 obtain⟨P,T,φ,n,N⟩:=cx;subst hP;have h:=w9 (n+1) (full n L H) l2 b2 A (Gt hl2) (hf.full hl2 L) hg hlen (QO _) (hT.full hn);rw[Zb5 n l2 b2 _ L H (Qak hl2)]at h;refine YT (caps:=[]) (avs:=[.sl 2 (A.map Am.enc) o]) (Qc:=fun r H'=>r= .ptr l2 b2 0∧H'=full n L (put H l2 b2 (XM sto0 A))) rfl (Zf func9 rfl rfl) (Zi.wk h ⟨.any _ _ _,trivial⟩) ha ?_;rintro r H1 ⟨rfl,rfl⟩;exact⟨L,_,rfl,Za8 hl2,hF⟩
def e24(x:Int):Pure prog 24 [.int .i64 x] (Ye x).enc:=by
 intro n H;refine aF func24 fun B=>?_
 refine gK ?_;refine Z9 (.inl rfl) _ n 2 0 [.int .u8 1,.int .i64 x,.str [],.sl 4 [] .full] sS sF rfl (Qg _) sS ?_ (Tm.blw _ _) rfl;rw[Tm.VJ];exact .deep (.ZcZ ⟨.refl _,.refl _,.refl _,.any _ _ _,trivial⟩)
def e23(s:Str)(a:List Tm):Pure prog 23 [.str s,.sl 4 (a.map Tm.enc) .any] (Tm.mk 5 0 s a).enc:=by
 intro n H;refine aF func23 fun B=>?_
 refine gK ?_;refine Z9 (.inl rfl) _ n 4 0 [.int .u8 5,.int .i64 0,.str s,.sl 4 (a.map Tm.enc) .any] sS sF rfl (Qg _) sS ?_ (Tm.blw _ _) rfl;rw[Tm.VJ];exact .deep (.ZcZ ⟨.refl _,.refl _,.refl _,.any _ _ _,trivial⟩)
def e30(a b:Tm):Pure prog 30 [a.enc,b.enc] (Tm.mk 6 0 [] [a,b]).enc:=by
 intro n H;refine aF func30 fun B=>?_
 refine gc ?_;refine⟨rfl,?_⟩;refine nV ?_;refine Z9 (.inl rfl) _ n 4 0 [.int .u8 6,.int .i64 0,.str [],.sl 4 [a.enc,b.enc] .full] sS sF rfl (Qg _) sS ?_ (Tm.blw _ _) rfl;have he:(Tm.mk 6 0 [] [a,b]).enc= .agg [.int .u8 6,.int .i64 0,.str [],.sl 4 [a.enc,b.enc] .any]:=by
  rw[Tm.VJ];simp only[Tm.args,Qv,Ux,Tm.kind,Tm.num,Tm.name]
 rw[he];exact .deep (.ZcZ ⟨.refl _,.refl _,.refl _,.any _ _ _,trivial⟩)
def e22(s:Str)(a:List Tm):Pure prog 22 [.str s,.sl 4 (a.map Tm.enc) .any] (Lt.mk 1 false ⟨s,a⟩ 0 zT zT).enc:=by
 intro n H;refine aF func22 fun B=>?_
 refine gK ?_;refine Z9 (.inl rfl) _ n 4 0 [.int .u8 1,.bool false,.str s,.sl 4 (a.map Tm.enc) .any,.int .u8 0,.int .u8 0,.int .i64 0,.str [],.sl 4 [] .full,.int .u8 0,.int .i64 0,.str [],.sl 4 [] .full] sS sF rfl (Qg _) sS ?_ (Lt.blw _ _) rfl;exact .deep (.ZcZ ⟨.refl _,.refl _,.refl _,.any _ _ _,.refl _,.refl _,.refl _,.refl _,.any _ _ _,.refl _,.refl _,.refl _,.any _ _ _,trivial⟩)
def e28(o:Int)(a b:Tm):Pure prog 28 [.int .u8 o,a.enc,b.enc] (ZgO o a b).enc:=by
 intro n H;refine aF func28 fun B=>?_
 refine gK ?_;refine Z9 (.inl rfl) _ n 6 0 [.int .u8 2,.bool false,.str [],.sl 4 [] .full,.int .u8 o,.int .u8 a.kind,.int .i64 a.num,.str a.name,.sl 4 (a.args.map Tm.enc) .any,.int .u8 b.kind,.int .i64 b.num,.str b.name,.sl 4 (b.args.map Tm.enc) .any] sS sF rfl (Qg _) sS ?_ (Lt.blw _ _) rfl;exact .deep (.ZcZ ⟨.refl _,.refl _,.refl _,.any _ _ _,.refl _,.refl _,.refl _,.refl _,.any _ _ _,.refl _,.refl _,.refl _,.any _ _ _,trivial⟩)
def Zmi(s:Str)(x y:Tm):Pure prog 22 [.str s,.sl 4 [x.enc,y.enc] .full] (Lt.mk 1 false ⟨s,[x,y]⟩ 0 zT zT).enc:=Pure.args (e22 s [x,y]) ⟨.refl _,.any _ _ _,trivial⟩
def ZrA(s:Str)(x y:Tm):Pure prog 23 [.str s,.sl 4 [x.enc,y.enc] .full] (Tm.mk 5 0 s [x,y]).enc:=Pure.args (e23 s [x,y]) ⟨.refl _,.any _ _ _,trivial⟩
def Ztr(s:Str)(x y:Tm):Pure prog 22 [.str s,.sl 4 [x.enc,y.enc] .full] (.agg [.int .u8 1,.bool false,.str s,.sl 4 [x.enc,y.enc] .any,.int .u8 0,.int .u8 0,.int .i64 0,.str [],.sl 4 [] .any,.int .u8 0,.int .i64 0,.str [],.sl 4 [] .any]):=Zmi s x y
def e25:Pure prog 25 [] (.sl 2 (exA.map Am.enc) .any):=by
 intro n H;refine aF func25 fun B=>?_
 refine gc ?_;refine cP (e24 1) ?_;refine cP (e24 2) ?_;refine⟨rfl,?_⟩;refine cP (Ztr [112] (Ye 1) (Ye 2)) ?_;refine cP (e24 2) ?_;refine cP (e24 3) ?_;refine⟨rfl,?_⟩;refine cP (Ztr [112] (Ye 2) (Ye 3)) ?_;refine cP (e24 3) ?_;refine cP (e24 5) ?_;refine⟨rfl,?_⟩;refine cP (Ztr [112] (Ye 3) (Ye 5)) ?_;refine⟨rfl,?_⟩;refine nV ?_;exact Zc (.any _ _ _) (Xp exA) rfl
def ZvN(c:Int):Bool:=c==0
def Zvm(c:Int):Bool:=c !=0
def Zwn(c:Int):Bool:=decide (c<0)
def ZvS(c:Int):Bool:=decide (c≤0)
def ZwG(c:Int):Bool:=decide (c>0)
def Zv2(c:Int):Bool:=decide (c ≥ 0)
def ZwM(c:Int):Pure prog 156 [.int .i64 c] (.bool (ZvN c)):=by
 intro n H;refine aF func156 fun B=>?_
 refine gc ?_;exact pB
def ZvM(c:Int):Pure prog 157 [.int .i64 c] (.bool (Zvm c)):=by
 intro n H;refine aF func157 fun B=>?_
 refine gc ?_;exact pB
def ZwA(c:Int):Pure prog 158 [.int .i64 c] (.bool (Zwn c)):=by
 intro n H;refine aF func158 fun B=>?_
 refine gc ?_;exact pB
def Zvx(c:Int):Pure prog 159 [.int .i64 c] (.bool (ZvS c)):=by
 intro n H;refine aF func159 fun B=>?_
 refine gc ?_;exact pB
def Zwq(c:Int):Pure prog 160 [.int .i64 c] (.bool (ZwG c)):=by
 intro n H;refine aF func160 fun B=>?_
 refine gc ?_;exact pB
def Zws(c:Int):Pure prog 161 [.int .i64 c] (.bool (Zv2 c)):=by
 intro n H;refine aF func161 fun B=>?_
 refine gc ?_;exact pB
def j101(op:Int)(h0:0≤op∧op≤255)(a b:Tm)(ha:a.Good)(hb:b.Good):Pure prog 101 [.int .u8 op,a.enc,b.enc] (.bool (YX op a b)):=by
 intro n H;have hu:∀x:Int,0≤x→x≤255→IntKind.i64.wrap x=x:=fun x h1 h2=>iw
 have harr:ZkR tt 201=some (7,⟨.func,1,8,[.nilf]⟩):=rfl;have hsl:sliceOf tt 201=none:=rfl;refine aF func101 fun B=>?_
 refine nR ?_;refine nq harr ?_;by_cases hop:1≤op∧op≤6
 ·have hc:op=1∨op=2∨op=3∨op=4∨op=5∨op=6:=om;rcases hc with rfl|rfl|rfl|rfl|rfl|rfl
  ·have hd:decide (IntKind.i64.wrap 1<7)=true:=dc;refine dq4 harr hsl hd trivial ?_;refine cP (a53 a b ha hb) ?_;refine YE (avs:=[.int .i64 (cmpT a b)]) rfl (Zf func156 rfl rfl) (ZwM (cmpT a b) _ _) rfl ?_;simp only[go_sem,simprocAttr];exact pB
  ·have hd:decide (IntKind.i64.wrap 2<7)=true:=dc;refine dq4 harr hsl hd trivial ?_;refine cP (a53 a b ha hb) ?_;refine YE (avs:=[.int .i64 (cmpT a b)]) rfl (Zf func157 rfl rfl) (ZvM (cmpT a b) _ _) rfl ?_;simp only[go_sem,simprocAttr];exact pB
  ·have hd:decide (IntKind.i64.wrap 3<7)=true:=dc;refine dq4 harr hsl hd trivial ?_;refine cP (a53 a b ha hb) ?_;refine YE (avs:=[.int .i64 (cmpT a b)]) rfl (Zf func158 rfl rfl) (ZwA (cmpT a b) _ _) rfl ?_;simp only[go_sem,simprocAttr];exact pB
  ·have hd:decide (IntKind.i64.wrap 4<7)=true:=dc;refine dq4 harr hsl hd trivial ?_;refine cP (a53 a b ha hb) ?_;refine YE (avs:=[.int .i64 (cmpT a b)]) rfl (Zf func159 rfl rfl) (Zvx (cmpT a b) _ _) rfl ?_;simp only[go_sem,simprocAttr];exact pB
  ·have hd:decide (IntKind.i64.wrap 5<7)=true:=dc;refine dq4 harr hsl hd trivial ?_;refine cP (a53 a b ha hb) ?_;refine YE (avs:=[.int .i64 (cmpT a b)]) rfl (Zf func160 rfl rfl) (Zwq (cmpT a b) _ _) rfl ?_;simp only[go_sem,simprocAttr];exact pB
  ·have hd:decide (IntKind.i64.wrap 6<7)=true:=dc;refine dq4 harr hsl hd trivial ?_;refine cP (a53 a b ha hb) ?_;refine YE (avs:=[.int .i64 (cmpT a b)]) rfl (Zf func161 rfl rfl) (Zws (cmpT a b) _ _) rfl ?_;simp only[go_sem,simprocAttr];exact pB
 ·have e:YX op a b=false:=by
   unfold YX;rw[if_neg om,if_neg om,if_neg om,if_neg om,if_neg om,if_neg om]
  rw[e];by_cases hz:op=0
  ·subst hz;refine nD drawO ?_;refine aq2 harr hsl ?_;exact pB
  ·have hd0:decide (0<op)=true:=by simp;omega
   have hd:decide (IntKind.i64.wrap op<7)=false:=by rw[hu op h0.1 h0.2];simp;omega
   refine dq4 harr hsl hd0 hd ?_;exact pB
def j133(e f:Int):Pure prog 133 [eInt e,eInt f] (eInt (Je e f)):=by
 intro n H;refine aF func133 fun B=>?_
 refine nR ?_;cases h1:(e==3)with
 |true=>
  have e1:e=3:=by simpa using h1
  refine nq h1 ?_;refine gj ?_;have e2:Je e f=e:=by rw[Je,if_pos (.inl e1)]
  rw[e2];exact Zc (.refl _) (.int _ _) rfl
 |false=>
  have e1:¬e=3:=by simpa using h1
  cases h2:(f==0)with
  |true=>
   have e2:Je e f=e:=by rw[Je,if_pos (.inr (by simpa using h2))]
   refine nq2 h1 h2 ?_;refine gj ?_;rw[e2];exact Zc (.refl _) (.int _ _) rfl
  |false=>
   have e3:¬f=0:=by simpa using h2
   have e2:Je e f=f:=by rw[Je,if_neg om]
   refine nq2 h1 h2 ?_;refine gF ?_;rw[e2];exact Zc (.refl _) (.int _ _) rfl
def e233(x:Int):Pure prog 233 [.int .i64 x] (Ye x).enc:=by
 intro n H;refine aF func233 fun B=>?_
 refine gK ?_;refine Z9 (.inl rfl) _ n 2 0 [.int .u8 1,.int .i64 x,.str [],.sl 4 [] .full] sS sF rfl (Qg _) sS ?_ (Tm.blw _ _) rfl;refine aS ?_;exact .deep (.ZcZ ⟨.refl _,.refl _,.refl _,.nil _ _ _,trivial⟩)
def ZaG{n:Nat}(l:List Int):Below n (.sl 1 (l.map eInt) .any):=ZB fun x hx=>by obtain⟨y,_,rfl⟩:=Qi.1 hx;exact .int _ _
def Zlt(l:List Tm)(i:Nat)(h:i<l.length):Yp (l.take (i+1))=Yp (l.take i)++if l[i].kind=1 then [l[i].num]else []:=by
 unfold Yp;rw[Qj h,QaE,QC];by_cases hk:l[i].kind=1
 ·simp[hk]
 ·simp[hk]
def Zqz(l:List Tm)(n:Nat)(H:Za)(i:Nat):Zb:=
 ⟨[(7,.int .i64 i),(6,.int .i64 l.length),(5,.sl 4 (l.map Tm.enc) .any),(2,.sl 1 ((Yp (l.take i)).map eInt) (.buf n 200))],[(200,.buf 3 1 (Yp (l.take i)).length)],H⟩
def e199(l:List Tm)(hl:l.length≤1000000):Pure prog 199 [.sl 4 (l.map Tm.enc) .any] (.sl 1 ((Yp l).map eInt) .any):=by
 intro n H;have hbi:∀q,Inside n q (.sl 4 (l.map Tm.enc) .any):=fun q=>(ZH l).inside
 have ho:∀(q:Nat→Prop) (r:List Int),q 200→Inside n q (.sl 1 (r.map eInt) (.buf n 200)):=fun q r h=>Abs.Yj (mB fun u=>.int _ _) h
 refine aF func199 fun B=>?_
 refine gk ?_;refine Xn 2 200 3 1 rfl rfl ?_;refine Zm (Zqz l n H) l.length rfl ?_ ?_
 ·exact KK
 intro i hi;refine ZQ rfl ?_;rcases Qe i l.length with h|h
 ·have hs:=Zlt l i h;have hil:(Yp (l.take i)).length≤1000000:=by
   have:(Yp (l.take i)).length≤(l.take i).length:=by unfold Yp;rw[Qw];exact UH _ _
   rw[QM]at this;omega
  refine nq h ?_;refine nT ?_;refine nq2 (Tm.Zh _ _ h) h ?_;by_cases hk:l[i].kind=1
  ·have hk':(l[i].kind==1)=true:=by simp[hk]
   rw[if_pos hk]at hs;have hm:((Yp (l.take i)).map eInt)++[.int .i64 l[i].num]=(Yp (l.take (i+1))).map eInt:=by rw[hs,QC];rfl
   have hm2:(Yp (l.take (i+1))).length=(Yp (l.take i)).length+1:=by rw[hs];simp
   refine nq hk' ?_;refine gi ?_;refine⟨rfl,⟨Zl om,om⟩,?_⟩;rw[hm];refine gd ?_;unfold Zqz;rw[hm2];exact KK
  ·have hk':(l[i].kind==1)=false:=by simp[hk]
   rw[if_neg hk,Qs]at hs;refine nq hk' ?_;refine gm ?_;unfold Zqz;rw[hs];exact KK
 ·have hi':i=l.length:=om;subst hi';refine nq (QD.2 h) ?_;refine gg ?_;refine gE ?_;exact Zc (.any _ _ _) (ZaG _) rfl
def Zbn{α β:Type}(f:β→α→β)(a:β)(l:List α)(i:Nat)(h:i<l.length):(l.take (i+1)).foldl f a=f ((l.take i).foldl f a) l[i]:=by
 rw[Qj h,Md];rfl
def ZuU(x y:Int):(if y<x then y else x)=min x y:=by
 show(if y<x then y else x)=min x y;simp only[Int.max_def,Int.min_def];split<;>split<;>omega
def e230(x:Int)(l:List Int)(hl:l.length≤1000000):Pure prog 230 [.sl 1 ((x::l).map eInt) .any] (.int .i64 (minS (x::l))):=by
 intro n H;have hbi:∀q,Inside n q (.sl 1 ((x::l).map eInt) .any):=fun q=>(ZaG (x::l)).inside
 have hlen:((x::l).map eInt).length=l.length+1:=sm;have h0:¬(((l.length+1:Nat):Int)<1):=om;generalize hX:(x::l).map eInt=X at hlen hbi⊢;refine aF func230 fun B=>?_
 refine nR ?_;have hx0:∀d,X.getD 0 d= .int .i64 x:=fun d=>by rw[←hX];rfl
 have hxi:∀i (h:i<l.length) d,X.getD (i+1) d= .int .i64 l[i]:=fun i h d=>by
  rw[←hX,Qn];simp[h,eInt]
 refine nq hlen ?_;refine nFq h0 ?_;refine nq2 hlen hx0 ?_;refine⟨om,?_⟩;refine gh ?_;refine Zm (fun i=>⟨[(4,.int .i64 ((i+1:Nat):Int)),(3,.int .i64 ((l.take i).foldl min x)),(0,.sl 1 X .any)],[],H⟩) l.length rfl ?_ ?_
 ·exact KK
 intro i hi;refine ZQ rfl ?_;rcases Qe i l.length with h|h
 ·have hm:=ZuU ((l.take i).foldl min x) l[i];have h1:i+1<l.length+1:=om;refine nq2 hlen h1 ?_;refine nT ?_;refine nq4 hlen h1 (hxi i h) hm ?_;refine gd ?_;refine⟨h,?_⟩;rw[Zbn _ _ _ _ h];exact KK
 ·have hi':i=l.length:=om;subst hi';refine nr ?_;simp only[go_sem,simprocAttr,hlen,QY];refine gg ?_;refine gE ?_;exact Zc (.refl _) (.int _ _) rfl
def Zuy(x y:Int):(if y>x then y else x)=max x y:=by
 show(if y>x then y else x)=max x y;simp only[Int.max_def,Int.min_def];split<;>split<;>omega
def e231(x:Int)(l:List Int)(hl:l.length≤1000000):Pure prog 231 [.sl 1 ((x::l).map eInt) .any] (.int .i64 (maxS (x::l))):=by
 intro n H;have hbi:∀q,Inside n q (.sl 1 ((x::l).map eInt) .any):=fun q=>(ZaG (x::l)).inside
 have hlen:((x::l).map eInt).length=l.length+1:=sm;have h0:¬(((l.length+1:Nat):Int)<1):=om;generalize hX:(x::l).map eInt=X at hlen hbi⊢;refine aF func231 fun B=>?_
 refine nR ?_;have hx0:∀d,X.getD 0 d= .int .i64 x:=fun d=>by rw[←hX];rfl
 have hxi:∀i (h:i<l.length) d,X.getD (i+1) d= .int .i64 l[i]:=fun i h d=>by
  rw[←hX,Qn];simp[h,eInt]
 refine nq hlen ?_;refine nFq h0 ?_;refine nq2 hlen hx0 ?_;refine⟨om,?_⟩;refine gh ?_;refine Zm (fun i=>⟨[(4,.int .i64 ((i+1:Nat):Int)),(3,.int .i64 ((l.take i).foldl max x)),(0,.sl 1 X .any)],[],H⟩) l.length rfl ?_ ?_
 ·exact KK
 intro i hi;refine ZQ rfl ?_;rcases Qe i l.length with h|h
 ·have hm:=Zuy ((l.take i).foldl max x) l[i];have h1:i+1<l.length+1:=om;refine nq2 hlen h1 ?_;refine nT ?_;refine nq4 hlen h1 (hxi i h) hm ?_;refine gd ?_;refine⟨h,?_⟩;rw[Zbn _ _ _ _ h];exact KK
 ·have hi':i=l.length:=om;subst hi';refine nr ?_;simp only[go_sem,simprocAttr,hlen,QY];refine gg ?_;refine gE ?_;exact Zc (.refl _) (.int _ _) rfl
def e261(x:Int):Pure prog 261 [.int .i64 x] (.bool (Y6 x)):=by
 intro n H;refine aF func261 fun B=>?_
 refine nR ?_;unfold Y6;cases h1:decide ((-2147483647:Int)≤x)with
 |true=>
  refine nq h1 ?_;exact pB
 |false=>
  refine nq h1 ?_;exact pB
def e260(x:Int):Pure prog 260 [.int .i64 x] (.bool (!Y6 x)):=by
 intro n H;refine aF func260 fun B=>?_
 refine gc ?_;refine cP (e261 x) ?_;exact pB
def e262(op:Str):Pure prog 262 [.str op] (.int .i64 (if op=[45]then 1 else 0)):=by
 intro n H;refine aF func262 fun B=>?_
 refine nR ?_;by_cases h:op=[45]
 ·have h':(op==[45])=true:=by simp[h]
  rw[if_pos h];refine nq h' ?_;refine gj ?_;exact Zc (.refl _) (.int _ _) rfl
 ·have h':(op==[45])=false:=by simp[h]
  rw[if_neg h];refine nq h' ?_;refine gF ?_;exact Zc (.refl _) (.int _ _) rfl
def Zwf(a b:Int):Pure prog 281 [.iptr [.int .i64 a],.iptr [.int .i64 b]] (.int .i64 (IntKind.i64.wrap (a+b))):=by
 intro n H;refine aF func281 fun B=>?_
 refine gK ?_;exact Zc (.refl _) (.int _ _) rfl
def Zwl(a b:Int):Pure prog 282 [.iptr [.int .i64 a],.iptr [.int .i64 b]] (.int .i64 (IntKind.i64.wrap (a-b))):=by
 intro n H;refine aF func282 fun B=>?_
 refine gK ?_;exact Zc (.refl _) (.int _ _) rfl
def e283(a b:Int):Pure prog 283 [.iptr [.int .i64 a],.iptr [.int .i64 b]] (.int .i64 (IntKind.i64.wrap (a*b))):=by
 intro n H;refine aF func283 fun B=>?_
 refine gK ?_;exact Zc (.refl _) (.int _ _) rfl
def e284(a b:Int)(hb:b≠0):Pure prog 284 [.iptr [.int .i64 a],.iptr [.int .i64 b]] (.int .i64 (IntKind.i64.wrap (a.tdiv b))):=by
 intro n H;refine aF func284 fun B=>?_
 refine gc ?_;refine⟨hb,?_⟩;refine nV ?_;exact Zc (.refl _) (.int _ _) rfl
def e285(a b:Int)(hb:b≠0):Pure prog 285 [.iptr [.int .i64 a],.iptr [.int .i64 b]] (.int .i64 (a.tmod b)):=by
 intro n H;refine aF func285 fun B=>?_
 refine gc ?_;refine⟨hb,?_⟩;refine nV ?_;exact Zc (.refl _) (.int _ _) rfl
def fV(A B:AV)(f:Nat):AV:=.fn (.func f) [A,B]
abbrev MC:=List (Str×Nat)
def Zd6(A B:AV)(m:MC):List (AV×AV):=Za5 AV.str (fV A B) m
def ZbP(A B:AV)(m:MC):∀p∈Zd6 A B m,YF tt 9 p.1=true:=fun p hp=>by
 obtain⟨q,_,rfl⟩:=Qi.1 hp;exact Zev _
def M5:MC:=[([43],281),([45],282),([42],283),([47],284),([92],285)]
def Zrz(r:Option Int):AV:=.tup [.int .i64 (r.getD 0),.bool r.isSome]
def ZvO(op:Str)(a b:Int)(ha:Y6 a=true)(hb:Y6 b=true):Pure prog 263 [.str op,.int .i64 a,.int .i64 b] (Zrz (VX op a b)):=by
 intro n H;have fit:∀{x:Int},Y6 x=true→ -2147483647≤x∧x≤2147483647:=fun{x} h=>by
  unfold Y6 at h;rw[Qd,decide_eq_true_eq,decide_eq_true_eq]at h;exact h
 obtain⟨a1,a2⟩:=fit ha;obtain⟨b1,b2⟩:=fit hb;refine aF func263 fun B=>?_
 refine gh ?_;refine Ya 4 [.int .i64 a] [(0,.str op),(4,.iptr [.int .i64 a]),(5,.ptr n 5 0)] rfl ⟨.int _ _,trivial⟩ ?_ ⟨Ze.Zy ⟨.int _ _,trivial⟩,trivial⟩ ?_
 ·exact⟨.inl ⟨.refl _,.str _⟩,.inr ⟨0,rfl,rfl⟩,.inl ⟨.refl _,.ptr _ _ _ (.inr ⟨rfl,dc⟩)⟩,trivial⟩
 refine aS ?_;refine Ya 5 [.int .i64 b] [(0,.str op),(4,.iptr [.int .i64 a]),(5,.iptr [.int .i64 b])] rfl ⟨.int _ _,trivial⟩ ?_ trivial ?_
 ·exact⟨.inl ⟨.refl _,.str _⟩,.inl ⟨.refl _,(Zq (cs:=[.int .i64 a]) ⟨.int _ _,trivial⟩).inside⟩,.inr ⟨0,rfl,rfl⟩,trivial⟩
 refine aS ?_;obtain⟨X,hX⟩:∃X,X=AV.iptr [.int .i64 a]:=⟨_,rfl⟩
 obtain⟨Y,hY⟩:∃Y,Y=AV.iptr [.int .i64 b]:=⟨_,rfl⟩
 rw[←hX,←hY];have put:∀(k:Str) (f:Nat) (m:MC),ZaN (.str k) (.fn (.func f) [X,Y]) (Zd6 X Y m)=Zd6 X Y (ZgP k f m):=fun k f m=>Zmy kinj_str (fV X Y) k f m
 have p1:ZaN (.str [43]) (.fn (.func 281) [X,Y]) []=Zd6 X Y [([43],281)]:=put [43] 281 [];have p2:ZaN (.str [45]) (.fn (.func 282) [X,Y]) (Zd6 X Y [([43],281)])=Zd6 X Y [([43],281),([45],282)]:=put [45] 282 _;have p3:ZaN (.str [42]) (.fn (.func 283) [X,Y]) (Zd6 X Y [([43],281),([45],282)])=Zd6 X Y [([43],281),([45],282),([42],283)]:=put [42] 283 _;have p4:ZaN (.str [47]) (.fn (.func 284) [X,Y]) (Zd6 X Y [([43],281),([45],282),([42],283)])=Zd6 X Y [([43],281),([45],282),([42],283),([47],284)]:=put [47] 284 _;have p5:ZaN (.str [92]) (.fn (.func 285) [X,Y]) (Zd6 X Y [([43],281),([45],282),([42],283),([47],284)])=Zd6 X Y M5:=put [92] 285 _;refine nr ?_;simp only[go_sem,simprocAttr,p1,p2,p3,p4,p5];refine⟨ZbP _ _ _,ZbP _ _ _,ZbP _ _ _,ZbP _ _ _,ZbP _ _ _,?_⟩;have look:=Zri kinj_str (fV X Y) ⟨.func,1,8,[.nilf]⟩ op M5;change lookA _ (.str op) (Zd6 X Y M5) false=_ at look;generalize hE:Zd6 X Y M5=E5 at look⊢;have hYi:∀q,Inside n q Y:=fun q=>by rw[hY];exact(Zq (cs:=[.int .i64 b]) ⟨.int _ _,trivial⟩).inside
 have hXi:∀q,Inside n q X:=fun q=>by rw[hX];exact(Zq (cs:=[.int .i64 a]) ⟨.int _ _,trivial⟩).inside
 have hfi:∀q f,Inside n q (.fn (.func f) [X,Y]):=fun q f=>Inside.fn _ _ fun i hi=>Yg.mem (l:=[X,Y]) (p:=fun c=>Inside n q c) ⟨hXi q,hYi q,trivial⟩ _ (Qa hi)
 have tail:∀f r,Pure prog f [X,Y] (.int .i64 r)→(∃fn c,Fun prog f fn c)→(b=0→op≠[47]∧op≠[92])→VX op a b=(if Y6 r then some r else none)→
   AKc ⟨prog,tt,⟨none,B⟩,n,Tryz.f263.ntmps⟩ [.code (ZW Tryz.f263).snd.snd] (PostF prog tt n Tryz.f263.results.toList fun r' H'=>r'=Zrz (VX op a b)∧H'=H)
    ⟨[(8,.fn (.func f) [X,Y]),(0,.str op),(5,Y)],[],H⟩:=by
  rintro f r hp ⟨fn,c,hf⟩ hb0 hc;refine kK ?_;refine WM ⟨[(32,.bool false),(8,.fn (.func f) [X,Y])],[],H⟩ ?_ ?_
  ·cases h0:(b==0)with
   |true=>
    obtain⟨o1,o2⟩:=hb0 (by simpa using h0);have o1':(op==[47])=false:=by simp[o1]
    have o2':(op==[92])=false:=by simp[o2]
    refine nq4 h0 hY o1' o2' ?_;refine nN ?_;refine⟨rfl,?_⟩;rw[←hY];exact KK
   |false=>
    refine nq2 h0 hY ?_;refine nN ?_;refine⟨rfl,?_⟩;rw[←hY];exact KK
  refine gv ?_;refine YE (avs:=[]) (caps:=[X,Y]) rfl hf (hp _ _) rfl ?_;refine gP ?_;refine cP (e261 r) ?_;rw[hc];cases hfr:Y6 r with
  |false=>
   refine aS ?_;refine gj ?_;exact ZG (.refl _) (.refl _) (.int _ _) (.bool _) rfl
  |true=>
   refine aS ?_;refine gF ?_;exact ZG (.refl _) (.refl _) (.int _ _) (.bool _) rfl
 have hm:(a*b).natAbs≤2147483647*2147483647:=by rw[Int.natAbs_mul];exact Qbd om om
 by_cases h43:op=[43]
 ·have hl:lookA ⟨.func,1,8,[.nilf]⟩ (.str op) E5 false= .fn (.func 281) [X,Y]:=by rw[look,h43];rfl
  rw[hl];have hw:IntKind.i64.wrap (a+b)=a+b:=iw;exact ZO (s':=⟨[(8,.fn (.func 281) [X,Y]),(0,.str op),(5,Y)],[],H⟩) (by
   apply kZ;repeat' first|apply q0|exact xx|apply aI
   all_goals first|exact hfi _ _|exact hYi _) (tail 281 (a+b) (by have:=Zwf a b;rw[hw,←hX,←hY]at this;exact this) ⟨_,_,Zf func281 rfl rfl⟩ (fun _=>by rw[h43];decide) (by rw[h43];simp[VX]))
 by_cases h45:op=[45]
 ·have hl:lookA ⟨.func,1,8,[.nilf]⟩ (.str op) E5 false= .fn (.func 282) [X,Y]:=by rw[look,h45];rfl
  rw[hl];have hw:IntKind.i64.wrap (a - b)=a - b:=iw;exact ZO (s':=⟨[(8,.fn (.func 282) [X,Y]),(0,.str op),(5,Y)],[],H⟩) (by
   apply kZ;repeat' first|apply q0|exact xx|apply aI
   all_goals first|exact hfi _ _|exact hYi _) (tail 282 (a - b) (by have:=Zwl a b;rw[hw,←hX,←hY]at this;exact this) ⟨_,_,Zf func282 rfl rfl⟩ (fun _=>by rw[h45];decide) (by rw[h45];simp[VX]))
 by_cases h42:op=[42]
 ·have hl:lookA ⟨.func,1,8,[.nilf]⟩ (.str op) E5 false= .fn (.func 283) [X,Y]:=by rw[look,h42];rfl
  rw[hl];have hw:IntKind.i64.wrap (a*b)=a*b:=iw;exact ZO (s':=⟨[(8,.fn (.func 283) [X,Y]),(0,.str op),(5,Y)],[],H⟩) (by
   apply kZ;repeat' first|apply q0|exact xx|apply aI
   all_goals first|exact hfi _ _|exact hYi _) (tail 283 (a*b) (by have:=e283 a b;rw[hw,←hX,←hY]at this;exact this) ⟨_,_,Zf func283 rfl rfl⟩ (fun _=>by rw[h42];decide) (by rw[h42];simp[VX]))
 by_cases h47:op=[47]
 ·have hl:lookA ⟨.func,1,8,[.nilf]⟩ (.str op) E5 false= .fn (.func 284) [X,Y]:=by rw[look,h47];rfl
  rw[hl];by_cases h0:b=0
  ·have h0':(b==0)=true:=by simp[h0]
   have o1:(op==[47])=true:=by simp[h47]
   have hc:VX op a b=none:=by rw[h47];simp[VX,h0]
   rw[hc];refine nq3 h0' hY o1 ?_;refine gj ?_;exact ZG (.refl _) (.refl _) (.int _ _) (.bool _) rfl
  ·have hw:IntKind.i64.wrap (a.tdiv b)=a.tdiv b:=IntWalk.i64_in _ (by
    have h1:(a.tdiv b).natAbs≤a.natAbs:=by rw[Int.natAbs_tdiv];exact QbB _ _
    omega)
   exact ZO (s':=⟨[(8,.fn (.func 284) [X,Y]),(0,.str op),(5,Y)],[],H⟩) (by
   apply kZ;repeat' first|apply q0|exact xx|apply aI
   all_goals first|exact hfi _ _|exact hYi _) (tail 284 (a.tdiv b) (by have:=e284 a b h0;rw[hw]at this;rw[←hX,←hY]at this;exact this) ⟨_,_,Zf func284 rfl rfl⟩ (fun h=>absurd h h0) (by rw[h47];simp[VX,h0]))
 by_cases h92:op=[92]
 ·have hl:lookA ⟨.func,1,8,[.nilf]⟩ (.str op) E5 false= .fn (.func 285) [X,Y]:=by rw[look,h92];rfl
  rw[hl];by_cases h0:b=0
  ·have h0':(b==0)=true:=by simp[h0]
   have o1:(op==[92])=true:=by simp[h92]
   have o2:(op==[47])=false:=by simp[h92]
   have hc:VX op a b=none:=by rw[h92];simp[VX,h0]
   rw[hc];refine nq4 h0' hY o1 o2 ?_;refine gj ?_;exact ZG (.refl _) (.refl _) (.int _ _) (.bool _) rfl
  ·skip
   exact ZO (s':=⟨[(8,.fn (.func 285) [X,Y]),(0,.str op),(5,Y)],[],H⟩) (by
   apply kZ;repeat' first|apply q0|exact xx|apply aI
   all_goals first|exact hfi _ _|exact hYi _) (tail 285 (a.tmod b) (by have:=e285 a b h0;rw[←hX,←hY]at this;exact this) ⟨_,_,Zf func285 rfl rfl⟩ (fun h=>absurd h h0) (by rw[h92];simp[VX,h0]))
 have hl:lookA ⟨.func,1,8,[.nilf]⟩ (.str op) E5 false= .nilf:=by
  rw[look];simp only[M5,getM,Ne.symm h43,Ne.symm h45,Ne.symm h42,Ne.symm h47,Ne.symm h92,if_false];rfl
 have hc:VX op a b=none:=by simp[VX,h43,h45,h42,h47,h92]
 rw[hl,hc];refine nR ?_;refine gj ?_;exact ZG (.refl _) (.refl _) (.int _ _) (.bool _) rfl
def Zwi(op:Str)(a:List Int)(hl:a.length≤1000000):Pure prog 235 [.str op,.sl 1 (a.map eInt) .any] (Zrz (Wj op a)):=by
 intro n H;have hbi:∀q,Inside n q (.sl 1 (a.map eInt) .any):=fun q=>(ZaG a).inside
 refine aF func235 fun B=>?_
 refine gc ?_;refine cQ (ZwK a hl 260 [] (fun x=>!Y6 x) (n+1) _ ⟨⟨_,_,Zf func260 rfl rfl⟩,fun x _ m G _ _=>e260 x m G,fun _ _=>trivial⟩) ?_;refine aS ?_;have hna:(!a.any fun x=>!Y6 x)=a.all Y6:=by rw[U3];simp
 cases hf:a.all Y6 with
 |false=>
  have hc:Wj op a=none:=by unfold Wj;rw[hf];rfl
  rw[hc];refine aq2 hna hf ?_;refine gF ?_;exact ZG (.refl _) (.refl _) (.int _ _) (.bool _) rfl
 |true=>
  refine aq2 hna hf ?_;refine gi ?_
  match a,hf,hbi with
  |[x],hf,hbi=>
   have hx:Y6 x=true:=by simpa using hf
   have hx2:-2147483647≤x∧x≤2147483647:=by
    unfold Y6 at hx;rw[Qd,decide_eq_true_eq,decide_eq_true_eq]at hx;exact hx
   have hw:IntKind.i64.wrap (0 - x)= -x:=by rw[show(0:Int) - x= -x by omega];exact iw
   have hc:Wj op [x]=if op=[45]then some (-x)else none:=by unfold Wj;rw[hf];rfl
   refine nR ?_;refine nT ?_;refine nD drawO ?_;simp only[go_sem,simprocAttr,eInt];refine cP (e262 op) ?_;rw[hc];by_cases ho:op=[45]
   ·have ho':(op==[45])=true:=by simp[ho]
    rw[if_pos ho,if_pos ho];refine aq2 hw ho' ?_;refine nV ?_;refine ZG ?_ (.refl _) (.int _ _) (.bool _) rfl;refine aS ?_;rw[Int.mul_one,iw];exact .refl _
   ·have ho':(op==[45])=false:=by simp[ho]
    rw[if_neg ho,if_neg ho];refine aq2 hw ho' ?_;refine nV ?_;refine ZG ?_ (.refl _) (.int _ _) (.bool _) rfl;refine aS ?_;rw[Int.mul_zero];exact .refl _
  |[x,y],hf,hbi=>
   have hxy:Y6 x=true∧Y6 y=true:=by simpa using hf
   have hc:Wj op [x,y]=VX op x y:=by unfold Wj;rw[hf];rfl
   rw[hc];refine nR ?_;refine gv ?_;refine nT ?_;refine nD drawO ?_;simp only[go_sem,simprocAttr,eInt];refine cP (ZvO op x y hxy.1 hxy.2) ?_;simp only[go_sem,simprocAttr,Zrz];refine nV ?_;exact ZG (.refl _) (.refl _) (.int _ _) (.bool _) rfl
  |[],hf,hbi=>
   have hc:Wj op []=none:=by unfold Wj;rw[hf];rfl
   rw[hc];refine nR ?_;refine gv ?_;refine gF ?_;exact ZG (.refl _) (.refl _) (.int _ _) (.bool _) rfl
  |x::y::z::r,hf,hbi=>
   have hc:Wj op (x::y::z::r)=none:=by unfold Wj;rw[hf];rfl
   have h1:(((r.length+1+1+1:Nat):Int)==1)=false:=by simp;omega
   have h2:(((r.length+1+1+1:Nat):Int)==2)=false:=by simp;omega
   rw[hc];refine nq h1 ?_;refine nF ?_;refine nq h2 ?_;refine gF ?_;exact ZG (.refl _) (.refl _) (.int _ _) (.bool _) rfl
end Go.Proofs.YtmdeagmbfhbbnaaGreatDoorR

namespace Go.Abs
def ch(t:TypeId):List PanicEntry:=[{v:=.iface t (.agg #[]),recovered:=false}]
def Zht(t n:Nat)(E:Env)(w:World)(Q:AV→Za→Prop)(X:Za→Prop)(e:Ending)(w':World):Prop:=
 (∃r v H' E',e= .returned v∧Q r H'∧VR E' r v∧Zt n H' E' w'∧Ext n E w E' w')∨
 (∃H' E',e= .panicked (ch t)∧X H'∧Zt n H' E' w'∧Ext n E w E' w')
def Yc(P:Program)(t n:Nat)(f:FuncId)(args:List AV)(H:Za)(Q:AV→Za→Prop)(X:Za→Prop):Prop:=
 ∀E w vs,Zt n H E w→VRs E args vs→Calls P f vs.toArray w (Zht t n E w Q X)
def Zde(P:Program)(t m l:Nat)(args:List AV)(H:Za)(Q:AV→Za→Prop)(X:Za→Prop):Prop:=
 ∀E w vs,Zt m H E w→VRs E args vs→ ∃fn tmps ca cb,(Instr.yield l vs.toArray).run P w= .ok (.round l fn tmps ca cb) w∧
  ∀ro n,RoundIn (fr ro) n P l fn tmps ca cb w (Zht t m E w Q X)
section
variable {w' w:World} {X:Za→Prop} {Q:AV→Za→Prop} {E:Env} {t n:Nat}
def Zht.mono{Q':AV→Za→Prop}{X':Za→Prop}(hq:∀r H',Q r H'→Q' r H')(hx:∀H',X H'→X' H'){e:Ending}(h:Zht t n E w Q X e w'):Zht t n E w Q' X' e w':=by
 rcases h with⟨r,v,H',E',h1,h2,h3⟩|⟨H',E',h1,h2,h3⟩
 ·exact .inl ⟨r,v,H',E',h1,hq _ _ h2,h3⟩
 ·exact .inr ⟨H',E',h1,hx _ h2,h3⟩
def Yc.mono{P:Program}{t n:Nat}{f:FuncId}{args:List AV}{H:Za}{Q Q':AV→Za→Prop}{X X':Za→Prop}(h:Yc P t n f args H Q X)(hq:∀r H',Q r H'→Q' r H')(hx:∀H',X H'→X' H'):Yc P t n f args H Q' X':=
 fun E w vs hr hv=>(h E w vs hr hv).mono fun _ _ he=>Zht.mono hq hx he
variable {H:Za} {args:List AV} {f:FuncId} {P:Program}
def Zi.x(h:Zi P n f args H Q):Yc P t n f args H Q X:=
 fun E w vs hr hv=>(h E w vs hr hv).mono fun _ _ he=>.inl he
def Yc.ret(h:Yc P t n f args H Q X)(hx:∀H',¬X H'):Zi P n f args H Q:=
 fun E w vs hr hv=>(h E w vs hr hv).mono fun _ _ he=>by
  rcases he with he|⟨H',E',_,h2,_⟩
  ·exact he
  ·exact absurd h2 (hx _)
def Yc.wk{args':List AV}(h:Yc P t n f args' H Q X)(hw:Wks args args'):Yc P t n f args H Q X:=
 fun E w vs hr hv=>h E w vs hr (forall₂_vr hw hv)
def Zeo(P:Program)(T:TT)(t n:Nat)(rs:List ResultVar)(Q:AV→Za→Prop)(X:Za→Prop):Exit→Zb→Prop:=fun e s=>match e with
 | .panic c=>c=ch t∧X s.H
 |e=>PostF P T n rs Q e s
variable {E':Env}
def Zcn{w2:World}(hx:Ext n E w E' w')(k2:∀b,b<w.heap.size→w2.heap[b]? =w'.heap[b]?)(k3:w2.os=w'.os)(k4:w2.tape=w'.tape)(k5:w2.output=w'.output)(k6:w2.drawn=w'.drawn)(k7:w2.heap.size=w'.heap.size):Ext n E w (E'.cut n) w2:=by
 refine⟨Env.Ziv hx.le,k3.trans hx.os,k4.trans hx.tape,k5.trans hx.output,fun hq=>by rw[k6];exact hx.drawn hq,by rw[k7];exact hx.size,fun b hb' ho=>?_,fun b hb' ho=>hx.own b hb' ?_⟩
 ·rw[k2 b hb'];exact hx.block b hb' ho
 ·rcases ho with⟨l,k,hm⟩|⟨l,k,hm⟩
  ·simp only[Env.cut]at hm;split at hm
   ·exact .inl ⟨l,k,hm⟩
   ·cases hm
  ·simp only[Env.cut]at hm;split at hm
   ·exact .inr ⟨l,k,hm⟩
   ·cases hm
theorem JJ{P:Program}{fn:Func}{tmps:Array Value}{R:Ending→World→Prop}{m:Nat}{H:Za}{E:Env}{chain:List PanicEntry}:∀(l:List Nat) (w:World),l.Nodup→(∀D∈l,w.heap[D]? =some (.deferred (some []))∧ ¬E.own D)→Zt m H E w→
  (∀w2,Zt m H E w2→(∀b,b∉l→w2.heap[b]? =w.heap[b]?)→w2.os=w.os→w2.tape=w.tape→w2.output=w.output→w2.drawn=w.drawn→w2.heap.size=w.heap.size→R (.panicked chain) w2)→
  ∀{F:Fence} {n:Nat},LeavesInM F n P fn tmps R (l.map mark) (.panicking chain) w
 |[],w,_,_,hr,hk,_,_=>hk w hr (fun _ _=>rfl) rfl rfl rfl rfl rfl
 |D::l,w,hn,hD,hr,hk,_,_=>by
  obtain⟨h1,h2⟩:=hD D sm;obtain⟨n1,n2⟩:=GN.1 hn;refine⟨sm,.inl ⟨D,_,rfl,run_takeDeferred h1,?_⟩⟩;refine JJ l _ n2 (fun D' hD'=>?_) (hr.putObj h1 (fun _ _ _ e=>by cases e) h2) (fun w2 q1 q2 q3 q4 q5 q6 q7=>?_)
  ·obtain⟨a1,a2⟩:=hD D' (Qz _ hD');exact⟨(World.putObj_heap_other (show D'≠D from fun e=>n1 (e▸hD'))).trans a1,a2⟩
  ·refine hk w2 q1 (fun b hb=>?_) q3 q4 q5 q6 (by rw[q7,World.putObj_size]);simp only[Ql,not_or]at hb;rw[q2 b hb.2,World.putObj_heap_other hb.1]
variable {m:Nat} {fn:Func}
def Ze8{B:Base}{N:Nat}{s':Zb}{a':Act}(hB:B=⟨w.heap.size,[]⟩)(hs':Yq B n N s' E' a' w')(hx:Ext n E w E' w')(hX:X s'.H){F:Fence}:
  LeavesInM F m P fn a'.tmps (Zht t n E w Q X) a'.defers (.panicking (ch t)) w':=by
 subst hB;obtain⟨hl0,l,hl1,hl2,hl3⟩:=hs'.defs;rw[hl1,Qs];refine JJ l w' hl2 (fun D hD=>(hl3 D hD).2) hs'.heap (fun w2 k1 k2 k3 k4 k5 k6 k7=>?_);have hs2:Yq ⟨w.heap.size,[]⟩ n N s' E' {a' with defers:=[]} w2:=⟨hs'.size,.nil _ (by rw[k7];exact hl0),hs'.tmps,k1,hs'.out⟩
 refine .inr ⟨s'.H,E'.cut n,rfl,hX,Zt.leave hs2,Zcn hx (fun b hb=>k2 b (fun hm=>?_)) k3 k4 k5 k6 k7⟩;have:w.heap.size≤b:=(hl3 b hm).1;omega
theorem Jt{T:TT}(hT:TOK P T){B:Base}{s':Zb}{a':Act}(hB:B=⟨w.heap.size,[]⟩)(hs':Yq B n fn.ntmps s' E' a' w')(hx:Ext n E w E' w')
  (h:(∀x∈fn.results.toList,X8 s'.tmps s'.H n s'.L T x)∧(∃r,Wks (fn.results.toList.map (Zdi s'.tmps s'.H n s'.L T)) r∧(∀v∈r,Below n v)∧Q (tupR r) s'.H)):
  LeavesInM Fence.wide 0 P fn a'.tmps (Zht t n E w Q X) a'.defers .returning w':=by
 obtain⟨hok,r,hw,hb,hq⟩:=h;subst hB;obtain⟨hl0,l,hl1,hl2,hl3⟩:=hs'.defs;rw[hl1,Qs];refine ZaZ l w' hl2 (fun D hD=>(hl3 D hD).2) hs'.heap (fun w2 k1 k2 k3 k4 k5 k6 k7=>?_);have hs2:Yq ⟨w.heap.size,[]⟩ n fn.ntmps s' E' {a' with defers:=[]} w2:=⟨hs'.size,.nil _ (by rw[k7];exact hl0),hs'.tmps,k1,hs'.out⟩
 obtain⟨us,hu1,hu2⟩:=ZbN hT hs2 fn.results.toList hok;have hvr:=forall₂_vr hw hu2;have hvc:VRs (E'.cut n) r us:=⟨hvr.1,fun i h1 h2=>(hvr.2 i h1 h2).cut (hb _ (Qa h1))⟩
 have hres:(results fn a'.tmps).run P w2= .ok (if h:us.toArray.size=1 then us.toArray[0]else .tuple us.toArray) w2:=by
  rw[ZcU,Qaw];simp only[Sem.run_bind,Sem.run_map,hu1,Result.andThen_ok,Sem.run_pure]
 refine⟨_,hres,.inl ⟨tupR r,_,s'.H,E'.cut n,rfl,hq,?_,Zt.leave hs2,Zcn hx (fun b hb=>k2 b (fun hm=>?_)) k3 k4 k5 k6 k7⟩⟩
 ·by_cases h1:us.toArray.size=1
  ·rw[dif_pos h1];cases r with
   |nil=>have:=hvc.1;simp at this h1;rw[this]at h1;simp at h1
   |cons x r=>
    cases r with
    |nil=>
     obtain⟨v,q,rfl,h3,h4⟩:=hvc.YW;exact h3
    |cons y r=>have:=hvc.1;simp at this h1;omega
  ·rw[dif_neg h1];have:tupR r= .tup r:=by
    cases r with
    |nil=>rfl
    |cons x r=>
     cases r with
     |nil=>have:=hvc.1;simp at this h1;omega
     |cons y r=>rfl
   rw[this];exact .tup r us hvc.1 hvc.2
 ·have:w.heap.size≤b:=(hl3 b hm).1;omega
def Yq.start{vs:List Value}(hr:Zt n H E w)(hv:VRs E args vs)(hN:args.length≤fn.ntmps):
  Yq ⟨w.heap.size,[]⟩ n fn.ntmps ⟨numbered 0 args,[],H⟩ E {tmps:=vs.toArray++Array.replicate (fn.ntmps - vs.toArray.size) undef,defers:=[]} w:=by
 have hlen:vs.length=args.length:=hv.1;refine⟨by simp;omega,.nil _ (Qg _),fun t=>?_,?_,fun l k b hl hb=>hr.out hl hb⟩
 ·rw[lkv_numbered];simp only[Uw,if_true,MW];by_cases ht:t<args.length
  ·have h1:=hv.2 t ht om;have e1:args.getD t .dead=args[t]:=by simp[Qn,Qb ht]
   have e2:(vs.toArray++Array.replicate (fn.ntmps - vs.toArray.size) undef).getD t undef=vs[t]'om:=by
    rw[QE,Gs (by simp;omega)];simp[Qb (show t<vs.length by omega)]
   rw[e1,e2];exact h1
  ·have e1:args.getD t .dead= .dead:=by simp[Qn,Uu (by omega:args.length≤t)]
   rw[e1];exact .dead _
 ·exact hr.enter
def Zl5{P:Program}{T:TT}{t n:Nat}{f:FuncId}{fn:Func}{c:Code}{args:List AV}{H:Za}{Q:AV→Za→Prop}{X:Za→Prop}(hT:TOK P T)(hf:Fun P f fn c)(hN:args.length≤fn.ntmps)
  (h:∀B,AK P ⟨none,B⟩ n fn.ntmps [.code c] (Zeo P T t n fn.results.toList Q X) ⟨numbered 0 args,[],H⟩):Yc P t n f args H Q X:=fun E w vs hr hv=>by
 refine(callsIn_wide (n:=0)).1 (callsIn_of_wp_marks hf.get hf.body trivial ?_);refine wpIn_mono (h ⟨w.heap.size,[]⟩ E w _ (Yq.start hr hv hN)) ?_;rintro e a' w' ⟨s',E',hQ,hs',hx⟩;cases e with
 |normal=>exact Jt hT rfl hs' hx hQ
 |ret=>exact Jt hT rfl hs' hx hQ
 |panic c=>
  obtain⟨rfl,hX⟩:=hQ;exact Ze8 rfl hs' hx hX
 |_=>exact hQ.elim
def Vm{P:Program}{φ:Fm}{n N:Nat}{Q:Exit→Zb→Prop}{s:Zb}{c:List PanicEntry}(h:Q (.panic c) s):∀k,AX P φ n N Q k (.panic c) s
 |[]=>h
 | .code _::k=>Vm h k
 | .blk _::k=>Vm h k
/-! A call that may panic, in a region in the text's order. -/
def Zjq(P:Program)(t m:Nat)(o:Oper)(ρ:Operand→AV)(H:Za)(S:AV→Za→Prop)(X:Za→Prop):Prop:=
 ∀E w (a:Act) (Q:Exit→Act→World→Prop) (K:Act→World→Prop),Zt m H E w→(∀x∈o.op.operands,VR E (ρ x) (a.eval x))→
  (∀E' w' cv v H',S v H'→VR E' v cv→Zt m H' E' w'→Ext m E w E' w'→K (a.put o.dst cv) w')→
  (∀E' w' H',X H'→Zt m H' E' w'→Ext m E w E' w'→Q (.panic (ch t)) a w')→ ∀ro,o.wpIn (fr ro) 0 P a w K Q
variable {c:Code} {o:Oper}
def Zlh{t m:Nat}{ρ:Operand→AV}{H:Za}{g:Operand}{caps:List AV}{args:Array Operand}{ts:Array TypeId}{S:AV→Za→Prop}{X:Za→Prop}(hf:Fun P f fn c)
  (ho:o.op= .call {callee:=.value g,args:=args,argTypes:=ts}) (hg:ρ g= .fn (.func f) caps) (az:List AV) (has:∀E (a:Act),(∀x∈args,VR E (ρ x) (a.eval x))→VRs E az (args.toList.map a.eval))
  (hc:Yc P t m f (az++caps) H S X):Zjq P t m o ρ H S X:=fun E w a Q K hr hops hk hx ro=>by
 have hgv:=hops g (by rw[ho];simp[Op.operands,Call.operands]);rw[hg]at hgv;have he:execOp a.eval o=(do let d←resolve a.eval {callee:=.value g,args:=args,argTypes:=ts} o.type;invoke d.target d.args):=by simp only[execOp,ho]
 generalize hy:a.eval g=y at hgv;cases hgv with|fn _ _ vs hl hvs=>
 have hrun:(execOp a.eval o).run P w= .ok (.enter f (args.map a.eval++vs.toArray)) w:=by
  rw[he];simp[resolve,hy,Deferred.ofValue,invoke,Xa hf]
 refine Xb hrun (fun _ e=>by cases e) ⟨JZ,JB ?_⟩;have h1:=hc E w (args.toList.map a.eval++vs) hr ((has E a (fun x hx=>hops x (by rw[ho];simp[Op.operands,Call.operands,hx]))).append ⟨hl,hvs⟩);rw[show(args.toList.map a.eval++vs).toArray=args.map a.eval++vs.toArray by rw[←List.append_toArray,←Array.toList_map]]at h1;refine h1.mono ?_;rintro e w' (⟨r',v,H1,E',rfl,hq,hv,hh,hxx⟩|⟨H1,E',rfl,hq,hh,hxx⟩)
 ·exact hk E' w' v r' H1 hq hv hh hxx
 ·exact hx E' w' H1 hq hh hxx
def ZhZ{P:Program}{t m:Nat}{ρ:Operand→AV}{H:Za}{l:Nat}{g:Operand}{args:Array Operand}{ts:Array TypeId}{S:AV→Za→Prop}{X:Za→Prop}
  (ho:o.op= .call {callee:=.value g,args:=args,argTypes:=ts}) (hg:ρ g= .fn (.yield l) []) (az:List AV) (has:∀E (a:Act),(∀x∈args,VR E (ρ x) (a.eval x))→VRs E az (args.toList.map a.eval))
  (hc:Zde P t m l az H S X):Zjq P t m o ρ H S X:=fun E w a Q K hr hops hk hx ro=>by
 have hgv:=hops g (by rw[ho];simp[Op.operands,Call.operands]);rw[hg]at hgv;have he:execOp a.eval o=(do let d←resolve a.eval {callee:=.value g,args:=args,argTypes:=ts} o.type;invoke d.target d.args):=by simp only[execOp,ho]
 generalize hy:a.eval g=y at hgv;cases hgv with|fn _ _ vs hl hvs=>
 have hvs0:vs=[]:=by simpa using hl
 subst hvs0;obtain⟨fn,tmps,ca,cb,h1,h2⟩:=hc E w (args.toList.map a.eval) hr (has E a (fun x hx=>hops x (by rw[ho];simp[Op.operands,Call.operands,hx])));rw[show(args.toList.map a.eval).toArray=args.map a.eval by rw[←Array.toList_map]]at h1;have hrun:(execOp a.eval o).run P w= .ok (.round l fn tmps ca cb) w:=by
  rw[he];simp[resolve,hy,Deferred.ofValue,invoke,h1]
 refine Xb hrun (fun _ e=>by cases e) ⟨JZ,(h2 ro _).mono ?_⟩;rintro e w' (⟨r',v,H1,E',rfl,hq,hv,hh,hxx⟩|⟨H1,E',rfl,hq,hh,hxx⟩)
 ·exact hk E' w' v r' H1 hq hv hh hxx
 ·exact hx E' w' H1 hq hh hxx
def ZgI(cx:Cx)(t:Nat)(o:Oper)(g:Operand)(args:List Operand)(ts:List TypeId)(s:Zb)(F XF:Zb→Prop):Prop:=
 ∃Qc:AV→Za→Prop,∃Xc:Za→Prop,
  ((∃f fn c caps,evT s.tmps g= .fn (.func f) caps∧Fun cx.P f fn c∧Yc cx.P t (cx.n+1) f (Yn cx.T (evT s.tmps) args ts++caps) (full cx.n s.L s.H) Qc Xc)∨
   (∃l,evT s.tmps g= .fn (.yield l) []∧Zde cx.P t (cx.n+1) l (Yn cx.T (evT s.tmps) args ts) (full cx.n s.L s.H) Qc Xc))∧
  (∀r H1,Qc r H1→ ∃L' H',H1=full cx.n L' H'∧ZM cx.n s.H H'∧F ⟨Yk s.tmps o.dst r,L',H'⟩)∧
  (∀H1,Xc H1→ ∃L' H',H1=full cx.n L' H'∧ZM cx.n s.H H'∧XF ⟨s.tmps,L',H'⟩)
def XD(cx:Cx)(op:Opt)(all:List Oper)(F:Zb→Prop):List Oper→Zb→Prop
 |[],s=>F s
 |o::r,s=>match o.guard with
  |none=>Jc cx op o s (XD cx op all F r)
  |some (j,want)=>match Wu all j with
   |none=>XD cx op all F r ⟨Yk s.tmps o.dst (.tup []),s.L,s.H⟩
   |some d=>vcG cx op o s (XD cx op all F r) want (lkv s.tmps d)
theorem Zmx(cx:Cx)(op:Opt)(all:List Oper)(F:Zb→Prop)(s:Zb):XD cx op all F [] s=F s:=rfl
theorem ZkT(cx:Cx)(op:Opt)(all:List Oper)(F:Zb→Prop)(o:Oper)(r:List Oper)(s:Zb):XD cx op all F (o::r) s=match o.guard with
  |none=>Jc cx op o s (XD cx op all F r)
  |some (j,want)=>match Wu all j with
   |none=>XD cx op all F r ⟨Yk s.tmps o.dst (.tup []),s.L,s.H⟩
   |some d=>vcG cx op o s (XD cx op all F r) want (lkv s.tmps d):=rfl
def VE{cx:Cx}(hT:TOK cx.P cx.T){op:Opt}(hop:op.dr=false){ops:Array Oper}{F:Zb→Prop}(hd:∀o∈ops.toList,∀x,o.dst=some x→x<cx.N){E0:Env}{w0:World}{Q':Exit→Act→World→Prop}{post:List Oper}:
  ∀(l:List Oper) (i:Nat) (s:Zb),ops.toList.drop i=l++post→XD cx op ops.toList F l s→
   (∀s' E' w' a',F s'→Yq cx.φ.B cx.n cx.N s' E' a' w'→Ext cx.n E0 w0 E' w'→wpOpsIn (fr cx.φ.ro) 0 cx.P ops Q' ((List.range ops.size).drop (i+l.length)) a' w')→ ∀E w a,Yq cx.φ.B cx.n cx.N s E a w→Ext cx.n E0 w0 E w→
   wpOpsIn (fr cx.φ.ro) 0 cx.P ops Q' ((List.range ops.size).drop i) a w
 |[],i,s,hi,h,hF=>fun E w a hs hx=>by simpa using hF s E w a h hs hx
 |o::r,i,s,hi,h,hF=>fun E w a hs hx=>by
  have hlt:i<ops.size:=by
   rcases Qe i ops.size with h|h
   ·exact h
   ·rw[UK (by simpa using h)]at hi;cases hi
  have hoi:ops[i]? =some o:=by
   have:=congrArg (·[0]?) hi;simpa[UM]using this
  have hmem:o∈ops.toList:=MN (by rw[hi];simp);have hi':ops.toList.drop (i+1)=r++post:=by rw[←List.drop_drop,hi];rfl
  have hF':∀s' E' w' a',F s'→Yq cx.φ.B cx.n cx.N s' E' a' w'→Ext cx.n E0 w0 E' w'→wpOpsIn (fr cx.φ.ro) 0 cx.P ops Q' ((List.range ops.size).drop (i+1+r.length)) a' w':=fun s' E' w' a' h1 h2 h3=>by
   have:=hF s' E' w' a' h1 h2 h3
   rwa [Qq,show i+(r.length+1)=i+1+r.length by omega]at this
  rw[Qu (by simpa using hlt)];simp only[MZ,wpOpsIn,hoi];have key:(Yr ops.toList s.tmps o=some true∧Jc cx op o s (XD cx op ops.toList F r))∨(Yr ops.toList s.tmps o=some false∧XD cx op ops.toList F r ⟨Yk s.tmps o.dst (.tup []),s.L,s.H⟩):=by
   simp only[XD]at h;split at h
   ·rename_i hgd;exact .inl ⟨by simp only[Yr,hgd],h⟩
   ·rename_i j want hgd;split at h
    ·rename_i hd;exact .inr ⟨by unfold Wu at hd;simp only[Yr,hgd,hd],h⟩
    ·rename_i d hd;unfold Wu at hd;unfold vcG at h;split at h
     ·rename_i hv;split at h
      ·exact .inl ⟨by simp only[Yr,hgd,hd,hv];rfl,h⟩
      ·exact .inr ⟨by simp only[Yr,hgd,hd,hv];rfl,h⟩
     ·rename_i hv;split at h
      ·exact .inr ⟨by simp only[Yr,hgd,hd,hv];rfl,h⟩
      ·exact .inl ⟨by simp only[Yr,hgd,hd,hv];rfl,h⟩
     ·rename_i hv;exact .inr ⟨by simp only[Yr,hgd,hd,hv],h⟩
     ·exact h.elim
  rcases key with⟨hg,hr⟩|⟨hg,hr⟩
  ·rw[Xe (fun j w d _ _=>hs.tmps d) hg];simp only[if_true];refine ZcK hT hop hr E w a _ _ hs.heap (fun x _=>ZdS hs.tmps x) ?_ cx.φ.ro;rintro E' w' cv v H1 ⟨L',H',rfl,ho,hF2⟩ hcv hh hx';refine VE hT hop hd r (i+1) _ hi' hF2 hF' E' w' _ ⟨by rw[size_put];exact hs.size,by rw[Ws];exact hs.defs.ext hx',fun t=>?_,hh,Yq.WR hs.out ho⟩ (hx.trans (hx'.mono (Ul _)));rw[JH,V9 hs.size (hd o hmem)];split
   ·exact hcv
   ·exact(hs.tmps t).mono hs.heap.norm hx'.le
  ·rw[Xe (fun j w d _ _=>hs.tmps d) hg];simp only[QW,if_false];refine⟨fun _ _=>trivial,?_⟩;refine VE hT hop hd r (i+1) _ hi' hr hF' E w _ ⟨by rw[size_put];exact hs.size,by rw[Ws];exact hs.defs,fun t=>?_,hs.heap,hs.out⟩ hx;rw[JH,V9 hs.size (hd o hmem)];split
   ·exact V4 E
   ·exact hs.tmps t
variable {pre post:List Oper} {ops:Array Oper}
def Zfc{cx:Cx}{k:List Itm}{Q:Exit→Zb→Prop}{s:Zb}(t:Nat)(hT:TOK cx.P cx.T)(op:Opt)(hop:op.dr=false){id:Nat}{g:Operand}{args:Array Operand}{ts:Array TypeId}(hc:c= .region id ops false)(hl:ops.toList=pre++o::post)
  (hg:o.guard=none) (ho:o.op= .call {callee:=.value g,args:=args,argTypes:=ts})
  (h:XD cx op ops.toList (fun s=>ZgI cx t o g args.toList ts.toList s (XD cx op ops.toList (AKc cx k Q) post) (Q (.panic (ch t)))) pre s)
  (hd:XH cx.N ops.toList=true:=by kernel_rfl):AKc cx (.code c::k) Q s:=by
 subst hc;intro E w a hs;refine wpIn_region ?_;have hd':=WU hd;have key:=VE hT (op:=op) hop (post:=o::post) (E0:=E) (w0:=w) (Q':=fun e a' w'=>∃s' E',AX cx.P cx.φ cx.n cx.N Q k e s'∧Yq cx.φ.B cx.n cx.N s' E' a' w'∧Ext cx.n E w E' w') hd' pre 0 s (by simpa using hl) h ?_ E w a hs (.refl _ _ _)
 ·simpa using key
 intro s1 E1 w1 a1 hF hs1 hx1;simp only[QK];have hlt:pre.length<ops.size:=by
  have:=congrArg List.length hl;simp at this;omega
 have hoi:ops[pre.length]? =some o:=by
  have:ops.toList[pre.length]? =some o:=by rw[hl];simp
  simpa using this
 have hmem:o∈ops.toList:=by rw[hl];simp
 rw[Qu (by simpa using hlt)];simp only[MZ,wpOpsIn,hoi];have hwant:Region.wanted o (yielded ops a1.tmps)=true:=by simp[Region.wanted,hg]
 rw[hwant];simp only[if_true];obtain⟨Qc,Xc,hcall,hk,hX⟩:=hF;have has:∀E (a:Act),(∀x∈args,VR E (evT s1.tmps x) (a.eval x))→VRs E (Yn cx.T (evT s1.tmps) args.toList ts.toList) (args.toList.map a.eval):=fun E a hx=>WB _ _ (fun x hx'=>hx x (by simpa using hx'))
 have hsem:Zjq cx.P t (cx.n+1) o (evT s1.tmps) (full cx.n s1.L s1.H) Qc Xc:=by
  rcases hcall with⟨f,fn,c,caps,e1,e2,e3⟩|⟨l,e1,e2⟩
  ·exact Zlh e2 ho e1 _ has e3
  ·exact ZhZ ho e1 _ has e2
 refine hsem E1 w1 a1 _ _ hs1.heap (fun x _=>ZdS hs1.tmps x) ?_ ?_ cx.φ.ro
 ·rintro E' w' cv v H1 hq hcv hh hx';obtain⟨L',H',rfl,hos,hF2⟩:=hk _ _ hq;refine VE hT (op:=op) hop (post:=[]) hd' post (pre.length+1) _ (by rw[Qs,hl,Qbt];simp) hF2 ?_ E' w' _ ⟨by rw[size_put];exact hs1.size,by rw[Ws];exact hs1.defs.ext hx',fun t=>?_,hh,Yq.WR hs1.out hos⟩ (hx1.trans (hx'.mono (Ul _)))
  ·intro s2 E2 w2 a2 hf hs2 hx2;have:ops.size≤pre.length+1+post.length:=by
    have:=congrArg List.length hl;simp at this;omega
   rw[UK (by simpa using this)];exact⟨s2,E2,hf,hs2,hx2⟩
  ·rw[JH,V9 hs1.size (hd' o hmem)];split
   ·exact hcv
   ·exact(hs1.tmps t).mono hs1.heap.norm hx'.le
 ·rintro E' w' H1 hq hh hx';obtain⟨L',H',rfl,hos,hF2⟩:=hX _ hq;exact⟨⟨s1.tmps,L',H'⟩,E',Vm hF2 k,⟨hs1.size,hs1.defs.ext hx',fun t=>(hs1.tmps t).mono hs1.heap.norm hx'.le,hh,Yq.WR hs1.out hos⟩,hx1.trans (hx'.mono (Ul _))⟩
def YA{cx:Cx}{k:List Itm}{Q:Exit→Zb→Prop}{s:Zb}(t:Nat)(hT:TOK cx.P cx.T){id:Nat}{g:Operand}{args:Array Operand}{ts:Array TypeId}(hc:c= .region id ops false)(hl:ops.toList=pre++o::post)
  (hg:o.guard=none) (ho:o.op= .call {callee:=.value g,args:=args,argTypes:=ts})
  (h:XD cx plainO ops.toList (fun s=>ZgI cx t o g args.toList ts.toList s (XD cx plainO ops.toList (AKc cx k Q) post) (Q (.panic (ch t)))) pre s)
  (hd:XH cx.N ops.toList=true:=by kernel_rfl):AKc cx (.code c::k) Q s:=Zfc t hT plainO rfl hc hl hg ho h hd
end
def ZlU{cx:Cx}{k:List Itm}{Q:Exit→Zb→Prop}{s:Zb}{c:Code}(t:Nat)(hT:TOK cx.P cx.T){id:Nat}{ops:Array Oper}{pre post:List Oper}{o:Oper}{x:Operand}(hc:c= .region id ops false)(hl:ops.toList=pre++o::post)
  (hg:o.guard=none) (ho:o.op= .panic x)
  (h:XD cx plainO ops.toList (fun s=>evT s.tmps x= .ifc t (.agg [])∧Q (.panic (ch t)) s) pre s)
  (hd:XH cx.N ops.toList=true:=by kernel_rfl):AKc cx (.code c::k) Q s:=by
 subst hc;intro E w a hs;refine wpIn_region ?_;have hd':=WU hd;have key:=VE hT (op:=plainO) rfl (post:=o::post) (E0:=E) (w0:=w) (Q':=fun e a' w'=>∃s' E',AX cx.P cx.φ cx.n cx.N Q k e s'∧Yq cx.φ.B cx.n cx.N s' E' a' w'∧Ext cx.n E w E' w') hd' pre 0 s (by simpa using hl) h ?_ E w a hs (.refl _ _ _)
 ·simpa using key
 intro s1 E1 w1 a1 hF hs1 hx1;simp only[QK];have hlt:pre.length<ops.size:=by
  have:=congrArg List.length hl;simp at this;omega
 have hoi:ops[pre.length]? =some o:=by
  have:ops.toList[pre.length]? =some o:=by rw[hl];simp
  simpa using this
 rw[Qu (by simpa using hlt)];simp only[MZ,wpOpsIn,hoi];have hwant:Region.wanted o (yielded ops a1.tmps)=true:=by simp[Region.wanted,hg]
 rw[hwant];simp only[if_true];obtain⟨hv,hQ⟩:=hF;have hxv:=ZdS hs1.tmps x;rw[hv]at hxv;generalize hy:a1.eval x=y at hxv;cases hxv with
 |ifc _ _ v hvv=>
  cases hvv with
  |agg _ vs hl2 hvs=>
   have e:vs=[]:=by simpa using hl2
   subst e;have hsem:o.semAt (fr cx.φ.ro).round a1.eval=execOp a1.eval o:=by unfold Oper.semAt;rw[ho];split<;>simp_all
   refine⟨fun _ _=>trivial,?_⟩;rw[hsem];have hrun:(execOp a1.eval o).run cx.P w1= .halt (.panic (.iface t (.agg #[]))) w1:=by
    simp[execOp,ho,hy,Instr.panic,goPanic]
   rw[hrun];exact⟨s1,E1,Vm hQ k,hs1,hx1⟩
end Go.Abs

namespace Go.Proofs.YtmdeagmbfhbbnaaGreatDoorR
open Go.Abs
section
variable {X:Za→Prop} {Q:AV→Za→Prop} {args:List AV} {fn:Func} {f:FuncId} {t n:Nat} {T:TT} {P:Program}
def Zkd{H:Za}(hT:TOK P T)(hf:Fun P f fn (ZW fn))(hN:args.length≤fn.ntmps)
  (h:∀B,AKc ⟨P,T,⟨none,B⟩,n,fn.ntmps⟩ [.code (ZW fn)] (Zeo P T t n fn.results.toList Q X) ⟨numbered 0 args,[],H⟩):Yc P t n f args H Q X:=Zl5 hT hf hN h
def xF{H:Za}(h0:P.funcs[f]? =some fn)
  (h : ∀ B, AKc ⟨P, T, ⟨none, B⟩, n, fn.ntmps⟩ [.code (ZW fn)] (Zeo P T t n fn.results.toList Q X) ⟨numbered 0 args, [], H⟩) (hN : args.length ≤ fn.ntmps := by simp) (hb : fn.body.isSome = true := by exact rfl) (hn : (fn.name == "runtime.NumGoroutine") = false := by exact rfl) (hT : TOK P T := by exact tok) : Yc P t n f args H Q X := Zkd hT (Zf h0 hb hn) hN h
attribute [go_sem] Zmx ZkT
def Vu{rs:List ResultVar}{s:Zb}(h:PostF P T n rs Q .ret s):Zeo P T t n rs Q X .ret s:=h
def JU{cx:Cx}{o:Oper}{args:List Operand}{ts:List TypeId}{s:Zb}{F XF:Zb→Prop}{c:Code}{avs:List AV}{Qc:AV→Za→Prop}{Xc:Za→Prop}(hf:Fun cx.P f fn c)(hc:Yc cx.P t (cx.n+1) f avs (full cx.n s.L s.H) Qc Xc)(ha:Yn cx.T (evT s.tmps) args ts=avs)
  (hq:∀r H1,Qc r H1→ ∃L' H',H1=full cx.n L' H'∧ZM cx.n s.H H'∧F ⟨Yk s.tmps o.dst r,L',H'⟩) (hx:∀H1,Xc H1→ ∃L' H',H1=full cx.n L' H'∧ZM cx.n s.H H'∧XF ⟨s.tmps,L',H'⟩):ZgI cx t o (.func f) args ts s F XF:=
 ⟨Qc,Xc,.inl ⟨f,fn,c,[],rfl,hf,by rw[Qs,ha];exact hc⟩,hq,hx⟩
def ZeG{f:Int→Int→Int}(hf:∀x y,f x y=x∨f x y=y){P:Int→Prop}:∀(l:List Int) (x:Int),P x→(∀y∈l,P y)→P (l.foldl f x)
 |[],x,h,_=>h
 |y::l,x,h,hl=>by
  refine ZeG hf l (f x y) ?_ fun z hz=>hl z (by simp[hz])
  rcases hf x y with e|e
  ·rw[e];exact h
  ·rw[e];exact hl y sm
def e232(n:Nat)(H:Za)(x:Int):Yc prog 197 n 232 [.int .i64 x] H (fun r H'=>x≤1000∧r= .int .i64 x∧H'=H) fun H'=>1000<x∧H'=H:=by
 refine xF func232 fun B=>?_
 refine gc ?_;by_cases h:1000<x
 ·refine nTq h ?_;refine ZlU 197 tok (pre:=[_,_]) (post:=[]) rfl rfl rfl rfl ?_;refine aq (show JY tt 197=some (.struct []) from rfl) ?_;exact⟨rfl,h,rfl⟩
 ·refine nFq h ?_;refine ge ?_;exact Vu (Zn (v:=.int .i64 x) (.refl _) (.int _ _) ⟨om,rfl,rfl⟩)
def Zsm(lo hi:Int)(n:Nat)(H:Za)(i:Nat):Zb:=
 ⟨[(7,.int .i64 (lo+i)),(6,.int .i64 hi),(4,.sl 4 (((List.range i).map fun j:Nat=>Ye (lo+(j:Int))).map Tm.enc) (.buf n 200))],[(200,.buf 40 4 i)],H⟩
def ZvB(n:Nat)(H:Za)(a b:List Int)(ha:a.length≤1000000)(hb:b.length≤1000000)(ia:∀x∈a,-2147483648≤x∧x≤2147483648)(ib:∀x∈b,-2147483648≤x∧x≤2147483648):
  Yc prog 197 n 198 [.sl 1 (a.map eInt) .any,.sl 1 (b.map eInt) .any] H (fun r H'=>∃l,WY a b=some l∧r= .sl 4 (l.map Tm.enc) .any∧H'=H) fun H'=>WY a b=none∧H'=H:=by
 refine xF func198 fun B=>?_
 refine nR ?_
 match a,b,ha,hb,ia,ib with
 |[],b,ha,hb,ia,ib=>
  have hi:WY [] b=some []:=by unfold WY;rw[if_pos (.inl rfl)]
  refine nR ?_;refine gj ?_;exact Vu (Zn (v:=.sl 4 (([]:List Tm).map Tm.enc) .any) (.any _ _ _) (ZH []) ⟨[],hi,rfl,rfl⟩)
 |x::a,[],ha,hb,ia,ib=>
  have hi:WY (x::a) []=some []:=by unfold WY;rw[if_pos (.inr rfl)]
  have h1:(((a.length+1:Nat):Int)==0)=false:=by simp;omega
  refine nq h1 ?_;refine gj ?_;exact Vu (Zn (v:=.sl 4 (([]:List Tm).map Tm.enc) .any) (.any _ _ _) (ZH []) ⟨[],hi,rfl,rfl⟩)
 |x::a,y::b,ha,hb,ia,ib=>
  have h1:(((a.length+1:Nat):Int)==0)=false:=by simp;omega
  have h2:(((b.length+1:Nat):Int)==0)=false:=by simp;omega
  have hI:WY (x::a) (y::b)=if 1000<maxS (y::b) - minS (x::a)+1 then none else some ((List.range (maxS (y::b) - minS (x::a)+1).toNat).map fun i:Nat=>Ye (minS (x::a)+(i:Int))):=by
   unfold WY;rw[if_neg sm]
  have b1:-2147483648≤minS (x::a)∧minS (x::a)≤2147483648:=ZeG (P:=fun z=>-2147483648≤z∧z≤2147483648) (fun x y=>by omega) a x (ia x sm) fun z hz=>ia z (by simp[hz])
  have b2:-2147483648≤maxS (y::b)∧maxS (y::b)≤2147483648:=ZeG (P:=fun z=>-2147483648≤z∧z≤2147483648) (fun x y=>by omega) b y (ib y sm) fun z hz=>ib z (by simp[hz])
  have c1:=e230 x a (by simp at ha;omega);have c2:=e231 y b (by simp at hb;omega);generalize minS (x::a)=lo at hI b1 c1;generalize maxS (y::b)=hi at hI b2 c2;refine nq2 h1 h2 ?_;refine gv ?_;refine cP (c1) ?_;refine cP (c2) ?_;refine kK ?_;refine YA 197 tok (pre:=[_,_,_,_]) (post:=[]) rfl rfl rfl rfl ?_;refine aS ?_;rw[IntWalk.i64_in (hi - lo) om,iw];refine JU (Zf func232 rfl rfl) (e232 (n+1) _ (hi - lo+1)) sS ?_ ?_;rotate_left
  ·rintro H1 ⟨hgt,rfl⟩;exact⟨_,_,rfl,.refl _ _,rfl,by rw[hI,if_pos hgt],rfl⟩
  rintro r H1 ⟨hle,rfl,rfl⟩;refine⟨_,_,rfl,.refl _ _,?_⟩;rw[if_neg om]at hI;refine aS ?_;refine gh ?_;refine Xn 4 200 40 4 rfl rfl ?_;obtain⟨N,hN⟩:∃N,N=(hi - lo+1).toNat:=⟨_,rfl⟩
  rw[←hN]at hI;have hls:∀i,((List.range (i+1)).map fun j:Nat=>Ye (lo+(j:Int))).map Tm.enc=((List.range i).map fun j:Nat=>Ye (lo+(j:Int))).map Tm.enc++[(Ye (lo+(i:Int))).enc]:=fun i=>by rw[List.range_succ,QC,QC];rfl
  have ho:∀(q:Nat→Prop) (r:List Tm),q 200→Inside n q (.sl 4 (r.map Tm.enc) (.buf n 200)):=fun q r h=>Abs.Yj (mB fun u=>Tm.blw n u) h
  refine Zm (Zsm lo hi n H) N rfl ?_ ?_
  ·apply kZ;repeat' first|apply q0|exact xx|apply aI
   all_goals first|exact ho _ [] rfl|(simp only[go_sem,simprocAttr,Int.add_zero];exact .refl _)
  intro i hiN;refine ZQ rfl ?_;rcases Qe i N with h|h
  ·have hc:lo+(i:Int)≤hi:=om;refine nq hc ?_;refine gi ?_;refine WE (Zf func233 rfl rfl) (e233 (lo+i)) (by simp only[go_sem,simprocAttr,Gp]) ?_;simp only[go_sem,simprocAttr,Gp];generalize hG:((List.range i).map fun j:Nat=>Ye (lo+(j:Int))).map Tm.enc=G;refine⟨rfl,⟨Zl om,om⟩,?_⟩;refine gd ?_;refine⟨h,?_⟩;unfold Zsm;rw[hls i,hG];apply kZ;repeat' first|apply q0|exact xx|apply aI
   ·refine aS ?_;rw[iw];have e:lo+((i+1:Nat):Int)=lo+(i:Int)+1:=om;rw[e];exact .refl _
   all_goals(rw[←hG,←hls i];exact ho _ _ rfl)
  ·have hi':i=N:=om;subst hi';have hc:¬lo+(i:Int)≤hi:=om;refine nq hc ?_;refine gt ?_;refine Vu (Zn (v:=.sl 4 (((List.range i).map fun j:Nat=>Ye (lo+(j:Int))).map Tm.enc) .any) (.any _ _ _) (ZH _) ⟨_,hI,rfl,rfl⟩)
end
end Go.Proofs.YtmdeagmbfhbbnaaGreatDoorR

namespace Go.Abs
def Zgw{n N m:Nat}{tm tm':List (Nat×AV)}{L:List (Nat×Ze)}{H:Za}{j e sz i:Nat}{cs:List AV}(hi:0<i)(hm:m≤i)(hb:lkb L j=some (.Zg e sz cs i))(hcs:∀c∈cs,Inside n (fun k=>k≠j) c)
  (h1:∀p∈tm',(Wk (lkv tm p.1) p.2∧Inside n (fun k=>k≠j) (lkv tm p.1))∨(∃sz0 sz1,lkv tm p.1= .sub sz0 n j i 0 m∧p.2= .msl sz1 n j m)) (hL:∀p∈delb L j,p.2.Inside n (fun k=>k≠j)):
  AWk n N ⟨tm,L,H⟩ ⟨tm',setb (delb L j) j (.Zg e sz (cs.take (m*sz)) m),H⟩:=fun B E w a hs=>by
 have h:=hs.heap;obtain⟨⟨h0,v0,hv0,hj0,hr0⟩,hm0⟩:=h.Zg n j e sz cs i (Qr n) (by simp only[full,if_true];exact hb);rcases hr0 with⟨ad,q1,q2,q3⟩|⟨g,cap,cur,q1,q2,q3,q4,q5,q6,q7,q8⟩
 ·omega
 have hF':∀b o u,E.F b o=some u→(E.freeze n j none).F b o=some u:=fun b o u hu=>hu
 obtain⟨hh,hx⟩:=h.freeze (j:=j) none hL hs.out (fun b c' e=>by cases e) (fun a v ha hv=>hv.freeze hF' ha);have hgm:∀l' k' b,(E.freeze n j none).m l' k'=some b→b≠g:=fun l' k' b hm e'=>by
  subst e';simp only[Env.freeze]at hm;split at hm
  ·cases hm
  ·exact h.mg _ _ _ _ _ hm q2
 have hgg:∀l' k' b,(E.freeze n j none).g l' k'=some b→ ¬(l'=n∧k'=j)→b≠g:=fun l' k' b hm hne e'=>by
  subst e';simp only[Env.freeze]at hm;split at hm
  ·cases hm
  ·exact hne (h.injg _ _ _ _ _ hm q2)
 have hlt:g<w.heap.size:=h.lt g (.inr ⟨n,j,q2⟩);have hmi:m*sz≤i*sz:=QF _ hm;have hvs:VRs (E.freeze n j none) (cs.take (m*sz)) (cur.toList.take (m*sz)):=by
  have h2:VRs (E.freeze n j none) cs (cur.toList.take (i*sz)):=⟨q8.1,fun i x y=>(q8.2 i x y).freeze hF' (hcs _ (Qa _))⟩
  have h3:=h2.take (m*sz)
  rwa [QaJ,Qa0 hmi]at h3
 have hle0:(E.freeze n j none).le (n+1) ((E.freeze n j none).Zx n j m (.slice (some ⟨g,0,none⟩) m cap) g []):=by
  refine⟨fun b o v hf=>?_,fun _ _ _ _ hm=>hm,fun l' k' i u _ hi=>?_,rfl⟩
  ·simp only[Env.Zx];by_cases hb:b=g
   ·subst hb;rw[show(E.freeze n j none).F b o=E.F b o from rfl,q7 o]at hf;cases hf
   ·rw[if_neg hb];exact hf
  ·simp only[Env.Zx];rw[if_neg (fun hc=>by rw[hc.1,hc.2.1]at hi;simp[Env.freeze]at hi)];exact hi
 obtain⟨hh2,hle⟩:=hh.ZjP (l:=n) (j:=j) (n:=m) (g':=g) (v:=.slice (some ⟨g,0,none⟩) m cap) (nb:=.Zg e sz (cs.take (m*sz)) m) (Qr n) (by simp[Env.freeze]) rfl [] (Qg _) (fun _ _ _=>rfl) hgm hgg hlt
  (fun o u hu=>by simp at hu) (fun o u hu=>by rw[show(E.freeze n j none).F g o=E.F g o from rfl,q7 o]at hu;cases hu)
  ⟨⟨by rw[QM,h0];exact Qa0 hmi,_,by simp[Env.Zx],fun i hi=>by simp only[Env.Zx,Env.freeze];rw[if_neg (fun h=>by omega)];simp,
   .inr ⟨g,cap,cur,rfl,by simp[Env.Zx],q3,om,q5,q6,fun o=>by simp[Env.Zx],hvs.mono hh.norm hle0⟩⟩,by simp[Env.Zx,Env.freeze]⟩
 have hx2:Ext n E w ((E.freeze n j none).Zx n j m (.slice (some ⟨g,0,none⟩) m cap) g []) w:=by
  refine⟨hx.le.trans ⟨hle.1,fun l k b hl hm=>hle.2 l k b (Gt hl) hm,fun l k i u hl hi=>hle.3 l k i u (Gt hl) hi,hle.4⟩,rfl,rfl,rfl,fun _=>Qg _,Qg _,fun _ _ _=>rfl,fun b _ ho=>?_⟩;rcases ho with⟨l,k,hm⟩|⟨l,k,hg⟩
  ·simp only[Env.Zx,Env.freeze]at hm;split at hm
   ·cases hm
   ·exact .inl ⟨l,k,hm⟩
  ·simp only[Env.Zx,Env.freeze]at hg;split at hg
   ·cases hg;exact .inr ⟨n,j,q2⟩
   ·exact .inr ⟨l,k,hg⟩
 refine⟨_,⟨hs.size,hs.defs.ext hx2,fun t'=>?_,by rw[Zr];exact hh2,hs.out⟩,hx2⟩;show VR _ (lkv tm' t') _;rcases lkv_mem (tm:=tm') (t:=t')with hd|hmm
 ·rw[hd];exact .dead _
 ·have ht:=hs.tmps t';rcases h1 _ hmm with⟨w1,w2⟩|⟨sz0,sz1,w1,w2⟩
  ·exact w1.vr ((ht.freeze hF' w2).mono hh.norm hle)
  ·dsimp only at w1 w2 ht;rw[w1]at ht;rw[w2];generalize a.tmps.getD t' undef=x at ht;cases ht with
   |sub _ _ _ _ _ _ g' cap' hh' hm=>
    rw[hv0,q1]at hh';simp only[Qp,Value.slice.injEq,Addr.mk.injEq]at hh';obtain⟨⟨rfl,_,_⟩,_,rfl⟩:=hh';simp only[GV,MW];exact .msl _ _ _ _ _ _ (by simp[Env.Zx])
def ZbV{cx:Cx}{c:Code}{k:List Itm}{Q:Exit→Zb→Prop}{tm:List (Nat×AV)}{L:List (Nat×Ze)}{H:Za}(j l q:Nat)(x:Ze)(tm':List (Nat×AV))(hl:l<cx.n)(hfree:H l q=none)(hj:lkb L j=some x)(hb:x.Below cx.n)
  (h1:Yg (fun p=>Zhf cx.n j (lkv tm p.1)∧Wk (ren cx.n j l q (lkv tm p.1)) p.2) tm') (hL:Yg (fun p=>Yg (fun a=>Zhf cx.n j a) p.2.avs∧p.2.at_=[]∧p.2.isRec=false) (delb L j))
  (h:AKc cx (.code c::k) Q ⟨tm',Zer cx.n j l q L,H.upd l q x⟩):AKc cx (.code c::k) Q ⟨tm,L,H⟩:=
 ZO (ZkC j l q hl hfree hj hb h1.mem (fun p hp=>by
  obtain⟨g1,g2,g3⟩:=hL.mem p hp;exact⟨g1.mem,⟨(fun r hr=>absurd (g2▸hr) (QA)),g3⟩⟩)) h
end Go.Abs

namespace Go.Proofs.YtmdeagmbfhbbnaaGreatDoorR
open Go.Abs
def growO:Opt:=⟨false,false,fun d=>if d=22 then .lay true else .auto,[]⟩
def j129(n:Nat)(H:Za)(l q c:Nat)(hl:l<n)(hfree:H l q=none)(hc:c≤1000000000):
  Zi prog n 129 [.sl 1 [] .full,.int .i64 c] H fun r H'=>r= .msl 1 l q 0∧H'=H.upd l q (.Zg 9 1 [] 0):=by
 have hw:IntKind.i64.wrap (c:Int)=c:=by rw[iw]
 have hw0:IntKind.i64.wrap 0=0:=rfl;refine aF func129 fun B=>?_
 refine gc ?_;refine nF ?_;refine nr ?_;simp only[go_sem,simprocAttr,hw0,Int.sub_self,Int.sub_zero,hw];refine nr ?_;simp only[go_sem,simprocAttr,hw0,Int.sub_zero,hw];by_cases hpos:0<c
 ·have e0:decide ((0:Int)<(c:Int))=true:=by simp;omega
  refine nTq e0 ?_;refine kK ?_;refine YR tok growO rfl rfl (by kernel_rfl) ?_;simp only[go_sem,simprocAttr,growO];refine⟨⟨om,Zl om,om⟩,hpos,?_⟩;repeat refine kn rfl ?_
  refine ZO (Zgw (tm':=[(0,.msl 1 n 22 0)]) (j:=22) (m:=0) hpos (Uw _) rfl ?_ ?_ ?_) ?_
  ·intro x hx;simp only[flat,Qx]at hx;obtain⟨y,hy,hx⟩:=hx;rw[(Uk.1 hy).2]at hx;simp only[AV.cells,Qm]at hx;rw[hx];exact .str _
  ·intro p hp;simp only[Qm]at hp;subst hp;exact .inr ⟨1,1,rfl,rfl⟩
  ·intro p hp;cases hp
  simp only[go_sem,simprocAttr,GV,QaN];refine gh ?_;refine ZbV 22 l q (.Zg 9 1 [] 0) [(4,.msl 1 l q 0)] hl hfree rfl ?_ ?_ ?_ ?_
  ·exact⟨fun a ha=>(by cases ha),fun p hp=>(by cases hp)⟩
  ·exact⟨⟨.inr (.inr (.inr ⟨1,0,rfl⟩)),by simp[lkv,ren,Wk.refl]⟩,trivial⟩
  ·trivial
  refine nV ?_;refine⟨by simp[X8],[.msl 1 l q 0],⟨.refl _,trivial⟩,by simp only[Qm,forall_eq];exact .msl _ _ _ _ hl,rfl,rfl⟩
 ·have e0:decide ((0:Int)<(c:Int))=false:=by simp;omega
  refine nFq e0 ?_;refine gh ?_;refine Zcq 4 300 9 1 rfl rfl ?_;refine ZbV 300 l q (.Zg 9 1 [] 0) [(4,.msl 1 l q 0)] hl hfree rfl ?_ ?_ ?_ ?_
  ·exact⟨fun a ha=>(by cases ha),fun p hp=>(by cases hp)⟩
  ·exact⟨⟨.inr (.inr (.inr ⟨1,0,rfl⟩)),by simp[lkv,ren,Wk.refl]⟩,trivial⟩
  ·trivial
  refine nV ?_;refine⟨by simp[X8],[.msl 1 l q 0],⟨.refl _,trivial⟩,by simp only[Qm,forall_eq];exact .msl _ _ _ _ hl,rfl,rfl⟩
def Zvh(n:Nat)(ls:List SS)(H:Za)(i:Nat):Zb:=
 ⟨[(11,.int .i64 i),(10,.int .i64 ls.length),(9,.sl 1 (ls.map eSs) .any),(3,.int .i64 (ls.take i).flatten.length),(0,.sl 1 (ls.map eSs) .any)],[],H⟩
def Zt4(n:Nat)(ls:List SS)(H:Za)(i:Nat):Zb:=
 ⟨[(27,.int .i64 i),(26,.int .i64 ls.length),(25,.sl 1 (ls.map eSs) .any),(6,.msl 1 n 300 (ls.take i).flatten.length)],[(300,.Zg 9 1 (Yo (ls.take i).flatten) (ls.take i).flatten.length)],H⟩
def Zd0{α:Type}(ls:List (List α))(i:Nat)(h:i<ls.length):(ls.take (i+1)).flatten=(ls.take i).flatten++ls[i]:=by
 rw[Qj h,List.flatten_append];simp
def Zbq{α:Type}(ls:List (List α))(i:Nat):(ls.take i).flatten.length≤ls.flatten.length:=by
 conv=>rhs;rw[←Q7 i ls,List.flatten_append,Qh]
 omega
def j82(ls:List SS)(hl:ls.length≤1000000)(hs:ls.flatten.length≤1000000):Pure prog 82 [.sl 1 (ls.map eSs) .any] (eSs ls.flatten):=by
 intro n H;refine aF func82 fun B=>?_
 refine gz ?_;refine Zm (Zvh n ls H) ls.length rfl ?_ ?_
 ·exact KK
 intro i hi;refine ZQ rfl ?_;rcases Qe i ls.length with h|h
 ·have h1:=Zd0 ls i h;have h2:=Zbq ls (i+1);have h3:(ls.take (i+1)).flatten.length=(ls.take i).flatten.length+ls[i].length:=by rw[h1,Qh]
  have hw:IntKind.i64.wrap (((ls.take i).flatten.length:Int)+(ls[i].length:Int))=(((ls.take (i+1)).flatten.length:Nat):Int):=by rw[h3,iw];omega
  refine nr ?_;simp only[go_sem,simprocAttr,h];refine nT ?_;refine nq2 (getD_map eSs _ _ h) h ?_;refine nr ?_;simp only[go_sem,simprocAttr,eSs,hw];refine nR ?_;have hn0:decide ((((ls.take (i+1)).flatten.length:Nat):Int)<0)=false:=sm;refine nFq hn0 ?_;refine gd ?_;exact KK
 ·have hi':i=ls.length:=om;subst hi';refine nq (QD.2 h) ?_;refine gg ?_;refine nt0 ?_;refine YT (caps:=[]) (avs:=[.sl 1 [] .full,.int .i64 ls.flatten.length]) rfl (Zf func129 rfl rfl) (j129 (n+1) _ n 300 ls.flatten.length (Qr n) (by simp only[full,if_true];rfl) om) sS ?_;rintro r H1 ⟨rfl,rfl⟩;refine⟨[(300,.Zg 9 1 [] 0)],H,(Zr n _ H 300 _).symm,.refl _ _,?_⟩;refine aS ?_;refine gh ?_;refine Zm (Zt4 n ls H) ls.length rfl ?_ ?_
  ·exact KK
  intro i hi;refine ZQ rfl ?_;rcases Qe i ls.length with h|h
  ·have h1:=Zd0 ls i h;have h2:=Zbq ls (i+1);have h3:(ls.take (i+1)).flatten.length=(ls.take i).flatten.length+ls[i].length:=by rw[h1,Qh]
   have hfl:Yo (ls.take i).flatten++flat (ls[i].map AV.str)=Yo (ls.take (i+1)).flatten:=by rw[show flat (ls[i].map AV.str)=ls[i].map AV.str from flat_aStrs _,h1,Yo,Yo,QC]
   have hone:∀y∈ls[i].map AV.str,y.cells.all AV.one=true:=fun y hy=>by obtain⟨u,_,rfl⟩:=Qi.1 hy;rfl
   refine nq h ?_;refine nT ?_;refine nq2 (getD_map eSs _ _ h) h ?_;refine nr ?_;simp only[go_sem,simprocAttr,eSs,hfl,←h3];refine⟨⟨hone,Zl om,om⟩,?_⟩;refine gd ?_;exact KK
  ·have hi':i=ls.length:=om;subst hi';refine nq (QD.2 h) ?_;refine gg ?_;refine nt0 ?_;refine kK ?_;refine ZO (Xq (tm':=[(2,.sl 1 (Yo ls.flatten) .any)]) (j:=300) (Yo ls.flatten) rfl (flat_aStrs _) (by rw[Yo,Qw]) (fun x hx=>by obtain⟨u,_,rfl⟩:=Qi.1 hx;rfl) (Xo _).mem (fun p hp=>?_) (fun p hp=>?_)) ?_
   ·simp only[Qm]at hp;subst hp;exact .inr ⟨1,rfl,rfl⟩
   ·cases hp
   refine nV ?_;exact Zc (.refl _) (ZfG n _) rfl
def nm_len:(∀t:Tm,(nmT t).length≤t.sz)∧ ∀l,(nmT.nms l).length≤Tm.sz.szs l:=by
 refine XL (fun k n s l ih=>?_) (Qg _) fun t r h1 h2=>?_
 ·rw[nmT,Qh];simp only[Tm.sz];split<;>simp<;>omega
 ·rw[nmT.nms,Qh];simp only[Tm.sz.szs];omega
def ZgU{α:Type}(c:α→α→Int):∀l:List α,(XT c l).length≤l.length
 |[]=>Qg _
 |x::l=>by
  have h1:∀r:List α,(Zeq c x r).length≤r.length+1:=by
   intro r;induction r with
   |nil=>simp[Zeq]
   |cons y r ih=>unfold Zeq;split<;>(try split)<;>simp only[Qq]<;>omega
  have h2:=ZgU c l;have h3:=h1 (XT c l);show(Zeq c x (XT c l)).length≤_;rw[Qq];omega
def ZeN(t:Tm):(ZU t).length≤t.sz:=Ue (ZgU _ _) (nm_len.1 t)
def flatMap_vars_len:∀l:List Tm,(l.flatMap ZU).length≤Tm.sz.szs l
 |[]=>Qg _
 |t::r=>by
  have:=flatMap_vars_len r;have:=ZeN t;rw[QV,Qh];simp only[Tm.sz.szs];omega
structure Sm (x:Lt):Prop where
 good:x.Good
 L:x.L.sz≤305
 R:x.R.sz≤305
 at_:Tm.sz.szs x.at_.args≤305
def Ji(x:Lt):List Tm:=if x.kind=2 then [x.L,x.R]else x.at_.args
def Sm.tv{x:Lt}(h:Sm x):(∀t∈Ji x,t.Good∧t.sz≤305)∧(Ji x).length≤305∧(ZA x).length≤610:=by
 unfold Ji ZA;have h1:=h.L;have h2:=h.R;have h3:=h.at_;split
 ·refine⟨fun t ht=>?_,sm,?_⟩
  ·simp only[Ql,QA,or_false]at ht;rcases ht with rfl|rfl
   ·exact⟨h.good.L,h.L⟩
   ·exact⟨h.good.R,h.R⟩
  ·have:=flatMap_vars_len [x.L,x.R];simp only[Tm.sz.szs]at this;omega
 ·refine⟨fun t ht=>⟨h.good.at_.arg ht,by have:=Tm.ZbY ht;omega⟩,by have:=Tm.sz_len x.at_.args;omega,by have:=flatMap_vars_len x.at_.args;omega⟩
def Zwr(l:List Tm)(hl:∀t∈l,t.Good∧t.sz≤305):Zft 56 [] Tm.enc eSs l ZU:=
 ⟨⟨_,_,Zf func56 rfl rfl⟩,fun t ht=>Abs.Pure.tabs (j56 t (hl t ht).1 (by have:=nm_len.1 t;have:=(hl t ht).2;omega)),fun _=>trivial⟩
def j41(x:Lt)(hx:Sm x):ZR prog 41 [x.enc] (eSs (ZA x)):=by
 intro n H hn hT;obtain⟨h1,h2,h3⟩:=hx.tv;have hv:ZA x=((Ji x).map ZU).flatten:=by rw[ZA,Ji,List.flatMap_def]
 have ha:=j83 (Ji x) om 56 [] ZU (Zwr _ h1);rw[hv]at h3⊢;have hc:=j82 ((Ji x).map ZU) (by simp;omega) om;refine aF func41 fun B=>?_
 refine gz ?_;refine WM ⟨[(3,.sl 4 ((Ji x).map Tm.enc) .any)],[],H⟩ ?_ ?_
 ·by_cases k2:x.kind=2
  ·have e2:(x.kind==2)=true:=by simp[k2]
   have et:Ji x=[x.L,x.R]:=by rw[Ji,if_pos k2]
   rw[et];refine nTq e2 ?_;refine nR ?_;refine⟨rfl,?_⟩;refine nN ?_;refine⟨rfl,?_⟩;apply kZ;repeat' first|apply q0|exact xx|apply aI
   all_goals first|exact .any _ _ _|(simp only[go_sem,simprocAttr];exact .any _ _ _)|exact(ZB (fun y hy=>by simp only[Ql,QA,or_false]at hy;rcases hy with rfl|rfl<;>exact Tm.blw n _)).inside|skip
  ·have e2:(x.kind==2)=false:=by simp[k2]
   have et:Ji x=x.at_.args:=by rw[Ji,if_neg k2]
   rw[et];refine nFq e2 ?_;refine nN ?_;refine⟨rfl,?_⟩;exact KK
 refine nR ?_;refine cT (ha) ?_;refine cP (hc) ?_;refine nV ?_;exact Zc (.refl _) (ZfG n _) rfl
structure Zq6 (m:Nat) (H0:Za) (f:Nat) (caps:List AV) (l:List Bnd) (g:Bnd→List Bnd×Int):Prop where
 fn:∃fn c,Fun prog f fn c
 on:∀x∈l,∀n H,m≤n→Zet m H H0→PC prog n f (Zj x::caps) H (.tup [.sl 1 ((g x).1.map Zj) .any,eInt (g x).2])
 below:∀n,m≤n→Yg (fun c=>Below n c) caps
theorem flat_bnds:∀l:List Bnd,flat (l.map Zj)=l.map Zj
 |[]=>rfl
 |x::l=>by rw[Qv,Yw,flat_bnds l];rfl
def ZdW(g:Bnd→List Bnd×Int)(l:List Bnd)(i:Nat):List Bnd×Int:=(l.take i).foldl (fun p b=>WC p (g b)) ([],0)
def Zo6(g:Bnd→List Bnd×Int)(l:List Bnd)(i:Nat)(h:i<l.length):ZdW g l (i+1)=WC (ZdW g l i) (g l[i]):=by
 unfold ZdW;rw[Qj h,Md];rfl
def ZqN(g:Bnd→List Bnd×Int)(l:List Bnd)(i:Nat):(ZdW g l i).1.length≤20001:=by
 unfold ZdW;generalize l.take i=q;have:∀(q:List Bnd) (p:List Bnd×Int),p.1.length≤20001→(q.foldl (fun p b=>WC p (g b)) p).1.length≤20001:=by
  intro q;induction q with
  |nil=>intro p h;exact h
  |cons x q ih=>
   intro p h;refine ih _ ?_;simp only[WC,Zg5];split
   ·simp;omega
   ·omega
 exact this q _ sm
def ZbH{n:Nat}{p:Nat→Prop}(l:List Bnd):Yg (fun c=>Inside n p c) (l.map Zj):=Yb fun c hc=>by obtain⟨u,_,rfl⟩:=Qi.1 hc;exact(Zw n u).inside
def Zqq(n l b:Nat)(now:List Bnd)(f:Nat)(caps:List AV)(acc:List Bnd×Int)(H:Za)(i:Nat):Zb:=
 ⟨[(16,.int .i64 i),(15,.int .i64 now.length),(14,.sl 1 (now.map Zj) .any),(6,.int .i64 acc.2),(5,.msl 1 n 200 acc.1.length),(1,.fn (.func f) caps),(0,.ptr l b 0)],[(200,.Zg 34 1 (acc.1.map Zj) acc.1.length)],H⟩
def j130(n:Nat)(H:Za)(l b:Nat)(hl:l<n)(mp sp td:AV)(now:List Bnd)(hnow:now.length≤1000000)(hbx:H l b=some (.box [mp,sp,.sl 1 (now.map Zj) .any,td]))(hmp:Below n mp∧Below n sp∧Below n td)(f:Nat)(caps:List AV)(g:Bnd→List Bnd×Int)(hf:Zq6 n H f caps now g)(hg:∀x∈now,(g x).1.length≤1000000):
  Zi prog n 130 [.ptr l b 0,.fn (.func f) caps] H fun r H'=>r=eInt (Go.Abs.Xo g now).2∧H'=H.upd l b (.box [mp,sp,.sl 1 ((Go.Abs.Xo g now).1.map Zj) .any,td]):=by
 have hne:¬l=n:=om;obtain⟨⟨fn,c,hf⟩,hon,hblw⟩:=hf;have hfi:∀q,Inside n q (.fn (.func f) caps):=fun q=>(Below.fn _ _ fun i hi=>(hblw n (Qg _)).mem _ (Qa hi)).inside
 refine aF func130 fun B=>?_
 refine gc ?_;refine nR ?_;refine nq2 hne hbx ?_;refine kK ?_;refine Zcq 5 200 34 1 rfl rfl ?_;refine Zm (fun i=>Zqq n l b now f caps (ZdW g now i) H i) now.length rfl ?_ ?_
 ·exact KK
 intro i hi;refine ZQ rfl ?_;have hal:=ZqN g now i;rcases Qe i now.length with h|h
 ·have hsucc:=Zo6 g now i h;have hgl:=hg _ (Qa h);refine nq h ?_;refine nT ?_;refine nq2 (getD_map Zj _ _ h) h ?_;refine nR ?_;refine YE (avs:=[Zj now[i]]) rfl hf (hon now[i] (Qa h) _ _ (Ul _) (fun l' k hlt=>Zk hlt _ _ _)) rfl ?_;refine aS ?_;obtain⟨r,hr⟩:∃r,r=g now[i]:=⟨_,rfl⟩
  rw[←hr]at hsucc hgl⊢;generalize hacc:ZdW g now i=acc at hal hsucc;obtain⟨A,e⟩:=acc;dsimp only at hal;have hst:ZdW g now (i+1)=(Zg5 (A++r.1),if r.2=3∨e=0 then r.2 else e):=hsucc;have hwi:IntKind.i64.wrap ((i:Int)+1)=((i+1:Nat):Int):=by rw[iw];omega
  have hone:∀y∈r.1.map Zj,y.cells.all AV.one=true:=fun y hy=>by obtain⟨u,_,rfl⟩:=Qi.1 hy;rfl
  refine kK ?_;refine WM ⟨[(31,.bool (decide (r.2=3∨e=0))),(10,.int .i64 r.2),(9,.sl 1 (r.1.map Zj) .any),(16,.int .i64 i),(15,.int .i64 now.length),(14,.sl 1 (now.map Zj) .any),(6,.int .i64 e),(5,.msl 1 n 200 A.length),(1,.fn (.func f) caps),(0,.ptr l b 0)],[(200,.Zg 34 1 (A.map Zj) A.length)],H⟩ ?_ ?_
  ·cases h1:(r.2==3)with
   |true=>
    have e1:decide (r.2=3∨e=0)=true:=by simp at h1;simp[h1]
    rw[e1];refine nr ?_;simp only[go_sem,simprocAttr,eInt,h1];refine nN ?_;refine⟨rfl,?_⟩;exact KK
   |false=>
    have e1:decide (r.2=3∨e=0)=(e==0):=by
     simp only[beq_eq_false_iff_ne]at h1;by_cases hz:e=0<;>simp[h1,hz]
    rw[e1];refine nr ?_;simp only[go_sem,simprocAttr,eInt,h1];refine nN ?_;refine⟨rfl,?_⟩;exact KK
  generalize he':(if r.2=3∨e=0 then r.2 else e)=e' at hst;refine kK ?_;refine WM ⟨[(9,.sl 1 (r.1.map Zj) .any),(16,.int .i64 i),(15,.int .i64 now.length),(14,.sl 1 (now.map Zj) .any),(6,.int .i64 e'),(5,.msl 1 n 200 A.length),(1,.fn (.func f) caps),(0,.ptr l b 0)],[(200,.Zg 34 1 (A.map Zj) A.length)],H⟩ ?_ ?_
  ·by_cases hz:r.2=3∨e=0
   ·have e1:decide (r.2=3∨e=0)=true:=by simp[hz]
    rw[if_pos hz]at he';subst he';refine nTq e1 ?_;refine gd ?_;refine⟨rfl,?_⟩;exact KK
   ·have e1:decide (r.2=3∨e=0)=false:=by simp[hz]
    rw[if_neg hz]at he';subst he';refine nFq e1 ?_;refine nN ?_;refine⟨rfl,?_⟩;exact KK
  have hap:A.map Zj++flat (r.1.map Zj)=(A++r.1).map Zj:=by rw[flat_bnds,QC]
  have hal2:A.length+r.1.length=(A++r.1).length:=by rw[Qh]
  refine nq2 hap hal2 ?_;have hrl:(A++r.1).length≤1020001:=by rw[Qh];omega
  refine⟨⟨hone,Zl om,om⟩,?_⟩;generalize A++r.1=q at hst hrl⊢;refine nR ?_;by_cases hq:20000<q.length
  ·have e1:decide ((20000:Int)<(q.length:Int))=true:=by simp;omega
   have ec:Zg5 q=q.take 20001:=by unfold Zg5;rw[if_pos hq]
   have etl:(q.take 20001).length=20001:=Uo om;rw[ec]at hst;refine nTq e1 ?_;refine nR ?_;refine⟨om,?_⟩;refine kK ?_;refine ZO (Zgw (tm':=[(16,.int .i64 i),(15,.int .i64 now.length),(14,.sl 1 (now.map Zj) .any),(6,.int .i64 e'),(5,.msl 1 n 200 20001),(1,.fn (.func f) caps),(0,.ptr l b 0)]) (j:=200) (m:=20001) (show 0<q.length by omega) om rfl (ZbH q).mem ?_ ?_) ?_
   ·intro p hp;simp only[Ql,QA,or_false]at hp;rcases hp with rfl|rfl|rfl|rfl|rfl|rfl|rfl
    ·exact .inl ⟨.refl _,.int _ _⟩
    ·exact .inl ⟨.refl _,.int _ _⟩
    ·exact .inl ⟨.refl _,(ZF _).inside⟩
    ·exact .inl ⟨.refl _,.int _ _⟩
    ·exact .inr ⟨1,1,rfl,rfl⟩
    ·exact .inl ⟨.refl _,hfi _⟩
    ·exact .inl ⟨.refl _,.ptr _ _ _ (.inl hl)⟩
   ·intro p hp;cases hp
   simp only[go_sem,simprocAttr,setb,delb,Qas,←List.map_take];refine gd ?_;rw[hst];unfold Zqq;rw[etl];apply kZ;repeat' first|apply q0|exact xx|apply aI
   all_goals first|exact hfi _|exact(ZF _).inside|exact .ptr _ _ _ (.inl hl)|exact ZmQ (.inr ⟨rfl,rfl⟩)|exact ZbH _|(simp only[go_sem,simprocAttr,hwi];exact .refl _)
  ·have e1:decide ((20000:Int)<(q.length:Int))=false:=by simp;omega
   have ec:Zg5 q=q:=by unfold Zg5;rw[if_neg hq]
   rw[ec]at hst;refine nFq e1 ?_;refine gd ?_;rw[hst];unfold Zqq;apply kZ;repeat' first|apply q0|exact xx|apply aI
   all_goals first|exact hfi _|exact(ZF _).inside|exact .ptr _ _ _ (.inl hl)|exact ZmQ (.inr ⟨rfl,rfl⟩)|exact ZbH _|(simp only[go_sem,simprocAttr,hwi];exact .refl _)
 ·have hi':i=now.length:=om;subst hi';have hfin:Go.Abs.Xo g now=((ZdW g now now.length).1,if(ZdW g now now.length).2=0∧20000<(ZdW g now now.length).1.length then 5 else(ZdW g now now.length).2):=by
   unfold Go.Abs.Xo ZdW;rw[QI]
  rw[hfin];generalize ZdW g now now.length=acc at hal⊢;obtain⟨A,e⟩:=acc;dsimp only at hal⊢;refine nq (QD.2 h) ?_;refine gg ?_;refine kK ?_;refine WM ⟨[(48,.bool (decide (e=0∧20000<A.length))),(6,.int .i64 e),(5,.msl 1 n 200 A.length),(0,.ptr l b 0)],[(200,.Zg 34 1 (A.map Zj) A.length)],H⟩ ?_ ?_
  ·cases h1:(e==0)with
   |true=>
    have e0:e=0:=by simpa using h1
    have e1:decide (e=0∧20000<A.length)=decide ((20000:Int)<(A.length:Int)):=by simp only[e0,true_and];apply decide_eq_decide.2;omega
    rw[e1];refine nq h1 ?_;refine nN ?_;refine⟨rfl,?_⟩;exact KK
   |false=>
    have e0:¬e=0:=by simpa using h1
    have e1:decide (e=0∧20000<A.length)=false:=by simp[e0]
    rw[e1];refine nq h1 ?_;refine nN ?_;refine⟨rfl,?_⟩;exact KK
  refine kK ?_;refine WM ⟨[(6,.int .i64 (if e=0∧20000<A.length then 5 else e)),(5,.msl 1 n 200 A.length),(0,.ptr l b 0)],[(200,.Zg 34 1 (A.map Zj) A.length)],H⟩ ?_ ?_
  ·by_cases hz:e=0∧20000<A.length
   ·have e1:decide (e=0∧20000<A.length)=true:=by simp[hz]
    rw[if_pos hz];refine nTq e1 ?_;refine gd ?_;refine⟨rfl,?_⟩;exact KK
   ·have e1:decide (e=0∧20000<A.length)=false:=by simp[hz]
    rw[if_neg hz];refine nFq e1 ?_;refine nN ?_;refine⟨rfl,?_⟩;exact KK
  generalize (if e=0∧20000<A.length then 5 else e)=e';refine ZO (Xq (tm':=[(6,.int .i64 e'),(5,.sl 1 (A.map Zj) .any),(0,.ptr l b 0)]) (j:=200) (A.map Zj) rfl (flat_bnds A) sm (fun x hx=>by obtain⟨u,_,rfl⟩:=Qi.1 hx;rfl) (ZbH A).mem ?_ ?_) ?_
  ·intro p hp;simp only[Ql,QA,or_false]at hp;rcases hp with rfl|rfl|rfl
   ·exact .inl ⟨.refl _,.int _ _⟩
   ·exact .inr ⟨1,rfl,rfl⟩
   ·exact .inl ⟨.refl _,.ptr _ _ _ (.inl hl)⟩
  ·intro p hp;cases hp
  simp only[go_sem,simprocAttr,delb];refine nr ?_;refine aq2 hne hbx ?_;refine⟨.inr (Ze.ZC ⟨hmp.1,hmp.2.1,ZF A,hmp.2.2,trivial⟩),?_⟩;refine ge ?_;exact Zn (.refl _) (.int _ _) ⟨rfl,rfl⟩
def ExpOK:Prop:=∀t:Tm,t.Good→ZR prog 100 [t.enc] (.tup [.sl 4 ((XR t).1.map Tm.enc) .any,eInt (XR t).2])
/-! No term has more than a thousand expansions. -/
def Zr8{α:Type}(c:α→α→Int)(l:List α):(XT c l).length≤l.length:=ZgU c l
theorem Zka{α:Type}:∀(ps:List (List α)),(Z7 ps).length=ps.foldr (fun p n=>p.length*n) 1
 |[]=>rfl
 |p::r=>by
  have h1:∀q:List α,(q.flatMap fun x=>(Z7 r).map (x:: ·)).length=q.length*(Z7 r).length:=by
   intro q;induction q with
   |nil=>simp
   |cons x q ih=>rw[QV,Qh,ih,Qw,Qq,Ui];omega
  rw[Z7,h1,Zka r];rfl
def cntS_some:∀(ps:List (List Tm)) (n m:Nat),ps.foldlM (fun n p=>if 1000<n*p.length then none else some (n*p.length)) n=some m→n*ps.foldr (fun p n=>p.length*n) 1=m∧(n≤1000→m≤1000)
 |[],n,m,h=>by simp at h;subst h;simp
 |p::r,n,m,h=>by
  rw[MQ]at h;by_cases hb:1000<n*p.length
  ·rw[if_pos hb]at h;cases h
  ·rw[if_neg hb]at h;obtain⟨h1,h2⟩:=cntS_some r (n*p.length) m h;refine⟨?_,fun _=>h2 om⟩;rw[List.foldr_cons,←Nat.mul_assoc];exact h1
def Zp1{l:List Int}{r:List Tm}(h:Zo7 l=some r):r.length≤1000:=by
 unfold Zo7 at h;split at h
 ·cases h
 ·rename_i hb;cases h;rw[Qw];omega
section
variable {t:Tm}
def Zbb{l:List Tm}(h:expandS t=some l):l.length≤1000:=by
 cases t with|mk k n s a=>
 cases a with
 |nil=>rw[Vy]at h;cases h;simp
 |cons u r=>
  obtain⟨ps,hps,he⟩:=Zah h sm;split at he
  ·unfold WY at he;split at he
   ·cases he;simp
   ·split at he
    ·cases he
    ·rename_i hb;cases he;rw[Qw,Gp];omega
  ·split at he
   ·exact Zp1 he
   ·unfold ZcX at he;split at he
    ·cases he;simp
    ·cases hc:Zkr ps with
     |none=>rw[hc]at he;cases he
     |some m=>
      rw[hc]at he;simp only[UJ,Qp]at he;rw[←he,Qw,Zka];have:=cntS_some ps 1 m hc;omega
def ZfI(t:Tm)(b:Bnd):(Yz t b).1.length≤1000:=by
 unfold Yz;split
 ·split
  ·rename_i l h;exact Zbb h
  ·simp
 ·simp
structure BT (b:Bnd) (t:Tm):Prop where
 gb:ZI b
 len:b.length≤100000
 good:t.Good
 sz:t.sz≤305
 dom:∀n∈nmT t,n∈Zp b
variable {b:Bnd}
def BT.app(h:BT b t):(Zv b t).Good:=Zaz h.gb h.good.nm h.sz
def BT.gr(h:BT b t):grT (Zv b t)=true:=Jz h.gb t h.dom
def BT.exp(h:BT b t):∀v∈(Yz t b).1,v.Good:=fun v hv=>Xi (Zad h.gb h.dom hv)
def BT.XR{b:Bnd}{t:Tm}(h:BT b t)(hv:YI (Zv b t)=true):XR (Zv b t)=Yz t b:=by
 unfold Go.Proofs.YtmdeagmbfhbbnaaGreatDoorR.XR Yz;rw[hv,h.gr];rfl
def j132(hE:ExpOK)(b:Bnd)(t:Tm)(h:BT b t):ZR prog 132 [t.enc,Zj b] (.tup [.sl 4 ((Yz t b).1.map Tm.enc) .any,eInt (Yz t b).2]):=by
 intro n H hn hT;refine aF func132 fun B=>?_
 refine gc ?_;refine cT (ZsQ b h.gb.asc (by have:=h.len;omega) t h.good) ?_;refine nR ?_;refine cT (a72 (Zv b t) h.app) ?_;cases hv:YI (Zv b t)with
 |false=>
  have e:Yz t b=([],3):=by unfold Yz;rw[if_neg (by simp[hv])]
  rw[e];refine aS ?_;refine gj ?_;exact ZG (.any _ _ _) (.refl _) (ZH []) (.int _ _) rfl
 |true=>
  refine aS ?_;refine gv ?_;refine cT (hE (Zv b t) h.app) ?_;rw[h.XR hv];refine nV ?_;refine ZG ?_ ?_ (ZH _) (.int _ _) rfl
  ·exact xS
  ·exact xS
def j134(x:Lt)(hop:0≤x.op∧x.op≤255)(v w:Tm)(hv:v.Good)(hw:w.Good):Pure prog 134 [w.enc,.iptr x.cs,.iptr v.cs] (.bool (YX x.op v w)):=by
 intro n H;refine aF func134 fun B=>?_
 refine gc ?_;refine cP (j101 x.op hop v w hv hw) ?_;exact pB
def Zq6.of{m:Nat}{H0:Za}(hm:0<m)(hT:Tabs H0){f:Nat}{caps:List AV}{l:List Bnd}{g:Bnd→List Bnd×Int}(hf:∃fn c,Fun prog f fn c)(h:∀x∈l,ZR prog f (Zj x::caps) (.tup [.sl 1 ((g x).1.map Zj) .any,eInt (g x).2]))
  (hb:∀n,m≤n→Yg (fun c=>Below n c) caps):Zq6 m H0 f caps l g:=
 ⟨hf,fun x hx n H hn hH=>h x hx n H om (hT.up fun k=>hH 0 k hm),hb⟩
def Zu2(b:Bnd)(x:Lt)(l r:List Tm)(H:Za)(i:Nat):Zb:=
 ⟨[(36,.int .i64 i),(35,.int .i64 l.length),(34,.sl 4 (l.map Tm.enc) .any),(7,.sl 4 (r.map Tm.enc) .any),(1,.iptr x.cs),(0,Zj b)],[],H⟩
def j131(hE:ExpOK)(b:Bnd)(x:Lt)(hop:0≤x.op∧x.op≤255)(hL:BT b x.L)(hR:BT b x.R):ZR prog 131 [Zj b,.iptr x.cs] (.tup [.sl 1 ((Jj x b).1.map Zj) .any,eInt (Jj x b).2]):=by
 intro n H hn hT;have hxi:∀p,Inside n p (.iptr x.cs):=fun p=>(Zq (Yb fun c hc=>x.bcs.mem c hc)).inside
 have hz:Wk (.sl 1 [] .full) (.sl 1 (([]:List Bnd).map Zj) .any):=.any _ _ _;refine aF func131 fun B=>?_
 refine gc ?_;refine cT (j132 hE b x.L hL) ?_;refine nR ?_;refine cT (j132 hE b x.R hR) ?_;have hlg:=hL.exp;have hrg:=hR.exp;have hll:=ZfI x.L b;have hrl:=ZfI x.R b;have htS:Jj x b=if(Yz x.L b).2≠0∨(Yz x.R b).2≠0 then([],Je (Yz x.L b).2 (Yz x.R b).2)else(if(Yz x.L b).1.any (fun v=>(Yz x.R b).1.any (YX x.op v))then [b]else [],0):=rfl
 rw[htS];generalize Yz x.L b=pl at hlg hll⊢;generalize Yz x.R b=pr at hrg hrl⊢;obtain⟨l,e⟩:=pl;obtain⟨r,f⟩:=pr;dsimp only at hlg hll hrg hrl⊢;by_cases he:e=0
 ·have e1:(e !=0)=false:=by simp[he]
  by_cases hf:f=0
  ·have f1:(f !=0)=false:=by simp[hf]
   rw[if_neg (by simp[he,hf])];refine nr ?_;simp only[go_sem,simprocAttr,eInt,e1,f1];refine gv ?_;repeat refine kn rfl ?_
   refine ZL (Zu2 b x l r H) (fun i=>∀j (h:j<l.length),j<i→r.any (YX x.op l[j])=false) l.length rfl ?_ (fun j _ h=>absurd h (Qo _)) ?_
   ·exact KK
   intro i hi hq;refine ZQ rfl ?_;rcases Qe i l.length with h|h
   ·have hvg:=hlg _ (Qa h);refine nq h ?_;refine nT ?_;refine nq2 (Tm.Zh _ _ h) h ?_;refine kK ?_;refine Ya 10 (l[i]).cs [(10,.iptr (l[i]).cs),(36,.int .i64 i),(35,.int .i64 l.length),(34,.sl 4 (l.map Tm.enc) .any),(7,.sl 4 (r.map Tm.enc) .any),(1,.iptr x.cs),(0,Zj b)] rfl ?_ ?_ trivial ?_
    ·exact Yb fun c hc=>((l[i]).bcs.mem c hc).inside
    ·exact⟨.inr ⟨0,rfl,rfl⟩,.inl ⟨.refl _,.int _ _⟩,.inl ⟨.refl _,.int _ _⟩,.inl ⟨.refl _,(ZH _).inside⟩,.inl ⟨.refl _,(ZH _).inside⟩,.inl ⟨.refl _,hxi _⟩,.inl ⟨.refl _,(Zw n b).inside⟩,trivial⟩
    refine nR ?_;refine cT (a46 r om 134 [.iptr x.cs,.iptr (l[i]).cs] (YX x.op l[i]) ⟨⟨_,_,Zf func134 rfl rfl⟩,fun w hw=>Abs.Pure.tabs (j134 x hop l[i] w hvg (hrg w hw)),fun m=>⟨Zq (Yb fun c hc=>x.bcs.mem c hc),Zq (l[i]).bcs,trivial⟩⟩) ?_;cases ha:r.any (YX x.op l[i])with
    |true=>
     have e2:(l.any fun v=>r.any (YX x.op v))=true:=UW.2 ⟨l[i],Qa h,ha⟩;rw[if_pos e2];refine gi ?_;refine⟨rfl,?_⟩;refine nW ?_;exact ZG (.any _ _ _) (.refl _) (ZF [b]) (.int _ _) rfl
    |false=>
     refine gm ?_;refine⟨fun j hj hji=>?_,?_⟩
     ·rcases Qe j i with h'|h'
      ·exact hq j hj h'
      ·have:j=i:=om;subst this;exact ha
     ·exact KK
   ·have e2:¬(l.any fun v=>r.any (YX x.op v))=true:=by
     rw[Gl,Qar];intro v hv;obtain⟨j,hj,rfl⟩:=QJ hv;rw[hq j hj om];simp
    rw[if_neg e2];refine nq (QD.2 h) ?_;refine gt ?_;exact ZG hz (.refl _) (ZF []) (.int _ _) rfl
  ·have f1:(f !=0)=true:=by simp[hf]
   rw[if_pos (.inr hf)];refine nr ?_;simp only[go_sem,simprocAttr,eInt,e1,f1];refine gi ?_;refine cP (j133 e f) ?_;refine nV ?_;exact ZG hz (.refl _) (ZF []) (.int _ _) rfl
 ·have e1:(e !=0)=true:=by simp[he]
  rw[if_pos (.inl he)];refine nr ?_;simp only[go_sem,simprocAttr,eInt,e1];refine gi ?_;refine cP (j133 e f) ?_;refine nV ?_;exact ZG hz (.refl _) (ZF []) (.int _ _) rfl
def ZoD(x:Lt)(b:Bnd):(Jj x b).1.length≤1:=by
 simp only[Jj];split
 ·simp
 ·split<;>simp
def prB(mp sp:AV)(now:List Bnd)(td:AV):Ze:=.box [mp,sp,.sl 1 (now.map Zj) .any,td]
def j89(hE:ExpOK)(n:Nat)(H:Za)(hT:Tabs H)(hn:0<n)(l b:Nat)(hl:l<n)(mp sp td:AV)(now:List Bnd)(hnow:now.length≤1000000)(hbx:H l b=some (prB mp sp now td))(hmp:Below n mp∧Below n sp∧Below n td)(x:Lt)(hop:0≤x.op∧x.op≤255)
  (hx:∀c∈now,BT c x.L∧BT c x.R):Zi prog n 89 [.ptr l b 0,x.enc] H fun r H'=>r=eInt (Go.Abs.Xo (Jj x) now).2∧H'=H.upd l b (prB mp sp (Go.Abs.Xo (Jj x) now).1 td):=by
 have hne:l≠n:=om;refine aF func89 fun B=>?_
 refine gh ?_;refine Ya 3 x.cs [(0,.ptr l b 0),(3,.iptr x.cs)] rfl ?_ ?_ trivial ?_
 ·exact Yb fun c hc=>(x.bcs.mem c hc).inside
 ·exact⟨.inl ⟨.refl _,.ptr _ _ _ (.inl hl)⟩,.inr ⟨0,rfl,rfl⟩,trivial⟩
 refine nR ?_;refine YT (caps:=[]) (avs:=[.ptr l b 0,.fn (.func 131) [.iptr x.cs]]) rfl (Zf func130 rfl rfl) (j130 (n+1) _ l b om mp sp td now hnow (by rw[Zk hl];exact hbx) ⟨hmp.1.mono om,hmp.2.1.mono om,hmp.2.2.mono om⟩ 131 [.iptr x.cs] (Jj x)
  (.of om (hT.full hn) ⟨_,_,Zf func131 rfl rfl⟩ (fun c hc=>j131 hE c x hop (hx c hc).1 (hx c hc).2) fun m _=>⟨Zq (Yb fun c hc=>x.bcs.mem c hc),trivial⟩) (fun c hc=>by have:=ZoD x c;omega)) sS ?_
 rintro r H1 ⟨rfl,rfl⟩;refine⟨[],H.upd l b (prB mp sp (Go.Abs.Xo (Jj x) now).1 td),(Yi n _ H l b _ hne).symm,.upd (Ze.ZC ⟨hmp.1,hmp.2.1,ZF _,hmp.2.2,trivial⟩),?_⟩;refine gw ?_;exact Zn (.refl _) (.int _ _) ⟨rfl,rfl⟩
def j137(b:Bnd)(hb:Jg b)(hl:b.length≤900000)(s:Str)(v:Tm):Pure prog 137 [v.enc,.iptr [Zj b],.iptr [.str s]] (Zj (WH s v b)):=by
 intro n H;refine aF func137 fun B=>?_
 refine gc ?_;refine cP (j138 b hb hl s v) ?_;refine nV ?_;exact Zc (.refl _) (Zw n _) rfl
def Zb9(s:Str)(t:Tm)(b:Bnd):List Bnd×Int:=((Yz t b).1.map fun v=>WH s v b,(Yz t b).2)
def j135(hE:ExpOK)(b:Bnd)(s:Str)(t:Tm)(ht:BT b t):ZR prog 135 [Zj b,.iptr t.cs,.iptr [.str s]] (.tup [.sl 1 ((Zb9 s t b).1.map Zj) .any,eInt (Zb9 s t b).2]):=by
 intro n H hn hT;have hll:=ZfI t b;have hbS:Zb9 s t b=((Yz t b).1.map fun v=>WH s v b,(Yz t b).2):=rfl;have he:=j132 hE b t ht;refine aF func135 fun B=>?_
 refine gh ?_;refine Ya 3 [Zj b] [(3,.iptr [Zj b]),(1,.iptr t.cs),(2,.iptr [.str s])] rfl ?_ ?_ trivial ?_
 ·exact⟨(Zw n b).inside,trivial⟩
 ·exact⟨.inr ⟨0,rfl,rfl⟩,.inl ⟨.refl _,(Zq t.bcs).inside⟩,.inl ⟨.refl _,(Zq (cs:=[.str s]) ⟨.str _,trivial⟩).inside⟩,trivial⟩
 refine nR ?_;refine cT (he) ?_;rw[hbS];generalize Yz t b=p at hll⊢;obtain⟨l,e⟩:=p;dsimp only at hll⊢;refine nR ?_;refine cT (j136 l om 137 [.iptr [Zj b],.iptr [.str s]] (fun v=>WH s v b) ⟨⟨_,_,Zf func137 rfl rfl⟩,fun v hv=>Abs.Pure.tabs (j137 b ht.gb.asc (by have:=ht.len;omega) s v),fun m=>⟨Zq ⟨Zw m b,trivial⟩,Zq ⟨.str _,trivial⟩,trivial⟩⟩) ?_;refine nV ?_;exact ZG (.refl _) (.refl _) (ZF _) (.int _ _) rfl
def j91(hE:ExpOK)(n:Nat)(H:Za)(hT:Tabs H)(hn:0<n)(l b:Nat)(hl:l<n)(mp sp td:AV)(now:List Bnd)(hnow:now.length≤1000000)(hbx:H l b=some (prB mp sp now td))(hmp:Below n mp∧Below n sp∧Below n td)(s:Str)(t:Tm)(ht:∀c∈now,BT c t):
  Zi prog n 91 [.ptr l b 0,.str s,t.enc] H fun r H'=>r=eInt (Go.Abs.Xo (Zb9 s t) now).2∧H'=H.upd l b (prB mp sp (Go.Abs.Xo (Zb9 s t) now).1 td):=by
 have hne:l≠n:=om;refine aF func91 fun B=>?_
 refine gh ?_;refine Ya 4 [.str s] [(0,.ptr l b 0),(4,.iptr [.str s]),(5,.ptr n 5 0)] rfl ⟨.str _,trivial⟩ ?_ ⟨Ze.Zy (Yb fun c hc=>(t.bcs.mem c hc).inside),trivial⟩ ?_
 ·exact⟨.inl ⟨.refl _,.ptr _ _ _ (.inl hl)⟩,.inr ⟨0,rfl,rfl⟩,.inl ⟨.refl _,.ptr _ _ _ (.inr ⟨rfl,dc⟩)⟩,trivial⟩
 refine aS ?_;refine Ya 5 t.cs [(0,.ptr l b 0),(4,.iptr [.str s]),(5,.iptr t.cs)] rfl ?_ ?_ trivial ?_
 ·exact Yb fun c hc=>(t.bcs.mem c hc).inside
 ·exact⟨.inl ⟨.refl _,.ptr _ _ _ (.inl hl)⟩,.inl ⟨.refl _,(Zq (cs:=[.str s]) ⟨.str _,trivial⟩).inside⟩,.inr ⟨0,rfl,rfl⟩,trivial⟩
 refine nR ?_;refine YT (caps:=[]) (avs:=[.ptr l b 0,.fn (.func 135) [.iptr t.cs,.iptr [.str s]]]) rfl (Zf func130 rfl rfl) (j130 (n+1) _ l b om mp sp td now hnow (by rw[Zk hl];exact hbx) ⟨hmp.1.mono om,hmp.2.1.mono om,hmp.2.2.mono om⟩ 135 [.iptr t.cs,.iptr [.str s]] (Zb9 s t)
  (.of om (hT.full hn) ⟨_,_,Zf func135 rfl rfl⟩ (fun c hc=>j135 hE c s t (ht c hc)) fun m _=>⟨Zq t.bcs,Zq ⟨.str _,trivial⟩,trivial⟩) (fun c hc=>by have:=ZfI t c;simp only[Zb9,Qw];omega)) sS ?_
 rintro r H1 ⟨rfl,rfl⟩;refine⟨[],H.upd l b (prB mp sp (Go.Abs.Xo (Zb9 s t) now).1 td),(Yi n _ H l b _ hne).symm,.upd (Ze.ZC ⟨hmp.1,hmp.2.1,ZF _,hmp.2.2,trivial⟩),?_⟩;refine gw ?_;exact Zn (.refl _) (.int _ _) ⟨rfl,rfl⟩
end
def opP(d l k:Nat):Opt:=⟨false,false,fun x=>if x=d then .place l k true else .auto,[]⟩
structure Zj1 (k l:Nat) (xs:List AV):Prop where
 len:xs.length≤1000000
 el:∀x∈xs,x.cells.length=k∧ones x=true∧Below l x
def XQ{l:Nat}:∀{xs:List AV},(∀x∈xs,Below l x)→Yg (fun c=>Below l c) (flat xs):=fun{xs} h=>Yb fun c hc=>by
 obtain⟨x,hx,hc⟩:=Qx.1 hc;exact Below.cells (h x hx) c hc
def Zj1.blk{k l n e m:Nat}{xs:List AV}(h:Zj1 k l xs)(hn:l≤n):Ze.Below n (.Zg e k (flat xs) m):=⟨(XQ fun x hx=>(h.el x hx).2.2.mono hn).mem,by simp[Ze.at_]⟩
def k86(n:Nat)(H:Za)(xs:List AV)(l2 k2:Nat)(hl2:l2<n)(hf:H l2 k2=none)(hx:Zj1 13 l2 xs):
  Zi prog n 86 [.sl 13 xs .any] H fun r H'=>r= .msl 13 l2 k2 xs.length∧H'=H.upd l2 k2 (.Zg 54 13 (flat xs) xs.length):=by
 have hne:¬l2=n:=om;have hle:l2≤n:=om;have hlen:=hx.len;have hbb:∀m i,l2<m→Below m (.msl 13 l2 k2 i):=fun m i hm=>.msl _ _ _ _ hm
 have hb2:Ze.Below n (.Zg 54 13 (flat xs) xs.length):=hx.blk hle;have hins:Inside n (fun _=>True) (.sl 13 xs .any):=(ZB (n:=n) fun x h=>(hx.el x h).2.2.mono hle).inside;have h1:∀x∈xs,ones x=true:=fun x h=>(hx.el x h).2.1
 cases xs with
 |nil=>
  refine Zi.Zi5 ?_ ?_
  ·refine aF func86 fun B=>?_
   refine gc ?_;refine⟨⟨_,rfl⟩,?_⟩;refine nT ?_;refine gh ?_;refine ZO (Zcs (t:=2) (l:=l2) (j:=k2) 54 13 true hle rfl (by simp only[full,if_neg hne];exact hf)) ?_;simp only[ZdZ,setH,if_neg hne,if_true];refine nV ?_;exact Zn (.refl _) (hbb _ _ hl2) ⟨rfl,rfl⟩
  ·refine aF func86 fun B=>?_
   refine gc ?_;refine⟨⟨_,rfl⟩,?_⟩;refine gu ?_;refine ZO (s':=⟨[(0,.sl 13 [] .any)],[],H⟩) ?_ ?_
   ·refine Zgf ⟨Wk.sln 13,trivial⟩ trivial ⟨?_,trivial⟩ trivial;exact(ZB fun x h=>by cases h).inside
   refine YR tok (opP 7 l2 k2) rfl rfl (by kernel_rfl) ?_;simp only[go_sem,simprocAttr,opP,hne];refine⟨rfl,⟨hle,hf⟩,.inr hb2,?_⟩;refine nV ?_;exact Zn (.refl _) (hbb _ _ hl2) ⟨rfl,rfl⟩
 |cons x r=>
  simp only[Qq]at hlen hb2;simp only[Ql,forall_eq_or_imp]at h1;refine aF func86 fun B=>?_
  refine gc ?_;refine⟨⟨_,rfl⟩,?_⟩;refine nF ?_;repeat refine kn rfl ?_
  refine YR tok (opP 7 l2 k2) rfl rfl (by kernel_rfl) ?_;simp only[go_sem,simprocAttr,opP,hne];refine⟨rfl,⟨hle,hf,h1,Zl om,om⟩,.inr hb2,?_⟩;refine nV ?_;exact Zn (.refl _) (hbb _ _ hl2) ⟨rfl,rfl⟩
def k46(n:Nat)(H:Za)(xs:List AV)(l2 k2:Nat)(hl2:l2<n)(hf:H l2 k2=none)(hx:Zj1 5 l2 xs):
  Zi prog n 46 [.sl 5 xs .any] H fun r H'=>r= .msl 5 l2 k2 xs.length∧H'=H.upd l2 k2 (.Zg 42 5 (flat xs) xs.length):=by
 have hne:¬l2=n:=om;have hle:l2≤n:=om;have hlen:=hx.len;have hbb:∀m i,l2<m→Below m (.msl 5 l2 k2 i):=fun m i hm=>.msl _ _ _ _ hm
 have hb2:Ze.Below n (.Zg 42 5 (flat xs) xs.length):=hx.blk hle;have hins:Inside n (fun _=>True) (.sl 5 xs .any):=(ZB (n:=n) fun x h=>(hx.el x h).2.2.mono hle).inside;have h1:∀x∈xs,ones x=true:=fun x h=>(hx.el x h).2.1
 cases xs with
 |nil=>
  refine Zi.Zi5 ?_ ?_
  ·refine aF func46 fun B=>?_
   refine gc ?_;refine⟨⟨_,rfl⟩,?_⟩;refine nT ?_;refine gh ?_;refine ZO (Zcs (t:=2) (l:=l2) (j:=k2) 42 5 true hle rfl (by simp only[full,if_neg hne];exact hf)) ?_;simp only[ZdZ,setH,if_neg hne,if_true];refine nV ?_;exact Zn (.refl _) (hbb _ _ hl2) ⟨rfl,rfl⟩
  ·refine aF func46 fun B=>?_
   refine gc ?_;refine⟨⟨_,rfl⟩,?_⟩;refine gu ?_;refine ZO (s':=⟨[(0,.sl 5 [] .any)],[],H⟩) ?_ ?_
   ·refine Zgf ⟨Wk.sln 5,trivial⟩ trivial ⟨?_,trivial⟩ trivial;exact(ZB fun x h=>by cases h).inside
   refine YR tok (opP 7 l2 k2) rfl rfl (by kernel_rfl) ?_;simp only[go_sem,simprocAttr,opP,hne];refine⟨rfl,⟨hle,hf⟩,.inr hb2,?_⟩;refine nV ?_;exact Zn (.refl _) (hbb _ _ hl2) ⟨rfl,rfl⟩
 |cons x r=>
  simp only[Qq]at hlen hb2;simp only[Ql,forall_eq_or_imp]at h1;refine aF func46 fun B=>?_
  refine gc ?_;refine⟨⟨_,rfl⟩,?_⟩;refine nF ?_;repeat refine kn rfl ?_
  refine YR tok (opP 7 l2 k2) rfl rfl (by kernel_rfl) ?_;simp only[go_sem,simprocAttr,opP,hne];refine⟨rfl,⟨hle,hf,h1,Zl om,om⟩,.inr hb2,?_⟩;refine nV ?_;exact Zn (.refl _) (hbb _ _ hl2) ⟨rfl,rfl⟩
def ZaA(p q:List AV):flat (p++q)=flat p++flat q:=by unfold flat;rw[Ut]
def ZjW{k:Nat}{xs:List AV}(h:∀x∈xs,x.cells.length=k):(flat xs).length=xs.length*k:=flat_length h
def Zl6{k:Nat}{p q:List AV}{x z:AV}(hp:∀y∈p,y.cells.length=k)(hq:∀y∈q,y.cells.length=k)(hx:x.cells.length=k)(hz:z.cells.length=k):
  splice (splice (flat (p++x::q)) (p.length*k) (((flat (p++x::q)).drop ((p.length+1)*k)).take (q.length*k))) ((p.length+q.length)*k) (flat (List.replicate 1 z))=flat ((p++q)++[z]):=by
 have h1:=ZjW hp;have h2:=ZjW hq;have e0:flat (p++x::q)=flat p++(x.cells++flat q):=by rw[ZaA];rfl
 have e1:(flat (p++x::q)).drop ((p.length+1)*k)=flat q:=by
  rw[e0,Ui,QaX,←h1,←UZ,Qbb,←hx,Qbb]
 have e2:(flat q).take (q.length*k)=flat q:=by rw[←h2,QI]
 have e3:flat (List.replicate 1 z)=z.cells:=by simp[flat]
 rw[e1,e2,e3,e0];have e4:splice (flat p++(x.cells++flat q)) (p.length*k) (flat q)=flat p++(flat q++(x.cells++flat q).drop (flat q).length):=by
  unfold splice;rw[←h1,GX,←UZ,Qbb]
 rw[e4];unfold splice;have e5:((p.length+q.length)*k)=(flat p++flat q).length:=by rw[Qh,h1,h2,Ui]
 rw[e5,←List.append_assoc (flat p) (flat q),GX,←List.drop_drop,Qbb,ZaA,ZaA];have e6:((x.cells++flat q).drop (flat q).length).length=z.cells.length:=by simp;omega
 rw[←e6,Qad,Qs];simp[flat]
def u85:Opt:=⟨false,false,fun d=>if d=13∨d=31 then .heap else .auto,[]⟩
def u85d:Opt:=⟨true,true,fun d=>if d=22∨d=25 then .heap else if d=26 then .call else .auto,[]⟩
def zLit:AV:=.agg [.int .u8 0,.bool false,.str [],.sl 4 [] .full,.int .u8 0,.int .u8 0,.int .i64 0,.str [],.sl 4 [] .full,.int .u8 0,.int .i64 0,.str [],.sl 4 [] .full]
def Zll{n:Nat}:Yg (fun c=>Below n c) zLit.cells:=⟨.int _ _,.bool _,.str _,YN (fun _ h=>by cases h) (fun _ _ e=>by cases e),.int _ _,.int _ _,.int _ _,.str _,YN (fun _ h=>by cases h) (fun _ _ e=>by cases e),.int _ _,.int _ _,.str _,YN (fun _ h=>by cases h) (fun _ _ e=>by cases e),trivial⟩
def k85(n:Nat)(H:Za)(l k:Nat)(hl:l<n)(p q:List AV)(x:AV)(hx:Zj1 13 l (p++x::q))(hH:H l k=some (.Zg 54 13 (flat (p++x::q)) (p++x::q).length)):
  Zi prog n 85 [.msl 13 l k (p++x::q).length,.int .i64 p.length,.int .i64 ((p.length:Int)+1)] H fun r H'=>r= .sub 13 l k (p++x::q).length 0 (p.length+q.length)∧
   H'=H.upd l k (.Zg 54 13 (flat ((p++q)++[zLit])) (p++x::q).length):=by
 have hne:¬l=n:=om;have hlen:=hx.len;have hln:(p++x::q).length=p.length+q.length+1:=by simp;omega
 have hc:∀y∈p++x::q,y.cells.length=13:=fun y hy=>(hx.el y hy).1
 have hcp:∀y∈p,y.cells.length=13:=fun y hy=>hc y (by simp[hy])
 have hcq:∀y∈q,y.cells.length=13:=fun y hy=>hc y (by simp[hy])
 have hcx:x.cells.length=13:=hc x sm;have hone:∀a∈flat (p++x::q),a.one=true:=fun a ha=>by
  obtain⟨y,hy,ha⟩:=Qx.1 ha;exact YK (hx.el y hy).2.1 a ha
 have hbc:∀c∈flat (p++x::q),Below n c:=((hx.blk (n:=n) (e:=54) (m:=0) om).1)
 rw[hln]at hH⊢;refine aF func85 fun B=>?_
 refine nR ?_;repeat refine kn rfl ?_
 refine YR tok u85 rfl rfl (by kernel_rfl) ?_;simp only[go_sem,simprocAttr,u85];refine Step.look (ZiA (a:=p.length) (h:=(p.length:Int)+1) (b:=((p.length+q.length+1:Nat):Int)) tok rfl rfl rfl rfl rfl ((Zk hl _ _ _).trans hH) rfl rfl rfl om om om om om) ?_;simp only[go_sem,simprocAttr];refine nR ?_;have hb:((p.length:Int)==(p.length:Int)+1)=false:=by simp;omega
 refine nFq hb ?_;refine nR ?_;repeat refine kn rfl ?_
 refine Zas tok mixed u85d rfl rfl (by kernel_rfl) (by kernel_rfl) ?_;simp only[go_sem,simprocAttr,u85d];have hH0:∀L G,(∀j,G l j=H l j)→full n L G l k=some (.Zg 54 13 (flat (p++x::q)) (p.length+q.length+1)):=fun L G h=>(Zk hl _ _ _).trans ((h k).trans hH)
 refine Step.look (Zdk (h:=p.length) tok rfl rfl rfl rfl rfl (hH0 _ _ fun _=>rfl) rfl om om om) ?_;refine aS ?_;obtain⟨V,hV⟩:∃V,(if(p.length:Int)+1<((p.length+q.length+1:Nat):Int)then AV.sub 13 l k (p.length+q.length+1) (p.length+1) q.length else .sl 13 [] .any)=V:=⟨_,rfl⟩
 refine Step.look (v:=V) (X3 (h:=((p.length+q.length+1:Nat):Int)) tok rfl rfl rfl rfl rfl (hH0 _ _ fun _=>rfl) rfl rfl om om om om (by
  rw[←hV,show((p.length:Int)+1).toNat=p.length+1 by omega,show(((p.length+q.length+1:Nat):Int)).toNat - (p.length+1)=q.length by omega])) ?_
 refine aS ?_;obtain⟨D,hD⟩:∃D,splice (flat (p++x::q)) (p.length*13) (((flat (p++x::q)).drop ((p.length+1)*13)).take (q.length*13))=D:=⟨_,rfl⟩
 have hdel:splice D ((p.length+q.length)*13) (flat (List.replicate 1 zLit))=flat ((p++q)++[zLit]):=by rw[←hD];exact Zl6 hcp hcq hcx rfl
 have hDb:Ze.Below n (.Zg 54 13 D (p.length+q.length+1)):=by
  rw[←hD];refine⟨fun c hc=>hbc c ?_,by simp[Ze.at_]⟩;simp only[Ze.avs,splice,Qk]at hc;rcases hc with hc|hc|hc
  ·exact UC hc
  ·exact MN (UC hc)
  ·exact MN hc
 refine Step.turn (v:=.sub 13 l k (p.length+q.length+1) 0 (p.length+q.length)) (l:=l) (k:=k) (b:=.Zg 54 13 D (p.length+q.length+1)) ?_ (.inr hDb) ?_
 ·by_cases hq:q.length=0
  ·rw[if_neg om]at hV;have hq2:q=[]:=Gm.1 hq;have hD2:D=flat (p++x::q):=by
    rw[←hD,hq,GV,QaN];unfold splice;simp
   have hh:((full n [] H).upd l k (.Zg 54 13 D (p.length+q.length+1)))=full n [] H:=Yd (by rw[hD2];exact hH0 _ _ fun _=>rfl);show Yv _ _ _ _ (full n [] H) _ ((full n [] H).upd l k (.Zg 54 13 D (p.length+q.length+1)));rw[hh,hq,UF];refine Zdb tok rfl rfl rfl rfl rfl hV.symm ((hH0 [] H fun _=>rfl).trans (by rw[hq])) ?_;omega
  ·rw[if_pos om]at hV;refine ZgV (i:=p.length) (off:=p.length+1) (k:=q.length) tok rfl rfl rfl rfl rfl rfl hV.symm (hH0 _ _ fun _=>rfl) ?_ ?_ ?_ hone ?_
   ·decide
   ·omega
   ·omega
   ·exact hD
 simp only[go_sem,simprocAttr,hne];repeat refine kn rfl ?_
 refine YR tok u85 rfl rfl (by kernel_rfl) ?_;simp only[go_sem,simprocAttr,u85];have hHD:∀L G,(∀j,G l j=(H.upd l k (.Zg 54 13 D (p.length+q.length+1))) l j)→full n L G l k=some (.Zg 54 13 D (p.length+q.length+1)):=fun L G h=>(Zk hl _ _ _).trans ((h k).trans (by simp[Za.upd]))
 refine Step.look (v:=.sub 13 l k (p.length+q.length+1) (p.length+q.length) 1) (Ziz (a:=((p.length+q.length:Nat):Int)) (h:=((p.length+q.length+1:Nat):Int)) tok rfl rfl rfl rfl rfl rfl (hHD _ _ fun _=>rfl) rfl rfl ?_ ?_ ?_ ?_ ?_) ?_
 ·omega
 ·omega
 ·omega
 ·omega
 ·rw[show 0+((p.length+q.length:Nat):Int).toNat=p.length+q.length by omega,show(((p.length+q.length+1:Nat):Int)).toNat - ((p.length+q.length:Nat):Int).toNat=1 by omega]
 refine aS ?_;refine Step.turn (l:=l) (k:=k) (b:=.Zg 54 13 (flat ((p++q)++[zLit])) (p.length+q.length+1)) (Jq tok rfl rfl rfl rfl rfl rfl (hHD _ _ fun _=>rfl) ?_ rfl ?_ ?_) (.inr ?_) ?_
 ·decide
 ·decide
 ·exact hdel
 ·refine⟨fun c hc=>?_,by simp[Ze.at_]⟩;simp only[Ze.avs,ZaA,Qk]at hc;rcases hc with(hc|hc)|hc
  ·exact hbc c (by rw[ZaA];exact QG _ hc)
  ·exact hbc c (by rw[ZaA,Yw];exact QS _ (QS _ hc))
  ·exact Below.cells (a:=zLit) (Xf Zll.mem) c (by simpa[flat]using hc)
 refine aq hne ?_;refine ge ?_;exact Zn (.refl _) (.sub _ _ _ _ _ _ hl) ⟨rfl,Za.Zau _ _ _ _ _⟩
section
variable {k:Nat}
def Zi3{xs:List AV}(h:∀x∈xs,x.cells.length=k)(i:Nat)(hi:i<xs.length):((flat xs).drop (i*k)).take k=xs[i].cells:=by
 rw[←Zch h,Qu hi,Yw,Gv (h _ (Qa hi))]
def mix{α:Type}(kept xs:List α):List α:=kept++xs.drop kept.length
variable {α:Type}
def ZfC{kept xs:List α}(h:kept.length≤xs.length):(mix kept xs).length=xs.length:=by simp[mix];omega
def ZdI{kept xs:List α}(j:Nat)(h:kept.length≤j)(hj:j<(mix kept xs).length)(hj':j<xs.length):(mix kept xs)[j]=xs[j]:=by
 have:(mix kept xs)[j]? =xs[j]?:=by unfold mix;rw[Gu h,UM];congr 1;omega
 rw[Qb hj,Qb hj']at this;exact U7 this
def ZcV(enc:α→AV)(he:∀x,(enc x).cells.length=k){kept xs:List α}(x:α)(h:kept.length<xs.length):
  splice (flat ((mix kept xs).map enc)) (kept.length*k) (enc x).cells=flat ((mix (kept++[x]) xs).map enc):=by
 have hk:(flat (kept.map enc)).length=kept.length*k:=by rw[flat_length (k:=k) (mB fun z=>he z),Qw]
 unfold mix splice;rw[Qu h];simp only[QC,Qv,YZ,Yw,Ux,Qh,GZ,flat_nil,Qs];rw[Gv hk,←List.drop_drop,QaC hk,he x,QaC (he _),Uc]
def ZbT(enc:α→AV)(he:∀x,(enc x).cells.length=k){z:AV}(hz:z.cells.length=k){kept xs:List α}(h:kept.length≤xs.length):
  splice (flat ((mix kept xs).map enc)) (kept.length*k) (flat (List.replicate (xs.length - kept.length) z))=flat (kept.map enc++List.replicate (xs.length - kept.length) z):=by
 have hk:(flat (kept.map enc)).length=kept.length*k:=by rw[flat_length (k:=k) (mB fun z=>he z),Qw]
 have hr:(flat ((xs.drop kept.length).map enc)).length=(xs.length - kept.length)*k:=by rw[flat_length (k:=k) (mB fun z=>he z),Qw,QU]
 have hzl:(flat (List.replicate (xs.length - kept.length) z)).length=(xs.length - kept.length)*k:=by rw[flat_length (k:=k) (fun y hy=>by rw[(Uk.1 hy).2];exact hz),G5]
 unfold mix splice;simp only[QC,YZ];rw[Gv hk,←List.drop_drop,QaC hk,hzl,←hr,Qad,Qs]
def kpt{α:Type}(c:α→α→Int)(xs:List α):Nat→List α
 |0=>[]
 |m+1=>kpt c xs m++if h:m<xs.length then(if m=0∨c xs[m] xs[m - 1]≠0 then [xs[m]]else [])else []
def Za3{α:Type}(c:α→α→Int)(xs:List α):∀m,m≤xs.length→(∀i (h:i<xs.length),i<m→0<i→c xs[i] xs[i - 1]≠0)→kpt c xs m=xs.take m
 |0,_,_=>by simp[kpt]
 |m+1,hm,h=>by
  rw[kpt,Za3 c xs m om fun i hi hm=>h i hi om,dif_pos om,Qj om];rw[if_pos];by_cases h0:m=0
  ·exact .inl h0
  ·exact .inr (h m om om om)
def Znt{G:α→Prop}{c:α→α→Int}(S:Zhx G c){ys l:List α}(hg:∀x∈l,G x)(hp:ys.Perm l)(ha':∀i i' (h:i<ys.length) (h':i'<ys.length),i<i'→ ¬c ys[i'] ys[i]<0):kpt c ys ys.length=XT c l:=by
 have hgy:∀i (h:i<ys.length),G ys[i]:=fun i h=>hg _ (hp.mem_iff.1 (Qa h))
 have tri:∀{s t:α},G s→G t→ ¬c s t<0→ ¬c t s<0→s=t:=fun{s t} hs ht h h'=>by
  have:=S.anti (x:=s) (y:=t) hs ht;exact S.zero _ _ hs ht om
 have key:∀m,m≤ys.length→(∀x,x∈kpt c ys m↔ ∃j,∃h:j<ys.length,j<m∧ys[j]=x)∧(kpt c ys m).Pairwise fun x y=>c x y<0:=by
  intro m;induction m with
  |zero=>intro _;simp[kpt]
  |succ m ih=>
   intro hm;obtain⟨i1,i2⟩:=ih om;have hml:m<ys.length:=om;rw[kpt,dif_pos hml];by_cases hk:m=0∨c ys[m] ys[m - 1]≠0
   ·rw[if_pos hk];refine⟨fun x=>?_,List.pairwise_append.2 ⟨i2,sm,fun x hx y hy=>?_⟩⟩
    ·simp only[Qk,i1,Qm];constructor
     ·rintro(⟨j,h,hj,rfl⟩|rfl)
      ·exact⟨j,h,om,rfl⟩
      ·exact⟨m,hml,om,rfl⟩
     ·rintro⟨j,h,hj,rfl⟩;by_cases e:j=m
      ·subst e;exact .inr rfl
      ·exact .inl ⟨j,h,om,rfl⟩
    ·simp only[Qm]at hy;subst hy;obtain⟨j,h,hj,rfl⟩:=(i1 x).1 hx;have h1:=ha' j m h hml hj;by_cases e:c ys[j] ys[m]<0
     ·exact e
     ·have e2:=tri (hgy _ h) (hgy _ hml) e h1;exfalso
      have hne:ys[m]≠ys[m - 1]:=by
       intro e;rcases hk with hk|hk
       ·omega
       ·rw[←e]at hk;exact hk (by have:=S.anti (x:=ys[m]) (y:=ys[m]) (hgy _ hml) (hgy _ hml);omega)
      by_cases e3:j=m - 1
      ·subst e3;exact hne e2.symm
      ·have a1:=ha' j (m - 1) h om om;have a2:=ha' (m - 1) m om hml om;by_cases a3:c ys[m - 1] ys[m]<0
       ·rw[←e2]at a3;exact a1 a3
       ·exact hne (tri (hgy _ hml) (hgy _ om) a2 a3)
   ·rw[if_neg hk,Qs];refine⟨fun x=>?_,i2⟩;rw[i1];constructor
    ·rintro⟨j,h,hj,rfl⟩;exact⟨j,h,om,rfl⟩
    ·rintro⟨j,h,hj,rfl⟩;by_cases e:j=m
     ·subst e;simp only[not_or,Decidable.not_not]at hk;exact⟨j - 1,om,om,(S.zero _ _ (hgy _ h) (hgy _ om) hk.2).symm⟩
     ·exact⟨j,h,om,rfl⟩
 obtain⟨h1,h2⟩:=key ys.length (Qg _);refine S.unique (fun x hx=>?_) h2 (S.set_asc fun x hx=>hg x hx) fun x=>?_
 ·obtain⟨j,h,_,rfl⟩:=(h1 x).1 hx;exact hgy _ h
 ·rw[S.set_mem fun x hx=>hg x hx,h1,←hp.mem_iff];constructor
  ·rintro⟨j,h,_,rfl⟩;exact Qa h
  ·intro hx;obtain⟨j,h,rfl⟩:=QJ hx;exact⟨j,h,h,rfl⟩
end
end Go.Proofs.YtmdeagmbfhbbnaaGreatDoorR

namespace Go.Abs
def Zmm(F:Fence)(n:Nat)(P:Program)(fn0:Func)(l:Nat)(R:Ending→World→Prop):Exit→Act→World→Prop
 | .panic c,a,w=>LeavesInM F n P fn0 a.tmps (fun e w'=>(∃c,e= .panicked c)∧R e w') a.defers (.panicking c) w
 |e,a,w=>roundPost P l R e a w
def ZdA{F:Fence}{n:Nat}{P:Program}{l:Nat}{f:FuncId}{fn0:Func}{tmps:Array Value}{assign body:Code}{w:World}{R:Ending→World→Prop}(hF:F.fn f)(hf:P.funcs[f]? =some fn0)
  (h:assign.wpIn (F.inRound l) n P (Exit.then (fun a₁ w₁=>∃w₂,(Instr.beginRound l).run P w₁= .ok () w₂∧body.wpIn (F.inRound l) n P (Zmm (F.inRound l) n P fn0 l R) a₁ w₂) (fun _ _ _=>False))
   {tmps:=tmps,defers:=[]} w):
  RoundIn F n P l f tmps assign body w R:=by
 refine⟨hF,fun c cs hr=>?_⟩
 let b:Frame:={(default:Frame)with fn:=f,kind:=.normal,roundOf:=some l}
 have hb0:Frame.round l f tmps assign body .normal=b.atR {tmps:=tmps,defers:=[]} [.code assign,.beginRound,.code body]:=by
  simp[Frame.round,Frame.atR,b]
 have hr':(F.inRound l).room ((c::cs).length+1+n):=hr;have hF':(F.inRound l).fn b.fn:=hF;obtain⟨e,a1,w1,hq,harr⟩:=h b [.beginRound,.code body] (c::cs) rfl hF' hr';rw[←hb0]at harr;cases e with
 |normal=>
  obtain⟨w2,hbr,hbody⟩:=hq;have s1:StepsIn (Machine.fenced P (F.inRound l)) P (lone (b.atR a1 [.beginRound,.code body]) (c::cs) w1) (lone (b.atR a1 [.code body]) (c::cs) w2):=
   .one (fenced_calm (fr:=b.atR a1 [.beginRound,.code body]) hF' hr' rfl) (stepR_beginRound rfl hbr)
  have s2:=StepsIn.trans harr s1;obtain⟨e2,a2,w3,hq2,harr2⟩:=hbody b [] (c::cs) rfl hF' hr';cases e2 with
  |normal=>
   obtain⟨v,w4,hend,hR⟩:=hq2;exact⟨.returned v,w4,hR,s2.trans (StepsIn.trans harr2 (.one (fenced_calm (fr:=b.atR a2 []) hF' hr' rfl) (stepR_round_end rfl rfl hend)))⟩
  |ret=>
   obtain⟨v,w4,hend,hR⟩:=hq2;obtain⟨k1,hs⟩:=harr2.2 rfl;exact⟨.returned v,w4,hR,s2.trans (StepsIn.trans hs (.one (fenced_calm (fr:=b.atR a2 (.code .ret::k1)) hF' hr' rfl) (stepR_round_ret rfl rfl hend)))⟩
  |exit id=>
   obtain⟨v,w4,hend,hR⟩:=hq2;obtain⟨k1,hk,hs⟩:=harr2.2 rfl rfl;exact⟨.returned v,w4,hR,s2.trans (StepsIn.trans hs (.one (fenced_calm (fr:=b.atR a2 (.code (.exit id)::k1)) hF' hr' rfl) (stepR_round_exit rfl rfl hk hend)))⟩
  |goto t=>
   obtain⟨v,w4,hend,hR⟩:=hq2;obtain⟨k1,hk,hs⟩:=harr2.2 rfl rfl;exact⟨.returned v,w4,hR,s2.trans (StepsIn.trans hs (.one (fenced_calm (fr:=b.atR a2 (.code (.goto t)::k1)) hF' hr' rfl) (stepR_round_goto rfl rfl hk hend)))⟩
  |panic chain=>
   obtain⟨todo,hs⟩:=harr2;obtain⟨e',w4,fr',⟨⟨c',rfl⟩,hR⟩,hs',hfn,hl⟩:=leaves_stepsInM (P:=P) a2.defers (.panicking chain) w3 {b.atR a2 todo with mode:=.panicking chain} (c::cs) rfl rfl rfl hf rfl hF' hr' hq2;have hb':(F.inRound l).fn fr'.fn:=by rw[hfn];exact hF'
   exact⟨.panicked c',w4,hR,s2.trans (StepsIn.trans hs (StepsIn.trans hs' (.one (fenced_leaving hb' hr' hl) (step_leave_panicked hl))))⟩
  |outgrown=>exact hq2.elim
 |exit id=>exact hq.elim
 |goto t=>exact hq.elim
 |ret=>exact hq.elim
 |panic chain=>exact hq.elim
 |outgrown=>exact hq.elim
def Zsh(Q:AV→Za→Prop)(X:Za→Prop)(t x y l N fo:Nat)(tm:List (Nat×AV))(ps:Array Tmp)(ca cb:Code):Exit→Zb→Prop:=fun e s=>match e with
 | .panic c=>c=ch t∧X s.H
 |e=>Zjf Q x y l N fo tm ps ca cb e s
def Zgs(T:TT){P:Program}{t m l:Nat}{args:List AV}{H:Za}{Q:AV→Za→Prop}{X:Za→Prop}{x y N:Nat}{f0:FuncId}{fn0:Func}{tm:List (Nat×AV)}{ps:Array Tmp}{ca cb:Code}(hf:P.funcs[f0]? =some fn0)(hH:H x y=some (.lrec l N (f0+1) tm ps ca cb .ready none))(hx:x<m)
  (hps:args.length=ps.size) (hN:∀p∈ps.toList,p<N)
  (h:∀B,AKc ⟨P,T,⟨some l,B⟩,m,N⟩ [.code ca] (fun e s=>e= .normal∧s.H x y=some (.lrec l N (f0+1) tm ps ca cb .ready none)∧
   AKc ⟨P,T,⟨some l,B⟩,m,N⟩ [.code cb] (Zsh Q X t x y l N (f0+1) tm ps ca cb) ⟨s.tmps,s.L,s.H.upd x y (.lrec l N (f0+1) tm ps ca cb .busy none)⟩) ⟨zipT ps.toList args tm,[],H⟩):Zde P t m l args H Q X:=fun E w vs hr hv=>by
 have hfull:∀(L:List (Nat×Ze)) (H:Za),full m L H x y=H x y:=fun L H=>by simp only[full];rw[if_neg om]
 obtain⟨rc,h1,h2,h3,h4,h5,h6,h7,h8,hfo,_⟩:=hr.VP hx hH;have hfn:rc.fn=f0:=Nat.succ.inj (hfo (Nat.succ_ne_zero _));have hlen:=hv.1;have hy:=run_yield (P:=P) (args:=vs.toArray) h1 (by rw[h2,←hps,←hlen];simp);refine⟨_,_,_,_,hy,fun ro n=>?_⟩;refine ZdA (F:=fr ro) (fn0:=fn0) trivial (by rw[hfn];exact hf) ?_;rw[h2,h3,h4];have hz:(ps.zip vs.toArray).foldl (fun tmps (p:Tmp×Value)=>tmps.setIfInBounds p.1 p.2) rc.tmps=(ps.toList.zip vs).foldl (fun a (p:Tmp×Value)=>a.setIfInBounds p.1 p.2) rc.tmps:=by
  rw[←Array.foldl_toList];simp
 have hs:Yq ⟨w.heap.size,[]⟩ m N ⟨zipT ps.toList args tm,[],H⟩ E {tmps:=(ps.zip vs.toArray).foldl (fun tmps (p:Tmp×Value)=>tmps.setIfInBounds p.1 p.2) rc.tmps,defers:=[]} w:=by
  refine⟨by rw[hz,zipT_size];exact h7,.nil _ (Qg _),fun t=>?_,hr.enter,fun l k b hl hb=>hr.out hl hb⟩;rw[hz];exact ZgF _ _ _ _ _ hv (fun p hp=>by rw[h7];exact hN p hp) h8 t
 refine Zfw (ro:=some l) (wpIn_mono (h ⟨w.heap.size,[]⟩ E w _ hs) ?_);rintro e a1 w1 ⟨s1,E1,⟨rfl,hr1,hk⟩,hs1,hx1⟩;have hG1:full m s1.L s1.H x y=some (.lrec l N (f0+1) tm ps ca cb .ready none):=by rw[hfull];exact hr1
 obtain⟨rc1,g1,g2,g3,g4,g5,g6,g7,g8,_,g9⟩:=hs1.heap.VP (show x<m+1 by omega) hG1;obtain⟨hh,hhx⟩:=g9 .busy none;have hbe:({rc1 with state:=.busy}:Loop)={rc1 with state:=.busy,pending:=none}:=by rw[←g6]
 refine⟨_,run_beginRound g1 g5,Zfw (ro:=some l) (wpIn_mono ?_ fun _ _ _ h=>h)⟩;rw[hbe];have hbl:∀st pd,(Ze.lrec l N (f0+1) tm ps ca cb st pd).Below m:=fun st pd=>by
  have:=hs1.out x y _ hx hr1;exact⟨this.1,this.2⟩
 have hs2:Yq ⟨w.heap.size,[]⟩ m N ⟨s1.tmps,s1.L,s1.H.upd x y (.lrec l N (f0+1) tm ps ca cb .busy none)⟩ E1 a1 (w1.putObj l (.loop {rc1 with state:=.busy,pending:=none})):=by
  refine⟨hs1.size,hs1.defs.ext hhx,fun t=>(hs1.tmps t),?_,fun l' k' b hl hb=>?_⟩
  ·rw[Yi m _ _ _ _ _ om];exact hh
  ·simp only[Za.upd]at hb;split at hb
   ·cases hb;exact hbl _ _
   ·exact hs1.out l' k' b hl hb
 refine wpIn_mono (AC.run hk hs2 (hx1.trans (hhx.mono (Ul m)))) ?_;rintro e a2 w2 ⟨s2,E2,hq,hs3,hx2⟩;cases e with
 |panic c=>
  obtain⟨rfl,hX⟩:=hq;obtain⟨hl0,ml,hl1,hl2,hl3⟩:=hs3.defs;show LeavesInM _ _ _ _ _ _ a2.defers _ _;rw[hl1,Qs];refine JJ ml w2 hl2 (fun D hD=>(hl3 D hD).2) hs3.heap (fun w3 k1 k2 k3 k4 k5 k6 k7=>⟨⟨_,rfl⟩,?_⟩);have hs4:Yq ⟨w.heap.size,[]⟩ m N s2 E2 {a2 with defers:=[]} w3:=⟨hs3.size,.nil _ (by rw[k7];exact hl0),hs3.tmps,k1,hs3.out⟩
  refine .inr ⟨s2.H,E2.cut m,rfl,hX,Zt.leave hs4,Zcn hx2 (fun b hb=>k2 b (fun hm=>?_)) k3 k4 k5 k6 k7⟩;have:w.heap.size≤b:=(hl3 b hm).1;omega
 |outgrown=>exact hq.2.elim
 |normal=>
  obtain⟨hb2,hq⟩:=hq;have hG2:full m s2.L s2.H x y=some (.lrec l N (f0+1) tm ps ca cb .busy none):=by rw[hfull];exact hb2
  obtain⟨rc2,f1,f2,f3,f4,f5,f6,f7,f8,_,f9⟩:=hs3.heap.VP (show x<m+1 by omega) hG2;obtain⟨hh2,hhx2⟩:=f9 .ready none;have hs4:Yq ⟨w.heap.size,[]⟩ m N ⟨s2.tmps,s2.L,s2.H.upd x y (.lrec l N (f0+1) tm ps ca cb .ready none)⟩ E2 a2 (w2.putObj l (.loop {rc2 with state:=.ready,pending:=none})):=by
   refine⟨hs3.size,hs3.defs.ext hhx2,hs3.tmps,?_,fun l' k' b hl hb=>?_⟩
   ·rw[Yi m _ _ _ _ _ om];exact hh2
   ·simp only[Za.upd]at hb;split at hb
    ·cases hb;exact hbl _ _
    ·exact hs3.out l' k' b hl hb
  have hxx:=hx2.trans (hhx2.mono (Ul m));exact⟨_,_,run_endRound (P:=P) none f1,.inl ⟨.bool true,_,_,E2.cut m,rfl,hq,.bool _,Zt.leave hs4,Zcn hxx (fun _ _=>rfl) rfl rfl rfl rfl rfl⟩⟩
 |ret=>
  obtain⟨hb2,hq⟩:=hq;have hG2:full m s2.L s2.H x y=some (.lrec l N (f0+1) tm ps ca cb .busy none):=by rw[hfull];exact hb2
  obtain⟨rc2,f1,f2,f3,f4,f5,f6,f7,f8,_,f9⟩:=hs3.heap.VP (show x<m+1 by omega) hG2;obtain⟨hh2,hhx2⟩:=f9 .done (some .ret);have hs4:Yq ⟨w.heap.size,[]⟩ m N ⟨s2.tmps,s2.L,s2.H.upd x y (.lrec l N (f0+1) tm ps ca cb .done (some .ret))⟩ E2 a2 (w2.putObj l (.loop {rc2 with state:=.done,pending:=some .ret})):=by
   refine⟨hs3.size,hs3.defs.ext hhx2,hs3.tmps,?_,fun l' k' b hl hb=>?_⟩
   ·rw[Yi m _ _ _ _ _ om];exact hh2
   ·simp only[Za.upd]at hb;split at hb
    ·cases hb;exact hbl _ _
    ·exact hs3.out l' k' b hl hb
  have hxx:=hx2.trans (hhx2.mono (Ul m));exact⟨_,_,run_endRound (P:=P) (some .ret) f1,.inl ⟨.bool false,_,_,E2.cut m,rfl,hq,.bool _,Zt.leave hs4,Zcn hxx (fun _ _=>rfl) rfl rfl rfl rfl rfl⟩⟩
 |exit id=>
  obtain⟨hb2,hq⟩:=hq;have hG2:full m s2.L s2.H x y=some (.lrec l N (f0+1) tm ps ca cb .busy none):=by rw[hfull];exact hb2
  obtain⟨rc2,f1,f2,f3,f4,f5,f6,f7,f8,_,f9⟩:=hs3.heap.VP (show x<m+1 by omega) hG2;obtain⟨hh2,hhx2⟩:=f9 .done (some (.exit id));have hs4:Yq ⟨w.heap.size,[]⟩ m N ⟨s2.tmps,s2.L,s2.H.upd x y (.lrec l N (f0+1) tm ps ca cb .done (some (.exit id)))⟩ E2 a2 (w2.putObj l (.loop {rc2 with state:=.done,pending:=some (.exit id)})):=by
   refine⟨hs3.size,hs3.defs.ext hhx2,hs3.tmps,?_,fun l' k' b hl hb=>?_⟩
   ·rw[Yi m _ _ _ _ _ om];exact hh2
   ·simp only[Za.upd]at hb;split at hb
    ·cases hb;exact hbl _ _
    ·exact hs3.out l' k' b hl hb
  have hxx:=hx2.trans (hhx2.mono (Ul m));exact⟨_,_,run_endRound (P:=P) (some (.exit id)) f1,.inl ⟨.bool false,_,_,E2.cut m,rfl,hq,.bool _,Zt.leave hs4,Zcn hxx (fun _ _=>rfl) rfl rfl rfl rfl rfl⟩⟩
 |goto l=>exact hq.2.elim
def Zbh(P:Program)(φ:Fm)(f0:FuncId)(n N:Nat)(c:Code)(Q:Exit→Zb→Prop)(s:Zb):Prop:=
 ∀E w a,Yq φ.B n N s E a w→ ∀(b:Frame) (k:List Item) (cs:List Frame),b.fn=f0→b.roundOf=φ.ro→
  ∃e a' w',(∃s' E',Q e s'∧Yq φ.B n N s' E' a' w'∧Ext n E w E' w')∧ArrivesIn (Machine.fenced P (fr φ.ro)) P (lone (b.atR a (.code c::k)) cs w) b k cs e a' w'
def Zgj(P:Program)(φ:Fm)(f0:FuncId)(n N:Nat)(Q:Exit→Zb→Prop):List Itm→Exit→Zb→Prop
 |[],e,s=>Q e s
 | .code d::k,e,s=>match e with
  | .normal=>Zbh P φ f0 n N d (Zgj P φ f0 n N Q k) s
  |e=>Zgj P φ f0 n N Q k e s
 | .blk id::k,e,s=>match e with
  | .exit id'=>if id'=id then Zgj P φ f0 n N Q k .normal s else Zgj P φ f0 n N Q k (.exit id') s
  |e=>Zgj P φ f0 n N Q k e s
def Zbx(P:Program)(φ:Fm)(f0:FuncId)(n N:Nat)(k:List Itm)(Q:Exit→Zb→Prop)(s:Zb):Prop:=Zgj P φ f0 n N Q k .normal s
section
variable {P:Program} {φ:Fm} {f0:FuncId} {n N:Nat} {Q Q':Exit→Zb→Prop} {s:Zb} {k:List Itm}
def calm{ro:Option Nat}{b:Frame}{a:Act}{todo:List Item}{cs:List Frame}{w:World}(h:(b.atR a todo).about P w=none):(lone (b.atR a todo) cs w).fenced P (fr ro):=
 fenced_calm (n:=0) trivial (Zcj _ _) h
def Zbh.mono{c:Code}(h:Zbh P φ f0 n N c Q s)(hq:∀e s',Q e s'→Q' e s'):Zbh P φ f0 n N c Q' s:=fun E w a hs b k cs h1 h2=>by
 obtain⟨e,a',w',⟨s',E',hQ,r⟩,harr⟩:=h E w a hs b k cs h1 h2;exact⟨e,a',w',⟨s',E',hq _ _ hQ,r⟩,harr⟩
def Zny{c:Code}(h:AC P φ n N c Q s):Zbh P φ f0 n N c Q s:=fun E w a hs b k cs _ h2=>h E w a hs b k cs h2 trivial (Zcj _ _)
def Zbh.seq{x y:Code}(h:Zbh P φ f0 n N x (fun e s'=>match e with| .normal=>Zbh P φ f0 n N y Q s'|e=>Q e s') s):Zbh P φ f0 n N (.seq x y) Q s:=fun E w a hs b k cs h1 h2=>by
 have i0:(lone (b.atR a (.code (.seq x y)::k)) cs w).fenced P (fr φ.ro):=calm rfl;obtain⟨e,a1,w1,⟨s1,E1,hq,hs1,hx1⟩,harr⟩:=h E w a hs b (.code y::k) cs h1 h2;cases e with
 |normal=>
  obtain⟨e2,a2,w2,⟨s2,E2,hq2,hs2,hx2⟩,harr2⟩:=hq E1 w1 a1 hs1 b k cs h1 h2;exact⟨e2,a2,w2,⟨s2,E2,hq2,hs2,hx1.trans hx2⟩,.of_steps (.head i0 stepR_seq harr) harr2⟩
 |exit id=>exact⟨_,a1,w1,⟨s1,E1,hq,hs1,hx1⟩,.of_steps (.one i0 stepR_seq) (.pass (x:=.code y) rfl (fun _ _=>.inl sm) harr)⟩
 |goto l=>exact⟨_,a1,w1,⟨s1,E1,hq,hs1,hx1⟩,.of_steps (.one i0 stepR_seq) (.pass (x:=.code y) rfl (fun _ _=>.inl sm) harr)⟩
 |ret=>exact⟨_,a1,w1,⟨s1,E1,hq,hs1,hx1⟩,.of_steps (.one i0 stepR_seq) (.pass (x:=.code y) rfl (fun _ _=>.inl sm) harr)⟩
 |panic ch=>exact⟨_,a1,w1,⟨s1,E1,hq,hs1,hx1⟩,.of_steps (.one i0 stepR_seq) (.pass (x:=.code y) rfl (fun _ _=>.inl sm) harr)⟩
 |outgrown=>exact⟨_,a1,w1,⟨s1,E1,hq,hs1,hx1⟩,.of_steps (.one i0 stepR_seq) (.pass (x:=.code y) rfl (fun _ _=>.inl sm) harr)⟩
def Zeb{c:Code}(hc:c= .seq c.fst c.snd)(h:Zbx P φ f0 n N (.code c.fst:: .code c.snd::k) Q s):Zbx P φ f0 n N (.code c::k) Q s:=by
 rw[hc];exact Zbh.seq (Zbh.mono h fun e s' hq=>by cases e<;>exact hq)
def Zrt{T:TT}{c:Code}(h:AKc ⟨P,T,φ,n,N⟩ [.code c] (Zgj P φ f0 n N Q k) s):Zbx P φ f0 n N (.code c::k) Q s:=Zny (AC.mono h fun _ _ h=>h)
def Zc5{c:List PanicEntry}(h:Q (.panic c) s):∀k,Zgj P φ f0 n N Q k (.panic c) s
 |[]=>h
 | .code _::k=>Zc5 h k
 | .blk _::k=>Zc5 h k
end
def Zhg{P:Program}{T:TT}{t n:Nat}{f:FuncId}{fn:Func}{c:Code}{args:List AV}{H:Za}{Q:AV→Za→Prop}{X:Za→Prop}(hT:TOK P T)(hf:Fun P f fn c)(hN:args.length≤fn.ntmps)
  (h:∀B,Zbx P ⟨none,B⟩ f n fn.ntmps [.code c] (Zeo P T t n fn.results.toList Q X) ⟨numbered 0 args,[],H⟩):Yc P t n f args H Q X:=fun E w vs hr hv=>by
 refine(callsIn_wide (n:=0)).1 ⟨trivial,fun cs hroom=>?_⟩
 let b:Frame:={(default:Frame)with fn:=f,kind:=.normal,roundOf:=none}
 have henter:Frame.enter P f vs.toArray .normal=
   b.atR {tmps:=vs.toArray++Array.replicate (fn.ntmps - vs.toArray.size) undef,defers:=[]} [.code c]:=by
  simp[Frame.enter,Frame.atR,hf.get,hf.body,b]
 obtain⟨e,a',w',⟨s',E',hQ,hs',hx⟩,harr⟩:=h ⟨w.heap.size,[]⟩ E w _ (Yq.start hr hv hN) b [] cs rfl rfl;rw[←henter]at harr;cases e with
 |normal=>
  obtain⟨e',w'',fr',hR,hs,hfn,hl⟩:=leaves_stepsInM (F:=Fence.wide) (n:=0) a'.defers .returning w' {b.atR a' []with mode:=.returning} cs rfl rfl rfl hf.get rfl trivial hroom (Jt hT rfl hs' hx hQ);exact⟨e',w'',fr',hR,ComesIn.of_steps (StepsIn.trans harr (.one (fenced_calm (fr:=b.atR a' []) (n:=0) trivial hroom rfl) (stepR_end rfl))) hs,hfn,hl⟩
 |ret=>
  obtain⟨todo,hs0⟩:=harr.1 rfl;obtain⟨e',w'',fr',hR,hs,hfn,hl⟩:=leaves_stepsInM (F:=Fence.wide) (n:=0) a'.defers .returning w' {b.atR a' todo with mode:=.returning} cs rfl rfl rfl hf.get rfl trivial hroom (Jt hT rfl hs' hx hQ);exact⟨e',w'',fr',hR,ComesIn.of_steps hs0 hs,hfn,hl⟩
 |panic chain=>
  obtain⟨rfl,hX⟩:=hQ;obtain⟨todo,hs0⟩:=harr;obtain⟨e',w'',fr',hR,hs,hfn,hl⟩:=leaves_stepsInM (F:=Fence.wide) (n:=0) a'.defers (.panicking (ch t)) w' {b.atR a' todo with mode:=.panicking (ch t)} cs rfl rfl rfl hf.get rfl trivial hroom (Ze8 rfl hs' hx hX);exact⟨e',w'',fr',hR,ComesIn.of_steps hs0 hs,hfn,hl⟩
 |exit id=>exact hQ.elim
 |goto l=>exact hQ.elim
 |outgrown=>exact hQ.elim
theorem ZbM{P:Program}{T:TT}{B:Base}{t n N:Nat}{f0:FuncId}{g:Operand}{ps:Array Tmp}{c:Code}{k:List Itm}{Q:Exit→Zb→Prop}{s:Zb}{gf:FuncId}{fn:Func}{c':Code}{caps:List AV}(y:Nat)
  (hcc:c= .rangeFunc g ps c.fst c.snd) (hg:evT s.tmps g= .fn (.func gf) caps) (hf:Fun P gf fn c') (hy:lkb s.L y=none)
  (h:∀l,∃Qc Xc,Yc P t (n+1) gf ([.fn (.yield l) []]++caps) (full n (setb s.L y (.lrec l N (f0+1) s.tmps ps c.fst c.snd .ready none)) s.H) Qc Xc∧
   (∀r H1,Qc r H1→ ∃L1 H2 st,H1=full n L1 H2∧ZM n s.H H2∧lkb L1 y=some (.lrec l N (f0+1) s.tmps ps c.fst c.snd st none)∧st≠ .busy∧
    Zbx P ⟨none,B⟩ f0 n N k Q ⟨s.tmps,setb L1 y (.lrec l N (f0+1) s.tmps ps c.fst c.snd .exhausted none),H2⟩)∧
   (∀H1,Xc H1→ ∃L1 H2,H1=full n L1 H2∧ZM n s.H H2∧Q (.panic (ch t)) ⟨s.tmps,L1,H2⟩)):
  Zbx P ⟨none,B⟩ f0 n N (.code c::k) Q s:=fun E w a hs b k0 cs hbf hro=>by
 generalize hca:c.fst=ca at*;generalize hcb:c.snd=cb at*;subst hcc;have hgv:=ZdS hs.tmps g;rw[hg]at hgv;generalize hgy:a.eval g=gy at hgv;cases hgv with|fn _ _ vs hl hvs=>
 obtain⟨W0,hW0⟩:∃W0,w.alloc (.deferred (some []))=W0:=⟨_,rfl⟩
 have hsz0:W0.heap.size=w.heap.size+1:=by rw[←hW0];simp
 have hold0:∀b,b<w.heap.size→W0.heap[b]? =w.heap[b]?:=fun b hb=>by
  rw[←hW0];simp only[World.alloc,MI];rw[if_neg om]
 have hD0:W0.heap[w.heap.size]? =some (.deferred (some [])):=by rw[←hW0];exact World.alloc_heap_new w _
 obtain⟨r0,x0⟩:=hs.heap.grow (w':=W0) (F':=E.F) (by rw[←hW0];rfl) (by rw[←hW0];rfl) (by rw[←hW0];rfl) (fun _=>by rw[←hW0];exact Qg _) om hold0 (fun _ _ _ h=>h)
  (fun b o v hf=>by
   have hlt:=hs.heap.ZcB hf;have:=hs.heap.F b o v hf;simp only[World.cell?,hold0 b hlt]at this⊢;exact this) (fun _ _ _=>rfl)
 have hfree:full n s.L s.H n y=none:=by simp only[full,if_true];exact hy
 obtain⟨rc,hrc⟩:∃rc:Loop,rc={state:=.ready,pending:=none,fn:=b.fn,tmps:=a.tmps,params:=ps,assign:=ca,body:=cb,defers:=w.heap.size}:=⟨_,rfl⟩
 have hnew:(W0.alloc (.loop rc)).heap[W0.heap.size]? =some (.loop rc):=World.alloc_heap_new _ _;have hle0:E.le (n+1) (E.X9 n y W0.heap.size):=by
  refine⟨fun _ _ _ h=>h,fun l' k' b _ hm=>?_,fun _ _ _ _ _ h=>h,rfl⟩;simp only[Env.X9];rw[if_neg (fun hc=>by rw[hc.1,hc.2,(hs.heap.dom n y (Qr n) hfree).1]at hm;cases hm)];exact hm
 obtain⟨r1,x1⟩:=r0.ZdO (l:=n) (k:=y) (Qr n) hfree (.loop rc) (.lrec W0.heap.size N (f0+1) s.tmps ps ca cb .ready none) (by
  refine⟨by simp[Env.X9],rc,hnew,by rw[hrc],by rw[hrc],by rw[hrc],by rw[hrc],by rw[hrc],by rw[hrc];exact hs.size,fun t=>?_,fun _=>by rw[hrc];exact congrArg Nat.succ hbf⟩;rw[hrc];exact(hs.tmps t).mono hs.heap.norm hle0)
 have hx1:=(x0.trans x1)
 obtain⟨Qc,Xc,hc,hk,hX⟩:=h W0.heap.size;rw[Zr]at hc;have hl0:w.heap.size+1=W0.heap.size:=hsz0.symm;have hvs1:VRs (E.X9 n y W0.heap.size) ([.fn (.yield W0.heap.size) []]++caps) ([.func (.yield W0.heap.size) #[] #[]]++vs):=
  VRs.append (VRs.cons (VR.fn _ [] [] rfl (fun i h=>absurd h (Qo _))) (VRs.nil _)) ((show VRs E caps vs from⟨hl,hvs⟩).mono hs.heap.norm hle0)
 have hcall:=(callsIn_wide (n:=0)).2 (hc _ _ _ r1 hvs1);rw[show([Value.func (.yield W0.heap.size) #[] #[]]++vs).toArray= #[.func (.yield W0.heap.size) #[] #[]]++vs.toArray by simp]at hcall;have henter:step P (lone (b.atR a (.code (.rangeFunc g ps ca cb)::k0)) cs w)=
   .next (lone (Frame.enter P gf (#[.func (.yield W0.heap.size) #[] #[]]++vs.toArray) .normal) (b.atR {a with defers:=[mark w.heap.size]++a.defers} (.inRangeFunc W0.heap.size::k0)::cs) (W0.alloc (.loop rc))):=by
  refine stepR_rangeFunc (l:=W0.heap.size) (mark:=[mark w.heap.size]) (w₁:=W0.alloc (.loop rc)) (d:={target:=.fn (.func gf) vs.toArray,args:=#[.func (.yield W0.heap.size) #[] #[]]}) (w₁':=W0.alloc (.loop rc)) ?_ ?_ ?_
  ·rw[hro,←hl0,hrc,←hW0];exact run_enterLoop_outer _ _ _ _ _
  ·simp only[resolve,rangeCall,hgy];simp[go_sem]
  ·simp[invoke,Xa hf]
 have i0:(lone (b.atR a (.code (.rangeFunc g ps ca cb)::k0)) cs w).fenced P (fr none):=fenced_lone (.inl trivial) (fun _ _=>trivial) (Zcj _ _);obtain⟨e,w3,fr3,hR,hsteps,hfn,hleave⟩:=hcall.2 (b.atR {a with defers:=[mark w.heap.size]++a.defers} (.inRangeFunc W0.heap.size::k0)::cs) (room_wide _);have hlW:∀b,b<W0.heap.size→(W0.alloc (.loop rc)).heap[b]? =W0.heap[b]?:=fun b hb=>by
  simp only[World.alloc,MI];rw[if_neg om]
 have hDn:¬(E.X9 n y W0.heap.size).own w.heap.size:=by
  rintro(⟨l',k',hm⟩|⟨l',k',hm⟩)
  ·simp only[Env.X9]at hm;split at hm
   ·simp only[Qp]at hm;omega
   ·have:=hs.heap.lt _ (.inl ⟨_,_,hm⟩);omega
  ·have:=hs.heap.lt _ (.inr ⟨_,_,hm⟩);omega
 have defs:∀E4 w4,Ext (n+1) (E.X9 n y W0.heap.size) (W0.alloc (.loop rc)) E4 w4→ZcC B E4 (mark w.heap.size::a.defers) w4:=fun E4 w4 hx4=>by
  have hxa:=hx1.trans hx4;obtain⟨e0,l2,e1,e2,e3⟩:=hs.defs.ext hxa;have hlt2:∀D∈l2,D<w.heap.size:=fun D hD=>by
   obtain⟨_,l3,c1,c2,c3⟩:=hs.defs;rw[e1,Qa4]at c1;have inj:∀(a b:List Nat),a.map mark=b.map mark→a=b:=by
    intro a;induction a with
    |nil=>intro b hb;cases b with
     |nil=>rfl
     |cons _ _=>cases hb
    |cons x a ih=>intro b hb;cases b with
     |nil=>cases hb
     |cons z b=>
      simp only[Qv,Uf,mark,Deferred.mk.injEq,Target.collected.injEq,and_true]at hb;rw[hb.1,ih b hb.2]
   exact(QX.1 (c3 _ (inj _ _ c1▸hD)).2.1).1
  have hd0:w4.heap[w.heap.size]? =some (.deferred (some [])):=(hx4.block _ (by simp;omega) hDn).trans ((hlW _ om).trans hD0);refine⟨e0,w.heap.size::l2,by rw[e1];rfl,GN.2 ⟨fun hm=>absurd (hlt2 _ hm) (QY _),e2⟩,fun D hD=>?_⟩;rcases Ql.1 hD with rfl|hD
  ·exact⟨hs.defs.1,hd0,fun ho=>hDn (hx4.own _ (by simp;omega) ho)⟩
  ·exact e3 D hD
 rcases hR with⟨r,v,H1,E3,rfl,hq,hv3,hh3,hx3⟩|⟨H1,E3,rfl,hq,hh3,hx3⟩
 ·obtain⟨L1,H2,st,rfl,ho,hl1,hst,hkk⟩:=hk _ _ hq;have hG:full n L1 H2 n y=some (.lrec W0.heap.size N (f0+1) s.tmps ps ca cb st none):=by simp only[full,if_true];exact hl1
  obtain⟨rc3,f1,f2,f3,f4,f5,f6,f7,f8,_,f9⟩:=hh3.VP (Qr n) hG;obtain⟨hh4,hx4⟩:=f9 .exhausted none;have hend:=run_endLoop (P:=P) f1 (by rw[f5];exact hst);rw[f6]at hend;have hxa:=(hx1.trans hx3).trans hx4;have hs4:Yq B n N ⟨s.tmps,setb L1 y (.lrec W0.heap.size N (f0+1) s.tmps ps ca cb .exhausted none),H2⟩ E3 {a with defers:=[mark w.heap.size]++a.defers} (w3.putObj W0.heap.size (.loop {rc3 with state:=.exhausted,pending:=none})):=
   ⟨hs.size,defs _ _ (hx3.trans hx4),fun t=>(hs.tmps t).mono hs.heap.norm (hx1.trans hx3).le,by rw[Zr];exact hh4,Yq.WR hs.out ho⟩
  have i1:(lone fr3 (b.atR {a with defers:=[mark w.heap.size]++a.defers} (.inRangeFunc W0.heap.size::k0)::cs) w3).fenced P (fr none):=fenced_leaving (n:=0) trivial (Zcj _ _) hleave;have sback:StepsIn (Machine.fenced P (fr none)) P (lone (b.atR a (.code (.rangeFunc g ps ca cb)::k0)) cs w) (lone (b.atR {a with defers:=[mark w.heap.size]++a.defers} k0) cs (w3.putObj W0.heap.size (.loop {rc3 with state:=.exhausted,pending:=none}))):=by
   have hb1:=step_leave_returned (c:=b.atR {a with defers:=[mark w.heap.size]++a.defers} (.inRangeFunc W0.heap.size::k0)) (cs:=cs) hleave;rw[finish_atR_inRangeFunc]at hb1;have hb2:=stepR_endRangeFunc (P:=P) (b:=b) (a:={a with defers:=[mark w.heap.size]++a.defers}) (k:=k0) (cs:=cs) hend;simp only[QbA,Option.toList_none,Q5]at hb2;exact .head i0 henter (StepsIn.trans hsteps (.head i1 hb1 (.one (calm rfl) hb2)))
  have hsuf:∃e a' w',(∃s' E',Zgj P ⟨none,B⟩ f0 n N Q k e s'∧Yq B n N s' E' a' w'∧Ext n E w E' w')∧ArrivesIn (Machine.fenced P (fr none)) P (lone (b.atR a (.code (.rangeFunc g ps ca cb)::k0)) cs w) b k0 cs e a' w':=
   ⟨.normal,_,_,⟨_,E3,hkk,hs4,hxa.mono (Ul n)⟩,sback⟩
  exact hsuf
 ·obtain⟨L1,H2,rfl,ho,hXQ⟩:=hX _ hq;have i1:(lone fr3 (b.atR {a with defers:=[mark w.heap.size]++a.defers} (.inRangeFunc W0.heap.size::k0)::cs) w3).fenced P (fr none):=fenced_leaving (n:=0) trivial (Zcj _ _) hleave;have hs4:Yq B n N ⟨s.tmps,L1,H2⟩ E3 {a with defers:=[mark w.heap.size]++a.defers} w3:=
   ⟨hs.size,defs _ _ hx3,fun t=>(hs.tmps t).mono hs.heap.norm (hx1.trans hx3).le,hh3,Yq.WR hs.out ho⟩
  refine⟨.panic (ch t),_,w3,⟨_,E3,Zc5 hXQ k,hs4,(hx1.trans hx3).mono (Ul n)⟩,.inRangeFunc W0.heap.size::k0,.head i0 henter (StepsIn.trans hsteps (.one i1 ?_))⟩;rw[←Frame.raise_atR];exact step_leave_panicked hleave
end Go.Abs
