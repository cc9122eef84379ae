/- Goals out of code: what must hold for a region's operations, one behind the other. No program, no condition. -/
import Derived.Test.YtmdeagmbfhbbnaaGreatDoorRQ02
set_option linter.all false
namespace Go.Abs
structure Cx where
 P:Program
 T:TT
 φ:Fm
 n:Nat
 N:Nat
def ones(v:AV):Bool:=v.cells.all AV.one
def Zb.put(s:Zb)(d:Option Nat)(v:AV):Zb:=⟨Yl s.tmps d v,s.L,s.H⟩
def setb:List (Nat×Ze)→Nat→Ze→List (Nat×Ze)
 |[],k,b=>[(k,b)]
 |(i,v)::r,k,b=>if i=k then(k,b)::r else(i,v)::setb r k b
theorem lkb_setb:∀(L:List (Nat×Ze)) (k:Nat) (b:Ze) (t:Nat),lkb (setb L k b) t=if t=k then some b else lkb L t
 |[],k,b,t=>by
  simp only[setb,lkb];by_cases h:k=t
  ·subst h;simp
  ·rw[if_neg h,if_neg (fun e=>h e.symm)]
 |(i,v)::r,k,b,t=>by
  simp only[setb];by_cases hi:i=k
  ·subst hi;simp only[if_true,lkb];by_cases h:i=t
   ·subst h;simp
   ·simp[h,Ne.symm h]
  ·simp only[if_neg hi,lkb,lkb_setb r k b t];by_cases h:i=t
   ·subst h;simp[hi]
   ·simp[h]
theorem setb_setb:∀(L:List (Nat×Ze)) (k:Nat) (b b':Ze),setb (setb L k b) k b'=setb L k b'
 |[],k,b,b'=>by simp[setb]
 |(i,v)::r,k,b,b'=>by
  simp only[setb];split
  ·simp[setb]
  ·rename_i h;simp only[setb,if_neg h,setb_setb r k b b']
theorem Zm(n:Nat)(L:List (Nat×Ze))(H:Za)(k:Nat)(b:Ze):full n (setb L k b) H=(full n L H).upd n k b:=by
 funext l j;simp only[full,Za.upd,lkb_setb];by_cases h:l=n
 ·subst h;simp
 ·simp[h]
theorem Yj(n:Nat)(L:List (Nat×Ze))(H:Za)(l k:Nat)(b:Ze)(h:l≠n):full n L (H.upd l k b)=(full n L H).upd l k b:=by
 funext l' j;simp only[full,Za.upd];by_cases h1:l'=n
 ·subst h1;have:¬(l'=l∧j=k):=fun c=>h c.1.symm
  simp[this]
 ·simp[h1]
def Zc9(T:TT)(t:TypeId)(f:Nat):Option (Nat×Zv):=
 match T t with
 |some r=>match r.td with
  | .struct fs=>match fs[f]? with
   |some (fo,ft)=>(T ft).map fun rf=>(fo,rf)
   |none=>none
  |_=>none
 |none=>none
section
variable {t:Nat} {T:TT}
theorem ZdS{f:Nat}{fo:Nat}{rf:Zv}(h:Zc9 T t f=some (fo,rf)):∃r fs ft,T t=some r∧r.td= .struct fs∧fs[f]? =some (fo,ft)∧T ft=some rf:=by
 unfold Zc9 at h;split at h
 ·rename_i r hr;split at h
  ·rename_i fs hfs;split at h
   ·rename_i fo' ft hf;simp only[Ul]at h;obtain⟨rf',h1,h2⟩:=h;cases h2;exact⟨r,fs,ft,hr,hfs,hf,h1⟩
   ·cases h
  ·cases h
 ·cases h
def sliceOf(T:TT)(t:TypeId):Option (TypeId×Zv):=
 match T t with
 |some r=>match r.td with
  | .slice e=>(T e).map fun re=>(e,re)
  |_=>none
 |none=>none
variable {re:Zv}
theorem ZT{e:Nat}(h:sliceOf T t=some (e,re)):∃r,T t=some r∧r.td= .slice e∧T e=some re:=by
 unfold sliceOf at h;split at h
 ·rename_i r hr;split at h
  ·rename_i e' he;simp only[Ul]at h;obtain⟨re',h1,h2⟩:=h;cases h2;exact⟨r,hr,he,h1⟩
  ·cases h
 ·cases h
def Zjd(T:TT)(t:TypeId):Option (Nat×Zv):=
 match T t with
 |some r=>match r.td with
  | .array n e=>(T e).map fun re=>(n,re)
  |_=>none
 |none=>none
theorem ZfR{n:Nat}(h:Zjd T t=some (n,re)):∃r e,T t=some r∧r.td= .array n e∧T e=some re:=by
 unfold Zjd at h;split at h
 ·rename_i r hr;split at h
  ·rename_i n' e he;simp only[Ul]at h;obtain⟨re',h1,h2⟩:=h;cases h2;exact⟨r,e,hr,he,h1⟩
  ·cases h
 ·cases h
def JM(T:TT)(t:TypeId):Option TD:=(T t).map (·.td)
theorem YH{d:TD}(h:JM T t=some d):∃r,T t=some r∧r.td=d:=by
 simp only[JM,Ul]at h;exact h
def ldA(r:Zv)(cs:List AV):AV:=if r.isAgg then .agg (cs.take r.size)else cs.getD 0 .dead
def isEq:BinOp→Bool
 | .eql=>true
 | .neq=>true
 |_=>false
def eqB:BinOp→Bool→Bool
 | .eql,b=>b
 |_,b=>!b
variable {op:BinOp}
theorem Zb4(h:isEq op=true):op= .eql∨op= .neq:=by
 cases op<;>first|exact .inl rfl|exact .inr rfl|cases h
theorem ZfW(b:Bool)(h:isEq op=true):eqB op b=if op= .eql then b else !b:=by
 cases op<;>first|rfl|cases h
def ZqK(b:Builtin)(x y:Int):Option Int:=
 match b with
 | .max=>some (if y>x then y else x)
 | .min=>some (if y<x then y else x)
 |_=>none
variable {o:Oper}
theorem Zud{P:Program}{ρ:Operand→AV}{b:Builtin}{x y:Operand}{ts:Array TypeId}{k k':IntKind}{m n v:Int}(ho:o.op= .call {callee:=.builtin b,args:=#[x,y],argTypes:=ts})
  (hx:ρ x= .int k m) (hy:ρ y= .int k' n) (hv:ZqK b m n=some v):YV P o ρ (.int k v):=fun E a h=>by
 have h1:=h x sC;have h2:=h y sC;rw[hx]at h1;rw[hy]at h2;cases ha:a.eval x<;>rw[ha]at h1<;>cases h1;cases hb:a.eval y<;>rw[hb]at h2<;>cases h2;refine⟨.int k v,fun w=>?_,.int _ _⟩;cases b<;>simp only[ZqK,Qq,reduceCtorEq]at hv<;>subst hv
 ·simp[execOp,ho,ha,hb,resolve,invoke,builtin,Builtin.max_,Builtin.max2]
 ·simp[execOp,ho,ha,hb,resolve,invoke,builtin,Builtin.min_,Builtin.min2]
def fullOwn:List AV→Own→Own
 |_,.any=>.any
 |_,.buf _ _=>.any
 |[],.full=>.full
 |_::_,.full=>.any
theorem ZlD{P:Program}{T:TT}{o:Oper}{ρ:Operand→AV}{t:TypeId}{x:Operand}{r:Zv}{e:TypeId}{k:Nat}(hT:TOK P T)(ho:o.op= .call {callee:=.builtin .cap,args:=#[x],argTypes:=#[t]})
  (h1:T t=some r) (h2:r.td= .slice e) (hv:ρ x= .sl k [] .full):YV P o ρ (.int .i64 0):=fun E a h=>by
 have hx:=h x sC;rw[hv]at hx;obtain⟨d,inf,z,hf⟩:=Zd (hT t r h1);have hd:=ZH (h2▸hf.fits);subst hd;generalize hy:a.eval x=y at hx;cases hx with
 |slnil=>exact⟨_,fun w=>by simp[execOp,ho,hy,resolve,invoke,builtin,Builtin.cap_,run_underlying hf.und,goInt],.int _ _⟩
 |sl _ _ _ b off cap c hk hc hv hcap hm ho'=>
  have:cap=0:=ho';subst this;exact⟨_,fun w=>by simp[execOp,ho,hy,resolve,invoke,builtin,Builtin.cap_,run_underlying hf.und,goInt],.int _ _⟩
variable {x:Operand} {ρ:Operand→AV} {P:Program}
theorem Zh9{t:TypeId}{lo hi:Option Operand}{r:Zv}{e:TypeId}{k:Nat}(hT:TOK P T)(ho:o.op= .slice t x lo hi none)(h1:T t=some r)(h2:r.td= .slice e)
  (h2':T e=some re) (hv:ρ x= .sl k [] .full) (hl:bnd ρ lo 0=some 0) (hh:bnd ρ hi 0=some 0):YV P o ρ (.sl k [] .full):=fun E a hops=>by
 have hx:=hops x sO;have hb:∀y,lo=some y∨hi=some y→VR E (ρ y) (a.eval y):=fun y hy=>hops y (by rcases hy with rfl|rfl<;>simp[ho,Op.operands])
 rw[hv]at hx;obtain⟨d,inf,z,hf⟩:=Zd (hT t r h1);obtain⟨d',i',z',hf'⟩:=Zd (hT e re h2');have hd:=ZH (h2▸hf.fits);subst hd;have he:execOp a.eval o=(do let v←Instr.sliceAt t (a.eval x) (lo.map a.eval) (hi.map a.eval) none;pure (Next.value v)):=by simp only[execOp,ho];rfl
 have hval:∃ad,a.eval x= .slice ad 0 0:=by
  generalize a.eval x=q at hx;cases hx with
  |slnil _ _ a ho ha=>exact⟨a,rfl⟩
  |sl _ _ _ b off cap c hk hc hv hcap hm ho=>
   have:cap=0:=ho;subst this;exact⟨_,rfl⟩
 obtain⟨ad,hval⟩:=hval;have hrun:=fun w=>WG (P:=P) (s:=true) (len:=0) (cap:=0) hb hl hh (GI 0) (GI 0) sm w
 refine⟨.slice ad 0 0,fun w=>?_,by rw[hval]at hx;exact hx⟩;have hrun:=hrun w;rw[he,hval];simp at hrun;cases ad<;>simp[Instr.sliceAt,Instr.slice,run_underlying hf.und,hrun,ZF hf']
def evP(T:TT)(o:Op)(ty:TypeId)(ρ:Operand→AV):Prop×AV:=
 match o with
 | .move x=>(True,mv T ty x (ρ x))
 | .assign x=>(True,mv T ty x (ρ x))
 | .pick c x y=>match ρ c with
  | .bool true=>(True,mv T ty x (ρ x))
  | .bool false=>(True,mv T ty y (ρ y))
  |_=>(False,.dead)
 | .nilCheck x=>match ρ x with
  | .ptr l k off=>(True,.ptr l k off)
  | .iptr cs=>(True,.iptr cs)
  | .eptr l k n off=>(True,.eptr l k n off)
  | .fn (.func f) c=>(True,.fn (.func f) c)
  | .fn (.yield f) c=>(True,.fn (.yield f) c)
  |_=>(False,.dead)
 | .fieldAddr t x f=>match Zc9 T t f with
  |some (fo,rf)=>match ρ x with
   | .ptr l k off=>(rf.size≠0,.ptr l k (off+fo))
   | .iptr cs=>(rf.size≠0,.iptr (cs.drop fo))
   | .eptr l k n off=>(rf.size≠0,.eptr l k n (off+fo))
   |_=>(False,.dead)
  |none=>(False,.dead)
 | .indexAddr t x ix=>match sliceOf T t with
  |some (_,re)=>match ρ x,ρ ix with
   | .sl k xs _,.int _ i=>(k=re.size∧0≤i∧i<xs.length,.iptr (xs.getD i.toNat .dead).cells)
   | .msl _ l k n,.int _ i=>(0≤i∧i<n,.eptr l k n (i.toNat*re.size))
   | .sub sz l k n off m,.int _ i=>(sz=re.size∧0≤i∧i<m,.eptr l k n ((off+i.toNat)*re.size))
   |_,_=>(False,.dead)
  |none=>match Zjd T t with
   |some (N,re)=>match ρ x,ρ ix with
    | .ptr l k off,.int _ i=>(0≤i∧i<N,.ptr l k (off+i.toNat*re.size))
    | .iptr cs,.int _ i=>(0≤i∧i<N,.iptr (cs.drop (i.toNat*re.size)))
    |_,_=>(False,.dead)
   |none=>(False,.dead)
 | .field t x f=>match Zc9 T t f with
  |some (fo,rf)=>match ρ x with
   | .agg cs=>(rf.isAgg=false→fo<cs.length,if rf.isAgg then .agg ((cs.drop fo).take rf.size)else cs.getD fo .dead)
   |_=>(False,.dead)
  |none=>(False,.dead)
 | .extract x i=>match ρ x with
  | .tup vs=>(i<vs.length,vs.getD i .dead)
  |_=>(False,.dead)
 | .build t ps=>match T t with
  |some r=>match r.td with
   | .struct fs=>match Zdr (fun i=>(Jj T fs)[i]?.join) r.zero (YZ ρ ps.toList)with
    |some out=>((∀f∈fs,T f.2≠none)∧(∀p∈YZ ρ ps.toList,ones p.2=true),.agg out)
    |none=>(False,.dead)
   |_=>match Zjd T t with
    |some (_,re)=>match Zdr (fun i=>some (i*re.size,re.size)) r.zero (YZ ρ ps.toList)with
     |some out=>((∀p∈YZ ρ ps.toList,ones p.2=true),.agg out)
     |none=>(False,.dead)
    |none=>(False,.dead)
  |none=>(False,.dead)
 | .makeFunc f fs cs=>match fs.toList with
  |[]=>(True,.fn f (cs.toList.map ρ))
  |x::r=>(cs= #[],.bfn f ((x::r).map ρ))
 | .unOp op _ x=>match op,ρ x with
  | .not,.bool b=>(True,.bool (!b))
  | .neg,.int k n=>(True,.int k (k.wrap (0 - n)))
  |_,_=>(False,.dead)
 | .convert s d x=>match JM T s,JM T d,ρ x with
  |some (.int _),some (.int k),.int _ n=>(True,.int k (k.wrap n))
  |some .str,some .str,.str s=>(True,.str s)
  |some (.slice e),some .str,.sl 1 [.int .u8 b] _=>(JM T e=some (.int .u8),.str [UInt8.ofNat b.toNat])
  |_,_,_=>(False,.dead)
 | .makeInterface t x=>match JM T t with
  |some .iface=>(False,.dead)
  |some _=>(True,.ifc t (ρ x))
  |none=>(False,.dead)
 | .typeAssert x _ t ok=>match T t,ρ x with
  |some r,.ifc t' v=>if t'=t then(r.td≠ .iface,if ok then .tup [v,.bool true]else v)else(ok=true∧r.td≠ .iface∧(r.isAgg=false→r.size=1),.tup [XI r,.bool false])
  |some r,.nili=>(ok=true∧r.td≠ .iface∧(r.isAgg=false→r.size=1),.tup [XI r,.bool false])
  |_,_=>(False,.dead)
 | .binOp op t x y _=>match ZqL y (ρ x)with
  |some b=>((∃e,JM T t=some (.slice e))∧isEq op=true,.bool (eqB op b))
  |none=>match ρ x,ρ y with
  | .int k a,.int k' b=>match op with
   | .quo=>(k=k'∧b≠0,.int k (k.wrap (a.tdiv b)))
   | .rem=>(k=k'∧b≠0,.int k (a.tmod b))
   | .shr=>(0≤b,.int k (a.fdiv (2^(min b.toNat k.bits))))
   |op=>match ZmQ op k a b with
    |some v=>(k=k',v)
    |none=>(False,.dead)
  | .str a,.str b=>match op with
   | .add=>(a.length+b.length≤9223372036854775807,.str (a++b))
   |op=>match Zmb op a b with
    |some v=>(True,v)
    |none=>(False,.dead)
  | .bool a,.bool b=>(JM T t=some .bool∧isEq op=true,.bool (if op= .eql then a==b else !(a==b)))
  | .nilp,.nilp=>(JM T t=some .ptr∧isEq op=true,.bool (eqB op true))
  | .ptr _ _ _,.nilp=>(JM T t=some .ptr∧isEq op=true,.bool (eqB op false))
  | .iptr _,.nilp=>(JM T t=some .ptr∧isEq op=true,.bool (eqB op false))
  | .nilf,.nilf=>(JM T t=some .func∧isEq op=true,.bool (eqB op true))
  | .fn _ _,.nilf=>(JM T t=some .func∧isEq op=true,.bool (eqB op false))
  | .nilm,.nilm=>((∃k e,JM T t=some (.map k e))∧isEq op=true,.bool (eqB op true))
  | .map _ _,.nilm=>((∃k e,JM T t=some (.map k e))∧isEq op=true,.bool (eqB op false))
  | .agg az,.agg bs=>match T t,klAll az,klAll bs with
   |some r,some la,some lb=>(r.isAgg=true∧ZV T 100 t la=true∧ZV T 100 t lb=true∧isEq op=true,.bool (eqB op (la==lb)))
   |_,_,_=>(False,.dead)
  |_,_=>(False,.dead)
 | .lookup t x y ok=>match mapOf T t,ρ x with
  |some (kt,_,re),.nilm=>((re.isAgg=false→re.size=1)∧YE T kt (ρ y)=true,lookA re (ρ y) [] ok)
  |_,_=>(False,.dead)
 | .index t x ix=>match JM T t,ρ x,ρ ix with
  |some .str,.str s,.int _ i=>(0≤i∧i<s.length,.int .u8 (s.getD i.toNat 0).toNat)
  |_,_,_=>(False,.dead)
 | .slice t x lo hi mx=>match mx,ρ x with
  |none,.str s=>match bnd ρ lo 0,bnd ρ hi s.length with
   |some l,some h=>(JM T t=some .str∧0≤l∧l≤h∧h≤s.length,.str ((s.take h.toNat).drop l.toNat))
   |_,_=>(False,.dead)
  |none,.sl k xs ow=>match sliceOf T t,bnd ρ lo 0,bnd ρ hi xs.length with
   |some (_,re),some l,some h=>(k=re.size∧0≤l∧l≤h∧h≤xs.length,.sl k ((xs.take h.toNat).drop l.toNat) (fullOwn xs ow))
   |_,_,_=>(False,.dead)
  |_,_=>(False,.dead)
 | .buildSlice t n ps=>match sliceOf T t with
  |some (_,re)=>(inOrder 0 ps.toList=true∧n=ps.size∧0<re.size∧n*re.size≤2^24∧(∀x∈ps.toList.map (fun p=>ρ p.2),x.cells.length=re.size∧ones x=true),.sl re.size (ps.toList.map fun p=>ρ p.2) .full)
  |none=>(False,.dead)
 | .call c=>match c.callee,c.args.toList,c.argTypes.toList with
  | .builtin .len,[x],[t]=>match ρ x with
   | .sl _ xs _=>(∃q,sliceOf T t=some q,.int .i64 xs.length)
   | .msl _ _ _ n=>(∃q,sliceOf T t=some q,.int .i64 n)
   | .sub _ _ _ _ _ m=>(∃q,sliceOf T t=some q,.int .i64 m)
   | .str s=>(JM T t=some .str,.int .i64 s.length)
   |_=>(False,.dead)
  | .builtin .cap,[x],[t]=>match ρ x with
   | .sl _ [] .full=>(∃q,sliceOf T t=some q,.int .i64 0)
   |_=>(False,.dead)
  | .builtin .append,[x,y],[t,t']=>match sliceOf T t,mv T t x (ρ x),mv T t y (ρ y)with
   |some (_,re),.sl k xs .full,.sl k' ys _=>(t'=t∧0<re.size∧(xs=[]∨k=re.size)∧(ys=[]∨k'=re.size)∧xs.length+ys.length≤maxLen∧(xs.length+ys.length)*re.bytes≤140737488355328,.sl re.size (xs++ys) .any)
   |_,_,_=>(False,.dead)
  | .builtin b,[x,y],_=>match ρ x,ρ y with
   | .int k m,.int _ n=>match ZqK b m n with
    |some v=>(True,.int k v)
    |none=>(False,.dead)
   |_,_=>(False,.dead)
  |_,_,_=>(False,.dead)
 |_=>(False,.dead)
variable {v:AV}
theorem YG(h:ones v=true):∀c∈v.cells,c.one=true:=by
 simpa[ones,QA]using h
def ZsL(P:Program)(o:Oper)(ρ:Operand→AV)(v:AV):Prop:=∀m G,XE P m o ρ G v G
theorem YV.YL(h:YV P o ρ v):ZsL P o ρ v:=fun m G=>(h.run m G).sem
theorem ZcG{t yt:TypeId}{y:Operand}{u:AV}{b:Bool}{d:TD}(hT:TOK P T)(ho:o.op= .binOp op t x y yt)(hx:ρ x=u)(hy:ρ y=v)
  (h1:JM T t=some d∧isEq op=true) (hk:NilK d u v b):ZsL P o ρ (.bool (eqB op b)):=by
 obtain⟨r,b1,b2⟩:=YH h1.1;subst b2;rw[ZfW b h1.2];exact(Zoe hT ho b1 hx hy hk (Zb4 h1.2)).YL
theorem Wn{m:Nat}{H H':Za}(t:TypeId)(h:Yq P m o (fun z=>mv T t z (ρ z)) H v H'):Yq P m o ρ H v H':=
 fun E w a hr hops=>h E w a hr (fun z hz=>ZhB (hops z hz))
theorem Zoj(hT:TOK P T):∀p,evP T o.op o.type ρ=p→p.1→ZsL P o ρ p.2:=by
 intro p hp h;unfold evP at hp;split at hp
 ·rename_i x ho;subst hp;exact(ZqD ho).YL
 ·rename_i x ho;subst hp;exact(Zn3 ho).YL
 ·rename_i c x y ho;split at hp
  ·rename_i hc;subst hp;exact(Zmp (t:=true) ho hc).YL
  ·rename_i hc;subst hp;exact(Zmp (t:=false) ho hc).YL
  ·subst hp;exact h.elim
 ·rename_i x ho;split at hp
  ·rename_i hx;subst hp;exact(V4 ho hx rfl).YL
  ·rename_i hx;subst hp;exact(V4 ho hx rfl).YL
  ·rename_i hx;subst hp;exact(V4 ho hx rfl).YL
  ·rename_i hx;subst hp;exact(V4 ho hx rfl).YL
  ·rename_i hx;subst hp;exact(V4 ho hx rfl).YL
  ·subst hp;exact h.elim
 ·rename_i t x f ho;split at hp
  ·rename_i fo rf hfd;obtain⟨r,fs,ft,h1,h2,h3,h4⟩:=ZdS hfd;split at hp
   ·rename_i hx;subst hp;exact(Zel hT ho h1 h2 h3 h4 h hx).YL
   ·rename_i hx;subst hp;exact(Zde hT ho h1 h2 h3 h4 h hx).YL
   ·rename_i hx;subst hp;exact(ZdL hT ho h1 h2 h3 h4 h hx).YL
   ·subst hp;exact h.elim
  ·subst hp;exact h.elim
 ·rename_i t x ix ho;split at hp
  ·rename_i e re hs;obtain⟨r,h1,h2,h3⟩:=ZT hs;split at hp
   ·rename_i hx hi;subst hp;obtain⟨a1,a2,a3⟩:=h;exact(Zfe hT ho h1 h2 h3 a1 hx hi a2 a3).YL
   ·rename_i hx hi;subst hp;obtain⟨a2,a3⟩:=h;exact(Zew hT ho h1 h2 h3 hx hi a2 a3).YL
   ·rename_i hx hi;subst hp;obtain⟨a1,a2,a3⟩:=h;exact(Zed hT ho h1 h2 h3 a1 hx hi a2 a3).YL
   ·subst hp;exact h.elim
  ·split at hp
   ·rename_i N re hs;obtain⟨r,e,h1,h2,h3⟩:=ZfR hs;split at hp
    ·rename_i hx hi;subst hp;exact(Zeo hT ho h1 h2 h3 hx hi h.1 h.2).YL
    ·rename_i hx hi;subst hp;exact(Zdw hT ho h1 h2 h3 hx hi h.1 h.2).YL
    ·subst hp;exact h.elim
   ·subst hp;exact h.elim
 ·rename_i t x f ho;split at hp
  ·rename_i fo rf hfd;obtain⟨r,fs,ft,h1,h2,h3,h4⟩:=ZdS hfd;split at hp
   ·rename_i hx;subst hp;exact(Zov hT ho h1 h2 h3 h4 hx h).YL
   ·subst hp;exact h.elim
  ·subst hp;exact h.elim
 ·rename_i x i ho;split at hp
  ·rename_i hx;subst hp;exact(Zlj ho hx h).YL
  ·subst hp;exact h.elim
 ·rename_i t ps ho;split at hp
  ·rename_i r hr;split at hp
   ·rename_i fs hfs;split at hp
    ·rename_i out hout;subst hp;obtain⟨a1,a2⟩:=h;exact(Zpn hT ho hr hfs a1 hout (fun p hp=>YG (a2 p hp))).YL
    ·subst hp;exact h.elim
   ·split at hp
    ·rename_i N re hs;obtain⟨r',e,h1,h2,h3⟩:=ZfR hs;split at hp
     ·rename_i out hout;subst hp;rw[hr]at h1;cases h1;exact(Zh7 hT ho hr h2 h3 hout (fun p hp=>YG (h p hp))).YL
     ·subst hp;exact h.elim
    ·subst hp;exact h.elim
  ·subst hp;exact h.elim
 ·rename_i f fs cs ho;split at hp
  ·rename_i hfs;subst hp;have e:fs= #[]:=by
    apply Qaf.1;rw[hfs]
   subst e;exact(Zkb ho).YL
  ·rename_i x r hfs;subst hp;have h:cs= #[]:=h;subst h;simp only;rw[←hfs];exact(ZiB ho).YL
 ·rename_i op t x ho;split at hp
  ·rename_i hx;subst hp;exact(ZrT ho hx).YL
  ·rename_i hx;subst hp;exact(Zsf ho hx).YL
  ·subst hp;exact h.elim
 ·rename_i s d x ho;split at hp
  ·rename_i h1 h2 hx;subst hp;obtain⟨rs,b1,b2⟩:=YH h1;obtain⟨rd,c1,c2⟩:=YH h2;exact(Zf1 hT ho b1 b2 c1 c2 hx).YL
  ·rename_i h1 h2 hx;subst hp;obtain⟨rs,b1,b2⟩:=YH h1;obtain⟨rd,c1,c2⟩:=YH h2;exact(ZfO hT ho b1 b2 c1 c2 hx).YL
  ·rename_i h1 h2 hx;subst hp;obtain⟨rs,b1,b2⟩:=YH h1;obtain⟨rd,c1,c2⟩:=YH h2;obtain⟨re,d1,d2⟩:=YH h;exact fun m G=>(Zfd hT ho b1 b2 d1 d2 c1 c2 hx).sem
  ·subst hp;exact h.elim
 ·rename_i t x ho;split at hp
  ·subst hp;exact h.elim
  ·rename_i d hd hne;subst hp;obtain⟨r,b1,b2⟩:=YH hne;exact(Zin hT ho b1 (fun e=>hd (b2▸e▸rfl))).YL
  ·subst hp;exact h.elim
 ·rename_i x xt t ok ho;split at hp
  ·rename_i r t' v hr hx;split at hp
   ·rename_i e;subst hp;subst e;cases ok with
    |true=>exact(ZgY hT ho hr h hx).YL
    |false=>exact(Ze9 hT ho hr h hx).YL
   ·rename_i e;subst hp;obtain⟨rfl,c1,c2⟩:=h;exact(Zid hT ho hr c1 e c2 hx).YL
  ·rename_i r hr hx;subst hp;obtain⟨rfl,c1,c2⟩:=h;exact(Zg5 hT ho hr c1 c2 hx).YL
  ·subst hp;exact h.elim
 ·rename_i op t x y yt ho;split at hp
  ·rename_i b hq;subst hp;obtain⟨⟨e,h1⟩,h2⟩:=h;obtain⟨r,b1,b2⟩:=YH h1;simp only;rw[ZfW b h2];exact(Zqq hT ho b1 b2 hq (Zb4 h2)).YL
  split at hp
  ·rename_i hx hy;split at hp
   ·subst hp;obtain⟨rfl,h⟩:=h;exact(Zsu ho hx hy rfl h).YL
   ·subst hp;obtain⟨rfl,h⟩:=h;exact(ZrV ho hx hy rfl h).YL
   ·subst hp;exact(Zrz ho hx hy rfl h).YL
   ·split at hp
    ·rename_i v hv;subst hp;have h:_=_:=h;subst h;exact(Zl8 ho hx hy hv).YL
    ·subst hp;exact h.elim
  ·rename_i hx hy;split at hp
   ·subst hp;exact(Zni ho hx hy rfl h).YL
   ·split at hp
    ·rename_i v hv;subst hp;exact(Zk7 ho hx hy hv).YL
    ·subst hp;exact h.elim
  ·rename_i hx hy;subst hp;obtain⟨h1,h2⟩:=h;obtain⟨r,b1,b2⟩:=YH h1;exact(Zkh hT ho b1 b2 hx hy (Zb4 h2)).YL
  ·rename_i hx hy;subst hp;exact ZcG hT ho hx hy h .pp
  ·rename_i hx hy;subst hp;exact ZcG hT ho hx hy h (.pq _ _ _)
  ·rename_i hx hy;subst hp;exact ZcG hT ho hx hy h (.pi _)
  ·rename_i hx hy;subst hp;exact ZcG hT ho hx hy h .ff
  ·rename_i hx hy;subst hp;exact ZcG hT ho hx hy h (.fg _ _)
  ·rename_i hx hy;subst hp;obtain⟨⟨k,e,h1⟩,h2⟩:=h;exact ZcG hT ho hx hy ⟨h1,h2⟩ (.mm _ _)
  ·rename_i hx hy;subst hp;obtain⟨⟨k,e,h1⟩,h2⟩:=h;exact ZcG hT ho hx hy ⟨h1,h2⟩ (.mn _ _ _ _)
  ·rename_i hx hy;split at hp
   ·rename_i r la lb h1 h2 h3;subst hp;obtain⟨c1,c2,c3,c4⟩:=h;simp only;rw[ZfW _ c4];exact(Zok hT ho h1 c1 hx hy h2 h3 c2 c3 (Zb4 c4)).YL
   ·subst hp;exact h.elim
  ·subst hp;exact h.elim
 ·rename_i t x y ok ho;split at hp
  ·rename_i kt e re hm hx;subst hp;exact(ZcB hT ho hm h.1 hx rfl h.2).YL
  ·subst hp;exact h.elim
 ·rename_i t x ix ho;split at hp
  ·rename_i h1 hx hi;subst hp;obtain⟨r,b1,b2⟩:=YH h1;exact(ZiX hT ho b1 b2 hx hi h.1 h.2).YL
  ·subst hp;exact h.elim
 ·rename_i t x lo hi mx ho;split at hp
  ·rename_i hx;split at hp
   ·rename_i l h' hl hh;subst hp;obtain⟨h1,c1,c2,c3⟩:=h;obtain⟨r,b1,b2⟩:=YH h1;exact(Ziq hT ho b1 b2 hx hl hh c1 c2 c3).YL
   ·subst hp;exact h.elim
  ·rename_i k xs ow hx;split at hp
   ·rename_i e re l h' hss hl hh;subst hp;obtain⟨r,b1,b2,b3⟩:=ZT hss;obtain⟨c0,c1,c2,c3⟩:=h;have hs:=ZjN hT ho b1 b2 b3 c0 hx hl hh c1 c2 c3;cases ow with
    |any=>exact hs.YL
    |buf=>exact hs.YL
    |full=>
     cases xs with
     |cons y ys=>exact hs.YL
     |nil=>
      have e1:l=0:=by simp at c3;omega
      have e2:h'=0:=by simp at c3;omega
      subst e1 e2;exact(Zh9 hT ho b1 b2 b3 hx hl hh).YL
   ·subst hp;exact h.elim
  ·subst hp;exact h.elim
 ·rename_i t n ps ho;split at hp
  ·rename_i e re hs;subst hp;obtain⟨r,b1,b2,b3⟩:=ZT hs;obtain⟨c1,c2,c3,c4,c5⟩:=h;exact fun m G=>(Zg8 hT ho b1 b2 b3 c1 c2 c3 c4 (fun x hx=>⟨(c5 x hx).1,YG (c5 x hx).2⟩)).sem
  ·subst hp;exact h.elim
 ·rename_i c ho;obtain⟨cal,args,ts⟩:=c;simp only at hp;split at hp
  ·rename_i ha ht;obtain⟨args⟩:=args;obtain⟨ts⟩:=ts;simp only at ha ht;subst ha ht;split at hp
   ·rename_i hx;subst hp;obtain⟨q,hq⟩:=h;obtain⟨r,b1,b2,b3⟩:=ZT hq;exact(Znf hT ho b1 b2 hx).YL
   ·rename_i hx;subst hp;obtain⟨q,hq⟩:=h;obtain⟨r,b1,b2,b3⟩:=ZT hq;exact(Zlz hT ho b1 b2 hx).YL
   ·rename_i hx;subst hp;obtain⟨q,hq⟩:=h;obtain⟨r,b1,b2,b3⟩:=ZT hq;exact(Zla hT ho b1 b2 hx).YL
   ·rename_i hx;subst hp;obtain⟨r,b1,b2⟩:=YH h;exact(ZlN hT ho b1 b2 hx).YL
   ·subst hp;exact h.elim
  ·rename_i ha ht;obtain⟨args⟩:=args;obtain⟨ts⟩:=ts;simp only at ha ht;subst ha ht;split at hp
   ·rename_i hx;subst hp;obtain⟨q,hq⟩:=h;obtain⟨r,b1,b2,b3⟩:=ZT hq;exact(ZlD hT ho b1 b2 hx).YL
   ·subst hp;exact h.elim
  ·rename_i ha ht;obtain⟨args⟩:=args;obtain⟨ts⟩:=ts;simp only at ha ht;subst ha ht;split at hp
   ·rename_i e re k xs k' ys ow hs hx hy;subst hp;obtain⟨r,b1,b2,b3⟩:=ZT hs;obtain⟨c0,c1,c2,c3,c4,c5⟩:=h;subst c0;exact fun m G=>(Wn (T:=T) _ (or_append hT ho b1 b2 b3 c1 hx hy c2 c3 c4 c5)).sem
   ·subst hp;exact h.elim
  ·rename_i ha _;obtain⟨args⟩:=args;simp only at ha;subst ha;split at hp
   ·rename_i hx hy;split at hp
    ·rename_i v hv;subst hp;exact(Zud ho hx hy hv).YL
    ·subst hp;exact h.elim
   ·subst hp;exact h.elim
  ·subst hp;exact h.elim
 ·subst hp;exact h.elim
end
def Env.Zy(E:Env)(l j n:Nat)(v:Value)(g:Nat)(c:List Value):Env where
 F:=fun b o=>if b=g then c[o]? else E.F b o
 m:=E.m
 hist:=fun l' j' n'=>if l'=l∧j'=j∧n'=n then some v else E.hist l' j' n'
 g:=fun l' j'=>if l'=l∧j'=j then some g else E.g l' j'
 qd:=E.qd
section
variable {l j n m:Nat} {w:World} {E:Env} {H:Za}
theorem Zt.Zjr{w':World}(h:Zt m H E w){g':Nat}{v:Value}{nb:Ze}(hl:l<m)(hj:E.hist l j n=none)(hnb:nb.isBuf=true)(c:List Value)
  (size:w.heap.size≤w'.heap.size) (hold:∀b,b<w.heap.size→b≠g'→w'.heap[b]? =w.heap[b]?) (hgm:∀l' k' b,E.m l' k'=some b→b≠g') (hgg:∀l' k' b,E.g l' k'=some b→ ¬(l'=l∧k'=j)→b≠g')
  (hg'lt:g'<w'.heap.size) (hcell:∀o u,c[o]? =some u→w'.cell? ⟨g',o,none⟩=some u) (hF:∀o v,E.F g' o=some v→c[o]? =some v)
  (hblk:Zen (E.Zy l j n v g' c) w' l j nb):
  Zt m (H.upd l j nb) (E.Zy l j n v g' c) w'∧E.le m (E.Zy l j n v g' c):=by
 have hlt:∀l' k' b,E.m l' k'=some b→b<w.heap.size:=fun l' k' b hm=>h.lt b (.inl ⟨l',k',hm⟩)
 have hgt:∀l' k' b,E.g l' k'=some b→b<w.heap.size:=fun l' k' b hm=>h.lt b (.inr ⟨l',k',hm⟩)
 have hle:E.le m (E.Zy l j n v g' c):=by
  refine⟨fun b o v hf=>?_,fun _ _ _ _ hm=>hm,fun l' k' i u _ hi=>?_,rfl⟩
  ·simp only[Env.Zy];by_cases hb:b=g'
   ·subst hb;rw[if_pos rfl];exact hF o v hf
   ·rw[if_neg hb];exact hf
  ·simp only[Env.Zy];rw[if_neg (fun hc=>by rw[hc.1,hc.2.1,hc.2.2,hj]at hi;cases hi)];exact hi
 refine⟨{norm:=?_,F:=?_,blk:=?_,dom:=?_,nobuf:=?_,inj:=h.inj,injg:=?_,mg:=?_,mF:=?_,lt:=?_},hle⟩
 ·refine⟨h.norm.m,fun l' k' hl'=>?_,fun l' k' i hl'=>?_⟩
  ·simp only[Env.Zy];rw[if_neg (fun hc=>by omega)];exact h.norm.g l' k' hl'
  ·simp only[Env.Zy];rw[if_neg (fun hc=>by omega)];exact h.norm.hist l' k' i hl'
 ·intro b o u hf;simp only[Env.Zy]at hf;by_cases hb:b=g'
  ·subst hb;rw[if_pos rfl]at hf;exact hcell o u hf
  ·rw[if_neg hb]at hf;have hblt:=h.Zco hf;have hc:=h.F b o u hf;simp only[World.cell?,hold b hblt hb]at hc⊢;exact hc
 ·intro l' k' bb hl' hH';by_cases hc':l'=l∧k'=j
  ·obtain⟨rfl,rfl⟩:=hc';rw[Za.upd_same,Qq]at hH';subst hH';exact hblk
  ·rw[Za.upd_ne H _ hc']at hH';refine(h.blk l' k' bb hl' hH').keep rfl (by simp only[Env.Zy];rw[if_neg hc']) (fun i=>by simp only[Env.Zy];rw[if_neg (fun hc=>hc' ⟨hc.1,hc.2.1⟩)]) (fun _ _ _ h=>h) (fun r hr=>?_) (fun g o hg hf=>?_) (fun a _ v hv=>hv.mono h.norm hle)
   ·rcases hr with hr|hr
    ·exact hold r (hlt _ _ _ hr) (hgm _ _ _ hr)
    ·exact hold r (hgt _ _ _ hr) (hgg _ _ _ hr hc')
   ·simp only[Env.Zy];rw[if_neg (hgg _ _ _ hg hc')];exact hf
 ·intro l' k' hl' hH';by_cases hc':l'=l∧k'=j
  ·obtain⟨rfl,rfl⟩:=hc';rw[Za.upd_same]at hH';cases hH'
  ·rw[Za.upd_ne H _ hc']at hH';obtain⟨d1,d2,d3⟩:=h.dom l' k' hl' hH';exact⟨d1,by simp only[Env.Zy];rw[if_neg hc'];exact d2,fun i=>by simp only[Env.Zy];rw[if_neg (fun hc=>hc' ⟨hc.1,hc.2.1⟩)];exact d3 i⟩
 ·intro l' k' hg;by_cases hc':l'=l∧k'=j
  ·obtain⟨rfl,rfl⟩:=hc';exact⟨nb,Za.upd_same H _ _ _,hnb⟩
  ·rw[Za.upd_ne H _ hc'];simp only[Env.Zy,if_neg hc']at hg;exact h.nobuf l' k' hg
 ·intro l1 k1 l2 k2 b h1 h2;simp only[Env.Zy]at h1 h2;by_cases c1:l1=l∧k1=j<;>by_cases c2:l2=l∧k2=j
  ·exact⟨c1.1.trans c2.1.symm,c1.2.trans c2.2.symm⟩
  ·rw[if_pos c1,Qq]at h1;rw[if_neg c2]at h2;exact absurd h1.symm (hgg _ _ _ h2 c2)
  ·rw[if_neg c1]at h1;rw[if_pos c2,Qq]at h2;exact absurd h2.symm (hgg _ _ _ h1 c1)
  ·rw[if_neg c1]at h1;rw[if_neg c2]at h2;exact h.injg _ _ _ _ _ h1 h2
 ·intro l1 k1 l2 k2 b h1 h2;simp only[Env.Zy]at h2;by_cases c2:l2=l∧k2=j
  ·rw[if_pos c2,Qq]at h2;exact hgm _ _ _ h1 h2.symm
  ·rw[if_neg c2]at h2;exact h.mg _ _ _ _ _ h1 h2
 ·intro l1 k1 b o h1;simp only[Env.Zy];rw[if_neg (hgm _ _ _ h1)];exact h.mF _ _ _ _ h1
 ·intro b hb;rcases hb with⟨l',k',hm⟩|⟨l',k',hg⟩
  ·have:=hlt _ _ _ hm;omega
  ·simp only[Env.Zy]at hg;by_cases c2:l'=l∧k'=j
   ·rw[if_pos c2,Qq]at hg;omega
   ·rw[if_neg c2]at hg;have:=hgt _ _ _ hg;omega
theorem Zt.Zfy{w':World}(h:Zt m H E w){g':Nat}{v:Value}{nb:Ze}(hl:l<m)(hm0:E.m l j=none)(hj:E.hist l j n=none)(hnb:nb.isBuf=true)(c:List Value)
  (os:w'.os=w.os) (tape:w'.tape=w.tape) (output:w'.output=w.output) (drawn:E.qd=true→w.drawn≤w'.drawn) (size:w.heap.size≤w'.heap.size) (hold:∀b,b<w.heap.size→b≠g'→w'.heap[b]? =w.heap[b]?)
  (hg':E.g l j=some g'∨w.heap.size≤g') (hg'lt:g'<w'.heap.size) (hcell:∀o u,c[o]? =some u→w'.cell? ⟨g',o,none⟩=some u) (hF:∀o v,E.F g' o=some v→c[o]? =some v)
  (hblk:Zen (E.Zy l j n v g' c) w' l j nb):
  Zt m (H.upd l j nb) (E.Zy l j n v g' c) w'∧Ext m E w (E.Zy l j n v g' c) w':=by
 have hgm:∀l' k' b,E.m l' k'=some b→b≠g':=fun l' k' b hm e'=>by
  subst e';rcases hg' with hg'|hg'
  ·exact h.mg _ _ _ _ _ hm hg'
  ·have:=h.lt b (.inl ⟨l',k',hm⟩);omega
 have hgg:∀l' k' b,E.g l' k'=some b→ ¬(l'=l∧k'=j)→b≠g':=fun l' k' b hm hne e'=>by
  subst e';rcases hg' with hg'|hg'
  ·exact hne (h.injg _ _ _ _ _ hm hg')
  ·have:=h.lt b (.inr ⟨l',k',hm⟩);omega
 obtain⟨hh,hle⟩:=h.Zjr hl hj hnb c size hold hgm hgg hg'lt hcell hF hblk;refine⟨hh,hle,os,tape,output,drawn,size,fun b hb ho=>?_,fun b hb ho=>?_⟩
 ·refine hold b hb (fun e'=>ho ?_);subst e';rcases hg' with hg'|hg'
  ·exact .inr ⟨l,j,hg'⟩
  ·omega
 ·rcases ho with⟨l',k',hm⟩|⟨l',k',hg⟩
  ·exact .inl ⟨l',k',hm⟩
  ·simp only[Env.Zy]at hg;by_cases c2:l'=l∧k'=j
   ·rw[if_pos c2,Qq]at hg;subst hg;rcases hg' with hg'|hg'
    ·exact .inr ⟨l,j,hg'⟩
    ·omega
   ·rw[if_neg c2]at hg;exact .inr ⟨l',k',hg⟩
def Env.Yw(E:Env)(l j:Nat)(v:Value):Env:={E with hist:=fun l' j' n'=>if l'=l∧j'=j∧n'=0 then some v else E.hist l' j' n'}
theorem Zt.adopt(h:Zt m H E w)(hl:l<m)(hfree:H l j=none)(ad:Option Addr)(e k:Nat)(mb:Bool):
  Zt m (H.upd l j (if mb then .Zg e k [] 0 else .buf e k 0)) (E.Yw l j (.slice ad 0 0)) w∧Ext m E w (E.Yw l j (.slice ad 0 0)) w:=by
 obtain⟨d1,d2,d3⟩:=h.dom l j hl hfree;have hle:E.le m (E.Yw l j (.slice ad 0 0)):=⟨fun _ _ _ h=>h,fun _ _ _ _ h=>h,fun l' k' i u _ hi=>by
  simp only[Env.Yw];rw[if_neg (fun hc=>by rw[hc.1,hc.2.1,d3]at hi;cases hi)];exact hi,rfl⟩
 refine⟨{norm:=⟨h.norm.m,h.norm.g,fun l' k' i hl'=>?_⟩,F:=h.F,blk:=?_,dom:=?_,nobuf:=?_,inj:=h.inj,injg:=h.injg,mg:=h.mg,mF:=h.mF,lt:=h.lt},⟨hle,rfl,rfl,rfl,fun _=>Qe _,Qe _,fun _ _ _=>rfl,fun _ _ h=>h⟩⟩
 ·simp only[Env.Yw];rw[if_neg (fun hc=>by omega)];exact h.norm.hist l' k' i hl'
 ·intro l' k' bb hl' hH;by_cases hc:l'=l∧k'=j
  ·obtain⟨rfl,rfl⟩:=hc;rw[Za.upd_same,Qq]at hH;subst hH;have h0:(E.Yw l' k' (.slice ad 0 0)).hist l' k' 0=some (.slice ad 0 0):=by simp[Env.Yw]
   have h1:∀i,0<i→(E.Yw l' k' (.slice ad 0 0)).hist l' k' i=none:=fun i hi=>by simp only[Env.Yw];rw[if_neg (fun hc=>by omega)];exact d3 i
   cases mb with
   |false=>exact⟨⟨.slice ad 0 0,h0,h1,.inl ⟨ad,rfl,rfl,d2⟩⟩,d1⟩
   |true=>exact⟨⟨sm,.slice ad 0 0,h0,h1,.inl ⟨ad,rfl,rfl,d2⟩⟩,d1⟩
  ·rw[Za.upd_ne _ _ hc]at hH;exact(h.blk l' k' bb hl' hH).keep rfl rfl (fun i=>by simp only[Env.Yw];rw[if_neg (fun h=>hc ⟨h.1,h.2.1⟩)]) (fun _ _ _ h=>h) (fun _ _=>rfl) (fun _ _ _ h=>h) (fun a _ v hv=>hv.mono h.norm hle)
 ·intro l' k' hl' hH;by_cases hc:l'=l∧k'=j
  ·obtain⟨rfl,rfl⟩:=hc;rw[Za.upd_same]at hH;cases hH
  ·rw[Za.upd_ne _ _ hc]at hH;obtain⟨e1,e2,e3⟩:=h.dom l' k' hl' hH;exact⟨e1,e2,fun i=>by simp only[Env.Yw];rw[if_neg (fun h=>hc ⟨h.1,h.2.1⟩)];exact e3 i⟩
 ·intro l' k' hg;by_cases hc:l'=l∧k'=j
  ·obtain⟨rfl,rfl⟩:=hc;exact absurd d2 hg
  ·rw[Za.upd_ne _ _ hc];exact h.nobuf l' k' hg
theorem Yd{b:Ze}(h:H l j=some b):H.upd l j b=H:=by
 funext l' j';simp only[Za.upd];split
 ·rename_i hc;rw[hc.1,hc.2,h]
 ·rfl
def ZpU(w:World)(e sz n:Nat)(xv:Value)(cs1:List Value):Prop:=
 (n=0∧cs1=[]∧ ∃a,xv= .slice a 0 0)∨
 ∃g cap cur,xv= .slice (some ⟨g,0,none⟩) n cap∧w.heap[g]? =some (.cells cur e (0,0))∧n≤cap∧cap≤maxLen∧cur.size=cap*sz∧cur.toList.take (n*sz)=cs1
theorem Zbt{P:Program}{T:TT}(hT:TOK P T){t ty e:TypeId}{r re:Zv}(h1:T t=some r)(h2:r.td= .slice e)(h3:T e=some re){c b2 off2 cap2:Nat}{xv:Value}{cs1 cs2:List Value}
  (hcur:ZpU w e re.size n xv cs1) (hc:0<c) (hl2:cs2.length=c*re.size) (hn2:∀j v,cs2[j]? =some v→w.cell? ⟨b2,off2+j,none⟩=some v) (hone:∀u∈cs2,u.oneCell'=true)
  (hml:n+c≤maxLen) (hby:(n+c)*re.bytes≤140737488355328):
  ∃g' cap cur w',(Builtin.append_ #[t,t] ty #[xv,.slice (some ⟨b2,off2,none⟩) c cap2]).run P w= .ok (.slice (some ⟨g',0,none⟩) (n+c) cap) w'∧w'.os=w.os∧w'.tape=w.tape∧w'.output=w.output∧w.drawn≤w'.drawn∧w.heap.size≤w'.heap.size∧
   (∀b,b<w.heap.size→b≠g'→w'.heap[b]? =w.heap[b]?)∧((∃cap0,xv= .slice (some ⟨g',0,none⟩) n cap0∧0<cap0)∨w.heap.size≤g')∧w'.heap[g']? =some (.cells cur e (0,0))∧n+c≤cap∧cap≤maxLen∧cur.size=cap*re.size∧
   cs1++cs2=cur.toList.take ((n+c)*re.size):=by
 obtain⟨d,inf,z,hf⟩:=Zd (hT t r h1);obtain⟨d',i',z',hf'⟩:=Zd (hT e re h3);have hd:=ZH (h2▸hf.fits);subst hd;have hu:P.underlying t=some (.slice e):=hf.und;have hmx:n+c≤9223372036854775807:=by unfold maxLen at hml;omega
 have hl2':cs2.length=c*i'.size:=by rw[hf'.size];exact hl2
 have hn2':∀j v,cs2[j]? =some v→w.cell? ((⟨b2,off2,none⟩:Addr).add j)=some v:=fun j v hj=>by rw[ZI];exact hn2 j v hj
 rcases hcur with⟨rfl,rfl,ad,rfl⟩|⟨g,cap,cur,rfl,q3,q4,q5,q6,q7⟩
 ·simp only[QF]at hmx hml hby⊢;have hge:=grownCap_ge w c 0 e;cases ad with
  |none=>
   have hr1:=run_append_nil (P:=P) w t ty e i' z' hu hf'.info hf'.zero ⟨b2,off2,none⟩ c cap2 cs2 hl2' hn2' hc om (by rw[hf'.bytes];omega);refine⟨w.heap.size,grownCap w c 0 e,cs2.toArray++Builtin.zeroCells z'.cells (grownCap w c 0 e - c),w.drew.alloc (.cells (cs2.toArray++Builtin.zeroCells z'.cells (grownCap w c 0 e - c)) e),hr1,rfl,rfl,rfl,Uj _,sm,fun b hb _=>heap_alloc_old w.drew _ hb,.inr (Qe _),heap_alloc_new w.drew _,hge,grownCap_le_maxLen w _ _ _ hml,?_,?_⟩
   ·simp only[Gz,U7,size_zeroCells,hl2,hf'.zsize,←Nat.add_mul];congr 1;omega
   ·simp only[QY,Gp];rw[←hl2];simp
  |some ad=>
   have hb48:Builtin.nextslicecap (0+c) 0*i'.bytes≤281474976710656:=growslice_fits om (by rw[hf'.bytes,QF];exact hby);have hr1:=run_append_grow (P:=P) w t ty e i' z' hu hf'.info hf'.zero ad 0 0 [] sm sm ⟨b2,off2,none⟩ c cap2 cs2 hl2' hn2' om om hb48;simp only[QF]at hr1;refine⟨w.heap.size,grownCap w c 0 e,#[]++cs2.toArray++Builtin.zeroCells z'.cells (grownCap w c 0 e - c),w.drew.alloc (.cells (#[]++cs2.toArray++Builtin.zeroCells z'.cells (grownCap w c 0 e - c)) e),hr1,rfl,rfl,rfl,Uj _,sm,fun b hb _=>heap_alloc_old w.drew _ hb,.inr (Qe _),heap_alloc_new w.drew _,hge,grownCap_le_maxLen w _ _ _ hml,?_,?_⟩
   ·simp only[Gz,U7,size_zeroCells,hl2,hf'.zsize,QB,QF,←Nat.add_mul];congr 1;omega
   ·simp only[QY,Gp,U2];rw[←hl2];simp
 ·have hle:n*re.size≤cap*re.size:=QD _ q4;have hl1:cs1.length=n*re.size:=by rw[←q7,QI];simp;omega
  have hn1:∀j v,cs1[j]? =some v→w.cell? ((⟨g,0,none⟩:Addr).add j)=some v:=fun j v hj=>by
   rw[ZI];simp only[World.cell?,q3,QF];rw[←q7]at hj;rcases Qg j (n*re.size)with h|h
   ·rw[QV h]at hj;simpa using hj
   ·rw[UG,if_neg om]at hj;cases hj
  have hglt:g<w.heap.size:=(QN.1 q3).1;by_cases hroom:n+c≤cap
  ·have hfit:n*i'.size+cs2.length≤cur.size:=by rw[hl2,q6,hf'.size,←Ue];exact QD _ hroom
   have hr1:=run_append_room (P:=P) w t ty e i' hu hf'.info g n cap cur q3 ⟨b2,off2,none⟩ c cap2 cs2 hl2' hn2' hone hroom hfit;rw[hf'.size]at hr1 hfit;refine⟨g,cap,_,_,hr1,rfl,rfl,rfl,Qe _,by simp[World.setRow],fun b _ hb=>setRow_other w g b _ hb,.inl ⟨cap,rfl,om⟩,setRow_heap w g cur _ e (0,0) q3,hroom,q5,?_,?_⟩
   ·simp only[U7,Qh,QI,QL,Uf];rw[←q6];omega
   ·rw[U2,q7];rw[show(n+c)*re.size=(cs1++cs2).length by rw[Qh,hl1,hl2,Ue],Gw]
  ·have hb48:Builtin.nextslicecap (n+c) cap*i'.bytes≤281474976710656:=growslice_fits om (by rw[hf'.bytes];exact hby);have hge:=grownCap_ge w (n+c) cap e;have hr1:=run_append_grow (P:=P) w t ty e i' z' hu hf'.info hf'.zero ⟨g,0,none⟩ n cap cs1 (by rw[hf'.size];exact hl1) hn1 ⟨b2,off2,none⟩ c cap2 cs2 hl2' hn2' om om hb48;refine⟨w.heap.size,grownCap w (n+c) cap e,cs1.toArray++cs2.toArray++Builtin.zeroCells z'.cells (grownCap w (n+c) cap e - (n+c)),w.drew.alloc (.cells (cs1.toArray++cs2.toArray++Builtin.zeroCells z'.cells (grownCap w (n+c) cap e - (n+c))) e),hr1,rfl,rfl,rfl,Uj _,sm,fun b hb _=>heap_alloc_old w.drew _ hb,.inr (Qe _),heap_alloc_new w.drew _,hge,grownCap_le_maxLen w _ _ _ hml,?_,?_⟩
   ·simp only[Gz,U7,size_zeroCells,hl1,hl2,hf'.zsize,←Nat.add_mul];congr 1;omega
   ·simp only[Gp,U2];rw[show(n+c)*re.size=(cs1++cs2).length by rw[Qh,hl1,hl2,Ue],Gw]
theorem WC{P:Program}{T:TT}(hT:TOK P T){t ty e:TypeId}{r re:Zv}(h1:T t=some r)(h2:r.td= .slice e)(h3:T e=some re){k':Nat}{ow:Own}{xv yv:Value}{c:Nat}{ad:Option Addr}(hxv:xv= .slice ad n c)(hnc:n≤c)(hy:VR E (.sl k' [] ow) yv):
  (Builtin.append_ #[t,t] ty #[xv,yv]).run P w= .ok xv w:=by
 obtain⟨d,inf,z,hf⟩:=Zd (hT t r h1);obtain⟨d',i',z',hf'⟩:=Zd (hT e re h3);have hd:=ZH (h2▸hf.fits);subst hd;subst hxv;have hu:P.underlying t=some (.slice e):=hf.und;rcases hy.Vd with⟨⟨a2,e2,_⟩,_,_⟩|⟨b2,off2,cap2,cs2,e2,_,_,_,hc2,_,_⟩<;>rw[e2]
 ·cases ad<;>cases a2<;>simp[Builtin.append_,run_underlying hu,sizeOf,typeInfo,hf'.info,Builtin.lenOf,Builtin.firstCells,loadCells,loadCellsFrom,storeCells,hnc]
 ·cases ad<;>simp[Builtin.append_,run_underlying hu,sizeOf,typeInfo,hf'.info,Builtin.lenOf,Builtin.firstCells,loadCells,loadCellsFrom,storeCells,hnc]
section ops
variable {P:Program} {T:TT} {o:Oper} {ρ:Operand→AV}
theorem Xw{a:Act}{t t':TypeId}{x y:Operand}{w w':World}{v:Value}(ho:o.op= .call {callee:=.builtin .append,args:=#[x,y],argTypes:=#[t,t']})
  (h:(Builtin.append_ #[t,t'] o.type #[a.eval x,a.eval y]).run P w= .ok v w'):(execOp a.eval o).run P w= .ok (.value v) w':=by
 have he:(execOp a.eval o).run P w=((Builtin.append_ #[t,t'] o.type #[a.eval x,a.eval y]).run P w).andThen fun v w''=>.ok (.value v) w'':=by
  simp[execOp,ho,resolve,invoke,builtin]
 rw[he,h];rfl
theorem Ze0{P:Program}{m:Nat}{H:Za}{E:Env}{w:World}{S:Sem Value}{xv:Value}{e:TypeId}{sz k l j:Nat}{xs ys:List AV}{cs2:List Value}
  (hr:Zt m H E w) (hx:VR E (.sl k xs (.buf l j)) xv) (hl:l<m) (hH:H l j=some (.buf e sz xs.length)) (hk:k=sz) (hky:∀y∈ys,y.cells.length=sz) (hvy:VRs E (flat ys) cs2) (hylen:0<ys.length) (hml:xs.length+ys.length≤maxLen)
  (hrunA:∀cs1,ZpU w e sz xs.length xv cs1→ ∃g' cap cur w',S.run P w= .ok (.slice (some ⟨g',0,none⟩) (xs.length+ys.length) cap) w'∧w'.os=w.os∧w'.tape=w.tape∧w'.output=w.output∧w.drawn≤w'.drawn∧w.heap.size≤w'.heap.size∧
   (∀b,b<w.heap.size→b≠g'→w'.heap[b]? =w.heap[b]?)∧((∃cap0,xv= .slice (some ⟨g',0,none⟩) xs.length cap0∧0<cap0)∨w.heap.size≤g')∧w'.heap[g']? =some (.cells cur e (0,0))∧xs.length+ys.length≤cap∧cap≤maxLen∧cur.size=cap*sz∧
   cs1++cs2=cur.toList.take ((xs.length+ys.length)*sz)):
  ∃cv E' w',S.run P w= .ok cv w'∧VR E' (.sl k (xs++ys) (.buf l j)) cv∧Zt m (H.upd l j (.buf e sz (xs.length+ys.length))) E' w'∧Ext m E w E' w':=by
 subst hk;have hl2:cs2.length=ys.length*k:=by rw[hvy.1,flat_length hky]
 obtain⟨⟨v0,hv0,hj0,hr0⟩,hm0⟩:=hr.buf l j e k xs.length hl hH;have hxs:=hx.Vd;have hxv:xv=v0:=by
  rcases hxs with⟨⟨a1,e1,_⟩,ex,how⟩|⟨_,_,_,_,_,_,_,_,_,_,how⟩
  ·subst ex;have:E.hist l j 0=some _:=how;simp only[QB]at hv0;rw[hv0]at this;rw[e1]at*;exact(UO this).symm
  ·have:E.hist l j xs.length=some xv:=how;rw[hv0]at this;exact(UO this).symm
 subst hxv;have hcur:∃cs1,ZpU w e k xs.length xv cs1∧VRs E (flat xs) cs1∧(∀x∈xs,x.cells.length=k):=by
  rcases hr0 with⟨a0,q1,q2,q3⟩|⟨g,cap,cur,q1,q2,q3,q4,q5,q6,q7⟩
  ·have ex:xs=[]:=Uc q2;subst ex;exact⟨[],.inl ⟨rfl,rfl,a0,q1⟩,VRs.nil E,sm⟩
  ·rcases hxs with⟨⟨a1,e1,ea1⟩,_,_⟩|⟨b1,off1,cap1,cs1,e1,hkx,hvx,hFx,hc1,hm1,how⟩
   ·obtain rfl:=ea1 sm;rw[e1]at q1;cases q1
   ·rw[e1]at q1;simp only[Value.slice.injEq,Qq,Addr.mk.injEq,true_and,and_true]at q1;obtain⟨⟨rfl,rfl⟩,rfl⟩:=q1;refine⟨cs1,.inr ⟨b1,cap1,cur,e1,q3,q4,q5,q6,?_⟩,hvx,hkx⟩;have hl1:cs1.length=xs.length*k:=by rw[hvx.1,flat_length hkx]
    apply QaZ;intro i;rcases Qg i (xs.length*k)with hi|hi
    ·rw[QV hi];have hi1:i<cs1.length:=by omega
     have:=hr.F _ _ _ (hFx i _ (Qd hi1));simp only[World.cell?,q3,QF]at this;rw[Qd hi1,←this];simp
    ·rw[UG,if_neg om,Ut om]
 obtain⟨cs1,hcur,hvx,hkx⟩:=hcur;obtain⟨g',cap,cur,w',hrun,os,tp,out,hdr,size,hold,hg',hnew,hcap,hcml,hcs,hcc⟩:=hrunA cs1 hcur;have hreuse:w.heap.size≤g'∨(E.g l j=some g'∧(∀o,xs.length*k≤o→E.F g' o=none)∧ ∃c0,w.heap[g']? =some (.cells c0 e (0,0))∧c0.toList.take (xs.length*k)=cs1):=by
  rcases hg' with⟨cap0,hx0,hpos⟩|hg'
  ·refine .inr ?_;rcases hr0 with⟨a0,q1,q2,q3⟩|⟨g,cap,cur,q1,q2,q3,q4,q5,q6,q7⟩
   ·rw[hx0]at q1;simp only[Value.slice.injEq]at q1;omega
   ·rcases hcur with⟨_,_,a0,e0⟩|⟨g0,cap0',cur0,e0,p3,p4,p5,p6,p7⟩
    ·rw[hx0]at e0;simp only[Value.slice.injEq]at e0;omega
    ·rw[hx0]at q1 e0;simp only[Value.slice.injEq,Qq,Addr.mk.injEq,true_and,and_true]at q1 e0;obtain⟨rfl,rfl⟩:=q1;obtain⟨rfl,rfl⟩:=e0;exact⟨q2,q7,cur0,p3,p7⟩
  ·exact .inl hg'
 have hfree:E.hist l j (xs.length+ys.length)=none:=hj0 _ om;have hlen:(xs++ys).length=xs.length+ys.length:=Qh;have hcF:∀o u,(cs1++cs2)[o]? =some u→w'.cell? ⟨g',o,none⟩=some u:=fun o u hu=>by
  rw[hcc]at hu;simp only[World.cell?,hnew];rcases Qg o ((xs.length+ys.length)*k)with h|h
  ·rw[QV h]at hu;simpa using hu
  ·rw[UG,if_neg om]at hu;cases hu
 have hclen:(cs1++cs2).length=(xs.length+ys.length)*k:=by
  rw[Qh,hvx.1,flat_length hkx,hl2,Ue]
 obtain⟨hh,hxx⟩:=hr.Zfy (n:=xs.length+ys.length) (v:=.slice (some ⟨g',0,none⟩) (xs.length+ys.length) cap) (nb:=.buf e k (xs.length+ys.length)) (g':=g') hl hm0 hfree rfl (cs1++cs2) os tp out (fun _=>hdr) size hold
  (hreuse.elim .inr (fun h=>.inl h.1)) (QN.1 hnew).1 hcF (fun o u hu=>by
   rcases hreuse with hn|⟨_,q7,c0,p3,p7⟩
   ·have:=hr.Zco hu;omega
   ·have hlt:o<xs.length*k:=by
     rcases Qg o (xs.length*k)with h|h
     ·exact h
     ·rw[q7 o h]at hu;cases hu
    have hc:=hr.F _ _ _ hu;simp only[World.cell?,p3]at hc;rw[UL (by rw[hvx.1,flat_length hkx];exact hlt),←p7,QV hlt];simpa using hc)
  ⟨⟨_,by simp[Env.Zy],fun i hi=>by simp only[Env.Zy];rw[if_neg (fun h=>by omega)];exact hj0 i om,.inr ⟨g',cap,cur,rfl,by simp[Env.Zy],hnew,hcap,hcml,hcs,fun o ho=>by
   simp only[Env.Zy,if_true];exact Ut om⟩⟩,hm0⟩
 refine⟨_,_,w',hrun,?_,hh,hxx⟩;have hkall:∀x∈xs++ys,x.cells.length=k:=fun x hx=>by
  rcases Qj.1 hx with h|h
  ·exact hkx x h
  ·exact hky x h
 have hvv:VRs E (flat (xs++ys)) (cs1++cs2):=by rw[YU];exact hvx.append hvy
 have:=VR.WW (E:=E.Zy l j (xs.length+ys.length) (.slice (some ⟨g',0,none⟩) (xs.length+ys.length) cap) g' (cs1++cs2)) (k:=k) (xs:=xs++ys) (o:=.buf l j) (b:=g') (off:=0) (cap:=cap) (cs:=cs1++cs2) hkall
  (hvv.mono hr.norm hxx.le) (fun i u hi=>by simp only[Env.Zy,if_true,QF];exact hi) (by rw[hlen];exact hcap) (by rw[hlen];exact hml) (by rw[hlen];simp[Zaj,Env.Zy])
 rwa [hlen]at this
theorem Zgr{m:Nat}{H:Za}{E:Env}{w:World}{xv yv:Value}{t ty e:TypeId}{r re:Zv}{k k' l j:Nat}{xs ys:List AV}{ow:Own}(hT:TOK P T)
  (h1:T t=some r) (h2:r.td= .slice e) (h3:T e=some re) (hsz:0<re.size) (hr:Zt m H E w) (hx:VR E (.sl k xs (.buf l j)) xv) (hy:VR E (.sl k' ys ow) yv) (hl:l<m) (hH:H l j=some (.buf e re.size xs.length)) (hk:k=re.size) (hk':ys=[]∨k'=re.size)
  (hone:∀y∈ys,∀c∈y.cells,c.one=true) (hml:xs.length+ys.length≤maxLen) (hby:(xs.length+ys.length)*re.bytes≤140737488355328):
  ∃cv E' w',(Builtin.append_ #[t,t] ty #[xv,yv]).run P w= .ok cv w'∧VR E' (.sl k (xs++ys) (.buf l j)) cv∧Zt m (H.upd l j (.buf e re.size (xs.length+ys.length))) E' w'∧Ext m E w E' w':=by
 subst hk;obtain⟨⟨v0,hv0,hj0,hr0⟩,hm0⟩:=hr.buf l j e re.size xs.length hl hH;have hxs:=hx.Vd;have hxv:xv=v0:=by
  rcases hxs with⟨⟨a1,e1,_⟩,ex,how⟩|⟨_,_,_,_,_,_,_,_,_,_,how⟩
  ·subst ex;have:E.hist l j 0=some _:=how;simp only[QB]at hv0;rw[hv0]at this;rw[e1]at*;exact(UO this).symm
  ·have:E.hist l j xs.length=some xv:=how;rw[hv0]at this;exact(UO this).symm
 subst hxv;by_cases hy0:ys=[]
 ·subst hy0;refine⟨xv,E,w,?_,by rw[Qu];exact hx,by rw[QB,UD,Yd hH];exact hr,.refl m E w⟩;rcases hxs with⟨⟨a1,e1,_⟩,_,_⟩|⟨b,off,cap,cs,e1,_,_,_,hc,_,_⟩
  ·exact WC hT h1 h2 h3 e1 (Qe _) hy
  ·exact WC hT h1 h2 h3 e1 hc hy
 ·have hk':k'=re.size:=hk'.resolve_left hy0;subst hk';obtain⟨b2,off2,cap2,cs2,e2,hky,hvy,hl2,hn2,hone2⟩:=ZbN hr hy hy0 hone;have hylen:0<ys.length:=Qak.2 hy0;subst e2;exact Ze0 hr hx hl hH rfl hky hvy hylen hml fun cs1 hcur=>Zbt hT (ty:=ty) h1 h2 h3 hcur hylen hl2 hn2 hone2 hml hby
theorem ZeV{m:Nat}{H:Za}{E:Env}{w:World}{xv yv:Value}{t ty e:TypeId}{r re:Zv}{sz k' l j n:Nat}{cs:List AV}{ys:List AV}{ow:Own}(hT:TOK P T)
  (h1:T t=some r) (h2:r.td= .slice e) (h3:T e=some re) (hsz:0<re.size) (hr:Zt m H E w) (hx:VR E (.msl sz l j n) xv) (hy:VR E (.sl k' ys ow) yv) (hl:l<m) (hH:H l j=some (.Zg e re.size cs n)) (hk':ys=[]∨k'=re.size)
  (hone:∀y∈ys,∀c∈y.cells,c.one=true) (hml:n+ys.length≤maxLen) (hby:(n+ys.length)*re.bytes≤140737488355328):
  ∃cv E' w',(Builtin.append_ #[t,t] ty #[xv,yv]).run P w= .ok cv w'∧VR E' (.msl sz l j (n+ys.length)) cv∧Zt m (H.upd l j (.Zg e re.size (cs++flat ys) (n+ys.length))) E' w'∧Ext m E w E' w':=by
 obtain⟨⟨h0,v0,hv0,hj0,hr0⟩,hm0⟩:=hr.Zg l j e re.size cs n hl hH;have hxv:xv=v0∧ ∃ad c,xv= .slice ad n c:=by
  cases hx with
  |mnil _ _ _ a hh _=>rw[hv0]at hh;cases hh;exact⟨rfl,_,_,rfl⟩
  |msl _ _ _ _ g cap hh=>rw[hv0]at hh;cases hh;exact⟨rfl,_,_,rfl⟩
 obtain⟨rfl,ad,c0,hxs⟩:=hxv;by_cases hy0:ys=[]
 ·subst hy0;refine⟨xv,E,w,WC hT h1 h2 h3 hxs ?_ hy,by simpa using hx,by simpa[flat,Yd hH]using hr,.refl m E w⟩;rcases hr0 with⟨a0,q1,q2,q3⟩|⟨g,cap,cur,q1,q2,q3,q4,_⟩
  ·omega
  ·rw[hxs]at q1;cases q1;exact q4
 ·have hk':k'=re.size:=hk'.resolve_left hy0;subst hk';obtain⟨b2,off2,cap2,cs2,e2,hky,hvy,hl2,hn2,hone2⟩:=ZbN hr hy hy0 hone;have hylen:0<ys.length:=Qak.2 hy0;have hcur:∃cs1,ZpU w e re.size n xv cs1∧VRs E cs cs1:=by
   rcases hr0 with⟨a0,q1,q2,q3⟩|⟨g,cap,cur,q1,q2,q3,q4,q5,q6,q7,q8⟩
   ·have:cs=[]:=Uc (by rw[h0,q2];simp);subst this;exact⟨[],.inl ⟨q2,rfl,a0,q1⟩,VRs.nil E⟩
   ·exact⟨_,.inr ⟨g,cap,cur,q1,q3,q4,q5,q6,rfl⟩,q8⟩
  obtain⟨cs1,hcur,hvx⟩:=hcur;subst e2;obtain⟨g',cap,cur,w',hrun,os,tp,out,hdr,size,hold,hg',hnew,hcap,hcml,hcs,hcc⟩:=Zbt hT (ty:=ty) h1 h2 h3 hcur hylen hl2 hn2 hone2 hml hby;have hreuse:w.heap.size≤g'∨(E.g l j=some g'∧ ∀o,E.F g' o=none):=by
   rcases hg' with⟨cap0,hx0,hpos⟩|hg'
   ·refine .inr ?_;rcases hr0 with⟨a0,q1,q2,q3⟩|⟨g,cap,cur,q1,q2,q3,q4,q5,q6,q7,q8⟩
    ·rw[hx0]at q1;simp only[Value.slice.injEq]at q1;omega
    ·rw[hx0]at q1;simp only[Value.slice.injEq,Qq,Addr.mk.injEq,true_and,and_true]at q1;obtain⟨rfl,rfl⟩:=q1;exact⟨q2,q7⟩
   ·exact .inl hg'
  have hF0:∀o,E.F g' o=none:=by
   rcases hreuse with hn|⟨_,q7⟩
   ·intro o;cases hf:E.F g' o with
    |none=>rfl
    |some u=>have:=hr.Zco hf;omega
   ·exact q7
  have hfree:E.hist l j (n+ys.length)=none:=hj0 _ om;have hle:E.le m (E.Zy l j (n+ys.length) (.slice (some ⟨g',0,none⟩) (n+ys.length) cap) g' []):=by
   refine⟨fun b o v hf=>?_,fun _ _ _ _ hm=>hm,fun l' k' i u _ hi=>?_,rfl⟩
   ·simp only[Env.Zy];by_cases hb:b=g'
    ·subst hb;rw[hF0 o]at hf;cases hf
    ·rw[if_neg hb];exact hf
   ·simp only[Env.Zy];rw[if_neg (fun hc=>by rw[hc.1,hc.2.1,hc.2.2,hfree]at hi;cases hi)];exact hi
  have hflat:(flat ys).length=ys.length*re.size:=flat_length hky;obtain⟨hh,hxx⟩:=hr.Zfy (n:=n+ys.length) (v:=.slice (some ⟨g',0,none⟩) (n+ys.length) cap) (nb:=.Zg e re.size (cs++flat ys) (n+ys.length)) (g':=g') hl hm0 hfree rfl [] os tp out (fun _=>hdr) size hold
   (hreuse.elim .inr (fun h=>.inl h.1)) (QN.1 hnew).1 (fun o u hu=>by simp at hu) (fun o u hu=>by rw[hF0 o]at hu;cases hu)
   ⟨⟨by rw[Qh,h0,hflat,Ue],_,by simp[Env.Zy],fun i hi=>by simp only[Env.Zy];rw[if_neg (fun h=>by omega)];exact hj0 i om,.inr ⟨g',cap,cur,rfl,by simp[Env.Zy],hnew,hcap,hcml,hcs,fun o=>by simp[Env.Zy],by
    rw[←hcc];exact(hvx.append hvy).mono hr.norm hle⟩⟩,hm0⟩
  exact⟨_,_,w',hrun,.msl sz l j _ g' cap (by simp[Env.Zy]),hh,hxx⟩
theorem ZcE{m:Nat}{H:Za}{t:TypeId}{x y:Operand}{r re:Zv}{e:TypeId}{k k' l j:Nat}{xs ys:List AV}{ow:Own}(hT:TOK P T)
  (ho:o.op= .call {callee:=.builtin .append,args:=#[x,y],argTypes:=#[t,t]}) (h1:T t=some r) (h2:r.td= .slice e) (h3:T e=some re) (hsz:0<re.size)
  (hx:ρ x= .sl k xs (.buf l j)) (hy:ρ y= .sl k' ys ow) (hl:l<m) (hH:H l j=some (.buf e re.size xs.length)) (hk:k=re.size) (hk':ys=[]∨k'=re.size) (hone:∀y∈ys,∀c∈y.cells,c.one=true)
  (hml:xs.length+ys.length≤maxLen) (hby:(xs.length+ys.length)*re.bytes≤140737488355328):
  Yq P m o ρ H (.sl k (xs++ys) (.buf l j)) (H.upd l j (.buf e re.size (xs.length+ys.length))):=fun E w a hr hops=>by
 have hxv:=hops x sC;have hyv:=hops y sC;rw[hx]at hxv;rw[hy]at hyv;obtain⟨cv,E',w',a1,a2,a3,a4⟩:=Zgr hT (ty:=o.type) h1 h2 h3 hsz hr hxv hyv hl hH hk hk' hone hml hby;exact⟨cv,E',w',.inl (Xw ho a1),a2,a3,a4⟩
theorem ZbI{m:Nat}{H:Za}{t:TypeId}{x y:Operand}{r re:Zv}{e:TypeId}{sz k' l j n:Nat}{cs ys:List AV}{ow:Own}(hT:TOK P T)
  (ho:o.op= .call {callee:=.builtin .append,args:=#[x,y],argTypes:=#[t,t]}) (h1:T t=some r) (h2:r.td= .slice e) (h3:T e=some re) (hsz:0<re.size)
  (hx:ρ x= .msl sz l j n) (hy:ρ y= .sl k' ys ow) (hl:l<m) (hH:H l j=some (.Zg e re.size cs n)) (hk':ys=[]∨k'=re.size) (hone:∀y∈ys,∀c∈y.cells,c.one=true)
  (hml:n+ys.length≤maxLen) (hby:(n+ys.length)*re.bytes≤140737488355328):
  Yq P m o ρ H (.msl sz l j (n+ys.length)) (H.upd l j (.Zg e re.size (cs++flat ys) (n+ys.length))):=fun E w a hr hops=>by
 have hxv:=hops x sC;have hyv:=hops y sC;rw[hx]at hxv;rw[hy]at hyv;obtain⟨cv,E',w',a1,a2,a3,a4⟩:=ZeV hT (ty:=o.type) h1 h2 h3 hsz hr hxv hyv hl hH hk' hone hml hby;exact⟨cv,E',w',.inl (Xw ho a1),a2,a3,a4⟩
theorem Zbg{m:Nat}{H:Za}{t:TypeId}{x y:Operand}{r re:Zv}{e:TypeId}{k k' l j:Nat}{ys:List AV}{ow:Own}(hT:TOK P T)
  (ho:o.op= .call {callee:=.builtin .append,args:=#[x,y],argTypes:=#[t,t]}) (h1:T t=some r) (h2:r.td= .slice e) (h3:T e=some re) (hsz:0<re.size)
  (hx:ρ x= .sl k [] .full) (hy:ρ y= .sl k' ys ow) (hl:l<m) (hH:H l j=none) (hk':ys=[]∨k'=re.size) (hone:∀y∈ys,∀c∈y.cells,c.one=true)
  (hml:ys.length≤maxLen) (hby:ys.length*re.bytes≤140737488355328):
  Yq P m o ρ H (.sl re.size ys (.buf l j)) (H.upd l j (.buf e re.size ys.length))∧Yq P m o ρ H (.msl re.size l j ys.length) (H.upd l j (.Zg e re.size (flat ys) ys.length)):=by
 have Zas:∀a b,(H.upd l j a).upd l j b=H.upd l j b:=fun a b=>by
  funext l' j';simp only[Za.upd];split<;>rfl
 constructor
 ·intro E w a hr hops;have hxv:=hops x sC;have hyv:=hops y sC;rw[hx]at hxv;rw[hy]at hyv;have hval:∃ad,a.eval x= .slice ad 0 0:=by
   generalize a.eval x=q at hxv;cases hxv with
   |slnil _ _ a ho ha=>exact⟨a,rfl⟩
   |sl _ _ _ b off cap c hk hc hv hcap hm ho=>
    have:cap=0:=ho;subst this;exact⟨_,rfl⟩
  obtain⟨ad,hval⟩:=hval;obtain⟨hh,hxx⟩:=hr.adopt hl hH ad e re.size false;simp only[QT,if_false]at hh;have hx2:VR (E.Yw l j (.slice ad 0 0)) (.sl re.size [] (.buf l j)) (a.eval x):=by
   rw[hval]at hxv⊢;cases hxv with
   |slnil _ _ _ ho ha=>exact .slnil _ _ _ (by simp[Zaj,Env.Yw]) (fun _=>ha sm)
   |sl _ _ _ b off cap c hk hc hv hcap hm ho=>exact .sl _ [] _ b off 0 c (fun i h=>absurd h (Qm _)) (fun i j h=>absurd h (Qm _)) (fun i h=>absurd h (Qm _)) (Qe _) hm (by simp[Zaj,Env.Yw])
  obtain⟨cv,E',w',a1,a2,a3,a4⟩:=Zgr hT (ty:=o.type) (xs:=[]) h1 h2 h3 hsz hh hx2 (hyv.mono hr.norm hxx.le) hl (Za.upd_same _ _ _ _) rfl hk' hone (by simpa using hml) (by simpa using hby);rw[Zas]at a3;simp only[QB,QF,QY]at a2 a3;exact⟨cv,E',w',.inl (Xw ho a1),a2,a3,hxx.trans a4⟩
 ·intro E w a hr hops;have hxv:=hops x sC;have hyv:=hops y sC;rw[hx]at hxv;rw[hy]at hyv;have hval:∃ad,a.eval x= .slice ad 0 0∧ ∀x,ad=some x→x.spot=none:=by
   generalize a.eval x=q at hxv;cases hxv with
   |slnil _ _ a ho ha=>obtain rfl:=ha sm;exact⟨none,rfl,fun _ e=>by cases e⟩
   |sl _ _ _ b off cap c hk hc hv hcap hm ho=>
    have:cap=0:=ho;subst this;exact⟨_,rfl,fun _ e=>by cases e;rfl⟩
  obtain⟨ad,hval,hsp⟩:=hval;obtain⟨hh,hxx⟩:=hr.adopt hl hH ad e re.size true;simp only[if_true]at hh;have hx2:VR (E.Yw l j (.slice ad 0 0)) (.msl re.size l j 0) (a.eval x):=by
   rw[hval];exact .mnil _ _ _ _ (by simp[Env.Yw]) hsp
  obtain⟨cv,E',w',a1,a2,a3,a4⟩:=ZeV hT (ty:=o.type) (n:=0) (cs:=[]) h1 h2 h3 hsz hh hx2 (hyv.mono hr.norm hxx.le) hl (Za.upd_same _ _ _ _) hk' hone (by simpa using hml) (by simpa using hby);rw[Zas]at a3;simp only[QF,QY]at a2 a3;exact⟨cv,E',w',.inl (Xw ho a1),a2,a3,hxx.trans a4⟩
end ops
theorem Zc4{P:Program}{T:TT}{o:Oper}{ρ:Operand→AV}{m:Nat}{H:Za}{t:TypeId}{n l j:Nat}{ps:Array (Nat×Operand)}{r re:Zv}{e:TypeId}(hT:TOK P T)(ho:o.op= .buildSlice t n ps)(h1:T t=some r)(h2:r.td= .slice e)(h3:T e=some re)
  (hin:inOrder 0 ps.toList=true) (hn:n=ps.size) (hn0:0<n) (hsz:0<re.size) (hsmall:n*re.size≤2^24) (hk:∀x∈ps.toList.map (fun p=>ρ p.2),x.cells.length=re.size∧ ∀c∈x.cells,c.one=true) (hl:l<m) (hH:H l j=none):
  Yq P m o ρ H (.msl re.size l j n) (H.upd l j (.Zg e re.size (flat (ps.toList.map fun p=>ρ p.2)) n)):=fun E w a hr hops=>by
 obtain⟨d,inf,z,hf⟩:=Zd (hT t r h1);obtain⟨d',i',z',hf'⟩:=Zd (hT e re h3);have hd:=ZH (h2▸hf.fits);subst hd;have he:execOp a.eval o=(do let v←Instr.buildSlice t n (ps.map fun(i,x)=>(i,a.eval x));pure (Next.value v)):=by simp only[execOp,ho]
 have hm:(ps.map fun(i,x)=>(i,a.eval x)).toList=ps.toList.map fun p=>(p.1,a.eval p.2):=by simp
 have hparts:∀i (h:i<ps.toList.length) (h':i<(ps.toList.map fun p=>(p.1,a.eval p.2)).length) (h'':i<(ps.toList.map fun p=>ρ p.2).length),
   (ps.toList.map fun p=>(p.1,a.eval p.2))[i].1=ps.toList[i].1∧VR E (ps.toList.map fun p=>ρ p.2)[i] (ps.toList.map fun p=>(p.1,a.eval p.2))[i].2:=by
  intro i h h' h'';refine⟨sm,?_⟩;simp only[QO];exact hops _ (by rw[ho];simp only[Op.operands,Qay,Qb];exact⟨ps.toList[i],sm,rfl⟩)
 have hfill:∀(cells:List Value),cells.length=n*re.size→ ∃us:List Value,Instr.fill (fun i=>some (i*re.size,re.size)) cells.toArray (ps.toList.map fun p=>(p.1,a.eval p.2))=some us.toArray∧
   VRs E (flat (ps.toList.map fun p=>ρ p.2)) us:=by
  intro cells hc;have:=ZaQ (E:=E) (k:=re.size) (n:=0) (ps:=ps.toList) (xs:=ps.toList.map fun p=>ρ p.2) (vals:=ps.toList.map fun p=>(p.1,a.eval p.2)) (pre:=[]) (post:=cells) hin sm sm sm (by rw[hc,hn];simp) hparts hk;simpa using this
 have hlen:(ps.toList.map fun p=>ρ p.2).length=n:=by simp[hn]
 have hflen:=flat_length (k:=re.size) (xs:=ps.toList.map fun p=>ρ p.2) (fun x hx=>(hk x hx).1);have h24:¬n*re.size>2^24:=by omega
 have hml:n≤maxLen:=by
  have:n≤n*re.size:=Qa8 n hsz;unfold maxLen;omega
 have h0:¬n*re.size=0:=Qbw (Nat.mul_pos hn0 hsz);obtain⟨us,hu1,hu2⟩:=hfill ((Array.range (n*re.size)).map (z'.cells[· % z'.cells.size]!)).toList sm;have hul:us.length=n*re.size:=by rw[hu2.1,hflen,hlen]
 have hrun:(execOp a.eval o).run P w= .ok (.value (.slice (some ⟨w.heap.size,0,none⟩) n n)) (w.alloc (.cells us.toArray e)):=by
  rw[he];have:Instr.fill (fun i=>some (i*re.size,re.size)) ((Array.range (n*re.size)).map (z'.cells[· % z'.cells.size]!)) (ps.toList.map fun p=>(p.1,a.eval p.2))=some us.toArray:=by
   rw[←hu1]
  simp only[Instr.buildSlice,Sem.run_bind,run_underlying hf.und,Result.andThen_ok,ZF hf',if_neg h24,Sem.run_pure,if_neg h0,Yk hf',hm,this];simp[newRow,newObj,Sem.run]
 obtain⟨d1,d2,d3⟩:=hr.dom l j hl hH;have hF0:∀o,E.F w.heap.size o=none:=fun o=>by
  cases hq:E.F w.heap.size o with
  |none=>rfl
  |some u=>exact absurd (hr.Zco hq) (Uh _)
 have hle:E.le m (E.Zy l j n (.slice (some ⟨w.heap.size,0,none⟩) n n) w.heap.size []):=by
  refine⟨fun b o v hf=>?_,fun _ _ _ _ hm=>hm,fun l' k' i u _ hi=>?_,rfl⟩
  ·simp only[Env.Zy];by_cases hb:b=w.heap.size
   ·subst hb;rw[hF0 o]at hf;cases hf
   ·rw[if_neg hb];exact hf
  ·simp only[Env.Zy];rw[if_neg (fun hc=>by rw[hc.1,hc.2.1,hc.2.2,d3]at hi;cases hi)];exact hi
 have hnew:(w.alloc (.cells us.toArray e)).heap[w.heap.size]? =some (.cells us.toArray e (0,0)):=by simp only[World.alloc,Array.getElem?_push_size]
 obtain⟨hh,hxx⟩:=hr.Zfy (n:=n) (v:=.slice (some ⟨w.heap.size,0,none⟩) n n) (nb:=.Zg e re.size (flat (ps.toList.map fun p=>ρ p.2)) n) (g':=w.heap.size) (w':=w.alloc (.cells us.toArray e)) hl d1 (d3 n) rfl [] rfl rfl rfl (fun _=>Qe _)
  (by simp only[World.alloc,Array.size_push];omega) (fun b hb _=>by simp only[World.alloc,U1];rw[if_neg om]) (.inr (Qe _)) (by simp only[World.alloc,Array.size_push];omega) (fun o u hu=>by simp at hu) (fun o u hu=>by rw[hF0 o]at hu;cases hu)
  ⟨⟨by rw[hflen,hlen],_,by simp[Env.Zy],fun i hi=>by simp only[Env.Zy];rw[if_neg (fun h=>by omega)];exact d3 i,.inr ⟨w.heap.size,n,us.toArray,rfl,by simp[Env.Zy],hnew,Qe _,hml,by simp[hul],fun o=>by simp[Env.Zy],by
   have:us.toArray.toList.take (n*re.size)=us:=by rw[Q5 (by simp[hul])]
   rw[this];exact hu2.mono hr.norm hle⟩⟩,d1⟩
 exact⟨_,_,_,.inl hrun,.msl re.size l j _ w.heap.size n (by simp[Env.Zy]),hh,hxx⟩
end
def zeroV(r:Zv):AV:=if r.isAgg then .agg r.zero else r.zero.getD 0 .dead
section
variable {P:Program}
theorem ZeC(w:World)(t tx ty e:TypeId)(i:TypeInfo)(z:Value)(ht:P.underlying t=some (.slice e))(hx:P.underlying tx=some (.int .i64))(hi:P.info? e=some i)(hz:i.zero=some z)
  (g sLen sCap:Nat) (cur:Array Value) (hg:w.heap[g]? =some (.cells cur e (0,0))) (m:Nat) (hm0:0<m) (hs0:0<i.size) (hm:(m:Int)≤9223372036854775807) (h48:(m:Int)*i.bytes≤281474976710656) (news:List Value) (hn:news=(Builtin.zeroCells z.cells m).toList)
  (h1:∀u∈news,u.oneCell'=true) (hroom:sLen+m≤sCap) (hfit:sLen*i.size+news.length≤cur.size):
  (Builtin.append_ #[t,tx] ty #[.slice (some ⟨g,0,none⟩) sLen sCap,.int .i64 m]).run P w=
   .ok (.slice (some ⟨g,0,none⟩) (sLen+m) sCap) (w.setRow g (cur.toList.take (sLen*i.size)++news++cur.toList.drop (sLen*i.size+news.length)).toArray):=by
 have hst:=run_storeCells_at P g (sLen*i.size) e news 0 cur w hg (by simpa using hfit) h1;simp only[UD]at hst;have hw:IntKind.i64.wrap (m:Int)=m:=IntWalk.i64_in _ om;have hl0:¬((m:Int)<0):=by omega
 have hb:¬(281474976710656<(m:Int)*i.bytes):=by omega
 have hms:¬(m*i.size=0):=Qbw (Nat.mul_pos hm0 hs0);subst hn;simp only[Builtin.append_,run_underlying ht,run_underlying hx,asInt,asIntOf,sizeOf,typeInfo,zeroValue,hi,hz,hw,hl0,hb,hroom,hms,Addr.add_lit,hst,Sem.run_bind,Sem.run_pure,Result.andThen_ok,if_true,if_false];simp[hi,hz,hw,hl0,hb,hroom,Addr.add_lit,run_underlying ht,run_underlying hx,typeInfo];rw[if_neg (by simpa[Nat.mul_eq_zero]using hms)];rw[hst];simp
theorem Vw(w:World)(t tx ty e:TypeId)(i:TypeInfo)(z:Value)(ht:P.underlying t=some (.slice e))(hx:P.underlying tx=some (.int .i64))(hi:P.info? e=some i)(hz:i.zero=some z)
  (base:Option Addr) (sLen sCap:Nat) (olds:List Value) (hold:(Builtin.firstCells i.size sLen (.slice base sLen sCap)).run P w.drew= .ok olds.toArray w.drew)
  (m:Nat) (hm0:0<m) (hs0:0<i.size) (hm:(m:Int)≤9223372036854775807) (h48:(m:Int)*i.bytes≤281474976710656) (news:List Value) (hn:news=(Builtin.zeroCells z.cells m).toList)
  (hg:sCap<sLen+m) (h63:((sLen+m:Nat):Int)≤9223372036854775807) (hfit:Builtin.nextslicecap (sLen+m) sCap*i.bytes≤281474976710656):
  (Builtin.append_ #[t,tx] ty #[.slice base sLen sCap,.int .i64 m]).run P w=
   .ok (.slice (some ⟨w.heap.size,0,none⟩) (sLen+m) (grownCap w (sLen+m) sCap e))
    (w.drew.alloc (.cells ((olds++news).toArray++Builtin.zeroCells z.cells (grownCap w (sLen+m) sCap e - (sLen+m))) e)):=by
 have hw:IntKind.i64.wrap (m:Int)=m:=IntWalk.i64_in _ om;have hl0:¬((m:Int)<0):=by omega
 have hb:¬(281474976710656<(m:Int)*i.bytes):=by omega
 have hms:¬(m*i.size=0):=Qbw (Nat.mul_pos hm0 hs0);have hms':¬(m=0∨i.size=0):=by omega
 have hnn:¬(sLen+m≤sCap):=by omega
 have h63':¬(9223372036854775807<((sLen:Int)+(m:Int))):=by omega
 have h48':¬(281474976710656<Builtin.nextslicecap (sLen+m) sCap*i.bytes):=by omega
 subst hn;simp[Builtin.append_,run_underlying ht,run_underlying hx,asInt,asIntOf,sizeOf,typeInfo,zeroValue,hi,hz,hw,hl0,hb,hnn,hms',h63',h48',Question.forced,hold,newRow,grownCap];rw[if_neg hms];congr 3
 apply Qar;simp[Q7]
theorem ZfQ(z:Array Value)(n:Nat)(h:0<z.size):(Builtin.zeroCells z (n+1)).toList=z.toList++(Builtin.zeroCells z n).toList:=by
 apply MZ
 ·simp[Builtin.zeroCells,Ue];omega
 intro i h1 h2;simp only[Builtin.zeroCells,ML,Array.toList_range,QO,MK,List.getElem_append,Uf];split
 ·rename_i hi;rw[Qac hi];simp[hi]
 ·rename_i hi;rw[QaV om]
theorem Zcr(v:AV)(n:Nat):flat (List.replicate (n+1) v)=v.cells++flat (List.replicate n v):=by rw[List.replicate_succ,Yt]
theorem ZbP{E:Env}{v:AV}{z:Array Value}(h:VRs E v.cells z.toList)(hz:0<z.size):∀n,VRs E (flat (List.replicate n v)) (Builtin.zeroCells z n).toList
 |0=>by simp[Builtin.zeroCells,flat];exact VRs.nil E
 |n+1=>by rw[Zcr,ZfQ z n hz];exact h.append (ZbP h hz n)
theorem Zfa{T:TT}(hT:TOK P T){w:World}{t tx ty e:TypeId}{r re rx:Zv}(h1:T t=some r)(h2:r.td= .slice e)(h3:T e=some re)(h4:T tx=some rx)(h5:rx.td= .int .i64)(hsz:0<re.size){n c:Nat}{xv:Value}{cs1:List Value}
  (hcur:ZpU w e re.size n xv cs1) (hc:0<c) (hml:n+c≤maxLen) (hby:(n+c)*re.bytes≤140737488355328) (z:Value) (hz:∀d i z',VX P e re d i z'→z'=z) (hone:∀u∈(Builtin.zeroCells z.cells c).toList,u.oneCell'=true):
  ∃g' cap cur w',(Builtin.append_ #[t,tx] ty #[xv,.int .i64 c]).run P w= .ok (.slice (some ⟨g',0,none⟩) (n+c) cap) w'∧w'.os=w.os∧w'.tape=w.tape∧w'.output=w.output∧w.drawn≤w'.drawn∧w.heap.size≤w'.heap.size∧
   (∀b,b<w.heap.size→b≠g'→w'.heap[b]? =w.heap[b]?)∧((∃cap0,xv= .slice (some ⟨g',0,none⟩) n cap0∧0<cap0)∨w.heap.size≤g')∧w'.heap[g']? =some (.cells cur e (0,0))∧n+c≤cap∧cap≤maxLen∧cur.size=cap*re.size∧
   cs1++(Builtin.zeroCells z.cells c).toList=cur.toList.take ((n+c)*re.size):=by
 obtain⟨d,inf,z0,hf⟩:=Zd (hT t r h1);obtain⟨d',i',z',hf'⟩:=Zd (hT e re h3);obtain⟨dx,ix,zx,hfx⟩:=Zd (hT tx rx h4);obtain rfl:=hz _ _ _ hf';have hd:=ZH (h2▸hf.fits);subst hd;have hdx:=Zar (h5▸hfx.fits);subst hdx;have hu:P.underlying t=some (.slice e):=hf.und;have hux:P.underlying tx=some (.int .i64):=hfx.und;have hmx:n+c≤9223372036854775807:=by unfold maxLen at hml;omega
 have hs0:0<i'.size:=by rw[hf'.size];exact hsz
 have hcb:(c:Int)*i'.bytes≤281474976710656:=by
  have:c*re.bytes≤(n+c)*re.bytes:=QD _ om;rw[hf'.bytes];have h:((c*re.bytes:Nat):Int)≤140737488355328:=by omega
  rw[Qan]at h;omega
 have hl2:(Builtin.zeroCells z'.cells c).toList.length=c*re.size:=by rw[Uf,size_zeroCells,hf'.zsize]
 generalize hcs2:(Builtin.zeroCells z'.cells c).toList=cs2 at*;rcases hcur with⟨rfl,rfl,ad,rfl⟩|⟨g,cap,cur,rfl,q3,q4,q5,q6,q7⟩
 ·simp only[QF]at hmx hml hby⊢;have hge:=grownCap_ge w c 0 e;have hb48:Builtin.nextslicecap (0+c) 0*i'.bytes≤281474976710656:=growslice_fits om (by rw[hf'.bytes,QF];exact hby);have hr1:=Vw (P:=P) w t tx ty e i' z' hu hux hf'.info hf'.zero ad 0 0 [] (by cases ad<;>simp[Builtin.firstCells,loadCells,loadCellsFrom]) c hc hs0 om hcb cs2 hcs2.symm om om hb48;simp only[QF,QY]at hr1;refine⟨w.heap.size,grownCap w c 0 e,cs2.toArray++Builtin.zeroCells z'.cells (grownCap w c 0 e - c),w.drew.alloc (.cells (cs2.toArray++Builtin.zeroCells z'.cells (grownCap w c 0 e - c)) e),hr1,rfl,rfl,rfl,Uj _,sm,fun b hb _=>heap_alloc_old w.drew _ hb,.inr (Qe _),heap_alloc_new w.drew _,hge,grownCap_le_maxLen w _ _ _ hml,?_,?_⟩
  ·simp only[Gz,U7,size_zeroCells,hl2,hf'.zsize,←Nat.add_mul];congr 1;omega
  ·simp only[QY,Gp];rw[←hl2];simp
 ·have hle:n*re.size≤cap*re.size:=QD _ q4;have hl1:cs1.length=n*re.size:=by rw[←q7,QI];simp;omega
  have hn1:∀j v,cs1[j]? =some v→w.cell? ((⟨g,0,none⟩:Addr).add j)=some v:=fun j v hj=>by
   rw[ZI];simp only[World.cell?,q3,QF];rw[←q7]at hj;rcases Qg j (n*re.size)with h|h
   ·rw[QV h]at hj;simpa using hj
   ·rw[UG,if_neg om]at hj;cases hj
  have hglt:g<w.heap.size:=(QN.1 q3).1;by_cases hroom:n+c≤cap
  ·have hfit:n*i'.size+cs2.length≤cur.size:=by rw[hl2,q6,hf'.size,←Ue];exact QD _ hroom
   have hr1:=ZeC (P:=P) w t tx ty e i' z' hu hux hf'.info hf'.zero g n cap cur q3 c hc hs0 om hcb cs2 hcs2.symm hone hroom hfit;rw[hf'.size]at hr1 hfit;refine⟨g,cap,_,_,hr1,rfl,rfl,rfl,Qe _,by simp[World.setRow],fun b _ hb=>setRow_other w g b _ hb,.inl ⟨cap,rfl,om⟩,setRow_heap w g cur _ e (0,0) q3,hroom,q5,?_,?_⟩
   ·simp only[U7,Qh,QI,QL,Uf];rw[←q6];omega
   ·rw[U2,q7];rw[show(n+c)*re.size=(cs1++cs2).length by rw[Qh,hl1,hl2,Ue],Gw]
  ·have hb48:Builtin.nextslicecap (n+c) cap*i'.bytes≤281474976710656:=growslice_fits om (by rw[hf'.bytes];exact hby);have hge:=grownCap_ge w (n+c) cap e;have hfo:=run_firstCells_some (P:=P) w.drew i'.size n ⟨g,0,none⟩ n cap cs1 (by rw[hf'.size];exact hl1) (by simpa using hn1);have hr1:=Vw (P:=P) w t tx ty e i' z' hu hux hf'.info hf'.zero (some ⟨g,0,none⟩) n cap cs1 hfo c hc hs0 om hcb cs2 hcs2.symm om om hb48;refine⟨w.heap.size,grownCap w (n+c) cap e,(cs1++cs2).toArray++Builtin.zeroCells z'.cells (grownCap w (n+c) cap e - (n+c)),w.drew.alloc (.cells ((cs1++cs2).toArray++Builtin.zeroCells z'.cells (grownCap w (n+c) cap e - (n+c))) e),hr1,rfl,rfl,rfl,Uj _,sm,fun b hb _=>heap_alloc_old w.drew _ hb,.inr (Qe _),heap_alloc_new w.drew _,hge,grownCap_le_maxLen w _ _ _ hml,?_,?_⟩
   ·simp only[Gz,U7,size_zeroCells,hl1,hl2,hf'.zsize,←Nat.add_mul,Qh];congr 1;omega
   ·simp only[Gp,U2];rw[show(n+c)*re.size=(cs1++cs2).length by rw[Qh,hl1,hl2,Ue],Gw]
end
section ops
variable {P:Program} {T:TT} {o:Oper} {ρ:Operand→AV}
theorem ZgB{m:Nat}{H:Za}{t tx:TypeId}{x y:Operand}{r re rx:Zv}{e:TypeId}{k l j c:Nat}{xs:List AV}(hT:TOK P T)
  (ho:o.op= .call {callee:=.builtin .append,args:=#[x,y],argTypes:=#[t,tx]}) (h1:T t=some r) (h2:r.td= .slice e) (h3:T e=some re) (h4:T tx=some rx) (h5:rx.td= .int .i64) (hsz:0<re.size)
  (hx:ρ x= .sl k xs (.buf l j)) (hy:ρ y= .int .i64 c) (hl:l<m) (hH:H l j=some (.buf e re.size xs.length)) (hk:k=re.size) (hzc:(zeroV re).cells=re.zero)
  (hml:xs.length+c≤maxLen) (hby:(xs.length+c)*re.bytes≤140737488355328):
  Yq P m o ρ H (.sl k (xs++List.replicate c (zeroV re)) (.buf l j)) (H.upd l j (.buf e re.size (xs.length+c))):=fun E w a hr hops=>by
 have hxv:=hops x sC;have hyv:=hops y sC;rw[hx]at hxv;rw[hy]at hyv;have hyv:a.eval y= .int .i64 c:=by
  generalize a.eval y=q at hyv;cases hyv;rfl
 obtain⟨d',i',z',hf'⟩:=Zd (hT e re h3);rcases UY c with rfl|hc
 ·refine⟨a.eval x,E,w,.inl (Xw ho ?_),by simpa using hxv,by rw[UD,Yd hH];exact hr,.refl m E w⟩;rw[hyv];obtain⟨d,inf,z0,hf⟩:=Zd (hT t r h1);obtain⟨dx,ix,zx,hfx⟩:=Zd (hT tx rx h4);have hd:=ZH (h2▸hf.fits);subst hd;have hdx:=Zar (h5▸hfx.fits);subst hdx;have hu:P.underlying t=some (.slice e):=hf.und;have hux:P.underlying tx=some (.int .i64):=hfx.und;have hw0:IntKind.i64.wrap 0=0:=rfl;rcases hxv.Vd with⟨⟨ad,e1,_⟩,_,_⟩|⟨b,off,cap,cs,e1,_,_,_,hcc,_,_⟩<;>rw[e1]
  ·cases ad<;>simp[Builtin.append_,run_underlying hu,run_underlying hux,asInt,asIntOf,sizeOf,typeInfo,hf'.info,storeCells,hw0]
  ·simp[Builtin.append_,run_underlying hu,run_underlying hux,asInt,asIntOf,sizeOf,typeInfo,hf'.info,storeCells,hw0,hcc]
 ·have hv0:VRs E (zeroV re).cells z'.cells.toList:=by rw[hzc];exact Xt hf'.zfits
  have hvz:=ZbP hv0 (by rw[hf'.zsize];exact hsz) c;have hcl:(zeroV re).cells.length=re.size:=by rw[hv0.1.symm,Uf,hf'.zsize]
  have hone:∀u∈(Builtin.zeroCells z'.cells c).toList,u.oneCell'=true:=fun u hu=>by
   obtain⟨i,hi,rfl⟩:=QJ hu;have hi':i<(flat (List.replicate c (zeroV re))).length:=by rw[←hvz.1];exact hi
   refine(hvz.2 i hi' hi).one ?_;have hmem:(flat (List.replicate c (zeroV re)))[i]∈flat (List.replicate c (zeroV re)):=Qa hi';simp only[flat,Qz]at hmem;obtain⟨y',hy',hc'⟩:=hmem;rw[(Ug.1 hy').2,hzc]at hc';exact fitsAll_one hf'.zfits _ hc'
  have hlr:(List.replicate c (zeroV re)).length=c:=Gx;obtain⟨cv,E',w',a1,a2,a3,a4⟩:=Ze0 (P:=P) (S:=Builtin.append_ #[t,tx] o.type #[a.eval x,.int .i64 c]) (ys:=List.replicate c (zeroV re)) hr hxv hl hH hk (fun y hy=>by rw[(Ug.1 hy).2];exact hcl) hvz (by rw[hlr];exact hc) (by rw[hlr];exact hml)
   (fun cs1 hcur=>by
    rw[hlr];exact Zfa hT h1 h2 h3 h4 h5 hsz hcur hc hml hby z' (fun d1 i1 z1 hf1=>by have e1:=hf1.info.symm.trans hf'.info;cases e1;have e2:=hf1.zero.symm.trans hf'.zero;cases e2;rfl) hone)
  rw[hlr]at a3;exact⟨cv,E',w',.inl (Xw ho (by rw[hyv];exact a1)),a2,a3,a4⟩
end ops
section
variable {P:Program}
theorem Zt.Zps{m:Nat}{H:Za}{E:Env}{w w':World}(hr:Zt m H E w){l j n cap e sz:Nat}{cs:List AV}{cur:Array Value}(hl:l<m)(hH:H l j=none)(os:w'.os=w.os)(tape:w'.tape=w.tape)(output:w'.output=w.output)
  (drawn:w.drawn≤w'.drawn) (size:w'.heap.size=w.heap.size+1) (hold:∀b,b<w.heap.size→w'.heap[b]? =w.heap[b]?) (hnew:w'.heap[w.heap.size]? =some (.cells cur e (0,0))) (h1:n≤cap) (h2:cap≤maxLen) (h3:cur.size=cap*sz)
  (h4:cs.length=n*sz) (h5:VRs E cs (cur.toList.take (n*sz))):
  ∃E',VR E' (.msl sz l j n) (.slice (some ⟨w.heap.size,0,none⟩) n cap)∧Zt m (H.upd l j (.Zg e sz cs n)) E' w'∧Ext m E w E' w':=by
 obtain⟨d1,d2,d3⟩:=hr.dom l j hl hH;have hF0:∀o,E.F w.heap.size o=none:=fun o=>by
  cases hq:E.F w.heap.size o with
  |none=>rfl
  |some u=>exact absurd (hr.Zco hq) (Uh _)
 have hle:E.le m (E.Zy l j n (.slice (some ⟨w.heap.size,0,none⟩) n cap) w.heap.size []):=by
  refine⟨fun b o v hf=>?_,fun _ _ _ _ hm=>hm,fun l' k' i u _ hi=>?_,rfl⟩
  ·simp only[Env.Zy];by_cases hb:b=w.heap.size
   ·subst hb;rw[hF0 o]at hf;cases hf
   ·rw[if_neg hb];exact hf
  ·simp only[Env.Zy];rw[if_neg (fun hc=>by rw[hc.1,hc.2.1,hc.2.2,d3]at hi;cases hi)];exact hi
 obtain⟨hh,hxx⟩:=hr.Zfy (n:=n) (v:=.slice (some ⟨w.heap.size,0,none⟩) n cap) (nb:=.Zg e sz cs n) (g':=w.heap.size) (w':=w') hl d1 (d3 n) rfl [] os tape output (fun _=>drawn) om (fun b hb _=>hold b hb) (.inr (Qe _)) om (fun o u hu=>by simp at hu) (fun o u hu=>by rw[hF0 o]at hu;cases hu)
  ⟨⟨h4,_,by simp[Env.Zy],fun i hi=>by simp only[Env.Zy];rw[if_neg (fun h=>by omega)];exact d3 i,.inr ⟨w.heap.size,cap,cur,rfl,by simp[Env.Zy],hnew,h1,h2,h3,fun o=>by simp[Env.Zy],h5.mono hr.norm hle⟩⟩,d1⟩
 exact⟨_,.msl sz l j _ w.heap.size cap (by simp[Env.Zy]),hh,hxx⟩
theorem run_makeSlice(w:World){t e:TypeId}{i:TypeInfo}{z:Value}(ht:P.underlying t=some (.slice e))(hi:P.info? e=some i)(hz:i.zero=some z)(l c:Nat)(hlc:l≤c)(hs0:0<i.size)(hc:(c:Int)≤9223372036854775807)
  (hb:(i.bytes:Int)*c≤140737488355328) (k k':IntKind):
  (Instr.makeSlice t (.int k l) (.int k' c)).run P w= .ok (.slice (some ⟨w.heap.size,0,none⟩) l c) (w.alloc (.cells ((Array.range (c*i.size)).map (z.cells[· % z.cells.size]!)) e)):=by
 have hw:IntKind.i64.wrap (c:Int)=c:=IntWalk.i64_in _ om;have hwl:IntKind.i64.wrap (l:Int)=l:=IntWalk.i64_in _ om;have h1:¬((c:Int)<0):=by omega
 have h2:¬((l:Int)<0):=by omega
 have h3:¬((c:Int)<(l:Int)):=by omega
 have h4:¬(281474976710656<(i.bytes:Int)*c):=by omega
 have h5:¬(140737488355328<c*i.bytes):=by
  have:((c*i.bytes:Nat):Int)=(i.bytes:Int)*c:=by rw[Qan,Int.mul_comm]
  omega
 rcases UY c with rfl|hc0
 ·have hl0:l=0:=by omega
  subst hl0;have hw0:IntKind.i64.wrap 0=0:=rfl;simp[hw0,Instr.makeSlice,run_underlying ht,asInt,asIntOf,sizeOf,typeInfo,hi,hw,askRoom,roomBytes,newRow,show(Array.range 0)= #[] from rfl]
 have h6:¬(c=0∨i.size=0):=by omega
 simp[Instr.makeSlice,run_underlying ht,asInt,asIntOf,sizeOf,typeInfo,zeroValue,hi,hz,hw,hwl,h1,h2,h3,h4,h5,h6,askRoom,roomBytes,newRow];exact fun h=>absurd (Nat.mul_eq_zero.1 h) h6
variable {T:TT} {o:Oper} {ρ:Operand→AV}
theorem Zii{m:Nat}{H:Za}{t:TypeId}{x y:Operand}{r re:Zv}{e l c:Nat}{k k':IntKind}{q j:Nat}(hT:TOK P T)(ho:o.op= .makeSlice t x y)(h1:T t=some r)(h2:r.td= .slice e)(h3:T e=some re)(hsz:0<re.size)
  (hx:ρ x= .int k l) (hy:ρ y= .int k' c) (hlc:l≤c) (hzc:(zeroV re).cells=re.zero) (hml:c≤maxLen) (hby:c*re.bytes≤140737488355328) (hq:q<m) (hH:H q j=none):
  Yq P m o ρ H (.msl re.size q j l) (H.upd q j (.Zg e re.size (flat (List.replicate l (zeroV re))) l)):=fun E w a hr hops=>by
 have hxv:=hops x sO;have hyv:=hops y sO;rw[hx]at hxv;rw[hy]at hyv;have hxv:a.eval x= .int k l:=by
  generalize a.eval x=q at hxv;cases hxv;rfl
 have hyv:a.eval y= .int k' c:=by
  generalize a.eval y=q at hyv;cases hyv;rfl
 obtain⟨d,inf,z0,hf⟩:=Zd (hT t r h1);obtain⟨d',i',z',hf'⟩:=Zd (hT e re h3);have hd:=ZH (h2▸hf.fits);subst hd;have hv0:VRs E (zeroV re).cells z'.cells.toList:=by rw[hzc];exact Xt hf'.zfits
 have hvz:=ZbP hv0 (by rw[hf'.zsize];exact hsz) l;have hcl:(zeroV re).cells.length=re.size:=by rw[hv0.1.symm,Uf,hf'.zsize]
 have hmx:c≤9223372036854775807:=by unfold maxLen at hml;omega
 have hrun:=run_makeSlice (P:=P) w hf.und hf'.info hf'.zero l c hlc (by rw[hf'.size];exact hsz) om (by
  rw[hf'.bytes];have:((c*re.bytes:Nat):Int)=(re.bytes:Int)*c:=by rw[Qan,Int.mul_comm]
  omega) k k'
 obtain⟨cur,hcur⟩:∃cur,cur=(Array.range (c*i'.size)).map (z'.cells[· % z'.cells.size]!):=⟨_,rfl⟩
 rw[←hcur]at hrun;have hcur2:cur=Builtin.zeroCells z'.cells c:=by
  rw[hcur,Builtin.zeroCells,hf'.size,hf'.zsize]
 have hcs:cur.size=c*re.size:=by rw[hcur2,size_zeroCells,hf'.zsize]
 have htake:cur.toList.take (l*re.size)=(Builtin.zeroCells z'.cells l).toList:=by
  rw[hcur2];apply MZ
  ·simp only[QI,Uf,size_zeroCells,hf'.zsize];exact QaI (QD _ hlc)
  intro i g1 g2;simp[Builtin.zeroCells]
 obtain⟨E',a1,a2,a3⟩:=hr.Zps (w':=w.alloc (.cells cur e)) (n:=l) (cap:=c) (e:=e) (sz:=re.size) (cs:=flat (List.replicate l (zeroV re))) (cur:=cur) hq hH rfl rfl rfl (Qe _) sm
  (fun b hb=>heap_alloc_old w _ hb) (heap_alloc_new w _) hlc hml hcs (by rw[flat_length (k:=re.size) (fun x hx=>by rw[(Ug.1 hx).2];exact hcl),Gx]) (by rw[htake];exact hvz)
 refine⟨_,E',_,.inl ?_,a1,a2,a3⟩;have he:execOp a.eval o=(do let v←Instr.makeSlice t (a.eval x) (a.eval y);pure (Next.value v)):=by simp only[execOp,ho]
 rw[he,hxv,hyv];simp only[Sem.run_bind,hrun,Result.andThen_ok,Sem.run_pure]
theorem ZdG{m:Nat}{H:Za}{t:TypeId}{x:Operand}{hi:Option Operand}{r re:Zv}{e e':TypeId}{sz sz' q j n:Nat}{h:Int}{cs:List AV}(hT:TOK P T)(ho:o.op= .slice t x none hi none)(h1:T t=some r)(h2:r.td= .slice e)
  (h2':T e=some re) (hv:ρ x= .msl sz q j n) (hH:H q j=some (.Zg e' sz' cs n)) (hh:bnd ρ hi n=some h) (h0:0≤h) (h3:h≤n) (hn:0<n):Yq P m o ρ H (.sub sz q j n 0 h.toNat) H:=fun E w a hr hops=>by
 have hx:=hops x sO;have hb:∀y,(none:Option Operand)=some y∨hi=some y→VR E (ρ y) (a.eval y):=fun y hy=>hops y (by rcases hy with hy|rfl<;>first|cases hy|simp[ho,Op.operands])
 rw[hv]at hx;have hq:q<m:=by
  have hbl:=hx.lvl hr.norm;cases hbl with|msl _ _ _ _ hb'=>exact hb'
 obtain⟨⟨_,v0,hv0,_,hr0⟩,_⟩:=hr.Zg q j e' sz' cs n hq hH;obtain⟨d,inf,z,hf⟩:=Zd (hT t r h1);obtain⟨d',i',z',hf'⟩:=Zd (hT e re h2');have hd:=ZH (h2▸hf.fits);subst hd;have he:execOp a.eval o=(do let v←Instr.sliceAt t (a.eval x) none (hi.map a.eval) none;pure (Next.value v)):=by simp only[execOp,ho];rfl
 generalize hy:a.eval x=y at hx;cases hx with
 |mnil=>omega
 |msl _ _ _ _ g cap hh'=>
  have hcap:n≤cap:=by
   rcases hr0 with⟨ad,q1,q2,q3⟩|⟨g',cap',cur,q1,q2,q3,q4,_⟩
   ·omega
   ·rw[hv0,q1]at hh';simp only[Qq,Value.slice.injEq]at hh';omega
  have hrun:=WG (P:=P) (s:=true) (len:=n) (cap:=cap) (lo:=none) hb (l:=0) rfl hh (GI 0) h0 om w;have hvr:=VR.sub (E:=E) sz q j n 0 h.toNat g cap hh' om;simp only[Gq,MI]at hvr;refine⟨_,E,w,.inl ?_,hvr,hr,.refl m E w⟩;rw[he,hy];simp only[Qbf,Int.toNat_zero]at hrun;have h00:¬cap=0:=by omega
  simp[Instr.sliceAt,Instr.slice,run_underlying hf.und,hrun,ZF hf',ZI,h00]
theorem Zgm{m:Nat}{H:Za}{t tx:TypeId}{x y:Operand}{r re rx:Zv}{e k c:Nat}{q j:Nat}(hT:TOK P T)(ho:o.op= .call {callee:=.builtin .append,args:=#[x,y],argTypes:=#[t,tx]})(h1:T t=some r)(h2:r.td= .slice e)(h3:T e=some re)
  (h4:T tx=some rx) (h5:rx.td= .int .i64) (hsz:0<re.size) (hx:ρ x= .sl k [] .full) (hy:ρ y= .int .i64 c) (hc0:0<c) (hzc:(zeroV re).cells=re.zero) (hml:c≤maxLen) (hby:c*re.bytes≤140737488355328) (hq:q<m) (hH:H q j=none):
  Yq P m o ρ H (.msl re.size q j c) (H.upd q j (.Zg e re.size (flat (List.replicate c (zeroV re))) c)):=fun E w a hr hops=>by
 have hxv:=hops x sC;have hyv:=hops y sC;rw[hx]at hxv;rw[hy]at hyv;have hyv:a.eval y= .int .i64 c:=by
  generalize a.eval y=q at hyv;cases hyv;rfl
 have hval:∃ad,a.eval x= .slice ad 0 0:=by
  generalize a.eval x=q at hxv;cases hxv with
  |slnil _ _ a ho ha=>exact⟨a,rfl⟩
  |sl _ _ _ b off cap c hk hc hv hcap hm ho=>
   have:cap=0:=ho;subst this;exact⟨_,rfl⟩
 obtain⟨ad,hval⟩:=hval;obtain⟨d,inf,z0,hf⟩:=Zd (hT t r h1);obtain⟨d',i',z',hf'⟩:=Zd (hT e re h3);obtain⟨dx,ix,zx,hfx⟩:=Zd (hT tx rx h4);have hd:=ZH (h2▸hf.fits);subst hd;have hdx:=Zar (h5▸hfx.fits);subst hdx;have hu:P.underlying t=some (.slice e):=hf.und;have hux:P.underlying tx=some (.int .i64):=hfx.und;have hv0:VRs E (zeroV re).cells z'.cells.toList:=by rw[hzc];exact Xt hf'.zfits
 have hvz:=ZbP hv0 (by rw[hf'.zsize];exact hsz) c;have hcl:(zeroV re).cells.length=re.size:=by rw[hv0.1.symm,Uf,hf'.zsize]
 have hmx:c≤9223372036854775807:=by unfold maxLen at hml;omega
 have hcb:(c:Int)*i'.bytes≤281474976710656:=by
  rw[hf'.bytes];have h:((c*re.bytes:Nat):Int)≤140737488355328:=by omega
  rw[Qan]at h;omega
 have hb48:Builtin.nextslicecap (0+c) 0*i'.bytes≤281474976710656:=growslice_fits om (by rw[hf'.bytes,QF];exact hby);obtain⟨cs2,hcs2⟩:∃cs2,cs2=(Builtin.zeroCells z'.cells c).toList:=⟨_,rfl⟩
 have hl2:cs2.length=c*re.size:=by rw[hcs2,Uf,size_zeroCells,hf'.zsize]
 have hge:=grownCap_ge w c 0 e;have hr1:=Vw (P:=P) w t tx o.type e i' z' hu hux hf'.info hf'.zero ad 0 0 [] (by cases ad<;>simp[Builtin.firstCells,loadCells,loadCellsFrom]) c hc0 (by rw[hf'.size];exact hsz) om hcb cs2 hcs2 om om hb48;simp only[QF,QY]at hr1;obtain⟨E',a1,a2,a3⟩:=hr.Zps (w':=w.drew.alloc (.cells (cs2.toArray++Builtin.zeroCells z'.cells (grownCap w c 0 e - c)) e)) (n:=c) (cap:=grownCap w c 0 e) (e:=e) (sz:=re.size) (cs:=flat (List.replicate c (zeroV re)))
  (cur:=cs2.toArray++Builtin.zeroCells z'.cells (grownCap w c 0 e - c)) hq hH rfl rfl rfl (Uj _) sm (fun b hb=>heap_alloc_old w.drew _ hb) (heap_alloc_new w.drew _) hge (grownCap_le_maxLen w _ _ _ hml)
  (by
   simp only[Gz,U7,size_zeroCells,hl2,hf'.zsize,←Nat.add_mul];congr 1;omega)
  (by rw[flat_length (k:=re.size) (fun x hx=>by rw[(Ug.1 hx).2];exact hcl),Gx])
  (by
   have:(cs2.toArray++Builtin.zeroCells z'.cells (grownCap w c 0 e - c)).toList.take (c*re.size)=cs2:=by
    rw[Gp,U2,←hl2,MW];rfl
   rw[this,hcs2];exact hvz)
 refine⟨_,E',_,.inl (Xw ho ?_),a1,a2,a3⟩;rw[hval,hyv];exact hr1
end
end Go.Abs
