/- Goals out of code: what must hold for a region's operations, one behind the other. No program, no condition. -/
import Derived.Test.YthgbkalgmicniaaGreatDoorM03
import Derived.Test.YthgbkalgmicniaaGreatDoorM04
set_option linter.all false
namespace Go.Abs
structure Cx where
 P:Program
 T:TT
 φ:Fm
 n:Nat
 N:Nat
def ones (v:AV):Bool:=v.cells.all AV.one
def AState.put (s:AState) (d:Option Nat) (v:AV):AState:=⟨putT s.tmps d v,s.L,s.H⟩
def setb:List (Nat × ABlk) → Nat → ABlk → List (Nat × ABlk)
 | [],k,b=>[(k,b)]
 | (i,v) :: r,k,b=>if i = k then (k,b) :: r else (i,v) :: setb r k b
theorem lkb_setb:∀ (L:List (Nat × ABlk)) (k:Nat) (b:ABlk) (t:Nat),lkb (setb L k b) t = if t = k then some b else lkb L t
 | [],k,b,t=>by
  simp only [setb,lkb]
  by_cases h:k = t
  ·subst h; simp
  ·rw [if_neg h,if_neg (fun e=>h e.symm)]
 | (i,v) :: r,k,b,t=>by
  simp only [setb]
  by_cases hi:i = k
  ·subst hi
   simp only [if_true,lkb]
   by_cases h:i = t
   ·subst h; simp
   ·simp [h,Ne.symm h]
  ·simp only [if_neg hi,lkb,lkb_setb r k b t]
   by_cases h:i = t
   ·subst h; simp [hi]
   ·simp [h]
theorem setb_setb:∀ (L:List (Nat × ABlk)) (k:Nat) (b b':ABlk),setb (setb L k b) k b' = setb L k b'
 | [],k,b,b'=>by simp [setb]
 | (i,v) :: r,k,b,b'=>by
  simp only [setb]
  split
  ·simp [setb]
  ·rename_i h; simp only [setb,if_neg h,setb_setb r k b b']
theorem full_setb (n:Nat) (L:List (Nat × ABlk)) (H:AHeap) (k:Nat) (b:ABlk):full n (setb L k b) H = (full n L H).upd n k b:=by
 funext l j
 simp only [full,AHeap.upd,lkb_setb]
 by_cases h:l = n
 ·subst h; simp
 ·simp [h]
theorem full_upd (n:Nat) (L:List (Nat × ABlk)) (H:AHeap) (l k:Nat) (b:ABlk) (h:l ≠ n):full n L (H.upd l k b) = (full n L H).upd l k b:=by
 funext l' j
 simp only [full,AHeap.upd]
 by_cases h1:l' = n
 ·subst h1
  have:¬(l' = l ∧ j = k):=fun c=>h c.1.symm
  simp [this]
 ·simp [h1]
def fieldOf (T:TT) (t:TypeId) (f:Nat):Option (Nat × TRow) :=
 match T t with
 | some r=>match r.td with
  | .struct fs=>match fs[f]? with
   | some (fo,ft)=>(T ft).map fun rf=>(fo,rf)
   | none=>none
  | _=>none
 | none=>none
theorem fieldOf_spec {T:TT} {t f:Nat} {fo:Nat} {rf:TRow} (h:fieldOf T t f = some (fo,rf)):∃ r fs ft,T t = some r ∧ r.td = .struct fs ∧ fs[f]? = some (fo,ft) ∧ T ft = some rf:=by
 unfold fieldOf at h
 split at h
 ·rename_i r hr
  split at h
  ·rename_i fs hfs
   split at h
   ·rename_i fo' ft hf
    simp only [Option.map_eq_some_iff] at h
    obtain ⟨rf',h1,h2⟩:=h
    cases h2
    exact ⟨r,fs,ft,hr,hfs,hf,h1⟩
   ·cases h
  ·cases h
 ·cases h
def sliceOf (T:TT) (t:TypeId):Option (TypeId × TRow) :=
 match T t with
 | some r=>match r.td with
  | .slice e=>(T e).map fun re=>(e,re)
  | _=>none
 | none=>none
theorem sliceOf_spec {T:TT} {t e:Nat} {re:TRow} (h:sliceOf T t = some (e,re)):∃ r,T t = some r ∧ r.td = .slice e ∧ T e = some re:=by
 unfold sliceOf at h
 split at h
 ·rename_i r hr
  split at h
  ·rename_i e' he
   simp only [Option.map_eq_some_iff] at h
   obtain ⟨re',h1,h2⟩:=h
   cases h2
   exact ⟨r,hr,he,h1⟩
  ·cases h
 ·cases h
def arrOf (T:TT) (t:TypeId):Option (Nat × TRow) :=
 match T t with
 | some r=>match r.td with
  | .array n e=>(T e).map fun re=>(n,re)
  | _=>none
 | none=>none
theorem arrOf_spec {T:TT} {t n:Nat} {re:TRow} (h:arrOf T t = some (n,re)):∃ r e,T t = some r ∧ r.td = .array n e ∧ T e = some re:=by
 unfold arrOf at h
 split at h
 ·rename_i r hr
  split at h
  ·rename_i n' e he
   simp only [Option.map_eq_some_iff] at h
   obtain ⟨re',h1,h2⟩:=h
   cases h2
   exact ⟨r,e,hr,he,h1⟩
  ·cases h
 ·cases h
def tdOf (T:TT) (t:TypeId):Option TD:=(T t).map (·.td)
theorem tdOf_spec {T:TT} {t:Nat} {d:TD} (h:tdOf T t = some d):∃ r,T t = some r ∧ r.td = d:=by
 simp only [tdOf,Option.map_eq_some_iff] at h; exact h
def ldA (r:TRow) (cs:List AV):AV:=if r.isAgg then .agg (cs.take r.size) else cs.getD 0 .dead
def isEq:BinOp → Bool
 | .eql=>true
 | .neq=>true
 | _=>false
def eqB:BinOp → Bool → Bool
 | .eql,b=>b
 | _,b=>!b
theorem isEq_spec {op:BinOp} (h:isEq op = true):op = .eql ∨ op = .neq:=by
 cases op <;> first | exact .inl rfl | exact .inr rfl | cases h
theorem eqB_spec {op:BinOp} (b:Bool) (h:isEq op = true):eqB op b = if op = .eql then b else !b:=by
 cases op <;> first | rfl | cases h
def mmOp (b:Builtin) (x y:Int):Option Int :=
 match b with
 | .max=>some (if y > x then y else x)
 | .min=>some (if y < x then y else x)
 | _=>none
theorem pr_mm {P:Program} {o:Oper} {ρ:Operand → AV} {b:Builtin} {x y:Operand} {ts:Array TypeId} {k k':IntKind} {m n v:Int} (ho:o.op = .call { callee:=.builtin b,args:=#[x,y],argTypes:=ts })
  (hx:ρ x = .int k m) (hy:ρ y = .int k' n) (hv:mmOp b m n = some v):PRun P o ρ (.int k v):=fun E a h=>by
 have h1:=h x (by simp [ho,Op.operands,Call.operands])
 have h2:=h y (by simp [ho,Op.operands,Call.operands])
 rw [hx] at h1
 rw [hy] at h2
 cases ha:a.eval x <;> rw [ha] at h1 <;> cases h1
 cases hb:a.eval y <;> rw [hb] at h2 <;> cases h2
 refine ⟨.int k v,fun w=>?_,.int _ _⟩
 cases b <;> simp only [mmOp,Option.some.injEq,reduceCtorEq] at hv <;> subst hv
 ·simp [execOp,ho,ha,hb,resolve,invoke,builtin,Builtin.max_,Builtin.max2]
 ·simp [execOp,ho,ha,hb,resolve,invoke,builtin,Builtin.min_,Builtin.min2]
def evP (T:TT) (o:Op) (ty:TypeId) (ρ:Operand → AV):Prop × AV :=
 match o with
 | .move x=>(True,mv T ty x (ρ x))
 | .assign x=>(True,mv T ty x (ρ x))
 | .pick c x y=>match ρ c with
  | .bool true=>(True,mv T ty x (ρ x))
  | .bool false=>(True,mv T ty y (ρ y))
  | _=>(False,.dead)
 | .nilCheck x=>match ρ x with
  | .ptr l k off=>(True,.ptr l k off)
  | .iptr cs=>(True,.iptr cs)
  | .eptr l k n off=>(True,.eptr l k n off)
  | .fn (.func f) c=>(True,.fn (.func f) c)
  | .fn (.yield f) c=>(True,.fn (.yield f) c)
  | _=>(False,.dead)
 | .fieldAddr t x f=>match fieldOf T t f with
  | some (fo,rf)=>match ρ x with
   | .ptr l k off=>(rf.size ≠ 0,.ptr l k (off + fo))
   | .iptr cs=>(rf.size ≠ 0,.iptr (cs.drop fo))
   | .eptr l k n off=>(rf.size ≠ 0,.eptr l k n (off + fo))
   | _=>(False,.dead)
  | none=>(False,.dead)
 | .indexAddr t x ix=>match sliceOf T t with
  | some (_,re)=>match ρ x,ρ ix with
   | .sl k xs _,.int _ i=>(k = re.size ∧ 0 ≤ i ∧ i < xs.length,.iptr (xs.getD i.toNat .dead).cells)
   | .msl _ l k n,.int _ i=>(0 ≤ i ∧ i < n,.eptr l k n (i.toNat * re.size))
   | _,_=>(False,.dead)
  | none=>match arrOf T t with
   | some (N,re)=>match ρ x,ρ ix with
    | .ptr l k off,.int _ i=>(0 ≤ i ∧ i < N,.ptr l k (off + i.toNat * re.size))
    | .iptr cs,.int _ i=>(0 ≤ i ∧ i < N,.iptr (cs.drop (i.toNat * re.size)))
    | _,_=>(False,.dead)
   | none=>(False,.dead)
 | .field t x f=>match fieldOf T t f with
  | some (fo,rf)=>match ρ x with
   | .agg cs=>(rf.isAgg = false → fo < cs.length,if rf.isAgg then .agg ((cs.drop fo).take rf.size) else cs.getD fo .dead)
   | _=>(False,.dead)
  | none=>(False,.dead)
 | .extract x i=>match ρ x with
  | .tup vs=>(i < vs.length,vs.getD i .dead)
  | _=>(False,.dead)
 | .build t ps=>match T t with
  | some r=>match r.td with
   | .struct fs=>match fillA (fun i=>(placesA T fs)[i]?.join) r.zero (partsA ρ ps.toList) with
    | some out=>((∀ f ∈ fs,T f.2 ≠ none) ∧ (∀ p ∈ partsA ρ ps.toList,ones p.2 = true),.agg out)
    | none=>(False,.dead)
   | _=>match arrOf T t with
    | some (_,re)=>match fillA (fun i=>some (i * re.size,re.size)) r.zero (partsA ρ ps.toList) with
     | some out=>((∀ p ∈ partsA ρ ps.toList,ones p.2 = true),.agg out)
     | none=>(False,.dead)
    | none=>(False,.dead)
  | none=>(False,.dead)
 | .makeFunc f fs cs=>match fs.toList with
  | []=>(True,.fn f (cs.toList.map ρ))
  | x :: r=>(cs = #[],.bfn f ((x :: r).map ρ))
 | .unOp op _ x=>match op,ρ x with
  | .not,.bool b=>(True,.bool (!b))
  | .neg,.int k n=>(True,.int k (k.wrap (0 - n)))
  | _,_=>(False,.dead)
 | .convert s d x=>match tdOf T s,tdOf T d,ρ x with
  | some (.int _),some (.int k),.int _ n=>(True,.int k (k.wrap n))
  | some .str,some .str,.str s=>(True,.str s)
  | _,_,_=>(False,.dead)
 | .makeInterface t x=>match tdOf T t with
  | some .iface=>(False,.dead)
  | some _=>(True,.ifc t (ρ x))
  | none=>(False,.dead)
 | .typeAssert x _ t ok=>match T t,ρ x with
  | some r,.ifc t' v=>if t' = t then (r.td ≠ .iface,if ok then .tup [v,.bool true] else v) else (ok = true ∧ r.td ≠ .iface ∧ (r.isAgg = false → r.size = 1),.tup [zeroA r,.bool false])
  | some r,.nili=>(ok = true ∧ r.td ≠ .iface ∧ (r.isAgg = false → r.size = 1),.tup [zeroA r,.bool false])
  | _,_=>(False,.dead)
 | .binOp op t x y _=>match nilQ y (ρ x) with
  | some b=>((∃ e,tdOf T t = some (.slice e)) ∧ isEq op = true,.bool (eqB op b))
  | none=>match ρ x,ρ y with
  | .int k a,.int k' b=>match op with
   | .quo=>(k = k' ∧ b ≠ 0,.int k (k.wrap (a.tdiv b)))
   | .rem=>(k = k' ∧ b ≠ 0,.int k (a.tmod b))
   | op=>match intOp op k a b with
    | some v=>(k = k',v)
    | none=>(False,.dead)
  | .str a,.str b=>match op with
   | .add=>(a.length + b.length ≤ 9223372036854775807,.str (a ++ b))
   | op=>match strOp op a b with
    | some v=>(True,v)
    | none=>(False,.dead)
  | .bool a,.bool b=>(tdOf T t = some .bool ∧ isEq op = true,.bool (if op = .eql then a == b else !(a == b)))
  | .nilp,.nilp=>(tdOf T t = some .ptr ∧ isEq op = true,.bool (eqB op true))
  | .ptr _ _ _,.nilp=>(tdOf T t = some .ptr ∧ isEq op = true,.bool (eqB op false))
  | .iptr _,.nilp=>(tdOf T t = some .ptr ∧ isEq op = true,.bool (eqB op false))
  | .nilf,.nilf=>(tdOf T t = some .func ∧ isEq op = true,.bool (eqB op true))
  | .fn _ _,.nilf=>(tdOf T t = some .func ∧ isEq op = true,.bool (eqB op false))
  | .nilm,.nilm=>((∃ k e,tdOf T t = some (.map k e)) ∧ isEq op = true,.bool (eqB op true))
  | .map _ _,.nilm=>((∃ k e,tdOf T t = some (.map k e)) ∧ isEq op = true,.bool (eqB op false))
  | .agg as,.agg bs=>match T t,klAll as,klAll bs with
   | some r,some la,some lb=>(r.isAgg = true ∧ keyFits T 100 t la = true ∧ keyFits T 100 t lb = true ∧ isEq op = true,.bool (eqB op (la == lb)))
   | _,_,_=>(False,.dead)
  | _,_=>(False,.dead)
 | .lookup t x y ok=>match mapOf T t,ρ x with
  | some (kt,_,re),.nilm=>((re.isAgg = false → re.size = 1) ∧ keyOK T kt (ρ y) = true,lookA re (ρ y) [] ok)
  | _,_=>(False,.dead)
 | .index t x ix=>match tdOf T t,ρ x,ρ ix with
  | some .str,.str s,.int _ i=>(0 ≤ i ∧ i < s.length,.int .u8 (s.getD i.toNat 0).toNat)
  | _,_,_=>(False,.dead)
 | .slice t x lo hi mx=>match mx,ρ x with
  | none,.str s=>match bnd ρ lo 0,bnd ρ hi s.length with
   | some l,some h=>(tdOf T t = some .str ∧ 0 ≤ l ∧ l ≤ h ∧ h ≤ s.length,.str ((s.take h.toNat).drop l.toNat))
   | _,_=>(False,.dead)
  | none,.sl k xs _=>match sliceOf T t,bnd ρ lo 0,bnd ρ hi xs.length with
   | some (_,re),some l,some h=>(k = re.size ∧ 0 ≤ l ∧ l ≤ h ∧ h ≤ xs.length,.sl k ((xs.take h.toNat).drop l.toNat) .any)
   | _,_,_=>(False,.dead)
  | _,_=>(False,.dead)
 | .buildSlice t n ps=>match sliceOf T t with
  | some (_,re)=>(inOrder 0 ps.toList = true ∧ n = ps.size ∧ 0 < re.size ∧ n * re.size ≤ 2 ^ 24 ∧ (∀ x ∈ ps.toList.map (fun p=>ρ p.2),x.cells.length = re.size ∧ ones x = true),.sl re.size (ps.toList.map fun p=>ρ p.2) .full)
  | none=>(False,.dead)
 | .call c=>match c.callee,c.args.toList,c.argTypes.toList with
  | .builtin .len,[x],[t]=>match ρ x with
   | .sl _ xs _=>(∃ q,sliceOf T t = some q,.int .i64 xs.length)
   | .msl _ _ _ n=>(∃ q,sliceOf T t = some q,.int .i64 n)
   | .str s=>(tdOf T t = some .str,.int .i64 s.length)
   | _=>(False,.dead)
  | .builtin .append,[x,y],[t,t']=>match sliceOf T t,mv T t x (ρ x),mv T t y (ρ y) with
   | some (_,re),.sl k xs .full,.sl k' ys _=>(t' = t ∧ 0 < re.size ∧ (xs = [] ∨ k = re.size) ∧ (ys = [] ∨ k' = re.size) ∧ xs.length + ys.length ≤ maxLen ∧ (xs.length + ys.length) * re.bytes ≤ 140737488355328,.sl re.size (xs ++ ys) .any)
   | _,_,_=>(False,.dead)
  | .builtin b,[x,y],_=>match ρ x,ρ y with
   | .int k m,.int _ n=>match mmOp b m n with
    | some v=>(True,.int k v)
    | none=>(False,.dead)
   | _,_=>(False,.dead)
  | _,_,_=>(False,.dead)
 | _=>(False,.dead)
theorem ones_spec {v:AV} (h:ones v = true):∀ c ∈ v.cells,c.one = true:=by
 simpa [ones,List.all_eq_true] using h
def PSem (P:Program) (o:Oper) (ρ:Operand → AV) (v:AV):Prop:=∀ m G,OpSem P m o ρ G v G
theorem PRun.psem {P:Program} {o:Oper} {ρ:Operand → AV} {v:AV} (h:PRun P o ρ v):PSem P o ρ v:=fun m G=>(h.run m G).sem
theorem ev_nil {P:Program} {T:TT} {o:Oper} {ρ:Operand → AV} {op:BinOp} {t yt:TypeId} {x y:Operand} {u v:AV} {b:Bool} {d:TD} (hT:TOK P T) (ho:o.op = .binOp op t x y yt) (hx:ρ x = u) (hy:ρ y = v)
  (h1:tdOf T t = some d ∧ isEq op = true) (hk:NilK d u v b):PSem P o ρ (.bool (eqB op b)):=by
 obtain ⟨r,b1,b2⟩:=tdOf_spec h1.1
 subst b2
 rw [eqB_spec b h1.2]
 exact (pr_eq_nil hT ho b1 hx hy hk (isEq_spec h1.2)).psem
theorem mv_app {P:Program} {T:TT} {o:Oper} {ρ:Operand → AV} {m:Nat} {H H':AHeap} {v:AV} (t:TypeId) (h:OpRun P m o (fun z=>mv T t z (ρ z)) H v H'):OpRun P m o ρ H v H' :=
 fun E w a hr hops=>h E w a hr (fun z hz=>VR_mv (hops z hz))
theorem evP_sound {P:Program} {T:TT} (hT:TOK P T) {o:Oper} {ρ:Operand → AV}:∀ p,evP T o.op o.type ρ = p → p.1 → PSem P o ρ p.2:=by
 intro p hp h
 unfold evP at hp
 split at hp
 ·rename_i x ho; subst hp; exact (pr_move ho).psem
 ·rename_i x ho; subst hp; exact (pr_assign ho).psem
 ·rename_i c x y ho
  split at hp
  ·rename_i hc; subst hp; exact (pr_pick (t:=true) ho hc).psem
  ·rename_i hc; subst hp; exact (pr_pick (t:=false) ho hc).psem
  ·subst hp; exact h.elim
 ·rename_i x ho
  split at hp
  ·rename_i hx; subst hp; exact (pr_nilCheck ho hx rfl).psem
  ·rename_i hx; subst hp; exact (pr_nilCheck ho hx rfl).psem
  ·rename_i hx; subst hp; exact (pr_nilCheck ho hx rfl).psem
  ·rename_i hx; subst hp; exact (pr_nilCheck ho hx rfl).psem
  ·rename_i hx; subst hp; exact (pr_nilCheck ho hx rfl).psem
  ·subst hp; exact h.elim
 ·rename_i t x f ho
  split at hp
  ·rename_i fo rf hfd
   obtain ⟨r,fs,ft,h1,h2,h3,h4⟩:=fieldOf_spec hfd
   split at hp
   ·rename_i hx; subst hp; exact (pr_fieldAddr_ptr hT ho h1 h2 h3 h4 h hx).psem
   ·rename_i hx; subst hp; exact (pr_fieldAddr_iptr hT ho h1 h2 h3 h4 h hx).psem
   ·rename_i hx; subst hp; exact (pr_fieldAddr_eptr hT ho h1 h2 h3 h4 h hx).psem
   ·subst hp; exact h.elim
  ·subst hp; exact h.elim
 ·rename_i t x ix ho
  split at hp
  ·rename_i e re hs
   obtain ⟨r,h1,h2,h3⟩:=sliceOf_spec hs
   split at hp
   ·rename_i hx hi; subst hp
    obtain ⟨a1,a2,a3⟩:=h
    exact (pr_indexAddr_sl hT ho h1 h2 h3 a1 hx hi a2 a3).psem
   ·rename_i hx hi; subst hp
    obtain ⟨a2,a3⟩:=h
    exact (pr_indexAddr_msl hT ho h1 h2 h3 hx hi a2 a3).psem
   ·subst hp; exact h.elim
  ·split at hp
   ·rename_i N re hs
    obtain ⟨r,e,h1,h2,h3⟩:=arrOf_spec hs
    split at hp
    ·rename_i hx hi; subst hp
     exact (pr_indexAddr_arr hT ho h1 h2 h3 hx hi h.1 h.2).psem
    ·rename_i hx hi; subst hp
     exact (pr_indexAddr_arri hT ho h1 h2 h3 hx hi h.1 h.2).psem
    ·subst hp; exact h.elim
   ·subst hp; exact h.elim
 ·rename_i t x f ho
  split at hp
  ·rename_i fo rf hfd
   obtain ⟨r,fs,ft,h1,h2,h3,h4⟩:=fieldOf_spec hfd
   split at hp
   ·rename_i hx; subst hp; exact (pr_field hT ho h1 h2 h3 h4 hx h).psem
   ·subst hp; exact h.elim
  ·subst hp; exact h.elim
 ·rename_i x i ho
  split at hp
  ·rename_i hx; subst hp; exact (pr_extract ho hx h).psem
  ·subst hp; exact h.elim
 ·rename_i t ps ho
  split at hp
  ·rename_i r hr
   split at hp
   ·rename_i fs hfs
    split at hp
    ·rename_i out hout; subst hp
     obtain ⟨a1,a2⟩:=h
     exact (pr_build hT ho hr hfs a1 hout (fun p hp=>ones_spec (a2 p hp))).psem
    ·subst hp; exact h.elim
   ·split at hp
    ·rename_i N re hs
     obtain ⟨r',e,h1,h2,h3⟩:=arrOf_spec hs
     split at hp
     ·rename_i out hout; subst hp
      rw [hr] at h1; cases h1
      exact (pr_build_arr hT ho hr h2 h3 hout (fun p hp=>ones_spec (h p hp))).psem
     ·subst hp; exact h.elim
    ·subst hp; exact h.elim
  ·subst hp; exact h.elim
 ·rename_i f fs cs ho
  split at hp
  ·rename_i hfs; subst hp
   have e:fs = #[]:=by
    apply Array.toList_inj.1; rw [hfs]
   subst e
   exact (pr_makeFunc ho).psem
  ·rename_i x r hfs; subst hp
   have h:cs = #[]:=h
   subst h
   simp only
   rw [← hfs]
   exact (pr_makeFuncB ho).psem
 ·rename_i op t x ho
  split at hp
  ·rename_i hx; subst hp; exact (pr_not ho hx).psem
  ·rename_i hx; subst hp; exact (pr_neg ho hx).psem
  ·subst hp; exact h.elim
 ·rename_i s d x ho
  split at hp
  ·rename_i h1 h2 hx; subst hp
   obtain ⟨rs,b1,b2⟩:=tdOf_spec h1
   obtain ⟨rd,c1,c2⟩:=tdOf_spec h2
   exact (pr_convert_int hT ho b1 b2 c1 c2 hx).psem
  ·rename_i h1 h2 hx; subst hp
   obtain ⟨rs,b1,b2⟩:=tdOf_spec h1
   obtain ⟨rd,c1,c2⟩:=tdOf_spec h2
   exact (pr_convert_str hT ho b1 b2 c1 c2 hx).psem
  ·subst hp; exact h.elim
 ·rename_i t x ho
  split at hp
  ·subst hp; exact h.elim
  ·rename_i d hd hne; subst hp
   obtain ⟨r,b1,b2⟩:=tdOf_spec hne
   exact (pr_makeIface hT ho b1 (fun e=>hd (b2 ▸ e ▸ rfl))).psem
  ·subst hp; exact h.elim
 ·rename_i x xt t ok ho
  split at hp
  ·rename_i r t' v hr hx
   split at hp
   ·rename_i e; subst hp; subst e
    cases ok with
    | true=>exact (pr_assert_yes hT ho hr h hx).psem
    | false=>exact (pr_assert_plain hT ho hr h hx).psem
   ·rename_i e; subst hp
    obtain ⟨rfl,c1,c2⟩:=h
    exact (pr_assert_no hT ho hr c1 e c2 hx).psem
  ·rename_i r hr hx; subst hp
   obtain ⟨rfl,c1,c2⟩:=h
   exact (pr_assert_nil hT ho hr c1 c2 hx).psem
  ·subst hp; exact h.elim
 ·rename_i op t x y yt ho
  split at hp
  ·rename_i b hq; subst hp
   obtain ⟨⟨e,h1⟩,h2⟩:=h
   obtain ⟨r,b1,b2⟩:=tdOf_spec h1
   simp only
   rw [eqB_spec b h2]
   exact (pr_nilQ hT ho b1 b2 hq (isEq_spec h2)).psem
  split at hp
  ·rename_i hx hy
   split at hp
   ·subst hp; obtain ⟨rfl,h⟩:=h; exact (pr_div ho hx hy rfl h).psem
   ·subst hp; obtain ⟨rfl,h⟩:=h; exact (pr_rem ho hx hy rfl h).psem
   ·split at hp
    ·rename_i v hv; subst hp
     have h:_ = _:=h
     subst h; exact (pr_bin_int ho hx hy hv).psem
    ·subst hp; exact h.elim
  ·rename_i hx hy
   split at hp
   ·subst hp; exact (pr_concat ho hx hy rfl h).psem
   ·split at hp
    ·rename_i v hv; subst hp; exact (pr_bin_str ho hx hy hv).psem
    ·subst hp; exact h.elim
  ·rename_i hx hy; subst hp
   obtain ⟨h1,h2⟩:=h
   obtain ⟨r,b1,b2⟩:=tdOf_spec h1
   exact (pr_bin_bool hT ho b1 b2 hx hy (isEq_spec h2)).psem
  ·rename_i hx hy; subst hp; exact ev_nil hT ho hx hy h .pp
  ·rename_i hx hy; subst hp; exact ev_nil hT ho hx hy h (.pq _ _ _)
  ·rename_i hx hy; subst hp; exact ev_nil hT ho hx hy h (.pi _)
  ·rename_i hx hy; subst hp; exact ev_nil hT ho hx hy h .ff
  ·rename_i hx hy; subst hp; exact ev_nil hT ho hx hy h (.fg _ _)
  ·rename_i hx hy; subst hp; obtain ⟨⟨k,e,h1⟩,h2⟩:=h; exact ev_nil hT ho hx hy ⟨h1,h2⟩ (.mm _ _)
  ·rename_i hx hy; subst hp; obtain ⟨⟨k,e,h1⟩,h2⟩:=h; exact ev_nil hT ho hx hy ⟨h1,h2⟩ (.mn _ _ _ _)
  ·rename_i hx hy
   split at hp
   ·rename_i r la lb h1 h2 h3; subst hp
    obtain ⟨c1,c2,c3,c4⟩:=h
    simp only
    rw [eqB_spec _ c4]
    exact (pr_eq_agg hT ho h1 c1 hx hy h2 h3 c2 c3 (isEq_spec c4)).psem
   ·subst hp; exact h.elim
  ·subst hp; exact h.elim
 ·rename_i t x y ok ho
  split at hp
  ·rename_i kt e re hm hx; subst hp
   exact (or_lookup_nil hT ho hm h.1 hx rfl h.2).psem
  ·subst hp; exact h.elim
 ·rename_i t x ix ho
  split at hp
  ·rename_i h1 hx hi; subst hp
   obtain ⟨r,b1,b2⟩:=tdOf_spec h1
   exact (pr_index_str hT ho b1 b2 hx hi h.1 h.2).psem
  ·subst hp; exact h.elim
 ·rename_i t x lo hi mx ho
  split at hp
  ·rename_i hx
   split at hp
   ·rename_i l h' hl hh; subst hp
    obtain ⟨h1,c1,c2,c3⟩:=h
    obtain ⟨r,b1,b2⟩:=tdOf_spec h1
    exact (pr_slice_str hT ho b1 b2 hx hl hh c1 c2 c3).psem
   ·subst hp; exact h.elim
  ·rename_i hx
   split at hp
   ·rename_i e re l h' hs hl hh; subst hp
    obtain ⟨r,b1,b2,b3⟩:=sliceOf_spec hs
    obtain ⟨c0,c1,c2,c3⟩:=h
    exact (pr_slice_sl hT ho b1 b2 b3 c0 hx hl hh c1 c2 c3).psem
   ·subst hp; exact h.elim
  ·subst hp; exact h.elim
 ·rename_i t n ps ho
  split at hp
  ·rename_i e re hs; subst hp
   obtain ⟨r,b1,b2,b3⟩:=sliceOf_spec hs
   obtain ⟨c1,c2,c3,c4,c5⟩:=h
   exact fun m G=>(or_buildSlice hT ho b1 b2 b3 c1 c2 c3 c4 (fun x hx=>⟨(c5 x hx).1,ones_spec (c5 x hx).2⟩)).sem
  ·subst hp; exact h.elim
 ·rename_i c ho
  obtain ⟨cal,args,ts⟩:=c
  simp only at hp
  split at hp
  ·rename_i ha ht
   obtain ⟨args⟩:=args
   obtain ⟨ts⟩:=ts
   simp only at ha ht
   subst ha ht
   split at hp
   ·rename_i hx; subst hp
    obtain ⟨q,hq⟩:=h
    obtain ⟨r,b1,b2,b3⟩:=sliceOf_spec hq
    exact (pr_len_sl hT ho b1 b2 hx).psem
   ·rename_i hx; subst hp
    obtain ⟨q,hq⟩:=h
    obtain ⟨r,b1,b2,b3⟩:=sliceOf_spec hq
    exact (pr_len_msl hT ho b1 b2 hx).psem
   ·rename_i hx; subst hp
    obtain ⟨r,b1,b2⟩:=tdOf_spec h
    exact (pr_len_str hT ho b1 b2 hx).psem
   ·subst hp; exact h.elim
  ·rename_i ha ht
   obtain ⟨args⟩:=args
   obtain ⟨ts⟩:=ts
   simp only at ha ht
   subst ha ht
   split at hp
   ·rename_i e re k xs k' ys ow hs hx hy; subst hp
    obtain ⟨r,b1,b2,b3⟩:=sliceOf_spec hs
    obtain ⟨c0,c1,c2,c3,c4,c5⟩:=h
    subst c0
    exact fun m G=>(mv_app (T:=T) _ (or_append hT ho b1 b2 b3 c1 hx hy c2 c3 c4 c5)).sem
   ·subst hp; exact h.elim
  ·rename_i ha _
   obtain ⟨args⟩:=args
   simp only at ha
   subst ha
   split at hp
   ·rename_i hx hy
    split at hp
    ·rename_i v hv; subst hp; exact (pr_mm ho hx hy hv).psem
    ·subst hp; exact h.elim
   ·subst hp; exact h.elim
  ·subst hp; exact h.elim
 ·subst hp; exact h.elim
end Go.Abs

/- Buffers: a slice that is appended to again and again. No program, no condition. -/
namespace Go.Abs
def Env.setBuf (E:Env) (l j n:Nat) (v:Value) (g:Nat) (c:List Value):Env where
 F:=fun b o=>if b = g then c[o]? else E.F b o
 m:=E.m
 hist:=fun l' j' n'=>if l' = l ∧ j' = j ∧ n' = n then some v else E.hist l' j' n'
 g:=fun l' j'=>if l' = l ∧ j' = j then some g else E.g l' j'
 qd:=E.qd
theorem HRel.bufTurn {m:Nat} {H:AHeap} {E:Env} {w w':World} (h:HRel m H E w) {l j n g':Nat} {v:Value} {nb:ABlk} (hl:l < m) (hm0:E.m l j = none) (hj:E.hist l j n = none) (hnb:nb.isBuf = true) (c:List Value)
  (os:w'.os = w.os) (tape:w'.tape = w.tape) (output:w'.output = w.output) (drawn:E.qd = true → w.drawn ≤ w'.drawn) (size:w.heap.size ≤ w'.heap.size) (hold:∀ b,b < w.heap.size → b ≠ g' → w'.heap[b]? = w.heap[b]?)
  (hg':E.g l j = some g' ∨ w.heap.size ≤ g') (hg'lt:g' < w'.heap.size) (hcell:∀ o u,c[o]? = some u → w'.cell? ⟨g',o,none⟩ = some u) (hF:∀ o v,E.F g' o = some v → c[o]? = some v)
  (hblk:BlkR (E.setBuf l j n v g' c) w' l j nb) :
  HRel m (H.upd l j nb) (E.setBuf l j n v g' c) w' ∧ Ext m E w (E.setBuf l j n v g' c) w':=by
 have hgm:∀ l' k' b,E.m l' k' = some b → b ≠ g':=fun l' k' b hm e'=>by
  subst e'
  rcases hg' with hg' | hg'
  ·exact h.mg _ _ _ _ _ hm hg'
  ·have:=h.lt b (.inl ⟨l',k',hm⟩); omega
 have hgg:∀ l' k' b,E.g l' k' = some b → ¬(l' = l ∧ k' = j) → b ≠ g':=fun l' k' b hm hne e'=>by
  subst e'
  rcases hg' with hg' | hg'
  ·exact hne (h.injg _ _ _ _ _ hm hg')
  ·have:=h.lt b (.inr ⟨l',k',hm⟩); omega
 have hlt:∀ l' k' b,E.m l' k' = some b → b < w.heap.size:=fun l' k' b hm=>h.lt b (.inl ⟨l',k',hm⟩)
 have hgt:∀ l' k' b,E.g l' k' = some b → b < w.heap.size:=fun l' k' b hm=>h.lt b (.inr ⟨l',k',hm⟩)
 have hle:E.le m (E.setBuf l j n v g' c):=by
  refine ⟨fun b o v hf=>?_,fun _ _ _ _ hm=>hm,fun l' k' i u _ hi=>?_,rfl⟩
  ·simp only [Env.setBuf]
   by_cases hb:b = g'
   ·subst hb; rw [if_pos rfl]; exact hF o v hf
   ·rw [if_neg hb]; exact hf
  ·simp only [Env.setBuf]
   rw [if_neg (fun hc=>by rw [hc.1,hc.2.1,hc.2.2,hj] at hi; cases hi)]; exact hi
 refine ⟨{ norm:=?_,F:=?_,blk:=?_,dom:=?_,nobuf:=?_,inj:=h.inj,injg:=?_,mg:=?_,mF:=?_,lt:=?_ },⟨hle,os,tape,output,drawn,size,fun b hb ho=>?_,fun b hb ho=>?_⟩⟩
 ·refine ⟨h.norm.m,fun l' k' hl'=>?_,fun l' k' i hl'=>?_⟩
  ·simp only [Env.setBuf]; rw [if_neg (fun hc=>by omega)]; exact h.norm.g l' k' hl'
  ·simp only [Env.setBuf]; rw [if_neg (fun hc=>by omega)]; exact h.norm.hist l' k' i hl'
 ·intro b o u hf
  simp only [Env.setBuf] at hf
  by_cases hb:b = g'
  ·subst hb
   rw [if_pos rfl] at hf
   exact hcell o u hf
  ·rw [if_neg hb] at hf
   have hblt:=h.F_lt hf
   have hc:=h.F b o u hf
   simp only [World.cell?,hold b hblt hb] at hc ⊢; exact hc
 ·intro l' k' bb hl' hH'
  by_cases hc':l' = l ∧ k' = j
  ·obtain ⟨rfl,rfl⟩:=hc'
   rw [AHeap.upd_same,Option.some.injEq] at hH'
   subst hH'; exact hblk
  ·rw [AHeap.upd_ne H _ hc'] at hH'
   refine (h.blk l' k' bb hl' hH').keep rfl (by simp only [Env.setBuf]; rw [if_neg hc']) (fun i=>by simp only [Env.setBuf]; rw [if_neg (fun hc=>hc' ⟨hc.1,hc.2.1⟩)]) (fun _ _ _ h=>h) (fun r hr=>?_) (fun g o hg hf=>?_) (fun a _ v hv=>hv.mono h.norm hle)
   ·rcases hr with hr | hr
    ·exact hold r (hlt _ _ _ hr) (hgm _ _ _ hr)
    ·exact hold r (hgt _ _ _ hr) (hgg _ _ _ hr hc')
   ·simp only [Env.setBuf]; rw [if_neg (hgg _ _ _ hg hc')]; exact hf
 ·intro l' k' hl' hH'
  by_cases hc':l' = l ∧ k' = j
  ·obtain ⟨rfl,rfl⟩:=hc'
   rw [AHeap.upd_same] at hH'; cases hH'
  ·rw [AHeap.upd_ne H _ hc'] at hH'
   obtain ⟨d1,d2,d3⟩:=h.dom l' k' hl' hH'
   exact ⟨d1,by simp only [Env.setBuf]; rw [if_neg hc']; exact d2,fun i=>by simp only [Env.setBuf]; rw [if_neg (fun hc=>hc' ⟨hc.1,hc.2.1⟩)]; exact d3 i⟩
 ·intro l' k' hg
  by_cases hc':l' = l ∧ k' = j
  ·obtain ⟨rfl,rfl⟩:=hc'
   exact ⟨nb,AHeap.upd_same H _ _ _,hnb⟩
  ·rw [AHeap.upd_ne H _ hc']
   simp only [Env.setBuf,if_neg hc'] at hg
   exact h.nobuf l' k' hg
 ·intro l1 k1 l2 k2 b h1 h2
  simp only [Env.setBuf] at h1 h2
  by_cases c1:l1 = l ∧ k1 = j <;> by_cases c2:l2 = l ∧ k2 = j
  ·exact ⟨c1.1.trans c2.1.symm,c1.2.trans c2.2.symm⟩
  ·rw [if_pos c1,Option.some.injEq] at h1
   rw [if_neg c2] at h2
   exact absurd h1.symm (hgg _ _ _ h2 c2)
  ·rw [if_neg c1] at h1
   rw [if_pos c2,Option.some.injEq] at h2
   exact absurd h2.symm (hgg _ _ _ h1 c1)
  ·rw [if_neg c1] at h1
   rw [if_neg c2] at h2
   exact h.injg _ _ _ _ _ h1 h2
 ·intro l1 k1 l2 k2 b h1 h2
  simp only [Env.setBuf] at h2
  by_cases c2:l2 = l ∧ k2 = j
  ·rw [if_pos c2,Option.some.injEq] at h2
   exact hgm _ _ _ h1 h2.symm
  ·rw [if_neg c2] at h2
   exact h.mg _ _ _ _ _ h1 h2
 ·intro l1 k1 b o h1
  simp only [Env.setBuf]
  rw [if_neg (hgm _ _ _ h1)]; exact h.mF _ _ _ _ h1
 ·intro b hb
  rcases hb with ⟨l',k',hm⟩ | ⟨l',k',hg⟩
  ·have:=hlt _ _ _ hm; omega
  ·simp only [Env.setBuf] at hg
   by_cases c2:l' = l ∧ k' = j
   ·rw [if_pos c2,Option.some.injEq] at hg; omega
   ·rw [if_neg c2] at hg
    have:=hgt _ _ _ hg; omega
 ·refine hold b hb (fun e'=>ho ?_)
  subst e'
  rcases hg' with hg' | hg'
  ·exact .inr ⟨l,j,hg'⟩
  ·omega
 ·rcases ho with ⟨l',k',hm⟩ | ⟨l',k',hg⟩
  ·exact .inl ⟨l',k',hm⟩
  ·simp only [Env.setBuf] at hg
   by_cases c2:l' = l ∧ k' = j
   ·rw [if_pos c2,Option.some.injEq] at hg
    subst hg
    rcases hg' with hg' | hg'
    ·exact .inr ⟨l,j,hg'⟩
    ·omega
   ·rw [if_neg c2] at hg; exact .inr ⟨l',k',hg⟩
def Env.setHist (E:Env) (l j:Nat) (v:Value):Env:={ E with hist:=fun l' j' n'=>if l' = l ∧ j' = j ∧ n' = 0 then some v else E.hist l' j' n' }
theorem HRel.adopt {m:Nat} {H:AHeap} {E:Env} {w:World} (h:HRel m H E w) {l j:Nat} (hl:l < m) (hfree:H l j = none) (ad:Option Addr) (e k:Nat) (mb:Bool) :
  HRel m (H.upd l j (if mb then .mbuf e k [] 0 else .buf e k 0)) (E.setHist l j (.slice ad 0 0)) w ∧ Ext m E w (E.setHist l j (.slice ad 0 0)) w:=by
 obtain ⟨d1,d2,d3⟩:=h.dom l j hl hfree
 have hle:E.le m (E.setHist l j (.slice ad 0 0)):=⟨fun _ _ _ h=>h,fun _ _ _ _ h=>h,fun l' k' i u _ hi=>by
  simp only [Env.setHist]
  rw [if_neg (fun hc=>by rw [hc.1,hc.2.1,d3] at hi; cases hi)]; exact hi,rfl⟩
 refine ⟨{ norm:=⟨h.norm.m,h.norm.g,fun l' k' i hl'=>?_⟩,F:=h.F,blk:=?_,dom:=?_,nobuf:=?_,inj:=h.inj,injg:=h.injg,mg:=h.mg,mF:=h.mF,lt:=h.lt },⟨hle,rfl,rfl,rfl,fun _=>Nat.le_refl _,Nat.le_refl _,fun _ _ _=>rfl,fun _ _ h=>h⟩⟩
 ·simp only [Env.setHist]; rw [if_neg (fun hc=>by omega)]; exact h.norm.hist l' k' i hl'
 ·intro l' k' bb hl' hH
  by_cases hc:l' = l ∧ k' = j
  ·obtain ⟨rfl,rfl⟩:=hc
   rw [AHeap.upd_same,Option.some.injEq] at hH
   subst hH
   have h0:(E.setHist l' k' (.slice ad 0 0)).hist l' k' 0 = some (.slice ad 0 0):=by simp [Env.setHist]
   have h1:∀ i,0 < i → (E.setHist l' k' (.slice ad 0 0)).hist l' k' i = none:=fun i hi=>by simp only [Env.setHist]; rw [if_neg (fun hc=>by omega)]; exact d3 i
   cases mb with
   | false=>exact ⟨⟨.slice ad 0 0,h0,h1,.inl ⟨ad,rfl,rfl,d2⟩⟩,d1⟩
   | true=>exact ⟨⟨by simp,.slice ad 0 0,h0,h1,.inl ⟨ad,rfl,rfl,d2⟩⟩,d1⟩
  ·rw [AHeap.upd_ne _ _ hc] at hH
   exact (h.blk l' k' bb hl' hH).keep rfl rfl (fun i=>by simp only [Env.setHist]; rw [if_neg (fun h=>hc ⟨h.1,h.2.1⟩)]) (fun _ _ _ h=>h) (fun _ _=>rfl) (fun _ _ _ h=>h) (fun a _ v hv=>hv.mono h.norm hle)
 ·intro l' k' hl' hH
  by_cases hc:l' = l ∧ k' = j
  ·obtain ⟨rfl,rfl⟩:=hc
   rw [AHeap.upd_same] at hH; cases hH
  ·rw [AHeap.upd_ne _ _ hc] at hH
   obtain ⟨e1,e2,e3⟩:=h.dom l' k' hl' hH
   exact ⟨e1,e2,fun i=>by simp only [Env.setHist]; rw [if_neg (fun h=>hc ⟨h.1,h.2.1⟩)]; exact e3 i⟩
 ·intro l' k' hg
  by_cases hc:l' = l ∧ k' = j
  ·obtain ⟨rfl,rfl⟩:=hc
   exact absurd d2 hg
  ·rw [AHeap.upd_ne _ _ hc]; exact h.nobuf l' k' hg
theorem upd_self {H:AHeap} {l j:Nat} {b:ABlk} (h:H l j = some b):H.upd l j b = H:=by
 funext l' j'
 simp only [AHeap.upd]
 split
 ·rename_i hc; rw [hc.1,hc.2,h]
 ·rfl
def CurR (w:World) (e sz n:Nat) (xv:Value) (cs1:List Value):Prop :=
 (n = 0 ∧ cs1 = [] ∧ ∃ a,xv = .slice a 0 0) ∨
 ∃ g cap cur,xv = .slice (some ⟨g,0,none⟩) n cap ∧ w.heap[g]? = some (.cells cur e (0,0)) ∧ n ≤ cap ∧ cap ≤ maxLen ∧ cur.size = cap * sz ∧ cur.toList.take (n * sz) = cs1
theorem run_append_any {P:Program} {T:TT} (hT:TOK P T) {w:World} {t ty e:TypeId} {r re:TRow} (h1:T t = some r) (h2:r.td = .slice e) (h3:T e = some re) {n c b2 off2 cap2:Nat} {xv:Value} {cs1 cs2:List Value}
  (hcur:CurR w e re.size n xv cs1) (hc:0 < c) (hl2:cs2.length = c * re.size) (hn2:∀ j v,cs2[j]? = some v → w.cell? ⟨b2,off2 + j,none⟩ = some v) (hone:∀ u ∈ cs2,u.oneCell' = true)
  (hml:n + c ≤ maxLen) (hby:(n + c) * re.bytes ≤ 140737488355328) :
  ∃ g' cap cur w',(Builtin.append_ #[t,t] ty #[xv,.slice (some ⟨b2,off2,none⟩) c cap2]).run P w = .ok (.slice (some ⟨g',0,none⟩) (n + c) cap) w' ∧ w'.os = w.os ∧ w'.tape = w.tape ∧ w'.output = w.output ∧ w.drawn ≤ w'.drawn ∧ w.heap.size ≤ w'.heap.size ∧
   (∀ b,b < w.heap.size → b ≠ g' → w'.heap[b]? = w.heap[b]?) ∧ ((∃ cap0,xv = .slice (some ⟨g',0,none⟩) n cap0 ∧ 0 < cap0) ∨ w.heap.size ≤ g') ∧ w'.heap[g']? = some (.cells cur e (0,0)) ∧ n + c ≤ cap ∧ cap ≤ maxLen ∧ cur.size = cap * re.size ∧
   cs1 ++ cs2 = cur.toList.take ((n + c) * re.size):=by
 obtain ⟨d,inf,z,hf⟩:=rowOK_facts (hT t r h1)
 obtain ⟨d',i',z',hf'⟩:=rowOK_facts (hT e re h3)
 have hd:=slice_fits (h2 ▸ hf.fits)
 subst hd
 have hu:P.underlying t = some (.slice e):=hf.und
 have hmx:n + c ≤ 9223372036854775807:=by unfold maxLen at hml; omega
 have hl2':cs2.length = c * i'.size:=by rw [hf'.size]; exact hl2
 have hn2':∀ j v,cs2[j]? = some v → w.cell? ((⟨b2,off2,none⟩:Addr).add j) = some v:=fun j v hj=>by rw [addr_add_lit]; exact hn2 j v hj
 rcases hcur with ⟨rfl,rfl,ad,rfl⟩ | ⟨g,cap,cur,rfl,q3,q4,q5,q6,q7⟩
 ·simp only [Nat.zero_add] at hmx hml hby ⊢
  have hge:=grownCap_ge w c 0 e
  cases ad with
  | none =>
   have hr1:=run_append_nil (P:=P) w t ty e i' z' hu hf'.info hf'.zero ⟨b2,off2,none⟩ c cap2 cs2 hl2' hn2' hc (by omega) (by rw [hf'.bytes]; omega)
   refine ⟨w.heap.size,grownCap w c 0 e,cs2.toArray ++ Builtin.zeroCells z'.cells (grownCap w c 0 e - c),w.drew.alloc (.cells (cs2.toArray ++ Builtin.zeroCells z'.cells (grownCap w c 0 e - c)) e),hr1,rfl,rfl,rfl,Nat.le_succ _,by simp,fun b hb _=>heap_alloc_old w.drew _ hb,.inr (Nat.le_refl _),heap_alloc_new w.drew _,hge,grownCap_le_maxLen w _ _ _ hml,?_,?_⟩
   ·simp only [Array.size_append,List.size_toArray,size_zeroCells,hl2,hf'.zsize,← Nat.add_mul]
    congr 1; omega
   ·simp only [List.nil_append,Array.toList_append]
    rw [← hl2]; simp
  | some ad =>
   have hb48:Builtin.nextslicecap (0 + c) 0 * i'.bytes ≤ 281474976710656:=growslice_fits (by omega) (by rw [hf'.bytes,Nat.zero_add]; exact hby)
   have hr1:=run_append_grow (P:=P) w t ty e i' z' hu hf'.info hf'.zero ad 0 0 [] (by simp) (by simp) ⟨b2,off2,none⟩ c cap2 cs2 hl2' hn2' (by omega) (by omega) hb48
   simp only [Nat.zero_add] at hr1
   refine ⟨w.heap.size,grownCap w c 0 e,#[] ++ cs2.toArray ++ Builtin.zeroCells z'.cells (grownCap w c 0 e - c),w.drew.alloc (.cells (#[] ++ cs2.toArray ++ Builtin.zeroCells z'.cells (grownCap w c 0 e - c)) e),hr1,rfl,rfl,rfl,Nat.le_succ _,by simp,fun b hb _=>heap_alloc_old w.drew _ hb,.inr (Nat.le_refl _),heap_alloc_new w.drew _,hge,grownCap_le_maxLen w _ _ _ hml,?_,?_⟩
   ·simp only [Array.size_append,List.size_toArray,size_zeroCells,hl2,hf'.zsize,List.length_nil,Nat.zero_add,← Nat.add_mul]
    congr 1; omega
   ·simp only [List.nil_append,Array.toList_append,List.toList_toArray]
    rw [← hl2]; simp
 ·have hle:n * re.size ≤ cap * re.size:=Nat.mul_le_mul_right _ q4
  have hl1:cs1.length = n * re.size:=by rw [← q7,List.length_take]; simp; omega
  have hn1:∀ j v,cs1[j]? = some v → w.cell? ((⟨g,0,none⟩:Addr).add j) = some v:=fun j v hj=>by
   rw [addr_add_lit]
   simp only [World.cell?,q3,Nat.zero_add]
   rw [← q7] at hj
   rcases Nat.lt_or_ge j (n * re.size) with h | h
   ·rw [List.getElem?_take_of_lt h] at hj; simpa using hj
   ·rw [List.getElem?_take,if_neg (by omega)] at hj; cases hj
  have hglt:g < w.heap.size:=(Array.getElem?_eq_some_iff.1 q3).1
  by_cases hroom:n + c ≤ cap
  ·have hfit:n * i'.size + cs2.length ≤ cur.size:=by rw [hl2,q6,hf'.size,← Nat.add_mul]; exact Nat.mul_le_mul_right _ hroom
   have hr1:=run_append_room (P:=P) w t ty e i' hu hf'.info g n cap cur q3 ⟨b2,off2,none⟩ c cap2 cs2 hl2' hn2' hone hroom hfit
   rw [hf'.size] at hr1 hfit
   refine ⟨g,cap,_,_,hr1,rfl,rfl,rfl,Nat.le_refl _,by simp [World.setRow],fun b _ hb=>setRow_other w g b _ hb,.inl ⟨cap,rfl,by omega⟩,setRow_heap w g cur _ e (0,0) q3,hroom,q5,?_,?_⟩
   ·simp only [List.size_toArray,List.length_append,List.length_take,List.length_drop,Array.length_toList]
    rw [← q6]; omega
   ·rw [List.toList_toArray,q7]
    rw [show (n + c) * re.size = (cs1 ++ cs2).length by rw [List.length_append,hl1,hl2,Nat.add_mul],List.take_left]
  ·have hb48:Builtin.nextslicecap (n + c) cap * i'.bytes ≤ 281474976710656:=growslice_fits (by omega) (by rw [hf'.bytes]; exact hby)
   have hge:=grownCap_ge w (n + c) cap e
   have hr1:=run_append_grow (P:=P) w t ty e i' z' hu hf'.info hf'.zero ⟨g,0,none⟩ n cap cs1 (by rw [hf'.size]; exact hl1) hn1 ⟨b2,off2,none⟩ c cap2 cs2 hl2' hn2' (by omega) (by omega) hb48
   refine ⟨w.heap.size,grownCap w (n + c) cap e,cs1.toArray ++ cs2.toArray ++ Builtin.zeroCells z'.cells (grownCap w (n + c) cap e - (n + c)),w.drew.alloc (.cells (cs1.toArray ++ cs2.toArray ++ Builtin.zeroCells z'.cells (grownCap w (n + c) cap e - (n + c))) e),hr1,rfl,rfl,rfl,Nat.le_succ _,by simp,fun b hb _=>heap_alloc_old w.drew _ hb,.inr (Nat.le_refl _),heap_alloc_new w.drew _,hge,grownCap_le_maxLen w _ _ _ hml,?_,?_⟩
   ·simp only [Array.size_append,List.size_toArray,size_zeroCells,hl1,hl2,hf'.zsize,← Nat.add_mul]
    congr 1; omega
   ·simp only [Array.toList_append,List.toList_toArray]
    rw [show (n + c) * re.size = (cs1 ++ cs2).length by rw [List.length_append,hl1,hl2,Nat.add_mul],List.take_left]
theorem run_append_none {P:Program} {T:TT} (hT:TOK P T) {E:Env} {w:World} {t ty e:TypeId} {r re:TRow} (h1:T t = some r) (h2:r.td = .slice e) (h3:T e = some re) {k':Nat} {ow:Own} {xv yv:Value} {n c:Nat} {ad:Option Addr} (hxv:xv = .slice ad n c) (hnc:n ≤ c) (hy:VR E (.sl k' [] ow) yv) :
  (Builtin.append_ #[t,t] ty #[xv,yv]).run P w = .ok xv w:=by
 obtain ⟨d,inf,z,hf⟩:=rowOK_facts (hT t r h1)
 obtain ⟨d',i',z',hf'⟩:=rowOK_facts (hT e re h3)
 have hd:=slice_fits (h2 ▸ hf.fits)
 subst hd
 subst hxv
 have hu:P.underlying t = some (.slice e):=hf.und
 rcases hy.sl_elim with ⟨⟨a2,e2,_⟩,_,_⟩ | ⟨b2,off2,cap2,cs2,e2,_,_,_,hc2,_,_⟩ <;> rw [e2]
 ·cases ad <;> cases a2 <;> simp [Builtin.append_,run_underlying hu,sizeOf,typeInfo,hf'.info,Builtin.lenOf,Builtin.firstCells,loadCells,loadCellsFrom,storeCells,hnc]
 ·cases ad <;> simp [Builtin.append_,run_underlying hu,sizeOf,typeInfo,hf'.info,Builtin.lenOf,Builtin.firstCells,loadCells,loadCellsFrom,storeCells,hnc]
section ops
variable {P:Program} {T:TT} {o:Oper} {ρ:Operand → AV}
theorem cells_of_sl {m:Nat} {H:AHeap} {E:Env} {w:World} (hr:HRel m H E w) {k:Nat} {ys:List AV} {ow:Own} {yv:Value} (hy:VR E (.sl k ys ow) yv) (hne:ys ≠ []) (hone:∀ y ∈ ys,∀ c ∈ y.cells,c.one = true) :
  ∃ b off cap cs,yv = .slice (some ⟨b,off,none⟩) ys.length cap ∧ (∀ y ∈ ys,y.cells.length = k) ∧ VRs E (flat ys) cs ∧ cs.length = ys.length * k ∧ (∀ j v,cs[j]? = some v → w.cell? ⟨b,off + j,none⟩ = some v) ∧ (∀ u ∈ cs,u.oneCell' = true):=by
 rcases hy.sl_elim with ⟨_,e2,_⟩ | ⟨b2,off2,cap2,cs2,e2,hky,hvy,hFy,_,_,_⟩
 ·exact absurd e2 hne
 refine ⟨b2,off2,cap2,cs2,e2,hky,hvy,by rw [hvy.1,flat_length hky],fun j v hj=>hr.F _ _ _ (hFy j v hj),fun u hu=>?_⟩
 obtain ⟨i,hi,rfl⟩:=List.getElem_of_mem hu
 have hi':i < (flat ys).length:=by rw [← hvy.1]; exact hi
 refine (hvy.2 i hi' hi).one ?_
 have hmem:(flat ys)[i] ∈ flat ys:=List.getElem_mem hi'
 simp only [flat,List.mem_flatMap] at hmem
 obtain ⟨y',hy',hc'⟩:=hmem
 exact hone y' hy' _ hc'
theorem append_exec {a:Act} {t t':TypeId} {x y:Operand} {w w':World} {v:Value} (ho:o.op = .call { callee:=.builtin .append,args:=#[x,y],argTypes:=#[t,t'] })
  (h:(Builtin.append_ #[t,t'] o.type #[a.eval x,a.eval y]).run P w = .ok v w'):(execOp a.eval o).run P w = .ok (.value v) w':=by
 have he:(execOp a.eval o).run P w = ((Builtin.append_ #[t,t'] o.type #[a.eval x,a.eval y]).run P w).andThen fun v w''=>.ok (.value v) w'':=by
  simp [execOp,ho,resolve,invoke,builtin]
 rw [he,h]; rfl
theorem append_bufC {P:Program} {m:Nat} {H:AHeap} {E:Env} {w:World} {S:Sem Value} {xv:Value} {e:TypeId} {sz k l j:Nat} {xs ys:List AV} {cs2:List Value}
  (hr:HRel m H E w) (hx:VR E (.sl k xs (.buf l j)) xv) (hl:l < m) (hH:H l j = some (.buf e sz xs.length)) (hk:k = sz) (hky:∀ y ∈ ys,y.cells.length = sz) (hvy:VRs E (flat ys) cs2) (hylen:0 < ys.length) (hml:xs.length + ys.length ≤ maxLen)
  (hrunA:∀ cs1,CurR w e sz xs.length xv cs1 → ∃ g' cap cur w',S.run P w = .ok (.slice (some ⟨g',0,none⟩) (xs.length + ys.length) cap) w' ∧ w'.os = w.os ∧ w'.tape = w.tape ∧ w'.output = w.output ∧ w.drawn ≤ w'.drawn ∧ w.heap.size ≤ w'.heap.size ∧
   (∀ b,b < w.heap.size → b ≠ g' → w'.heap[b]? = w.heap[b]?) ∧ ((∃ cap0,xv = .slice (some ⟨g',0,none⟩) xs.length cap0 ∧ 0 < cap0) ∨ w.heap.size ≤ g') ∧ w'.heap[g']? = some (.cells cur e (0,0)) ∧ xs.length + ys.length ≤ cap ∧ cap ≤ maxLen ∧ cur.size = cap * sz ∧
   cs1 ++ cs2 = cur.toList.take ((xs.length + ys.length) * sz)) :
  ∃ cv E' w',S.run P w = .ok cv w' ∧ VR E' (.sl k (xs ++ ys) (.buf l j)) cv ∧ HRel m (H.upd l j (.buf e sz (xs.length + ys.length))) E' w' ∧ Ext m E w E' w':=by
 subst hk
 have hl2:cs2.length = ys.length * k:=by rw [hvy.1,flat_length hky]
 obtain ⟨⟨v0,hv0,hj0,hr0⟩,hm0⟩:=hr.buf l j e k xs.length hl hH
 have hxs:=hx.sl_elim
 have hxv:xv = v0:=by
  rcases hxs with ⟨⟨a1,e1,_⟩,ex,how⟩ | ⟨_,_,_,_,_,_,_,_,_,_,how⟩
  ·subst ex; have:E.hist l j 0 = some _:=how
   simp only [List.length_nil] at hv0
   rw [hv0] at this; rw [e1] at *; exact (Option.some.inj this).symm
  ·have:E.hist l j xs.length = some xv:=how
   rw [hv0] at this; exact (Option.some.inj this).symm
 subst hxv
 have hcur:∃ cs1,CurR w e k xs.length xv cs1 ∧ VRs E (flat xs) cs1 ∧ (∀ x ∈ xs,x.cells.length = k):=by
  rcases hr0 with ⟨a0,q1,q2,q3⟩ | ⟨g,cap,cur,q1,q2,q3,q4,q5,q6,q7⟩
  ·have ex:xs = []:=List.eq_nil_of_length_eq_zero q2
   subst ex
   exact ⟨[],.inl ⟨rfl,rfl,a0,q1⟩,VRs.nil E,by simp⟩
  ·rcases hxs with ⟨⟨a1,e1,ea1⟩,_,_⟩ | ⟨b1,off1,cap1,cs1,e1,hkx,hvx,hFx,hc1,hm1,how⟩
   ·obtain rfl:=ea1 (by simp); rw [e1] at q1; cases q1
   ·rw [e1] at q1
    simp only [Value.slice.injEq,Option.some.injEq,Addr.mk.injEq,true_and,and_true] at q1
    obtain ⟨⟨rfl,rfl⟩,rfl⟩:=q1
    refine ⟨cs1,.inr ⟨b1,cap1,cur,e1,q3,q4,q5,q6,?_⟩,hvx,hkx⟩
    have hl1:cs1.length = xs.length * k:=by rw [hvx.1,flat_length hkx]
    apply List.ext_getElem?
    intro i
    rcases Nat.lt_or_ge i (xs.length * k) with hi | hi
    ·rw [List.getElem?_take_of_lt hi]
     have hi1:i < cs1.length:=by omega
     have:=hr.F _ _ _ (hFx i _ (List.getElem?_eq_getElem hi1))
     simp only [World.cell?,q3,Nat.zero_add] at this
     rw [List.getElem?_eq_getElem hi1,← this]
     simp
    ·rw [List.getElem?_take,if_neg (by omega),List.getElem?_eq_none (by omega)]
 obtain ⟨cs1,hcur,hvx,hkx⟩:=hcur
 obtain ⟨g',cap,cur,w',hrun,os,tp,out,hdr,size,hold,hg',hnew,hcap,hcml,hcs,hcc⟩:=hrunA cs1 hcur
 have hreuse:w.heap.size ≤ g' ∨ (E.g l j = some g' ∧ (∀ o,xs.length * k ≤ o → E.F g' o = none) ∧ ∃ c0,w.heap[g']? = some (.cells c0 e (0,0)) ∧ c0.toList.take (xs.length * k) = cs1):=by
  rcases hg' with ⟨cap0,hx0,hpos⟩ | hg'
  ·refine .inr ?_
   rcases hr0 with ⟨a0,q1,q2,q3⟩ | ⟨g,cap,cur,q1,q2,q3,q4,q5,q6,q7⟩
   ·rw [hx0] at q1
    simp only [Value.slice.injEq] at q1
    omega
   ·rcases hcur with ⟨_,_,a0,e0⟩ | ⟨g0,cap0',cur0,e0,p3,p4,p5,p6,p7⟩
    ·rw [hx0] at e0; simp only [Value.slice.injEq] at e0; omega
    ·rw [hx0] at q1 e0
     simp only [Value.slice.injEq,Option.some.injEq,Addr.mk.injEq,true_and,and_true] at q1 e0
     obtain ⟨rfl,rfl⟩:=q1
     obtain ⟨rfl,rfl⟩:=e0
     exact ⟨q2,q7,cur0,p3,p7⟩
  ·exact .inl hg'
 have hfree:E.hist l j (xs.length + ys.length) = none:=hj0 _ (by omega)
 have hlen:(xs ++ ys).length = xs.length + ys.length:=List.length_append
 have hcF:∀ o u,(cs1 ++ cs2)[o]? = some u → w'.cell? ⟨g',o,none⟩ = some u:=fun o u hu=>by
  rw [hcc] at hu
  simp only [World.cell?,hnew]
  rcases Nat.lt_or_ge o ((xs.length + ys.length) * k) with h | h
  ·rw [List.getElem?_take_of_lt h] at hu; simpa using hu
  ·rw [List.getElem?_take,if_neg (by omega)] at hu; cases hu
 have hclen:(cs1 ++ cs2).length = (xs.length + ys.length) * k:=by
  rw [List.length_append,hvx.1,flat_length hkx,hl2,Nat.add_mul]
 obtain ⟨hh,hxx⟩:=hr.bufTurn (n:=xs.length + ys.length) (v:=.slice (some ⟨g',0,none⟩) (xs.length + ys.length) cap) (nb:=.buf e k (xs.length + ys.length)) (g':=g') hl hm0 hfree rfl (cs1 ++ cs2) os tp out (fun _=>hdr) size hold
  (hreuse.elim .inr (fun h=>.inl h.1)) (Array.getElem?_eq_some_iff.1 hnew).1 hcF (fun o u hu=>by
   rcases hreuse with hn | ⟨_,q7,c0,p3,p7⟩
   ·have:=hr.F_lt hu; omega
   ·have hlt:o < xs.length * k:=by
     rcases Nat.lt_or_ge o (xs.length * k) with h | h
     ·exact h
     ·rw [q7 o h] at hu; cases hu
    have hc:=hr.F _ _ _ hu
    simp only [World.cell?,p3] at hc
    rw [List.getElem?_append_left (by rw [hvx.1,flat_length hkx]; exact hlt),← p7,List.getElem?_take_of_lt hlt]
    simpa using hc)
  ⟨⟨_,by simp [Env.setBuf],fun i hi=>by simp only [Env.setBuf]; rw [if_neg (fun h=>by omega)]; exact hj0 i (by omega),.inr ⟨g',cap,cur,rfl,by simp [Env.setBuf],hnew,hcap,hcml,hcs,fun o ho=>by
   simp only [Env.setBuf,if_true]
   exact List.getElem?_eq_none (by omega)⟩⟩,hm0⟩
 refine ⟨_,_,w',hrun,?_,hh,hxx⟩
 have hkall:∀ x ∈ xs ++ ys,x.cells.length = k:=fun x hx=>by
  rcases List.mem_append.1 hx with h | h
  ·exact hkx x h
  ·exact hky x h
 have hvv:VRs E (flat (xs ++ ys)) (cs1 ++ cs2):=by rw [flat_append]; exact hvx.append hvy
 have:=VR.sl_intro (E:=E.setBuf l j (xs.length + ys.length) (.slice (some ⟨g',0,none⟩) (xs.length + ys.length) cap) g' (cs1 ++ cs2)) (k:=k) (xs:=xs ++ ys) (o:=.buf l j) (b:=g') (off:=0) (cap:=cap) (cs:=cs1 ++ cs2) hkall
  (hvv.mono hr.norm hxx.le) (fun i u hi=>by simp only [Env.setBuf,if_true,Nat.zero_add]; exact hi) (by rw [hlen]; exact hcap) (by rw [hlen]; exact hml) (by rw [hlen]; simp [OwnR,Env.setBuf])
 rwa [hlen] at this
theorem append_buf {m:Nat} {H:AHeap} {E:Env} {w:World} {xv yv:Value} {t ty e:TypeId} {r re:TRow} {k k' l j:Nat} {xs ys:List AV} {ow:Own} (hT:TOK P T)
  (h1:T t = some r) (h2:r.td = .slice e) (h3:T e = some re) (hsz:0 < re.size) (hr:HRel m H E w) (hx:VR E (.sl k xs (.buf l j)) xv) (hy:VR E (.sl k' ys ow) yv) (hl:l < m) (hH:H l j = some (.buf e re.size xs.length)) (hk:k = re.size) (hk':ys = [] ∨ k' = re.size)
  (hone:∀ y ∈ ys,∀ c ∈ y.cells,c.one = true) (hml:xs.length + ys.length ≤ maxLen) (hby:(xs.length + ys.length) * re.bytes ≤ 140737488355328) :
  ∃ cv E' w',(Builtin.append_ #[t,t] ty #[xv,yv]).run P w = .ok cv w' ∧ VR E' (.sl k (xs ++ ys) (.buf l j)) cv ∧ HRel m (H.upd l j (.buf e re.size (xs.length + ys.length))) E' w' ∧ Ext m E w E' w':=by
 subst hk
 obtain ⟨⟨v0,hv0,hj0,hr0⟩,hm0⟩:=hr.buf l j e re.size xs.length hl hH
 have hxs:=hx.sl_elim
 have hxv:xv = v0:=by
  rcases hxs with ⟨⟨a1,e1,_⟩,ex,how⟩ | ⟨_,_,_,_,_,_,_,_,_,_,how⟩
  ·subst ex; have:E.hist l j 0 = some _:=how
   simp only [List.length_nil] at hv0
   rw [hv0] at this; rw [e1] at *; exact (Option.some.inj this).symm
  ·have:E.hist l j xs.length = some xv:=how
   rw [hv0] at this; exact (Option.some.inj this).symm
 subst hxv
 by_cases hy0:ys = []
 ·subst hy0
  refine ⟨xv,E,w,?_,by rw [List.append_nil]; exact hx,by rw [List.length_nil,Nat.add_zero,upd_self hH]; exact hr,.refl m E w⟩
  rcases hxs with ⟨⟨a1,e1,_⟩,_,_⟩ | ⟨b,off,cap,cs,e1,_,_,_,hc,_,_⟩
  ·exact run_append_none hT h1 h2 h3 e1 (Nat.le_refl _) hy
  ·exact run_append_none hT h1 h2 h3 e1 hc hy
 ·have hk':k' = re.size:=hk'.resolve_left hy0
  subst hk'
  obtain ⟨b2,off2,cap2,cs2,e2,hky,hvy,hl2,hn2,hone2⟩:=cells_of_sl hr hy hy0 hone
  have hylen:0 < ys.length:=List.length_pos_iff.2 hy0
  subst e2
  exact append_bufC hr hx hl hH rfl hky hvy hylen hml fun cs1 hcur=>run_append_any hT (ty:=ty) h1 h2 h3 hcur hylen hl2 hn2 hone2 hml hby
theorem append_mbuf {m:Nat} {H:AHeap} {E:Env} {w:World} {xv yv:Value} {t ty e:TypeId} {r re:TRow} {sz k' l j n:Nat} {cs:List AV} {ys:List AV} {ow:Own} (hT:TOK P T)
  (h1:T t = some r) (h2:r.td = .slice e) (h3:T e = some re) (hsz:0 < re.size) (hr:HRel m H E w) (hx:VR E (.msl sz l j n) xv) (hy:VR E (.sl k' ys ow) yv) (hl:l < m) (hH:H l j = some (.mbuf e re.size cs n)) (hk':ys = [] ∨ k' = re.size)
  (hone:∀ y ∈ ys,∀ c ∈ y.cells,c.one = true) (hml:n + ys.length ≤ maxLen) (hby:(n + ys.length) * re.bytes ≤ 140737488355328) :
  ∃ cv E' w',(Builtin.append_ #[t,t] ty #[xv,yv]).run P w = .ok cv w' ∧ VR E' (.msl sz l j (n + ys.length)) cv ∧ HRel m (H.upd l j (.mbuf e re.size (cs ++ flat ys) (n + ys.length))) E' w' ∧ Ext m E w E' w':=by
 obtain ⟨⟨h0,v0,hv0,hj0,hr0⟩,hm0⟩:=hr.mbuf l j e re.size cs n hl hH
 have hxv:xv = v0 ∧ ∃ ad c,xv = .slice ad n c:=by
  cases hx with
  | mnil _ _ _ a hh _=>rw [hv0] at hh; cases hh; exact ⟨rfl,_,_,rfl⟩
  | msl _ _ _ _ g cap hh=>rw [hv0] at hh; cases hh; exact ⟨rfl,_,_,rfl⟩
 obtain ⟨rfl,ad,c0,hxs⟩:=hxv
 by_cases hy0:ys = []
 ·subst hy0
  refine ⟨xv,E,w,run_append_none hT h1 h2 h3 hxs ?_ hy,by simpa using hx,by simpa [flat,upd_self hH] using hr,.refl m E w⟩
  rcases hr0 with ⟨a0,q1,q2,q3⟩ | ⟨g,cap,cur,q1,q2,q3,q4,_⟩
  ·omega
  ·rw [hxs] at q1; cases q1; exact q4
 ·have hk':k' = re.size:=hk'.resolve_left hy0
  subst hk'
  obtain ⟨b2,off2,cap2,cs2,e2,hky,hvy,hl2,hn2,hone2⟩:=cells_of_sl hr hy hy0 hone
  have hylen:0 < ys.length:=List.length_pos_iff.2 hy0
  have hcur:∃ cs1,CurR w e re.size n xv cs1 ∧ VRs E cs cs1:=by
   rcases hr0 with ⟨a0,q1,q2,q3⟩ | ⟨g,cap,cur,q1,q2,q3,q4,q5,q6,q7,q8⟩
   ·have:cs = []:=List.eq_nil_of_length_eq_zero (by rw [h0,q2]; simp)
    subst this
    exact ⟨[],.inl ⟨q2,rfl,a0,q1⟩,VRs.nil E⟩
   ·exact ⟨_,.inr ⟨g,cap,cur,q1,q3,q4,q5,q6,rfl⟩,q8⟩
  obtain ⟨cs1,hcur,hvx⟩:=hcur
  subst e2
  obtain ⟨g',cap,cur,w',hrun,os,tp,out,hdr,size,hold,hg',hnew,hcap,hcml,hcs,hcc⟩:=run_append_any hT (ty:=ty) h1 h2 h3 hcur hylen hl2 hn2 hone2 hml hby
  have hreuse:w.heap.size ≤ g' ∨ (E.g l j = some g' ∧ ∀ o,E.F g' o = none):=by
   rcases hg' with ⟨cap0,hx0,hpos⟩ | hg'
   ·refine .inr ?_
    rcases hr0 with ⟨a0,q1,q2,q3⟩ | ⟨g,cap,cur,q1,q2,q3,q4,q5,q6,q7,q8⟩
    ·rw [hx0] at q1
     simp only [Value.slice.injEq] at q1
     omega
    ·rw [hx0] at q1
     simp only [Value.slice.injEq,Option.some.injEq,Addr.mk.injEq,true_and,and_true] at q1
     obtain ⟨rfl,rfl⟩:=q1
     exact ⟨q2,q7⟩
   ·exact .inl hg'
  have hF0:∀ o,E.F g' o = none:=by
   rcases hreuse with hn | ⟨_,q7⟩
   ·intro o
    cases hf:E.F g' o with
    | none=>rfl
    | some u=>have:=hr.F_lt hf; omega
   ·exact q7
  have hfree:E.hist l j (n + ys.length) = none:=hj0 _ (by omega)
  have hle:E.le m (E.setBuf l j (n + ys.length) (.slice (some ⟨g',0,none⟩) (n + ys.length) cap) g' []):=by
   refine ⟨fun b o v hf=>?_,fun _ _ _ _ hm=>hm,fun l' k' i u _ hi=>?_,rfl⟩
   ·simp only [Env.setBuf]
    by_cases hb:b = g'
    ·subst hb; rw [hF0 o] at hf; cases hf
    ·rw [if_neg hb]; exact hf
   ·simp only [Env.setBuf]
    rw [if_neg (fun hc=>by rw [hc.1,hc.2.1,hc.2.2,hfree] at hi; cases hi)]; exact hi
  have hflat:(flat ys).length = ys.length * re.size:=flat_length hky
  obtain ⟨hh,hxx⟩:=hr.bufTurn (n:=n + ys.length) (v:=.slice (some ⟨g',0,none⟩) (n + ys.length) cap) (nb:=.mbuf e re.size (cs ++ flat ys) (n + ys.length)) (g':=g') hl hm0 hfree rfl [] os tp out (fun _=>hdr) size hold
   (hreuse.elim .inr (fun h=>.inl h.1)) (Array.getElem?_eq_some_iff.1 hnew).1 (fun o u hu=>by simp at hu) (fun o u hu=>by rw [hF0 o] at hu; cases hu)
   ⟨⟨by rw [List.length_append,h0,hflat,Nat.add_mul],_,by simp [Env.setBuf],fun i hi=>by simp only [Env.setBuf]; rw [if_neg (fun h=>by omega)]; exact hj0 i (by omega),.inr ⟨g',cap,cur,rfl,by simp [Env.setBuf],hnew,hcap,hcml,hcs,fun o=>by simp [Env.setBuf],by
    rw [← hcc]; exact (hvx.append hvy).mono hr.norm hle⟩⟩,hm0⟩
  exact ⟨_,_,w',hrun,.msl sz l j _ g' cap (by simp [Env.setBuf]),hh,hxx⟩
theorem or_append_buf {m:Nat} {H:AHeap} {t:TypeId} {x y:Operand} {r re:TRow} {e:TypeId} {k k' l j:Nat} {xs ys:List AV} {ow:Own} (hT:TOK P T)
  (ho:o.op = .call { callee:=.builtin .append,args:=#[x,y],argTypes:=#[t,t] }) (h1:T t = some r) (h2:r.td = .slice e) (h3:T e = some re) (hsz:0 < re.size)
  (hx:ρ x = .sl k xs (.buf l j)) (hy:ρ y = .sl k' ys ow) (hl:l < m) (hH:H l j = some (.buf e re.size xs.length)) (hk:k = re.size) (hk':ys = [] ∨ k' = re.size) (hone:∀ y ∈ ys,∀ c ∈ y.cells,c.one = true)
  (hml:xs.length + ys.length ≤ maxLen) (hby:(xs.length + ys.length) * re.bytes ≤ 140737488355328) :
  OpRun P m o ρ H (.sl k (xs ++ ys) (.buf l j)) (H.upd l j (.buf e re.size (xs.length + ys.length))):=fun E w a hr hops=>by
 have hxv:=hops x (by simp [ho,Op.operands,Call.operands])
 have hyv:=hops y (by simp [ho,Op.operands,Call.operands])
 rw [hx] at hxv
 rw [hy] at hyv
 obtain ⟨cv,E',w',a1,a2,a3,a4⟩:=append_buf hT (ty:=o.type) h1 h2 h3 hsz hr hxv hyv hl hH hk hk' hone hml hby
 exact ⟨cv,E',w',.inl (append_exec ho a1),a2,a3,a4⟩
theorem or_append_mbuf {m:Nat} {H:AHeap} {t:TypeId} {x y:Operand} {r re:TRow} {e:TypeId} {sz k' l j n:Nat} {cs ys:List AV} {ow:Own} (hT:TOK P T)
  (ho:o.op = .call { callee:=.builtin .append,args:=#[x,y],argTypes:=#[t,t] }) (h1:T t = some r) (h2:r.td = .slice e) (h3:T e = some re) (hsz:0 < re.size)
  (hx:ρ x = .msl sz l j n) (hy:ρ y = .sl k' ys ow) (hl:l < m) (hH:H l j = some (.mbuf e re.size cs n)) (hk':ys = [] ∨ k' = re.size) (hone:∀ y ∈ ys,∀ c ∈ y.cells,c.one = true)
  (hml:n + ys.length ≤ maxLen) (hby:(n + ys.length) * re.bytes ≤ 140737488355328) :
  OpRun P m o ρ H (.msl sz l j (n + ys.length)) (H.upd l j (.mbuf e re.size (cs ++ flat ys) (n + ys.length))):=fun E w a hr hops=>by
 have hxv:=hops x (by simp [ho,Op.operands,Call.operands])
 have hyv:=hops y (by simp [ho,Op.operands,Call.operands])
 rw [hx] at hxv
 rw [hy] at hyv
 obtain ⟨cv,E',w',a1,a2,a3,a4⟩:=append_mbuf hT (ty:=o.type) h1 h2 h3 hsz hr hxv hyv hl hH hk' hone hml hby
 exact ⟨cv,E',w',.inl (append_exec ho a1),a2,a3,a4⟩
theorem or_append_place {m:Nat} {H:AHeap} {t:TypeId} {x y:Operand} {r re:TRow} {e:TypeId} {k k' l j:Nat} {ys:List AV} {ow:Own} (hT:TOK P T)
  (ho:o.op = .call { callee:=.builtin .append,args:=#[x,y],argTypes:=#[t,t] }) (h1:T t = some r) (h2:r.td = .slice e) (h3:T e = some re) (hsz:0 < re.size)
  (hx:ρ x = .sl k [] .full) (hy:ρ y = .sl k' ys ow) (hl:l < m) (hH:H l j = none) (hk':ys = [] ∨ k' = re.size) (hone:∀ y ∈ ys,∀ c ∈ y.cells,c.one = true)
  (hml:ys.length ≤ maxLen) (hby:ys.length * re.bytes ≤ 140737488355328) :
  OpRun P m o ρ H (.sl re.size ys (.buf l j)) (H.upd l j (.buf e re.size ys.length)) ∧ OpRun P m o ρ H (.msl re.size l j ys.length) (H.upd l j (.mbuf e re.size (flat ys) ys.length)):=by
 have upd2:∀ a b,(H.upd l j a).upd l j b = H.upd l j b:=fun a b=>by
  funext l' j'; simp only [AHeap.upd]; split <;> rfl
 constructor
 ·intro E w a hr hops
  have hxv:=hops x (by simp [ho,Op.operands,Call.operands])
  have hyv:=hops y (by simp [ho,Op.operands,Call.operands])
  rw [hx] at hxv
  rw [hy] at hyv
  have hval:∃ ad,a.eval x = .slice ad 0 0:=by
   generalize a.eval x = q at hxv
   cases hxv with
   | slnil _ _ a ho ha=>exact ⟨a,rfl⟩
   | sl _ _ _ b off cap c hk hc hv hcap hm ho =>
    have:cap = 0:=ho
    subst this; exact ⟨_,rfl⟩
  obtain ⟨ad,hval⟩:=hval
  obtain ⟨hh,hxx⟩:=hr.adopt hl hH ad e re.size false
  simp only [Bool.false_eq_true,if_false] at hh
  have hx2:VR (E.setHist l j (.slice ad 0 0)) (.sl re.size [] (.buf l j)) (a.eval x):=by
   rw [hval] at hxv ⊢
   cases hxv with
   | slnil _ _ _ ho ha=>exact .slnil _ _ _ (by simp [OwnR,Env.setHist]) (fun _=>ha (by simp))
   | sl _ _ _ b off cap c hk hc hv hcap hm ho=>exact .sl _ [] _ b off 0 c (fun i h=>absurd h (Nat.not_lt_zero _)) (fun i j h=>absurd h (Nat.not_lt_zero _)) (fun i h=>absurd h (Nat.not_lt_zero _)) (Nat.le_refl _) hm (by simp [OwnR,Env.setHist])
  obtain ⟨cv,E',w',a1,a2,a3,a4⟩:=append_buf hT (ty:=o.type) (xs:=[]) h1 h2 h3 hsz hh hx2 (hyv.mono hr.norm hxx.le) hl (AHeap.upd_same _ _ _ _) rfl hk' hone (by simpa using hml) (by simpa using hby)
  rw [upd2] at a3
  simp only [List.length_nil,Nat.zero_add,List.nil_append] at a2 a3
  exact ⟨cv,E',w',.inl (append_exec ho a1),a2,a3,hxx.trans a4⟩
 ·intro E w a hr hops
  have hxv:=hops x (by simp [ho,Op.operands,Call.operands])
  have hyv:=hops y (by simp [ho,Op.operands,Call.operands])
  rw [hx] at hxv
  rw [hy] at hyv
  have hval:∃ ad,a.eval x = .slice ad 0 0 ∧ ∀ x,ad = some x → x.spot = none:=by
   generalize a.eval x = q at hxv
   cases hxv with
   | slnil _ _ a ho ha=>obtain rfl:=ha (by simp); exact ⟨none,rfl,fun _ e=>by cases e⟩
   | sl _ _ _ b off cap c hk hc hv hcap hm ho =>
    have:cap = 0:=ho
    subst this; exact ⟨_,rfl,fun _ e=>by cases e; rfl⟩
  obtain ⟨ad,hval,hsp⟩:=hval
  obtain ⟨hh,hxx⟩:=hr.adopt hl hH ad e re.size true
  simp only [if_true] at hh
  have hx2:VR (E.setHist l j (.slice ad 0 0)) (.msl re.size l j 0) (a.eval x):=by
   rw [hval]; exact .mnil _ _ _ _ (by simp [Env.setHist]) hsp
  obtain ⟨cv,E',w',a1,a2,a3,a4⟩:=append_mbuf hT (ty:=o.type) (n:=0) (cs:=[]) h1 h2 h3 hsz hh hx2 (hyv.mono hr.norm hxx.le) hl (AHeap.upd_same _ _ _ _) hk' hone (by simpa using hml) (by simpa using hby)
  rw [upd2] at a3
  simp only [Nat.zero_add,List.nil_append] at a2 a3
  exact ⟨cv,E',w',.inl (append_exec ho a1),a2,a3,hxx.trans a4⟩
end ops
theorem or_buildSlice_lay {P:Program} {T:TT} {o:Oper} {ρ:Operand → AV} {m:Nat} {H:AHeap} {t:TypeId} {n l j:Nat} {ps:Array (Nat × Operand)} {r re:TRow} {e:TypeId} (hT:TOK P T) (ho:o.op = .buildSlice t n ps) (h1:T t = some r) (h2:r.td = .slice e) (h3:T e = some re)
  (hin:inOrder 0 ps.toList = true) (hn:n = ps.size) (hn0:0 < n) (hsz:0 < re.size) (hsmall:n * re.size ≤ 2 ^ 24) (hk:∀ x ∈ ps.toList.map (fun p=>ρ p.2),x.cells.length = re.size ∧ ∀ c ∈ x.cells,c.one = true) (hl:l < m) (hH:H l j = none) :
  OpRun P m o ρ H (.msl re.size l j n) (H.upd l j (.mbuf e re.size (flat (ps.toList.map fun p=>ρ p.2)) n)):=fun E w a hr hops=>by
 obtain ⟨d,inf,z,hf⟩:=rowOK_facts (hT t r h1)
 obtain ⟨d',i',z',hf'⟩:=rowOK_facts (hT e re h3)
 have hd:=slice_fits (h2 ▸ hf.fits)
 subst hd
 have he:execOp a.eval o = (do let v ← Instr.buildSlice t n (ps.map fun (i,x)=>(i,a.eval x)); pure (Next.value v)):=by simp only [execOp,ho]
 have hm:(ps.map fun (i,x)=>(i,a.eval x)).toList = ps.toList.map fun p=>(p.1,a.eval p.2):=by simp
 have hparts:∀ i (h:i < ps.toList.length) (h':i < (ps.toList.map fun p=>(p.1,a.eval p.2)).length) (h'':i < (ps.toList.map fun p=>ρ p.2).length),
   (ps.toList.map fun p=>(p.1,a.eval p.2))[i].1 = ps.toList[i].1 ∧ VR E (ps.toList.map fun p=>ρ p.2)[i] (ps.toList.map fun p=>(p.1,a.eval p.2))[i].2:=by
  intro i h h' h''
  refine ⟨by simp,?_⟩
  simp only [List.getElem_map]
  exact hops _ (by rw [ho]; simp only [Op.operands,List.mem_toArray,List.mem_map]; exact ⟨ps.toList[i],by simp,rfl⟩)
 have hfill:∀ (cells:List Value),cells.length = n * re.size → ∃ us:List Value,Instr.fill (fun i=>some (i * re.size,re.size)) cells.toArray (ps.toList.map fun p=>(p.1,a.eval p.2)) = some us.toArray ∧
   VRs E (flat (ps.toList.map fun p=>ρ p.2)) us:=by
  intro cells hc
  have:=fill_inOrder (E:=E) (k:=re.size) (n:=0) (ps:=ps.toList) (xs:=ps.toList.map fun p=>ρ p.2) (vals:=ps.toList.map fun p=>(p.1,a.eval p.2)) (pre:=[]) (post:=cells) hin (by simp) (by simp) (by simp) (by rw [hc,hn]; simp) hparts hk
  simpa using this
 have hlen:(ps.toList.map fun p=>ρ p.2).length = n:=by simp [hn]
 have hflen:=flat_length (k:=re.size) (xs:=ps.toList.map fun p=>ρ p.2) (fun x hx=>(hk x hx).1)
 have h24:¬ n * re.size > 2 ^ 24:=by omega
 have hml:n ≤ maxLen:=by
  have:n ≤ n * re.size:=Nat.le_mul_of_pos_right n hsz
  unfold maxLen; omega
 have h0:¬ n * re.size = 0:=Nat.ne_of_gt (Nat.mul_pos hn0 hsz)
 obtain ⟨us,hu1,hu2⟩:=hfill ((Array.range (n * re.size)).map (z'.cells[· % z'.cells.size]!)).toList (by simp)
 have hul:us.length = n * re.size:=by rw [hu2.1,hflen,hlen]
 have hrun:(execOp a.eval o).run P w = .ok (.value (.slice (some ⟨w.heap.size,0,none⟩) n n)) (w.alloc (.cells us.toArray e)):=by
  rw [he]
  have:Instr.fill (fun i=>some (i * re.size,re.size)) ((Array.range (n * re.size)).map (z'.cells[· % z'.cells.size]!)) (ps.toList.map fun p=>(p.1,a.eval p.2)) = some us.toArray:=by
   rw [← hu1]
  simp only [Instr.buildSlice,Sem.run_bind,run_underlying hf.und,Result.andThen_ok,run_sizeOf' hf',if_neg h24,Sem.run_pure,if_neg h0,run_zeroValue' hf',hm,this]
  simp [newRow,newObj,Sem.run]
 obtain ⟨d1,d2,d3⟩:=hr.dom l j hl hH
 have hF0:∀ o,E.F w.heap.size o = none:=fun o=>by
  cases hq:E.F w.heap.size o with
  | none=>rfl
  | some u=>exact absurd (hr.F_lt hq) (Nat.lt_irrefl _)
 have hle:E.le m (E.setBuf l j n (.slice (some ⟨w.heap.size,0,none⟩) n n) w.heap.size []):=by
  refine ⟨fun b o v hf=>?_,fun _ _ _ _ hm=>hm,fun l' k' i u _ hi=>?_,rfl⟩
  ·simp only [Env.setBuf]
   by_cases hb:b = w.heap.size
   ·subst hb; rw [hF0 o] at hf; cases hf
   ·rw [if_neg hb]; exact hf
  ·simp only [Env.setBuf]
   rw [if_neg (fun hc=>by rw [hc.1,hc.2.1,hc.2.2,d3] at hi; cases hi)]; exact hi
 have hnew:(w.alloc (.cells us.toArray e)).heap[w.heap.size]? = some (.cells us.toArray e (0,0)):=by simp only [World.alloc,Array.getElem?_push_size]
 obtain ⟨hh,hxx⟩:=hr.bufTurn (n:=n) (v:=.slice (some ⟨w.heap.size,0,none⟩) n n) (nb:=.mbuf e re.size (flat (ps.toList.map fun p=>ρ p.2)) n) (g':=w.heap.size) (w':=w.alloc (.cells us.toArray e)) hl d1 (d3 n) rfl [] rfl rfl rfl (fun _=>Nat.le_refl _)
  (by simp only [World.alloc,Array.size_push]; omega) (fun b hb _=>by simp only [World.alloc,Array.getElem?_push]; rw [if_neg (by omega)]) (.inr (Nat.le_refl _)) (by simp only [World.alloc,Array.size_push]; omega) (fun o u hu=>by simp at hu) (fun o u hu=>by rw [hF0 o] at hu; cases hu)
  ⟨⟨by rw [hflen,hlen],_,by simp [Env.setBuf],fun i hi=>by simp only [Env.setBuf]; rw [if_neg (fun h=>by omega)]; exact d3 i,.inr ⟨w.heap.size,n,us.toArray,rfl,by simp [Env.setBuf],hnew,Nat.le_refl _,hml,by simp [hul],fun o=>by simp [Env.setBuf],by
   have:us.toArray.toList.take (n * re.size) = us:=by rw [List.take_of_length_le (by simp [hul])]
   rw [this]; exact hu2.mono hr.norm hle⟩⟩,d1⟩
 exact ⟨_,_,_,.inl hrun,.msl re.size l j _ w.heap.size n (by simp [Env.setBuf]),hh,hxx⟩
end Go.Abs
