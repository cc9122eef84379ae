/- Composites; rows laid whole; append where the capacity is known to be used up. No program, no condition. -/
import Derived.Test.YthgbkalgmicniaaGreatDoorM02
set_option linter.all false
namespace Go.Abs
def splice (cells:List AV) (off:Nat) (cs:List AV):List AV:=cells.take off ++ (cs ++ cells.drop (off + cs.length))
def fillA (place:Nat → Option (Nat × Nat)) (cells:List AV):List (Nat × AV) → Option (List AV)
 | []=>some cells
 | (i,v) :: rest =>
  match place i with
  | none=>none
  | some (off,size)=>if v.cells.length = size ∧ off + size ≤ cells.length then fillA place (splice cells off v.cells) rest else none
theorem foldl_set {us:List Value}:∀ (off j:Nat) (cells:Array Value),off + (j + us.length) ≤ cells.size →
  ((us.zipIdx j).foldl (fun cs (c:Value × Nat)=>cs.setIfInBounds (off + c.2) c.1) cells).toList = cells.toList.take (off + j) ++ (us ++ cells.toList.drop (off + j + us.length)):=by
 induction us with
 | nil=>intro off j cells h; simp
 | cons u us ih =>
  intro off j cells h
  simp only [List.length_cons] at h
  rw [List.zipIdx_cons,List.foldl_cons,ih off (j + 1) _ (by simp; omega),Array.toList_setIfInBounds]
  have hlt:off + j < cells.toList.length:=by simp; omega
  rw [show off + (j + 1) = off + j + 1 by omega,List.take_succ_eq_append_getElem (by simpa using hlt),List.getElem_set_self,List.take_set_of_le (by omega),
   show off + j + 1 + us.length = off + j + (us.length + 1) by omega,List.drop_set_of_lt (by omega),List.length_cons,List.append_assoc]
  rfl
theorem fill_VRs {E:Env} {place:Nat → Option (Nat × Nat)}:∀ {parts:List (Nat × AV)} {vals:List (Nat × Value)} {cells out:List AV} {vs:Array Value},
  fillA place cells parts = some out → VRs E cells vs.toList → vals.length = parts.length →
  (∀ i (h:i < parts.length) (h':i < vals.length),parts[i].1 = vals[i].1 ∧ VR E parts[i].2 vals[i].2 ∧ (∀ c ∈ parts[i].2.cells,c.one = true)) →
  ∃ us,Instr.fill place vs vals = some us ∧ VRs E out us.toList
 | [],vals,cells,out,vs,hf,hv,hl,_=>by
  have:vals = []:=by simpa using hl
  subst this
  simp only [fillA,Option.some.injEq] at hf
  subst hf
  exact ⟨vs,rfl,hv⟩
 | (i,v) :: rest,vals,cells,out,vs,hf,hv,hl,hp=>by
  cases vals with
  | nil=>simp at hl
  | cons iv vals =>
   obtain ⟨i',u⟩:=iv
   obtain ⟨h1,h2,h3⟩:=hp 0 (by simp) (by simp)
   simp only [List.getElem_cons_zero] at h1 h2 h3
   subst h1
   simp only [fillA] at hf
   simp only [Instr.fill]
   cases hpl:place i with
   | none=>simp [hpl] at hf
   | some os =>
    obtain ⟨off,size⟩:=os
    simp only [hpl] at hf ⊢
    split at hf
    ·rename_i hc
     have hcv:=h2.cells h3
     have hus:u.cells.size = size:=by have:=hcv.1; simp at this; omega
     have hcs:vs.size = cells.length:=by have:=hv.1; simpa using this
     rw [if_neg (by simp [hus,hcs]; omega)]
     refine fill_VRs hf ?_ (by simpa using hl) (fun j hj hj'=>?_)
     ·have:=foldl_set (us:=u.cells.toList) off 0 vs (by simp [hus]; omega)
      rw [← Array.foldl_toList,Array.toList_zipIdx,this]
      simp only [Nat.add_zero]
      have hlen:u.cells.toList.length = v.cells.length:=hcv.1
      unfold splice
      rw [hlen]
      exact (hv.take _).append (hcv.append (hv.drop _))
     ·have:=hp (j + 1) (by simpa using hj) (by simpa using hj')
      simpa using this
    ·cases hf
def partsA (ρ:Operand → AV) (ps:List (Nat × Operand)):List (Nat × AV):=ps.map fun p=>(p.1,ρ p.2)
section ops
variable {P:Program} {T:TT} {o:Oper} {ρ:Operand → AV}
def placesA (T:TT) (fs:List (Nat × TypeId)):List (Option (Nat × Nat)):=fs.map fun f=>(T f.2).map fun r=>(f.1,r.size)
theorem run_placesA {gs:Array Field} {fs:List (Nat × TypeId)} (hT:TOK P T) (hfit:gs.toList.map (fun g=>(g.offset,g.type)) = fs) (hall:∀ f ∈ fs,T f.2 ≠ none) (w:World) :
  ∃ ps:Array (Nat × Nat),(gs.mapM (m:=Sem) fun f=>do pure (f.offset,← sizeOf f.type)).run P w = .ok ps w ∧ ∀ i:Nat,ps[i]? = (placesA T fs)[i]?.join:=by
 have key:∀ (gs:List Field) (fs:List (Nat × TypeId)),gs.map (fun g=>(g.offset,g.type)) = fs → (∀ f ∈ fs,T f.2 ≠ none) →
   ∃ ps:List (Nat × Nat),(gs.mapM (m:=Sem) fun f=>do pure (f.offset,← sizeOf f.type)).run P w = .ok ps w ∧ ∀ i:Nat,ps[i]? = (placesA T fs)[i]?.join:=by
  intro gs
  induction gs with
  | nil=>intro fs h _; subst h; exact ⟨[],by simp,by simp [placesA]⟩
  | cons g gs ih =>
   intro fs h hall
   subst h
   obtain ⟨ps,h1,h2⟩:=ih _ rfl (fun f hf=>hall f (List.mem_cons_of_mem _ hf))
   have hg:=hall (g.offset,g.type) (by simp)
   cases hr:T g.type with
   | none=>exact absurd hr hg
   | some r =>
    obtain ⟨d,i,z,hf⟩:=rowOK_facts (hT g.type r hr)
    refine ⟨(g.offset,r.size) :: ps,?_,?_⟩
    ·rw [List.mapM_cons]
     simp only [Sem.run_bind,run_sizeOf' hf,Result.andThen_ok,Sem.run_pure,h1]
    ·intro i
     cases i with
     | zero=>simp [placesA,hr]
     | succ i=>simpa [placesA] using h2 i
 obtain ⟨ps,h1,h2⟩:=key gs.toList fs hfit hall
 refine ⟨ps.toArray,?_,by simpa using h2⟩
 rw [Array.mapM_eq_mapM_toList,Sem.run_map,h1]
 rfl
theorem pr_build {t:TypeId} {ps:Array (Nat × Operand)} {r:TRow} {fs:List (Nat × TypeId)} {out:List AV} (hT:TOK P T) (ho:o.op = .build t ps) (h1:T t = some r) (h2:r.td = .struct fs) (hall:∀ f ∈ fs,T f.2 ≠ none)
  (hf:fillA (fun i=>(placesA T fs)[i]?.join) r.zero (partsA ρ ps.toList) = some out) (hone:∀ p ∈ partsA ρ ps.toList,∀ c ∈ p.2.cells,c.one = true):PRun P o ρ (.agg out):=fun E a h=>by
 obtain ⟨d,inf,z,hr⟩:=rowOK_facts (hT t r h1)
 have hfit:=hr.fits
 rw [h2] at hfit
 cases d <;> try (simp [TD.fits] at hfit; done)
 rename_i gs
 simp only [TD.fits,Bool.and_eq_true,beq_iff_eq] at hfit
 have hz:VRs E r.zero z.cells.toList:=fitsAll_VRs hr.zfits
 have hparts:∀ i (h:i < (partsA ρ ps.toList).length) (h':i < (ps.toList.map fun p=>(p.1,a.eval p.2)).length),
   (partsA ρ ps.toList)[i].1 = (ps.toList.map fun p=>(p.1,a.eval p.2))[i].1 ∧ VR E (partsA ρ ps.toList)[i].2 (ps.toList.map fun p=>(p.1,a.eval p.2))[i].2 ∧ (∀ c ∈ (partsA ρ ps.toList)[i].2.cells,c.one = true):=by
  intro i h1 h2
  refine ⟨by simp [partsA],?_,fun c hc=>hone _ (List.getElem_mem h1) c hc⟩
  simp only [partsA,List.getElem_map]
  have hi:i < ps.toList.length:=by simpa [partsA] using h1
  exact h _ (by rw [ho]; simp only [Op.operands]; simp only [List.mem_toArray,List.mem_map]; exact ⟨ps.toList[i],by simp,rfl⟩)
 obtain ⟨us,hu1,hu2⟩:=fill_VRs hf hz (by simp [partsA]) hparts
 refine ⟨.agg us,fun w=>?_,?_⟩
 ·obtain ⟨pl,hp1,hp2⟩:=run_placesA (P:=P) (T:=T) (gs:=gs) hT hfit.1 hall w
  have he:execOp a.eval o = (do let v ← Instr.build t (ps.map fun (i,x)=>(i,a.eval x)); pure (Next.value v)):=by simp only [execOp,ho]
  have hpl:(fun i=>pl[i]?) = (fun i=>(placesA T fs)[i]?.join):=funext hp2
  have hm:(ps.map fun (i,x)=>(i,a.eval x)).toList = ps.toList.map fun p=>(p.1,a.eval p.2):=by simp
  rw [he]
  simp only [Instr.build,Sem.run_bind,run_zeroValue' hr,Result.andThen_ok,run_underlying hr.und,hp1,hm]
  have hu1':Instr.fill (fun x=>pl[x]?) z.cells (ps.toList.map fun p=>(p.1,a.eval p.2)) = some us:=by rw [hpl]; exact hu1
  rw [hu1']
  rfl
 ·have:us = us.toList.toArray:=by simp
  rw [this]
  exact .agg out us.toList hu2.1 hu2.2
theorem pr_field {t:TypeId} {x:Operand} {f:Nat} {r rf:TRow} {fs:List (Nat × TypeId)} {fo ft:Nat} {cs:List AV} (hT:TOK P T) (ho:o.op = .field t x f) (h1:T t = some r) (h2:r.td = .struct fs)
  (h3:fs[f]? = some (fo,ft)) (h4:T ft = some rf) (hv:ρ x = .agg cs) (hn:rf.isAgg = false → fo < cs.length) :
  PRun P o ρ (if rf.isAgg then .agg ((cs.drop fo).take rf.size) else cs.getD fo .dead):=fun E a h=>by
 have hx:=h x (by simp [ho,Op.operands])
 rw [hv] at hx
 obtain ⟨d,i,z,hf⟩:=rowOK_facts (hT t r h1)
 obtain ⟨d',i',z',hf'⟩:=rowOK_facts (hT ft rf h4)
 have hfit:=hf.fits
 rw [h2] at hfit
 cases d <;> try (simp [TD.fits] at hfit; done)
 rename_i gs
 simp only [TD.fits,Bool.and_eq_true,beq_iff_eq] at hfit
 have hg:∃ g,gs[f]? = some g ∧ g.offset = fo ∧ g.type = ft:=by
  have h3':=h3
  rw [← hfit.1,List.getElem?_map] at h3'
  cases hq:gs.toList[f]? with
  | none=>simp [hq] at h3'
  | some g=>rw [hq] at h3'; simp at h3'; exact ⟨g,by rw [← Array.getElem?_toList]; exact hq,h3'.1,h3'.2⟩
 obtain ⟨g,hg1,hg2,hg3⟩:=hg
 generalize hy:a.eval x = y at hx
 cases hx with | agg _ vs hl hvs =>
 have he:execOp a.eval o = (do let v ← Instr.field t (a.eval x) f; pure (Next.value v)):=by simp only [execOp,ho]
 have hvv:VRs E cs vs:=⟨hl,hvs⟩
 cases hag:rf.isAgg with
 | true =>
  refine ⟨.agg ((vs.drop fo).take rf.size).toArray,fun w=>?_,?_⟩
  ·rw [he,hy]
   have hpt:(part g.type vs.toArray g.offset).run P w = .ok (.agg ((vs.drop fo).take rf.size).toArray) w:=by
    unfold part
    rw [hg3,hg2]
    simp only [Sem.run_bind,run_isAgg' hf',hag,Result.andThen_ok,if_true,run_sizeOf' hf',Sem.run_pure,List.extract_toArray,List.extract_eq_take_drop]
    congr 4; omega
   simp only [Instr.field,Sem.run_bind,run_underlying hf.und,Result.andThen_ok,hg1,asAgg,Sem.run_pure,hpt]
  ·have:=(hvv.drop fo).take rf.size
   simp only [if_true]
   exact .agg _ _ this.1 this.2
 | false =>
  have hlt:=hn hag
  refine ⟨vs[fo]'(by omega),fun w=>?_,?_⟩
  ·rw [he,hy]
   have hpt:(part g.type vs.toArray g.offset).run P w = .ok (vs[fo]'(by omega)) w:=by
    unfold part
    rw [hg3,hg2]
    simp [run_isAgg' hf',hag,List.getElem?_eq_getElem (show fo < vs.length by omega)]
   simp only [Instr.field,Sem.run_bind,run_underlying hf.und,Result.andThen_ok,hg1,asAgg,Sem.run_pure,hpt]
  ·simp only [Bool.false_eq_true,if_false]
   have:=hvs fo hlt (by omega)
   simpa [List.getD_eq_getElem?_getD,List.getElem?_eq_getElem hlt] using this
end ops
end Go.Abs

/- Rows laid whole; append where the capacity is known to be used up. No program, no condition. -/
namespace Go.Abs
theorem row_run {P:Program} {m:Nat} {o:Oper} {ρ:Operand → AV} {k:Nat} {xs:List AV} {ow:Own} {H:AHeap}
  (h:∀ E w (a:Act),HRel m H E w → (∀ x ∈ o.op.operands,VR E (ρ x) (a.eval x)) →
   ∃ (w1:World) (e:TypeId) (vs:List Value) (cap:Nat),(execOp a.eval o).run P w = .ok (.value (.slice (some ⟨w.heap.size,0,none⟩) xs.length cap)) (w1.alloc (.cells vs.toArray e)) ∧
    w1.os = w.os ∧ w1.tape = w.tape ∧ w1.output = w.output ∧ w.drawn ≤ w1.drawn ∧ w1.heap = w.heap ∧ (∀ x ∈ xs,x.cells.length = k) ∧ VRs E (flat xs) (vs.take (xs.length * k)) ∧ xs.length ≤ cap ∧ xs.length ≤ maxLen ∧
    (match ow with | .any=>True | .full=>cap = xs.length | .buf _ _=>False)):OpRun P m o ρ H (.sl k xs ow) H:=by
 intro E w a hr ho
 obtain ⟨w1,e,vs,cap,hrun,h1,h2,h3,hdr,h4,hk,hv,hcap,hm,how⟩:=h E w a hr ho
 obtain ⟨hh,hx⟩:=hr.newRow vs.toArray e h1 h2 h3 (fun _=>hdr) h4
 refine ⟨_,_,_,.inl hrun,?_,hh,hx⟩
 refine VR.sl_intro (cs:=vs.take (xs.length * k)) hk (hv.mono hr.norm hx.le) (fun j u hj=>?_) hcap hm ?_
 ·simp only [Env.addRow,if_true,Nat.zero_add]
  have hlt:j < xs.length * k:=by
   rcases Nat.lt_or_ge j (xs.length * k) with h | h
   ·exact h
   ·rw [List.getElem?_take,if_neg (by omega)] at hj; cases hj
  rw [List.getElem?_take_of_lt hlt] at hj
  simpa using hj
 ·cases ow with
  | any=>trivial
  | full=>exact how
  | buf l j=>exact how.elim
def inOrder (i:Nat):List (Nat × Operand) → Bool
 | []=>true
 | p :: r=>p.1 == i && inOrder (i + 1) r
theorem fill_inOrder {E:Env} {k n:Nat}:∀ {ps:List (Nat × Operand)} {xs:List AV} {vals:List (Nat × Value)} {pre post:List Value},
  inOrder n ps = true → xs.length = ps.length → vals.length = ps.length → pre.length = n * k → post.length = ps.length * k →
  (∀ i (h:i < ps.length) (h':i < vals.length) (h'':i < xs.length),vals[i].1 = ps[i].1 ∧ VR E xs[i] vals[i].2) → (∀ x ∈ xs,x.cells.length = k ∧ ∀ c ∈ x.cells,c.one = true) →
  ∃ us,Instr.fill (fun i=>some (i * k,k)) (pre ++ post).toArray vals = some (pre ++ us).toArray ∧ VRs E (flat xs) us
 | [],xs,vals,pre,post,_,hx,hl,_,hpost,_,_=>by
  have e1:xs = []:=by simpa using hx
  have e2:vals = []:=by simpa using hl
  have e3:post = []:=List.eq_nil_of_length_eq_zero (by simpa using hpost)
  subst e1 e2 e3
  exact ⟨[],rfl,VRs.nil E⟩
 | p :: ps,xs,vals,pre,post,hi,hx,hl,hpre,hpost,hp,ho=>by
  cases xs with
  | nil=>simp at hx
  | cons x xs =>
   cases vals with
   | nil=>simp at hl
   | cons iv vals =>
    obtain ⟨i,u⟩:=iv
    simp only [inOrder,Bool.and_eq_true,beq_iff_eq] at hi
    obtain ⟨hi1,hi2⟩:=hi
    obtain ⟨h1,h2⟩:=hp 0 (by simp) (by simp) (by simp)
    simp only [List.getElem_cons_zero] at h1 h2
    obtain ⟨h3,h4⟩:=ho x (by simp)
    have hcv:=h2.cells h4
    have hul:u.cells.toList.length = k:=hcv.1.trans h3
    have hul':u.cells.size = k:=by simpa using hul
    have hin:i = n:=h1.trans hi1
    subst hin
    simp only [List.length_cons,Nat.succ_mul] at hpost
    simp only [Instr.fill]
    rw [if_neg (by simp [hul',hpre]; omega)]
    have hset:=foldl_set (us:=u.cells.toList) (i * k) 0 (pre ++ post).toArray (by simp [hul',hpre]; omega)
    simp only [Nat.add_zero] at hset
    have harr:(u.cells.zipIdx.foldl (fun cs (c:Value × Nat)=>cs.setIfInBounds (i * k + c.2) c.1) (pre ++ post).toArray) = ((pre ++ u.cells.toList) ++ post.drop k).toArray:=by
     apply Array.ext'
     rw [← Array.foldl_toList,Array.toList_zipIdx,hset,hul]
     simp only [← hpre,List.take_left,List.append_assoc]
     rw [List.drop_append,List.drop_of_length_le (by omega),List.nil_append,show pre.length + k - pre.length = k by omega]
    rw [harr]
    obtain ⟨us,hu1,hu2⟩:=fill_inOrder (n:=i + 1) (pre:=pre ++ u.cells.toList) (post:=post.drop k) hi2 (by simpa using hx) (by simpa using hl) (by rw [List.length_append,hpre,hul,Nat.succ_mul]) (by simp; omega)
     (fun j a1 a2 a3=>by have:=hp (j + 1) (by simpa using a1) (by simpa using a2) (by simpa using a3); simpa using this) (fun y hy=>ho y (List.mem_cons_of_mem _ hy))
    refine ⟨u.cells.toList ++ us,by rw [hu1,List.append_assoc],?_⟩
    rw [flat_cons]; exact hcv.append hu2
section ops
variable {P:Program} {T:TT} {o:Oper} {ρ:Operand → AV}
theorem or_buildSlice {m:Nat} {H:AHeap} {t:TypeId} {n:Nat} {ps:Array (Nat × Operand)} {r re:TRow} {e:TypeId} (hT:TOK P T) (ho:o.op = .buildSlice t n ps) (h1:T t = some r) (h2:r.td = .slice e) (h3:T e = some re)
  (hin:inOrder 0 ps.toList = true) (hn:n = ps.size) (hsz:0 < re.size) (hsmall:n * re.size ≤ 2 ^ 24) (hk:∀ x ∈ ps.toList.map (fun p=>ρ p.2),x.cells.length = re.size ∧ ∀ c ∈ x.cells,c.one = true) :
  OpRun P m o ρ H (.sl re.size (ps.toList.map fun p=>ρ p.2) .full) H:=row_run fun E w a hr hops=>by
 obtain ⟨d,inf,z,hf⟩:=rowOK_facts (hT t r h1)
 obtain ⟨d',i',z',hf'⟩:=rowOK_facts (hT e re h3)
 have hd:=slice_fits (h2 ▸ hf.fits)
 subst hd
 have he:execOp a.eval o = (do let v ← Instr.buildSlice t n (ps.map fun (i,x)=>(i,a.eval x)); pure (Next.value v)):=by simp only [execOp,ho]
 have hm:(ps.map fun (i,x)=>(i,a.eval x)).toList = ps.toList.map fun p=>(p.1,a.eval p.2):=by simp
 have hparts:∀ i (h:i < ps.toList.length) (h':i < (ps.toList.map fun p=>(p.1,a.eval p.2)).length) (h'':i < (ps.toList.map fun p=>ρ p.2).length),
   (ps.toList.map fun p=>(p.1,a.eval p.2))[i].1 = ps.toList[i].1 ∧ VR E (ps.toList.map fun p=>ρ p.2)[i] (ps.toList.map fun p=>(p.1,a.eval p.2))[i].2:=by
  intro i h h' h''
  refine ⟨by simp,?_⟩
  simp only [List.getElem_map]
  exact hops _ (by rw [ho]; simp only [Op.operands,List.mem_toArray,List.mem_map]; exact ⟨ps.toList[i],by simp,rfl⟩)
 have hfill:∀ (cells:List Value),cells.length = n * re.size → ∃ us:List Value,Instr.fill (fun i=>some (i * re.size,re.size)) cells.toArray (ps.toList.map fun p=>(p.1,a.eval p.2)) = some us.toArray ∧
   VRs E (flat (ps.toList.map fun p=>ρ p.2)) us:=by
  intro cells hc
  have:=fill_inOrder (E:=E) (k:=re.size) (n:=0) (ps:=ps.toList) (xs:=ps.toList.map fun p=>ρ p.2) (vals:=ps.toList.map fun p=>(p.1,a.eval p.2)) (pre:=[]) (post:=cells) hin (by simp) (by simp) (by simp) (by rw [hc,hn]; simp) hparts hk
  simpa using this
 have hlen:(ps.toList.map fun p=>ρ p.2).length = n:=by simp [hn]
 have hflen:=flat_length (k:=re.size) (xs:=ps.toList.map fun p=>ρ p.2) (fun x hx=>(hk x hx).1)
 have h24:¬ n * re.size > 2 ^ 24:=by omega
 have hml:n ≤ maxLen:=by
  have:n ≤ n * re.size:=Nat.le_mul_of_pos_right n hsz
  unfold maxLen; omega
 by_cases h0:n * re.size = 0
 ·obtain ⟨us,hu1,hu2⟩:=hfill [] (by simp [h0])
  have hu0:us = []:=List.eq_nil_of_length_eq_zero (by rw [hu2.1,hflen,hlen,h0])
  refine ⟨w,e,us,n,?_,rfl,rfl,rfl,Nat.le_refl _,rfl,fun x hx=>(hk x hx).1,?_,by omega,by omega,by simp [hlen]⟩
  ·rw [he,hlen]
   have hz:∀ f:Nat → Value,(Array.range (n * re.size)).map f = #[]:=fun f=>by rw [h0]; simp
   have:Instr.fill (fun i=>some (i * re.size,re.size)) #[] (ps.toList.map fun p=>(p.1,a.eval p.2)) = some us.toArray:=hu1
   simp only [Instr.buildSlice,Sem.run_bind,run_underlying hf.und,Result.andThen_ok,run_sizeOf' hf',if_neg h24,Sem.run_pure,if_pos h0,hz,hm,this]
   simp [newRow,newObj,Sem.run]
  ·rw [hlen,h0,hu0]; simpa [hu0] using hu2
 ·obtain ⟨us,hu1,hu2⟩:=hfill ((Array.range (n * re.size)).map (z'.cells[· % z'.cells.size]!)).toList (by simp)
  have hul:us.length = n * re.size:=by rw [hu2.1,hflen,hlen]
  refine ⟨w,e,us,n,?_,rfl,rfl,rfl,Nat.le_refl _,rfl,fun x hx=>(hk x hx).1,?_,by omega,by omega,by simp [hlen]⟩
  ·rw [he,hlen]
   have:Instr.fill (fun i=>some (i * re.size,re.size)) ((Array.range (n * re.size)).map (z'.cells[· % z'.cells.size]!)) (ps.toList.map fun p=>(p.1,a.eval p.2)) = some us.toArray:=by
    rw [← hu1]
   simp only [Instr.buildSlice,Sem.run_bind,run_underlying hf.und,Result.andThen_ok,run_sizeOf' hf',if_neg h24,Sem.run_pure,if_neg h0,run_zeroValue' hf',hm,this]
   simp [newRow,newObj,Sem.run]
  ·rw [hlen,List.take_of_length_le (by omega)]; exact hu2
theorem or_append {m:Nat} {H:AHeap} {t:TypeId} {x y:Operand} {r re:TRow} {e:TypeId} {k k':Nat} {xs ys:List AV} {ow:Own} (hT:TOK P T)
  (ho:o.op = .call { callee:=.builtin .append,args:=#[x,y],argTypes:=#[t,t] }) (h1:T t = some r) (h2:r.td = .slice e) (h3:T e = some re) (hsz:0 < re.size)
  (hx:ρ x = .sl k xs .full) (hy:ρ y = .sl k' ys ow) (hk:xs = [] ∨ k = re.size) (hk':ys = [] ∨ k' = re.size) (hml:xs.length + ys.length ≤ maxLen) (hby:(xs.length + ys.length) * re.bytes ≤ 140737488355328) :
  OpRun P m o ρ H (.sl re.size (xs ++ ys) .any) H:=fun E w a hr hops=>by
 obtain ⟨d,inf,z,hf⟩:=rowOK_facts (hT t r h1)
 obtain ⟨d',i',z',hf'⟩:=rowOK_facts (hT e re h3)
 have hd:=slice_fits (h2 ▸ hf.fits)
 subst hd
 have hxv:=hops x (by simp [ho,Op.operands,Call.operands])
 have hyv:=hops y (by simp [ho,Op.operands,Call.operands])
 rw [hx] at hxv
 rw [hy] at hyv
 have he:∀ w',(execOp a.eval o).run P w' = ((Builtin.append_ #[t,t] o.type #[a.eval x,a.eval y]).run P w').andThen fun v w''=>.ok (.value v) w'':=fun w'=>by
  simp [execOp,ho,resolve,invoke,builtin]
 have hu:P.underlying t = some (.slice e):=hf.und
 have hsm:(9223372036854775807:Int) = 9223372036854775807:=rfl
 have hmx:xs.length + ys.length ≤ 9223372036854775807:=by unfold maxLen at hml; omega
 by_cases hy0:ys = []
 ·-- nothing is appended: the first one itself
  subst hy0
  rw [List.append_nil]
  have hrun:(Builtin.append_ #[t,t] o.type #[a.eval x,a.eval y]).run P w = .ok (a.eval x) w:=by
   rcases hxv.sl_elim with ⟨⟨a1,e1,_⟩,_,_⟩ | ⟨b,off,cap,cs,e1,_,_,_,hc,_,_⟩ <;> rcases hyv.sl_elim with ⟨⟨a2,e2,_⟩,_,_⟩ | ⟨b2,off2,cap2,cs2,e2,_,_,_,hc2,_,_⟩ <;> rw [e1,e2]
   ·cases a1 <;> cases a2 <;> simp [Builtin.append_,run_underlying hu,sizeOf,typeInfo,hf'.info,Builtin.lenOf,Builtin.firstCells,loadCells,loadCellsFrom,storeCells]
   ·cases a1 <;> simp [Builtin.append_,run_underlying hu,sizeOf,typeInfo,hf'.info,Builtin.lenOf,Builtin.firstCells,loadCells,loadCellsFrom,storeCells]
   ·cases a2 <;> simp [Builtin.append_,run_underlying hu,sizeOf,typeInfo,hf'.info,Builtin.lenOf,Builtin.firstCells,hc,loadCells,loadCellsFrom,storeCells]
   ·simp [Builtin.append_,run_underlying hu,sizeOf,typeInfo,hf'.info,Builtin.lenOf,Builtin.firstCells,hc,loadCells,loadCellsFrom,storeCells]
  refine ⟨a.eval x,E,w,.inl (by rw [he,hrun]; rfl),?_,hr,.refl m E w⟩
  rcases hk with rfl | rfl
  ·exact (VR_nil_any hxv).any
  ·exact hxv.any
 ·have hk':k' = re.size:=hk'.resolve_left hy0
  subst hk'
  rcases hyv.sl_elim with ⟨_,e2,_⟩ | ⟨b2,off2,cap2,cs2,e2,hky,hvy,hFy,_,_,_⟩
  ·exact absurd e2 hy0
  have hylen:0 < ys.length:=List.length_pos_iff.2 hy0
  have hl2:cs2.length = ys.length * i'.size:=by rw [hvy.1,flat_length hky,hf'.size]
  have hn2:∀ j v,cs2[j]? = some v → w.cell? ((⟨b2,off2,none⟩:Addr).add j) = some v:=fun j v hj=>by rw [addr_add_lit]; exact hr.F _ _ _ (hFy j v hj)
  have hb48:Builtin.nextslicecap (xs.length + ys.length) xs.length * i'.bytes ≤ 281474976710656:=growslice_fits (by omega) (by rw [hf'.bytes]; exact hby)
  have fin:∀ (vs:List Value) (cap:Nat),(execOp a.eval o).run P w = .ok (.value (.slice (some ⟨w.heap.size,0,none⟩) (xs ++ ys).length cap)) (w.drew.alloc (.cells vs.toArray e)) → (∀ x ∈ xs ++ ys,x.cells.length = re.size) →
    VRs E (flat (xs ++ ys)) (vs.take ((xs ++ ys).length * re.size)) → (xs ++ ys).length ≤ cap → ∃ cv E' w',((execOp a.eval o).run P w = .ok (.value cv) w' ∨ ((execOp a.eval o).run P w = .ok .skip w' ∧ cv = undef)) ∧ VR E' (.sl re.size (xs ++ ys) .any) cv ∧ HRel m H E' w' ∧ Ext m E w E' w':=by
   intro vs cap hrun hkk hvv hcap
   obtain ⟨hh,hxx⟩:=hr.newRow vs.toArray e (w1:=w.drew) rfl rfl rfl (fun _=>Nat.le_succ _) rfl
   refine ⟨_,_,_,.inl hrun,?_,hh,hxx⟩
   refine VR.sl_intro (cs:=vs.take ((xs ++ ys).length * re.size)) hkk (hvv.mono hr.norm hxx.le) (fun j u hj=>?_) hcap (by rw [List.length_append]; exact hml) trivial
   simp only [Env.addRow,if_true,Nat.zero_add]
   have hlt:j < (xs ++ ys).length * re.size:=by
    rcases Nat.lt_or_ge j ((xs ++ ys).length * re.size) with h | h
    ·exact h
    ·rw [List.getElem?_take,if_neg (by omega)] at hj; cases hj
   rw [List.getElem?_take_of_lt hlt] at hj
   simpa using hj
  rcases hxv.sl_elim with ⟨⟨a1,e1,ea1⟩,ex,_⟩ | ⟨b1,off1,cap1,cs1,e1,hkx,hvx,hFx,hc1,_,how⟩
  ·subst ex
   obtain rfl:=ea1 (by simp)
   simp only [List.length_nil,Nat.zero_add] at hmx hb48 hml hby
   have hr1:=run_append_nil (P:=P) w t o.type e i' z' hu hf'.info hf'.zero ⟨b2,off2,none⟩ ys.length cap2 cs2 hl2 hn2 hylen (by omega) (by rw [hf'.bytes]; omega)
   simp only [List.nil_append]
   simp only [List.nil_append] at fin
   refine fin (cs2 ++ (Builtin.zeroCells z'.cells (grownCap w ys.length 0 e - ys.length)).toList) (grownCap w ys.length 0 e) ?_ hky ?_ (grownCap_ge w _ _ _)
   ·rw [he,e1,e2,hr1]
    simp only [Result.andThen_ok]
    congr 3
    apply Array.ext'; simp
   ·rw [List.take_append_of_le_length (by rw [hvy.1,flat_length hky]; exact Nat.le_refl _),List.take_of_length_le (by rw [hvy.1,flat_length hky]; exact Nat.le_refl _)]
    exact hvy
  ·have hcap1:cap1 = xs.length:=how
   subst hcap1
   by_cases hx0:xs = []
   ·subst hx0
    simp only [List.length_nil,Nat.zero_add] at hmx hb48 hml hby
    have hcs1:cs1 = []:=List.eq_nil_of_length_eq_zero (by rw [hvx.1]; rfl)
    have hr1:=run_append_grow (P:=P) w t o.type e i' z' hu hf'.info hf'.zero ⟨b1,off1,none⟩ 0 0 [] (by simp) (by simp) ⟨b2,off2,none⟩ ys.length cap2 cs2 hl2 hn2 (by omega) (by omega) (by simpa using hb48)
    simp only [List.nil_append]
    simp only [List.nil_append] at fin
    simp only [Nat.zero_add] at hr1
    refine fin (cs2 ++ (Builtin.zeroCells z'.cells (grownCap w ys.length 0 e - ys.length)).toList) (grownCap w ys.length 0 e) ?_ hky ?_ (grownCap_ge w _ _ _)
    ·rw [he,e1,e2]
     simp only [List.length_nil]
     rw [hr1]
     simp only [Result.andThen_ok]
     congr 3
     apply Array.ext'; simp
    ·rw [List.take_append_of_le_length (by rw [hvy.1,flat_length hky]; exact Nat.le_refl _),List.take_of_length_le (by rw [hvy.1,flat_length hky]; exact Nat.le_refl _)]
     exact hvy
   ·have hkk:=hk.resolve_left hx0
    subst hkk
    have hl1:cs1.length = xs.length * i'.size:=by rw [hvx.1,flat_length hkx,hf'.size]
    have hn1:∀ j v,cs1[j]? = some v → w.cell? ((⟨b1,off1,none⟩:Addr).add j) = some v:=fun j v hj=>by rw [addr_add_lit]; exact hr.F _ _ _ (hFx j v hj)
    have hr1:=run_append_grow (P:=P) w t o.type e i' z' hu hf'.info hf'.zero ⟨b1,off1,none⟩ xs.length xs.length cs1 hl1 hn1 ⟨b2,off2,none⟩ ys.length cap2 cs2 hl2 hn2 (by omega) (by omega) hb48
    have hkall:∀ x ∈ xs ++ ys,x.cells.length = re.size:=fun x hx=>by
     rcases List.mem_append.1 hx with h | h
     ·exact hkx x h
     ·exact hky x h
    have hlall:(cs1 ++ cs2).length = (xs ++ ys).length * re.size:=by rw [List.length_append,hl1,hl2,hf'.size,List.length_append,Nat.add_mul]
    refine fin (cs1 ++ cs2 ++ (Builtin.zeroCells z'.cells (grownCap w (xs.length + ys.length) xs.length e - (xs.length + ys.length))).toList) (grownCap w (xs.length + ys.length) xs.length e) ?_ hkall ?_ (by rw [List.length_append]; exact grownCap_ge w _ _ _)
    ·rw [he,e1,e2,hr1,List.length_append]
     simp only [Result.andThen_ok]
     congr 3
     apply Array.ext'; simp
    ·rw [List.take_append_of_le_length (by omega),List.take_of_length_le (by omega),flat_append]
     exact hvx.append hvy
end ops
end Go.Abs

/- Operations on the abstract heap: loads, stores, new variables. No program, no condition. -/
namespace Go.Abs
def Env.setM (E:Env) (l k b:Nat):Env:={ E with m:=fun l' k'=>if l' = l ∧ k' = k then some b else E.m l' k' }
theorem AHeap.upd_same (H:AHeap) (l k:Nat) (b:ABlk):H.upd l k b l k = some b:=by simp [AHeap.upd]
theorem AHeap.upd_ne (H:AHeap) {l k l' k':Nat} (b:ABlk) (h:¬(l' = l ∧ k' = k)):H.upd l k b l' k' = H l' k':=by simp only [AHeap.upd,if_neg h]
theorem HRel.newSlot {m:Nat} {H:AHeap} {E:Env} {w:World} (h:HRel m H E w) {l k:Nat} (hl:l < m) (hfree:H l k = none) (ob:Obj) (blk:ABlk) (hblk:BlkR (E.setM l k w.heap.size) (w.alloc ob) l k blk) :
  HRel m (H.upd l k blk) (E.setM l k w.heap.size) (w.alloc ob) ∧ Ext m E w (E.setM l k w.heap.size) (w.alloc ob):=by
 obtain ⟨d1,d2,d3⟩:=h.dom l k hl hfree
 have hlt:∀ l' k' b,E.m l' k' = some b → b < w.heap.size:=fun l' k' b hm=>h.lt b (.inl ⟨l',k',hm⟩)
 have hgt:∀ l' k' b,E.g l' k' = some b → b < w.heap.size:=fun l' k' b hm=>h.lt b (.inr ⟨l',k',hm⟩)
 have hm':∀ l' k' b,(E.setM l k w.heap.size).m l' k' = some b → (l' = l ∧ k' = k ∧ b = w.heap.size) ∨ (¬(l' = l ∧ k' = k) ∧ E.m l' k' = some b):=by
  intro l' k' b hm
  simp only [Env.setM] at hm
  by_cases hc:l' = l ∧ k' = k
  ·rw [if_pos hc] at hm; exact .inl ⟨hc.1,hc.2,by simpa using hm.symm⟩
  ·rw [if_neg hc] at hm; exact .inr ⟨hc,hm⟩
 have hle:E.le m (E.setM l k w.heap.size):=⟨fun _ _ _ h=>h,fun l' k' b _ hm=>by
  simp only [Env.setM]
  rw [if_neg (fun hc=>by rw [hc.1,hc.2,d1] at hm; cases hm)]; exact hm,fun _ _ _ _ _ h=>h,rfl⟩
 have hold:∀ b,b < w.heap.size → (w.alloc ob).heap[b]? = w.heap[b]?:=fun b hb=>by
  simp only [World.alloc,Array.getElem?_push]; rw [if_neg (by omega)]
 have hc?:∀ b o,b < w.heap.size → (w.alloc ob).cell? ⟨b,o,none⟩ = w.cell? ⟨b,o,none⟩:=fun b o hb=>by
  simp only [World.cell?,hold b hb]
 refine ⟨{ norm:=?_,F:=?_,blk:=?_,dom:=?_,nobuf:=?_,inj:=?_,injg:=h.injg,mg:=?_,mF:=?_,lt:=?_ },⟨hle,rfl,rfl,rfl,fun _=>Nat.le_refl _,by simp,fun b hb _=>hold b hb,?_⟩⟩
 ·refine ⟨fun l' k' hl'=>?_,h.norm.g,h.norm.hist⟩
  simp only [Env.setM]
  rw [if_neg (fun hc=>by omega)]; exact h.norm.m l' k' hl'
 ·intro b o v hf
  rw [hc? b o (h.F_lt hf)]; exact h.F b o v hf
 ·intro l' k' bb hl' hH
  by_cases hc:l' = l ∧ k' = k
  ·obtain ⟨rfl,rfl⟩:=hc
   rw [AHeap.upd_same,Option.some.injEq] at hH
   subst hH; exact hblk
  ·rw [AHeap.upd_ne H blk hc] at hH
   exact (h.blk l' k' bb hl' hH).keep (by simp only [Env.setM]; rw [if_neg hc]) rfl (fun _=>rfl) (fun p _ r hr=>hle.m p.1 p.2 r (h.norm.m_lt hr) hr) (fun r hr=>hold r (hr.elim (hlt _ _ _) (hgt _ _ _))) (fun _ _ _ hf=>hf) (fun a _ v hv=>hv.mono h.norm hle)
 ·intro l' k' hl' hH
  by_cases hc:l' = l ∧ k' = k
  ·obtain ⟨rfl,rfl⟩:=hc
   rw [AHeap.upd_same] at hH; cases hH
  ·rw [AHeap.upd_ne H blk hc] at hH
   obtain ⟨a1,a2,a3⟩:=h.dom l' k' hl' hH
   exact ⟨by simp only [Env.setM]; rw [if_neg hc]; exact a1,a2,a3⟩
 ·intro l' k' hg
  have hc:¬(l' = l ∧ k' = k):=fun hc=>by rw [hc.1,hc.2] at hg; exact hg d2
  rw [AHeap.upd_ne H blk hc]; exact h.nobuf l' k' hg
 ·intro l1 k1 l2 k2 b h1 h2
  rcases hm' _ _ _ h1 with ⟨a1,a2,a3⟩ | ⟨_,a1⟩ <;> rcases hm' _ _ _ h2 with ⟨b1,b2,b3⟩ | ⟨_,b1⟩
  ·exact ⟨a1.trans b1.symm,a2.trans b2.symm⟩
  ·have:=hlt _ _ _ b1; omega
  ·have:=hlt _ _ _ a1; omega
  ·exact h.inj _ _ _ _ _ a1 b1
 ·intro l1 k1 l2 k2 b h1 h2
  rcases hm' _ _ _ h1 with ⟨a1,a2,a3⟩ | ⟨_,a1⟩
  ·have:=hgt _ _ _ h2; omega
  ·exact h.mg _ _ _ _ _ a1 h2
 ·intro l1 k1 b o h1
  rcases hm' _ _ _ h1 with ⟨a1,a2,a3⟩ | ⟨_,a1⟩
  ·subst a3
   cases hf:E.F w.heap.size o with
   | none=>exact hf
   | some v=>have:=h.F_lt hf; omega
  ·exact h.mF _ _ _ _ a1
 ·intro b hb
  rcases hb with ⟨l',k',hm⟩ | ⟨l',k',hg⟩
  ·rcases hm' _ _ _ hm with ⟨_,_,rfl⟩ | ⟨_,a1⟩
   ·simp
   ·have:=hlt _ _ _ a1; simp; omega
  ·have:=hgt _ _ _ hg; simp; omega
 ·intro b hb ho
  rcases ho with ⟨l',k',hm⟩ | ⟨l',k',hg⟩
  ·rcases hm' _ _ _ hm with ⟨_,_,rfl⟩ | ⟨_,a1⟩
   ·omega
   ·exact .inl ⟨l',k',a1⟩
  ·exact .inr ⟨l',k',hg⟩
theorem HRel.turn {m:Nat} {H:AHeap} {E:Env} {w w':World} (h:HRel m H E w) {l k b:Nat} (hm:E.m l k = some b ∨ E.g l k = some b) (blk:ABlk) (hnb:E.g l k ≠ none → blk.isBuf = true)
  (os:w'.os = w.os) (tape:w'.tape = w.tape) (output:w'.output = w.output) (drawn:E.qd = true → w.drawn ≤ w'.drawn) (size:w'.heap.size = w.heap.size) (hold:∀ b',b' ≠ b → w'.heap[b']? = w.heap[b']?)
  (hF:∀ o,E.F b o = none) (hblk:BlkR E w' l k blk) :
  HRel m (H.upd l k blk) E w' ∧ Ext m E w E w':=by
 have hlm:l < m:=hm.elim (fun hm=>h.norm.m_lt hm) (fun hm=>h.norm.g_lt hm)
 have hne:∀ l' k' b',E.m l' k' = some b' ∨ E.g l' k' = some b' → ¬(l' = l ∧ k' = k) → b' ≠ b:=fun l' k' b' hm' hc e=>by
  subst e
  rcases hm' with hm' | hm' <;> rcases hm with hm | hm
  ·exact hc (h.inj _ _ _ _ _ hm' hm)
  ·exact h.mg _ _ _ _ _ hm' hm
  ·exact h.mg _ _ _ _ _ hm hm'
  ·exact hc (h.injg _ _ _ _ _ hm' hm)
 refine ⟨{ norm:=h.norm,F:=?_,blk:=?_,dom:=?_,nobuf:=?_,inj:=h.inj,injg:=h.injg,mg:=h.mg,mF:=h.mF,lt:=?_ },⟨.refl m E,os,tape,output,drawn,by omega,fun b' _ ho=>?_,fun _ _ h=>h⟩⟩
 ·intro b' o v hf
  have:b' ≠ b:=fun e=>by subst e; rw [hF o] at hf; cases hf
  have hc:=h.F b' o v hf
  simp only [World.cell?,hold b' this] at hc ⊢; exact hc
 ·intro l' k' bb hl' hH
  by_cases hc:l' = l ∧ k' = k
  ·obtain ⟨rfl,rfl⟩:=hc
   rw [AHeap.upd_same,Option.some.injEq] at hH
   subst hH; exact hblk
  ·rw [AHeap.upd_ne H blk hc] at hH
   exact (h.blk l' k' bb hl' hH).keep rfl rfl (fun _=>rfl) (fun _ _ _ h=>h) (fun r hr=>hold r (hne _ _ _ hr hc)) (fun _ _ _ h=>h) (fun _ _ _ h=>h)
 ·intro l' k' hl' hH
  by_cases hc:l' = l ∧ k' = k
  ·obtain ⟨rfl,rfl⟩:=hc
   rw [AHeap.upd_same] at hH; cases hH
  ·rw [AHeap.upd_ne H blk hc] at hH; exact h.dom l' k' hl' hH
 ·intro l' k' hg
  by_cases hc:l' = l ∧ k' = k
  ·obtain ⟨rfl,rfl⟩:=hc
   exact ⟨blk,AHeap.upd_same _ _ _ _,hnb hg⟩
  ·rw [AHeap.upd_ne H blk hc]; exact h.nobuf l' k' hg
 ·intro b' ho; rw [size]; exact h.lt b' ho
 ·exact hold b' (fun e=>ho (by subst e; exact hm.elim (fun hm=>.inl ⟨l,k,hm⟩) (fun hm=>.inr ⟨l,k,hm⟩)))
theorem HRel.m_g {m:Nat} {H:AHeap} {E:Env} {w:World} (h:HRel m H E w) {l k b:Nat} (hm:E.m l k = some b):E.g l k = none:=by
 cases hg:E.g l k with
 | none=>rfl
 | some g =>
  obtain ⟨bb,hb,hi⟩:=h.nobuf l k (by rw [hg]; simp)
  have:=h.blk l k bb (h.norm.m_lt hm) hb
  cases bb with
  | buf e sz fr=>rw [this.2] at hm; cases hm
  | mbuf e sz cs n=>rw [this.2] at hm; cases hm
  | _=>cases hi
section ops
variable {P:Program} {T:TT} {o:Oper} {ρ:Operand → AV}
theorem run_loadVar' {t:TypeId} {r:TRow} {d:TypeDesc} {i:TypeInfo} {z:Value} (hf:RowFacts P t r d i z) {b off:Nat} {cs:List Value} {w:World} (hc:∀ j u,cs[j]? = some u → w.cell? ⟨b,off + j,none⟩ = some u)
  (hl:r.size ≤ cs.length) (h1:r.isAgg = false → 0 < cs.length) :
  (loadVar t ⟨b,off,none⟩).run P w = .ok (if r.isAgg then .agg (cs.take r.size).toArray else cs.getD 0 undef) w:=by
 unfold loadVar
 cases hag:r.isAgg with
 | true =>
  have:=run_loadCells_list (P:=P) w ⟨b,off,none⟩ (cs.take r.size) (fun j v hj=>by
   rw [addr_add_lit]
   exact hc j v (by
    rcases Nat.lt_or_ge j r.size with h | h
    ·rwa [List.getElem?_take_of_lt h] at hj
    ·rw [List.getElem?_take,if_neg (by omega)] at hj; cases hj))
  rw [List.length_take,Nat.min_eq_left hl] at this
  simp only [Sem.run_bind,run_isAgg' hf,hag,Result.andThen_ok,if_true,run_sizeOf' hf,this,Sem.run_pure]
 | false =>
  have h0:=h1 hag
  have hx:cs[0]? = some cs[0]:=List.getElem?_eq_getElem h0
  have:=hc 0 _ hx
  simp only [Nat.add_zero] at this
  simp [run_isAgg' hf,hag,this,List.getD_eq_getElem?_getD,hx]
theorem VR_loaded {E:Env} {cs:List AV} {vs:List Value} {r:TRow} (hv:VRs E cs vs) (h1:r.isAgg = false → 0 < cs.length) :
  VR E (if r.isAgg then .agg (cs.take r.size) else cs.getD 0 .dead) (if r.isAgg then .agg (vs.take r.size).toArray else vs.getD 0 undef):=by
 cases hag:r.isAgg with
 | true =>
  have:=hv.take r.size
  simp only [if_true]
  exact .agg _ _ this.1 this.2
 | false =>
  have h0:=h1 hag
  simp only [Bool.false_eq_true,if_false]
  have h2:0 < vs.length:=by rw [hv.1]; exact h0
  have:=hv.2 0 h0 h2
  simpa [List.getD_eq_getElem?_getD,List.getElem?_eq_getElem h0,List.getElem?_eq_getElem h2] using this
theorem or_load_iptr {m:Nat} {H:AHeap} {t:TypeId} {x:Operand} {r:TRow} {cs:List AV} (hT:TOK P T) (ho:o.op = .load t x) (h1:T t = some r) (hv:ρ x = .iptr cs) (hl:r.size ≤ cs.length) (h0:r.isAgg = false → 0 < cs.length) :
  OpRun P m o ρ H (if r.isAgg then .agg (cs.take r.size) else cs.getD 0 .dead) H:=fun E w a hr hops=>by
 have hx:=hops x (by simp [ho,Op.operands])
 rw [hv] at hx
 obtain ⟨d,i,z,hf⟩:=rowOK_facts (hT t r h1)
 have he:execOp a.eval o = (do let v ← Instr.loadAt t (a.eval x); pure (Next.value v)):=by simp only [execOp,ho]
 generalize hy:a.eval x = y at hx
 cases hx with | iptr _ b off c hc hcv =>
 have hvs:VRs E cs ((List.range cs.length).map c):=⟨by simp,fun j h1 h2=>by simpa using hcv j h1⟩
 have hcell:∀ j u,((List.range cs.length).map c)[j]? = some u → w.cell? ⟨b,off + j,none⟩ = some u:=fun j u hj=>by
  rw [List.getElem?_map] at hj
  rcases Nat.lt_or_ge j cs.length with h | h
  ·rw [List.getElem?_range h] at hj
   simp only [Option.map_some,Option.some.injEq] at hj
   subst hj
   exact hr.F _ _ _ (hc j h)
  ·rw [List.getElem?_eq_none (by simpa using h)] at hj; cases hj
 have hrun:=run_loadVar' (P:=P) hf hcell (by simpa using hl) (by simpa using h0)
 refine ⟨_,E,w,.inl ?_,VR_loaded hvs h0,hr,.refl m E w⟩
 rw [he,hy]
 simp only [Instr.loadAt,Instr.sureAddr,Sem.run_bind,Sem.run_pure,Result.andThen_ok,hrun]
theorem or_load_ptr {m:Nat} {H:AHeap} {t:TypeId} {x:Operand} {r:TRow} {l k off:Nat} {cs:List AV} (hT:TOK P T) (ho:o.op = .load t x) (h1:T t = some r) (hv:ρ x = .ptr l k off) (hH:H l k = some (.box cs))
  (hl:off + r.size ≤ cs.length) (h0:r.isAgg = false → off < cs.length) :
  OpRun P m o ρ H (if r.isAgg then .agg ((cs.drop off).take r.size) else (cs.drop off).getD 0 .dead) H:=fun E w a hr hops=>by
 have hx:=hops x (by simp [ho,Op.operands])
 rw [hv] at hx
 obtain ⟨d,i,z,hf⟩:=rowOK_facts (hT t r h1)
 have he:execOp a.eval o = (do let v ← Instr.loadAt t (a.eval x); pure (Next.value v)):=by simp only [execOp,ho]
 generalize hy:a.eval x = y at hx
 cases hx with | ptr _ _ _ b hm =>
 obtain ⟨b',hm',c,t',hcc,hvs⟩:=hr.box l k cs (hr.norm.m_lt hm) hH
 rw [hm] at hm'
 cases hm'
 have hcell:∀ j u,(c.toList.drop off)[j]? = some u → w.cell? ⟨b,off + j,none⟩ = some u:=fun j u hj=>by
  rw [List.getElem?_drop] at hj
  simp only [World.cell?,hcc]
  simpa using hj
 have hlen:=hvs.1
 have hrun:=run_loadVar' (P:=P) hf hcell (by rw [List.length_drop]; omega) (fun h=>by rw [List.length_drop]; have:=h0 h; omega)
 refine ⟨_,E,w,.inl ?_,VR_loaded (hvs.drop off) (fun h=>by rw [List.length_drop]; have:=h0 h; omega),hr,.refl m E w⟩
 rw [he,hy]
 simp only [Instr.loadAt,Instr.sureAddr,Sem.run_bind,Sem.run_pure,Result.andThen_ok,hrun]
theorem or_store {m:Nat} {H:AHeap} {t:TypeId} {x y:Operand} {r:TRow} {l k off:Nat} {cs:List AV} {v:AV} (hT:TOK P T) (ho:o.op = .store t x y) (h1:T t = some r) (hx:ρ x = .ptr l k off) (hy:ρ y = v) (hH:H l k = some (.box cs))
  (hvl:v.cells.length = r.size) (hone:∀ c ∈ v.cells,c.one = true) (hl:off + r.size ≤ cs.length) :
  OpRun P m o ρ H (.tup []) (H.upd l k (.box (splice cs off v.cells))):=fun E w a hr hops=>by
 have hxv:=hops x (by simp [ho,Op.operands])
 have hyv:=hops y (by simp [ho,Op.operands])
 rw [hx] at hxv
 rw [hy] at hyv
 obtain ⟨d,i,z,hf⟩:=rowOK_facts (hT t r h1)
 have he:execOp a.eval o = (do Instr.storeAt t (a.eval x) (a.eval y); pure .skip):=by simp only [execOp,ho]
 generalize hp:a.eval x = p at hxv
 cases hxv with | ptr _ _ _ b hm =>
 obtain ⟨b',hm',c,t',hcc,hvs⟩:=hr.box l k cs (hr.norm.m_lt hm) hH
 rw [hm] at hm'
 cases hm'
 have hcv:=hyv.cells hone
 have hus:(a.eval y).cells.toList.length = r.size:=hcv.1.trans hvl
 have hlen:=hvs.1
 have hst:=run_storeCells_at P b off t' (a.eval y).cells.toList 0 c w hcc (by rw [hus]; simp at hlen; omega) (fun u hu=>by
  obtain ⟨j,hj,rfl⟩:=List.getElem_of_mem hu
  exact (hcv.2 j (by rw [← hcv.1]; exact hj) hj).one (hone _ (List.getElem_mem _)))
 simp only [Nat.add_zero] at hst
 obtain ⟨hh,hx'⟩:=hr.turn (w':=w.setRow b (c.toList.take off ++ (a.eval y).cells.toList ++ c.toList.drop (off + (a.eval y).cells.toList.length)).toArray) (.inl hm) (.box (splice cs off v.cells)) (fun hg=>absurd (hr.m_g hm) hg) rfl rfl rfl (fun _=>Nat.le_refl _) (by simp [World.setRow])
  (fun b' hb'=>setRow_other w b b' _ hb') (fun o=>hr.mF _ _ _ o hm) ⟨b,hm,_,t',setRow_heap w b c _ t' (0,0) hcc,by
   unfold splice
   rw [hus,hvl,List.append_assoc]
   exact (hvs.take off).append (hcv.append (hvs.drop _))⟩
 refine ⟨undef,E,_,.inr ⟨?_,rfl⟩,VR_undef E,hh,hx'⟩
 rw [he,hp]
 simp only [Instr.storeAt,Instr.sureAddr,storeVar,Sem.run_bind,Sem.run_pure,Result.andThen_ok,run_sizeOf' hf]
 rw [if_neg (by simp at hus; simp [hus])]
 simp only [hst,Result.andThen_ok]
theorem HRel.mrow {m:Nat} {H:AHeap} {E:Env} {w:World} (h:HRel m H E w) {l k n g cap e sz:Nat} {cs:List AV} (hh:E.hist l k n = some (.slice (some ⟨g,0,none⟩) n cap)) (hH:H l k = some (.mbuf e sz cs n)) (hn:0 < n) :
  ∃ cur,E.g l k = some g ∧ w.heap[g]? = some (.cells cur e (0,0)) ∧ n ≤ cap ∧ cap ≤ maxLen ∧ cur.size = cap * sz ∧ (∀ o,E.F g o = none) ∧ VRs E cs (cur.toList.take (n * sz)) ∧ cs.length = n * sz:=by
 obtain ⟨⟨h0,v,h1,h2,h3⟩,_⟩:=h.mbuf l k e sz cs n (h.norm.hist_lt hh) hH
 rw [hh] at h1
 cases h1
 rcases h3 with ⟨a,q1,q2,_⟩ | ⟨g',cap',cur,q1,q2,q3,q4,q5,q6,q7,q8⟩
 ·omega
 ·cases q1
  exact ⟨cur,q2,q3,q4,q5,q6,q7,q8,h0⟩
theorem or_load_eptr {m:Nat} {H:AHeap} {t:TypeId} {x:Operand} {r:TRow} {l k n off e sz:Nat} {cs:List AV} (hT:TOK P T) (ho:o.op = .load t x) (h1:T t = some r) (hv:ρ x = .eptr l k n off) (hH:H l k = some (.mbuf e sz cs n)) (hn:0 < n)
  (hl:off + r.size ≤ cs.length) (h0:r.isAgg = false → off < cs.length) :
  OpRun P m o ρ H (if r.isAgg then .agg ((cs.drop off).take r.size) else (cs.drop off).getD 0 .dead) H:=fun E w a hr hops=>by
 have hx:=hops x (by simp [ho,Op.operands])
 rw [hv] at hx
 obtain ⟨d,i,z,hf⟩:=rowOK_facts (hT t r h1)
 have he:execOp a.eval o = (do let v ← Instr.loadAt t (a.eval x); pure (Next.value v)):=by simp only [execOp,ho]
 generalize hy:a.eval x = y at hx
 cases hx with | eptr _ _ _ _ g cap hh =>
 obtain ⟨cur,q1,q2,q3,q4,q5,q6,q7,q8⟩:=hr.mrow hh hH hn
 have hcell:∀ j u,((cur.toList.take (n * sz)).drop off)[j]? = some u → w.cell? ⟨g,off + j,none⟩ = some u:=fun j u hj=>by
  rw [List.getElem?_drop] at hj
  simp only [World.cell?,q2]
  rcases Nat.lt_or_ge (off + j) (n * sz) with h | h
  ·rw [List.getElem?_take_of_lt h] at hj; simpa using hj
  ·rw [List.getElem?_take,if_neg (by omega)] at hj; cases hj
 have hlen:=q7.1
 have hrun:=run_loadVar' (P:=P) hf hcell (by rw [List.length_drop]; omega) (fun h=>by rw [List.length_drop]; have:=h0 h; omega)
 refine ⟨_,E,w,.inl ?_,VR_loaded (q7.drop off) (fun h=>by rw [List.length_drop]; have:=h0 h; omega),hr,.refl m E w⟩
 rw [he,hy]
 simp only [Instr.loadAt,Instr.sureAddr,Sem.run_bind,Sem.run_pure,Result.andThen_ok,hrun]
theorem or_store_eptr {m:Nat} {H:AHeap} {t:TypeId} {x y:Operand} {r:TRow} {l k n off e sz:Nat} {cs:List AV} {v:AV} (hT:TOK P T) (ho:o.op = .store t x y) (h1:T t = some r) (hx:ρ x = .eptr l k n off) (hy:ρ y = v) (hH:H l k = some (.mbuf e sz cs n)) (hn:0 < n)
  (hvl:v.cells.length = r.size) (hone:∀ c ∈ v.cells,c.one = true) (hl:off + r.size ≤ cs.length) :
  OpRun P m o ρ H (.tup []) (H.upd l k (.mbuf e sz (splice cs off v.cells) n)):=fun E w a hr hops=>by
 have hxv:=hops x (by simp [ho,Op.operands])
 have hyv:=hops y (by simp [ho,Op.operands])
 rw [hx] at hxv
 rw [hy] at hyv
 obtain ⟨d,i,z,hf⟩:=rowOK_facts (hT t r h1)
 have he:execOp a.eval o = (do Instr.storeAt t (a.eval x) (a.eval y); pure .skip):=by simp only [execOp,ho]
 generalize hp:a.eval x = p at hxv
 cases hxv with | eptr _ _ _ _ g cap hh =>
 obtain ⟨c,q1,q2,q3,q4,q5,q6,q7,q8⟩:=hr.mrow hh hH hn
 have hcv:=hyv.cells hone
 have hus:(a.eval y).cells.toList.length = r.size:=hcv.1.trans hvl
 have hlen:=q7.1
 have hle:n * sz ≤ cap * sz:=Nat.mul_le_mul_right _ q3
 have hst:=run_storeCells_at P g off e (a.eval y).cells.toList 0 c w q2 (by rw [hus]; omega) (fun u hu=>by
  obtain ⟨j,hj,rfl⟩:=List.getElem_of_mem hu
  exact (hcv.2 j (by rw [← hcv.1]; exact hj) hj).one (hone _ (List.getElem_mem _)))
 simp only [Nat.add_zero] at hst
 have hsl:(splice cs off v.cells).length = cs.length:=by simp only [splice,List.length_append,List.length_take,List.length_drop]; omega
 obtain ⟨⟨_,v0,hv0,hj0,_⟩,hm0⟩:=hr.mbuf l k e sz cs n (hr.norm.hist_lt hh) hH
 rw [hh] at hv0
 cases hv0
 obtain ⟨hh2,hx'⟩:=hr.turn (w':=w.setRow g (c.toList.take off ++ (a.eval y).cells.toList ++ c.toList.drop (off + (a.eval y).cells.toList.length)).toArray) (.inr q1) (.mbuf e sz (splice cs off v.cells) n) (fun _=>rfl) rfl rfl rfl (fun _=>Nat.le_refl _) (by simp [World.setRow])
  (fun b' hb'=>setRow_other w g b' _ hb') q6 ⟨⟨by rw [hsl,q8],_,hh,hj0,.inr ⟨g,cap,_,rfl,q1,setRow_heap w g c _ e (0,0) q2,q3,q4,by simp only [List.size_toArray,List.length_append,List.length_take,List.length_drop,Array.length_toList] at hus hlen hle ⊢; omega,q6,by
   have e1:((c.toList.take off ++ (a.eval y).cells.toList ++ c.toList.drop (off + (a.eval y).cells.toList.length)).toArray.toList).take (n * sz) =
     (c.toList.take (n * sz)).take off ++ ((a.eval y).cells.toList ++ (c.toList.take (n * sz)).drop (off + r.size)):=by
    rw [List.toList_toArray,hus,List.append_assoc,List.take_append,List.take_append,List.take_take,List.take_take,List.drop_take]
    have h1:min off (n * sz) = off:=by omega
    have h2:min (n * sz) off = off:=by omega
    have h3:(c.toList.take off).length = off:=by rw [List.length_take]; simp; omega
    rw [h1,h2,h3,hus,List.take_of_length_le (l:=(a.eval y).cells.toList) (by omega),show n * sz - off - r.size = n * sz - (off + r.size) by omega]
   rw [e1]
   unfold splice
   rw [hvl]
   exact (q7.take off).append (hcv.append (q7.drop _))⟩⟩,hm0⟩
 refine ⟨undef,E,_,.inr ⟨?_,rfl⟩,VR_undef E,hh2,hx'⟩
 rw [he,hp]
 simp only [Instr.storeAt,Instr.sureAddr,storeVar,Sem.run_bind,Sem.run_pure,Result.andThen_ok,run_sizeOf' hf]
 rw [if_neg (by simp at hus; simp [hus])]
 simp only [hst,Result.andThen_ok]
theorem newVar_run {t:TypeId} {v:Value} {w:World}:(newVar t v).run P w = .ok ⟨w.heap.size,0,none⟩ (w.alloc (.cells v.cells t)):=by
 simp [newVar,newRow,newObj,Sem.run]
theorem newBox {m:Nat} {H:AHeap} {E:Env} {w:World} (h:HRel m H E w) {l k:Nat} (hl:l < m) (hfree:H l k = none) {cs:List AV} {v:Value} (hv:VRs E cs v.cells.toList) (t:TypeId) :
  HRel m (H.upd l k (.box cs)) (E.setM l k w.heap.size) (w.alloc (.cells v.cells t)) ∧ Ext m E w (E.setM l k w.heap.size) (w.alloc (.cells v.cells t)):=by
 have hle:E.le m (E.setM l k w.heap.size):=by
  obtain ⟨d1,_,_⟩:=h.dom l k hl hfree
  exact ⟨fun _ _ _ h=>h,fun l' k' b _ hm=>by
   simp only [Env.setM]
   rw [if_neg (fun hc=>by rw [hc.1,hc.2,d1] at hm; cases hm)]; exact hm,fun _ _ _ _ _ h=>h,rfl⟩
 exact h.newSlot hl hfree _ (.box cs) ⟨w.heap.size,by simp [Env.setM],v.cells,t,heap_alloc_new w _,hv.mono h.norm hle⟩
theorem or_box {m:Nat} {H:AHeap} {t:TypeId} {x:Operand} {l k:Nat} {v:AV} (ho:o.op = .box t x) (hx:ρ x = v) (hone:∀ c ∈ v.cells,c.one = true) (hl:l < m) (hfree:H l k = none) :
  OpRun P m o ρ H (.ptr l k 0) (H.upd l k (.box v.cells)):=fun E w a hr hops=>by
 have hxv:=hops x (by simp [ho,Op.operands])
 rw [hx] at hxv
 have he:execOp a.eval o = (do let v ← Instr.box t (a.eval x); pure (Next.value v)):=by simp only [execOp,ho]
 obtain ⟨hh,hxx⟩:=newBox hr hl hfree (hxv.cells hone) t
 refine ⟨.pointer (some ⟨w.heap.size,0,none⟩),_,_,.inl ?_,.ptr l k 0 _ (by simp [Env.setM]),hh,hxx⟩
 rw [he]
 simp only [Instr.box,Sem.run_bind,newVar_run,Sem.run_pure,Result.andThen_ok]
theorem or_alloc {m:Nat} {H:AHeap} {t:TypeId} {l k:Nat} {r:TRow} (hT:TOK P T) (ho:o.op = .alloc t) (h1:T t = some r) (hl:l < m) (hfree:H l k = none) :
  OpRun P m o ρ H (.ptr l k 0) (H.upd l k (.box r.zero)):=fun E w a hr hops=>by
 obtain ⟨d,i,z,hf⟩:=rowOK_facts (hT t r h1)
 have he:execOp a.eval o = (do let v ← Instr.alloc t true (.tuple #[]); pure (Next.value v)):=by simp only [execOp,ho]
 obtain ⟨hh,hxx⟩:=newBox hr hl hfree (fitsAll_VRs hf.zfits) t
 refine ⟨.pointer (some ⟨w.heap.size,0,none⟩),_,_,.inl ?_,.ptr l k 0 _ (by simp [Env.setM]),hh,hxx⟩
 rw [he]
 simp only [Instr.alloc,Sem.run_bind,run_zeroValue' hf,newVar_run,Sem.run_pure,Result.andThen_ok]
end ops
end Go.Abs

/- Calls; a function's body; regions as goals. No program, no condition. -/
namespace Go.Abs
structure Fun (P:Program) (f:FuncId) (fn:Func) (c:Code):Prop where
 get:P.funcs[f]? = some fn
 body:fn.body = some c
 name : (fn.name == "runtime.NumGoroutine") = false
theorem callFunc_run {P:Program} {f:FuncId} {fn:Func} {c:Code} (h:Fun P f fn c) (args:Array Value) (w:World):(callFunc f args).run P w = .ok (.enter f args) w:=by
 have hn:=h.name
 simp only [beq_eq_false_iff_ne,ne_eq] at hn
 simp [callFunc,program,Sem.run,h.get,h.body,hn]
theorem callsIn_fr {P:Program} {ro:Option Nat} {n:Nat} {f:FuncId} {args:Array Value} {w:World} {R:Ending → World → Prop} (h:Calls P f args w R):CallsIn (fr ro) n P f args w R :=
 (callsIn_wide (n:=n)).2 h
theorem depth_fr {ro:Option Nat} {p:Prop}:(fr ro).depth.isSome = true → p:=fun h=>by cases h
theorem os_callv {P:Program} {m:Nat} {o:Oper} {ρ:Operand → AV} {H H':AHeap} {f:FuncId} {fn:Func} {c:Code} {g:Operand} {caps:List AV} {args:Array Operand} {ts:Array TypeId} {r:AV} (hf:Fun P f fn c)
  (ho:o.op = .call { callee:=.value g,args:=args,argTypes:=ts }) (hg:ρ g = .fn (.func f) caps) (as:List AV) (has:∀ E (a:Act),(∀ x ∈ args,VR E (ρ x) (a.eval x)) → VRs E as (args.toList.map a.eval))
  (hc:ACalls P m f (as ++ caps) H (fun r' H1=>r' = r ∧ H1 = H')):OpSem P m o ρ H r H':=fun E w a Q K hr hops hk ro=>by
 have hgv:=hops g (by rw [ho]; simp [Op.operands,Call.operands])
 rw [hg] at hgv
 have he:execOp a.eval o = (do let d ← resolve a.eval { callee:=.value g,args:=args,argTypes:=ts } o.type; invoke d.target d.args):=by simp only [execOp,ho]
 generalize hy:a.eval g = y at hgv
 cases hgv with | fn _ _ vs hl hvs =>
 have hrun:(execOp a.eval o).run P w = .ok (.enter f (args.map a.eval ++ vs.toArray)) w:=by
  rw [he]
  simp [resolve,hy,Deferred.ofValue,invoke,callFunc_run hf]
 refine wpIn_of_run hrun (fun _ e=>by cases e) ⟨depth_fr,callsIn_fr ?_⟩
 have h1:=hc E w (args.toList.map a.eval ++ vs) hr ((has E a (fun x hx=>hops x (by rw [ho]; simp [Op.operands,Call.operands,hx]))).append ⟨hl,hvs⟩)
 rw [show (args.toList.map a.eval ++ vs).toArray = args.map a.eval ++ vs.toArray by rw [← List.append_toArray,← Array.toList_map]] at h1
 refine h1.mono ?_
 rintro e w' ⟨r',v,H1,E',rfl,⟨rfl,rfl⟩,hv,hh,hx⟩
 exact hk E' w' v hv hh hx
def AYields (P:Program) (m:Nat) (l:Nat) (args:List AV) (H:AHeap) (Q:AV → AHeap → Prop):Prop :=
 ∀ E w vs,HRel m H E w → VRs E args vs → ∃ fn tmps ca cb,(Instr.yield l vs.toArray).run P w = .ok (.round l fn tmps ca cb) w ∧
  ∀ ro n,RoundIn (fr ro) n P l fn tmps ca cb w fun e w'=>∃ r v H' E',e = .returned v ∧ Q r H' ∧ VR E' r v ∧ HRel m H' E' w' ∧ Ext m E w E' w'
theorem AYields.mono {P:Program} {m l:Nat} {args:List AV} {H:AHeap} {Q Q':AV → AHeap → Prop} (h:AYields P m l args H Q) (hq:∀ r H',Q r H' → Q' r H'):AYields P m l args H Q':=fun E w vs hr hv=>by
 obtain ⟨fn,tmps,ca,cb,h1,h2⟩:=h E w vs hr hv
 exact ⟨fn,tmps,ca,cb,h1,fun ro n=>(h2 ro n).mono fun e w' ⟨r,v,H',E',he,hQ,rest⟩=>⟨r,v,H',E',he,hq _ _ hQ,rest⟩⟩
inductive WkS:AV → AV → Prop
 | refl (v:AV):WkS v v
 | nil (k k':Nat) (o:Own):WkS (.sl k [] o) (.sl k' [] .any)
 | sl (k:Nat) (xs ys:List AV) (o:Own) (hl:ys.length = xs.length) (h:∀ i (h:i < xs.length) (h':i < ys.length),WkS xs[i] ys[i]):WkS (.sl k xs o) (.sl k ys .any)
 | agg (as bs:List AV) (hl:bs.length = as.length) (h:∀ i (h:i < as.length) (h':i < bs.length),WkS as[i] bs[i]):WkS (.agg as) (.agg bs)
 | ssl (k:Nat) (xs zs ys:List AV) (hl:ys.length = xs.length) (h:∀ i (h:i < xs.length) (h':i < ys.length),WkS xs[i] ys[i]):WkS (.ssl k xs zs) (.sl k ys .any)
 | sem (a b:AV) (ha:a.cells = [a]) (hb:b.cells = [b]) (h:∀ E v,VR E a v → VR E b v):WkS a b
def WkSs:List AV → List AV → Prop
 | [],[]=>True
 | a :: as,b :: bs=>WkS a b ∧ WkSs as bs
 | _,_=>False
theorem WkSs.len:∀ {as bs:List AV},WkSs as bs → bs.length = as.length
 | [],[],_=>rfl
 | a :: as,b :: bs,h=>by rw [List.length_cons,List.length_cons,WkSs.len h.2]
 | [],_ :: _,h=>h.elim
 | _ :: _,[],h=>h.elim
theorem WkSs.get:∀ {as bs:List AV},WkSs as bs → ∀ i (h:i < as.length) (h':i < bs.length),WkS as[i] bs[i]
 | a :: as,b :: bs,h,0,_,_=>h.1
 | a :: as,b :: bs,h,i + 1,h1,h2=>by
  simp only [List.getElem_cons_succ]
  exact WkSs.get h.2 i (by simpa using h1) (by simpa using h2)
theorem WkS.aggL {as bs:List AV} (h:WkSs as bs):WkS (.agg as) (.agg bs):=.agg as bs h.len h.get
theorem WkS.slL {k:Nat} {as bs:List AV} {o:Own} (h:WkSs as bs):WkS (.sl k as o) (.sl k bs .any):=.sl k as bs o h.len h.get
theorem WkS.both {E:Env} {a b:AV} (h:WkS a b):(∀ v,VR E a v → VR E b v) ∧ a.cells.length = b.cells.length ∧ ∀ j (h:j < a.cells.length) (h':j < b.cells.length) v,VR E a.cells[j] v → VR E b.cells[j] v:=by
 induction h with
 | refl v=>exact ⟨fun _ h=>h,rfl,fun _ _ _ _ h=>h⟩
 | nil k k' o =>
  have h1:∀ v,VR E (.sl k [] o) v → VR E (.sl k' [] .any) v:=fun v hv=>(VR_nil_any hv).any
  refine ⟨h1,rfl,fun j h h' v hv=>?_⟩
  cases j with
  | zero=>exact h1 v hv
  | succ j=>simp [AV.cells] at h
 | sl k xs ys o hl h ih =>
  have h1:∀ v,VR E (.sl k xs o) v → VR E (.sl k ys .any) v:=by
   intro v hv
   cases hv with
   | slnil _ _ a ho ha =>
    have:ys = []:=List.eq_nil_of_length_eq_zero hl
    subst this; exact .slnil k .any a trivial (fun h=>absurd rfl h)
   | sl _ _ _ b off cap c hk hc hv hcap hm ho =>
    rw [← hl]
    refine .sl k ys .any b off cap c (fun i hi=>?_) (fun i j hi hj=>hc i j (by omega) hj) (fun i hi j hj=>?_) (by omega) (by omega) trivial
    ·rw [← (ih i (by omega) hi).2.1]; exact hk i (by omega)
    ·have hi':i < xs.length:=by omega
     have:=(ih i hi' hi).2
     exact this.2 j (by rw [this.1]; exact hj) hj _ (hv i hi' j (by rw [this.1]; exact hj))
  refine ⟨h1,rfl,fun j h h' v hv=>?_⟩
  cases j with
  | zero=>exact h1 v hv
  | succ j=>simp [AV.cells] at h
 | agg as bs hl h ih =>
  refine ⟨fun v hv=>?_,hl.symm,fun j h h' v hv=>(ih j h h').1 v hv⟩
  cases hv with
  | agg _ vs hvl hv=>exact .agg bs vs (hvl.trans hl.symm) fun i hi hi'=>(ih i (by omega) hi).1 _ (hv i (by omega) hi')
 | ssl k xs zs ys hl h ih =>
  have h1:∀ v,VR E (.ssl k xs zs) v → VR E (.sl k ys .any) v:=by
   intro v hv
   cases hv with
   | ssl _ _ _ b off cap c hk hc hv hcap hm =>
    have hla:xs.length ≤ (xs ++ zs).length:=by simp
    have hg:∀ i (hi:i < xs.length),(xs ++ zs)[i]'(by omega) = xs[i]:=fun i hi=>List.getElem_append_left hi
    rw [← hl]
    refine .sl k ys .any b off cap c (fun i hi=>?_) (fun i j hi hj=>hc i j (by omega) hj) (fun i hi j hj=>?_) (by omega) (by omega) trivial
    ·rw [← (ih i (by omega) hi).2.1,← hg i (by omega)]; exact hk i (by omega)
    ·have hi':i < xs.length:=by omega
     have:=(ih i hi' hi).2
     have hx:=hv i (by omega)
     simp only [hg i hi'] at hx
     exact this.2 j (by rw [this.1]; exact hj) hj _ (hx j (by rw [this.1]; exact hj))
  refine ⟨h1,rfl,fun j h h' v hv=>?_⟩
  cases j with
  | zero=>exact h1 v hv
  | succ j=>simp [AV.cells] at h
 | sem a b ha hb h =>
  refine ⟨h E,by rw [ha,hb]; rfl,fun j h1 h2 v hv=>?_⟩
  simp only [ha,hb] at hv h1 h2 ⊢
  cases j with
  | zero=>exact h E v hv
  | succ j=>simp at h1
inductive Wk:AV → AV → Prop
 | refl (v:AV):Wk v v
 | any (k:Nat) (xs:List AV) (o:Own):Wk (.sl k xs o) (.sl k xs .any)
 | nil (k k':Nat) (o:Own):Wk (.sl k [] o) (.sl k' [] .any)
 | dead (v:AV):Wk v .dead
 | deep {a b:AV} (h:WkS a b):Wk a b
 | sem {a b:AV} (h:∀ E v,VR E a v → VR E b v):Wk a b
theorem Wk.vr {E:Env} {a b:AV} {v:Value} (h:Wk a b) (hv:VR E a v):VR E b v:=by
 cases h with
 | refl=>exact hv
 | any=>exact hv.any
 | nil=>exact (VR_nil_any hv).any
 | dead=>exact .dead v
 | deep h=>exact h.both.1 v hv
 | sem h=>exact h E v hv
def Wks:List AV → List AV → Prop
 | [],[]=>True
 | a :: as,b :: bs=>Wk a b ∧ Wks as bs
 | _,_=>False
def resA (tm:List (Nat × AV)) (H:AHeap) (n:Nat) (L:List (Nat × ABlk)) (T:TT):ResultVar → AV
 | .tmp t=>lkv tm t
 | .cell t ty=>match lkv tm t with
  | .ptr l k off=>match full n L H l k,T ty with
   | some (.box cs),some r=>if off + r.size ≤ cs.length ∧ (r.isAgg = false → off < cs.length) then (if r.isAgg then .agg ((cs.drop off).take r.size) else (cs.drop off).getD 0 .dead) else .dead
   | _,_=>.dead
  | _=>.dead
def okRes (tm:List (Nat × AV)) (H:AHeap) (n:Nat) (L:List (Nat × ABlk)) (T:TT):ResultVar → Prop
 | .tmp _=>True
 | .cell t ty=>∃ l k off cs r,lkv tm t = .ptr l k off ∧ full n L H l k = some (.box cs) ∧ T ty = some r ∧ off + r.size ≤ cs.length ∧ (r.isAgg = false → off < cs.length)
def tupR:List AV → AV
 | [v]=>v
 | vs=>.tup vs
def resOne (tmps:Array Value):ResultVar → Sem Value
 | .tmp t=>pure (tmps.getD t undef)
 | .cell x t=>do loadVar t (← asAddr (tmps.getD x undef))
theorem results_eq (fn:Func) (tmps:Array Value):results fn tmps = (do
  let vs ← fn.results.mapM (resOne tmps)
  pure (if h:vs.size = 1 then vs[0] else .tuple vs)):=by
 unfold results
 congr 1
theorem results_run {P:Program} {T:TT} (hT:TOK P T) {B n N:Nat} {s:AState} {E:Env} {a:Act} {w:World} (hs:SRel B n N s E a w):∀ (l:List ResultVar),(∀ x ∈ l,okRes s.tmps s.H n s.L T x) →
  ∃ vs:List Value,(l.mapM (m:=Sem) (resOne a.tmps)).run P w = .ok vs w ∧ VRs E (l.map (resA s.tmps s.H n s.L T)) vs
 | [],_=>⟨[],rfl,VRs.nil E⟩
 | x :: l,h=>by
  obtain ⟨vs,h1,h2⟩:=results_run hT hs l (fun y hy=>h y (List.mem_cons_of_mem _ hy))
  have hx:=h x (by simp)
  cases x with
  | tmp t =>
   refine ⟨a.tmps.getD t undef :: vs,?_,VRs.cons (hs.tmps t) h2⟩
   rw [List.mapM_cons]
   simp only [resOne,Sem.run_bind,Sem.run_pure,Result.andThen_ok,h1]
  | cell t ty =>
   obtain ⟨l1,k,off,cs,r,e1,e2,e3,e4,e5⟩:=hx
   obtain ⟨d,i,z,hf⟩:=rowOK_facts (hT ty r e3)
   have hp:=hs.tmps t
   rw [e1] at hp
   generalize hy:a.tmps.getD t undef = y at hp
   cases hp with | ptr _ _ _ b hm =>
   obtain ⟨b',hm',c,t',hcc,hvs⟩:=hs.heap.box l1 k cs (hs.heap.norm.m_lt hm) e2
   rw [hm] at hm'
   cases hm'
   have hcell:∀ j u,(c.toList.drop off)[j]? = some u → w.cell? ⟨b,off + j,none⟩ = some u:=fun j u hj=>by
    rw [List.getElem?_drop] at hj
    simp only [World.cell?,hcc]
    simpa using hj
   have hlen:=hvs.1
   have hrun:=run_loadVar' (P:=P) hf hcell (by rw [List.length_drop]; omega) (fun h=>by rw [List.length_drop]; have:=e5 h; omega)
   have hvr:=VR_loaded (r:=r) (hvs.drop off) (fun h=>by rw [List.length_drop]; have:=e5 h; omega)
   refine ⟨_ :: vs,?_,VRs.cons (v:=if r.isAgg then .agg ((c.toList.drop off).take r.size).toArray else (c.toList.drop off).getD 0 undef) ?_ h2⟩
   ·rw [List.mapM_cons]
    have hasa:(asAddr (Value.pointer (some ⟨b,off,none⟩))).run P w = .ok ⟨b,off,none⟩ w:=rfl
    simp only [resOne,Sem.run_bind,hy,hasa,Sem.run_pure,Result.andThen_ok,hrun,h1]
   ·have:resA s.tmps s.H n s.L T (.cell t ty) = if r.isAgg then .agg ((cs.drop off).take r.size) else (cs.drop off).getD 0 .dead:=by
     simp only [resA,e1,e2,e3]; rw [if_pos ⟨e4,e5⟩]
    rw [this]; exact hvr
def PostF (P:Program) (T:TT) (n:Nat) (rs:List ResultVar) (Q:AV → AHeap → Prop):Exit → AState → Prop
 | .normal,s | .ret,s=>(∀ x ∈ rs,okRes s.tmps s.H n s.L T x) ∧ ∃ r,Wks (rs.map (resA s.tmps s.H n s.L T)) r ∧ (∀ v ∈ r,Below n v) ∧ Q (tupR r) s.H
 | _,_=>False
def numbered:Nat → List AV → List (Nat × AV)
 | _,[]=>[]
 | i,v :: r=>(i,v) :: numbered (i + 1) r
theorem lkv_numbered:∀ (as:List AV) (i t:Nat),lkv (numbered i as) t = if i ≤ t then as.getD (t - i) .dead else .dead
 | [],i,t=>by simp [numbered,lkv]
 | v :: r,i,t=>by
  simp only [numbered,lkv]
  rw [lkv_numbered r (i + 1) t]
  by_cases h1:i = t
  ·subst h1; simp
  ·by_cases h2:i ≤ t
   ·rw [if_neg h1,if_pos (by omega),if_pos h2,show t - i = (t - (i + 1)) + 1 by omega,List.getD_cons_succ]
   ·rw [if_neg h1,if_neg (by omega),if_neg h2]
theorem forall₂_vr {E:Env}:∀ {as rs:List AV} {vs:List Value},Wks as rs → VRs E as vs → VRs E rs vs
 | [],[],_,_,h=>h
 | _ :: _,_ :: _,_,⟨h1,h2⟩,h=>by
  obtain ⟨v,r,rfl,hv,hr⟩:=h.uncons
  exact VRs.cons (h1.vr hv) (forall₂_vr h2 hr)
theorem HRel.leave {B n N:Nat} {s:AState} {E:Env} {a:Act} {w:World} (hs:SRel B n N s E a w):HRel n s.H (E.cut n) w:=by
 have h:=hs.heap
 have hfull:∀ l k,l < n → full n s.L s.H l k = s.H l k:=fun l k hl=>by simp only [full]; rw [if_neg (by omega)]
 have hcm:∀ l k b,(E.cut n).m l k = some b → l < n ∧ E.m l k = some b:=fun l k b hm=>by
  simp only [Env.cut] at hm; split at hm
  ·exact ⟨‹_›,hm⟩
  ·cases hm
 have hcg:∀ l k b,(E.cut n).g l k = some b → l < n ∧ E.g l k = some b:=fun l k b hm=>by
  simp only [Env.cut] at hm; split at hm
  ·exact ⟨‹_›,hm⟩
  ·cases hm
 refine { norm:=Env.cut_norm n E,F:=h.F,blk:=?_,dom:=?_,nobuf:=?_,inj:=?_,injg:=?_,mg:=?_,mF:=?_,lt:=?_ }
 ·intro l k b hl hH
  have hb:=hs.out l k _ hl hH
  refine (h.blk l k b (by omega) (by rw [hfull l k hl]; exact hH)).keep (by simp only [Env.cut,if_pos hl]) (by simp only [Env.cut,if_pos hl]) (fun j=>by simp only [Env.cut,if_pos hl]) (fun p hp r hr=>?_) (fun _ _=>rfl) (fun _ _ _ h=>h) (fun a ha v hv=>hv.cut (hb.1 a ha))
  simp only [Env.cut,if_pos (hb.2 p hp)]; exact hr
 ·intro l k hl hH
  obtain ⟨d1,d2,d3⟩:=h.dom l k (by omega) (by rw [hfull l k hl]; exact hH)
  simp only [Env.cut,if_pos hl]; exact ⟨d1,d2,d3⟩
 ·intro l k hg
  cases hx:(E.cut n).g l k with
  | none=>exact absurd hx hg
  | some b =>
   obtain ⟨hl,hg'⟩:=hcg l k b hx
   rw [← hfull l k hl]; exact h.nobuf l k (by rw [hg']; simp)
 ·intro l k l' k' b h1 h2; exact h.inj _ _ _ _ _ (hcm _ _ _ h1).2 (hcm _ _ _ h2).2
 ·intro l k l' k' b h1 h2; exact h.injg _ _ _ _ _ (hcg _ _ _ h1).2 (hcg _ _ _ h2).2
 ·intro l k l' k' b h1 h2; exact h.mg _ _ _ _ _ (hcm _ _ _ h1).2 (hcg _ _ _ h2).2
 ·intro l k b o h1; exact h.mF _ _ _ _ (hcm _ _ _ h1).2
 ·intro b hb
  rcases hb with ⟨l,k,hm⟩ | ⟨l,k,hg⟩
  ·exact h.lt b (.inl ⟨l,k,(hcm _ _ _ hm).2⟩)
  ·exact h.lt b (.inr ⟨l,k,(hcg _ _ _ hg).2⟩)
theorem HRel.enter {n:Nat} {H:AHeap} {E:Env} {w:World} (hr:HRel n H E w):HRel (n + 1) (full n [] H) E w:=by
 have hc:HRel n (full n [] H) E w:=hr.congr (fun l k hl=>by simp only [full]; rw [if_neg (by omega)])
 refine { norm:=hr.norm.mono (by omega),F:=hr.F,blk:=?_,dom:=?_,nobuf:=hc.nobuf,inj:=hr.inj,injg:=hr.injg,mg:=hr.mg,mF:=hr.mF,lt:=hr.lt }
 ·intro l k b hl hH
  rcases Nat.lt_or_ge l n with h' | h'
  ·exact hc.blk l k b h' hH
  ·have:l = n:=by omega
   subst this; simp [full,lkb] at hH
 ·intro l k hl hH
  rcases Nat.lt_or_ge l n with h' | h'
  ·exact hc.dom l k h' hH
  ·exact ⟨hr.norm.m l k h',hr.norm.g l k h',fun j=>hr.norm.hist l k j h'⟩
theorem HRel.putObj {n:Nat} {H:AHeap} {E:Env} {w:World} (h:HRel n H E w) {D:Nat} {x y:Obj} (hD:w.heap[D]? = some x) (hx:∀ c t r,x ≠ .cells c t r) (ho:¬ E.own D):HRel n H E (w.putObj D y):=by
 have hF:∀ o v,E.F D o = some v → False:=fun o v hv=>by
  have:=h.F D o v hv
  simp only [World.cell?,hD] at this
  split at this
  ·rename_i e; cases e; exact hx _ _ _ rfl
  ·cases this
 refine { norm:=h.norm,F:=fun b o v hv=>?_,blk:=fun l k b hl hb=>?_,dom:=h.dom,nobuf:=h.nobuf,inj:=h.inj,injg:=h.injg,mg:=h.mg,mF:=h.mF,lt:=fun b hb=>by rw [World.putObj_size]; exact h.lt b hb }
 ·have hne:b ≠ D:=fun e=>hF o v (e ▸ hv)
  have:=h.F b o v hv
  simp only [World.cell?,World.putObj_heap_other hne] at this ⊢; exact this
 ·exact (h.blk l k b hl hb).keep rfl rfl (fun _=>rfl) (fun _ _ _ h=>h) (fun r hr=>World.putObj_heap_other (fun e=>ho (e ▸ hr.elim (fun h=>.inl ⟨_,_,h⟩) (fun h=>.inr ⟨_,_,h⟩)))) (fun _ _ _ h=>h) (fun _ _ _ h=>h)
theorem leaves_marks {P:Program} {fn:Func} {tmps:Array Value} {R:Ending → World → Prop} {m:Nat} {H:AHeap} {E:Env}:∀ (l:List Nat) (w:World),l.Nodup → (∀ D ∈ l,w.heap[D]? = some (.deferred (some [])) ∧ ¬ E.own D) → HRel m H E w →
  (∀ w2,HRel m H E w2 → (∀ b,b ∉ l → w2.heap[b]? = w.heap[b]?) → w2.os = w.os → w2.tape = w.tape → w2.output = w.output → w2.drawn = w.drawn → w2.heap.size = w.heap.size → ∃ v,(results fn tmps).run P w2 = .ok v w2 ∧ R (.returned v) w2) →
  LeavesInM Fence.wide 0 P fn tmps R (l.map mark) .returning w
 | [],w,_,_,hr,hk=>hk w hr (fun _ _=>rfl) rfl rfl rfl rfl rfl
 | D :: l,w,hn,hD,hr,hk=>by
  obtain ⟨h1,h2⟩:=hD D (by simp)
  obtain ⟨n1,n2⟩:=List.nodup_cons.1 hn
  refine ⟨by simp,.inl ⟨D,_,rfl,run_takeDeferred h1,?_⟩⟩
  refine leaves_marks l _ n2 (fun D' hD'=>?_) (hr.putObj h1 (fun _ _ _ e=>by cases e) h2) (fun w2 q1 q2 q3 q4 q5 q6 q7=>?_)
  ·obtain ⟨a1,a2⟩:=hD D' (List.mem_cons_of_mem _ hD')
   exact ⟨(World.putObj_heap_other (show D' ≠ D from fun e=>n1 (e ▸ hD'))).trans a1,a2⟩
  ·refine hk w2 q1 (fun b hb=>?_) q3 q4 q5 q6 (by rw [q7,World.putObj_size])
   simp only [List.mem_cons,not_or] at hb
   rw [q2 b hb.2,World.putObj_heap_other hb.1]
theorem acalls_of {P:Program} {T:TT} {n:Nat} {f:FuncId} {fn:Func} {c:Code} {args:List AV} {H:AHeap} {Q:AV → AHeap → Prop} (hT:TOK P T) (hf:Fun P f fn c) (hN:args.length ≤ fn.ntmps)
  (h:∀ B,AK P ⟨none,B⟩ n fn.ntmps [.code c] (PostF P T n fn.results.toList Q) ⟨numbered 0 args,[],H⟩):ACalls P n f args H Q:=fun E w vs hr hv=>by
 refine (callsIn_wide (n:=0)).1 (callsIn_of_wp_marks hf.get hf.body trivial ?_)
 have hlen:vs.length = args.length:=hv.1
 have hs:SRel w.heap.size n fn.ntmps ⟨numbered 0 args,[],H⟩ E { tmps:=vs.toArray ++ Array.replicate (fn.ntmps - vs.toArray.size) undef,defers:=[] } w:=by
  refine ⟨by simp; omega,.nil _ (Nat.le_refl _),fun t=>?_,?_,fun l k b hl hb=>hr.out hl hb⟩
  ·rw [lkv_numbered]
   simp only [Nat.zero_le,if_true,Nat.sub_zero]
   by_cases ht:t < args.length
   ·have h1:=hv.2 t ht (by omega)
    have e1:args.getD t .dead = args[t]:=by simp [List.getD_eq_getElem?_getD,List.getElem?_eq_getElem ht]
    have e2:(vs.toArray ++ Array.replicate (fn.ntmps - vs.toArray.size) undef).getD t undef = vs[t]'(by omega):=by
     rw [Array.getD_eq_getD_getElem?,Array.getElem?_append_left (by simp; omega)]
     simp [List.getElem?_eq_getElem (show t < vs.length by omega)]
    rw [e1,e2]; exact h1
   ·have e1:args.getD t .dead = .dead:=by simp [List.getD_eq_getElem?_getD,List.getElem?_eq_none (by omega:args.length ≤ t)]
    rw [e1]; exact .dead _
  ·exact hr.enter
 refine wpIn_mono (h w.heap.size E w _ hs) ?_
 rintro e a' w' ⟨s',E',hQ,hs',hx⟩
 have fin:(∀ x ∈ fn.results.toList,okRes s'.tmps s'.H n s'.L T x) ∧ (∃ r,Wks (fn.results.toList.map (resA s'.tmps s'.H n s'.L T)) r ∧ (∀ v ∈ r,Below n v) ∧ Q (tupR r) s'.H) →
   LeavesInM Fence.wide 0 P fn a'.tmps (fun e w2=>∃ r v' H' E',e = .returned v' ∧ Q r H' ∧ VR E' r v' ∧ HRel n H' E' w2 ∧ Ext n E w E' w2) a'.defers .returning w':=by
  rintro ⟨hok,r,hw,hb,hq⟩
  obtain ⟨hl0,l,hl1,hl2,hl3⟩:=hs'.defs
  rw [hl1]
  refine leaves_marks l w' hl2 (fun D hD=>(hl3 D hD).2) hs'.heap (fun w2 k1 k2 k3 k4 k5 k6 k7=>?_)
  have hs2:SRel w.heap.size n fn.ntmps s' E' { a' with defers:=[] } w2:=⟨hs'.size,.nil _ (by rw [k7]; exact hl0),hs'.tmps,k1,hs'.out⟩
  obtain ⟨us,hu1,hu2⟩:=results_run hT hs2 fn.results.toList hok
  have hvr:=forall₂_vr hw hu2
  have hvc:VRs (E'.cut n) r us:=⟨hvr.1,fun i h1 h2=>(hvr.2 i h1 h2).cut (hb _ (List.getElem_mem h1))⟩
  have hres:(results fn a'.tmps).run P w2 = .ok (if h:us.toArray.size = 1 then us.toArray[0] else .tuple us.toArray) w2:=by
   rw [results_eq,Array.mapM_eq_mapM_toList]
   simp only [Sem.run_bind,Sem.run_map,hu1,Result.andThen_ok,Sem.run_pure]
  refine ⟨_,hres,tupR r,_,s'.H,E'.cut n,rfl,hq,?_,HRel.leave hs2,⟨Env.le_cut hx.le,k3.trans hx.os,k4.trans hx.tape,k5.trans hx.output,fun hq=>by rw [k6]; exact hx.drawn hq,by rw [k7]; exact hx.size,fun b hb' ho=>?_,fun b hb' ho=>hx.own b hb' ?_⟩⟩
  ·by_cases h1:us.toArray.size = 1
   ·rw [dif_pos h1]
    cases r with
    | nil=>have:=hvc.1; simp at this h1; rw [this] at h1; simp at h1
    | cons x r =>
     cases r with
     | nil =>
      obtain ⟨v,q,rfl,h3,h4⟩:=hvc.uncons
      exact h3
     | cons y r=>have:=hvc.1; simp at this h1; omega
   ·rw [dif_neg h1]
    have:tupR r = .tup r:=by
     cases r with
     | nil=>rfl
     | cons x r =>
      cases r with
      | nil=>have:=hvc.1; simp at this h1; omega
      | cons y r=>rfl
    rw [this]; exact .tup r us hvc.1 hvc.2
  ·rw [k2 b (fun hm=>by have:w.heap.size ≤ b:=(hl3 b hm).1; omega)]
   exact hx.block b hb' ho
  ·rcases ho with ⟨l,k,hm⟩ | ⟨l,k,hm⟩
   ·simp only [Env.cut] at hm; split at hm
    ·exact .inl ⟨l,k,hm⟩
    ·cases hm
   ·simp only [Env.cut] at hm; split at hm
    ·exact .inr ⟨l,k,hm⟩
    ·cases hm
 cases e with
 | normal=>exact fin hQ
 | ret=>exact fin hQ
 | _=>exact hQ.elim
end Go.Abs
