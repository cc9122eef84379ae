/- Operations on the abstract heap: loads, stores, new variables. No program, no condition. -/
import Derived.Test.YthgbkalgmicniaaGreatDoorM02
import Derived.Laws.StructEq
import Derived.WideKeyRuns
import Derived.Laws.IdiomRangeMap
set_option linter.all false
namespace Go.Abs
def Env.Wv (E:Env) (l k b:Nat):Env:={ E with m:=fun l' k'=>if l' = l ∧ k' = k then some b else E.m l' k' }
theorem Zf.upd_same (H:Zf) (l k:Nat) (b:Zk):H.upd l k b l k = some b:=by simp [Zf.upd]
theorem Zf.upd_ne (H:Zf) {l k l' k':Nat} (b:Zk) (h:¬(l' = l ∧ k' = k)):H.upd l k b l' k' = H l' k':=by simp only [Zf.upd,if_neg h]
theorem ZJ.ZcC {m:Nat} {H:Zf} {E:Env} {w:World} (h:ZJ m H E w) {l k:Nat} (hl:l < m) (hfree:H l k = none) (ob:Obj) (blk:Zk) (hblk:Zct (E.Wv l k w.heap.size) (w.alloc ob) l k blk) :
  ZJ m (H.upd l k blk) (E.Wv l k w.heap.size) (w.alloc ob) ∧ Ext m E w (E.Wv l k w.heap.size) (w.alloc ob):=by
 obtain ⟨d1,d2,d3⟩:=h.dom l k hl hfree
 have hlt:∀ l' k' b,E.m l' k' = some b → b < w.heap.size:=fun l' k' b hm=>h.lt b (.inl ⟨l',k',hm⟩)
 have hgt:∀ l' k' b,E.g l' k' = some b → b < w.heap.size:=fun l' k' b hm=>h.lt b (.inr ⟨l',k',hm⟩)
 have hm':∀ l' k' b,(E.Wv l k w.heap.size).m l' k' = some b → (l' = l ∧ k' = k ∧ b = w.heap.size) ∨ (¬(l' = l ∧ k' = k) ∧ E.m l' k' = some b):=by
  intro l' k' b hm
  simp only [Env.Wv] at hm
  by_cases hc:l' = l ∧ k' = k
  ·rw [if_pos hc] at hm; exact .inl ⟨hc.1,hc.2,by simpa using hm.symm⟩
  ·rw [if_neg hc] at hm; exact .inr ⟨hc,hm⟩
 have hle:E.le m (E.Wv l k w.heap.size):=⟨fun _ _ _ h=>h,fun l' k' b _ hm=>by
  simp only [Env.Wv]
  rw [if_neg (fun hc=>by rw [hc.1,hc.2,d1] at hm; cases hm)]; exact hm,fun _ _ _ _ _ h=>h,rfl⟩
 have hold:∀ b,b < w.heap.size → (w.alloc ob).heap[b]? = w.heap[b]?:=fun b hb=>by
  simp only [World.alloc,Array.getElem?_push]; rw [if_neg (by omega)]
 have hc?:∀ b o,b < w.heap.size → (w.alloc ob).cell? ⟨b,o,none⟩ = w.cell? ⟨b,o,none⟩:=fun b o hb=>by
  simp only [World.cell?,hold b hb]
 refine ⟨{ norm:=?_,F:=?_,blk:=?_,dom:=?_,nobuf:=?_,inj:=?_,injg:=h.injg,mg:=?_,mF:=?_,lt:=?_ },⟨hle,rfl,rfl,rfl,fun _=>Nat.le_refl _,by simp,fun b hb _=>hold b hb,?_⟩⟩
 ·refine ⟨fun l' k' hl'=>?_,h.norm.g,h.norm.hist⟩
  simp only [Env.Wv]
  rw [if_neg (fun hc=>by omega)]; exact h.norm.m l' k' hl'
 ·intro b o v hf
  rw [hc? b o (h.ZbZ hf)]; exact h.F b o v hf
 ·intro l' k' bb hl' hH
  by_cases hc:l' = l ∧ k' = k
  ·obtain ⟨rfl,rfl⟩:=hc
   rw [Zf.upd_same,Option.some.injEq] at hH
   subst hH; exact hblk
  ·rw [Zf.upd_ne H blk hc] at hH
   exact (h.blk l' k' bb hl' hH).keep (by simp only [Env.Wv]; rw [if_neg hc]) rfl (fun _=>rfl) (fun p _ r hr=>hle.m p.1 p.2 r (h.norm.Jj hr) hr) (fun r hr=>hold r (hr.elim (hlt _ _ _) (hgt _ _ _))) (fun _ _ _ hf=>hf) (fun a _ v hv=>hv.mono h.norm hle)
 ·intro l' k' hl' hH
  by_cases hc:l' = l ∧ k' = k
  ·obtain ⟨rfl,rfl⟩:=hc
   rw [Zf.upd_same] at hH; cases hH
  ·rw [Zf.upd_ne H blk hc] at hH
   obtain ⟨a1,a2,a3⟩:=h.dom l' k' hl' hH
   exact ⟨by simp only [Env.Wv]; rw [if_neg hc]; exact a1,a2,a3⟩
 ·intro l' k' hg
  have hc:¬(l' = l ∧ k' = k):=fun hc=>by rw [hc.1,hc.2] at hg; exact hg d2
  rw [Zf.upd_ne H blk hc]; exact h.nobuf l' k' hg
 ·intro l1 k1 l2 k2 b h1 h2
  rcases hm' _ _ _ h1 with ⟨a1,a2,a3⟩ | ⟨_,a1⟩ <;> rcases hm' _ _ _ h2 with ⟨b1,b2,b3⟩ | ⟨_,b1⟩
  ·exact ⟨a1.trans b1.symm,a2.trans b2.symm⟩
  ·have:=hlt _ _ _ b1; omega
  ·have:=hlt _ _ _ a1; omega
  ·exact h.inj _ _ _ _ _ a1 b1
 ·intro l1 k1 l2 k2 b h1 h2
  rcases hm' _ _ _ h1 with ⟨a1,a2,a3⟩ | ⟨_,a1⟩
  ·have:=hgt _ _ _ h2; omega
  ·exact h.mg _ _ _ _ _ a1 h2
 ·intro l1 k1 b o h1
  rcases hm' _ _ _ h1 with ⟨a1,a2,a3⟩ | ⟨_,a1⟩
  ·subst a3
   cases hf:E.F w.heap.size o with
   | none=>exact hf
   | some v=>have:=h.ZbZ hf; omega
  ·exact h.mF _ _ _ _ a1
 ·intro b hb
  rcases hb with ⟨l',k',hm⟩ | ⟨l',k',hg⟩
  ·rcases hm' _ _ _ hm with ⟨_,_,rfl⟩ | ⟨_,a1⟩
   ·simp
   ·have:=hlt _ _ _ a1; simp; omega
  ·have:=hgt _ _ _ hg; simp; omega
 ·intro b hb ho
  rcases ho with ⟨l',k',hm⟩ | ⟨l',k',hg⟩
  ·rcases hm' _ _ _ hm with ⟨_,_,rfl⟩ | ⟨_,a1⟩
   ·omega
   ·exact .inl ⟨l',k',a1⟩
  ·exact .inr ⟨l',k',hg⟩
theorem ZJ.turn {m:Nat} {H:Zf} {E:Env} {w w':World} (h:ZJ m H E w) {l k b:Nat} (hm:E.m l k = some b ∨ E.g l k = some b) (blk:Zk) (hnb:E.g l k ≠ none → blk.isBuf = true)
  (os:w'.os = w.os) (tape:w'.tape = w.tape) (output:w'.output = w.output) (drawn:E.qd = true → w.drawn ≤ w'.drawn) (size:w'.heap.size = w.heap.size) (hold:∀ b',b' ≠ b → w'.heap[b']? = w.heap[b']?)
  (hF:∀ o,E.F b o = none) (hblk:Zct E w' l k blk) :
  ZJ m (H.upd l k blk) E w' ∧ Ext m E w E w':=by
 have hlm:l < m:=hm.elim (fun hm=>h.norm.Jj hm) (fun hm=>h.norm.Zl3 hm)
 have hne:∀ l' k' b',E.m l' k' = some b' ∨ E.g l' k' = some b' → ¬(l' = l ∧ k' = k) → b' ≠ b:=fun l' k' b' hm' hc e=>by
  subst e
  rcases hm' with hm' | hm' <;> rcases hm with hm | hm
  ·exact hc (h.inj _ _ _ _ _ hm' hm)
  ·exact h.mg _ _ _ _ _ hm' hm
  ·exact h.mg _ _ _ _ _ hm hm'
  ·exact hc (h.injg _ _ _ _ _ hm' hm)
 refine ⟨{ norm:=h.norm,F:=?_,blk:=?_,dom:=?_,nobuf:=?_,inj:=h.inj,injg:=h.injg,mg:=h.mg,mF:=h.mF,lt:=?_ },⟨.refl m E,os,tape,output,drawn,by omega,fun b' _ ho=>?_,fun _ _ h=>h⟩⟩
 ·intro b' o v hf
  have:b' ≠ b:=fun e=>by subst e; rw [hF o] at hf; cases hf
  have hc:=h.F b' o v hf
  simp only [World.cell?,hold b' this] at hc ⊢; exact hc
 ·intro l' k' bb hl' hH
  by_cases hc:l' = l ∧ k' = k
  ·obtain ⟨rfl,rfl⟩:=hc
   rw [Zf.upd_same,Option.some.injEq] at hH
   subst hH; exact hblk
  ·rw [Zf.upd_ne H blk hc] at hH
   exact (h.blk l' k' bb hl' hH).keep rfl rfl (fun _=>rfl) (fun _ _ _ h=>h) (fun r hr=>hold r (hne _ _ _ hr hc)) (fun _ _ _ h=>h) (fun _ _ _ h=>h)
 ·intro l' k' hl' hH
  by_cases hc:l' = l ∧ k' = k
  ·obtain ⟨rfl,rfl⟩:=hc
   rw [Zf.upd_same] at hH; cases hH
  ·rw [Zf.upd_ne H blk hc] at hH; exact h.dom l' k' hl' hH
 ·intro l' k' hg
  by_cases hc:l' = l ∧ k' = k
  ·obtain ⟨rfl,rfl⟩:=hc
   exact ⟨blk,Zf.upd_same _ _ _ _,hnb hg⟩
  ·rw [Zf.upd_ne H blk hc]; exact h.nobuf l' k' hg
 ·intro b' ho; rw [size]; exact h.lt b' ho
 ·exact hold b' (fun e=>ho (by subst e; exact hm.elim (fun hm=>.inl ⟨l,k,hm⟩) (fun hm=>.inr ⟨l,k,hm⟩)))
theorem ZJ.m_g {m:Nat} {H:Zf} {E:Env} {w:World} (h:ZJ m H E w) {l k b:Nat} (hm:E.m l k = some b):E.g l k = none:=by
 cases hg:E.g l k with
 | none=>rfl
 | some g =>
  obtain ⟨bb,hb,hi⟩:=h.nobuf l k (by rw [hg]; simp)
  have:=h.blk l k bb (h.norm.Jj hm) hb
  cases bb with
  | buf e sz fr=>rw [this.2] at hm; cases hm
  | ZN e sz cs n=>rw [this.2] at hm; cases hm
  | _=>cases hi
section ops
variable {P:Program} {T:TT} {o:Oper} {ρ:Operand → AV}
theorem Vs {t:TypeId} {r:ZE} {d:TypeDesc} {i:TypeInfo} {z:Value} (hf:WX P t r d i z) {b off:Nat} {cs:List Value} {w:World} (hc:∀ j u,cs[j]? = some u → w.cell? ⟨b,off + j,none⟩ = some u)
  (hl:r.size ≤ cs.length) (h1:r.isAgg = false → 0 < cs.length) :
  (loadVar t ⟨b,off,none⟩).run P w = .ok (if r.isAgg then .agg (cs.take r.size).toArray else cs.getD 0 undef) w:=by
 unfold loadVar
 cases hag:r.isAgg with
 | true =>
  have:=run_loadCells_list (P:=P) w ⟨b,off,none⟩ (cs.take r.size) (fun j v hj=>by
   rw [Z9]
   exact hc j v (by
    rcases Nat.lt_or_ge j r.size with h | h
    ·rwa [List.getElem?_take_of_lt h] at hj
    ·rw [List.getElem?_take,if_neg (by omega)] at hj; cases hj))
  rw [List.length_take,Nat.min_eq_left hl] at this
  simp only [Sem.run_bind,VA hf,hag,Result.andThen_ok,if_true,ZT hf,this,Sem.run_pure]
 | false =>
  have h0:=h1 hag
  have hx:cs[0]? = some cs[0]:=List.getElem?_eq_getElem h0
  have:=hc 0 _ hx
  simp only [Nat.add_zero] at this
  simp [VA hf,hag,this,List.getD_eq_getElem?_getD,hx]
theorem Zar {E:Env} {cs:List AV} {vs:List Value} {r:ZE} (hv:VRs E cs vs) (h1:r.isAgg = false → 0 < cs.length) :
  VR E (if r.isAgg then .agg (cs.take r.size) else cs.getD 0 .dead) (if r.isAgg then .agg (vs.take r.size).toArray else vs.getD 0 undef):=by
 cases hag:r.isAgg with
 | true =>
  have:=hv.take r.size
  simp only [if_true]
  exact .agg _ _ this.1 this.2
 | false =>
  have h0:=h1 hag
  simp only [Bool.false_eq_true,if_false]
  have h2:0 < vs.length:=by rw [hv.1]; exact h0
  have:=hv.2 0 h0 h2
  simpa [List.getD_eq_getElem?_getD,List.getElem?_eq_getElem h0,List.getElem?_eq_getElem h2] using this
theorem Zbq {m:Nat} {H:Zf} {t:TypeId} {x:Operand} {r:ZE} {cs:List AV} (hT:TOK P T) (ho:o.op = .load t x) (h1:T t = some r) (hv:ρ x = .ZA cs) (hl:r.size ≤ cs.length) (h0:r.isAgg = false → 0 < cs.length) :
  Xe P m o ρ H (if r.isAgg then .agg (cs.take r.size) else cs.getD 0 .dead) H:=fun E w a hr hops=>by
 have hx:=hops x (by simp [ho,Op.operands])
 rw [hv] at hx
 obtain ⟨d,i,z,hf⟩:=Zl (hT t r h1)
 have he:execOp a.eval o = (do let v ← Instr.loadAt t (a.eval x); pure (Next.value v)):=by simp only [execOp,ho]
 generalize hy:a.eval x = y at hx
 cases hx with | ZA _ b off c hc hcv =>
 have hvs:VRs E cs ((List.range cs.length).map c):=⟨by simp,fun j h1 h2=>by simpa using hcv j h1⟩
 have hcell:∀ j u,((List.range cs.length).map c)[j]? = some u → w.cell? ⟨b,off + j,none⟩ = some u:=fun j u hj=>by
  rw [List.getElem?_map] at hj
  rcases Nat.lt_or_ge j cs.length with h | h
  ·rw [List.getElem?_range h] at hj
   simp only [Option.map_some,Option.some.injEq] at hj
   subst hj
   exact hr.F _ _ _ (hc j h)
  ·rw [List.getElem?_eq_none (by simpa using h)] at hj; cases hj
 have hrun:=Vs (P:=P) hf hcell (by simpa using hl) (by simpa using h0)
 refine ⟨_,E,w,.inl ?_,Zar hvs h0,hr,.refl m E w⟩
 rw [he,hy]
 simp only [Instr.loadAt,Instr.sureAddr,Sem.run_bind,Sem.run_pure,Result.andThen_ok,hrun]
theorem Zfg {m:Nat} {H:Zf} {t:TypeId} {x:Operand} {r:ZE} {l k off:Nat} {cs:List AV} (hT:TOK P T) (ho:o.op = .load t x) (h1:T t = some r) (hv:ρ x = .ptr l k off) (hH:H l k = some (.box cs))
  (hl:off + r.size ≤ cs.length) (h0:r.isAgg = false → off < cs.length) :
  Xe P m o ρ H (if r.isAgg then .agg ((cs.drop off).take r.size) else (cs.drop off).getD 0 .dead) H:=fun E w a hr hops=>by
 have hx:=hops x (by simp [ho,Op.operands])
 rw [hv] at hx
 obtain ⟨d,i,z,hf⟩:=Zl (hT t r h1)
 have he:execOp a.eval o = (do let v ← Instr.loadAt t (a.eval x); pure (Next.value v)):=by simp only [execOp,ho]
 generalize hy:a.eval x = y at hx
 cases hx with | ptr _ _ _ b hm =>
 obtain ⟨b',hm',c,t',hcc,hvs⟩:=hr.box l k cs (hr.norm.Jj hm) hH
 rw [hm] at hm'
 cases hm'
 have hcell:∀ j u,(c.toList.drop off)[j]? = some u → w.cell? ⟨b,off + j,none⟩ = some u:=fun j u hj=>by
  rw [List.getElem?_drop] at hj
  simp only [World.cell?,hcc]
  simpa using hj
 have hlen:=hvs.1
 have hrun:=Vs (P:=P) hf hcell (by rw [List.length_drop]; omega) (fun h=>by rw [List.length_drop]; have:=h0 h; omega)
 refine ⟨_,E,w,.inl ?_,Zar (hvs.drop off) (fun h=>by rw [List.length_drop]; have:=h0 h; omega),hr,.refl m E w⟩
 rw [he,hy]
 simp only [Instr.loadAt,Instr.sureAddr,Sem.run_bind,Sem.run_pure,Result.andThen_ok,hrun]
theorem ZiQ {m:Nat} {H:Zf} {t:TypeId} {x y:Operand} {r:ZE} {l k off:Nat} {cs:List AV} {v:AV} (hT:TOK P T) (ho:o.op = .store t x y) (h1:T t = some r) (hx:ρ x = .ptr l k off) (hy:ρ y = v) (hH:H l k = some (.box cs))
  (hvl:v.cells.length = r.size) (hone:∀ c ∈ v.cells,c.one = true) (hl:off + r.size ≤ cs.length) :
  Xe P m o ρ H (.tup []) (H.upd l k (.box (splice cs off v.cells))):=fun E w a hr hops=>by
 have hxv:=hops x (by simp [ho,Op.operands])
 have hyv:=hops y (by simp [ho,Op.operands])
 rw [hx] at hxv
 rw [hy] at hyv
 obtain ⟨d,i,z,hf⟩:=Zl (hT t r h1)
 have he:execOp a.eval o = (do Instr.storeAt t (a.eval x) (a.eval y); pure .skip):=by simp only [execOp,ho]
 generalize hp:a.eval x = p at hxv
 cases hxv with | ptr _ _ _ b hm =>
 obtain ⟨b',hm',c,t',hcc,hvs⟩:=hr.box l k cs (hr.norm.Jj hm) hH
 rw [hm] at hm'
 cases hm'
 have hcv:=hyv.cells hone
 have hus:(a.eval y).cells.toList.length = r.size:=hcv.1.trans hvl
 have hlen:=hvs.1
 have hst:=run_storeCells_at P b off t' (a.eval y).cells.toList 0 c w hcc (by rw [hus]; simp at hlen; omega) (fun u hu=>by
  obtain ⟨j,hj,rfl⟩:=List.getElem_of_mem hu
  exact (hcv.2 j (by rw [← hcv.1]; exact hj) hj).one (hone _ (List.getElem_mem _)))
 simp only [Nat.add_zero] at hst
 obtain ⟨hh,hx'⟩:=hr.turn (w':=w.setRow b (c.toList.take off ++ (a.eval y).cells.toList ++ c.toList.drop (off + (a.eval y).cells.toList.length)).toArray) (.inl hm) (.box (splice cs off v.cells)) (fun hg=>absurd (hr.m_g hm) hg) rfl rfl rfl (fun _=>Nat.le_refl _) (by simp [World.setRow])
  (fun b' hb'=>setRow_other w b b' _ hb') (fun o=>hr.mF _ _ _ o hm) ⟨b,hm,_,t',setRow_heap w b c _ t' (0,0) hcc,by
   unfold splice
   rw [hus,hvl,List.append_assoc]
   exact (hvs.take off).append (hcv.append (hvs.drop _))⟩
 refine ⟨undef,E,_,.inr ⟨?_,rfl⟩,VP E,hh,hx'⟩
 rw [he,hp]
 simp only [Instr.storeAt,Instr.sureAddr,storeVar,Sem.run_bind,Sem.run_pure,Result.andThen_ok,ZT hf]
 rw [if_neg (by simp at hus; simp [hus])]
 simp only [hst,Result.andThen_ok]
theorem ZJ.mrow {m:Nat} {H:Zf} {E:Env} {w:World} (h:ZJ m H E w) {l k n g cap e sz:Nat} {cs:List AV} (hh:E.hist l k n = some (.slice (some ⟨g,0,none⟩) n cap)) (hH:H l k = some (.ZN e sz cs n)) (hn:0 < n) :
  ∃ cur,E.g l k = some g ∧ w.heap[g]? = some (.cells cur e (0,0)) ∧ n ≤ cap ∧ cap ≤ maxLen ∧ cur.size = cap * sz ∧ (∀ o,E.F g o = none) ∧ VRs E cs (cur.toList.take (n * sz)) ∧ cs.length = n * sz:=by
 obtain ⟨⟨h0,v,h1,h2,h3⟩,_⟩:=h.ZN l k e sz cs n (h.norm.Xx hh) hH
 rw [hh] at h1
 cases h1
 rcases h3 with ⟨a,q1,q2,_⟩ | ⟨g',cap',cur,q1,q2,q3,q4,q5,q6,q7,q8⟩
 ·omega
 ·cases q1
  exact ⟨cur,q2,q3,q4,q5,q6,q7,q8,h0⟩
theorem Zey {m:Nat} {H:Zf} {t:TypeId} {x:Operand} {r:ZE} {l k n off e sz:Nat} {cs:List AV} (hT:TOK P T) (ho:o.op = .load t x) (h1:T t = some r) (hv:ρ x = .eptr l k n off) (hH:H l k = some (.ZN e sz cs n)) (hn:0 < n)
  (hl:off + r.size ≤ cs.length) (h0:r.isAgg = false → off < cs.length) :
  Xe P m o ρ H (if r.isAgg then .agg ((cs.drop off).take r.size) else (cs.drop off).getD 0 .dead) H:=fun E w a hr hops=>by
 have hx:=hops x (by simp [ho,Op.operands])
 rw [hv] at hx
 obtain ⟨d,i,z,hf⟩:=Zl (hT t r h1)
 have he:execOp a.eval o = (do let v ← Instr.loadAt t (a.eval x); pure (Next.value v)):=by simp only [execOp,ho]
 generalize hy:a.eval x = y at hx
 cases hx with | eptr _ _ _ _ g cap hh =>
 obtain ⟨cur,q1,q2,q3,q4,q5,q6,q7,q8⟩:=hr.mrow hh hH hn
 have hcell:∀ j u,((cur.toList.take (n * sz)).drop off)[j]? = some u → w.cell? ⟨g,off + j,none⟩ = some u:=fun j u hj=>by
  rw [List.getElem?_drop] at hj
  simp only [World.cell?,q2]
  rcases Nat.lt_or_ge (off + j) (n * sz) with h | h
  ·rw [List.getElem?_take_of_lt h] at hj; simpa using hj
  ·rw [List.getElem?_take,if_neg (by omega)] at hj; cases hj
 have hlen:=q7.1
 have hrun:=Vs (P:=P) hf hcell (by rw [List.length_drop]; omega) (fun h=>by rw [List.length_drop]; have:=h0 h; omega)
 refine ⟨_,E,w,.inl ?_,Zar (q7.drop off) (fun h=>by rw [List.length_drop]; have:=h0 h; omega),hr,.refl m E w⟩
 rw [he,hy]
 simp only [Instr.loadAt,Instr.sureAddr,Sem.run_bind,Sem.run_pure,Result.andThen_ok,hrun]
theorem ZdJ {m:Nat} {H:Zf} {t:TypeId} {x y:Operand} {r:ZE} {l k n off e sz:Nat} {cs:List AV} {v:AV} (hT:TOK P T) (ho:o.op = .store t x y) (h1:T t = some r) (hx:ρ x = .eptr l k n off) (hy:ρ y = v) (hH:H l k = some (.ZN e sz cs n)) (hn:0 < n)
  (hvl:v.cells.length = r.size) (hone:∀ c ∈ v.cells,c.one = true) (hl:off + r.size ≤ cs.length) :
  Xe P m o ρ H (.tup []) (H.upd l k (.ZN e sz (splice cs off v.cells) n)):=fun E w a hr hops=>by
 have hxv:=hops x (by simp [ho,Op.operands])
 have hyv:=hops y (by simp [ho,Op.operands])
 rw [hx] at hxv
 rw [hy] at hyv
 obtain ⟨d,i,z,hf⟩:=Zl (hT t r h1)
 have he:execOp a.eval o = (do Instr.storeAt t (a.eval x) (a.eval y); pure .skip):=by simp only [execOp,ho]
 generalize hp:a.eval x = p at hxv
 cases hxv with | eptr _ _ _ _ g cap hh =>
 obtain ⟨c,q1,q2,q3,q4,q5,q6,q7,q8⟩:=hr.mrow hh hH hn
 have hcv:=hyv.cells hone
 have hus:(a.eval y).cells.toList.length = r.size:=hcv.1.trans hvl
 have hlen:=q7.1
 have hle:n * sz ≤ cap * sz:=Nat.mul_le_mul_right _ q3
 have hst:=run_storeCells_at P g off e (a.eval y).cells.toList 0 c w q2 (by rw [hus]; omega) (fun u hu=>by
  obtain ⟨j,hj,rfl⟩:=List.getElem_of_mem hu
  exact (hcv.2 j (by rw [← hcv.1]; exact hj) hj).one (hone _ (List.getElem_mem _)))
 simp only [Nat.add_zero] at hst
 have hsl:(splice cs off v.cells).length = cs.length:=by simp only [splice,List.length_append,List.length_take,List.length_drop]; omega
 obtain ⟨⟨_,v0,hv0,hj0,_⟩,hm0⟩:=hr.ZN l k e sz cs n (hr.norm.Xx hh) hH
 rw [hh] at hv0
 cases hv0
 obtain ⟨hh2,hx'⟩:=hr.turn (w':=w.setRow g (c.toList.take off ++ (a.eval y).cells.toList ++ c.toList.drop (off + (a.eval y).cells.toList.length)).toArray) (.inr q1) (.ZN e sz (splice cs off v.cells) n) (fun _=>rfl) rfl rfl rfl (fun _=>Nat.le_refl _) (by simp [World.setRow])
  (fun b' hb'=>setRow_other w g b' _ hb') q6 ⟨⟨by rw [hsl,q8],_,hh,hj0,.inr ⟨g,cap,_,rfl,q1,setRow_heap w g c _ e (0,0) q2,q3,q4,by simp only [List.size_toArray,List.length_append,List.length_take,List.length_drop,Array.length_toList] at hus hlen hle ⊢; omega,q6,by
   have e1:((c.toList.take off ++ (a.eval y).cells.toList ++ c.toList.drop (off + (a.eval y).cells.toList.length)).toArray.toList).take (n * sz) =
     (c.toList.take (n * sz)).take off ++ ((a.eval y).cells.toList ++ (c.toList.take (n * sz)).drop (off + r.size)):=by
    rw [List.toList_toArray,hus,List.append_assoc,List.take_append,List.take_append,List.take_take,List.take_take,List.drop_take]
    have h1:min off (n * sz) = off:=by omega
    have h2:min (n * sz) off = off:=by omega
    have h3:(c.toList.take off).length = off:=by rw [List.length_take]; simp; omega
    rw [h1,h2,h3,hus,List.take_of_length_le (l:=(a.eval y).cells.toList) (by omega),show n * sz - off - r.size = n * sz - (off + r.size) by omega]
   rw [e1]
   unfold splice
   rw [hvl]
   exact (q7.take off).append (hcv.append (q7.drop _))⟩⟩,hm0⟩
 refine ⟨undef,E,_,.inr ⟨?_,rfl⟩,VP E,hh2,hx'⟩
 rw [he,hp]
 simp only [Instr.storeAt,Instr.sureAddr,storeVar,Sem.run_bind,Sem.run_pure,Result.andThen_ok,ZT hf]
 rw [if_neg (by simp at hus; simp [hus])]
 simp only [hst,Result.andThen_ok]
theorem Zdr {t:TypeId} {v:Value} {w:World}:(newVar t v).run P w = .ok ⟨w.heap.size,0,none⟩ (w.alloc (.cells v.cells t)):=by
 simp [newVar,newRow,newObj,Sem.run]
theorem Zi8 {m:Nat} {H:Zf} {E:Env} {w:World} (h:ZJ m H E w) {l k:Nat} (hl:l < m) (hfree:H l k = none) {cs:List AV} {v:Value} (hv:VRs E cs v.cells.toList) (t:TypeId) :
  ZJ m (H.upd l k (.box cs)) (E.Wv l k w.heap.size) (w.alloc (.cells v.cells t)) ∧ Ext m E w (E.Wv l k w.heap.size) (w.alloc (.cells v.cells t)):=by
 have hle:E.le m (E.Wv l k w.heap.size):=by
  obtain ⟨d1,_,_⟩:=h.dom l k hl hfree
  exact ⟨fun _ _ _ h=>h,fun l' k' b _ hm=>by
   simp only [Env.Wv]
   rw [if_neg (fun hc=>by rw [hc.1,hc.2,d1] at hm; cases hm)]; exact hm,fun _ _ _ _ _ h=>h,rfl⟩
 exact h.ZcC hl hfree _ (.box cs) ⟨w.heap.size,by simp [Env.Wv],v.cells,t,heap_alloc_new w _,hv.mono h.norm hle⟩
theorem ZkS {m:Nat} {H:Zf} {t:TypeId} {x:Operand} {l k:Nat} {v:AV} (ho:o.op = .box t x) (hx:ρ x = v) (hone:∀ c ∈ v.cells,c.one = true) (hl:l < m) (hfree:H l k = none) :
  Xe P m o ρ H (.ptr l k 0) (H.upd l k (.box v.cells)):=fun E w a hr hops=>by
 have hxv:=hops x (by simp [ho,Op.operands])
 rw [hx] at hxv
 have he:execOp a.eval o = (do let v ← Instr.box t (a.eval x); pure (Next.value v)):=by simp only [execOp,ho]
 obtain ⟨hh,hxx⟩:=Zi8 hr hl hfree (hxv.cells hone) t
 refine ⟨.pointer (some ⟨w.heap.size,0,none⟩),_,_,.inl ?_,.ptr l k 0 _ (by simp [Env.Wv]),hh,hxx⟩
 rw [he]
 simp only [Instr.box,Sem.run_bind,Zdr,Sem.run_pure,Result.andThen_ok]
theorem ZiC {m:Nat} {H:Zf} {t:TypeId} {l k:Nat} {r:ZE} (hT:TOK P T) (ho:o.op = .alloc t) (h1:T t = some r) (hl:l < m) (hfree:H l k = none) :
  Xe P m o ρ H (.ptr l k 0) (H.upd l k (.box r.zero)):=fun E w a hr hops=>by
 obtain ⟨d,i,z,hf⟩:=Zl (hT t r h1)
 have he:execOp a.eval o = (do let v ← Instr.alloc t true (.tuple #[]); pure (Next.value v)):=by simp only [execOp,ho]
 obtain ⟨hh,hxx⟩:=Zi8 hr hl hfree (X9 hf.zfits) t
 refine ⟨.pointer (some ⟨w.heap.size,0,none⟩),_,_,.inl ?_,.ptr l k 0 _ (by simp [Env.Wv]),hh,hxx⟩
 rw [he]
 simp only [Instr.alloc,Sem.run_bind,Yo hf,Zdr,Sem.run_pure,Result.andThen_ok]
end ops
end Go.Abs

/- Calls; a function's body; regions as goals. No program, no condition. -/
namespace Go.Abs
structure Fun (P:Program) (f:FuncId) (fn:Func) (c:Code):Prop where
 get:P.funcs[f]? = some fn
 body:fn.body = some c
 name : (fn.name == "runtime.NumGoroutine") = false
theorem XU {P:Program} {f:FuncId} {fn:Func} {c:Code} (h:Fun P f fn c) (args:Array Value) (w:World):(callFunc f args).run P w = .ok (.enter f args) w:=by
 have hn:=h.name
 simp only [beq_eq_false_iff_ne,ne_eq] at hn
 simp [callFunc,program,Sem.run,h.get,h.body,hn]
theorem Jz {P:Program} {ro:Option Nat} {n:Nat} {f:FuncId} {args:Array Value} {w:World} {R:Ending → World → Prop} (h:Calls P f args w R):CallsIn (fr ro) n P f args w R :=
 (callsIn_wide (n:=n)).2 h
theorem JX {ro:Option Nat} {p:Prop}:(fr ro).depth.isSome = true → p:=fun h=>by cases h
theorem Za9 {P:Program} {m:Nat} {o:Oper} {ρ:Operand → AV} {H H':Zf} {f:FuncId} {fn:Func} {c:Code} {g:Operand} {caps:List AV} {args:Array Operand} {ts:Array TypeId} {r:AV} (hf:Fun P f fn c)
  (ho:o.op = .call { callee:=.value g,args:=args,argTypes:=ts }) (hg:ρ g = .fn (.func f) caps) (as:List AV) (has:∀ E (a:Act),(∀ x ∈ args,VR E (ρ x) (a.eval x)) → VRs E as (args.toList.map a.eval))
  (hc:Zr P m f (as ++ caps) H (fun r' H1=>r' = r ∧ H1 = H')):Wi P m o ρ H r H':=fun E w a Q K hr hops hk ro=>by
 have hgv:=hops g (by rw [ho]; simp [Op.operands,Call.operands])
 rw [hg] at hgv
 have he:execOp a.eval o = (do let d ← resolve a.eval { callee:=.value g,args:=args,argTypes:=ts } o.type; invoke d.target d.args):=by simp only [execOp,ho]
 generalize hy:a.eval g = y at hgv
 cases hgv with | fn _ _ vs hl hvs =>
 have hrun:(execOp a.eval o).run P w = .ok (.enter f (args.map a.eval ++ vs.toArray)) w:=by
  rw [he]
  simp [resolve,hy,Deferred.ofValue,invoke,XU hf]
 refine Xr hrun (fun _ e=>by cases e) ⟨JX,Jz ?_⟩
 have h1:=hc E w (args.toList.map a.eval ++ vs) hr ((has E a (fun x hx=>hops x (by rw [ho]; simp [Op.operands,Call.operands,hx]))).append ⟨hl,hvs⟩)
 rw [show (args.toList.map a.eval ++ vs).toArray = args.map a.eval ++ vs.toArray by rw [← List.append_toArray,← Array.toList_map]] at h1
 refine h1.mono ?_
 rintro e w' ⟨r',v,H1,E',rfl,⟨rfl,rfl⟩,hv,hh,hx⟩
 exact hk E' w' v hv hh hx
def WR (P:Program) (m:Nat) (l:Nat) (args:List AV) (H:Zf) (Q:AV → Zf → Prop):Prop :=
 ∀ E w vs,ZJ m H E w → VRs E args vs → ∃ fn tmps ca cb,(Instr.yield l vs.toArray).run P w = .ok (.round l fn tmps ca cb) w ∧
  ∀ ro n,RoundIn (fr ro) n P l fn tmps ca cb w fun e w'=>∃ r v H' E',e = .returned v ∧ Q r H' ∧ VR E' r v ∧ ZJ m H' E' w' ∧ Ext m E w E' w'
theorem WR.mono {P:Program} {m l:Nat} {args:List AV} {H:Zf} {Q Q':AV → Zf → Prop} (h:WR P m l args H Q) (hq:∀ r H',Q r H' → Q' r H'):WR P m l args H Q':=fun E w vs hr hv=>by
 obtain ⟨fn,tmps,ca,cb,h1,h2⟩:=h E w vs hr hv
 exact ⟨fn,tmps,ca,cb,h1,fun ro n=>(h2 ro n).mono fun e w' ⟨r,v,H',E',he,hQ,rest⟩=>⟨r,v,H',E',he,hq _ _ hQ,rest⟩⟩
inductive WkS:AV → AV → Prop
 | refl (v:AV):WkS v v
 | nil (k k':Nat) (o:Own):WkS (.sl k [] o) (.sl k' [] .any)
 | sl (k:Nat) (xs ys:List AV) (o:Own) (hl:ys.length = xs.length) (h:∀ i (h:i < xs.length) (h':i < ys.length),WkS xs[i] ys[i]):WkS (.sl k xs o) (.sl k ys .any)
 | agg (as bs:List AV) (hl:bs.length = as.length) (h:∀ i (h:i < as.length) (h':i < bs.length),WkS as[i] bs[i]):WkS (.agg as) (.agg bs)
 | ssl (k:Nat) (xs zs ys:List AV) (hl:ys.length = xs.length) (h:∀ i (h:i < xs.length) (h':i < ys.length),WkS xs[i] ys[i]):WkS (.ssl k xs zs) (.sl k ys .any)
 | sem (a b:AV) (ha:a.cells = [a]) (hb:b.cells = [b]) (h:∀ E v,VR E a v → VR E b v):WkS a b
def ZeC:List AV → List AV → Prop
 | [],[]=>True
 | a :: as,b :: bs=>WkS a b ∧ ZeC as bs
 | _,_=>False
theorem ZeC.len:∀ {as bs:List AV},ZeC as bs → bs.length = as.length
 | [],[],_=>rfl
 | a :: as,b :: bs,h=>by rw [List.length_cons,List.length_cons,ZeC.len h.2]
 | [],_ :: _,h=>h.elim
 | _ :: _,[],h=>h.elim
theorem ZeC.get:∀ {as bs:List AV},ZeC as bs → ∀ i (h:i < as.length) (h':i < bs.length),WkS as[i] bs[i]
 | a :: as,b :: bs,h,0,_,_=>h.1
 | a :: as,b :: bs,h,i + 1,h1,h2=>by
  simp only [List.getElem_cons_succ]
  exact ZeC.get h.2 i (by simpa using h1) (by simpa using h2)
theorem WkS.ZbX {as bs:List AV} (h:ZeC as bs):WkS (.agg as) (.agg bs):=.agg as bs h.len h.get
theorem WkS.slL {k:Nat} {as bs:List AV} {o:Own} (h:ZeC as bs):WkS (.sl k as o) (.sl k bs .any):=.sl k as bs o h.len h.get
theorem WkS.both {E:Env} {a b:AV} (h:WkS a b):(∀ v,VR E a v → VR E b v) ∧ a.cells.length = b.cells.length ∧ ∀ j (h:j < a.cells.length) (h':j < b.cells.length) v,VR E a.cells[j] v → VR E b.cells[j] v:=by
 induction h with
 | refl v=>exact ⟨fun _ h=>h,rfl,fun _ _ _ _ h=>h⟩
 | nil k k' o =>
  have h1:∀ v,VR E (.sl k [] o) v → VR E (.sl k' [] .any) v:=fun v hv=>(Jq hv).any
  refine ⟨h1,rfl,fun j h h' v hv=>?_⟩
  cases j with
  | zero=>exact h1 v hv
  | succ j=>simp [AV.cells] at h
 | sl k xs ys o hl h ih =>
  have h1:∀ v,VR E (.sl k xs o) v → VR E (.sl k ys .any) v:=by
   intro v hv
   cases hv with
   | slnil _ _ a ho ha =>
    have:ys = []:=List.eq_nil_of_length_eq_zero hl
    subst this; exact .slnil k .any a trivial (fun h=>absurd rfl h)
   | sl _ _ _ b off cap c hk hc hv hcap hm ho =>
    rw [← hl]
    refine .sl k ys .any b off cap c (fun i hi=>?_) (fun i j hi hj=>hc i j (by omega) hj) (fun i hi j hj=>?_) (by omega) (by omega) trivial
    ·rw [← (ih i (by omega) hi).2.1]; exact hk i (by omega)
    ·have hi':i < xs.length:=by omega
     have:=(ih i hi' hi).2
     exact this.2 j (by rw [this.1]; exact hj) hj _ (hv i hi' j (by rw [this.1]; exact hj))
  refine ⟨h1,rfl,fun j h h' v hv=>?_⟩
  cases j with
  | zero=>exact h1 v hv
  | succ j=>simp [AV.cells] at h
 | agg as bs hl h ih =>
  refine ⟨fun v hv=>?_,hl.symm,fun j h h' v hv=>(ih j h h').1 v hv⟩
  cases hv with
  | agg _ vs hvl hv=>exact .agg bs vs (hvl.trans hl.symm) fun i hi hi'=>(ih i (by omega) hi).1 _ (hv i (by omega) hi')
 | ssl k xs zs ys hl h ih =>
  have h1:∀ v,VR E (.ssl k xs zs) v → VR E (.sl k ys .any) v:=by
   intro v hv
   cases hv with
   | ssl _ _ _ b off cap c hk hc hv hcap hm =>
    have hla:xs.length ≤ (xs ++ zs).length:=by simp
    have hg:∀ i (hi:i < xs.length),(xs ++ zs)[i]'(by omega) = xs[i]:=fun i hi=>List.getElem_append_left hi
    rw [← hl]
    refine .sl k ys .any b off cap c (fun i hi=>?_) (fun i j hi hj=>hc i j (by omega) hj) (fun i hi j hj=>?_) (by omega) (by omega) trivial
    ·rw [← (ih i (by omega) hi).2.1,← hg i (by omega)]; exact hk i (by omega)
    ·have hi':i < xs.length:=by omega
     have:=(ih i hi' hi).2
     have hx:=hv i (by omega)
     simp only [hg i hi'] at hx
     exact this.2 j (by rw [this.1]; exact hj) hj _ (hx j (by rw [this.1]; exact hj))
  refine ⟨h1,rfl,fun j h h' v hv=>?_⟩
  cases j with
  | zero=>exact h1 v hv
  | succ j=>simp [AV.cells] at h
 | sem a b ha hb h =>
  refine ⟨h E,by rw [ha,hb]; rfl,fun j h1 h2 v hv=>?_⟩
  simp only [ha,hb] at hv h1 h2 ⊢
  cases j with
  | zero=>exact h E v hv
  | succ j=>simp at h1
inductive Wk:AV → AV → Prop
 | refl (v:AV):Wk v v
 | any (k:Nat) (xs:List AV) (o:Own):Wk (.sl k xs o) (.sl k xs .any)
 | nil (k k':Nat) (o:Own):Wk (.sl k [] o) (.sl k' [] .any)
 | dead (v:AV):Wk v .dead
 | deep {a b:AV} (h:WkS a b):Wk a b
 | sem {a b:AV} (h:∀ E v,VR E a v → VR E b v):Wk a b
theorem Wk.vr {E:Env} {a b:AV} {v:Value} (h:Wk a b) (hv:VR E a v):VR E b v:=by
 cases h with
 | refl=>exact hv
 | any=>exact hv.any
 | nil=>exact (Jq hv).any
 | dead=>exact .dead v
 | deep h=>exact h.both.1 v hv
 | sem h=>exact h E v hv
def Wks:List AV → List AV → Prop
 | [],[]=>True
 | a :: as,b :: bs=>Wk a b ∧ Wks as bs
 | _,_=>False
def Zf0 (tm:List (Nat × AV)) (H:Zf) (n:Nat) (L:List (Nat × Zk)) (T:TT):ResultVar → AV
 | .tmp t=>lkv tm t
 | .cell t ty=>match lkv tm t with
  | .ptr l k off=>match full n L H l k,T ty with
   | some (.box cs),some r=>if off + r.size ≤ cs.length ∧ (r.isAgg = false → off < cs.length) then (if r.isAgg then .agg ((cs.drop off).take r.size) else (cs.drop off).getD 0 .dead) else .dead
   | _,_=>.dead
  | _=>.dead
def YH (tm:List (Nat × AV)) (H:Zf) (n:Nat) (L:List (Nat × Zk)) (T:TT):ResultVar → Prop
 | .tmp _=>True
 | .cell t ty=>∃ l k off cs r,lkv tm t = .ptr l k off ∧ full n L H l k = some (.box cs) ∧ T ty = some r ∧ off + r.size ≤ cs.length ∧ (r.isAgg = false → off < cs.length)
def tupR:List AV → AV
 | [v]=>v
 | vs=>.tup vs
def ZeQ (tmps:Array Value):ResultVar → Sem Value
 | .tmp t=>pure (tmps.getD t undef)
 | .cell x t=>do loadVar t (← asAddr (tmps.getD x undef))
theorem ZgE (fn:Func) (tmps:Array Value):results fn tmps = (do
  let vs ← fn.results.mapM (ZeQ tmps)
  pure (if h:vs.size = 1 then vs[0] else .tuple vs)):=by
 unfold results
 congr 1
theorem Zcp {P:Program} {T:TT} (hT:TOK P T) {B n N:Nat} {s:Zh} {E:Env} {a:Act} {w:World} (hs:WZ B n N s E a w):∀ (l:List ResultVar),(∀ x ∈ l,YH s.tmps s.H n s.L T x) →
  ∃ vs:List Value,(l.mapM (m:=Sem) (ZeQ a.tmps)).run P w = .ok vs w ∧ VRs E (l.map (Zf0 s.tmps s.H n s.L T)) vs
 | [],_=>⟨[],rfl,VRs.nil E⟩
 | x :: l,h=>by
  obtain ⟨vs,h1,h2⟩:=Zcp hT hs l (fun y hy=>h y (List.mem_cons_of_mem _ hy))
  have hx:=h x (by simp)
  cases x with
  | tmp t =>
   refine ⟨a.tmps.getD t undef :: vs,?_,VRs.cons (hs.tmps t) h2⟩
   rw [List.mapM_cons]
   simp only [ZeQ,Sem.run_bind,Sem.run_pure,Result.andThen_ok,h1]
  | cell t ty =>
   obtain ⟨l1,k,off,cs,r,e1,e2,e3,e4,e5⟩:=hx
   obtain ⟨d,i,z,hf⟩:=Zl (hT ty r e3)
   have hp:=hs.tmps t
   rw [e1] at hp
   generalize hy:a.tmps.getD t undef = y at hp
   cases hp with | ptr _ _ _ b hm =>
   obtain ⟨b',hm',c,t',hcc,hvs⟩:=hs.heap.box l1 k cs (hs.heap.norm.Jj hm) e2
   rw [hm] at hm'
   cases hm'
   have hcell:∀ j u,(c.toList.drop off)[j]? = some u → w.cell? ⟨b,off + j,none⟩ = some u:=fun j u hj=>by
    rw [List.getElem?_drop] at hj
    simp only [World.cell?,hcc]
    simpa using hj
   have hlen:=hvs.1
   have hrun:=Vs (P:=P) hf hcell (by rw [List.length_drop]; omega) (fun h=>by rw [List.length_drop]; have:=e5 h; omega)
   have hvr:=Zar (r:=r) (hvs.drop off) (fun h=>by rw [List.length_drop]; have:=e5 h; omega)
   refine ⟨_ :: vs,?_,VRs.cons (v:=if r.isAgg then .agg ((c.toList.drop off).take r.size).toArray else (c.toList.drop off).getD 0 undef) ?_ h2⟩
   ·rw [List.mapM_cons]
    have hasa:(asAddr (Value.pointer (some ⟨b,off,none⟩))).run P w = .ok ⟨b,off,none⟩ w:=rfl
    simp only [ZeQ,Sem.run_bind,hy,hasa,Sem.run_pure,Result.andThen_ok,hrun,h1]
   ·have:Zf0 s.tmps s.H n s.L T (.cell t ty) = if r.isAgg then .agg ((cs.drop off).take r.size) else (cs.drop off).getD 0 .dead:=by
     simp only [Zf0,e1,e2,e3]; rw [if_pos ⟨e4,e5⟩]
    rw [this]; exact hvr
def PostF (P:Program) (T:TT) (n:Nat) (rs:List ResultVar) (Q:AV → Zf → Prop):Exit → Zh → Prop
 | .normal,s | .ret,s=>(∀ x ∈ rs,YH s.tmps s.H n s.L T x) ∧ ∃ r,Wks (rs.map (Zf0 s.tmps s.H n s.L T)) r ∧ (∀ v ∈ r,Below n v) ∧ Q (tupR r) s.H
 | _,_=>False
def numbered:Nat → List AV → List (Nat × AV)
 | _,[]=>[]
 | i,v :: r=>(i,v) :: numbered (i + 1) r
theorem lkv_numbered:∀ (as:List AV) (i t:Nat),lkv (numbered i as) t = if i ≤ t then as.getD (t - i) .dead else .dead
 | [],i,t=>by simp [numbered,lkv]
 | v :: r,i,t=>by
  simp only [numbered,lkv]
  rw [lkv_numbered r (i + 1) t]
  by_cases h1:i = t
  ·subst h1; simp
  ·by_cases h2:i ≤ t
   ·rw [if_neg h1,if_pos (by omega),if_pos h2,show t - i = (t - (i + 1)) + 1 by omega,List.getD_cons_succ]
   ·rw [if_neg h1,if_neg (by omega),if_neg h2]
theorem forall₂_vr {E:Env}:∀ {as rs:List AV} {vs:List Value},Wks as rs → VRs E as vs → VRs E rs vs
 | [],[],_,_,h=>h
 | _ :: _,_ :: _,_,⟨h1,h2⟩,h=>by
  obtain ⟨v,r,rfl,hv,hr⟩:=h.YR
  exact VRs.cons (h1.vr hv) (forall₂_vr h2 hr)
theorem ZJ.leave {B n N:Nat} {s:Zh} {E:Env} {a:Act} {w:World} (hs:WZ B n N s E a w):ZJ n s.H (E.cut n) w:=by
 have h:=hs.heap
 have hfull:∀ l k,l < n → full n s.L s.H l k = s.H l k:=fun l k hl=>by simp only [full]; rw [if_neg (by omega)]
 have hcm:∀ l k b,(E.cut n).m l k = some b → l < n ∧ E.m l k = some b:=fun l k b hm=>by
  simp only [Env.cut] at hm; split at hm
  ·exact ⟨‹_›,hm⟩
  ·cases hm
 have hcg:∀ l k b,(E.cut n).g l k = some b → l < n ∧ E.g l k = some b:=fun l k b hm=>by
  simp only [Env.cut] at hm; split at hm
  ·exact ⟨‹_›,hm⟩
  ·cases hm
 refine { norm:=Env.ZfL n E,F:=h.F,blk:=?_,dom:=?_,nobuf:=?_,inj:=?_,injg:=?_,mg:=?_,mF:=?_,lt:=?_ }
 ·intro l k b hl hH
  have hb:=hs.out l k _ hl hH
  refine (h.blk l k b (by omega) (by rw [hfull l k hl]; exact hH)).keep (by simp only [Env.cut,if_pos hl]) (by simp only [Env.cut,if_pos hl]) (fun j=>by simp only [Env.cut,if_pos hl]) (fun p hp r hr=>?_) (fun _ _=>rfl) (fun _ _ _ h=>h) (fun a ha v hv=>hv.cut (hb.1 a ha))
  simp only [Env.cut,if_pos (hb.2 p hp)]; exact hr
 ·intro l k hl hH
  obtain ⟨d1,d2,d3⟩:=h.dom l k (by omega) (by rw [hfull l k hl]; exact hH)
  simp only [Env.cut,if_pos hl]; exact ⟨d1,d2,d3⟩
 ·intro l k hg
  cases hx:(E.cut n).g l k with
  | none=>exact absurd hx hg
  | some b =>
   obtain ⟨hl,hg'⟩:=hcg l k b hx
   rw [← hfull l k hl]; exact h.nobuf l k (by rw [hg']; simp)
 ·intro l k l' k' b h1 h2; exact h.inj _ _ _ _ _ (hcm _ _ _ h1).2 (hcm _ _ _ h2).2
 ·intro l k l' k' b h1 h2; exact h.injg _ _ _ _ _ (hcg _ _ _ h1).2 (hcg _ _ _ h2).2
 ·intro l k l' k' b h1 h2; exact h.mg _ _ _ _ _ (hcm _ _ _ h1).2 (hcg _ _ _ h2).2
 ·intro l k b o h1; exact h.mF _ _ _ _ (hcm _ _ _ h1).2
 ·intro b hb
  rcases hb with ⟨l,k,hm⟩ | ⟨l,k,hg⟩
  ·exact h.lt b (.inl ⟨l,k,(hcm _ _ _ hm).2⟩)
  ·exact h.lt b (.inr ⟨l,k,(hcg _ _ _ hg).2⟩)
theorem ZJ.enter {n:Nat} {H:Zf} {E:Env} {w:World} (hr:ZJ n H E w):ZJ (n + 1) (full n [] H) E w:=by
 have hc:ZJ n (full n [] H) E w:=hr.congr (fun l k hl=>by simp only [full]; rw [if_neg (by omega)])
 refine { norm:=hr.norm.mono (by omega),F:=hr.F,blk:=?_,dom:=?_,nobuf:=hc.nobuf,inj:=hr.inj,injg:=hr.injg,mg:=hr.mg,mF:=hr.mF,lt:=hr.lt }
 ·intro l k b hl hH
  rcases Nat.lt_or_ge l n with h' | h'
  ·exact hc.blk l k b h' hH
  ·have:l = n:=by omega
   subst this; simp [full,lkb] at hH
 ·intro l k hl hH
  rcases Nat.lt_or_ge l n with h' | h'
  ·exact hc.dom l k h' hH
  ·exact ⟨hr.norm.m l k h',hr.norm.g l k h',fun j=>hr.norm.hist l k j h'⟩
theorem ZJ.putObj {n:Nat} {H:Zf} {E:Env} {w:World} (h:ZJ n H E w) {D:Nat} {x y:Obj} (hD:w.heap[D]? = some x) (hx:∀ c t r,x ≠ .cells c t r) (ho:¬ E.own D):ZJ n H E (w.putObj D y):=by
 have hF:∀ o v,E.F D o = some v → False:=fun o v hv=>by
  have:=h.F D o v hv
  simp only [World.cell?,hD] at this
  split at this
  ·rename_i e; cases e; exact hx _ _ _ rfl
  ·cases this
 refine { norm:=h.norm,F:=fun b o v hv=>?_,blk:=fun l k b hl hb=>?_,dom:=h.dom,nobuf:=h.nobuf,inj:=h.inj,injg:=h.injg,mg:=h.mg,mF:=h.mF,lt:=fun b hb=>by rw [World.putObj_size]; exact h.lt b hb }
 ·have hne:b ≠ D:=fun e=>hF o v (e ▸ hv)
  have:=h.F b o v hv
  simp only [World.cell?,World.putObj_heap_other hne] at this ⊢; exact this
 ·exact (h.blk l k b hl hb).keep rfl rfl (fun _=>rfl) (fun _ _ _ h=>h) (fun r hr=>World.putObj_heap_other (fun e=>ho (e ▸ hr.elim (fun h=>.inl ⟨_,_,h⟩) (fun h=>.inr ⟨_,_,h⟩)))) (fun _ _ _ h=>h) (fun _ _ _ h=>h)
theorem Zbb {P:Program} {fn:Func} {tmps:Array Value} {R:Ending → World → Prop} {m:Nat} {H:Zf} {E:Env}:∀ (l:List Nat) (w:World),l.Nodup → (∀ D ∈ l,w.heap[D]? = some (.deferred (some [])) ∧ ¬ E.own D) → ZJ m H E w →
  (∀ w2,ZJ m H E w2 → (∀ b,b ∉ l → w2.heap[b]? = w.heap[b]?) → w2.os = w.os → w2.tape = w.tape → w2.output = w.output → w2.drawn = w.drawn → w2.heap.size = w.heap.size → ∃ v,(results fn tmps).run P w2 = .ok v w2 ∧ R (.returned v) w2) →
  LeavesInM Fence.wide 0 P fn tmps R (l.map mark) .returning w
 | [],w,_,_,hr,hk=>hk w hr (fun _ _=>rfl) rfl rfl rfl rfl rfl
 | D :: l,w,hn,hD,hr,hk=>by
  obtain ⟨h1,h2⟩:=hD D (by simp)
  obtain ⟨n1,n2⟩:=List.nodup_cons.1 hn
  refine ⟨by simp,.inl ⟨D,_,rfl,run_takeDeferred h1,?_⟩⟩
  refine Zbb l _ n2 (fun D' hD'=>?_) (hr.putObj h1 (fun _ _ _ e=>by cases e) h2) (fun w2 q1 q2 q3 q4 q5 q6 q7=>?_)
  ·obtain ⟨a1,a2⟩:=hD D' (List.mem_cons_of_mem _ hD')
   exact ⟨(World.putObj_heap_other (show D' ≠ D from fun e=>n1 (e ▸ hD'))).trans a1,a2⟩
  ·refine hk w2 q1 (fun b hb=>?_) q3 q4 q5 q6 (by rw [q7,World.putObj_size])
   simp only [List.mem_cons,not_or] at hb
   rw [q2 b hb.2,World.putObj_heap_other hb.1]
theorem Zhq {P:Program} {T:TT} {n:Nat} {f:FuncId} {fn:Func} {c:Code} {args:List AV} {H:Zf} {Q:AV → Zf → Prop} (hT:TOK P T) (hf:Fun P f fn c) (hN:args.length ≤ fn.ntmps)
  (h:∀ B,AK P ⟨none,B⟩ n fn.ntmps [.code c] (PostF P T n fn.results.toList Q) ⟨numbered 0 args,[],H⟩):Zr P n f args H Q:=fun E w vs hr hv=>by
 refine (callsIn_wide (n:=0)).1 (callsIn_of_wp_marks hf.get hf.body trivial ?_)
 have hlen:vs.length = args.length:=hv.1
 have hs:WZ w.heap.size n fn.ntmps ⟨numbered 0 args,[],H⟩ E { tmps:=vs.toArray ++ Array.replicate (fn.ntmps - vs.toArray.size) undef,defers:=[] } w:=by
  refine ⟨by simp; omega,.nil _ (Nat.le_refl _),fun t=>?_,?_,fun l k b hl hb=>hr.out hl hb⟩
  ·rw [lkv_numbered]
   simp only [Nat.zero_le,if_true,Nat.sub_zero]
   by_cases ht:t < args.length
   ·have h1:=hv.2 t ht (by omega)
    have e1:args.getD t .dead = args[t]:=by simp [List.getD_eq_getElem?_getD,List.getElem?_eq_getElem ht]
    have e2:(vs.toArray ++ Array.replicate (fn.ntmps - vs.toArray.size) undef).getD t undef = vs[t]'(by omega):=by
     rw [Array.getD_eq_getD_getElem?,Array.getElem?_append_left (by simp; omega)]
     simp [List.getElem?_eq_getElem (show t < vs.length by omega)]
    rw [e1,e2]; exact h1
   ·have e1:args.getD t .dead = .dead:=by simp [List.getD_eq_getElem?_getD,List.getElem?_eq_none (by omega:args.length ≤ t)]
    rw [e1]; exact .dead _
  ·exact hr.enter
 refine wpIn_mono (h w.heap.size E w _ hs) ?_
 rintro e a' w' ⟨s',E',hQ,hs',hx⟩
 have fin:(∀ x ∈ fn.results.toList,YH s'.tmps s'.H n s'.L T x) ∧ (∃ r,Wks (fn.results.toList.map (Zf0 s'.tmps s'.H n s'.L T)) r ∧ (∀ v ∈ r,Below n v) ∧ Q (tupR r) s'.H) →
   LeavesInM Fence.wide 0 P fn a'.tmps (fun e w2=>∃ r v' H' E',e = .returned v' ∧ Q r H' ∧ VR E' r v' ∧ ZJ n H' E' w2 ∧ Ext n E w E' w2) a'.defers .returning w':=by
  rintro ⟨hok,r,hw,hb,hq⟩
  obtain ⟨hl0,l,hl1,hl2,hl3⟩:=hs'.defs
  rw [hl1]
  refine Zbb l w' hl2 (fun D hD=>(hl3 D hD).2) hs'.heap (fun w2 k1 k2 k3 k4 k5 k6 k7=>?_)
  have hs2:WZ w.heap.size n fn.ntmps s' E' { a' with defers:=[] } w2:=⟨hs'.size,.nil _ (by rw [k7]; exact hl0),hs'.tmps,k1,hs'.out⟩
  obtain ⟨us,hu1,hu2⟩:=Zcp hT hs2 fn.results.toList hok
  have hvr:=forall₂_vr hw hu2
  have hvc:VRs (E'.cut n) r us:=⟨hvr.1,fun i h1 h2=>(hvr.2 i h1 h2).cut (hb _ (List.getElem_mem h1))⟩
  have hres:(results fn a'.tmps).run P w2 = .ok (if h:us.toArray.size = 1 then us.toArray[0] else .tuple us.toArray) w2:=by
   rw [ZgE,Array.mapM_eq_mapM_toList]
   simp only [Sem.run_bind,Sem.run_map,hu1,Result.andThen_ok,Sem.run_pure]
  refine ⟨_,hres,tupR r,_,s'.H,E'.cut n,rfl,hq,?_,ZJ.leave hs2,⟨Env.Zf9 hx.le,k3.trans hx.os,k4.trans hx.tape,k5.trans hx.output,fun hq=>by rw [k6]; exact hx.drawn hq,by rw [k7]; exact hx.size,fun b hb' ho=>?_,fun b hb' ho=>hx.own b hb' ?_⟩⟩
  ·by_cases h1:us.toArray.size = 1
   ·rw [dif_pos h1]
    cases r with
    | nil=>have:=hvc.1; simp at this h1; rw [this] at h1; simp at h1
    | cons x r =>
     cases r with
     | nil =>
      obtain ⟨v,q,rfl,h3,h4⟩:=hvc.YR
      exact h3
     | cons y r=>have:=hvc.1; simp at this h1; omega
   ·rw [dif_neg h1]
    have:tupR r = .tup r:=by
     cases r with
     | nil=>rfl
     | cons x r =>
      cases r with
      | nil=>have:=hvc.1; simp at this h1; omega
      | cons y r=>rfl
    rw [this]; exact .tup r us hvc.1 hvc.2
  ·rw [k2 b (fun hm=>by have:w.heap.size ≤ b:=(hl3 b hm).1; omega)]
   exact hx.block b hb' ho
  ·rcases ho with ⟨l,k,hm⟩ | ⟨l,k,hm⟩
   ·simp only [Env.cut] at hm; split at hm
    ·exact .inl ⟨l,k,hm⟩
    ·cases hm
   ·simp only [Env.cut] at hm; split at hm
    ·exact .inr ⟨l,k,hm⟩
    ·cases hm
 cases e with
 | normal=>exact fin hQ
 | ret=>exact fin hQ
 | _=>exact hQ.elim
end Go.Abs

/- Operations on keys: comparison of structs; slices that may be written. No program, no condition. -/
namespace Go.Abs
inductive KL where
 | int (k:IntKind) (n:Int)
 | str (l:List UInt8)
 | bool (b:Bool)
 deriving DecidableEq
def KL.val:KL → Value
 | .int k n=>.int k n
 | .str l=>.string ⟨l.toArray⟩
 | .bool b=>.bool b
def AV.kl:AV → Option KL
 | .int k n=>some (.int k n)
 | .str l=>some (.str l)
 | .bool b=>some (.bool b)
 | _=>none
def klAll:List AV → Option (List KL)
 | []=>some []
 | a :: r=>match a.kl,klAll r with
  | some x,some xs=>some (x :: xs)
  | _,_=>none
theorem Zlz {E:Env} {a:AV} {v:Value} {q:KL} (h:a.kl = some q) (hv:VR E a v):v = q.val:=by
 cases hv <;> simp [AV.kl] at h <;> subst h <;> rfl
theorem Zav {E:Env}:∀ {as:List AV} {vs:List Value} {ls:List KL},klAll as = some ls → VRs E as vs → vs = ls.map KL.val
 | [],vs,ls,h,hv=>by simp [klAll] at h; subst h; simpa using hv.of_nil
 | a :: r,vs,ls,h,hv=>by
  obtain ⟨v,us,rfl,h1,h2⟩:=hv.YR
  simp only [klAll] at h
  split at h
  ·rename_i x xs hx hxs
   cases h
   rw [Zlz hx h1,Zav hxs h2]; rfl
  ·cases h
def covers (T:TT):List (Nat × TypeId) → Nat → Option Nat
 | [],n=>some n
 | (o,ft) :: r,n=>if o = n then match T ft with
  | some rf=>covers T r (n + rf.size)
  | none=>none else none
def Z4 (T:TT):Nat → TypeId → List KL → Bool
 | 0,_,_=>false
 | d + 1,t,l=>match T t with
  | some r=>match r.td with
   | .int k=>match l with
    | [.int k' _]=>k == k'
    | _=>false
   | .str=>match l with
    | [.str _]=>true
    | _=>false
   | .bool=>match l with
    | [.bool _]=>true
    | _=>false
   | .struct fs=>l.length == r.size && covers T fs 0 == some r.size && fs.all fun p=>match T p.2 with
    | some rf=>Z4 T d p.2 ((l.drop p.1).take rf.size)
    | none=>false
   | _=>false
  | none=>false
def Xu (r:ZE) (l:List KL):Value:=if r.isAgg then .agg (l.map KL.val).toArray else (l.map KL.val).getD 0 undef
theorem ZhO {l m:List KL} (n k:Nat) (h:l.length = m.length):(l.drop n == m.drop n) = ((l.drop n).take k == (m.drop n).take k && (l.drop (n + k) == m.drop (n + k))):=by
 rw [Bool.eq_iff_iff]
 simp only [beq_iff_eq,Bool.and_eq_true]
 rw [← List.drop_drop,← List.drop_drop]
 constructor
 ·intro e; rw [e]; exact ⟨rfl,rfl⟩
 ·rintro ⟨h1,h2⟩
  rw [← List.take_append_drop k (l.drop n),← List.take_append_drop k (m.drop n),h1,h2]
section
variable {P:Program} {T:TT}
theorem JE (hT:TOK P T) {t:TypeId} {r:ZE} (h1:T t = some r) {d:Nat} {l:List KL} {off:Nat} (hl:off + r.size ≤ l.length) (hk:Z4 T d t ((l.drop off).take r.size) = true) (w:World) :
  (part t (l.map KL.val).toArray off).run P w = .ok (Xu r ((l.drop off).take r.size)) w:=by
 obtain ⟨dd,i,z,hf⟩:=Zl (hT t r h1)
 unfold part Xu
 simp only [Sem.run_bind,VA hf,Result.andThen_ok]
 cases hag:r.isAgg with
 | true =>
  simp only [if_true,ZT hf,Sem.run_bind,Result.andThen_ok,Sem.run_pure]
  congr 2
  apply Array.ext'
  simp [List.extract,← List.map_drop,← List.map_take]
 | false =>
  simp only [Bool.false_eq_true,if_false]
  have h2:∃ q,(l.drop off).take r.size = [q]:=by
   cases d with
   | zero=>simp [Z4] at hk
   | succ d =>
    simp only [Z4,h1] at hk
    split at hk
    ·split at hk
     ·rename_i e; exact ⟨_,e⟩
     ·cases hk
    ·split at hk
     ·rename_i e; exact ⟨_,e⟩
     ·cases hk
    ·split at hk
     ·rename_i e; exact ⟨_,e⟩
     ·cases hk
    ·rename_i fs hfs
     simp [ZE.isAgg,hfs] at hag
    ·cases hk
  obtain ⟨q,hq⟩:=h2
  rw [hq]
  have hx:l[off]? = some q:=by
   have:=congrArg (·[0]?) hq
   have hsz:0 < r.size:=by
    rcases Nat.eq_zero_or_pos r.size with h | h
    ·rw [h] at hq; simp at hq
    ·exact h
   simp only [List.getElem?_take,hsz,if_true,List.getElem?_drop,Nat.add_zero,List.getElem?_cons_zero] at this
   exact this
  simp [hx]
theorem Za7 (hT:TOK P T):∀ (d:Nat) (t:TypeId) (r:ZE) (la lb:List KL),T t = some r → Z4 T d t la = true → Z4 T d t lb = true → ∀ dd,d ≤ dd → ∀ w,
  (Op.equalIn dd t (Xu r la) (Xu r lb)).run P w = .ok (la == lb) w
 | 0,_,_,_,_,_,h,_,_,_,_=>by simp [Z4] at h
 | d + 1,t,r,la,lb,h1,ha,hb,dd,hd,w=>by
  obtain ⟨dd,rfl⟩:∃ x,dd = x + 1:=⟨dd - 1,by omega⟩
  obtain ⟨de,i,z,hf⟩:=Zl (hT t r h1)
  simp only [Z4,h1] at ha hb
  split at ha
  ·rename_i k hk
   have hag:r.isAgg = false:=by simp [ZE.isAgg,hk]
   have hu:P.underlying t = some (.int k):=by
    have:=hf.fits; rw [hk] at this; rw [hf.und]
    cases de <;> simp [TD.fits] at this; rw [this]
   simp only [hk] at hb
   split at ha <;> first | exact absurd ha Bool.false_ne_true | skip
   split at hb <;> first | exact absurd hb Bool.false_ne_true | skip
   simp only [beq_iff_eq] at ha hb
   subst ha; subst hb
   simp only [Xu,hag,Bool.false_eq_true,if_false,List.map_cons,List.map_nil,List.getD_cons_zero,KL.val,run_equalIn_int w dd t _ _ _ _ hu]
   congr 1
   rw [Bool.eq_iff_iff]; simp
  ·rename_i hk
   have hag:r.isAgg = false:=by simp [ZE.isAgg,hk]
   have hu:P.underlying t = some .string:=by
    have:=hf.fits; rw [hk] at this; rw [hf.und]
    cases de <;> simp [TD.fits] at this; rfl
   simp only [hk] at hb
   split at ha <;> first | exact absurd ha Bool.false_ne_true | skip
   split at hb <;> first | exact absurd hb Bool.false_ne_true | skip
   simp only [Xu,hag,Bool.false_eq_true,if_false,List.map_cons,List.map_nil,List.getD_cons_zero,KL.val,run_equalIn_string w dd t _ _ hu,ByteArray.toList_mk]
   congr 1
   rw [Bool.eq_iff_iff]; simp
  ·rename_i hk
   have hag:r.isAgg = false:=by simp [ZE.isAgg,hk]
   have hu:P.underlying t = some .bool:=by
    have:=hf.fits; rw [hk] at this; rw [hf.und]
    cases de <;> simp [TD.fits] at this; rfl
   simp only [hk] at hb
   split at ha <;> first | exact absurd ha Bool.false_ne_true | skip
   split at hb <;> first | exact absurd hb Bool.false_ne_true | skip
   simp only [Xu,hag,Bool.false_eq_true,if_false,List.map_cons,List.map_nil,List.getD_cons_zero,KL.val,run_equalIn_bool' w dd t _ _ hu]
   congr 1
   rw [Bool.eq_iff_iff]; simp
  ·rename_i fs hk
   simp only [hk,Bool.and_eq_true,beq_iff_eq,List.all_eq_true] at ha hb
   obtain ⟨⟨la1,la2⟩,la3⟩:=ha
   obtain ⟨⟨lb1,_⟩,lb3⟩:=hb
   have hag:r.isAgg = true:=by simp [ZE.isAgg,hk]
   have hft:=hf.fits
   rw [hk] at hft
   cases de <;> try (simp [TD.fits] at hft; done)
   rename_i gs
   simp only [TD.fits,Bool.and_eq_true,beq_iff_eq,List.all_eq_true,bne_iff_ne] at hft
   have hgs:P.fieldsOf t = gs:=by simp [Program.fieldsOf,hf.und]
   simp only [Xu,hag,if_true]
   rw [run_equalIn_struct w dd t _ _ (by rw [hgs]; exact hf.und) (hf.stood fs hk).1,hgs]
   have key : ∀ (gl : List Field) (n : Nat), (∀ g ∈ gl, g.name ≠ "_") → (∀ g ∈ gl, (g.offset, g.type) ∈ fs) → covers T (gl.map fun g => (g.offset, g.type)) n = some r.size → n ≤ r.size → ∀ w,
     (Op.eqFields dd (la.map KL.val).toArray (lb.map KL.val).toArray gl).run P w = .ok (la.drop n == lb.drop n) w:=by
    intro gl
    induction gl with
    | nil =>
     intro n _ _ hc _ w
     simp only [List.map_nil,covers,Option.some.injEq] at hc
     subst hc
     rw [List.drop_of_length_le (by omega),List.drop_of_length_le (by omega)]
     simp [Op.eqFields]
    | cons g gl ih =>
     intro n hn hin hc hle w
     simp only [List.map_cons,covers] at hc
     split at hc
     ·rename_i hoff
      split at hc
      ·rename_i rf hrf
       have hcov:∀ (l:List (Nat × TypeId)) (m x:Nat),covers T l m = some x → m ≤ x:=by
        intro l
        induction l with
        | nil=>intro m x h; simp only [covers,Option.some.injEq] at h; omega
        | cons p l ihl =>
         intro m x h
         obtain ⟨o,ft⟩:=p
         simp only [covers] at h
         split at h
         ·split at h
          ·have:=ihl _ _ h; omega
          ·cases h
         ·cases h
       have hle2:=hcov _ _ _ hc
       have hka:=la3 _ (hin g (by simp))
       have hkb:=lb3 _ (hin g (by simp))
       simp only [hrf] at hka hkb
       subst hoff
       have ihd:=Za7 hT d g.type rf _ _ hrf hka hkb dd (by omega)
       simp only [Op.eqFields]
       rw [if_pos (hn g (by simp))]
       simp only [Sem.run_bind,JE hT hrf (d:=d) (l:=la) (off:=g.offset) (by omega) hka,JE hT hrf (d:=d) (l:=lb) (off:=g.offset) (by omega) hkb,Result.andThen_ok,ihd]
       rw [ZhO g.offset rf.size (by omega)]
       cases ((la.drop g.offset).take rf.size == (lb.drop g.offset).take rf.size) with
       | true =>
        simp only [Bool.not_true,Bool.false_eq_true,if_false,Bool.true_and]
        exact ih (g.offset + rf.size) (fun g hg=>hn g (List.mem_cons_of_mem _ hg)) (fun g hg=>hin g (List.mem_cons_of_mem _ hg)) hc hle2 w
       | false=>simp
      ·cases hc
     ·cases hc
   have hcv:covers T (gs.toList.map fun g=>(g.offset,g.type)) 0 = some r.size:=by rw [hft.1]; exact la2
   have:=key gs.toList 0 (fun g hg=>hft.2 g hg) (fun g hg=>by rw [← hft.1]; exact List.mem_map.2 ⟨g,hg,rfl⟩) hcv (Nat.zero_le _) w
   simpa using this
  ·cases ha
end
section ops
variable {P:Program} {T:TT} {o:Oper} {ρ:Operand → AV}
theorem JZ {d t:Nat} {r:ZE} {l:List KL} (h1:T t = some r) (h:Z4 T d t l = true) (hag:r.isAgg = true):∃ fs,r.td = .struct fs:=by
 cases d with
 | zero=>simp [Z4] at h
 | succ d =>
  simp only [Z4,h1] at h
  split at h
  ·rename_i hk; simp [ZE.isAgg,hk] at hag
  ·rename_i hk; simp [ZE.isAgg,hk] at hag
  ·rename_i hk; simp [ZE.isAgg,hk] at hag
  ·rename_i fs hk; exact ⟨fs,hk⟩
  ·cases h
theorem ZhT {op:BinOp} {t yt:TypeId} {x y:Operand} {r:ZE} {as bs:List AV} {la lb:List KL} (hT:TOK P T) (ho:o.op = .binOp op t x y yt) (h1:T t = some r) (hag:r.isAgg = true) (hx:ρ x = .agg as) (hy:ρ y = .agg bs)
  (ha:klAll as = some la) (hb:klAll bs = some lb) (fa:Z4 T 100 t la = true) (fb:Z4 T 100 t lb = true) (hop:op = .eql ∨ op = .neq):Y2 P o ρ (.bool (if op = .eql then la == lb else !(la == lb))):=fun E a h=>by
 have k1:=h x (by simp [ho,Op.operands])
 have k2:=h y (by simp [ho,Op.operands])
 obtain ⟨d,inf,z,hf⟩:=Zl (hT t r h1)
 rw [hx] at k1
 rw [hy] at k2
 obtain ⟨fs,hfs⟩:=JZ h1 fa hag
 have he:execOp a.eval o = (do let v ← (do eqGuard op t x y (a.eval x) (a.eval y); binOp op t (a.eval x) (a.eval y)); pure (Next.value v)):=by simp only [execOp,ho]
 generalize hu:a.eval x = u at k1 he
 generalize hv:a.eval y = v at k2 he
 cases k1 with | agg _ us hl1 hv1 =>
 cases k2 with | agg _ vs hl2 hv2 =>
 have e1:=Zav ha ⟨hl1,hv1⟩
 have e2:=Zav hb ⟨hl2,hv2⟩
 subst e1; subst e2
 refine ⟨.bool (if op = .eql then la == lb else !(la == lb)),fun w=>?_,.bool _⟩
 have heq:=Za7 hT 100 t r la lb h1 fa fb 10000 (by omega) w
 simp only [Xu,hag,if_true] at heq
 rw [he]
 rcases hop with rfl | rfl
 ·simp only [Sem.run_bind,run_eqGuard_agg w _ t x y _ _ (hf.stood fs hfs).2,Result.andThen_ok,run_eql_struct,heq,Sem.run_pure,if_true]
 ·simp only [Sem.run_bind,run_eqGuard_agg w _ t x y _ _ (hf.stood fs hfs).2,Result.andThen_ok,run_neq_struct,heq,Sem.run_pure,reduceCtorEq,if_false]
end ops
end Go.Abs

/- Operations on maps. No program, no condition. -/
namespace Go.Abs
def WC (q:List KL):List (List KL) → Nat → Option Nat
 | [],_=>none
 | l :: r,i=>if q = l then some i else WC q r (i + 1)
theorem Jw {q:List KL}:∀ {ls:List (List KL)} {i j:Nat},WC q ls i = some j → i ≤ j ∧ ls[j - i]? = some q
 | [],_,_,h=>by cases h
 | l :: r,i,j,h=>by
  simp only [WC] at h
  split at h
  ·rename_i e; cases h; subst e; simp
  ·obtain ⟨h1,h2⟩:=Jw h
   refine ⟨by omega,?_⟩
   rw [show j - i = (j - (i + 1)) + 1 by omega,List.getElem?_cons_succ]; exact h2
def Zft (q:List KL):List MapEntry → List (List KL) → Nat → Option (Nat × Value)
 | e :: es,l :: ls,i=>if q = l then some (i,e.val) else Zft q es ls (i + 1)
 | _,_,_=>none
theorem Zg3 {q:List KL}:∀ {es:List MapEntry} {ls:List (List KL)} {i:Nat},es.length = ls.length → Zft q es ls i = (WC q ls i).bind fun j=>(es[j - i]?).map fun e=>(j,e.val)
 | [],[],_,_=>rfl
 | e :: es,l :: ls,i,h=>by
  simp only [Zft,WC]
  split
  ·simp
  ·rw [Zg3 (by simpa using h)]
   cases hf:WC q ls (i + 1) with
   | none=>rfl
   | some j =>
    obtain ⟨h1,_⟩:=Jw hf
    simp only [Option.bind_some]
    rw [show j - i = (j - (i + 1)) + 1 by omega,List.getElem?_cons_succ]
 | [],_ :: _,_,h=>by simp at h
 | _ :: _,[],_,h=>by simp at h
section
variable {P:Program} {T:TT}
theorem Wn {d t:Nat} {r:ZE} {l:List KL} (h1:T t = some r) (h:Z4 T d t l = true) (hag:r.isAgg = false) :
  (∃ k n,r.td = .int k ∧ l = [.int k n]) ∨ (∃ s,r.td = .str ∧ l = [.str s]) ∨ ∃ b,r.td = .bool ∧ l = [.bool b]:=by
 cases d with
 | zero=>simp [Z4] at h
 | succ d =>
  simp only [Z4,h1] at h
  split at h
  ·rename_i k hk
   split at h
   ·rename_i k' n
    simp only [beq_iff_eq] at h
    subst h
    exact .inl ⟨k,n,hk,rfl⟩
   ·cases h
  ·rename_i hk
   split at h
   ·exact .inr (.inl ⟨_,hk,rfl⟩)
   ·cases h
  ·rename_i hk
   split at h
   ·exact .inr (.inr ⟨_,hk,rfl⟩)
   ·cases h
  ·rename_i fs hfs
   simp [ZE.isAgg,hfs] at hag
  ·cases h
theorem fits_int {k:IntKind} {d:TypeDesc} (h:(TD.int k).fits d = true):d = .int k:=by
 cases d <;> simp [TD.fits] at h; rw [h]
theorem fits_bool {d:TypeDesc} (h:TD.bool.fits d = true):d = .bool:=by
 cases d <;> simp [TD.fits] at h; rfl
theorem JY {fs : List (Nat × TypeId)} {d : TypeDesc} (h : (TD.struct fs).fits d = true) : ∃ gs, d = .struct gs ∧ gs.toList.map (fun g => (g.offset, g.type)) = fs ∧ ∀ g ∈ gs.toList, g.name ≠ "_" := by
 cases d <;> try (simp [TD.fits] at h; done)
 rename_i gs
 simp only [TD.fits,Bool.and_eq_true,beq_iff_eq,List.all_eq_true,bne_iff_ne] at h
 exact ⟨gs,rfl,h.1,h.2⟩
theorem Zgd {t d:Nat} {r:ZE} {q l:List KL} {de:TypeDesc} (h1:T t = some r) (hfit:r.td.fits de = true) (hag:r.isAgg = false) (hq:Z4 T d t q = true) (hl:Z4 T d t l = true) :
  Instr.sameNow de (Xu r q) (Xu r l) = some (decide (q = l)):=by
 rcases Wn h1 hq hag with ⟨k,n,hk,rfl⟩ | ⟨s,hk,rfl⟩ | ⟨b,hk,rfl⟩ <;> rcases Wn h1 hl hag with ⟨k',n',hk',rfl⟩ | ⟨s',hk',rfl⟩ | ⟨b',hk',rfl⟩ <;> rw [hk] at hk' hfit <;> cases hk'
 ·obtain rfl:=fits_int hfit
  simp only [Xu,hag,Bool.false_eq_true,if_false,List.map_cons,List.map_nil,List.getD_cons_zero,KL.val,Instr.sameNow,if_true]
  rw [Option.some.injEq,Bool.eq_iff_iff]; simp
 ·obtain rfl:=WW hfit
  simp only [Xu,hag,Bool.false_eq_true,if_false,List.map_cons,List.map_nil,List.getD_cons_zero,KL.val,Instr.sameNow]
  rw [Option.some.injEq,Bool.eq_iff_iff,beq_toListBytes,ByteArray.toList_mk,ByteArray.toList_mk]; simp
 ·obtain rfl:=fits_bool hfit
  simp only [Xu,hag,Bool.false_eq_true,if_false,List.map_cons,List.map_nil,List.getD_cons_zero,KL.val,Instr.sameNow]
  rw [Option.some.injEq,Bool.eq_iff_iff]; simp
theorem Zc5 {t d:Nat} {r:ZE} {q:List KL} {de:TypeDesc} (h1:T t = some r) (hfit:r.td.fits de = true) (hag:r.isAgg = false) (hq:Z4 T d t q = true):∀ (es:List MapEntry) (ls:List (List KL)) (i:Nat),
  es.map (·.key) = ls.map (Xu r) → (∀ l ∈ ls,Z4 T d t l = true) → Instr.findNow de (Xu r q) es i = some (Zft q es ls i)
 | [],[],_,_,_=>rfl
 | e :: es,l :: ls,i,h,hf=>by
  simp only [List.map_cons,List.cons.injEq] at h
  simp only [Instr.findNow,h.1,Zgd h1 hfit hag hq (hf l (by simp)),Zft]
  by_cases hql:q = l
  ·simp [hql]
  ·simp only [hql,decide_false,if_false]
   exact Zc5 h1 hfit hag hq es ls (i + 1) h.2 (fun l hl=>hf l (List.mem_cons_of_mem _ hl))
 | [],_ :: _,_,h,_=>by simp at h
 | _ :: _,[],_,h,_=>by simp at h
theorem ZaN (hT:TOK P T) {t:Nat} {r:ZE} {q:List KL} (h1:T t = some r) (hq:Z4 T 100 t q = true) (w:World):∀ (es:List MapEntry) (ls:List (List KL)) (i:Nat),
  es.map (·.key) = ls.map (Xu r) → (∀ l ∈ ls,Z4 T 100 t l = true) → (Instr.findAsking t (Xu r q) es i).run P w = .ok (Zft q es ls i) w
 | [],[],_,_,_=>rfl
 | e :: es,l :: ls,i,h,hf=>by
  simp only [List.map_cons,List.cons.injEq] at h
  have he:(Op.equal t (Xu r q) (Xu r l)).run P w = .ok (q == l) w:=Za7 hT 100 t r q l h1 hq (hf l (by simp)) 10000 (by omega) w
  simp only [Instr.findAsking,h.1,Sem.run_bind,he,Result.andThen_ok,Zft]
  by_cases hql:q = l
  ·simp [hql]
  ·simp only [hql,beq_iff_eq,if_false]
   exact ZaN hT h1 hq w es ls (i + 1) h.2 (fun l hl=>hf l (List.mem_cons_of_mem _ hl))
 | [],_ :: _,_,h,_=>by simp at h
 | _ :: _,[],_,h,_=>by simp at h
theorem ZgK (hT:TOK P T) {t:Nat} {r:ZE} {q:List KL} (h1:T t = some r) (hq:Z4 T 100 t q = true) (w:World) (es:List MapEntry) (ls:List (List KL))
  (h:es.map (·.key) = ls.map (Xu r)) (hf:∀ l ∈ ls,Z4 T 100 t l = true):(Instr.findKey t (Xu r q) es).run P w = .ok (Zft q es ls 0) w:=by
 obtain ⟨de,inf,z,hrf⟩:=Zl (hT t r h1)
 cases hag:r.isAgg with
 | false =>
  simp [Instr.findKey,run_underlying hrf.und,Zc5 h1 hrf.fits hag hq es ls 0 h hf]
 | true =>
  obtain ⟨fs,hfs⟩:=JZ h1 hq hag
  obtain ⟨gs,rfl,_⟩:=JY (hfs ▸ hrf.fits)
  rw [run_findKey_eq w (by rw [hrf.und])]
  exact ZaN hT h1 hq w es ls 0 h hf
theorem Zcg (hT:TOK P T) (em:Bool):∀ (d:Nat) (t:TypeId) (r:ZE) (l:List KL),T t = some r → Z4 T d t l = true → ∀ dd,d ≤ dd → ∀ w:World,(Instr.checkKey em dd t (Xu r l)).run P w = .ok () w
 | 0,_,_,_,_,h,_,_,_=>by simp [Z4] at h
 | d + 1,t,r,l,h1,hk,dd,hd,w=>by
  obtain ⟨dd,rfl⟩:∃ x,dd = x + 1:=⟨dd - 1,by omega⟩
  obtain ⟨de,inf,z,hrf⟩:=Zl (hT t r h1)
  cases hag:r.isAgg with
  | false =>
   rcases Wn h1 hk hag with ⟨k,n,hk',rfl⟩ | ⟨s,hk',rfl⟩ | ⟨b,hk',rfl⟩
   ·have:=fits_int (hk' ▸ hrf.fits); subst this
    simp [Instr.checkKey,run_underlying hrf.und,Xu,hag,KL.val]
   ·have:=WW (hk' ▸ hrf.fits); subst this
    simp [Instr.checkKey,run_underlying hrf.und,Xu,hag,KL.val]
   ·have:=fits_bool (hk' ▸ hrf.fits); subst this
    simp [Instr.checkKey,run_underlying hrf.und,Xu,hag,KL.val]
  | true =>
   obtain ⟨fs,hfs⟩:=JZ h1 hk hag
   obtain ⟨gs,rfl,hgs,hn⟩:=JY (hfs ▸ hrf.fits)
   simp only [Z4,h1,hfs,Bool.and_eq_true,beq_iff_eq,List.all_eq_true] at hk
   obtain ⟨⟨hlen,hcv⟩,hall⟩:=hk
   have hle:∀ (fl:List (Nat × TypeId)) (n x:Nat),covers T fl n = some x → n ≤ x ∧ ∀ p ∈ fl,∀ rf,T p.2 = some rf → p.1 + rf.size ≤ x:=by
    intro fl
    induction fl with
    | nil=>intro n x h; simp only [covers,Option.some.injEq] at h; exact ⟨by omega,by simp⟩
    | cons p fl ih =>
     intro n x h
     obtain ⟨o,ft⟩:=p
     simp only [covers] at h
     split at h
     ·rename_i ho
      split at h
      ·rename_i rf hrf'
       obtain ⟨a1,a2⟩:=ih _ _ h
       refine ⟨by omega,fun p hp rf' hrf2=>?_⟩
       rcases List.mem_cons.1 hp with rfl | hp
       ·simp only [hrf',Option.some.injEq] at hrf2; subst hrf2; simp only; omega
       ·exact a2 p hp rf' hrf2
      ·cases h
     ·cases h
   have hin:=(hle _ _ _ hcv).2
   simp only [Xu,hag,if_true]
   unfold Instr.checkKey
   simp only [Sem.run_bind,run_underlying hrf.und,Result.andThen_ok]
   rw [← Array.forIn_toList]
   have key:∀ (gl:List Field),(∀ g ∈ gl,(g.offset,g.type) ∈ fs) → ∀ w:World,
     (forIn gl PUnit.unit fun f (_ : PUnit) => (if f.name ≠ "_" then do
       let a ← part f.type (l.map KL.val).toArray f.offset
       Instr.checkKey em dd f.type a
       pure (ForInStep.yield PUnit.unit)
      else pure (ForInStep.yield PUnit.unit):Sem (ForInStep PUnit))).run P w = .ok PUnit.unit w:=by
    intro gl
    induction gl with
    | nil=>intro _ w; rfl
    | cons g gl ih =>
     intro hg w
     have hgf:=hall _ (hg g (by simp))
     cases hrg:T g.type with
     | none=>rw [hrg] at hgf; simp at hgf
     | some rf =>
      simp only [hrg] at hgf
      have hpart:=JE hT hrg (d:=d) (l:=l) (off:=g.offset) (by rw [hlen]; exact hin _ (hg g (by simp)) rf hrg) hgf
      have hck:=Zcg hT em d g.type rf _ hrg hgf dd (by omega)
      simp only [List.forIn_cons,Sem.run_bind,Sem.run_ite]
      split
      ·simp only [hpart,hck,Sem.run_bind,Result.andThen_ok,Sem.run_pure]
       exact ih (fun g hg'=>hg g (List.mem_cons_of_mem _ hg')) w
      ·simp only [Sem.run_pure,Result.andThen_ok]
       exact ih (fun g hg'=>hg g (List.mem_cons_of_mem _ hg')) w
   have:=key gs.toList (fun g hg=>by rw [← hgs]; exact List.mem_map.2 ⟨g,hg,rfl⟩) w
   rw [this]
   rfl
theorem Zfd (r:ZE) (l:List KL) (hs:r.isAgg = false → ∃ x,l = [x]):Instr.sameBits 10000 (Xu r l) (Xu r l) = true:=by
 have h1:∀ (x:KL) n,Instr.sameBits n x.val x.val = true:=by
  intro x n
  cases x with
  | int k n=>simp [KL.val,Instr.sameBits]
  | bool b=>simp [KL.val,Instr.sameBits]
  | str s=>simp only [KL.val,Instr.sameBits]; rw [beq_toListBytes]; simp
 unfold Xu
 cases hag:r.isAgg with
 | true =>
  simp only [if_true,Instr.sameBits,beq_self_eq_true,Bool.true_and,List.all_eq_true]
  intro p hp
  obtain ⟨i,hi,rfl⟩:=List.getElem_of_mem hp
  simp only [List.getElem_zip]
  rw [List.getElem_map]
  exact h1 _ _
 | false =>
  obtain ⟨x,rfl⟩:=hs hag
  simp only [Bool.false_eq_true,if_false,List.map_cons,List.map_nil,List.getD_cons_zero]
  exact h1 x _
theorem ZfZ {t d:Nat} {r:ZE} {l:List KL} (h1:T t = some r) (h:Z4 T d t l = true) (w:World):(Instr.keyThatStays (Xu r l) (Xu r l)).run P w = .ok (Xu r l) w:=by
 simp only [Instr.keyThatStays]
 rw [if_pos (Zfd r l (fun hag=>by
  rcases Wn h1 h hag with ⟨k,n,_,e⟩ | ⟨s,_,e⟩ | ⟨b,_,e⟩ <;> exact ⟨_,e⟩))]
 rfl
end
end Go.Abs
