/- A buffer grows by zero values. No program, no condition. -/
import Derived.Test.YthgbkalgmicniaaGreatDoorM05
set_option linter.all false
namespace Go.Abs
def zeroV (r:TRow):AV:=if r.isAgg then .agg r.zero else r.zero.getD 0 .dead
section
variable {P:Program}
theorem run_appendZ_room (w:World) (t tx ty e:TypeId) (i:TypeInfo) (z:Value) (ht:P.underlying t = some (.slice e)) (hx:P.underlying tx = some (.int .i64)) (hi:P.info? e = some i) (hz:i.zero = some z)
  (g sLen sCap:Nat) (cur:Array Value) (hg:w.heap[g]? = some (.cells cur e (0,0))) (m:Nat) (hm0:0 < m) (hs0:0 < i.size) (hm:(m:Int) ≤ 9223372036854775807) (h48:(m:Int) * i.bytes ≤ 281474976710656) (news:List Value) (hn:news = (Builtin.zeroCells z.cells m).toList)
  (h1:∀ u ∈ news,u.oneCell' = true) (hroom:sLen + m ≤ sCap) (hfit:sLen * i.size + news.length ≤ cur.size) :
  (Builtin.append_ #[t,tx] ty #[.slice (some ⟨g,0,none⟩) sLen sCap,.int .i64 m]).run P w =
   .ok (.slice (some ⟨g,0,none⟩) (sLen + m) sCap) (w.setRow g (cur.toList.take (sLen * i.size) ++ news ++ cur.toList.drop (sLen * i.size + news.length)).toArray):=by
 have hst:=run_storeCells_at P g (sLen * i.size) e news 0 cur w hg (by simpa using hfit) h1
 simp only [Nat.add_zero] at hst
 have hw:IntKind.i64.wrap (m:Int) = m:=IntWalk.i64_in _ (by omega)
 have hl0:¬ ((m:Int) < 0):=by omega
 have hb:¬ (281474976710656 < (m:Int) * i.bytes):=by omega
 have hms:¬ (m * i.size = 0):=Nat.ne_of_gt (Nat.mul_pos hm0 hs0)
 subst hn
 simp only [Builtin.append_,run_underlying ht,run_underlying hx,asInt,asIntOf,sizeOf,typeInfo,zeroValue,hi,hz,hw,hl0,hb,hroom,hms,Addr.add_lit,hst,Sem.run_bind,Sem.run_pure,Result.andThen_ok,if_true,if_false]
 simp [hi,hz,hw,hl0,hb,hroom,Addr.add_lit,run_underlying ht,run_underlying hx,typeInfo]
 rw [if_neg (by simpa [Nat.mul_eq_zero] using hms)]
 rw [hst]
 simp
theorem run_appendZ_grow (w:World) (t tx ty e:TypeId) (i:TypeInfo) (z:Value) (ht:P.underlying t = some (.slice e)) (hx:P.underlying tx = some (.int .i64)) (hi:P.info? e = some i) (hz:i.zero = some z)
  (base:Option Addr) (sLen sCap:Nat) (olds:List Value) (hold:(Builtin.firstCells i.size sLen (.slice base sLen sCap)).run P w.drew = .ok olds.toArray w.drew)
  (m:Nat) (hm0:0 < m) (hs0:0 < i.size) (hm:(m:Int) ≤ 9223372036854775807) (h48:(m:Int) * i.bytes ≤ 281474976710656) (news:List Value) (hn:news = (Builtin.zeroCells z.cells m).toList)
  (hg:sCap < sLen + m) (h63:((sLen + m:Nat):Int) ≤ 9223372036854775807) (hfit:Builtin.nextslicecap (sLen + m) sCap * i.bytes ≤ 281474976710656) :
  (Builtin.append_ #[t,tx] ty #[.slice base sLen sCap,.int .i64 m]).run P w =
   .ok (.slice (some ⟨w.heap.size,0,none⟩) (sLen + m) (grownCap w (sLen + m) sCap e))
    (w.drew.alloc (.cells ((olds ++ news).toArray ++ Builtin.zeroCells z.cells (grownCap w (sLen + m) sCap e - (sLen + m))) e)):=by
 have hw:IntKind.i64.wrap (m:Int) = m:=IntWalk.i64_in _ (by omega)
 have hl0:¬ ((m:Int) < 0):=by omega
 have hb:¬ (281474976710656 < (m:Int) * i.bytes):=by omega
 have hms:¬ (m * i.size = 0):=Nat.ne_of_gt (Nat.mul_pos hm0 hs0)
 have hms':¬ (m = 0 ∨ i.size = 0):=by omega
 have hnn:¬ (sLen + m ≤ sCap):=by omega
 have h63':¬ (9223372036854775807 < ((sLen:Int) + (m:Int))):=by omega
 have h48':¬ (281474976710656 < Builtin.nextslicecap (sLen + m) sCap * i.bytes):=by omega
 subst hn
 simp [Builtin.append_,run_underlying ht,run_underlying hx,asInt,asIntOf,sizeOf,typeInfo,zeroValue,hi,hz,hw,hl0,hb,hnn,hms',h63',h48',Question.forced,hold,newRow,grownCap]
 rw [if_neg hms]
 congr 3
 apply Array.ext'
 simp [List.append_assoc]
theorem zeroCells_succ (z:Array Value) (n:Nat) (h:0 < z.size):(Builtin.zeroCells z (n + 1)).toList = z.toList ++ (Builtin.zeroCells z n).toList:=by
 apply List.ext_getElem
 ·simp [Builtin.zeroCells,Nat.add_mul]; omega
 intro i h1 h2
 simp only [Builtin.zeroCells,Array.toList_map,Array.toList_range,List.getElem_map,List.getElem_range,List.getElem_append,Array.length_toList]
 split
 ·rename_i hi
  rw [Nat.mod_eq_of_lt hi]
  simp [hi]
 ·rename_i hi
  rw [Nat.mod_eq_sub_mod (by omega)]
theorem flat_replicate_succ (v:AV) (n:Nat):flat (List.replicate (n + 1) v) = v.cells ++ flat (List.replicate n v):=by rw [List.replicate_succ,flat_cons]
theorem VRs_zero {E:Env} {v:AV} {z:Array Value} (h:VRs E v.cells z.toList) (hz:0 < z.size):∀ n,VRs E (flat (List.replicate n v)) (Builtin.zeroCells z n).toList
 | 0=>by simp [Builtin.zeroCells,flat]; exact VRs.nil E
 | n + 1=>by rw [flat_replicate_succ,zeroCells_succ z n hz]; exact h.append (VRs_zero h hz n)
theorem run_append_anyZ {T:TT} (hT:TOK P T) {w:World} {t tx ty e:TypeId} {r re rx:TRow} (h1:T t = some r) (h2:r.td = .slice e) (h3:T e = some re) (h4:T tx = some rx) (h5:rx.td = .int .i64) (hsz:0 < re.size) {n c:Nat} {xv:Value} {cs1:List Value}
  (hcur:CurR w e re.size n xv cs1) (hc:0 < c) (hml:n + c ≤ maxLen) (hby:(n + c) * re.bytes ≤ 140737488355328) (z:Value) (hz:∀ d i z',RowFacts P e re d i z' → z' = z) (hone:∀ u ∈ (Builtin.zeroCells z.cells c).toList,u.oneCell' = true) :
  ∃ g' cap cur w',(Builtin.append_ #[t,tx] ty #[xv,.int .i64 c]).run P w = .ok (.slice (some ⟨g',0,none⟩) (n + c) cap) w' ∧ w'.os = w.os ∧ w'.tape = w.tape ∧ w'.output = w.output ∧ w.drawn ≤ w'.drawn ∧ w.heap.size ≤ w'.heap.size ∧
   (∀ b,b < w.heap.size → b ≠ g' → w'.heap[b]? = w.heap[b]?) ∧ ((∃ cap0,xv = .slice (some ⟨g',0,none⟩) n cap0 ∧ 0 < cap0) ∨ w.heap.size ≤ g') ∧ w'.heap[g']? = some (.cells cur e (0,0)) ∧ n + c ≤ cap ∧ cap ≤ maxLen ∧ cur.size = cap * re.size ∧
   cs1 ++ (Builtin.zeroCells z.cells c).toList = cur.toList.take ((n + c) * re.size):=by
 obtain ⟨d,inf,z0,hf⟩:=rowOK_facts (hT t r h1)
 obtain ⟨d',i',z',hf'⟩:=rowOK_facts (hT e re h3)
 obtain ⟨dx,ix,zx,hfx⟩:=rowOK_facts (hT tx rx h4)
 obtain rfl:=hz _ _ _ hf'
 have hd:=slice_fits (h2 ▸ hf.fits)
 subst hd
 have hdx:=int_fits (h5 ▸ hfx.fits)
 subst hdx
 have hu:P.underlying t = some (.slice e):=hf.und
 have hux:P.underlying tx = some (.int .i64):=hfx.und
 have hmx:n + c ≤ 9223372036854775807:=by unfold maxLen at hml; omega
 have hs0:0 < i'.size:=by rw [hf'.size]; exact hsz
 have hcb:(c:Int) * i'.bytes ≤ 281474976710656:=by
  have:c * re.bytes ≤ (n + c) * re.bytes:=Nat.mul_le_mul_right _ (by omega)
  rw [hf'.bytes]
  have h:((c * re.bytes:Nat):Int) ≤ 140737488355328:=by omega
  rw [Int.natCast_mul] at h; omega
 have hl2:(Builtin.zeroCells z'.cells c).toList.length = c * re.size:=by rw [Array.length_toList,size_zeroCells,hf'.zsize]
 generalize hcs2:(Builtin.zeroCells z'.cells c).toList = cs2 at *
 rcases hcur with ⟨rfl,rfl,ad,rfl⟩ | ⟨g,cap,cur,rfl,q3,q4,q5,q6,q7⟩
 ·simp only [Nat.zero_add] at hmx hml hby ⊢
  have hge:=grownCap_ge w c 0 e
  have hb48:Builtin.nextslicecap (0 + c) 0 * i'.bytes ≤ 281474976710656:=growslice_fits (by omega) (by rw [hf'.bytes,Nat.zero_add]; exact hby)
  have hr1:=run_appendZ_grow (P:=P) w t tx ty e i' z' hu hux hf'.info hf'.zero ad 0 0 [] (by cases ad <;> simp [Builtin.firstCells,loadCells,loadCellsFrom]) c hc hs0 (by omega) hcb cs2 hcs2.symm (by omega) (by omega) hb48
  simp only [Nat.zero_add,List.nil_append] at hr1
  refine ⟨w.heap.size,grownCap w c 0 e,cs2.toArray ++ Builtin.zeroCells z'.cells (grownCap w c 0 e - c),w.drew.alloc (.cells (cs2.toArray ++ Builtin.zeroCells z'.cells (grownCap w c 0 e - c)) e),hr1,rfl,rfl,rfl,Nat.le_succ _,by simp,fun b hb _=>heap_alloc_old w.drew _ hb,.inr (Nat.le_refl _),heap_alloc_new w.drew _,hge,grownCap_le_maxLen w _ _ _ hml,?_,?_⟩
  ·simp only [Array.size_append,List.size_toArray,size_zeroCells,hl2,hf'.zsize,← Nat.add_mul]
   congr 1; omega
  ·simp only [List.nil_append,Array.toList_append]
   rw [← hl2]; simp
 ·have hle:n * re.size ≤ cap * re.size:=Nat.mul_le_mul_right _ q4
  have hl1:cs1.length = n * re.size:=by rw [← q7,List.length_take]; simp; omega
  have hn1:∀ j v,cs1[j]? = some v → w.cell? ((⟨g,0,none⟩:Addr).add j) = some v:=fun j v hj=>by
   rw [addr_add_lit]
   simp only [World.cell?,q3,Nat.zero_add]
   rw [← q7] at hj
   rcases Nat.lt_or_ge j (n * re.size) with h | h
   ·rw [List.getElem?_take_of_lt h] at hj; simpa using hj
   ·rw [List.getElem?_take,if_neg (by omega)] at hj; cases hj
  have hglt:g < w.heap.size:=(Array.getElem?_eq_some_iff.1 q3).1
  by_cases hroom:n + c ≤ cap
  ·have hfit:n * i'.size + cs2.length ≤ cur.size:=by rw [hl2,q6,hf'.size,← Nat.add_mul]; exact Nat.mul_le_mul_right _ hroom
   have hr1:=run_appendZ_room (P:=P) w t tx ty e i' z' hu hux hf'.info hf'.zero g n cap cur q3 c hc hs0 (by omega) hcb cs2 hcs2.symm hone hroom hfit
   rw [hf'.size] at hr1 hfit
   refine ⟨g,cap,_,_,hr1,rfl,rfl,rfl,Nat.le_refl _,by simp [World.setRow],fun b _ hb=>setRow_other w g b _ hb,.inl ⟨cap,rfl,by omega⟩,setRow_heap w g cur _ e (0,0) q3,hroom,q5,?_,?_⟩
   ·simp only [List.size_toArray,List.length_append,List.length_take,List.length_drop,Array.length_toList]
    rw [← q6]; omega
   ·rw [List.toList_toArray,q7]
    rw [show (n + c) * re.size = (cs1 ++ cs2).length by rw [List.length_append,hl1,hl2,Nat.add_mul],List.take_left]
  ·have hb48:Builtin.nextslicecap (n + c) cap * i'.bytes ≤ 281474976710656:=growslice_fits (by omega) (by rw [hf'.bytes]; exact hby)
   have hge:=grownCap_ge w (n + c) cap e
   have hfo:=run_firstCells_some (P:=P) w.drew i'.size n ⟨g,0,none⟩ n cap cs1 (by rw [hf'.size]; exact hl1) (by simpa using hn1)
   have hr1:=run_appendZ_grow (P:=P) w t tx ty e i' z' hu hux hf'.info hf'.zero (some ⟨g,0,none⟩) n cap cs1 hfo c hc hs0 (by omega) hcb cs2 hcs2.symm (by omega) (by omega) hb48
   refine ⟨w.heap.size,grownCap w (n + c) cap e,(cs1 ++ cs2).toArray ++ Builtin.zeroCells z'.cells (grownCap w (n + c) cap e - (n + c)),w.drew.alloc (.cells ((cs1 ++ cs2).toArray ++ Builtin.zeroCells z'.cells (grownCap w (n + c) cap e - (n + c))) e),hr1,rfl,rfl,rfl,Nat.le_succ _,by simp,fun b hb _=>heap_alloc_old w.drew _ hb,.inr (Nat.le_refl _),heap_alloc_new w.drew _,hge,grownCap_le_maxLen w _ _ _ hml,?_,?_⟩
   ·simp only [Array.size_append,List.size_toArray,size_zeroCells,hl1,hl2,hf'.zsize,← Nat.add_mul,List.length_append]
    congr 1; omega
   ·simp only [Array.toList_append,List.toList_toArray]
    rw [show (n + c) * re.size = (cs1 ++ cs2).length by rw [List.length_append,hl1,hl2,Nat.add_mul],List.take_left]
end
section ops
variable {P:Program} {T:TT} {o:Oper} {ρ:Operand → AV}
theorem or_append_bufZ {m:Nat} {H:AHeap} {t tx:TypeId} {x y:Operand} {r re rx:TRow} {e:TypeId} {k l j c:Nat} {xs:List AV} (hT:TOK P T)
  (ho:o.op = .call { callee:=.builtin .append,args:=#[x,y],argTypes:=#[t,tx] }) (h1:T t = some r) (h2:r.td = .slice e) (h3:T e = some re) (h4:T tx = some rx) (h5:rx.td = .int .i64) (hsz:0 < re.size)
  (hx:ρ x = .sl k xs (.buf l j)) (hy:ρ y = .int .i64 c) (hl:l < m) (hH:H l j = some (.buf e re.size xs.length)) (hk:k = re.size) (hzc:(zeroV re).cells = re.zero)
  (hml:xs.length + c ≤ maxLen) (hby:(xs.length + c) * re.bytes ≤ 140737488355328) :
  OpRun P m o ρ H (.sl k (xs ++ List.replicate c (zeroV re)) (.buf l j)) (H.upd l j (.buf e re.size (xs.length + c))):=fun E w a hr hops=>by
 have hxv:=hops x (by simp [ho,Op.operands,Call.operands])
 have hyv:=hops y (by simp [ho,Op.operands,Call.operands])
 rw [hx] at hxv
 rw [hy] at hyv
 have hyv:a.eval y = .int .i64 c:=by
  generalize a.eval y = q at hyv
  cases hyv; rfl
 obtain ⟨d',i',z',hf'⟩:=rowOK_facts (hT e re h3)
 rcases Nat.eq_zero_or_pos c with rfl | hc
 ·refine ⟨a.eval x,E,w,.inl (append_exec ho ?_),by simpa using hxv,by rw [Nat.add_zero,upd_self hH]; exact hr,.refl m E w⟩
  rw [hyv]
  obtain ⟨d,inf,z0,hf⟩:=rowOK_facts (hT t r h1)
  obtain ⟨dx,ix,zx,hfx⟩:=rowOK_facts (hT tx rx h4)
  have hd:=slice_fits (h2 ▸ hf.fits)
  subst hd
  have hdx:=int_fits (h5 ▸ hfx.fits)
  subst hdx
  have hu:P.underlying t = some (.slice e):=hf.und
  have hux:P.underlying tx = some (.int .i64):=hfx.und
  have hw0:IntKind.i64.wrap 0 = 0:=rfl
  rcases hxv.sl_elim with ⟨⟨ad,e1,_⟩,_,_⟩ | ⟨b,off,cap,cs,e1,_,_,_,hcc,_,_⟩ <;> rw [e1]
  ·cases ad <;> simp [Builtin.append_,run_underlying hu,run_underlying hux,asInt,asIntOf,sizeOf,typeInfo,hf'.info,storeCells,hw0]
  ·simp [Builtin.append_,run_underlying hu,run_underlying hux,asInt,asIntOf,sizeOf,typeInfo,hf'.info,storeCells,hw0,hcc]
 ·have hv0:VRs E (zeroV re).cells z'.cells.toList:=by rw [hzc]; exact fitsAll_VRs hf'.zfits
  have hvz:=VRs_zero hv0 (by rw [hf'.zsize]; exact hsz) c
  have hcl:(zeroV re).cells.length = re.size:=by rw [hv0.1.symm,Array.length_toList,hf'.zsize]
  have hone:∀ u ∈ (Builtin.zeroCells z'.cells c).toList,u.oneCell' = true:=fun u hu=>by
   obtain ⟨i,hi,rfl⟩:=List.getElem_of_mem hu
   have hi':i < (flat (List.replicate c (zeroV re))).length:=by rw [← hvz.1]; exact hi
   refine (hvz.2 i hi' hi).one ?_
   have hmem:(flat (List.replicate c (zeroV re)))[i] ∈ flat (List.replicate c (zeroV re)):=List.getElem_mem hi'
   simp only [flat,List.mem_flatMap] at hmem
   obtain ⟨y',hy',hc'⟩:=hmem
   rw [(List.mem_replicate.1 hy').2,hzc] at hc'
   exact fitsAll_one hf'.zfits _ hc'
  have hlr:(List.replicate c (zeroV re)).length = c:=List.length_replicate
  obtain ⟨cv,E',w',a1,a2,a3,a4⟩:=append_bufC (P:=P) (S:=Builtin.append_ #[t,tx] o.type #[a.eval x,.int .i64 c]) (ys:=List.replicate c (zeroV re)) hr hxv hl hH hk (fun y hy=>by rw [(List.mem_replicate.1 hy).2]; exact hcl) hvz (by rw [hlr]; exact hc) (by rw [hlr]; exact hml)
   (fun cs1 hcur=>by
    rw [hlr]
    exact run_append_anyZ hT h1 h2 h3 h4 h5 hsz hcur hc hml hby z' (fun d1 i1 z1 hf1=>by have e1:=hf1.info.symm.trans hf'.info; cases e1; have e2:=hf1.zero.symm.trans hf'.zero; cases e2; rfl) hone)
  rw [hlr] at a3
  exact ⟨cv,E',w',.inl (append_exec ho (by rw [hyv]; exact a1)),a2,a3,a4⟩
end ops
end Go.Abs

/- Goals out of code: regions, calls, loops. No program, no condition. -/
namespace Go.Abs
def OutStep (n:Nat) (H H':AHeap):Prop:=∀ l k b,l < n → H' l k = some b → H l k = some b ∨ b.Below n
theorem OutStep.refl (n:Nat) (H:AHeap):OutStep n H H:=fun _ _ _ _ h=>.inl h
theorem OutStep.trans {n:Nat} {A B C:AHeap} (h:OutStep n A B) (h':OutStep n B C):OutStep n A C:=fun l k b hl hb=>by
 rcases h' l k b hl hb with h1 | h1
 ·exact h l k b hl h1
 ·exact .inr h1
theorem OutStep.upd {n l k:Nat} {H:AHeap} {b:ABlk} (h:b.Below n):OutStep n H (H.upd l k b):=fun l' k' b' _ hb=>by
 simp only [AHeap.upd] at hb
 split at hb
 ·cases hb; exact .inr h
 ·exact .inl hb
inductive AM where
 | auto | pure | heap | call
 | place (l k:Nat) (mb:Bool)
 | lay (mb:Bool)
def evR (T:TT) (o:Op) (ρ:Operand → AV) (G:AHeap):Prop × AV :=
 match o with
 | .load t x=>match T t with
  | some r=>match ρ x with
   | .iptr cs=>(r.size ≤ cs.length ∧ (r.isAgg = false → 0 < cs.length),ldA r cs)
   | .ptr l k off=>match G l k with
    | some (.box cs)=>(off + r.size ≤ cs.length ∧ (r.isAgg = false → off < cs.length),ldA r (cs.drop off))
    | _=>(False,.dead)
   | .eptr l k i off=>match G l k with
    | some (.mbuf _ _ cs i')=>(i' = i ∧ 0 < i ∧ off + r.size ≤ cs.length ∧ (r.isAgg = false → off < cs.length),ldA r (cs.drop off))
    | _=>(False,.dead)
   | _=>(False,.dead)
  | none=>(False,.dead)
 | .lookup t x y ok=>match mapOf T t with
  | some (kt,_,re)=>match ρ x with
   | .nilm=>((re.isAgg = false → re.size = 1) ∧ keyOK T kt (ρ y) = true,lookA re (ρ y) [] ok)
   | .map l k=>match G l k with
    | some (.map es)=>((re.isAgg = false → re.size = 1) ∧ keyOK T kt (ρ y) = true ∧ (∀ p ∈ es,keyOK T kt p.1 = true),lookA re (ρ y) es ok)
    | _=>(False,.dead)
   | _=>(False,.dead)
  | none=>(False,.dead)
 | _=>(False,.dead)
def avoids (n:Nat) (lay:List Nat):AV → Prop
 | .ptr l k _=>l = n → lay.contains k = false
 | .eptr l k _ _=>l = n → lay.contains k = false
 | .map l k=>l = n → lay.contains k = false
 | _=>True
def lookOpd:Op → Operand
 | .load _ x=>x
 | .lookup _ x _ _=>x
 | _=>.func 0
theorem evR_sound {P:Program} {T:TT} (hT:TOK P T) {m:Nat} {o:Oper} {ρ:Operand → AV} {G:AHeap}:∀ p,evR T o.op ρ G = p → p.1 → OpSem P m o ρ G p.2 G:=by
 intro p hp h
 unfold evR at hp
 split at hp
 ·rename_i t x ho
  split at hp
  ·rename_i r hr
   split at hp
   ·rename_i hx; subst hp; exact (or_load_iptr hT ho hr hx h.1 h.2).sem
   ·rename_i hx
    split at hp
    ·rename_i cs hb; subst hp
     exact (or_load_ptr hT ho hr hx hb h.1 h.2).sem
    ·subst hp; exact h.elim
   ·rename_i hx
    split at hp
    ·rename_i cs i' hb; subst hp
     obtain ⟨rfl,c1,c2,c3⟩:=h
     exact (or_load_eptr hT ho hr hx hb c1 c2 c3).sem
    ·subst hp; exact h.elim
   ·subst hp; exact h.elim
  ·subst hp; exact h.elim
 ·rename_i t x y ok ho
  split at hp
  ·rename_i kt e re hm
   split at hp
   ·rename_i hx; subst hp
    exact ((or_lookup_nil hT ho hm h.1 hx rfl h.2).run m G).sem
   ·rename_i hx
    split at hp
    ·rename_i es hb; subst hp
     exact (or_lookup hT ho hm h.1 hx rfl hb h.2.1 h.2.2).sem
    ·subst hp; exact h.elim
   ·subst hp; exact h.elim
  ·subst hp; exact h.elim
 ·subst hp; exact h.elim
theorem evR_congr {T:TT} {n:Nat} {lay:List Nat} {o:Op} {ρ:Operand → AV} {G H:AHeap} (hG:AgreeOff n (fun s=>lay.contains s) G H) (ha:avoids n lay (ρ (lookOpd o))):evR T o ρ G = evR T o ρ H:=by
 unfold evR
 cases o <;> try rfl
 ·rename_i t x
  simp only [lookOpd] at ha
  dsimp only
  cases T t with
  | none=>rfl
  | some r =>
   dsimp only
   cases hx:ρ x <;> try rfl
   ·rw [hx] at ha; dsimp only; rw [hG _ _ ha]
   ·rw [hx] at ha; dsimp only; rw [hG _ _ ha]
 ·rename_i t x y ok
  simp only [lookOpd] at ha
  dsimp only
  cases mapOf T t with
  | none=>rfl
  | some q =>
   obtain ⟨kt,e,re⟩:=q
   dsimp only
   cases hx:ρ x <;> try rfl
   rw [hx] at ha; dsimp only; rw [hG _ _ ha]
def evW (T:TT) (n:Nat) (o:Op) (d:Option Nat) (am:AM) (ρ:Operand → AV) (G:AHeap):Prop × AV × Option (Nat × Nat × ABlk) :=
 match o with
 | .store t x y=>match T t with
  | some r=>match ρ x with
   | .ptr l k off=>match G l k with
    | some (.box cs)=>((mv T t y (ρ y)).cells.length = r.size ∧ ones (mv T t y (ρ y)) = true ∧ off + r.size ≤ cs.length,.tup [],some (l,k,.box (splice cs off (mv T t y (ρ y)).cells)))
    | _=>(False,.dead,none)
   | .eptr l k i off=>match G l k with
    | some (.mbuf e sz cs i')=>(i' = i ∧ 0 < i ∧ (mv T t y (ρ y)).cells.length = r.size ∧ ones (mv T t y (ρ y)) = true ∧ off + r.size ≤ cs.length,.tup [],some (l,k,.mbuf e sz (splice cs off (mv T t y (ρ y)).cells) i))
    | _=>(False,.dead,none)
   | _=>(False,.dead,none)
  | none=>(False,.dead,none)
 | .mapUpdate t x y z=>match mapOf T t with
  | some (kt,_,_)=>match ρ x with
   | .map l k=>match G l k with
    | some (.map es)=>(keyOK T kt (ρ y) = true ∧ (∀ p ∈ es,keyOK T kt p.1 = true),.tup [],some (l,k,.map (putA (ρ y) (ρ z) es)))
    | _=>(False,.dead,none)
   | _=>(False,.dead,none)
  | none=>(False,.dead,none)
 | .insert t x y z=>match mapOf T t with
  | some (kt,_,_)=>match ρ x with
   | .map l k=>match G l k with
    | some (.map es)=>(keyOK T kt (ρ y) = true ∧ (∀ p ∈ es,keyOK T kt p.1 = true),.tup [],some (l,k,.map (putA (ρ y) (ρ z) es)))
    | _=>(False,.dead,none)
   | _=>(False,.dead,none)
  | none=>(False,.dead,none)
 | .mapEntry t x y=>match mapOf T t with
  | some (kt,_,re)=>match ρ x with
   | .map l k=>match G l k with
    | some (.map es)=>((re.isAgg = false → re.size = 1) ∧ keyOK T kt (ρ y) = true ∧ (∀ p ∈ es,keyOK T kt p.1 = true),(entA re (ρ y) es).1,some (l,k,.map (entA re (ρ y) es).2))
    | _=>(False,.dead,none)
   | _=>(False,.dead,none)
  | none=>(False,.dead,none)
 | .entryStore _ x y z=>match ρ x,ρ y with
  | .map l k,.int _ i=>match G l k with
   | some (.map es)=>(0 ≤ i ∧ i.toNat < es.length,.tup [],some (l,k,.map (es.set i.toNat ((es.getD i.toNat (.dead,.dead)).1,ρ z))))
   | _=>(False,.dead,none)
  | _,_=>(False,.dead,none)
 | .range t x=>match d,mapOf T t with
  | some dd,some _=>match ρ x with
   | .map l k=>match G l k with
    | some (.map es)=>(G n dd = none,.ptr n dd 0,some (n,dd,.iter l k es.length []))
    | _=>(False,.dead,none)
   | _=>(False,.dead,none)
  | _,_=>(False,.dead,none)
 | .entry x=>match ρ x with
  | .ptr l k 0=>match G l k with
   | some (.iter l' j since (s :: seen))=>match G l' j with
    | some (.map es)=>(since = es.length ∧ (s :: seen).getLast (by simp) < es.length,.tup [(es.getD ((s :: seen).getLast (by simp)) (.dead,.dead)).1,(es.getD ((s :: seen).getLast (by simp)) (.dead,.dead)).2],none)
    | _=>(False,.dead,none)
   | _=>(False,.dead,none)
  | _=>(False,.dead,none)
 | .call c=>match c.callee,c.args.toList,c.argTypes.toList with
  | .builtin .append,[x,y],[t,t']=>match sliceOf T t,mv T t y (ρ y) with
   | some (e,re),.sl k' ys _=>match am with
    | .place l j mb=>match mv T t x (ρ x) with
     | .sl _ [] .full=>(t' = t ∧ 0 < re.size ∧ l ≤ n ∧ G l j = none ∧ (ys = [] ∨ k' = re.size) ∧ (∀ y ∈ ys,ones y = true) ∧ ys.length ≤ maxLen ∧ ys.length * re.bytes ≤ 140737488355328,
       if mb then .msl re.size l j ys.length else .sl re.size ys (.buf l j),some (l,j,if mb then .mbuf e re.size (flat ys) ys.length else .buf e re.size ys.length))
     | _=>(False,.dead,none)
    | _=>match ρ x with
     | .sl k xs (.buf l j)=>match G l j with
      | some (.buf e' sz fr)=>(t' = t ∧ e' = e ∧ sz = re.size ∧ fr = xs.length ∧ k = re.size ∧ 0 < re.size ∧ (ys = [] ∨ k' = re.size) ∧ (∀ y ∈ ys,ones y = true) ∧ xs.length + ys.length ≤ maxLen ∧ (xs.length + ys.length) * re.bytes ≤ 140737488355328,
        .sl k (xs ++ ys) (.buf l j),some (l,j,.buf e re.size (xs.length + ys.length)))
      | _=>(False,.dead,none)
     | .msl sz0 l j i=>match G l j with
      | some (.mbuf e' sz cs i')=>(t' = t ∧ e' = e ∧ sz = re.size ∧ i' = i ∧ 0 < re.size ∧ (ys = [] ∨ k' = re.size) ∧ (∀ y ∈ ys,ones y = true) ∧ i + ys.length ≤ maxLen ∧ (i + ys.length) * re.bytes ≤ 140737488355328,
        .msl sz0 l j (i + ys.length),some (l,j,.mbuf e re.size (cs ++ flat ys) (i + ys.length)))
      | _=>(False,.dead,none)
     | _=>(False,.dead,none)
   | some (e,re),.int .i64 c=>match ρ x with
    | .sl k xs (.buf l j)=>match G l j with
     | some (.buf e' sz fr)=>(tdOf T t' = some (.int .i64) ∧ 0 ≤ c ∧ e' = e ∧ sz = re.size ∧ fr = xs.length ∧ k = re.size ∧ 0 < re.size ∧ (zeroV re).cells = re.zero ∧ xs.length + c.toNat ≤ maxLen ∧ (xs.length + c.toNat) * re.bytes ≤ 140737488355328,
       .sl k (xs ++ List.replicate c.toNat (zeroV re)) (.buf l j),some (l,j,.buf e re.size (xs.length + c.toNat)))
     | _=>(False,.dead,none)
    | _=>(False,.dead,none)
   | _,_=>(False,.dead,none)
  | _,_,_=>(False,.dead,none)
 | _=>(False,.dead,none)
def applyW (G:AHeap):Option (Nat × Nat × ABlk) → AHeap
 | none=>G
 | some (l,k,b)=>G.upd l k b
theorem evW_sound {P:Program} {T:TT} (hT:TOK P T) {n:Nat} {o:Oper} {am:AM} {ρ:Operand → AV} {G:AHeap}:∀ p,evW T n o.op o.dst am ρ G = p → p.1 → OpSem P (n + 1) o ρ G p.2.1 (applyW G p.2.2):=by
 intro p hp h
 unfold evW at hp
 split at hp
 ·rename_i t x y ho
  split at hp
  ·rename_i r hr
   split at hp
   ·rename_i l k off hx
    split at hp
    ·rename_i cs hb; subst hp
     obtain ⟨h1,h2,h3⟩:=h
     exact (mv_app (T:=T) t (or_store (m:=n + 1) (ρ:=fun z=>mv T t z (ρ z)) hT ho hr (by show mv T t x (ρ x) = _; rw [hx]; cases x <;> rfl) rfl hb h1 (ones_spec h2) h3)).sem
    ·subst hp; exact h.elim
   ·rename_i l k i off hx
    split at hp
    ·rename_i e sz cs i' hb; subst hp
     obtain ⟨rfl,h0,h1,h2,h3⟩:=h
     exact (mv_app (T:=T) t (or_store_eptr (m:=n + 1) (ρ:=fun z=>mv T t z (ρ z)) hT ho hr (by show mv T t x (ρ x) = _; rw [hx]; cases x <;> rfl) rfl hb h0 h1 (ones_spec h2) h3)).sem
    ·subst hp; exact h.elim
   ·subst hp; exact h.elim
  ·subst hp; exact h.elim
 ·rename_i t x y z ho
  split at hp
  ·rename_i kt e re hm
   split at hp
   ·rename_i l k hx
    split at hp
    ·rename_i es hb; subst hp
     exact (or_mapUpdate hT (.inl ho) hm hx rfl rfl hb h.1 h.2).sem
    ·subst hp; exact h.elim
   ·subst hp; exact h.elim
  ·subst hp; exact h.elim
 ·rename_i t x y z ho
  split at hp
  ·rename_i kt e re hm
   split at hp
   ·rename_i l k hx
    split at hp
    ·rename_i es hb; subst hp
     exact (or_mapUpdate hT (.inr ho) hm hx rfl rfl hb h.1 h.2).sem
    ·subst hp; exact h.elim
   ·subst hp; exact h.elim
  ·subst hp; exact h.elim
 ·rename_i t x y ho
  split at hp
  ·rename_i kt e re hm
   split at hp
   ·rename_i l k hx
    split at hp
    ·rename_i es hb; subst hp
     exact (or_mapEntry hT ho hm h.1 hx rfl hb h.2.1 h.2.2).sem
    ·subst hp; exact h.elim
   ·subst hp; exact h.elim
  ·subst hp; exact h.elim
 ·rename_i t x y z ho
  split at hp
  ·rename_i l k kk i hx hy
   split at hp
   ·rename_i es hb; subst hp
    obtain ⟨c1,c2⟩:=h
    exact (or_entryStore (i:=i.toNat) (kk:=kk) ho hx (by rw [hy]; congr 1; omega) rfl hb c2).sem
   ·subst hp; exact h.elim
  ·subst hp; exact h.elim
 ·rename_i t x ho
  split at hp
  ·rename_i dd q hd hm
   obtain ⟨kt,e,re⟩:=q
   split at hp
   ·rename_i l k hx
    split at hp
    ·rename_i es hb; subst hp
     exact (or_range hT ho hm hx hb (Nat.lt_succ_self n) h).sem
    ·subst hp; exact h.elim
   ·subst hp; exact h.elim
  ·subst hp; exact h.elim
 ·rename_i x ho
  split at hp
  ·rename_i l k hx
   split at hp
   ·rename_i l' j since s seen hb
    split at hp
    ·rename_i es hM; subst hp
     obtain ⟨rfl,c2⟩:=h
     have e1:s :: seen = (s :: seen).dropLast ++ [(s :: seen).getLast (by simp)]:=(List.dropLast_concat_getLast _).symm
     rw [e1] at hb
     exact (or_entry ho hx hb hM c2).sem
    ·subst hp; exact h.elim
   ·subst hp; exact h.elim
  ·subst hp; exact h.elim
 ·rename_i c ho
  obtain ⟨cal,args,ts⟩:=c
  simp only at hp
  split at hp
  ·rename_i x y t t' ha ht
   obtain ⟨args⟩:=args
   obtain ⟨ts⟩:=ts
   simp only at ha ht
   subst ha ht
   split at hp
   ·rename_i e re k' ys ow hsl hy
    obtain ⟨r,b1,b2,b3⟩:=sliceOf_spec hsl
    split at hp
    ·rename_i l j mb
     split at hp
     ·rename_i k hx; subst hp
      obtain ⟨rfl,c1,c2,c3,c4,c5,c6,c7⟩:=h
      have hh:=or_append_place (m:=n + 1) (ρ:=fun z=>mv T t' z (ρ z)) hT ho b1 b2 b3 c1 hx hy (show l < n + 1 by omega) c3 c4 (fun y hy=>ones_spec (c5 y hy)) c6 c7
      cases mb with
      | false=>exact (mv_app (T:=T) t' hh.1).sem
      | true=>exact (mv_app (T:=T) t' hh.2).sem
     ·subst hp; exact h.elim
    ·split at hp
     ·rename_i k xs l j hx
      split at hp
      ·rename_i e' sz fr hb; subst hp
       obtain ⟨rfl,rfl,rfl,rfl,rfl,c5,c6,c7,c8,c9⟩:=h
       have hxm:mv T t' x (ρ x) = .sl re.size xs (.buf l j):=by
        rw [hx]
        cases x <;> try rfl
        simp only [mv,tyFix]
        cases xs with
        | nil=>simp only [b1,b2,b3]
        | cons a as=>rfl
       intro E w a Q K hr hops
       have hl:l < n + 1:=by
        have hv:=hops x (by rw [ho]; simp [Op.operands,Call.operands])
        rw [hx] at hv
        have hbl:=hv.lvl hr.norm
        cases hbl with | sl _ _ _ _ hb'=>exact hb' l j rfl
       exact (mv_app (T:=T) t' (or_append_buf (m:=n + 1) (ρ:=fun z=>mv T t' z (ρ z)) hT ho b1 b2 b3 c5 hxm hy hl hb rfl c6 (fun y hy=>ones_spec (c7 y hy)) c8 c9)).sem E w a Q K hr hops
      ·subst hp; exact h.elim
     ·rename_i sz0 l j i hx
      split at hp
      ·rename_i e' sz cs i' hb; subst hp
       obtain ⟨rfl,rfl,rfl,rfl,c5,c6,c7,c8,c9⟩:=h
       have hxm:mv T t' x (ρ x) = .msl sz0 l j i':=by
        rw [hx]; cases x <;> rfl
       intro E w a Q K hr hops
       have hl:l < n + 1:=by
        have hv:=hops x (by rw [ho]; simp [Op.operands,Call.operands])
        rw [hx] at hv
        have hbl:=hv.lvl hr.norm
        cases hbl with | msl _ _ _ _ hb'=>exact hb'
       exact (mv_app (T:=T) t' (or_append_mbuf (m:=n + 1) (ρ:=fun z=>mv T t' z (ρ z)) hT ho b1 b2 b3 c5 hxm hy hl hb c6 (fun y hy=>ones_spec (c7 y hy)) c8 c9)).sem E w a Q K hr hops
      ·subst hp; exact h.elim
     ·subst hp; exact h.elim
   ·rename_i e re c hsl hy
    obtain ⟨r,b1,b2,b3⟩:=sliceOf_spec hsl
    split at hp
    ·rename_i k xs l j hx
     split at hp
     ·rename_i e' sz fr hb; subst hp
      obtain ⟨c0,c1,rfl,rfl,rfl,rfl,c5,c6,c8,c9⟩:=h
      obtain ⟨rx,d1,d2⟩:=tdOf_spec c0
      have hxm:mv T t x (ρ x) = .sl re.size xs (.buf l j):=by
       rw [hx]
       cases x <;> try rfl
       simp only [mv,tyFix]
       cases xs with
       | nil=>simp only [b1,b2,b3]
       | cons a as=>rfl
      intro E w a Q K hr hops
      have hl:l < n + 1:=by
       have hv:=hops x (by rw [ho]; simp [Op.operands,Call.operands])
       rw [hx] at hv
       have hbl:=hv.lvl hr.norm
       cases hbl with | sl _ _ _ _ hb'=>exact hb' l j rfl
      exact (mv_app (T:=T) t (or_append_bufZ (m:=n + 1) (ρ:=fun z=>mv T t z (ρ z)) (c:=c.toNat) hT ho b1 b2 b3 d1 d2 c5 hxm (by rw [hy]; congr 1; omega) hl hb rfl c6 c8 c9)).sem E w a Q K hr hops
     ·subst hp; exact h.elim
    ·subst hp; exact h.elim
   ·subst hp; exact h.elim
  ·subst hp; exact h.elim
 ·subst hp; exact h.elim
def evA (T:TT) (n:Nat) (o:Op) (am:AM) (ρ:Operand → AV) (dd:Nat):Prop × AV × ABlk :=
 match o with
 | .box t x=>(ones (mv T t x (ρ x)) = true,.ptr n dd 0,.box (mv T t x (ρ x)).cells)
 | .alloc t=>match T t with
  | some r=>(True,.ptr n dd 0,.box r.zero)
  | none=>(False,.dead,.box [])
 | .makeMap _ none=>(True,.map n dd,.map [])
 | .call c=>match c.callee,c.args.toList,c.argTypes.toList with
  | .builtin .append,[x,y],[t,t']=>match sliceOf T t,mv T t x (ρ x),mv T t y (ρ y),am with
   | some (e,re),.sl _ [] .full,.sl k' ys _,.lay mb=>(t' = t ∧ 0 < re.size ∧ (ys = [] ∨ k' = re.size) ∧ (∀ y ∈ ys,ones y = true) ∧ ys.length ≤ maxLen ∧ ys.length * re.bytes ≤ 140737488355328,
     if mb then .msl re.size n dd ys.length else .sl re.size ys (.buf n dd),if mb then .mbuf e re.size (flat ys) ys.length else .buf e re.size ys.length)
   | _,_,_,_=>(False,.dead,.box [])
  | _,_,_=>(False,.dead,.box [])
 | .buildSlice t k ps=>match sliceOf T t,am with
  | some (e,re),.lay true=>(inOrder 0 ps.toList = true ∧ k = ps.size ∧ 0 < k ∧ 0 < re.size ∧ k * re.size ≤ 2 ^ 24 ∧ (∀ x ∈ ps.toList.map (fun p=>ρ p.2),x.cells.length = re.size ∧ ones x = true),.msl re.size n dd k,.mbuf e re.size (flat (ps.toList.map fun p=>ρ p.2)) k)
  | _,_=>(False,.dead,.box [])
 | _=>(False,.dead,.box [])
theorem evA_sound {P:Program} {T:TT} (hT:TOK P T) {n:Nat} {o:Oper} {am:AM} {ρ:Operand → AV} {dd:Nat}:∀ p,evA T n o.op am ρ dd = p → p.1 → ∀ G,G n dd = none → OpSem P (n + 1) o ρ G p.2.1 (G.upd n dd p.2.2):=by
 intro p hp h G hG
 unfold evA at hp
 split at hp
 ·rename_i t x ho; subst hp
  exact (mv_app (T:=T) t (or_box (m:=n + 1) (H:=G) (ρ:=fun z=>mv T t z (ρ z)) (P:=P) ho rfl (ones_spec h) (Nat.lt_succ_self n) hG)).sem
 ·rename_i t ho
  split at hp
  ·rename_i r hr; subst hp
   exact (or_alloc hT ho hr (Nat.lt_succ_self n) hG).sem
  ·subst hp; exact h.elim
 ·rename_i t ho; subst hp
  exact (or_makeMap ho (Nat.lt_succ_self n) hG).sem
 ·rename_i c ho
  obtain ⟨cal,args,ts⟩:=c
  simp only at hp
  split at hp
  ·rename_i x y t t' ha ht
   obtain ⟨args⟩:=args
   obtain ⟨ts⟩:=ts
   simp only at ha ht
   subst ha ht
   split at hp
   ·rename_i e re k k' ys ow mb hsl hx hy
    obtain ⟨r,b1,b2,b3⟩:=sliceOf_spec hsl
    subst hp
    obtain ⟨rfl,c1,c4,c5,c6,c7⟩:=h
    have hh:=or_append_place (m:=n + 1) (ρ:=fun z=>mv T t' z (ρ z)) hT ho b1 b2 b3 c1 hx hy (Nat.lt_succ_self n) hG c4 (fun y hy=>ones_spec (c5 y hy)) c6 c7
    cases mb with
    | false=>exact (mv_app (T:=T) t' hh.1).sem
    | true=>exact (mv_app (T:=T) t' hh.2).sem
   ·subst hp; exact h.elim
  ·subst hp; exact h.elim
 ·rename_i t k ps ho
  split at hp
  ·rename_i e re hsl
   obtain ⟨r,b1,b2,b3⟩:=sliceOf_spec hsl
   subst hp
   obtain ⟨c1,c2,c0,c3,c4,c5⟩:=h
   exact (or_buildSlice_lay (m:=n + 1) (H:=G) hT ho b1 b2 b3 c1 c2 c0 c3 c4 (fun x hx=>⟨(c5 x hx).1,ones_spec (c5 x hx).2⟩) (Nat.lt_succ_self n) hG).sem
  ·subst hp; exact h.elim
 ·subst hp; exact h.elim
def setL (n:Nat) (L:List (Nat × ABlk)) (l k:Nat) (b:ABlk):List (Nat × ABlk):=if l = n then setb L k b else L
def setH (n:Nat) (H:AHeap) (l k:Nat) (b:ABlk):AHeap:=if l = n then H else H.upd l k b
theorem full_setLH (n:Nat) (L:List (Nat × ABlk)) (H:AHeap) (l k:Nat) (b:ABlk):full n (setL n L l k b) (setH n H l k b) = (full n L H).upd l k b:=by
 unfold setL setH
 by_cases h:l = n
 ·subst h; simp only [if_true]; exact full_setb _ _ _ _ _
 ·simp only [if_neg h]; exact full_upd _ _ _ _ _ _ h
def argsA (T:TT) (ρ:Operand → AV):List Operand → List TypeId → List AV
 | x :: xs,t :: ts=>mv T t x (ρ x) :: argsA T ρ xs ts
 | x :: xs,[]=>ρ x :: argsA T ρ xs []
 | [],_=>[]
theorem argsA_VRs {E:Env} {T:TT} {ρ:Operand → AV} {a:Act}:∀ (xs:List Operand) (ts:List TypeId),(∀ x ∈ xs,VR E (ρ x) (a.eval x)) → VRs E (argsA T ρ xs ts) (xs.map a.eval)
 | [],_,_=>VRs.nil E
 | x :: xs,[],h=>VRs.cons (h x (by simp)) (argsA_VRs xs [] (fun y hy=>h y (List.mem_cons_of_mem _ hy)))
 | x :: xs,t :: ts,h=>VRs.cons (VR_mv (h x (by simp))) (argsA_VRs xs ts (fun y hy=>h y (List.mem_cons_of_mem _ hy)))
structure Opt where
 dr:Bool
 al:Bool
 am:Nat → AM
 lay:List Nat
def amAt (op:Opt):Option Nat → AM
 | some d=>op.am d
 | none=>.auto
def CallF (cx:Cx) (dr:Bool) (o:Oper) (g:Operand) (args:List Operand) (ts:List TypeId) (s:AState) (F:AState → Prop):Prop :=
 ∃ f fn c caps Qc,evT s.tmps g = .fn (.func f) caps ∧ Fun cx.P f fn c ∧
  ACalls cx.P (cx.n + 1) f (argsA cx.T (evT s.tmps) args ts ++ caps) (full cx.n s.L s.H) Qc ∧
  (∀ r H1,Qc r H1 → ∃ L' H',H1 = full cx.n L' H' ∧ OutStep cx.n s.H H' ∧ F ⟨putT s.tmps o.dst r,L',H'⟩) ∧
  (dr = true → ∃ r,(∀ r' H1,Qc r' H1 → r' = r ∧ H1 = full cx.n s.L s.H) ∧ F ⟨putT s.tmps o.dst r,s.L,s.H⟩)
def YieldG (cx:Cx) (o:Oper) (g:Operand) (args:List Operand) (ts:List TypeId) (s:AState) (F:AState → Prop):Prop :=
 ∃ l Qc,evT s.tmps g = .fn (.yield l) [] ∧ AYields cx.P (cx.n + 1) l (argsA cx.T (evT s.tmps) args ts) (full cx.n s.L s.H) Qc ∧
  ∀ r H1,Qc r H1 → ∃ L' H',H1 = full cx.n L' H' ∧ OutStep cx.n s.H H' ∧ F ⟨putT s.tmps o.dst r,L',H'⟩
def BoundG (cx:Cx) (o:Oper) (g:Operand) (args:List Operand) (ts:List TypeId) (s:AState) (F:AState → Prop):Prop :=
 ∃ f fn c bs Qc,evT s.tmps g = .bfn (.func f) bs ∧ Fun cx.P f fn c ∧
  ACalls cx.P (cx.n + 1) f (bs ++ argsA cx.T (evT s.tmps) args ts) (full cx.n s.L s.H) Qc ∧
  ∀ r H1,Qc r H1 → ∃ L' H',H1 = full cx.n L' H' ∧ OutStep cx.n s.H H' ∧ F ⟨putT s.tmps o.dst r,L',H'⟩
def CallG (cx:Cx) (dr:Bool) (o:Oper) (g:Operand) (args:List Operand) (ts:List TypeId) (s:AState) (F:AState → Prop):Prop :=
 CallF cx dr o g args ts s F ∨ (dr = false ∧ (YieldG cx o g args ts s F ∨ BoundG cx o g args ts s F))
def NextG (cx:Cx) (o:Oper) (x:Operand) (s:AState) (F:AState → Prop):Prop :=
 ∃ k l' j es seen,evT s.tmps x = .ptr cx.n k 0 ∧ lkb s.L k = some (.iter l' j es.length seen) ∧ full cx.n s.L s.H l' j = some (.map es) ∧
  ((∀ i,i < es.length → i ∈ seen) → F ⟨putT s.tmps o.dst (.tup [.bool false]),s.L,s.H⟩) ∧
  (∀ i,i < es.length → i ∉ seen → F ⟨putT s.tmps o.dst (.tup [.bool true,(es.getD i (.dead,.dead)).1,(es.getD i (.dead,.dead)).2]),setb s.L k (.iter l' j es.length (seen ++ [i])),s.H⟩)
def CallPG (cx:Cx) (o:Oper) (g:Operand) (args:List Operand) (ts:List TypeId) (s:AState) (F:AState → Prop):Prop :=
 ∃ f fn c caps r,evT s.tmps g = .fn (.func f) caps ∧ Fun cx.P f fn c ∧ Pure cx.P f (argsA cx.T (evT s.tmps) args ts ++ caps) r ∧ F ⟨putT s.tmps o.dst r,s.L,s.H⟩
def CallTG (cx:Cx) (lay:List Nat) (o:Oper) (g:Operand) (args:List Operand) (ts:List TypeId) (s:AState) (F:AState → Prop):Prop :=
 ∃ f fn c caps r,evT s.tmps g = .fn (.func f) caps ∧ Fun cx.P f fn c ∧ (∀ G,AgreeOff cx.n (fun x=>lay.contains x) G (full cx.n s.L s.H) → PC cx.P (cx.n + 1) f (argsA cx.T (evT s.tmps) args ts ++ caps) G r) ∧ F ⟨putT s.tmps o.dst r,s.L,s.H⟩
def CallWG (cx:Cx) (o:Oper) (g:Operand) (args:List Operand) (ts:List TypeId) (s:AState) (F:AState → Prop):Prop :=
 ∃ f fn c caps r L' H',evT s.tmps g = .fn (.func f) caps ∧ Fun cx.P f fn c ∧ ACalls cx.P (cx.n + 1) f (argsA cx.T (evT s.tmps) args ts ++ caps) (full cx.n s.L s.H) (fun r' H1=>r' = r ∧ H1 = full cx.n L' H') ∧
  OutStep cx.n s.H H' ∧ F ⟨putT s.tmps o.dst r,L',H'⟩
def evL (T:TT) (o:Op) (ρ:Operand → AV):Prop × AV :=
 match o with
 | .load t x=>match T t with
  | some r=>match ρ x with
   | .iptr cs=>(r.size ≤ cs.length ∧ (r.isAgg = false → 0 < cs.length),ldA r cs)
   | _=>(False,.dead)
  | none=>(False,.dead)
 | _=>(False,.dead)
theorem evL_sound {P:Program} {T:TT} (hT:TOK P T) {o:Oper} {ρ:Operand → AV}:∀ p,evL T o.op ρ = p → p.1 → ∀ m G,OpSem P m o ρ G p.2 G:=by
 intro p hp h m G
 unfold evL at hp
 split at hp
 ·rename_i t x ho
  split at hp
  ·rename_i r hr
   split at hp
   ·rename_i hx; subst hp; exact (or_load_iptr hT ho hr hx h.1 h.2).sem
   ·subst hp; exact h.elim
  ·subst hp; exact h.elim
 ·subst hp; exact h.elim
def stepL (cx:Cx) (o:Oper) (s:AState) (F:AState → Prop):Prop :=
 (evL cx.T o.op (evT s.tmps)).1 ∧ F ⟨putT s.tmps o.dst (evL cx.T o.op (evT s.tmps)).2,s.L,s.H⟩
def stepP (cx:Cx) (o:Oper) (s:AState) (F:AState → Prop):Prop :=
 (evP cx.T o.op o.type (evT s.tmps)).1 ∧ F ⟨putT s.tmps o.dst (evP cx.T o.op o.type (evT s.tmps)).2,s.L,s.H⟩
def stepR (cx:Cx) (op:Opt) (o:Oper) (s:AState) (F:AState → Prop):Prop :=
 (evR cx.T o.op (evT s.tmps) (full cx.n s.L s.H)).1 ∧ avoids cx.n op.lay (evT s.tmps (lookOpd o.op)) ∧ F ⟨putT s.tmps o.dst (evR cx.T o.op (evT s.tmps) (full cx.n s.L s.H)).2,s.L,s.H⟩
def thenW (n:Nat) (tm:List (Nat × AV)) (L:List (Nat × ABlk)) (H:AHeap) (F:AState → Prop):Option (Nat × Nat × ABlk) → Prop
 | none=>F ⟨tm,L,H⟩
 | some (l,k,b)=>(l = n ∨ b.Below n) ∧ F ⟨tm,setL n L l k b,setH n H l k b⟩
def stepW (cx:Cx) (am:AM) (o:Oper) (s:AState) (F:AState → Prop):Prop :=
 (evW cx.T cx.n o.op o.dst am (evT s.tmps) (full cx.n s.L s.H)).1 ∧ thenW cx.n (putT s.tmps o.dst (evW cx.T cx.n o.op o.dst am (evT s.tmps) (full cx.n s.L s.H)).2.1) s.L s.H F (evW cx.T cx.n o.op o.dst am (evT s.tmps) (full cx.n s.L s.H)).2.2
def stepA (cx:Cx) (am:AM) (o:Oper) (s:AState) (F:AState → Prop):Prop :=
 match o.dst with
 | some dd=>(evA cx.T cx.n o.op am (evT s.tmps) dd).1 ∧ lkb s.L dd = none ∧ F ⟨putT s.tmps (some dd) (evA cx.T cx.n o.op am (evT s.tmps) dd).2.1,setb s.L dd (evA cx.T cx.n o.op am (evT s.tmps) dd).2.2,s.H⟩
 | none=>False
def isBuf:AV → Bool
 | .sl _ _ (.buf _ _)=>true
 | .msl _ _ _ _=>true
 | _=>false
def vcAppend (cx:Cx) (op:Opt) (o:Oper) (args:List Operand) (s:AState) (F:AState → Prop):AM → Prop
 | .auto=>match op.dr,args with
  | false,x :: _=>match isBuf (evT s.tmps x) with
   | true=>stepW cx .auto o s F
   | false=>stepP cx o s F
  | _,_=>stepP cx o s F
 | .pure=>stepP cx o s F
 | .heap=>stepW cx .heap o s F
 | .place l k mb=>stepW cx (.place l k mb) o s F
 | .lay mb=>stepA cx (.lay mb) o s F
 | .call=>False
def vcBuild (cx:Cx) (o:Oper) (s:AState) (F:AState → Prop):AM → Prop
 | .lay mb=>stepA cx (.lay mb) o s F
 | _=>stepP cx o s F
def vcRun (cx:Cx) (op:Opt) (o:Oper) (s:AState) (F:AState → Prop):Prop :=
 match o.op with
 | .load _ _=>match amAt op o.dst with
  | .pure=>stepL cx o s F
  | _=>stepR cx op o s F
 | .lookup _ _ _ _=>stepR cx op o s F
 | .store _ _ _=>stepW cx .auto o s F
 | .mapUpdate _ _ _ _=>stepW cx .auto o s F
 | .insert _ _ _ _=>stepW cx .auto o s F
 | .mapEntry _ _ _=>stepW cx .auto o s F
 | .entryStore _ _ _ _=>stepW cx .auto o s F
 | .range _ _=>stepW cx .auto o s F
 | .entry _=>stepW cx .auto o s F
 | .box _ _=>stepA cx .auto o s F
 | .alloc _=>stepA cx .auto o s F
 | .makeMap _ _=>stepA cx .auto o s F
 | .buildSlice _ _ _=>vcBuild cx o s F (amAt op o.dst)
 | .next x str=>op.dr = false ∧ str = false ∧ NextG cx o x s F
 | .call c=>match c.callee with
  | .value g=>match op.al with
   | true=>match amAt op o.dst with
    | .heap=>CallTG cx op.lay o g c.args.toList c.argTypes.toList s F
    | .call=>CallWG cx o g c.args.toList c.argTypes.toList s F
    | _=>CallPG cx o g c.args.toList c.argTypes.toList s F
   | false=>op.lay = [] ∧ CallG cx op.dr o g c.args.toList c.argTypes.toList s F
  | .builtin .append=>vcAppend cx op o c.args.toList s F (amAt op o.dst)
  | _=>stepP cx o s F
 | _=>stepP cx o s F
def vcG (cx:Cx) (op:Opt) (o:Oper) (s:AState) (F:AState → Prop) (want:Bool):AV → Prop
 | .bool true=>match want with
  | true=>vcRun cx op o s F
  | false=>F ⟨putT s.tmps o.dst (.tup []),s.L,s.H⟩
 | .bool false=>match want with
  | true=>F ⟨putT s.tmps o.dst (.tup []),s.L,s.H⟩
  | false=>vcRun cx op o s F
 | .tup []=>F ⟨putT s.tmps o.dst (.tup []),s.L,s.H⟩
 | _=>False
def guardDst (all:List Oper) (j:Nat):Option Nat:=(all[j]?).bind (·.dst)
def vcOps (cx:Cx) (op:Opt) (all:List Oper) (k:List Itm) (Q:Exit → AState → Prop):List Oper → AState → Prop
 | [],s=>AK cx.P cx.φ cx.n cx.N k Q s
 | o :: r,s=>match o.guard with
  | none=>vcRun cx op o s (vcOps cx op all k Q r)
  | some (j,want)=>match guardDst all j with
   | none=>vcOps cx op all k Q r ⟨putT s.tmps o.dst (.tup []),s.L,s.H⟩
   | some d=>vcG cx op o s (vcOps cx op all k Q r) want (lkv s.tmps d)
def kdAM (d:Nat):AM → Kd
 | .auto=>.p
 | .pure=>.p
 | .lay _=>.a d
 | _=>.w
def kdNew (op:Opt):Option Nat → Kd
 | some d=>if op.al then .a d else .w
 | none=>.w
def kdOf (op:Opt) (o:Oper):Kd :=
 match o.op with
 | .load _ _=>match amAt op o.dst with
  | .pure=>.p
  | _=>.t
 | .lookup _ _ _ _=>.t
 | .store _ _ _=>.w
 | .mapUpdate _ _ _ _=>.w
 | .insert _ _ _ _=>.w
 | .mapEntry _ _ _=>.w
 | .entryStore _ _ _ _=>.w
 | .range _ _=>.w
 | .entry _=>.w
 | .box _ _=>kdNew op o.dst
 | .alloc _=>kdNew op o.dst
 | .makeMap _ _=>kdNew op o.dst
 | .buildSlice _ _ _=>match amAt op o.dst,o.dst with
  | .lay _,some d=>.a d
  | _,_=>.p
 | .call c=>match c.callee with
  | .value _=>if op.al then (match amAt op o.dst with | .heap=>.t | .call=>.w | _=>.p) else .t
  | .builtin .append=>match o.dst with
   | some d=>kdAM d (op.am d)
   | none=>.p
  | _=>.p
 | _=>.p
def Step (cx:Cx) (lay:List Nat) (o:Oper) (κ:Kd) (s:AState) (F:AState → Prop):Prop :=
 ∃ v L' H',κ.sem cx.P (cx.n + 1) cx.n (fun x=>lay.contains x) o (evT s.tmps) (full cx.n s.L s.H) v (full cx.n L' H') ∧ OutStep cx.n s.H H' ∧ F ⟨putT s.tmps o.dst v,L',H'⟩
theorem agree_nil {n:Nat} {G H:AHeap} (h:AgreeOff n (fun x=>([]:List Nat).contains x) G H):G = H:=by
 funext l k; exact h l k (fun _=>rfl)
theorem stepP_step {cx:Cx} (hT:TOK cx.P cx.T) {lay:List Nat} {o:Oper} {s:AState} {F:AState → Prop} {κ:Kd} (hκ:κ = .p ∨ κ = .w) (h:stepP cx o s F):Step cx lay o κ s F:=by
 have hs:=evP_sound (P:=cx.P) hT (o:=o) (ρ:=evT s.tmps) _ rfl h.1
 refine ⟨_,s.L,s.H,?_,.refl _ _,h.2⟩
 rcases hκ with rfl | rfl
 ·exact ⟨fun G=>hs _ G,rfl⟩
 ·exact hs _ _
theorem stepR_step {cx:Cx} (hT:TOK cx.P cx.T) {op:Opt} {o:Oper} {s:AState} {F:AState → Prop} {κ:Kd} (hκ:κ = .t ∨ κ = .w) (h:stepR cx op o s F):Step cx op.lay o κ s F:=by
 obtain ⟨h1,h2,h3⟩:=h
 refine ⟨_,s.L,s.H,?_,.refl _ _,h3⟩
 rcases hκ with rfl | rfl
 ·refine ⟨fun G hG=>?_,rfl⟩
  have e:=evR_congr (T:=cx.T) hG h2
  rw [← e] at h1 ⊢
  exact evR_sound (P:=cx.P) hT _ rfl h1
 ·exact evR_sound (P:=cx.P) hT _ rfl h1
theorem stepW_step {cx:Cx} (hT:TOK cx.P cx.T) {lay:List Nat} {am:AM} {o:Oper} {s:AState} {F:AState → Prop} (h:stepW cx am o s F):Step cx lay o .w s F:=by
 obtain ⟨h1,h2⟩:=h
 have hs:=evW_sound (P:=cx.P) hT (n:=cx.n) (am:=am) (o:=o) (ρ:=evT s.tmps) (G:=full cx.n s.L s.H) _ rfl h1
 generalize evW cx.T cx.n o.op o.dst am (evT s.tmps) (full cx.n s.L s.H) = p at h2 hs
 obtain ⟨c,v,ob⟩:=p
 cases ob with
 | none=>exact ⟨v,s.L,s.H,hs,.refl _ _,h2⟩
 | some q =>
  obtain ⟨l,k,b⟩:=q
  obtain ⟨hb,hF⟩:=h2
  refine ⟨v,setL cx.n s.L l k b,setH cx.n s.H l k b,?_,?_,hF⟩
  ·show OpSem _ _ _ _ _ _ _
   rw [full_setLH]; exact hs
  ·unfold setH
   by_cases hl:l = cx.n
   ·rw [if_pos hl]; exact .refl _ _
   ·rw [if_neg hl]; exact .upd (hb.resolve_left hl)
theorem stepA_step {cx:Cx} (hT:TOK cx.P cx.T) {lay:List Nat} {am:AM} {o:Oper} {s:AState} {F:AState → Prop} {κ:Kd} (hκ:(∃ d,o.dst = some d ∧ κ = .a d) ∨ κ = .w) (h:stepA cx am o s F):Step cx lay o κ s F:=by
 unfold stepA at h
 split at h
 ·rename_i dd hd
  obtain ⟨h1,h2,h3⟩:=h
  have hs:=evA_sound (P:=cx.P) hT (n:=cx.n) (am:=am) (o:=o) (ρ:=evT s.tmps) (dd:=dd) _ rfl h1
  have hfree:full cx.n s.L s.H cx.n dd = none:=by simp only [full,if_true]; exact h2
  refine ⟨_,_,s.H,?_,.refl _ _,by rw [hd]; exact h3⟩
  rcases hκ with ⟨d,hd',rfl⟩ | rfl
  ·rw [hd] at hd'; cases hd'
   exact ⟨_,hs,hfree,by rw [full_setb]⟩
  ·show OpSem _ _ _ _ _ _ _
   rw [full_setb]; exact hs _ hfree
 ·exact h.elim
theorem callG_draw {cx:Cx} {o:Oper} {s:AState} {F:AState → Prop} {g:Operand} {args:Array Operand} {ts:Array TypeId} (ho:o.op = .call { callee:=.value g,args:=args,argTypes:=ts })
  (h:CallG cx true o g args.toList ts.toList s F):Step cx [] o .t s F:=by
 rcases h with h | ⟨h,_⟩
 case inr=>cases h
 obtain ⟨f,fn,c,caps,Qc,h1,h2,h3,_,h5⟩:=h
 have has:∀ E (a:Act),(∀ x ∈ args,VR E (evT s.tmps x) (a.eval x)) → VRs E (argsA cx.T (evT s.tmps) args.toList ts.toList) (args.toList.map a.eval):=fun E a hx=>argsA_VRs _ _ (fun x hx'=>hx x (by simpa using hx'))
 obtain ⟨r,h4,h6⟩:=h5 rfl
 have hs:OpSem cx.P (cx.n + 1) o (evT s.tmps) (full cx.n s.L s.H) r (full cx.n s.L s.H):=os_callv h2 ho h1 _ has (h3.mono h4)
 exact ⟨r,s.L,s.H,⟨fun G hG=>by rw [agree_nil hG]; exact hs,rfl⟩,.refl _ _,h6⟩
theorem callPG_step {cx:Cx} {lay:List Nat} {o:Oper} {s:AState} {F:AState → Prop} {g:Operand} {args:Array Operand} {ts:Array TypeId} {κ:Kd} (hκ:κ = .p ∨ κ = .w) (ho:o.op = .call { callee:=.value g,args:=args,argTypes:=ts })
  (h:CallPG cx o g args.toList ts.toList s F):Step cx lay o κ s F:=by
 obtain ⟨f,fn,c,caps,r,h1,h2,h3,h6⟩:=h
 have has:∀ E (a:Act),(∀ x ∈ args,VR E (evT s.tmps x) (a.eval x)) → VRs E (argsA cx.T (evT s.tmps) args.toList ts.toList) (args.toList.map a.eval):=fun E a hx=>argsA_VRs _ _ (fun x hx'=>hx x (by simpa using hx'))
 have hs:∀ G,OpSem cx.P (cx.n + 1) o (evT s.tmps) G r G:=fun G=>os_callv h2 ho h1 _ has (h3 _ G)
 refine ⟨r,s.L,s.H,?_,.refl _ _,h6⟩
 rcases hκ with rfl | rfl
 ·exact ⟨hs,rfl⟩
 ·exact hs _
theorem callTG_step {cx:Cx} {lay:List Nat} {o:Oper} {s:AState} {F:AState → Prop} {g:Operand} {args:Array Operand} {ts:Array TypeId} {κ:Kd} (hκ:κ = .t ∨ κ = .w) (ho:o.op = .call { callee:=.value g,args:=args,argTypes:=ts })
  (h:CallTG cx lay o g args.toList ts.toList s F):Step cx lay o κ s F:=by
 obtain ⟨f,fn,c,caps,r,h1,h2,h3,h6⟩:=h
 have has:∀ E (a:Act),(∀ x ∈ args,VR E (evT s.tmps x) (a.eval x)) → VRs E (argsA cx.T (evT s.tmps) args.toList ts.toList) (args.toList.map a.eval):=fun E a hx=>argsA_VRs _ _ (fun x hx'=>hx x (by simpa using hx'))
 have hs:∀ G,AgreeOff cx.n (fun x=>lay.contains x) G (full cx.n s.L s.H) → OpSem cx.P (cx.n + 1) o (evT s.tmps) G r G:=fun G hG=>os_callv h2 ho h1 _ has (h3 G hG)
 refine ⟨r,s.L,s.H,?_,.refl _ _,h6⟩
 rcases hκ with rfl | rfl
 ·exact ⟨hs,rfl⟩
 ·exact hs _ (fun _ _ _=>rfl)
theorem stepL_step {cx:Cx} (hT:TOK cx.P cx.T) {lay:List Nat} {o:Oper} {s:AState} {F:AState → Prop} {κ:Kd} (hκ:κ = .p ∨ κ = .w) (h:stepL cx o s F):Step cx lay o κ s F:=by
 have hs:=evL_sound (P:=cx.P) hT (o:=o) (ρ:=evT s.tmps) _ rfl h.1
 refine ⟨_,s.L,s.H,?_,.refl _ _,h.2⟩
 rcases hκ with rfl | rfl
 ·exact ⟨fun G=>hs _ G,rfl⟩
 ·exact hs _ _
theorem callWG_step {cx:Cx} {lay:List Nat} {o:Oper} {s:AState} {F:AState → Prop} {g:Operand} {args:Array Operand} {ts:Array TypeId} (ho:o.op = .call { callee:=.value g,args:=args,argTypes:=ts })
  (h:CallWG cx o g args.toList ts.toList s F):Step cx lay o .w s F:=by
 obtain ⟨f,fn,c,caps,r,L',H',h1,h2,h3,h4,h6⟩:=h
 have has:∀ E (a:Act),(∀ x ∈ args,VR E (evT s.tmps x) (a.eval x)) → VRs E (argsA cx.T (evT s.tmps) args.toList ts.toList) (args.toList.map a.eval):=fun E a hx=>argsA_VRs _ _ (fun x hx'=>hx x (by simpa using hx'))
 exact ⟨r,L',H',os_callv h2 ho h1 _ has h3,h4,h6⟩
theorem vcAppend_step {cx:Cx} (hT:TOK cx.P cx.T) {op:Opt} {o:Oper} {args:List Operand} {s:AState} {F:AState → Prop} {am:AM} {κ:Kd} (hk:(op.dr = false ∧ κ = .w) ∨ (op.dr = true ∧ κ = (match o.dst with | some d=>kdAM d am | none=>.p)))
  (ha:o.dst = none → am = .auto) (h:vcAppend cx op o args s F am):Step cx op.lay o κ s F:=by
 cases hd:o.dst with
 | none =>
  have:=ha hd
  subst this
  rw [hd] at hk
  simp only [vcAppend] at h
  split at h
  ·rename_i hdr
   have hκ:κ = .w:=by
    rcases hk with ⟨_,h⟩ | ⟨h,_⟩
    ·exact h
    ·rw [hdr] at h; cases h
   subst hκ
   split at h
   ·exact stepW_step hT h
   ·exact stepP_step hT (.inr rfl) h
  ·exact stepP_step hT (hk.elim (fun h=>.inr h.2) (fun h=>.inl h.2)) h
 | some d =>
  rw [hd] at hk
  cases am with
  | auto =>
   simp only [vcAppend] at h
   split at h
   ·rename_i hdr
    have hκ:κ = .w:=by
     rcases hk with ⟨_,h⟩ | ⟨h,_⟩
     ·exact h
     ·rw [hdr] at h; cases h
    subst hκ
    split at h
    ·exact stepW_step hT h
    ·exact stepP_step hT (.inr rfl) h
   ·exact stepP_step hT (hk.elim (fun h=>.inr h.2) (fun h=>.inl h.2)) h
  | pure=>exact stepP_step hT (hk.elim (fun h=>.inr h.2) (fun h=>.inl h.2)) h
  | heap =>
   have:κ = .w:=hk.elim (fun h=>h.2) (fun h=>h.2)
   subst this; exact stepW_step hT h
  | place l k mb =>
   have:κ = .w:=hk.elim (fun h=>h.2) (fun h=>h.2)
   subst this; exact stepW_step hT h
  | lay mb=>exact stepA_step hT (hk.elim (fun h=>.inr h.2) (fun h=>.inl ⟨d,hd,h.2⟩)) h
  | call=>exact h.elim
def isRel (op:Opt) (o:Oper):Bool :=
 match o.op with
 | .next _ _=>true
 | .call c=>match c.callee with
  | .value _=>!op.al
  | _=>false
 | _=>false
theorem vcRun_step {cx:Cx} (hT:TOK cx.P cx.T) {op:Opt} {o:Oper} {s:AState} {F:AState → Prop} {κ:Kd} (hrel:op.dr = true ∨ isRel op o = false) (hk:(op.dr = false ∧ κ = .w) ∨ (op.dr = true ∧ κ = kdOf op o)) (h:vcRun cx op o s F):Step cx op.lay o κ s F:=by
 have hnew:kdOf op o = kdNew op o.dst → (∃ d,o.dst = some d ∧ κ = .a d) ∨ κ = .w:=fun e=>by
  rcases hk with ⟨_,h⟩ | ⟨_,h⟩
  ·exact .inr h
  ·rw [h,e]
   unfold kdNew
   split
   ·rename_i d hd
    split
    ·exact .inl ⟨d,hd,rfl⟩
    ·exact .inr rfl
   ·exact .inr rfl
 have hw:kdOf op o = .w → κ = .w:=fun e=>hk.elim (fun h=>h.2) (fun h=>h.2.trans e)
 have ht:kdOf op o = .t → κ = .t ∨ κ = .w:=fun e=>hk.elim (fun h=>.inr h.2) (fun h=>.inl (h.2.trans e))
 have hp:kdOf op o = .p → κ = .p ∨ κ = .w:=fun e=>hk.elim (fun h=>.inr h.2) (fun h=>.inl (h.2.trans e))
 unfold vcRun at h
 split at h
 ·rename_i ho
  split at h
  ·rename_i hm; exact stepL_step hT (hp (by simp only [kdOf,ho,hm])) h
  ·rename_i hm
   exact stepR_step hT (ht (by simp only [kdOf,ho])) h
 ·rename_i ho; exact stepR_step hT (ht (by simp only [kdOf,ho])) h
 ·rename_i ho; rw [hw (by simp only [kdOf,ho])]; exact stepW_step hT h
 ·rename_i ho; rw [hw (by simp only [kdOf,ho])]; exact stepW_step hT h
 ·rename_i ho; rw [hw (by simp only [kdOf,ho])]; exact stepW_step hT h
 ·rename_i ho; rw [hw (by simp only [kdOf,ho])]; exact stepW_step hT h
 ·rename_i ho; rw [hw (by simp only [kdOf,ho])]; exact stepW_step hT h
 ·rename_i ho; rw [hw (by simp only [kdOf,ho])]; exact stepW_step hT h
 ·rename_i ho; rw [hw (by simp only [kdOf,ho])]; exact stepW_step hT h
 ·rename_i ho; exact stepA_step hT (hnew (by simp only [kdOf,ho])) h
 ·rename_i ho; exact stepA_step hT (hnew (by simp only [kdOf,ho])) h
 ·rename_i ho; exact stepA_step hT (hnew (by simp only [kdOf,ho])) h
 ·rename_i ho
  cases hd:o.dst with
  | none =>
   have hk0:kdOf op o = .p:=by simp only [kdOf,ho,hd]; split <;> simp_all
   rw [hd] at h
   exact stepP_step hT (hp hk0) h
  | some d =>
   cases hm:amAt op (some d) with
   | lay mb =>
    rw [hd,hm] at h
    refine stepA_step hT (hk.elim (fun h=>.inr h.2) (fun h=>.inl ⟨d,hd,?_⟩)) h
    rw [h.2]; simp only [kdOf,ho,hd,hm]
   | _ =>
    rw [hd,hm] at h
    have hk0:kdOf op o = .p:=by simp only [kdOf,ho,hd,hm]
    exact stepP_step hT (hp hk0) h
 ·rename_i ho
  rcases hrel with hd | hn
  ·rw [h.1] at hd; cases hd
  ·simp only [isRel,ho] at hn; cases hn
 ·rename_i c ho
  obtain ⟨cal,args,ts⟩:=c
  simp only at h
  split at h
  ·rename_i g
   split at h
   ·rename_i hal
    cases hm:amAt op o.dst with
    | heap =>
     rw [hm] at h
     exact callTG_step (ht (by simp only [kdOf,ho,hal,if_true,hm])) ho h
    | call =>
     rw [hm] at h
     rw [hw (by simp only [kdOf,ho,hal,if_true,hm])]
     exact callWG_step ho h
    | _ =>
     rw [hm] at h
     exact callPG_step (hp (by simp only [kdOf,ho,hal,if_true,hm])) ho h
   ·rename_i hal
    obtain ⟨hl,h⟩:=h
    rw [hl]
    rcases hrel with hd | hn
    ·rw [hd] at h
     rcases hk with ⟨hd',_⟩ | ⟨_,rfl⟩
     ·rw [hd] at hd'; cases hd'
     ·have:kdOf op o = .t:=by simp only [kdOf,ho,hal]; rfl
      rw [this]; exact callG_draw ho h
    ·simp only [isRel,ho,hal] at hn; cases hn
  ·refine vcAppend_step hT ?_ (fun hd=>by simp only [amAt,hd]) h
   rcases hk with h | ⟨hd,h⟩
   ·exact .inl h
   ·refine .inr ⟨hd,?_⟩
    rw [h]
    simp only [kdOf,ho]
    cases o.dst <;> rfl
  ·rename_i h1 h2
   refine stepP_step hT (hp ?_) h
   simp only [kdOf,ho]
 ·rename_i h1 h2 h3 h4 h4' h5 h6 h7 h8 h9 h10 h11 h13 hn h12
  refine stepP_step hT (hp ?_) h
  unfold kdOf
  split
  ·rename_i ho; exact (h1 _ _ ho).elim
  ·rename_i ho; exact (h2 _ _ _ _ ho).elim
  ·rename_i ho; exact (h3 _ _ _ ho).elim
  ·rename_i ho; exact (h4 _ _ _ _ ho).elim
  ·rename_i ho; exact (h4' _ _ _ _ ho).elim
  ·rename_i ho; exact (h5 _ _ _ ho).elim
  ·rename_i ho; exact (h6 _ _ _ _ ho).elim
  ·rename_i ho; exact (h7 _ _ ho).elim
  ·rename_i ho; exact (h8 _ ho).elim
  ·rename_i ho; exact (h9 _ _ ho).elim
  ·rename_i ho; exact (h10 _ ho).elim
  ·rename_i ho; exact (h11 _ _ ho).elim
  ·rename_i ho; exact (h13 _ _ _ ho).elim
  ·rename_i ho; exact (h12 _ ho).elim
  ·rfl
theorem OpSem.semN {P:Program} {m:Nat} {o:Oper} {ρ:Operand → AV} {H H':AHeap} {v:AV} {S:AV → AHeap → Prop} (h:OpSem P m o ρ H v H') (hS:S v H'):OpSemN P m o ρ H S :=
 fun E w a Q K hr hops hK ro=>h E w a Q K hr hops (fun E' w' cv hv hh hx=>hK E' w' cv v H' hS hv hh hx) ro
theorem OpSemN.mono {P:Program} {m:Nat} {o:Oper} {ρ:Operand → AV} {H:AHeap} {S S':AV → AHeap → Prop} (h:OpSemN P m o ρ H S) (hS:∀ v H',S v H' → S' v H'):OpSemN P m o ρ H S' :=
 fun E w a Q K hr hops hK ro=>h E w a Q K hr hops (fun E' w' cv v H' hs hv hh hx=>hK E' w' cv v H' (hS _ _ hs) hv hh hx) ro
theorem os_calln {P:Program} {m:Nat} {o:Oper} {ρ:Operand → AV} {H:AHeap} {f:FuncId} {fn:Func} {c:Code} {g:Operand} {caps:List AV} {args:Array Operand} {ts:Array TypeId} {S:AV → AHeap → Prop} (hf:Fun P f fn c)
  (ho:o.op = .call { callee:=.value g,args:=args,argTypes:=ts }) (hg:ρ g = .fn (.func f) caps) (as:List AV) (has:∀ E (a:Act),(∀ x ∈ args,VR E (ρ x) (a.eval x)) → VRs E as (args.toList.map a.eval))
  (hc:ACalls P m f (as ++ caps) H S):OpSemN P m o ρ H S:=fun E w a Q K hr hops hk ro=>by
 have hgv:=hops g (by rw [ho]; simp [Op.operands,Call.operands])
 rw [hg] at hgv
 have he:execOp a.eval o = (do let d ← resolve a.eval { callee:=.value g,args:=args,argTypes:=ts } o.type; invoke d.target d.args):=by simp only [execOp,ho]
 generalize hy:a.eval g = y at hgv
 cases hgv with | fn _ _ vs hl hvs =>
 have hrun:(execOp a.eval o).run P w = .ok (.enter f (args.map a.eval ++ vs.toArray)) w:=by
  rw [he]
  simp [resolve,hy,Deferred.ofValue,invoke,callFunc_run hf]
 refine wpIn_of_run hrun (fun _ e=>by cases e) ⟨depth_fr,callsIn_fr ?_⟩
 have h1:=hc E w (args.toList.map a.eval ++ vs) hr ((has E a (fun x hx=>hops x (by rw [ho]; simp [Op.operands,Call.operands,hx]))).append ⟨hl,hvs⟩)
 rw [show (args.toList.map a.eval ++ vs).toArray = args.map a.eval ++ vs.toArray by rw [← List.append_toArray,← Array.toList_map]] at h1
 refine h1.mono ?_
 rintro e w' ⟨r',v,H1,E',rfl,hq,hv,hh,hx⟩
 exact hk E' w' v r' H1 hq hv hh hx
theorem os_callb {P:Program} {m:Nat} {o:Oper} {ρ:Operand → AV} {H:AHeap} {f:FuncId} {fn:Func} {c:Code} {g:Operand} {bs:List AV} {args:Array Operand} {ts:Array TypeId} {S:AV → AHeap → Prop} (hf:Fun P f fn c)
  (ho:o.op = .call { callee:=.value g,args:=args,argTypes:=ts }) (hg:ρ g = .bfn (.func f) bs) (as:List AV) (has:∀ E (a:Act),(∀ x ∈ args,VR E (ρ x) (a.eval x)) → VRs E as (args.toList.map a.eval))
  (hc:ACalls P m f (bs ++ as) H S):OpSemN P m o ρ H S:=fun E w a Q K hr hops hk ro=>by
 have hgv:=hops g (by rw [ho]; simp [Op.operands,Call.operands])
 rw [hg] at hgv
 have he:execOp a.eval o = (do let d ← resolve a.eval { callee:=.value g,args:=args,argTypes:=ts } o.type; invoke d.target d.args):=by simp only [execOp,ho]
 generalize hy:a.eval g = y at hgv
 cases hgv with | bfn _ _ vs hl hvs =>
 have hrun:(execOp a.eval o).run P w = .ok (.enter f (vs.toArray ++ args.map a.eval)) w:=by
  rw [he]
  simp [resolve,hy,Deferred.ofValue,invoke,callFunc_run hf]
 refine wpIn_of_run hrun (fun _ e=>by cases e) ⟨depth_fr,callsIn_fr ?_⟩
 have h1:=hc E w (vs ++ args.toList.map a.eval) hr (VRs.append ⟨hl,hvs⟩ (has E a (fun x hx=>hops x (by rw [ho]; simp [Op.operands,Call.operands,hx]))))
 rw [show (vs ++ args.toList.map a.eval).toArray = vs.toArray ++ args.map a.eval by rw [← List.append_toArray,← Array.toList_map]] at h1
 refine h1.mono ?_
 rintro e w' ⟨r',v,H1,E',rfl,hq,hv,hh,hx⟩
 exact hk E' w' v r' H1 hq hv hh hx
theorem os_yield {P:Program} {m:Nat} {o:Oper} {ρ:Operand → AV} {H:AHeap} {l:Nat} {g:Operand} {args:Array Operand} {ts:Array TypeId} {S:AV → AHeap → Prop}
  (ho:o.op = .call { callee:=.value g,args:=args,argTypes:=ts }) (hg:ρ g = .fn (.yield l) []) (as:List AV) (has:∀ E (a:Act),(∀ x ∈ args,VR E (ρ x) (a.eval x)) → VRs E as (args.toList.map a.eval))
  (hc:AYields P m l as H S):OpSemN P m o ρ H S:=fun E w a Q K hr hops hk ro=>by
 have hgv:=hops g (by rw [ho]; simp [Op.operands,Call.operands])
 rw [hg] at hgv
 have he:execOp a.eval o = (do let d ← resolve a.eval { callee:=.value g,args:=args,argTypes:=ts } o.type; invoke d.target d.args):=by simp only [execOp,ho]
 generalize hy:a.eval g = y at hgv
 cases hgv with | fn _ _ vs hl hvs =>
 have hvs0:vs = []:=by simpa using hl
 subst hvs0
 obtain ⟨fn,tmps,ca,cb,h1,h2⟩:=hc E w (args.toList.map a.eval) hr (has E a (fun x hx=>hops x (by rw [ho]; simp [Op.operands,Call.operands,hx])))
 rw [show (args.toList.map a.eval).toArray = args.map a.eval by rw [← Array.toList_map]] at h1
 have hrun:(execOp a.eval o).run P w = .ok (.round l fn tmps ca cb) w:=by
  rw [he]
  simp [resolve,hy,Deferred.ofValue,invoke,h1]
 refine wpIn_of_run hrun (fun _ e=>by cases e) ⟨depth_fr,(h2 ro _).mono ?_⟩
 rintro e w' ⟨r',v,H1,E',rfl,hq,hv,hh,hx⟩
 exact hk E' w' v r' H1 hq hv hh hx
def StepO (cx:Cx) (o:Oper) (s:AState) (F:AState → Prop):Prop :=
 OpSemN cx.P (cx.n + 1) o (evT s.tmps) (full cx.n s.L s.H) fun v H1=>∃ L' H',H1 = full cx.n L' H' ∧ OutStep cx.n s.H H' ∧ F ⟨putT s.tmps o.dst v,L',H'⟩
theorem Step.ordered {cx:Cx} {lay:List Nat} {o:Oper} {s:AState} {F:AState → Prop} (h:Step cx lay o .w s F):StepO cx o s F:=by
 obtain ⟨v,L',H',h1,h2,h3⟩:=h
 exact OpSem.semN h1 ⟨L',H',rfl,h2,h3⟩
theorem nextG_step {cx:Cx} {o:Oper} {x:Operand} {s:AState} {F:AState → Prop} (ho:o.op = .next x false) (h:NextG cx o x s F):StepO cx o s F:=by
 obtain ⟨k,l',j,es,seen,h1,h2,h3,h4,h5⟩:=h
 have hk:full cx.n s.L s.H cx.n k = some (.iter l' j es.length seen):=by simp only [full,if_true]; exact h2
 refine (os_next ho h1 hk h3).mono ?_
 rintro v H' (⟨a1,rfl,rfl⟩ | ⟨i,a1,a2,rfl,rfl⟩)
 ·exact ⟨s.L,s.H,rfl,.refl _ _,h4 a1⟩
 ·exact ⟨_,s.H,(full_setb _ _ _ _ _).symm,.refl _ _,h5 i a1 a2⟩
theorem vcRun_ordered {cx:Cx} (hT:TOK cx.P cx.T) {op:Opt} (hop:op.dr = false) {o:Oper} {s:AState} {F:AState → Prop} (h:vcRun cx op o s F):StepO cx o s F:=by
 cases hr:isRel op o with
 | false=>exact (vcRun_step hT (.inr hr) (.inl ⟨hop,rfl⟩) h).ordered
 | true =>
  unfold isRel at hr
  split at hr
  ·rename_i x str ho
   unfold vcRun at h
   rw [ho] at h
   obtain ⟨_,rfl,h⟩:=h
   exact nextG_step ho h
  ·rename_i c ho
   obtain ⟨cal,args,ts⟩:=c
   simp only at hr
   split at hr
   ·rename_i g
    have hal:op.al = false:=by simpa using hr
    unfold vcRun at h
    rw [ho] at h
    simp only [hal] at h
    have has:∀ E (a:Act),(∀ x ∈ args,VR E (evT s.tmps x) (a.eval x)) → VRs E (argsA cx.T (evT s.tmps) args.toList ts.toList) (args.toList.map a.eval):=fun E a hx=>argsA_VRs _ _ (fun x hx'=>hx x (by simpa using hx'))
    obtain ⟨_,⟨f,fn,cc,caps,Qc,h1,h2,h3,h4,_⟩ | ⟨_,⟨l,Qc,h1,h2,h3⟩ | ⟨f,fn,cc,bs,Qc,h1,h2,h3,h4⟩⟩⟩:=h
    ·exact os_calln h2 ho h1 _ has (h3.mono h4)
    ·exact os_yield ho h1 _ has (h2.mono h3)
    ·exact os_callb h2 ho h1 _ has (h3.mono h4)
   ·cases hr
  ·cases hr
theorem vcOps_runs {cx:Cx} (hT:TOK cx.P cx.T) {op:Opt} {all:List Oper} {k:List Itm} {Q:Exit → AState → Prop} {kd:Nat → Kd} (hop:op.dr = true) (hk:∀ i o,all[i]? = some o → kd i = kdOf op o) :
  ∀ (l:List Oper) (i:Nat) (s:AState),all.drop i = l → vcOps cx op all k Q l s →
   ∃ tm' L' H',RunsD cx.P (cx.n + 1) cx.n (fun x=>op.lay.contains x) all kd i l s.tmps (full cx.n s.L s.H) tm' (full cx.n L' H') ∧ OutStep cx.n s.H H' ∧ AK cx.P cx.φ cx.n cx.N k Q ⟨tm',L',H'⟩
 | [],i,s,_,h=>⟨s.tmps,s.L,s.H,.nil i s.tmps _,.refl _ _,h⟩
 | o :: r,i,s,hi,h=>by
  have ho:all[i]? = some o:=by
   have:=congrArg (·[0]?) hi
   simpa [List.getElem?_drop] using this
  have hi':all.drop (i + 1) = r:=by rw [← List.drop_drop,hi]; rfl
  have run:guardB all s.tmps o = some true → vcRun cx op o s (vcOps cx op all k Q r) →
    ∃ tm' L' H',RunsD cx.P (cx.n + 1) cx.n (fun x=>op.lay.contains x) all kd i (o :: r) s.tmps (full cx.n s.L s.H) tm' (full cx.n L' H') ∧ OutStep cx.n s.H H' ∧ AK cx.P cx.φ cx.n cx.N k Q ⟨tm',L',H'⟩:=by
   intro hg hr
   obtain ⟨v,L1,H1,h1,h2,h3⟩:=vcRun_step hT (κ:=kd i) (.inl hop) (.inr ⟨hop,hk i o ho⟩) hr
   obtain ⟨tm',L',H',h4,h5,h6⟩:=vcOps_runs hT hop hk r (i + 1) _ hi' h3
   exact ⟨tm',L',H',.run i o r _ _ _ _ _ v hg h1 h4,h2.trans h5,h6⟩
  have pass:guardB all s.tmps o = some false → vcOps cx op all k Q r ⟨putT s.tmps o.dst (.tup []),s.L,s.H⟩ →
    ∃ tm' L' H',RunsD cx.P (cx.n + 1) cx.n (fun x=>op.lay.contains x) all kd i (o :: r) s.tmps (full cx.n s.L s.H) tm' (full cx.n L' H') ∧ OutStep cx.n s.H H' ∧ AK cx.P cx.φ cx.n cx.N k Q ⟨tm',L',H'⟩:=by
   intro hg hr
   obtain ⟨tm',L',H',h4,h5,h6⟩:=vcOps_runs hT hop hk r (i + 1) _ hi' hr
   exact ⟨tm',L',H',.pass i o r _ _ _ _ hg h4,h5,h6⟩
  simp only [vcOps] at h
  split at h
  ·rename_i hgd
   exact run (by simp only [guardB,hgd]) h
  ·rename_i j want hgd
   split at h
   ·rename_i hd
    exact pass (by unfold guardDst at hd; simp only [guardB,hgd,hd]) h
   ·rename_i d hd
    unfold guardDst at hd
    unfold vcG at h
    split at h
    ·rename_i hv
     split at h
     ·exact run (by simp only [guardB,hgd,hd,hv]; rfl) h
     ·exact pass (by simp only [guardB,hgd,hd,hv]; rfl) h
    ·rename_i hv
     split at h
     ·exact pass (by simp only [guardB,hgd,hd,hv]; rfl) h
     ·exact run (by simp only [guardB,hgd,hd,hv]; rfl) h
    ·rename_i hv
     exact pass (by simp only [guardB,hgd,hd,hv]) h
    ·exact h.elim
def dstOk (N:Nat) (ops:List Oper):Bool:=ops.all fun o=>match o.dst with | some d=>decide (d < N) | none=>true
theorem dstOk_spec {N:Nat} {ops:List Oper} (h:dstOk N ops = true):∀ o ∈ ops,∀ x,o.dst = some x → x < N:=by
 intro o ho x hx
 have:=(List.all_eq_true.1 h) o ho
 simpa [hx] using this
theorem SRel.out_step {n:Nat} {H H':AHeap} (h:∀ l k b,l < n → H l k = some b → b.Below n) (h':OutStep n H H'):∀ l k b,l < n → H' l k = some b → b.Below n:=fun l k b hl hb=>by
 rcases h' l k b hl hb with h1 | h1
 ·exact h l k b hl h1
 ·exact h1
theorem vcOps_wp {cx:Cx} (hT:TOK cx.P cx.T) {op:Opt} (hop:op.dr = false) {ops:Array Oper} {k:List Itm} {Q:Exit → AState → Prop} (hd:∀ o ∈ ops.toList,∀ x,o.dst = some x → x < cx.N) {E0:Env} {w0:World} :
  ∀ (l:List Oper) (i:Nat) (s:AState),ops.toList.drop i = l → vcOps cx op ops.toList k Q l s → ∀ E w a,SRel cx.φ.B cx.n cx.N s E a w → Ext cx.n E0 w0 E w →
   wpOpsIn (fr cx.φ.ro) 0 cx.P ops (fun e a' w'=>∃ s' E',AX cx.P cx.φ cx.n cx.N Q k e s' ∧ SRel cx.φ.B cx.n cx.N s' E' a' w' ∧ Ext cx.n E0 w0 E' w') ((List.range ops.size).drop i) a w
 | [],i,s,hi,h=>fun E w a hs hx=>by
  have hlen:ops.size ≤ i:=by have:=congrArg List.length hi; simp at this; omega
  rw [List.drop_of_length_le (by simpa using hlen)]
  exact ⟨s,E,h,hs,hx⟩
 | o :: r,i,s,hi,h=>fun E w a hs hx=>by
  have hlt:i < ops.size:=by
   rcases Nat.lt_or_ge i ops.size with h | h
   ·exact h
   ·rw [List.drop_of_length_le (by simpa using h)] at hi; cases hi
  have hoi:ops[i]? = some o:=by
   have:=congrArg (·[0]?) hi
   simpa [List.getElem?_drop] using this
  have hmem:o ∈ ops.toList:=List.mem_of_mem_drop (by rw [hi]; simp)
  have hi':ops.toList.drop (i + 1) = r:=by rw [← List.drop_drop,hi]; rfl
  rw [List.drop_eq_getElem_cons (by simpa using hlt)]
  simp only [List.getElem_range,wpOpsIn,hoi]
  have key:(guardB ops.toList s.tmps o = some true ∧ vcRun cx op o s (vcOps cx op ops.toList k Q r)) ∨ (guardB ops.toList s.tmps o = some false ∧ vcOps cx op ops.toList k Q r ⟨putT s.tmps o.dst (.tup []),s.L,s.H⟩):=by
   simp only [vcOps] at h
   split at h
   ·rename_i hgd
    exact .inl ⟨by simp only [guardB,hgd],h⟩
   ·rename_i j want hgd
    split at h
    ·rename_i hd
     exact .inr ⟨by unfold guardDst at hd; simp only [guardB,hgd,hd],h⟩
    ·rename_i d hd
     unfold guardDst at hd
     unfold vcG at h
     split at h
     ·rename_i hv
      split at h
      ·exact .inl ⟨by simp only [guardB,hgd,hd,hv]; rfl,h⟩
      ·exact .inr ⟨by simp only [guardB,hgd,hd,hv]; rfl,h⟩
     ·rename_i hv
      split at h
      ·exact .inr ⟨by simp only [guardB,hgd,hd,hv]; rfl,h⟩
      ·exact .inl ⟨by simp only [guardB,hgd,hd,hv]; rfl,h⟩
     ·rename_i hv
      exact .inr ⟨by simp only [guardB,hgd,hd,hv],h⟩
     ·exact h.elim
  rcases key with ⟨hg,hr⟩ | ⟨hg,hr⟩
  ·rw [wanted_of_guardB (fun j w d _ _=>hs.tmps d) hg]
   simp only [if_true]
   refine vcRun_ordered hT hop hr E w a _ _ hs.heap (fun x _=>VR_ev hs.tmps x) ?_ cx.φ.ro
   rintro E' w' cv v H1 ⟨L',H',rfl,ho,hF⟩ hcv hh hx'
   refine vcOps_wp hT hop hd r (i + 1) _ hi' hF E' w' _ ⟨by rw [size_put]; exact hs.size,by rw [defers_put]; exact hs.defs.ext hx',fun t=>?_,hh,SRel.out_step hs.out ho⟩ (hx.trans (hx'.mono (Nat.le_succ _)))
   rw [lkv_putT,getD_put hs.size (hd o hmem)]
   split
   ·exact hcv
   ·exact (hs.tmps t).mono hs.heap.norm hx'.le
  ·rw [wanted_of_guardB (fun j w d _ _=>hs.tmps d) hg]
   simp only [Bool.false_eq_true,if_false]
   refine ⟨fun _ _=>trivial,?_⟩
   refine vcOps_wp hT hop hd r (i + 1) _ hi' hr E w _ ⟨by rw [size_put]; exact hs.size,by rw [defers_put]; exact hs.defs,fun t=>?_,hs.heap,hs.out⟩ hx
   rw [lkv_putT,getD_put hs.size (hd o hmem)]
   split
   ·exact VR_undef E
   ·exact hs.tmps t
theorem AK_region {cx:Cx} (hT:TOK cx.P cx.T) {id:Nat} {ops:Array Oper} {k:List Itm} {Q:Exit → AState → Prop} {s:AState} (hd:dstOk cx.N ops.toList = true)
  (op:Opt) (hop:op.dr = false) (h:vcOps cx op ops.toList k Q ops.toList s):AK cx.P cx.φ cx.n cx.N (.code (.region id ops false) :: k) Q s:=fun E w a hs=>by
 refine wpIn_region ?_
 have:=vcOps_wp hT hop (dstOk_spec hd) ops.toList 0 s rfl h E w a hs (.refl _ _ _)
 simpa using this
theorem Kd.sem_mono {P:Program} {m n:Nat} {A B:Nat → Bool} (hAB:∀ s,B s = true → A s = true) {o:Oper} {ρ:Operand → AV} {H:AHeap} {v:AV} {H':AHeap} {κ:Kd} (h:κ.sem P m n A o ρ H v H'):κ.sem P m n B o ρ H v H':=by
 cases κ with
 | p=>exact h
 | t=>exact ⟨fun G hG=>h.1 G (fun l s hs=>hG l s (fun hl=>by
   cases hb:B s with
   | false=>rfl
   | true=>have:=hAB s hb; rw [hs hl] at this; cases this)),h.2⟩
 | w=>exact h
 | a d=>exact h
theorem RunsD.mono {P:Program} {m n:Nat} {A B:Nat → Bool} (hAB:∀ s,B s = true → A s = true) {all:List Oper} {kd:Nat → Kd} {i:Nat} {l:List Oper} {tm tm':List (Nat × AV)} {H H':AHeap} (h:RunsD P m n A all kd i l tm H tm' H'):RunsD P m n B all kd i l tm H tm' H':=by
 induction h with
 | nil i tm H=>exact .nil i tm H
 | run i o r tm tm' H H1 H' v hg h _ ih=>exact .run i o r tm tm' H H1 H' v hg (Kd.sem_mono hAB h) ih
 | pass i o r tm tm' H H' hg _ ih=>exact .pass i o r tm tm' H H' hg ih
def kdAt (op:Opt) (ops:List Oper) (i:Nat):Kd:=match ops[i]? with
 | some o=>kdOf op o
 | none=>.p
def layOk (op:Opt) (ops:List Oper):Bool:=(List.range ops.length).all fun i=>match kdAt op ops i with
 | .a d=>op.lay.contains d
 | _=>true
theorem layOk_spec {op:Opt} {ops:List Oper} (h:layOk op ops = true):∀ s,laysOf ops.length (kdAt op ops) s = true → op.lay.contains s = true:=by
 intro s hs
 simp only [laysOf,List.any_eq_true,List.mem_range,beq_iff_eq] at hs
 obtain ⟨i,hi,hk⟩:=hs
 simp only [layOk,List.all_eq_true,List.mem_range] at h
 have:=h i hi
 rw [hk] at this; exact this
theorem AK_region_draw {cx:Cx} (hT:TOK cx.P cx.T) (hm:cx.P.follows .mixedOrders = true) (op:Opt) (hop:op.dr = true) {id:Nat} {ops:Array Oper} {k:List Itm} {Q:Exit → AState → Prop} {s:AState} (hd:dstOk cx.N ops.toList = true)
  (hok:(regionOk ops.toList (kdAt op ops.toList) && layOk op ops.toList) = true)
  (h:vcOps cx op ops.toList k Q ops.toList s):AK cx.P cx.φ cx.n cx.N (.code (.region id ops true) :: k) Q s:=fun E w a hs=>by
 obtain ⟨hok,hlay⟩:=Bool.and_eq_true_iff.1 hok
 obtain ⟨tm',L',H',hr,ho,hk⟩:=vcOps_runs hT (kd:=kdAt op ops.toList) hop (fun i o hi=>by simp only [kdAt,hi]) ops.toList 0 s rfl h
 obtain ⟨T,G,V,t0,g0,t1,g1,hc⟩:=(hr.mono (layOk_spec hlay)).course
 refine wpIn_region_any hm ?_
 have hlen:ops.toList.length = ops.size:=by simp
 have hu:unl (Array.replicate ops.size false) ≤ ops.size:=by
  unfold unl; exact Nat.le_trans List.countP_le_length (by simp)
 have hL:∀ i,(Array.replicate ops.size false).getD i false = false:=fun i=>by
  rw [Array.getD_eq_getD_getElem?]
  by_cases hi:i < ops.size <;> simp [hi]
 have hva:∀ n t,va ops.toList (lkv (T 0)) V ((Array.replicate ops.size false).getD · false) n t = lkv (T 0) t:=by
  intro n t
  induction n with
  | zero=>rfl
  | succ n ih=>rw [va,if_neg (fun c=>by rw [hL] at c; cases c.1),ih]
 have hhv:∀ n,hv cx.n (kdAt op ops.toList) G ((Array.replicate ops.size false).getD · false) n = G 0:=by
  intro n
  induction n with
  | zero=>rfl
  | succ n ih =>
   funext l s
   rw [hv_succ,if_neg (fun c=>by rw [hL] at c; cases c.1),ih]
 refine wpAny_course cx.φ.ro a.defers (m:=cx.n + 1) (N:=cx.N) (dstOk_spec hd) hc (regionOk_spec hok) E { w with drawn:=w.drawn + 1 } ?_ ops.size _ E { w with drawn:=w.drawn + 1 } a hu (by simp) (fun i o _ hi=>by have:=hL i; simp only at hi; rw [this] at hi; cases hi) hs.size rfl ?_ ?_ (.refl _ _ _)
 ·intro E' w' a' h1 h2 h3 h4 h5
  rw [← hlen,t1] at h3
  rw [← hlen,g1] at h4
  exact ⟨⟨tm',L',H'⟩,E',hk,⟨h1,by rw [h2]; exact (hs.defs.ext (Env.le_of_drew cx.n E w)).ext h5,h3,h4,SRel.out_step hs.out ho⟩,(Env.le_of_drew cx.n E w).trans (h5.mono (Nat.le_succ _))⟩
 ·intro t; rw [hva,t0]; exact hs.tmps t
 ·rw [hhv,g0]; exact hs.heap.drew
end Go.Abs
