/- Operations on maps, over the abstract heap. No program, no condition. -/
import Derived.Test.YthgbkalgmicniaaGreatDoorM03
import Derived.Laws.BytesString
set_option linter.all false
namespace Go.Abs
def AV.isAgg:AV → Bool
 | .agg _=>true
 | _=>false
def AV.kls (a:AV):List KL:=(klAll a.cells).getD []
def Yv (T:TT) (kt:TypeId) (a:AV):Bool:=match T kt with
 | some rk=>match klAll a.cells with
  | some l=>Z4 T 100 kt l && a.isAgg == rk.isAgg
  | none=>false
 | none=>false
def X4 (k:AV) (es:List (AV × AV)):Option Nat:=WC k.kls (es.map fun p=>p.1.kls) 0
def WB (r:ZE):AV:=if r.isAgg then .agg r.zero else r.zero.getD 0 .dead
theorem Za4 {T:TT} {kt:TypeId} {a:AV} (h:Yv T kt a = true):∃ rk,T kt = some rk ∧ klAll a.cells = some a.kls ∧ Z4 T 100 kt a.kls = true ∧ a.isAgg = rk.isAgg:=by
 unfold Yv at h
 split at h
 ·rename_i rk hrk
  split at h
  ·rename_i l hl
   simp only [Bool.and_eq_true,beq_iff_eq] at h
   exact ⟨rk,hrk,by simp [AV.kls,hl],by simpa [AV.kls,hl] using h.1,h.2⟩
  ·cases h
 ·cases h
theorem ZeU {E:Env} {T:TT} {kt:TypeId} {a:AV} {v:Value} {rk:ZE} (h:Yv T kt a = true) (hrk:T kt = some rk) (hv:VR E a v):v = Xu rk a.kls:=by
 obtain ⟨rk',h1,h2,h3,h4⟩:=Za4 h
 rw [hrk] at h1; cases h1
 cases hv with
 | agg cs vs hl hvs =>
  have:rk.isAgg = true:=by rw [← h4]; rfl
  have e:=Zav h2 ⟨hl,hvs⟩
  simp only [Xu,this,if_true]
  rw [← e]
 | int k n=>simp only [AV.cells,klAll,AV.kl,Option.some.injEq] at h2; rw [← h2]; simp [Xu,← h4,AV.isAgg,KL.val]
 | bool b=>simp only [AV.cells,klAll,AV.kl,Option.some.injEq] at h2; rw [← h2]; simp [Xu,← h4,AV.isAgg,KL.val]
 | str l=>simp only [AV.cells,klAll,AV.kl,Option.some.injEq] at h2; rw [← h2]; simp [Xu,← h4,AV.isAgg,KL.val]
 | _=>simp [AV.cells,klAll,AV.kl] at h2
section
variable {P:Program} {T:TT}
theorem ZbB (hT:TOK P T) {E:Env} {w:World} {kt:TypeId} {k:AV} {kv:Value} {es:List (AV × AV)} {ent:Array MapEntry} (hk:Yv T kt k = true) (hes:∀ p ∈ es,Yv T kt p.1 = true) (hv:VR E k kv) (hs:ent.size = es.length)
  (hr:∀ i (h:i < es.length) (h':i < ent.size),VR E es[i].1 ent[i].key ∧ VR E es[i].2 ent[i].val ∧ ent[i].born = i) :
  (∀ em,(Instr.checkKey em 10000 kt kv).run P w = .ok () w) ∧ (Instr.keyThatStays kv kv).run P w = .ok kv w ∧ (∀ i,X4 k es = some i → ∃ h:i < es.length,∀ h':i < ent.size,ent[i].key = kv) ∧
  (Instr.findKey kt kv ent.toList).run P w = .ok ((X4 k es).bind fun j=>(ent[j]?).map fun e=>(j,e.val)) w:=by
 obtain ⟨rk,h1,h2,h3,h4⟩:=Za4 hk
 have e1:=ZeU hk h1 hv
 subst e1
 have hkeys:ent.toList.map (·.key) = (es.map fun p=>p.1.kls).map (Xu rk):=by
  apply List.ext_getElem
  ·simp [hs]
  ·intro i a1 a2
   simp only [List.length_map,Array.length_toList] at a1 a2
   simp only [List.getElem_map,Array.getElem_toList]
   exact ZeU (hes _ (List.getElem_mem a2)) h1 (hr i a2 a1).1
 have hf:∀ l ∈ es.map (fun p=>p.1.kls),Z4 T 100 kt l = true:=by
  intro l hl
  obtain ⟨p,hp,rfl⟩:=List.mem_map.1 hl
  obtain ⟨_,_,_,h,_⟩:=Za4 (hes p hp)
  exact h
 refine ⟨fun em=>Zcg hT em 100 kt rk _ h1 h3 10000 (by omega) w,ZfZ h1 h3 w,fun i hi=>?_,?_⟩
 ·obtain ⟨_,h6⟩:=Jw hi
  rw [Nat.sub_zero,List.getElem?_map] at h6
  cases hg:es[i]? with
  | none=>rw [hg] at h6; cases h6
  | some p =>
   rw [hg,Option.map_some,Option.some.injEq] at h6
   have hlt:i < es.length:=by
    rcases Nat.lt_or_ge i es.length with h | h
    ·exact h
    ·rw [List.getElem?_eq_none h] at hg; cases hg
   refine ⟨hlt,fun h'=>?_⟩
   have:=ZeU (hes _ (List.getElem_mem hlt)) h1 (hr i hlt h').1
   rw [List.getElem?_eq_getElem hlt,Option.some.injEq] at hg
   rw [hg,h6] at this; exact this
 ·rw [ZgK hT h1 h3 w ent.toList _ hkeys hf,Zg3 (by simp [hs])]
  simp [X4]
theorem Zdl {k:AV} {es:List (AV × AV)} {i:Nat} (h:X4 k es = some i):i < es.length:=by
 obtain ⟨_,h6⟩:=Jw h
 rw [Nat.sub_zero,List.getElem?_map] at h6
 rcases Nat.lt_or_ge i es.length with h | h
 ·exact h
 ·rw [List.getElem?_eq_none h] at h6; cases h6
theorem Zaj {E:Env} {t:TypeId} {r:ZE} {d:TypeDesc} {i:TypeInfo} {z:Value} (hf:WX P t r d i z) (h0:r.isAgg = false → r.size = 1):VR E (WB r) z:=by
 have h:=X9 (E:=E) hf.zfits
 unfold WB
 cases hag:r.isAgg with
 | true =>
  have hz:isAggV z = true:=by rw [← hf.zagg]; exact hag
  cases z <;> simp [isAggV] at hz
  simp only [if_true]
  exact .agg _ _ h.1 h.2
 | false =>
  have hz:isAggV z = false:=by rw [← hf.zagg]; exact hag
  have hsz:=hf.zsize
  have hc:z.cells = #[z]:=by cases z <;> simp [isAggV] at hz <;> rfl
  rw [hc] at h
  obtain ⟨h1,h2⟩:=h
  simp only [List.length_cons,List.length_nil] at h1
  simp only [Bool.false_eq_true,if_false]
  have h3:=h2 0 (by omega) (by simp)
  simpa [List.getD_eq_getElem?_getD,List.getElem?_eq_getElem (show 0 < r.zero.length by omega)] using h3
def mapOf (T:TT) (t:TypeId):Option (TypeId × TypeId × ZE) :=
 match T t with
 | some r=>match r.td with
  | .map k e=>(T e).map fun re=>(k,e,re)
  | _=>none
 | none=>none
theorem VB (hT:TOK P T) {t k e:TypeId} {re:ZE} (h:mapOf T t = some (k,e,re)):P.underlying t = some (.map k e) ∧ T e = some re:=by
 unfold mapOf at h
 split at h
 ·rename_i r hr
  split at h
  ·rename_i k' e' hd
   simp only [Option.map_eq_some_iff] at h
   obtain ⟨re',h1,h2⟩:=h
   cases h2
   obtain ⟨d,i,z,hf⟩:=Zl (hT t r hr)
   have:=hf.fits
   rw [hd] at this
   cases d <;> simp [TD.fits] at this
   obtain ⟨rfl,rfl⟩:=this
   exact ⟨hf.und,h1⟩
  ·cases h
 ·cases h
end
section ops
variable {P:Program} {T:TT} {o:Oper} {ρ:Operand → AV}
theorem Zgr {m:Nat} {H:Zf} {t:TypeId} {l k:Nat} (ho:o.op = .makeMap t none) (hl:l < m) (hfree:H l k = none) :
  Xe P m o ρ H (.map l k) (H.upd l k (.map [])):=fun E w a hr hops=>by
 have he:execOp a.eval o = (do let v ← Instr.makeMap t none; pure (Next.value v)):=by simp only [execOp,ho]; rfl
 obtain ⟨hh,hx⟩:=hr.ZcC hl hfree (.map #[] 0) (.map []) ⟨w.heap.size,by simp [Env.Wv],#[],heap_alloc_new w _,rfl,fun i h=>absurd h (Nat.not_lt_zero _)⟩
 refine ⟨.map (some w.heap.size),_,_,.inl ?_,.map l k _ (by simp [Env.Wv]),hh,hx⟩
 rw [he]
 simp [Instr.makeMap,newObj,Sem.run]
def nilA (v:AV):AV:=match v with
 | .sl _ [] .full=>.Y8
 | v=>v
theorem ZdS {k:Nat} {z:Value} (h:fitsConst (.sl k [] .full) z = true):z = .slice none 0 0:=by
 cases z with
 | slice a n c =>
  cases a with
  | none =>
   cases n with
   | zero=>cases c with
    | zero=>rfl
    | succ c=>simp [fitsConst] at h
   | succ n=>simp [fitsConst] at h
  | some a=>simp [fitsConst] at h
 | _=>simp [fitsConst] at h
theorem ZcF {E:Env} {t:TypeId} {r:ZE} {d:TypeDesc} {i:TypeInfo} {z:Value} (hf:WX P t r d i z) (h0:r.isAgg = false → r.size = 1):VR E (nilA (WB r)) z:=by
 have h:=Zaj (E:=E) hf h0
 unfold nilA
 split
 ·rename_i k he
  cases hag:r.isAgg with
  | true=>simp [WB,hag] at he
  | false =>
   have hz:isAggV z = false:=by rw [← hf.zagg]; exact hag
   have hc:z.cells = #[z]:=by cases z <;> simp [isAggV] at hz <;> rfl
   have hs:=hf.zfits
   rw [hc] at hs
   simp only [WB,hag,Bool.false_eq_true,if_false] at he
   match hzz:r.zero with
   | []=>rw [hzz] at he; simp at he
   | a :: as =>
    rw [hzz] at he hs
    simp only [List.getD_cons_zero] at he
    subst he
    simp only [fitsAll,Bool.and_eq_true] at hs
    rw [ZdS hs.1]
    exact .Y8
 ·exact h
def lookA (re:ZE) (k:AV) (es:List (AV × AV)) (ok:Bool):AV :=
 let r:AV × Bool:=match X4 k es with
  | some i=>((es.getD i (.dead,.dead)).2,true)
  | none=>(nilA (WB re),false)
 if ok then .tup [r.1,.bool r.2] else r.1
theorem Zid {m:Nat} {H:Zf} {t:TypeId} {x y:Operand} {ok:Bool} {kt e:TypeId} {re:ZE} {l j:Nat} {k:AV} {es:List (AV × AV)} (hT:TOK P T) (ho:o.op = .lookup t x y ok) (h1:mapOf T t = some (kt,e,re)) (h0:re.isAgg = false → re.size = 1)
  (hx:ρ x = .map l j) (hy:ρ y = k) (hH:H l j = some (.map es)) (hk:Yv T kt k = true) (hes:∀ p ∈ es,Yv T kt p.1 = true) :
  Xe P m o ρ H (lookA re k es ok) H:=fun E w a hr hops=>by
 have hxv:=hops x (by simp [ho,Op.operands])
 have hyv:=hops y (by simp [ho,Op.operands])
 rw [hx] at hxv
 rw [hy] at hyv
 obtain ⟨hu,hre⟩:=VB hT h1
 obtain ⟨d',i',z',hf'⟩:=Zl (hT e re hre)
 have he:execOp a.eval o = (do let v ← Instr.lookup t (a.eval x) (a.eval y) ok; pure (Next.value v)):=by simp only [execOp,ho]
 generalize hp:a.eval x = p at hxv
 cases hxv with | map _ _ b hm =>
 obtain ⟨b',hm',ent,hc,hs,hv⟩:=hr.map l j es (hr.norm.Jj hm) hH
 rw [hm] at hm'; cases hm'
 obtain ⟨f1,f2,f3,f4⟩:=ZbB hT (w:=w) hk hes hyv hs hv
 have hg:(getObj b).run P w = .ok (.map ent es.length) w:=by simp [getObj,Sem.run,hc]
 cases hfa:X4 k es with
 | none =>
  rw [hfa] at f4
  simp only [Option.bind_none] at f4
  refine ⟨if ok then .tuple #[z',.bool false] else z',E,w,.inl ?_,?_,hr,.refl m E w⟩
  ·rw [he,hp]
   simp only [Instr.lookup,Sem.run_bind,run_underlying hu,Result.andThen_ok,hg,Sem.run_pure,f1,f4,Yo hf']
  ·unfold lookA
   rw [hfa]
   cases ok with
   | true=>exact .tup _ [z',.bool false] rfl ((VRs.cons (ZcF hf' h0) (VRs.cons (.bool _) (VRs.nil E))).2)
   | false=>exact ZcF hf' h0
 | some i =>
  rw [hfa] at f4
  have hi:=Zdl hfa
  have hi':i < ent.size:=by omega
  simp only [Option.bind_some,Array.getElem?_eq_getElem hi',Option.map_some] at f4
  have hval:=(hv i hi hi').2.1
  refine ⟨if ok then .tuple #[ent[i].val,.bool true] else ent[i].val,E,w,.inl ?_,?_,hr,.refl m E w⟩
  ·rw [he,hp]
   simp only [Instr.lookup,Sem.run_bind,run_underlying hu,Result.andThen_ok,hg,Sem.run_pure,f1,f4]
  ·unfold lookA
   rw [hfa]
   have hgd:(es.getD i (.dead,.dead)).2 = es[i].2:=by simp [List.getD_eq_getElem?_getD,List.getElem?_eq_getElem hi]
   simp only [hgd]
   cases ok with
   | true=>exact .tup _ [ent[i].val,.bool true] rfl ((VRs.cons hval (VRs.cons (.bool _) (VRs.nil E))).2)
   | false=>exact hval
theorem ZaR {t:TypeId} {x y:Operand} {ok:Bool} {kt e:TypeId} {re:ZE} {k:AV} (hT:TOK P T) (ho:o.op = .lookup t x y ok) (h1:mapOf T t = some (kt,e,re)) (h0:re.isAgg = false → re.size = 1)
  (hx:ρ x = .nilm) (hy:ρ y = k) (hk:Yv T kt k = true):Y2 P o ρ (lookA re k [] ok):=fun E a hops=>by
 have hxv:=hops x (by simp [ho,Op.operands])
 have hyv:=hops y (by simp [ho,Op.operands])
 rw [hx] at hxv
 rw [hy] at hyv
 obtain ⟨hu,hre⟩:=VB hT h1
 obtain ⟨d',i',z',hf'⟩:=Zl (hT e re hre)
 have he:execOp a.eval o = (do let v ← Instr.lookup t (a.eval x) (a.eval y) ok; pure (Next.value v)):=by simp only [execOp,ho]
 generalize hp:a.eval x = p at hxv
 cases hxv
 refine ⟨if ok then .tuple #[z',.bool false] else z',fun w=>?_,?_⟩
 ·obtain ⟨f1,f2,f3,f4⟩:=ZbB hT (w:=w) (es:=[]) (ent:=#[]) hk (by simp) hyv rfl (fun i h=>absurd h (Nat.not_lt_zero _))
  rw [he,hp]
  have f4':(Instr.findKey kt (a.eval y) []).run P w = .ok none w:=f4
  simp only [Instr.lookup,Sem.run_bind,run_underlying hu,Result.andThen_ok,Sem.run_pure,f1,f4',Yo hf']
 ·unfold lookA
  have:X4 k [] = none:=rfl
  rw [this]
  cases ok with
  | true=>exact .tup _ [z',.bool false] rfl ((VRs.cons (ZcF hf' h0) (VRs.cons (.bool _) (VRs.nil E))).2)
  | false=>exact ZcF hf' h0
def Zbn (k v:AV) (es:List (AV × AV)):List (AV × AV) :=
 match X4 k es with
 | some i=>es.set i (k,v)
 | none=>es ++ [(k,v)]
theorem Ve {w:World} {b:Nat} {es:Array MapEntry} {c:Nat} {o':Obj} (hb:w.heap[b]? = some (.map es c)):(setObj b o').run P w = .ok () { w with heap:=w.heap.setIfInBounds b o' }:=by
 simp [setObj,Sem.run,hb]
theorem Zac {m:Nat} {H:Zf} {E:Env} {w:World} (hr:ZJ m H E w) {l j b:Nat} (hm:E.m l j = some b) {x:Obj} (hb:w.heap[b]? = some x) {es:List (AV × AV)} {ent:Array MapEntry} (hs:ent.size = es.length)
  (hv:∀ i (h:i < es.length) (h':i < ent.size),VR E es[i].1 ent[i].key ∧ VR E es[i].2 ent[i].val ∧ ent[i].born = i) :
  ZJ m (H.upd l j (.map es)) E { w with heap:=w.heap.setIfInBounds b (.map ent es.length) } ∧ Ext m E w E { w with heap:=w.heap.setIfInBounds b (.map ent es.length) }:=by
 have hlt:b < w.heap.size:=(Array.getElem?_eq_some_iff.1 hb).1
 exact hr.turn (.inl hm) (.map es) (fun hg=>absurd (hr.m_g hm) hg) rfl rfl rfl (fun _=>Nat.le_refl _) (by simp) (fun b' hne=>by simp [Array.getElem?_setIfInBounds_ne (Ne.symm hne)]) (fun o=>hr.mF _ _ _ o hm)
  ⟨b,hm,ent,by simp [hlt],hs,hv⟩
theorem Zbg {m:Nat} {H:Zf} {t:TypeId} {x y z:Operand} {kt e:TypeId} {re:ZE} {l j:Nat} {k v:AV} {es:List (AV × AV)} (hT:TOK P T) (ho:o.op = .mapUpdate t x y z ∨ o.op = .insert t x y z) (h1:mapOf T t = some (kt,e,re))
  (hx:ρ x = .map l j) (hy:ρ y = k) (hz:ρ z = v) (hH:H l j = some (.map es)) (hk:Yv T kt k = true) (hes:∀ p ∈ es,Yv T kt p.1 = true) :
  Xe P m o ρ H (.tup []) (H.upd l j (.map (Zbn k v es))):=fun E w a hr hops=>by
 have hxv:=hops x (by rcases ho with ho | ho <;> simp [ho,Op.operands])
 have hyv:=hops y (by rcases ho with ho | ho <;> simp [ho,Op.operands])
 have hzv:=hops z (by rcases ho with ho | ho <;> simp [ho,Op.operands])
 rw [hx] at hxv
 rw [hy] at hyv
 rw [hz] at hzv
 obtain ⟨hu,hre⟩:=VB hT h1
 have he:execOp a.eval o = (do Instr.mapUpdate t (a.eval x) (a.eval y) (a.eval z); pure .skip):=by rcases ho with ho | ho <;> simp only [execOp,ho]
 generalize hp:a.eval x = p at hxv
 cases hxv with | map _ _ b hm =>
 obtain ⟨b',hm',ent,hc,hs,hv⟩:=hr.map l j es (hr.norm.Jj hm) hH
 rw [hm] at hm'; cases hm'
 obtain ⟨f1,f2,f3,f4⟩:=ZbB hT (w:=w) hk hes hyv hs hv
 have hg:(getObj b).run P w = .ok (.map ent es.length) w:=by simp [getObj,Sem.run,hc]
 cases hfa:X4 k es with
 | none =>
  rw [hfa] at f4
  simp only [Option.bind_none] at f4
  have hput:Zbn k v es = es ++ [(k,v)]:=by simp only [Zbn,hfa]
  obtain ⟨hh,hxx⟩:=Zac hr hm hc (es:=es ++ [(k,v)]) (ent:=ent.push { key:=a.eval y,val:=a.eval z,born:=es.length }) (by simp [hs]) (fun i h h'=>by
   rcases Nat.lt_or_ge i es.length with hi | hi
   ·rw [List.getElem_append_left hi,Array.getElem_push_lt (by omega)]; exact hv i hi (by omega)
   ·have:i = es.length:=by simp at h; omega
    subst this
    simp only [List.getElem_concat_length]
    simp only [← hs,Array.getElem_push_eq]
    exact ⟨hyv,hzv,trivial⟩)
  refine ⟨undef,E,_,.inr ⟨?_,rfl⟩,VP E,by rw [hput]; exact hh,hxx⟩
  rw [he,hp]
  simp only [Instr.mapUpdate,Sem.run_bind,run_underlying hu,Result.andThen_ok,hg,f1,f4,Ve hc,Sem.run_pure,List.length_append,List.length_cons,List.length_nil,Nat.zero_add]
 | some i =>
  rw [hfa] at f4
  have hi:=Zdl hfa
  have hi':i < ent.size:=by omega
  simp only [Option.bind_some,Array.getElem?_eq_getElem hi',Option.map_some] at f4
  have hkey:ent[i].key = a.eval y:=by obtain ⟨_,h⟩:=f3 i hfa; exact h hi'
  have hput:Zbn k v es = es.set i (k,v):=by simp only [Zbn,hfa]
  obtain ⟨hh,hxx⟩:=Zac hr hm hc (es:=es.set i (k,v)) (ent:=ent.modify i fun e=>{ e with key:=a.eval y,val:=a.eval z }) (by simp [hs]) (fun j h h'=>by
   simp only [List.length_set] at h
   have h3:=hv j h (by omega)
   rw [List.getElem_set,Array.getElem_modify]
   by_cases hij:i = j
   ·subst hij; simp only [if_true]; exact ⟨hyv,hzv,h3.2.2⟩
   ·simp only [hij,if_false]; exact h3)
  refine ⟨undef,E,_,.inr ⟨?_,rfl⟩,VP E,by rw [hput]; exact hh,hxx⟩
  rw [he,hp]
  simp only [Instr.mapUpdate,Sem.run_bind,run_underlying hu,Result.andThen_ok,hg,f1,f4,Array.getElem?_eq_getElem hi',Option.map_some,Option.getD_some,hkey,f2,Ve hc,Sem.run_pure,List.length_set]
def Zfp (re:ZE) (k:AV) (es:List (AV × AV)):AV × List (AV × AV) :=
 match X4 k es with
 | some i=>(.tup [(es.getD i (.dead,.dead)).2,.int .i64 i],es.set i (k,(es.getD i (.dead,.dead)).2))
 | none=>(.tup [WB re,.int .i64 es.length],es ++ [(k,WB re)])
theorem Zfm {m:Nat} {H:Zf} {t:TypeId} {x y:Operand} {kt e:TypeId} {re:ZE} {l j:Nat} {k:AV} {es:List (AV × AV)} (hT:TOK P T) (ho:o.op = .mapEntry t x y) (h1:mapOf T t = some (kt,e,re)) (h0:re.isAgg = false → re.size = 1)
  (hx:ρ x = .map l j) (hy:ρ y = k) (hH:H l j = some (.map es)) (hk:Yv T kt k = true) (hes:∀ p ∈ es,Yv T kt p.1 = true) :
  Xe P m o ρ H (Zfp re k es).1 (H.upd l j (.map (Zfp re k es).2)):=fun E w a hr hops=>by
 have hxv:=hops x (by simp [ho,Op.operands])
 have hyv:=hops y (by simp [ho,Op.operands])
 rw [hx] at hxv
 rw [hy] at hyv
 obtain ⟨hu,hre⟩:=VB hT h1
 obtain ⟨d',i',z',hf'⟩:=Zl (hT e re hre)
 have he:execOp a.eval o = (do let v ← Instr.mapEntry t (a.eval x) (a.eval y); pure (Next.value v)):=by simp only [execOp,ho]
 generalize hp:a.eval x = p at hxv
 cases hxv with | map _ _ b hm =>
 obtain ⟨b',hm',ent,hc,hs,hv⟩:=hr.map l j es (hr.norm.Jj hm) hH
 rw [hm] at hm'; cases hm'
 obtain ⟨f1,f2,f3,f4⟩:=ZbB hT (w:=w) hk hes hyv hs hv
 have hg:(getObj b).run P w = .ok (.map ent es.length) w:=by simp [getObj,Sem.run,hc]
 cases hfa:X4 k es with
 | none =>
  rw [hfa] at f4
  simp only [Option.bind_none] at f4
  have hput:Zfp re k es = (.tup [WB re,.int .i64 es.length],es ++ [(k,WB re)]):=by simp only [Zfp,hfa]
  obtain ⟨hh,hxx⟩:=Zac hr hm hc (es:=es ++ [(k,WB re)]) (ent:=ent.push { key:=a.eval y,val:=z',born:=es.length }) (by simp [hs]) (fun i h h'=>by
   rcases Nat.lt_or_ge i es.length with hi | hi
   ·rw [List.getElem_append_left hi,Array.getElem_push_lt (by omega)]; exact hv i hi (by omega)
   ·have:i = es.length:=by simp at h; omega
    subst this
    simp only [List.getElem_concat_length]
    simp only [← hs,Array.getElem_push_eq]
    exact ⟨hyv,Zaj hf' h0,trivial⟩)
  refine ⟨.tuple #[z',.int .i64 es.length],E,_,.inl ?_,?_,by rw [hput]; exact hh,hxx⟩
  ·rw [he,hp]
   simp only [Instr.mapEntry,Sem.run_bind,run_underlying hu,Result.andThen_ok,hg,f1,f4,Yo hf',Ve hc,Sem.run_pure,List.length_append,List.length_cons,List.length_nil,Nat.zero_add,goInt]
  ·rw [hput]
   exact .tup _ [z',.int .i64 es.length] rfl ((VRs.cons (Zaj hf' h0) (VRs.cons (.int _ _) (VRs.nil E))).2)
 | some i =>
  rw [hfa] at f4
  have hi:=Zdl hfa
  have hi':i < ent.size:=by omega
  simp only [Option.bind_some,Array.getElem?_eq_getElem hi',Option.map_some] at f4
  have hkey:ent[i].key = a.eval y:=by obtain ⟨_,h⟩:=f3 i hfa; exact h hi'
  have hgd:(es.getD i (.dead,.dead)).2 = es[i].2:=by simp [List.getD_eq_getElem?_getD,List.getElem?_eq_getElem hi]
  have hput:Zfp re k es = (.tup [es[i].2,.int .i64 i],es.set i (k,es[i].2)):=by simp only [Zfp,hfa,hgd]
  have hborn:=(hv i hi hi').2.2
  obtain ⟨hh,hxx⟩:=Zac hr hm hc (es:=es.set i (k,es[i].2)) (ent:=ent.modify i fun e=>{ e with key:=a.eval y }) (by simp [hs]) (fun j h h'=>by
   simp only [List.length_set] at h
   have h3:=hv j h (by omega)
   rw [List.getElem_set,Array.getElem_modify]
   by_cases hij:i = j
   ·subst hij; simp only [if_true]; exact ⟨hyv,h3.2.1,h3.2.2⟩
   ·simp only [hij,if_false]; exact h3)
  refine ⟨.tuple #[ent[i].val,.int .i64 i],E,_,.inl ?_,?_,by rw [hput]; exact hh,hxx⟩
  ·rw [he,hp]
   simp only [Instr.mapEntry,Sem.run_bind,run_underlying hu,Result.andThen_ok,hg,f1,f4,Array.getElem?_eq_getElem hi',Option.map_some,Option.getD_some,hkey,f2,Ve hc,Sem.run_pure,List.length_set,goInt,hborn]
  ·rw [hput]
   exact .tup _ [ent[i].val,.int .i64 i] rfl ((VRs.cons (hv i hi hi').2.1 (VRs.cons (.int _ _) (VRs.nil E))).2)
theorem ZdG {ent:Array MapEntry} {n i:Nat} (hs:ent.size = n) (hb:∀ j (h:j < ent.size),ent[j].born = j) (hi:i < n):ent.findIdx? (fun e=>((e.born:Nat):Int) == ((i:Nat):Int)) = some i:=by
 rw [Array.findIdx?_eq_some_iff_getElem]
 refine ⟨by omega,?_,fun j hj=>?_⟩
 ·simp [hb i (by omega)]
 ·simp only [hb j (by omega),beq_iff_eq]
  omega
theorem ZdK {m:Nat} {H:Zf} {t:TypeId} {x y z:Operand} {l j:Nat} {i:Nat} {kk:IntKind} {v:AV} {es:List (AV × AV)} (ho:o.op = .entryStore t x y z) (hx:ρ x = .map l j) (hy:ρ y = .int kk i) (hz:ρ z = v) (hH:H l j = some (.map es)) (hi:i < es.length) :
  Xe P m o ρ H (.tup []) (H.upd l j (.map (es.set i ((es.getD i (.dead,.dead)).1,v)))):=fun E w a hr hops=>by
 have hxv:=hops x (by simp [ho,Op.operands])
 have hyv:=hops y (by simp [ho,Op.operands])
 have hzv:=hops z (by simp [ho,Op.operands])
 rw [hx] at hxv
 rw [hy] at hyv
 rw [hz] at hzv
 have he:execOp a.eval o = (do Instr.entryStore t (a.eval x) (a.eval y) (a.eval z); pure .skip):=by simp only [execOp,ho]
 generalize hp:a.eval x = p at hxv
 generalize hq:a.eval y = q at hyv
 cases hxv with | map _ _ b hm =>
 cases hyv
 obtain ⟨b',hm',ent,hc,hs,hv⟩:=hr.map l j es (hr.norm.Jj hm) hH
 rw [hm] at hm'; cases hm'
 have hg:(getObj b).run P w = .ok (.map ent es.length) w:=by simp [getObj,Sem.run,hc]
 have hfi:=ZdG hs (fun j h=>(hv j (by omega) h).2.2) hi
 have hgd:(es.getD i (.dead,.dead)).1 = es[i].1:=by simp [List.getD_eq_getElem?_getD,List.getElem?_eq_getElem hi]
 obtain ⟨hh,hxx⟩:=Zac hr hm hc (es:=es.set i (es[i].1,v)) (ent:=ent.modify i fun e=>{ e with val:=a.eval z }) (by simp [hs]) (fun j h h'=>by
   simp only [List.length_set] at h
   have h3:=hv j h (by omega)
   rw [List.getElem_set,Array.getElem_modify]
   by_cases hij:i = j
   ·subst hij; simp only [if_true]; exact ⟨h3.1,hzv,h3.2.2⟩
   ·simp only [hij,if_false]; exact h3)
 refine ⟨undef,E,_,.inr ⟨?_,rfl⟩,VP E,by rw [hgd]; exact hh,hxx⟩
 rw [he,hp,hq]
 simp only [Instr.entryStore,Sem.run_bind,Sem.run_pure,Result.andThen_ok,hg,asInt,asIntOf,hfi,Ve hc,List.length_set]
end ops
end Go.Abs

/- Walks over maps; slices that may be written. No program, no condition. -/
namespace Go.Abs
def Jr (P:Program) (m:Nat) (o:Oper) (ρ:Operand → AV) (H:Zf) (S:AV → Zf → Prop):Prop :=
 ∀ E w (a:Act) (Q:Exit → Act → World → Prop) (K:Act → World → Prop),ZJ m H E w → (∀ x ∈ o.op.operands,VR E (ρ x) (a.eval x)) →
  (∀ E' w' cv v H',S v H' → VR E' v cv → ZJ m H' E' w' → Ext m E w E' w' → K (a.put o.dst cv) w') → ∀ ro,o.wpIn (fr ro) 0 P a w K Q
def Zmc (H:Zf) (l k l' j:Nat) (es:List (AV × AV)) (seen:List Nat) (v:AV) (H':Zf):Prop :=
 ((∀ i,i < es.length → i ∈ seen) ∧ v = .tup [.bool false] ∧ H' = H) ∨
 ∃ i,i < es.length ∧ i ∉ seen ∧ v = .tup [.bool true,(es.getD i (.dead,.dead)).1,(es.getD i (.dead,.dead)).2] ∧ H' = H.upd l k (.iter l' j es.length (seen ++ [i]))
theorem ZJ.ZiB {m:Nat} {H:Zf} {E:Env} {w:World} (hr:ZJ m H E w) {l k l' j b b' since:Nat} {seen:List Nat} {x:Obj} (hm:E.m l k = some b) (hm':E.m l' j = some b') (hb:w.heap[b]? = some x) :
  ZJ m (H.upd l k (.iter l' j since seen)) E { w with heap:=w.heap.setIfInBounds b (.mapIter (some b') since seen.toArray since) } ∧ Ext m E w E { w with heap:=w.heap.setIfInBounds b (.mapIter (some b') since seen.toArray since) }:=by
 have hlt:b < w.heap.size:=(Array.getElem?_eq_some_iff.1 hb).1
 exact hr.turn (.inl hm) (.iter l' j since seen) (fun hg=>absurd (hr.m_g hm) hg) rfl rfl rfl (fun _=>Nat.le_refl _) (by simp) (fun b' hne=>by simp [Array.getElem?_setIfInBounds_ne (Ne.symm hne)]) (fun o=>hr.mF _ _ _ o hm)
  ⟨b,b',hm,hm',by simp [hlt]⟩
section ops
variable {P:Program} {T:TT} {o:Oper} {ρ:Operand → AV}
theorem Zjz {m:Nat} {H:Zf} {t:TypeId} {x:Operand} {kt e:TypeId} {re:ZE} {l k l' j:Nat} {es:List (AV × AV)} (hT:TOK P T) (ho:o.op = .range t x) (h1:mapOf T t = some (kt,e,re))
  (hx:ρ x = .map l' j) (hH:H l' j = some (.map es)) (hl:l < m) (hfree:H l k = none) :
  Xe P m o ρ H (.ptr l k 0) (H.upd l k (.iter l' j es.length [])):=fun E w a hr hops=>by
 have hxv:=hops x (by simp [ho,Op.operands])
 rw [hx] at hxv
 obtain ⟨hu,hre⟩:=VB hT h1
 have he:execOp a.eval o = (do let v ← Instr.range t (a.eval x); pure (Next.value v)):=by simp only [execOp,ho]
 generalize hp:a.eval x = p at hxv
 cases hxv with | map _ _ b hm =>
 obtain ⟨b',hm',ent,hc,hs,hv⟩:=hr.map l' j es (hr.norm.Jj hm) hH
 rw [hm] at hm'; cases hm'
 have hne:¬(l' = l ∧ j = k):=fun hc=>by rw [hc.1,hc.2,hfree] at hH; cases hH
 obtain ⟨hh,hxx⟩:=hr.ZcC hl hfree (.mapIter (some b) es.length #[] es.length) (.iter l' j es.length []) ⟨w.heap.size,b,by simp [Env.Wv],by simp only [Env.Wv]; rw [if_neg hne]; exact hm,heap_alloc_new w _⟩
 refine ⟨.pointer (some ⟨w.heap.size,0,none⟩),_,_,.inl ?_,.ptr l k 0 _ (by simp [Env.Wv]),hh,hxx⟩
 rw [he,hp]
 simp [Instr.range,Sem.run_bind,run_underlying hu,getObj,Sem.run,hc,newObj,Result.andThen]
theorem run_next_at {w:World} {ty:TypeId} {r bm:Nat} {seen:List Nat} {es:Array MapEntry} {n:Nat} (hr:w.heap[r]? = some (.mapIter (some bm) n seen.toArray n)) (hb:w.heap[bm]? = some (.map es n)) (hs:es.size = n)
  (hborn:∀ i (h:i < es.size),es[i].born = i) :
  ((∀ i,i < n → i ∈ seen) ∧ (Instr.next (.pointer (some ⟨r,0,none⟩)) false ty).run P w = .ok (.tuple #[.bool false]) w) ∨
  ∃ (i:Nat) (h:i < es.size),i ∉ seen ∧ ∃ dr,w.drawn ≤ dr ∧ (Instr.next (.pointer (some ⟨r,0,none⟩)) false ty).run P w = .ok (.tuple #[.bool true,es[i].key,es[i].val]) { w with heap:=w.heap.setIfInBounds r (.mapIter (some bm) n (seen ++ [i]).toArray n),drawn:=dr }:=by
 have hold:∀ x ∈ es.toList,x.born < n:=by
  intro x hx
  obtain ⟨i,hi,rfl⟩:=List.getElem_of_mem hx
  simp only [Array.length_toList] at hi
  simp only [Array.getElem_toList,hborn i hi]; omega
 simp only [Instr.next,getObj,Sem.run_bind,Sem.run,hr,hb,Result.andThen,next_test_false seen.toArray es n n hold (Nat.le_refl _),Bool.false_eq_true,if_false]
 have hmem:∀ x,x ∈ (Array.filter (fun e=>!seen.toArray.contains e.born) es).toList → ∃ (i:Nat) (h:i < es.size),x = es[i] ∧ i ∉ seen:=by
  intro x hx
  simp only [Array.toList_filter,List.mem_filter,Bool.not_eq_true',Array.mem_toList_iff] at hx
  obtain ⟨i,hi,rfl⟩:=Array.getElem_of_mem hx.1
  refine ⟨i,hi,rfl,fun hc=>?_⟩
  have:=hx.2
  rw [hborn i hi] at this
  simp [hc] at this
 have hall:(Array.filter (fun e=>!seen.toArray.contains e.born) es).size = 0 → ∀ i,i < n → i ∈ seen:=by
  intro h0 i hi
  have he:Array.filter (fun e=>!seen.toArray.contains e.born) es = #[]:=Array.eq_empty_of_size_eq_zero h0
  rw [Array.filter_eq_empty_iff] at he
  have:=he es[i] (Array.getElem_mem (by omega))
  rw [hborn i (by omega)] at this
  simpa using this
 generalize Array.filter (fun e=>!seen.toArray.contains e.born) es = L at hmem hall ⊢
 have hlt:∀ x ∈ L.toList,x.born < n:=by
  intro x hx
  obtain ⟨i,hi,rfl,_⟩:=hmem x hx
  rw [hborn i hi]; omega
 have e1:L.filter (fun x=>decide (x.born < n)) = L:=Array.filter_eq_self.2 (fun x hx=>by simpa using hlt x (by simpa using hx))
 have e2:L.filter (fun x=>decide (x.born ≥ n)) = #[]:=by
  rw [Array.filter_eq_empty_iff]
  intro x hx
  have:=hlt x (by simpa using hx)
  simp
  omega
 simp only [e1,e2,Array.append_empty]
 by_cases h0:L.size = 0
 ·left
  refine ⟨hall h0,?_⟩
  have:L = #[]:=Array.eq_empty_of_size_eq_zero h0
  subst this
  simp [choose,Sem.run,Question.forced]
 ·right
  have hne:L.isEmpty = false:=by simp [Array.isEmpty,h0]
  simp only [hne,Bool.false_eq_true,if_false,Array.empty_append,Array.size_map]
  have hch:∃ (j dr:Nat),j < L.size ∧ w.drawn ≤ dr ∧ (choose (Question.mapNext L.size)).run P w = .ok j { w with drawn:=dr }:=by
   by_cases hf:L.size ≤ 1
   ·exact ⟨0,w.drawn,by omega,Nat.le_refl _,by simp [choose,Sem.run,Question.forced,hf]⟩
   ·exact ⟨_,w.drawn + 1,Nat.mod_lt _ (by omega),Nat.le_succ _,by
     simp only [choose,Sem.run,Question.forced,decide_eq_true_eq,hf,if_false,Question.cut]
     rfl⟩
  obtain ⟨j,dr,hj,hdr,hrun⟩:=hch
  obtain ⟨i,hi,hei,hns⟩:=hmem L[j] (by simp)
  refine ⟨i,hi,hns,dr,hdr,?_⟩
  have hset:∀ o',(setObj r o').run P { w with drawn:=dr } = .ok () { w with heap:=w.heap.setIfInBounds r o',drawn:=dr }:=fun o'=>by
   simp only [setObj,Sem.run,hr]
  simp only [hrun,Array.getElem?_map,Array.getElem?_eq_getElem hj,Option.map_some,Sem.run_bind,hset,Result.andThen]
  rw [hei,hborn i hi]
  simp [Sem.run]
theorem Zj4 {m:Nat} {H:Zf} {x:Operand} {l k l' j:Nat} {es:List (AV × AV)} {seen:List Nat} (ho:o.op = .next x false) (hx:ρ x = .ptr l k 0) (hH:H l k = some (.iter l' j es.length seen)) (hM:H l' j = some (.map es)) :
  Jr P m o ρ H (Zmc H l k l' j es seen):=fun E w a Q K hr hops hK ro=>by
 have hxv:=hops x (by simp [ho,Op.operands])
 rw [hx] at hxv
 have he:execOp a.eval o = (do let v ← Instr.next (a.eval x) false o.type; pure (Next.value v)):=by simp only [execOp,ho]
 generalize hp:a.eval x = p at hxv
 cases hxv with | ptr _ _ _ b hm =>
 obtain ⟨r,r',a1,a2,a3⟩:=hr.blk l k _ (hr.norm.Jj hm) hH
 rw [hm] at a1; cases a1
 obtain ⟨b',hm',ent,hc,hs,hv⟩:=hr.map l' j es (hr.norm.Jj a2) hM
 rw [a2] at hm'; cases hm'
 rcases run_next_at (P:=P) (ty:=o.type) a3 hc hs (fun i h=>(hv i (by omega) h).2.2) with ⟨n1,n2⟩ | ⟨i,hi,n1,dr,hdr,n2⟩
 ·have hrun:(execOp a.eval o).run P w = .ok (.value (.tuple #[.bool false])) w:=by
   rw [he,hp]; simp only [Sem.run_bind,n2,Result.andThen_ok,Sem.run_pure]
  refine Xr hrun (fun _ e=>by cases e) ?_
  exact hK E w _ (.tup [.bool false]) H (.inl ⟨n1,rfl,rfl⟩) (.tup _ [.bool false] rfl ((VRs.cons (.bool _) (VRs.nil E)).2)) hr (.refl m E w)
 ·have hrun:(execOp a.eval o).run P w = .ok (.value (.tuple #[.bool true,ent[i].key,ent[i].val])) { w with heap:=w.heap.setIfInBounds b (.mapIter (some r') es.length (seen ++ [i]).toArray es.length),drawn:=dr }:=by
   rw [he,hp]; simp only [Sem.run_bind,n2,Result.andThen_ok,Sem.run_pure]
  refine Xr hrun (fun _ e=>by cases e) ?_
  have hi2:i < es.length:=by omega
  obtain ⟨hh,hxx⟩:=hr.ZiB (since:=es.length) (seen:=seen ++ [i]) hm a2 a3
  have hgd:es.getD i (.dead,.dead) = es[i]:=by simp [List.getD_eq_getElem?_getD,List.getElem?_eq_getElem hi2]
  obtain ⟨q1,q2,_⟩:=hv i hi2 hi
  refine hK E _ _ (.tup [.bool true,es[i].1,es[i].2]) (H.upd l k (.iter l' j es.length (seen ++ [i]))) (.inr ⟨i,hi2,n1,by rw [hgd],rfl⟩)
   (.tup _ [.bool true,ent[i].key,ent[i].val] rfl ((VRs.cons (.bool _) (VRs.cons q1 (VRs.cons q2 (VRs.nil E)))).2)) ?_ ?_
  ·exact { norm:=hh.norm,F:=hh.F,blk:=fun l k b hl hb=>(hh.blk l k b hl hb).keep rfl rfl (fun _=>rfl) (fun _ _ _ h=>h) (fun _ _=>rfl) (fun _ _ _ h=>h) (fun _ _ _ h=>h),dom:=hh.dom,nobuf:=hh.nobuf,inj:=hh.inj,injg:=hh.injg,mg:=hh.mg,mF:=hh.mF,lt:=hh.lt }
  ·exact ⟨hxx.le,hxx.os,hxx.tape,hxx.output,fun _=>hdr,hxx.size,hxx.block,hxx.own⟩
theorem ZiT {m:Nat} {H:Zf} {x:Operand} {l k l' j i:Nat} {es:List (AV × AV)} {seen:List Nat} (ho:o.op = .entry x) (hx:ρ x = .ptr l k 0) (hH:H l k = some (.iter l' j es.length (seen ++ [i]))) (hM:H l' j = some (.map es)) (hi:i < es.length) :
  Xe P m o ρ H (.tup [(es.getD i (.dead,.dead)).1,(es.getD i (.dead,.dead)).2]) H:=fun E w a hr hops=>by
 have hxv:=hops x (by simp [ho,Op.operands])
 rw [hx] at hxv
 have he:execOp a.eval o = (do let v ← Instr.entry (a.eval x); pure (Next.value v)):=by simp only [execOp,ho]
 generalize hp:a.eval x = p at hxv
 cases hxv with | ptr _ _ _ b hm =>
 obtain ⟨r,r',a1,a2,a3⟩:=hr.blk l k _ (hr.norm.Jj hm) hH
 rw [hm] at a1; cases a1
 obtain ⟨b',hm',ent,hc,hs,hv⟩:=hr.map l' j es (hr.norm.Jj a2) hM
 rw [a2] at hm'; cases hm'
 have hi':i < ent.size:=by omega
 have hf:ent.find? (·.born == i) = some ent[i]:=by
  rw [← Array.find?_toList]
  rw [List.find?_eq_some_iff_getElem]
  refine ⟨by simp [(hv i hi hi').2.2],i,by simpa using hi',by simp,fun j' hj'=>?_⟩
  have:=(hv j' (by omega) (by omega)).2.2
  simp only [Array.getElem_toList,this,Bool.not_eq_true',beq_eq_false_iff_ne]
  omega
 have hgd:es.getD i (.dead,.dead) = es[i]:=by simp [List.getD_eq_getElem?_getD,List.getElem?_eq_getElem hi]
 obtain ⟨q1,q2,_⟩:=hv i hi hi'
 refine ⟨.tuple #[ent[i].key,ent[i].val],E,w,.inl ?_,by rw [hgd]; exact .tup _ [ent[i].key,ent[i].val] rfl ((VRs.cons q1 (VRs.cons q2 (VRs.nil E))).2),hr,.refl m E w⟩
 rw [he,hp]
 have hbk:(seen ++ [i]).toArray.back? = some i:=by simp
 simp only [Instr.entry,getObj,Sem.run_bind,Sem.run,a3,hc,Result.andThen,hbk,bne_self_eq_false,Bool.false_eq_true,if_false,hf]
 rfl
theorem ZbT {t:TypeId} {x ix:Operand} {r re:ZE} {e:TypeId} {sz l k n:Nat} {kk:IntKind} {i:Int} (hT:TOK P T) (ho:o.op = .indexAddr t x ix)
  (h1:T t = some r) (h2:r.td = .slice e) (h3:T e = some re) (hv:ρ x = .msl sz l k n) (hi:ρ ix = .int kk i) (hlo:0 ≤ i) (hhi:i < n) :
  Y2 P o ρ (.eptr l k n (i.toNat * re.size)):=fun E a h=>by
 have hx:=h x (by simp [ho,Op.operands])
 have hix:=h ix (by simp [ho,Op.operands])
 rw [hv] at hx
 rw [hi] at hix
 obtain ⟨d,inf,z,hf⟩:=Zl (hT t r h1)
 obtain ⟨d',i',z',hf'⟩:=Zl (hT e re h3)
 have hd:=Yp (h2 ▸ hf.fits)
 subst hd
 cases hyi:a.eval ix <;> rw [hyi] at hix <;> cases hix
 generalize hy:a.eval x = y at hx
 cases hx with
 | mnil=>omega
 | msl _ _ _ _ g cap hh =>
  refine ⟨.pointer (some ⟨g,i.toNat * re.size,none⟩),fun w=>?_,.eptr l k n _ g cap hh⟩
  simp [execOp,ho,hy,hyi,Instr.indexAt,asIntOf,run_underlying hf.und,hlo,hhi,ZT hf',Z9]
theorem ZgM {t:TypeId} {x:Operand} {r:ZE} {e:TypeId} {sz l k n:Nat} (hT:TOK P T) (ho:o.op = .call { callee:=.builtin .len,args:=#[x],argTypes:=#[t] })
  (h1:T t = some r) (h2:r.td = .slice e) (hv:ρ x = .msl sz l k n):Y2 P o ρ (.int .i64 n):=fun E a h=>by
 have hx:=h x (by simp [ho,Op.operands,Call.operands])
 rw [hv] at hx
 obtain ⟨d,inf,z,hf⟩:=Zl (hT t r h1)
 have hd:=Yp (h2 ▸ hf.fits)
 subst hd
 generalize hy:a.eval x = y at hx
 cases hx with
 | mnil=>exact ⟨_,fun w=>by simp [execOp,ho,hy,resolve,invoke,builtin,Builtin.len_,run_underlying hf.und,goInt],.int _ _⟩
 | msl=>exact ⟨_,fun w=>by simp [execOp,ho,hy,resolve,invoke,builtin,Builtin.len_,run_underlying hf.und,goInt],.int _ _⟩
theorem ZbL {t:TypeId} {x:Operand} {f:Nat} {r rf:ZE} {fs:List (Nat × TypeId)} {fo ft l k n off:Nat} (hT:TOK P T) (ho:o.op = .fieldAddr t x f) (h1:T t = some r) (h2:r.td = .struct fs)
  (h3:fs[f]? = some (fo,ft)) (h4:T ft = some rf) (h5:rf.size ≠ 0) (hv:ρ x = .eptr l k n off):Y2 P o ρ (.eptr l k n (off + fo)):=fun E a h=>by
 have hx:=h x (by simp [ho,Op.operands])
 rw [hv] at hx
 obtain ⟨d,i,z,hf⟩:=Zl (hT t r h1)
 obtain ⟨d',i',z',hf'⟩:=Zl (hT ft rf h4)
 obtain ⟨gs,rfl,hgs,_⟩:=JY (h2 ▸ hf.fits)
 have hg:∃ g,gs[f]? = some g ∧ g.offset = fo ∧ g.type = ft:=by
  have h3':=h3
  rw [← hgs,List.getElem?_map] at h3'
  cases hq:gs.toList[f]? with
  | none=>simp [hq] at h3'
  | some g=>rw [hq] at h3'; simp at h3'; exact ⟨g,by rw [← Array.getElem?_toList]; exact hq,h3'.1,h3'.2⟩
 obtain ⟨g,hg1,hg2,hg3⟩:=hg
 generalize hy:a.eval x = y at hx
 cases hx with | eptr _ _ _ _ b cap hh =>
 refine ⟨.pointer (some ⟨b,off + fo,none⟩),fun w=>?_,.eptr l k n _ b cap hh⟩
 simp [execOp,ho,hy,Instr.fieldAt,run_underlying hf.und,hg1,Instr.sureAddr,fieldPlace,hg3,ZT hf',h5,Z9,hg2]
end ops
end Go.Abs

/- Interface values. No program. -/
namespace Go.Abs
section
variable {P:Program} {T:TT} {o:Oper} {ρ:Operand → AV}
theorem ZeB {t:TypeId} {x:Operand} {r:ZE} (hT:TOK P T) (ho:o.op = .makeInterface t x) (h1:T t = some r) (h2:r.td ≠ .iface):Y2 P o ρ (.ifc t (ρ x)):=fun E a h=>by
 obtain ⟨d,i,z,hf⟩:=Zl (hT t r h1)
 have hx:=h x (by simp [ho,Op.operands])
 refine ⟨.iface t (a.eval x),fun w=>?_,.ifc t _ _ hx⟩
 have hu:P.underlying t = some d:=hf.und
 have hfit:=hf.fits
 simp only [execOp,ho,Instr.makeInterface,Sem.run_bind,run_underlying hu,Result.andThen_ok]
 cases d <;> first | (simp [Sem.run_pure]; done) | skip
 all_goals (cases hr:r.td <;> rw [hr] at hfit <;> first | (simp [TD.fits] at hfit; done) | exact absurd hr h2)
theorem ZdN {x:Operand} {xt t:TypeId} {r:ZE} {v:AV} (hT:TOK P T) (ho:o.op = .typeAssert x xt t true) (h1:T t = some r) (h2:r.td ≠ .iface) (hx:ρ x = .ifc t v):Y2 P o ρ (.tup [v,.bool true]):=fun E a h=>by
 obtain ⟨d,i,z,hf⟩:=Zl (hT t r h1)
 have hv:=h x (by simp [ho,Op.operands])
 rw [hx] at hv
 cases hy:a.eval x <;> rw [hy] at hv <;> cases hv
 rename_i u hu
 refine ⟨.tuple #[u,.bool true],fun w=>?_,?_⟩
 ·have hud:P.underlying t = some d:=hf.und
  have hfit:=hf.fits
  simp only [execOp,ho,hy,Instr.typeAssert,Sem.run_bind,run_underlying hud,Result.andThen_ok]
  cases d <;> first | (simp [Sem.run_pure]; done) | skip
  all_goals (cases hr:r.td <;> rw [hr] at hfit <;> first | (simp [TD.fits] at hfit; done) | exact absurd hr h2)
 ·exact .tup [v,.bool true] [u,.bool true] rfl (VRs.cons hu (VRs.cons (.bool true) (VRs.nil E))).2
theorem Zcx {x:Operand} {xt t:TypeId} {r:ZE} {v:AV} (hT:TOK P T) (ho:o.op = .typeAssert x xt t false) (h1:T t = some r) (h2:r.td ≠ .iface) (hx:ρ x = .ifc t v):Y2 P o ρ v:=fun E a h=>by
 obtain ⟨d,i,z,hf⟩:=Zl (hT t r h1)
 have hv:=h x (by simp [ho,Op.operands])
 rw [hx] at hv
 cases hy:a.eval x <;> rw [hy] at hv <;> cases hv
 rename_i u hu
 refine ⟨u,fun w=>?_,hu⟩
 have hud:P.underlying t = some d:=hf.und
 have hfit:=hf.fits
 simp only [execOp,ho,hy,Instr.typeAssert,Sem.run_bind,run_underlying hud,Result.andThen_ok]
 cases d <;> first | (simp [Sem.run_pure]; done) | skip
 all_goals (cases hr:r.td <;> rw [hr] at hfit <;> first | (simp [TD.fits] at hfit; done) | exact absurd hr h2)
theorem ZeZ {x:Operand} {xt t t':TypeId} {r:ZE} {v:AV} (hT:TOK P T) (ho:o.op = .typeAssert x xt t true) (h1:T t = some r) (h2:r.td ≠ .iface) (h3:t' ≠ t) (h0:r.isAgg = false → r.size = 1) (hx:ρ x = .ifc t' v):Y2 P o ρ (.tup [WB r,.bool false]):=fun E a h=>by
 obtain ⟨d,i,z,hf⟩:=Zl (hT t r h1)
 have hv:=h x (by simp [ho,Op.operands])
 rw [hx] at hv
 cases hy:a.eval x <;> rw [hy] at hv <;> cases hv
 refine ⟨.tuple #[z,.bool false],fun w=>?_,?_⟩
 ·have hud:P.underlying t = some d:=hf.und
  have hfit:=hf.fits
  simp only [execOp,ho,hy,Instr.typeAssert,Sem.run_bind,run_underlying hud,Result.andThen_ok]
  cases d <;> first | (simp [Sem.run_pure,h3,Yo hf]; done) | skip
  all_goals (cases hr:r.td <;> rw [hr] at hfit <;> first | (simp [TD.fits] at hfit; done) | exact absurd hr h2)
 ·exact .tup _ [z,.bool false] rfl (VRs.cons (Zaj hf h0) (VRs.cons (.bool false) (VRs.nil E))).2
theorem ZdM {x:Operand} {xt t:TypeId} {r:ZE} (hT:TOK P T) (ho:o.op = .typeAssert x xt t true) (h1:T t = some r) (h2:r.td ≠ .iface) (h0:r.isAgg = false → r.size = 1) (hx:ρ x = .nili):Y2 P o ρ (.tup [WB r,.bool false]):=fun E a h=>by
 obtain ⟨d,i,z,hf⟩:=Zl (hT t r h1)
 have hv:=h x (by simp [ho,Op.operands])
 rw [hx] at hv
 cases hy:a.eval x <;> rw [hy] at hv <;> cases hv
 refine ⟨.tuple #[z,.bool false],fun w=>?_,?_⟩
 ·have hud:P.underlying t = some d:=hf.und
  have hfit:=hf.fits
  simp only [execOp,ho,hy,Instr.typeAssert,Sem.run_bind,run_underlying hud,Result.andThen_ok]
  cases d <;> first | (simp [Sem.run_pure,Yo hf]; done) | skip
  all_goals (cases hr:r.td <;> rw [hr] at hfit <;> first | (simp [TD.fits] at hfit; done) | exact absurd hr h2)
 ·exact .tup _ [z,.bool false] rfl (VRs.cons (Zaj hf h0) (VRs.cons (.bool false) (VRs.nil E))).2
def ZjK (y:Operand) (v:AV):Option Bool:=match y with
 | .const (.slice none 0 0)=>(match v with
  | .Y8=>some true
  | .sl _ (_ :: _) _=>some false
  | .sln _=>some false
  | _=>none)
 | _=>none
theorem ZjM {op:BinOp} {t yt:TypeId} {x y:Operand} {r:ZE} {e:TypeId} {b:Bool} (hT:TOK P T) (ho:o.op = .binOp op t x y yt) (h1:T t = some r) (h2:r.td = .slice e) (hq:ZjK y (ρ x) = some b) (hop:op = .eql ∨ op = .neq):Y2 P o ρ (.bool (if op = .eql then b else !b)):=fun E a h=>by
 have k1:=h x (by simp [ho,Op.operands])
 obtain ⟨d,inf,z,hf⟩:=Zl (hT t r h1)
 unfold ZjK at hq
 split at hq
 ·have k2:VR E .Y8 (a.eval (.const (.slice none 0 0))):=.Y8
  split at hq
  ·rename_i hx
   cases hq
   rw [hx] at k1
   obtain ⟨h3,h4⟩:=JF (P:=P) hf.und (h2 ▸ hf.fits) k1 k2 (.ss e) hop
   exact ⟨_,Yq ho rfl rfl h4 h3,.bool _⟩
  ·rename_i hx
   cases hq
   rw [hx] at k1
   obtain ⟨h3,h4⟩:=JF (P:=P) hf.und (h2 ▸ hf.fits) k1 k2 (.sn e _ _ _ _) hop
   exact ⟨_,Yq ho rfl rfl h4 h3,.bool _⟩
  ·rename_i hx
   cases hq
   rw [hx] at k1
   obtain ⟨h3,h4⟩:=JF (P:=P) hf.und (h2 ▸ hf.fits) k1 k2 (.sx e _) hop
   exact ⟨_,Yq ho rfl rfl h4 h3,.bool _⟩
  ·cases hq
 ·cases hq
end
end Go.Abs

/- Arrays, and slices made at once. No program. -/
namespace Go.Abs
section
variable {P:Program} {T:TT} {o:Oper} {ρ:Operand → AV}
theorem Zda {n:Nat} {e:TypeId} {d:TypeDesc} (h:(TD.array n e).fits d = true):d = .array n e:=by
 cases d <;> simp [TD.fits] at h
 obtain ⟨rfl,rfl⟩:=h; rfl
theorem Zeu {t:TypeId} {ps:Array (Nat × Operand)} {r re:ZE} {n:Nat} {e:TypeId} {out:List AV} (hT:TOK P T) (ho:o.op = .build t ps) (h1:T t = some r) (h2:r.td = .array n e) (h3:T e = some re)
  (hf:ZbD (fun i=>some (i * re.size,re.size)) r.zero (YN ρ ps.toList) = some out) (hone:∀ p ∈ YN ρ ps.toList,∀ c ∈ p.2.cells,c.one = true):Y2 P o ρ (.agg out):=fun E a h=>by
 obtain ⟨d,inf,z,hr⟩:=Zl (hT t r h1)
 obtain ⟨d',inf',z',hr'⟩:=Zl (hT e re h3)
 have hd:=Zda (h2 ▸ hr.fits)
 subst hd
 have hz:VRs E r.zero z.cells.toList:=X9 hr.zfits
 have hparts:∀ i (h:i < (YN ρ ps.toList).length) (h':i < (ps.toList.map fun p=>(p.1,a.eval p.2)).length),
   (YN ρ ps.toList)[i].1 = (ps.toList.map fun p=>(p.1,a.eval p.2))[i].1 ∧ VR E (YN ρ ps.toList)[i].2 (ps.toList.map fun p=>(p.1,a.eval p.2))[i].2 ∧ (∀ c ∈ (YN ρ ps.toList)[i].2.cells,c.one = true):=by
  intro i h1 h2
  refine ⟨by simp [YN],?_,fun c hc=>hone _ (List.getElem_mem h1) c hc⟩
  simp only [YN,List.getElem_map]
  have hi:i < ps.toList.length:=by simpa [YN] using h1
  exact h _ (by rw [ho]; simp only [Op.operands]; simp only [List.mem_toArray,List.mem_map]; exact ⟨ps.toList[i],by simp,rfl⟩)
 obtain ⟨us,hu1,hu2⟩:=Zdw hf hz (by simp [YN]) hparts
 refine ⟨.agg us,fun w=>?_,?_⟩
 ·have he:execOp a.eval o = (do let v ← Instr.build t (ps.map fun (i,x)=>(i,a.eval x)); pure (Next.value v)):=by simp only [execOp,ho]
  have hm:(ps.map fun (i,x)=>(i,a.eval x)).toList = ps.toList.map fun p=>(p.1,a.eval p.2):=by simp
  rw [he]
  have hu1':Instr.fill (fun i=>some (i * re.size,re.size)) z.cells (ps.toList.map fun p=>(p.1,a.eval p.2)) = some us:=hu1
  simp only [Instr.build,Sem.run_bind,Yo hr,Result.andThen_ok,run_underlying hr.und,ZT hr',hm,hu1']
  rfl
 ·have:us = us.toList.toArray:=by simp
  rw [this]
  exact .agg out us.toList hu2.1 hu2.2
theorem ZbW {t:TypeId} {x ix:Operand} {r re:ZE} {e:TypeId} {N l k off:Nat} {kk:IntKind} {i:Int} (hT:TOK P T) (ho:o.op = .indexAddr t x ix)
  (h1:T t = some r) (h2:r.td = .array N e) (h3:T e = some re) (hv:ρ x = .ptr l k off) (hi:ρ ix = .int kk i) (hlo:0 ≤ i) (hhi:i < N) :
  Y2 P o ρ (.ptr l k (off + i.toNat * re.size)):=fun E a h=>by
 have hx:=h x (by simp [ho,Op.operands])
 have hix:=h ix (by simp [ho,Op.operands])
 rw [hv] at hx
 rw [hi] at hix
 obtain ⟨d,inf,z,hf⟩:=Zl (hT t r h1)
 obtain ⟨d',i',z',hf'⟩:=Zl (hT e re h3)
 have hd:=Zda (h2 ▸ hf.fits)
 subst hd
 cases hyi:a.eval ix <;> rw [hyi] at hix <;> cases hix
 generalize hy:a.eval x = y at hx
 cases hx with
 | ptr _ _ _ b hm =>
  refine ⟨.pointer (some ⟨b,off + i.toNat * re.size,none⟩),fun w=>?_,.ptr l k _ b hm⟩
  simp [execOp,ho,hy,hyi,Instr.indexAt,asIntOf,run_underlying hf.und,hlo,hhi,ZT hf',Z9,Instr.sureAddr]
theorem ZbP {t:TypeId} {x ix:Operand} {r re:ZE} {e:TypeId} {N:Nat} {cs:List AV} {kk:IntKind} {i:Int} (hT:TOK P T) (ho:o.op = .indexAddr t x ix)
  (h1:T t = some r) (h2:r.td = .array N e) (h3:T e = some re) (hv:ρ x = .ZA cs) (hi:ρ ix = .int kk i) (hlo:0 ≤ i) (hhi:i < N) :
  Y2 P o ρ (.ZA (cs.drop (i.toNat * re.size))):=fun E a h=>by
 have hx:=h x (by simp [ho,Op.operands])
 have hix:=h ix (by simp [ho,Op.operands])
 rw [hv] at hx
 rw [hi] at hix
 obtain ⟨d,inf,z,hf⟩:=Zl (hT t r h1)
 obtain ⟨d',i',z',hf'⟩:=Zl (hT e re h3)
 have hd:=Zda (h2 ▸ hf.fits)
 subst hd
 cases hyi:a.eval ix <;> rw [hyi] at hix <;> cases hix
 generalize hy:a.eval x = y at hx
 cases hx with
 | ZA _ b off c hc hv' =>
  refine ⟨.pointer (some ⟨b,off + i.toNat * re.size,none⟩),fun w=>?_,?_⟩
  ·simp [execOp,ho,hy,hyi,Instr.indexAt,asIntOf,run_underlying hf.und,hlo,hhi,ZT hf',Z9,Instr.sureAddr]
  ·refine .ZA _ b _ (fun j=>c (i.toNat * re.size + j)) (fun j hj=>?_) (fun j hj=>?_)
   ·simp only [List.length_drop] at hj
    have:=hc (i.toNat * re.size + j) (by omega)
    rw [Nat.add_assoc]; exact this
   ·simp only [List.length_drop] at hj
    have:=hv' (i.toNat * re.size + j) (by omega)
    simpa [List.getElem_drop] using this
end
end Go.Abs

/- A slice of one byte as a string. No program, no condition. -/
namespace Go.Abs
section ops
variable {P:Program} {T:TT} {o:Oper} {ρ:Operand → AV}
theorem Zah {m:Nat} {H:Zf} {E:Env} {w:World} (hr:ZJ m H E w) {k:Nat} {ys:List AV} {ow:Own} {yv:Value} (hy:VR E (.sl k ys ow) yv) (hne:ys ≠ []) (hone:∀ y ∈ ys,∀ c ∈ y.cells,c.one = true) :
  ∃ b off cap cs,yv = .slice (some ⟨b,off,none⟩) ys.length cap ∧ (∀ y ∈ ys,y.cells.length = k) ∧ VRs E (flat ys) cs ∧ cs.length = ys.length * k ∧ (∀ j v,cs[j]? = some v → w.cell? ⟨b,off + j,none⟩ = some v) ∧ (∀ u ∈ cs,u.oneCell' = true):=by
 rcases hy.WV with ⟨_,e2,_⟩ | ⟨b2,off2,cap2,cs2,e2,hky,hvy,hFy,_,_,_⟩
 ·exact absurd e2 hne
 refine ⟨b2,off2,cap2,cs2,e2,hky,hvy,by rw [hvy.1,flat_length hky],fun j v hj=>hr.F _ _ _ (hFy j v hj),fun u hu=>?_⟩
 obtain ⟨i,hi,rfl⟩:=List.getElem_of_mem hu
 have hi':i < (flat ys).length:=by rw [← hvy.1]; exact hi
 refine (hvy.2 i hi' hi).one ?_
 have hmem:(flat ys)[i] ∈ flat ys:=List.getElem_mem hi'
 simp only [flat,List.mem_flatMap] at hmem
 obtain ⟨y',hy',hc'⟩:=hmem
 exact hone y' hy' _ hc'
theorem Zcy {m:Nat} {H:Zf} {src dst e:TypeId} {x:Operand} {rs rd re:ZE} {b:Int} {ow:Own} (hT:TOK P T) (ho:o.op = .convert src dst x) (h1:T src = some rs) (h2:rs.td = .slice e) (h3:T e = some re) (h4:re.td = .int .u8)
  (h5:T dst = some rd) (h6:rd.td = .str) (hx:ρ x = .sl 1 [.int .u8 b] ow):Xe P m o ρ H (.str [UInt8.ofNat b.toNat]) H:=fun E w a hr hops=>by
 have hxv:=hops x (by simp [ho,Op.operands])
 rw [hx] at hxv
 obtain ⟨d,i,z,hf⟩:=Zl (hT src rs h1)
 obtain ⟨d',i',z',hf'⟩:=Zl (hT e re h3)
 obtain ⟨d2,i2,z2,hf2⟩:=Zl (hT dst rd h5)
 have hd:=Yp (h2 ▸ hf.fits)
 subst hd
 have hd':=J6 (h4 ▸ hf'.fits)
 subst hd'
 have hd2:=WW (h6 ▸ hf2.fits)
 subst hd2
 obtain ⟨b2,off2,cap2,cs2,e2,hky,hvy,hl2,hn2,hone⟩:=Zah hr hxv (by simp) (fun y hy c hc=>by simp only [List.mem_singleton] at hy; subst hy; simp only [AV.cells,List.mem_singleton] at hc; subst hc; rfl)
 have hcs:cs2 = [.int .u8 b]:=by
  have hfl:flat [AV.int .u8 b] = [.int .u8 b]:=rfl
  rw [hfl] at hvy
  obtain ⟨v,r,rfl,hv,hn⟩:=hvy.YR
  cases hv
  rw [hn.of_nil]
 subst hcs
 have hld:(loadCells (⟨b2,off2,none⟩:Addr) 1).run P w = .ok ([b].map (Value.int .u8)).toArray w:=by
  have:=run_firstCells_some (P:=P) w 1 1 ⟨b2,off2,none⟩ 1 cap2 [.int .u8 b] (by simp) (fun j v hj=>by rw [Z9]; exact hn2 j v hj)
  simpa [Builtin.firstCells] using this
 refine ⟨.string ⟨#[UInt8.ofNat b.toNat]⟩,E,w,.inl ?_,.str _,hr,.refl m E w⟩
 have hc:=(run_convert_bytes_string (P:=P) w src dst e (some ⟨b2,off2,none⟩) 1 cap2 hf.und hf'.und hf2.und).trans (run_bytesToString w ⟨b2,off2,none⟩ 1 cap2 [b] hld)
 simp only [execOp,ho,e2,List.length_singleton,Sem.run_bind]
 rw [hc]
 rfl
end ops
end Go.Abs

/- Goals out of code: what must hold for a region's operations, one behind the other. No program, no condition. -/
namespace Go.Abs
structure Cx where
 P:Program
 T:TT
 φ:Fm
 n:Nat
 N:Nat
def ones (v:AV):Bool:=v.cells.all AV.one
def Zh.put (s:Zh) (d:Option Nat) (v:AV):Zh:=⟨YP s.tmps d v,s.L,s.H⟩
def setb:List (Nat × Zk) → Nat → Zk → List (Nat × Zk)
 | [],k,b=>[(k,b)]
 | (i,v) :: r,k,b=>if i = k then (k,b) :: r else (i,v) :: setb r k b
theorem lkb_setb:∀ (L:List (Nat × Zk)) (k:Nat) (b:Zk) (t:Nat),lkb (setb L k b) t = if t = k then some b else lkb L t
 | [],k,b,t=>by
  simp only [setb,lkb]
  by_cases h:k = t
  ·subst h; simp
  ·rw [if_neg h,if_neg (fun e=>h e.symm)]
 | (i,v) :: r,k,b,t=>by
  simp only [setb]
  by_cases hi:i = k
  ·subst hi
   simp only [if_true,lkb]
   by_cases h:i = t
   ·subst h; simp
   ·simp [h,Ne.symm h]
  ·simp only [if_neg hi,lkb,lkb_setb r k b t]
   by_cases h:i = t
   ·subst h; simp [hi]
   ·simp [h]
theorem setb_setb:∀ (L:List (Nat × Zk)) (k:Nat) (b b':Zk),setb (setb L k b) k b' = setb L k b'
 | [],k,b,b'=>by simp [setb]
 | (i,v) :: r,k,b,b'=>by
  simp only [setb]
  split
  ·simp [setb]
  ·rename_i h; simp only [setb,if_neg h,setb_setb r k b b']
theorem ZU (n:Nat) (L:List (Nat × Zk)) (H:Zf) (k:Nat) (b:Zk):full n (setb L k b) H = (full n L H).upd n k b:=by
 funext l j
 simp only [full,Zf.upd,lkb_setb]
 by_cases h:l = n
 ·subst h; simp
 ·simp [h]
theorem XI (n:Nat) (L:List (Nat × Zk)) (H:Zf) (l k:Nat) (b:Zk) (h:l ≠ n):full n L (H.upd l k b) = (full n L H).upd l k b:=by
 funext l' j
 simp only [full,Zf.upd]
 by_cases h1:l' = n
 ·subst h1
  have:¬(l' = l ∧ j = k):=fun c=>h c.1.symm
  simp [this]
 ·simp [h1]
def Zv (T:TT) (t:TypeId) (f:Nat):Option (Nat × ZE) :=
 match T t with
 | some r=>match r.td with
  | .struct fs=>match fs[f]? with
   | some (fo,ft)=>(T ft).map fun rf=>(fo,rf)
   | none=>none
  | _=>none
 | none=>none
theorem ZbO {T:TT} {t f:Nat} {fo:Nat} {rf:ZE} (h:Zv T t f = some (fo,rf)):∃ r fs ft,T t = some r ∧ r.td = .struct fs ∧ fs[f]? = some (fo,ft) ∧ T ft = some rf:=by
 unfold Zv at h
 split at h
 ·rename_i r hr
  split at h
  ·rename_i fs hfs
   split at h
   ·rename_i fo' ft hf
    simp only [Option.map_eq_some_iff] at h
    obtain ⟨rf',h1,h2⟩:=h
    cases h2
    exact ⟨r,fs,ft,hr,hfs,hf,h1⟩
   ·cases h
  ·cases h
 ·cases h
def sliceOf (T:TT) (t:TypeId):Option (TypeId × ZE) :=
 match T t with
 | some r=>match r.td with
  | .slice e=>(T e).map fun re=>(e,re)
  | _=>none
 | none=>none
theorem YF {T:TT} {t e:Nat} {re:ZE} (h:sliceOf T t = some (e,re)):∃ r,T t = some r ∧ r.td = .slice e ∧ T e = some re:=by
 unfold sliceOf at h
 split at h
 ·rename_i r hr
  split at h
  ·rename_i e' he
   simp only [Option.map_eq_some_iff] at h
   obtain ⟨re',h1,h2⟩:=h
   cases h2
   exact ⟨r,hr,he,h1⟩
  ·cases h
 ·cases h
def Zff (T:TT) (t:TypeId):Option (Nat × ZE) :=
 match T t with
 | some r=>match r.td with
  | .array n e=>(T e).map fun re=>(n,re)
  | _=>none
 | none=>none
theorem Zdv {T:TT} {t n:Nat} {re:ZE} (h:Zff T t = some (n,re)):∃ r e,T t = some r ∧ r.td = .array n e ∧ T e = some re:=by
 unfold Zff at h
 split at h
 ·rename_i r hr
  split at h
  ·rename_i n' e he
   simp only [Option.map_eq_some_iff] at h
   obtain ⟨re',h1,h2⟩:=h
   cases h2
   exact ⟨r,e,hr,he,h1⟩
  ·cases h
 ·cases h
def Z7 (T:TT) (t:TypeId):Option TD:=(T t).map (·.td)
theorem YA {T:TT} {t:Nat} {d:TD} (h:Z7 T t = some d):∃ r,T t = some r ∧ r.td = d:=by
 simp only [Z7,Option.map_eq_some_iff] at h; exact h
def ldA (r:ZE) (cs:List AV):AV:=if r.isAgg then .agg (cs.take r.size) else cs.getD 0 .dead
def isEq:BinOp → Bool
 | .eql=>true
 | .neq=>true
 | _=>false
def eqB:BinOp → Bool → Bool
 | .eql,b=>b
 | _,b=>!b
theorem Zap {op:BinOp} (h:isEq op = true):op = .eql ∨ op = .neq:=by
 cases op <;> first | exact .inl rfl | exact .inr rfl | cases h
theorem Zc0 {op:BinOp} (b:Bool) (h:isEq op = true):eqB op b = if op = .eql then b else !b:=by
 cases op <;> first | rfl | cases h
def ZjF (b:Builtin) (x y:Int):Option Int :=
 match b with
 | .max=>some (if y > x then y else x)
 | .min=>some (if y < x then y else x)
 | _=>none
theorem Zl4 {P:Program} {o:Oper} {ρ:Operand → AV} {b:Builtin} {x y:Operand} {ts:Array TypeId} {k k':IntKind} {m n v:Int} (ho:o.op = .call { callee:=.builtin b,args:=#[x,y],argTypes:=ts })
  (hx:ρ x = .int k m) (hy:ρ y = .int k' n) (hv:ZjF b m n = some v):Y2 P o ρ (.int k v):=fun E a h=>by
 have h1:=h x (by simp [ho,Op.operands,Call.operands])
 have h2:=h y (by simp [ho,Op.operands,Call.operands])
 rw [hx] at h1
 rw [hy] at h2
 cases ha:a.eval x <;> rw [ha] at h1 <;> cases h1
 cases hb:a.eval y <;> rw [hb] at h2 <;> cases h2
 refine ⟨.int k v,fun w=>?_,.int _ _⟩
 cases b <;> simp only [ZjF,Option.some.injEq,reduceCtorEq] at hv <;> subst hv
 ·simp [execOp,ho,ha,hb,resolve,invoke,builtin,Builtin.max_,Builtin.max2]
 ·simp [execOp,ho,ha,hb,resolve,invoke,builtin,Builtin.min_,Builtin.min2]
def evP (T:TT) (o:Op) (ty:TypeId) (ρ:Operand → AV):Prop × AV :=
 match o with
 | .move x=>(True,mv T ty x (ρ x))
 | .assign x=>(True,mv T ty x (ρ x))
 | .pick c x y=>match ρ c with
  | .bool true=>(True,mv T ty x (ρ x))
  | .bool false=>(True,mv T ty y (ρ y))
  | _=>(False,.dead)
 | .nilCheck x=>match ρ x with
  | .ptr l k off=>(True,.ptr l k off)
  | .ZA cs=>(True,.ZA cs)
  | .eptr l k n off=>(True,.eptr l k n off)
  | .fn (.func f) c=>(True,.fn (.func f) c)
  | .fn (.yield f) c=>(True,.fn (.yield f) c)
  | _=>(False,.dead)
 | .fieldAddr t x f=>match Zv T t f with
  | some (fo,rf)=>match ρ x with
   | .ptr l k off=>(rf.size ≠ 0,.ptr l k (off + fo))
   | .ZA cs=>(rf.size ≠ 0,.ZA (cs.drop fo))
   | .eptr l k n off=>(rf.size ≠ 0,.eptr l k n (off + fo))
   | _=>(False,.dead)
  | none=>(False,.dead)
 | .indexAddr t x ix=>match sliceOf T t with
  | some (_,re)=>match ρ x,ρ ix with
   | .sl k xs _,.int _ i=>(k = re.size ∧ 0 ≤ i ∧ i < xs.length,.ZA (xs.getD i.toNat .dead).cells)
   | .msl _ l k n,.int _ i=>(0 ≤ i ∧ i < n,.eptr l k n (i.toNat * re.size))
   | _,_=>(False,.dead)
  | none=>match Zff T t with
   | some (N,re)=>match ρ x,ρ ix with
    | .ptr l k off,.int _ i=>(0 ≤ i ∧ i < N,.ptr l k (off + i.toNat * re.size))
    | .ZA cs,.int _ i=>(0 ≤ i ∧ i < N,.ZA (cs.drop (i.toNat * re.size)))
    | _,_=>(False,.dead)
   | none=>(False,.dead)
 | .field t x f=>match Zv T t f with
  | some (fo,rf)=>match ρ x with
   | .agg cs=>(rf.isAgg = false → fo < cs.length,if rf.isAgg then .agg ((cs.drop fo).take rf.size) else cs.getD fo .dead)
   | _=>(False,.dead)
  | none=>(False,.dead)
 | .extract x i=>match ρ x with
  | .tup vs=>(i < vs.length,vs.getD i .dead)
  | _=>(False,.dead)
 | .build t ps=>match T t with
  | some r=>match r.td with
   | .struct fs=>match ZbD (fun i=>(Vt T fs)[i]?.join) r.zero (YN ρ ps.toList) with
    | some out=>((∀ f ∈ fs,T f.2 ≠ none) ∧ (∀ p ∈ YN ρ ps.toList,ones p.2 = true),.agg out)
    | none=>(False,.dead)
   | _=>match Zff T t with
    | some (_,re)=>match ZbD (fun i=>some (i * re.size,re.size)) r.zero (YN ρ ps.toList) with
     | some out=>((∀ p ∈ YN ρ ps.toList,ones p.2 = true),.agg out)
     | none=>(False,.dead)
    | none=>(False,.dead)
  | none=>(False,.dead)
 | .makeFunc f fs cs=>match fs.toList with
  | []=>(True,.fn f (cs.toList.map ρ))
  | x :: r=>(cs = #[],.bfn f ((x :: r).map ρ))
 | .unOp op _ x=>match op,ρ x with
  | .not,.bool b=>(True,.bool (!b))
  | .neg,.int k n=>(True,.int k (k.wrap (0 - n)))
  | _,_=>(False,.dead)
 | .convert s d x=>match Z7 T s,Z7 T d,ρ x with
  | some (.int _),some (.int k),.int _ n=>(True,.int k (k.wrap n))
  | some .str,some .str,.str s=>(True,.str s)
  | some (.slice e),some .str,.sl 1 [.int .u8 b] _=>(Z7 T e = some (.int .u8),.str [UInt8.ofNat b.toNat])
  | _,_,_=>(False,.dead)
 | .makeInterface t x=>match Z7 T t with
  | some .iface=>(False,.dead)
  | some _=>(True,.ifc t (ρ x))
  | none=>(False,.dead)
 | .typeAssert x _ t ok=>match T t,ρ x with
  | some r,.ifc t' v=>if t' = t then (r.td ≠ .iface,if ok then .tup [v,.bool true] else v) else (ok = true ∧ r.td ≠ .iface ∧ (r.isAgg = false → r.size = 1),.tup [WB r,.bool false])
  | some r,.nili=>(ok = true ∧ r.td ≠ .iface ∧ (r.isAgg = false → r.size = 1),.tup [WB r,.bool false])
  | _,_=>(False,.dead)
 | .binOp op t x y _=>match ZjK y (ρ x) with
  | some b=>((∃ e,Z7 T t = some (.slice e)) ∧ isEq op = true,.bool (eqB op b))
  | none=>match ρ x,ρ y with
  | .int k a,.int k' b=>match op with
   | .quo=>(k = k' ∧ b ≠ 0,.int k (k.wrap (a.tdiv b)))
   | .rem=>(k = k' ∧ b ≠ 0,.int k (a.tmod b))
   | op=>match Zg5 op k a b with
    | some v=>(k = k',v)
    | none=>(False,.dead)
  | .str a,.str b=>match op with
   | .add=>(a.length + b.length ≤ 9223372036854775807,.str (a ++ b))
   | op=>match Zg7 op a b with
    | some v=>(True,v)
    | none=>(False,.dead)
  | .bool a,.bool b=>(Z7 T t = some .bool ∧ isEq op = true,.bool (if op = .eql then a == b else !(a == b)))
  | .nilp,.nilp=>(Z7 T t = some .ptr ∧ isEq op = true,.bool (eqB op true))
  | .ptr _ _ _,.nilp=>(Z7 T t = some .ptr ∧ isEq op = true,.bool (eqB op false))
  | .ZA _,.nilp=>(Z7 T t = some .ptr ∧ isEq op = true,.bool (eqB op false))
  | .nilf,.nilf=>(Z7 T t = some .func ∧ isEq op = true,.bool (eqB op true))
  | .fn _ _,.nilf=>(Z7 T t = some .func ∧ isEq op = true,.bool (eqB op false))
  | .nilm,.nilm=>((∃ k e,Z7 T t = some (.map k e)) ∧ isEq op = true,.bool (eqB op true))
  | .map _ _,.nilm=>((∃ k e,Z7 T t = some (.map k e)) ∧ isEq op = true,.bool (eqB op false))
  | .agg as,.agg bs=>match T t,klAll as,klAll bs with
   | some r,some la,some lb=>(r.isAgg = true ∧ Z4 T 100 t la = true ∧ Z4 T 100 t lb = true ∧ isEq op = true,.bool (eqB op (la == lb)))
   | _,_,_=>(False,.dead)
  | _,_=>(False,.dead)
 | .lookup t x y ok=>match mapOf T t,ρ x with
  | some (kt,_,re),.nilm=>((re.isAgg = false → re.size = 1) ∧ Yv T kt (ρ y) = true,lookA re (ρ y) [] ok)
  | _,_=>(False,.dead)
 | .index t x ix=>match Z7 T t,ρ x,ρ ix with
  | some .str,.str s,.int _ i=>(0 ≤ i ∧ i < s.length,.int .u8 (s.getD i.toNat 0).toNat)
  | _,_,_=>(False,.dead)
 | .slice t x lo hi mx=>match mx,ρ x with
  | none,.str s=>match bnd ρ lo 0,bnd ρ hi s.length with
   | some l,some h=>(Z7 T t = some .str ∧ 0 ≤ l ∧ l ≤ h ∧ h ≤ s.length,.str ((s.take h.toNat).drop l.toNat))
   | _,_=>(False,.dead)
  | none,.sl k xs _=>match sliceOf T t,bnd ρ lo 0,bnd ρ hi xs.length with
   | some (_,re),some l,some h=>(k = re.size ∧ 0 ≤ l ∧ l ≤ h ∧ h ≤ xs.length,.sl k ((xs.take h.toNat).drop l.toNat) .any)
   | _,_,_=>(False,.dead)
  | _,_=>(False,.dead)
 | .buildSlice t n ps=>match sliceOf T t with
  | some (_,re)=>(inOrder 0 ps.toList = true ∧ n = ps.size ∧ 0 < re.size ∧ n * re.size ≤ 2 ^ 24 ∧ (∀ x ∈ ps.toList.map (fun p=>ρ p.2),x.cells.length = re.size ∧ ones x = true),.sl re.size (ps.toList.map fun p=>ρ p.2) .full)
  | none=>(False,.dead)
 | .call c=>match c.callee,c.args.toList,c.argTypes.toList with
  | .builtin .len,[x],[t]=>match ρ x with
   | .sl _ xs _=>(∃ q,sliceOf T t = some q,.int .i64 xs.length)
   | .msl _ _ _ n=>(∃ q,sliceOf T t = some q,.int .i64 n)
   | .str s=>(Z7 T t = some .str,.int .i64 s.length)
   | _=>(False,.dead)
  | .builtin .append,[x,y],[t,t']=>match sliceOf T t,mv T t x (ρ x),mv T t y (ρ y) with
   | some (_,re),.sl k xs .full,.sl k' ys _=>(t' = t ∧ 0 < re.size ∧ (xs = [] ∨ k = re.size) ∧ (ys = [] ∨ k' = re.size) ∧ xs.length + ys.length ≤ maxLen ∧ (xs.length + ys.length) * re.bytes ≤ 140737488355328,.sl re.size (xs ++ ys) .any)
   | _,_,_=>(False,.dead)
  | .builtin b,[x,y],_=>match ρ x,ρ y with
   | .int k m,.int _ n=>match ZjF b m n with
    | some v=>(True,.int k v)
    | none=>(False,.dead)
   | _,_=>(False,.dead)
  | _,_,_=>(False,.dead)
 | _=>(False,.dead)
theorem Xn {v:AV} (h:ones v = true):∀ c ∈ v.cells,c.one = true:=by
 simpa [ones,List.all_eq_true] using h
def Zlg (P:Program) (o:Oper) (ρ:Operand → AV) (v:AV):Prop:=∀ m G,Wi P m o ρ G v G
theorem Y2.YW {P:Program} {o:Oper} {ρ:Operand → AV} {v:AV} (h:Y2 P o ρ v):Zlg P o ρ v:=fun m G=>(h.run m G).sem
theorem Za8 {P:Program} {T:TT} {o:Oper} {ρ:Operand → AV} {op:BinOp} {t yt:TypeId} {x y:Operand} {u v:AV} {b:Bool} {d:TD} (hT:TOK P T) (ho:o.op = .binOp op t x y yt) (hx:ρ x = u) (hy:ρ y = v)
  (h1:Z7 T t = some d ∧ isEq op = true) (hk:NilK d u v b):Zlg P o ρ (.bool (eqB op b)):=by
 obtain ⟨r,b1,b2⟩:=YA h1.1
 subst b2
 rw [Zc0 b h1.2]
 exact (Zh3 hT ho b1 hx hy hk (Zap h1.2)).YW
theorem VX {P:Program} {T:TT} {o:Oper} {ρ:Operand → AV} {m:Nat} {H H':Zf} {v:AV} (t:TypeId) (h:Xe P m o (fun z=>mv T t z (ρ z)) H v H'):Xe P m o ρ H v H' :=
 fun E w a hr hops=>h E w a hr (fun z hz=>Zd0 (hops z hz))
theorem Zh5 {P:Program} {T:TT} (hT:TOK P T) {o:Oper} {ρ:Operand → AV}:∀ p,evP T o.op o.type ρ = p → p.1 → Zlg P o ρ p.2:=by
 intro p hp h
 unfold evP at hp
 split at hp
 ·rename_i x ho; subst hp; exact (ZjN ho).YW
 ·rename_i x ho; subst hp; exact (ZhY ho).YW
 ·rename_i c x y ho
  split at hp
  ·rename_i hc; subst hp; exact (Zha (t:=true) ho hc).YW
  ·rename_i hc; subst hp; exact (Zha (t:=false) ho hc).YW
  ·subst hp; exact h.elim
 ·rename_i x ho
  split at hp
  ·rename_i hx; subst hp; exact (Va ho hx rfl).YW
  ·rename_i hx; subst hp; exact (Va ho hx rfl).YW
  ·rename_i hx; subst hp; exact (Va ho hx rfl).YW
  ·rename_i hx; subst hp; exact (Va ho hx rfl).YW
  ·rename_i hx; subst hp; exact (Va ho hx rfl).YW
  ·subst hp; exact h.elim
 ·rename_i t x f ho
  split at hp
  ·rename_i fo rf hfd
   obtain ⟨r,fs,ft,h1,h2,h3,h4⟩:=ZbO hfd
   split at hp
   ·rename_i hx; subst hp; exact (Zcb hT ho h1 h2 h3 h4 h hx).YW
   ·rename_i hx; subst hp; exact (Zbi hT ho h1 h2 h3 h4 h hx).YW
   ·rename_i hx; subst hp; exact (ZbL hT ho h1 h2 h3 h4 h hx).YW
   ·subst hp; exact h.elim
  ·subst hp; exact h.elim
 ·rename_i t x ix ho
  split at hp
  ·rename_i e re hs
   obtain ⟨r,h1,h2,h3⟩:=YF hs
   split at hp
   ·rename_i hx hi; subst hp
    obtain ⟨a1,a2,a3⟩:=h
    exact (Zcv hT ho h1 h2 h3 a1 hx hi a2 a3).YW
   ·rename_i hx hi; subst hp
    obtain ⟨a2,a3⟩:=h
    exact (ZbT hT ho h1 h2 h3 hx hi a2 a3).YW
   ·subst hp; exact h.elim
  ·split at hp
   ·rename_i N re hs
    obtain ⟨r,e,h1,h2,h3⟩:=Zdv hs
    split at hp
    ·rename_i hx hi; subst hp
     exact (ZbW hT ho h1 h2 h3 hx hi h.1 h.2).YW
    ·rename_i hx hi; subst hp
     exact (ZbP hT ho h1 h2 h3 hx hi h.1 h.2).YW
    ·subst hp; exact h.elim
   ·subst hp; exact h.elim
 ·rename_i t x f ho
  split at hp
  ·rename_i fo rf hfd
   obtain ⟨r,fs,ft,h1,h2,h3,h4⟩:=ZbO hfd
   split at hp
   ·rename_i hx; subst hp; exact (Zjc hT ho h1 h2 h3 h4 hx h).YW
   ·subst hp; exact h.elim
  ·subst hp; exact h.elim
 ·rename_i x i ho
  split at hp
  ·rename_i hx; subst hp; exact (Zgy ho hx h).YW
  ·subst hp; exact h.elim
 ·rename_i t ps ho
  split at hp
  ·rename_i r hr
   split at hp
   ·rename_i fs hfs
    split at hp
    ·rename_i out hout; subst hp
     obtain ⟨a1,a2⟩:=h
     exact (ZiV hT ho hr hfs a1 hout (fun p hp=>Xn (a2 p hp))).YW
    ·subst hp; exact h.elim
   ·split at hp
    ·rename_i N re hs
     obtain ⟨r',e,h1,h2,h3⟩:=Zdv hs
     split at hp
     ·rename_i out hout; subst hp
      rw [hr] at h1; cases h1
      exact (Zeu hT ho hr h2 h3 hout (fun p hp=>Xn (h p hp))).YW
     ·subst hp; exact h.elim
    ·subst hp; exact h.elim
  ·subst hp; exact h.elim
 ·rename_i f fs cs ho
  split at hp
  ·rename_i hfs; subst hp
   have e:fs = #[]:=by
    apply Array.toList_inj.1; rw [hfs]
   subst e
   exact (ZfK ho).YW
  ·rename_i x r hfs; subst hp
   have h:cs = #[]:=h
   subst h
   simp only
   rw [← hfs]
   exact (ZeS ho).YW
 ·rename_i op t x ho
  split at hp
  ·rename_i hx; subst hp; exact (Zlp ho hx).YW
  ·rename_i hx; subst hp; exact (ZkW ho hx).YW
  ·subst hp; exact h.elim
 ·rename_i s d x ho
  split at hp
  ·rename_i h1 h2 hx; subst hp
   obtain ⟨rs,b1,b2⟩:=YA h1
   obtain ⟨rd,c1,c2⟩:=YA h2
   exact (Zdk hT ho b1 b2 c1 c2 hx).YW
  ·rename_i h1 h2 hx; subst hp
   obtain ⟨rs,b1,b2⟩:=YA h1
   obtain ⟨rd,c1,c2⟩:=YA h2
   exact (ZcQ hT ho b1 b2 c1 c2 hx).YW
  ·rename_i h1 h2 hx; subst hp
   obtain ⟨rs,b1,b2⟩:=YA h1
   obtain ⟨rd,c1,c2⟩:=YA h2
   obtain ⟨re,d1,d2⟩:=YA h
   exact fun m G=>(Zcy hT ho b1 b2 d1 d2 c1 c2 hx).sem
  ·subst hp; exact h.elim
 ·rename_i t x ho
  split at hp
  ·subst hp; exact h.elim
  ·rename_i d hd hne; subst hp
   obtain ⟨r,b1,b2⟩:=YA hne
   exact (ZeB hT ho b1 (fun e=>hd (b2 ▸ e ▸ rfl))).YW
  ·subst hp; exact h.elim
 ·rename_i x xt t ok ho
  split at hp
  ·rename_i r t' v hr hx
   split at hp
   ·rename_i e; subst hp; subst e
    cases ok with
    | true=>exact (ZdN hT ho hr h hx).YW
    | false=>exact (Zcx hT ho hr h hx).YW
   ·rename_i e; subst hp
    obtain ⟨rfl,c1,c2⟩:=h
    exact (ZeZ hT ho hr c1 e c2 hx).YW
  ·rename_i r hr hx; subst hp
   obtain ⟨rfl,c1,c2⟩:=h
   exact (ZdM hT ho hr c1 c2 hx).YW
  ·subst hp; exact h.elim
 ·rename_i op t x y yt ho
  split at hp
  ·rename_i b hq; subst hp
   obtain ⟨⟨e,h1⟩,h2⟩:=h
   obtain ⟨r,b1,b2⟩:=YA h1
   simp only
   rw [Zc0 b h2]
   exact (ZjM hT ho b1 b2 hq (Zap h2)).YW
  split at hp
  ·rename_i hx hy
   split at hp
   ·subst hp; obtain ⟨rfl,h⟩:=h; exact (Zlk ho hx hy rfl h).YW
   ·subst hp; obtain ⟨rfl,h⟩:=h; exact (Zk5 ho hx hy rfl h).YW
   ·split at hp
    ·rename_i v hv; subst hp
     have h:_ = _:=h
     subst h; exact (ZgQ ho hx hy hv).YW
    ·subst hp; exact h.elim
  ·rename_i hx hy
   split at hp
   ·subst hp; exact (Zh6 ho hx hy rfl h).YW
   ·split at hp
    ·rename_i v hv; subst hp; exact (Zgs ho hx hy hv).YW
    ·subst hp; exact h.elim
  ·rename_i hx hy; subst hp
   obtain ⟨h1,h2⟩:=h
   obtain ⟨r,b1,b2⟩:=YA h1
   exact (ZfE hT ho b1 b2 hx hy (Zap h2)).YW
  ·rename_i hx hy; subst hp; exact Za8 hT ho hx hy h .pp
  ·rename_i hx hy; subst hp; exact Za8 hT ho hx hy h (.pq _ _ _)
  ·rename_i hx hy; subst hp; exact Za8 hT ho hx hy h (.pi _)
  ·rename_i hx hy; subst hp; exact Za8 hT ho hx hy h .ff
  ·rename_i hx hy; subst hp; exact Za8 hT ho hx hy h (.fg _ _)
  ·rename_i hx hy; subst hp; obtain ⟨⟨k,e,h1⟩,h2⟩:=h; exact Za8 hT ho hx hy ⟨h1,h2⟩ (.mm _ _)
  ·rename_i hx hy; subst hp; obtain ⟨⟨k,e,h1⟩,h2⟩:=h; exact Za8 hT ho hx hy ⟨h1,h2⟩ (.mn _ _ _ _)
  ·rename_i hx hy
   split at hp
   ·rename_i r la lb h1 h2 h3; subst hp
    obtain ⟨c1,c2,c3,c4⟩:=h
    simp only
    rw [Zc0 _ c4]
    exact (ZhT hT ho h1 c1 hx hy h2 h3 c2 c3 (Zap c4)).YW
   ·subst hp; exact h.elim
  ·subst hp; exact h.elim
 ·rename_i t x y ok ho
  split at hp
  ·rename_i kt e re hm hx; subst hp
   exact (ZaR hT ho hm h.1 hx rfl h.2).YW
  ·subst hp; exact h.elim
 ·rename_i t x ix ho
  split at hp
  ·rename_i h1 hx hi; subst hp
   obtain ⟨r,b1,b2⟩:=YA h1
   exact (Zet hT ho b1 b2 hx hi h.1 h.2).YW
  ·subst hp; exact h.elim
 ·rename_i t x lo hi mx ho
  split at hp
  ·rename_i hx
   split at hp
   ·rename_i l h' hl hh; subst hp
    obtain ⟨h1,c1,c2,c3⟩:=h
    obtain ⟨r,b1,b2⟩:=YA h1
    exact (Zes hT ho b1 b2 hx hl hh c1 c2 c3).YW
   ·subst hp; exact h.elim
  ·rename_i hx
   split at hp
   ·rename_i e re l h' hs hl hh; subst hp
    obtain ⟨r,b1,b2,b3⟩:=YF hs
    obtain ⟨c0,c1,c2,c3⟩:=h
    exact (Zfw hT ho b1 b2 b3 c0 hx hl hh c1 c2 c3).YW
   ·subst hp; exact h.elim
  ·subst hp; exact h.elim
 ·rename_i t n ps ho
  split at hp
  ·rename_i e re hs; subst hp
   obtain ⟨r,b1,b2,b3⟩:=YF hs
   obtain ⟨c1,c2,c3,c4,c5⟩:=h
   exact fun m G=>(ZdF hT ho b1 b2 b3 c1 c2 c3 c4 (fun x hx=>⟨(c5 x hx).1,Xn (c5 x hx).2⟩)).sem
  ·subst hp; exact h.elim
 ·rename_i c ho
  obtain ⟨cal,args,ts⟩:=c
  simp only at hp
  split at hp
  ·rename_i ha ht
   obtain ⟨args⟩:=args
   obtain ⟨ts⟩:=ts
   simp only at ha ht
   subst ha ht
   split at hp
   ·rename_i hx; subst hp
    obtain ⟨q,hq⟩:=h
    obtain ⟨r,b1,b2,b3⟩:=YF hq
    exact (Zhz hT ho b1 b2 hx).YW
   ·rename_i hx; subst hp
    obtain ⟨q,hq⟩:=h
    obtain ⟨r,b1,b2,b3⟩:=YF hq
    exact (ZgM hT ho b1 b2 hx).YW
   ·rename_i hx; subst hp
    obtain ⟨r,b1,b2⟩:=YA h
    exact (ZgG hT ho b1 b2 hx).YW
   ·subst hp; exact h.elim
  ·rename_i ha ht
   obtain ⟨args⟩:=args
   obtain ⟨ts⟩:=ts
   simp only at ha ht
   subst ha ht
   split at hp
   ·rename_i e re k xs k' ys ow hs hx hy; subst hp
    obtain ⟨r,b1,b2,b3⟩:=YF hs
    obtain ⟨c0,c1,c2,c3,c4,c5⟩:=h
    subst c0
    exact fun m G=>(VX (T:=T) _ (or_append hT ho b1 b2 b3 c1 hx hy c2 c3 c4 c5)).sem
   ·subst hp; exact h.elim
  ·rename_i ha _
   obtain ⟨args⟩:=args
   simp only at ha
   subst ha
   split at hp
   ·rename_i hx hy
    split at hp
    ·rename_i v hv; subst hp; exact (Zl4 ho hx hy hv).YW
    ·subst hp; exact h.elim
   ·subst hp; exact h.elim
  ·subst hp; exact h.elim
 ·subst hp; exact h.elim
end Go.Abs
