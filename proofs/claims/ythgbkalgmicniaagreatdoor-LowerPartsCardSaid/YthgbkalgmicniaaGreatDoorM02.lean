/- What the rules ask of the program's table of types: a small table of one's own, held against it. -/
import Derived.Test.YthgbkalgmicniaaGreatDoorM01
set_option linter.all false
namespace Go.Abs
inductive TD where
 | int (k:IntKind)
 | bool
 | str
 | ptr
 | slice (e:TypeId)
 | array (n:Nat) (e:TypeId)
 | map (k e:TypeId)
 | struct (fs:List (Nat × TypeId))
 | func
 | tuple
 | iface
 deriving DecidableEq
def TD.fits:TD → TypeDesc → Bool
 | .int k,.int k'=>k == k'
 | .bool,.bool=>true
 | .str,.string=>true
 | .ptr,.pointer _=>true
 | .slice e,.slice e'=>e == e'
 | .array n e,.array n' e'=>n == n' && e == e'
 | .map k e,.map k' e'=>k == k' && e == e'
 | .struct fs, .struct gs => gs.toList.map (fun g => (g.offset, g.type)) == fs && gs.toList.all (fun g => g.name != "_")
 | .func,.func ..=>true
 | .tuple,.tuple _=>true
 | .iface,.interface _=>true
 | _,_=>false
structure ZE where
 td:TD
 size:Nat
 bytes:Nat
 zero:List AV
def ZE.isAgg (r:ZE):Bool:=match r.td with | .struct _ | .array _ _=>true | _=>false
def fitsConst:AV → Value → Bool
 | .int k n,.int k' n'=>k == k' && n == n'
 | .bool b,.bool b'=>b == b'
 | .str l,.string s=>l == s.data.toList
 | .nilp,.pointer none=>true
 | .sl _ [] .full,.slice none 0 0=>true
 | .nilf,.nilFunc=>true
 | .nilm,.map none=>true
 | .nili,.nilIface=>true
 | _,_=>false
theorem ZeP {E:Env} {a:AV} {v:Value} (h:fitsConst a v = true):VR E a v:=by
 unfold fitsConst at h
 split at h <;> try (cases h; done)
 ·simp only [Bool.and_eq_true,beq_iff_eq] at h; obtain ⟨rfl,rfl⟩:=h; exact .int _ _
 ·simp only [beq_iff_eq] at h; subst h; exact .bool _
 ·rename_i l s
  simp only [beq_iff_eq] at h; subst h
  have:s = ⟨s.data.toList.toArray⟩:=by simp
  rw [this]; exact .str _
 ·exact .nilp
 ·exact .slnil _ _ none rfl (fun _=>rfl)
 ·exact .nilf
 ·exact .nilm
 ·exact .nili
theorem ZdQ {a:AV} {v:Value} (h:fitsConst a v = true):a.one = true:=by
 unfold fitsConst at h
 split at h <;> first | rfl | (cases h; done)
def fitsAll:List AV → List Value → Bool
 | [],[]=>true
 | a :: as,v :: vs=>fitsConst a v && fitsAll as vs
 | _,_=>false
theorem X9 {E:Env}:∀ {as:List AV} {vs:List Value},fitsAll as vs = true → VRs E as vs
 | [],[],_=>VRs.nil E
 | a :: as,v :: vs,h=>by
  simp only [fitsAll,Bool.and_eq_true] at h
  exact VRs.cons (ZeP h.1) (X9 h.2)
 | [],_ :: _,h=>by simp [fitsAll] at h
 | _ :: _,[],h=>by simp [fitsAll] at h
theorem fitsAll_one:∀ {as:List AV} {vs:List Value},fitsAll as vs = true → ∀ a ∈ as,a.one = true
 | [],_,_=>by simp
 | a :: as,v :: vs,h=>by
  simp only [fitsAll,Bool.and_eq_true] at h
  intro x hx
  rcases List.mem_cons.1 hx with rfl | hx
  ·exact ZdQ h.1
  ·exact fitsAll_one h.2 x hx
 | _ :: _,[],h=>by simp [fitsAll] at h
def isAggV:Value → Bool
 | .agg _=>true
 | _=>false
def Zg4 (P:Program) (t:TypeId) (r:ZE):Bool :=
 match P.underlying t,P.info? t with
 | some d,some i=>r.td.fits d && i.size == r.size && i.bytes == r.bytes && (match i.zero with | some z=>fitsAll r.zero z.cells.toList && z.cells.size == r.size && (r.isAgg == isAggV z) | none=>false) && (match r.td with | .struct _=>!P.stoodInHeld t && !P.eqGuardType P.depth t | _=>true)
 | _,_=>false
abbrev TT:=TypeId → Option ZE
def TOK (P:Program) (T:TT):Prop:=∀ t r,T t = some r → Zg4 P t r = true
structure WX (P:Program) (t:TypeId) (r:ZE) (d:TypeDesc) (i:TypeInfo) (z:Value):Prop where
 und:P.underlying t = some d
 info:P.info? t = some i
 fits:r.td.fits d = true
 size:i.size = r.size
 bytes:i.bytes = r.bytes
 zero:i.zero = some z
 zfits:fitsAll r.zero z.cells.toList = true
 zsize:z.cells.size = r.size
 zagg:r.isAgg = isAggV z
 stood:∀ fs,r.td = .struct fs → P.stoodInHeld t = false ∧ P.eqGuardType P.depth t = false
theorem Zl {P:Program} {t:TypeId} {r:ZE} (h:Zg4 P t r = true):∃ d i z,WX P t r d i z:=by
 unfold Zg4 at h
 split at h
 ·rename_i d i hd hi
  split at h
  ·rename_i z hz
   simp only [Bool.and_eq_true,beq_iff_eq] at h
   obtain ⟨⟨h,h2⟩,h3⟩:=h
   refine ⟨d,i,z,hd,hi,h.1.1,h.1.2,h.2,hz,h2.1.1,h2.1.2,h2.2,fun fs hfs=>?_⟩
   rw [hfs] at h3
   simpa using h3
  ·simp at h
 ·simp at h
theorem Zev {P:Program} {l:List (TypeId × ZE)} (h:l.all (fun x=>Zg4 P x.1 x.2) = true):TOK P (fun t=>(l.find? (·.1 == t)).map (·.2)):=by
 intro t r hr
 simp only [Option.map_eq_some_iff] at hr
 obtain ⟨x,hx,rfl⟩:=hr
 have h1:=List.find?_some hx
 have h2:=List.mem_of_find?_eq_some hx
 have h3:=(List.all_eq_true.1 h) x h2
 have:x.1 = t:=by simpa using h1
 exact this ▸ h3
def isAggD:TypeDesc → Bool
 | .struct _ | .array _ _=>true
 | _=>false
theorem TD.ZiA {r:ZE} {d:TypeDesc} (h:r.td.fits d = true):isAggD d = r.isAgg:=by
 obtain ⟨td,s,b,z⟩:=r
 cases td <;> cases d <;> first | rfl | (simp [TD.fits] at h; done)
section runs
variable {P:Program}
theorem VA {t:TypeId} {r:ZE} {d:TypeDesc} {i:TypeInfo} {z:Value} (h:WX P t r d i z) (w:World):(isAgg t).run P w = .ok r.isAgg w:=by
 rw [← TD.ZiA h.fits]
 unfold isAgg
 rw [Sem.run_bind,run_underlying h.und,Result.andThen_ok]
 cases d <;> rfl
theorem ZT {t:TypeId} {r:ZE} {d:TypeDesc} {i:TypeInfo} {z:Value} (h:WX P t r d i z) (w:World):(sizeOf t).run P w = .ok r.size w:=by
 simp [sizeOf,typeInfo,h.info,h.size]
theorem Yo {t:TypeId} {r:ZE} {d:TypeDesc} {i:TypeInfo} {z:Value} (h:WX P t r d i z) (w:World):(zeroValue t).run P w = .ok z w:=by
 simp [zeroValue,typeInfo,h.info,h.zero]
end runs
end Go.Abs

/- Operations that have nothing to do with the abstract heap. No program, no condition. -/
namespace Go.Abs
theorem ZJ.grow {m:Nat} {H:Zf} {E:Env} {w w':World} {F':Nat → Nat → Option Value} (h:ZJ m H E w) (os:w'.os = w.os) (tape:w'.tape = w.tape) (output:w'.output = w.output)
  (drawn:E.qd = true → w.drawn ≤ w'.drawn) (size:w.heap.size ≤ w'.heap.size) (hb:∀ b,b < w.heap.size → w'.heap[b]? = w.heap[b]?) (hF:∀ b o v,E.F b o = some v → F' b o = some v)
  (hF':∀ b o v,F' b o = some v → w'.cell? ⟨b,o,none⟩ = some v) (hnew:∀ b o,b < w.heap.size → F' b o = E.F b o) :
  ZJ m H { E with F:=F' } w' ∧ Ext m E w { E with F:=F' } w':=by
 have hle:E.le m { E with F:=F' }:=⟨hF,fun _ _ _ _ h=>h,fun _ _ _ _ _ h=>h,rfl⟩
 have hlt:∀ l k b,E.m l k = some b → b < w.heap.size:=fun l k b hm=>h.lt b (.inl ⟨l,k,hm⟩)
 have hgt:∀ l k b,E.g l k = some b → b < w.heap.size:=fun l k b hm=>h.lt b (.inr ⟨l,k,hm⟩)
 refine ⟨{ norm:=⟨h.norm.m,h.norm.g,h.norm.hist⟩,F:=hF',blk:=?_,dom:=h.dom,nobuf:=h.nobuf,inj:=h.inj,injg:=h.injg,mg:=h.mg,mF:=?_,lt:=?_ },⟨hle,os,tape,output,drawn,size,fun b hb' _=>hb b hb',fun b _ ho=>ho⟩⟩
 ·intro l k b hl hH
  exact (h.blk l k b hl hH).keep rfl rfl (fun _=>rfl) (fun _ _ _ h=>h) (fun r hr=>hb r (hr.elim (hlt _ _ _) (hgt _ _ _))) (fun g o hg hf=>(hnew g o (hgt _ _ _ hg)).trans hf) (fun a _ v hv=>hv.mono h.norm hle)
 ·intro l k b o hm
  exact (hnew b o (hlt l k b hm)).trans (h.mF l k b o hm)
 ·intro b ho
  exact Nat.lt_of_lt_of_le (h.lt b ho) size
theorem ZJ.ZbZ {m:Nat} {H:Zf} {E:Env} {w:World} (h:ZJ m H E w) {b o:Nat} {v:Value} (hf:E.F b o = some v):b < w.heap.size :=
 World.block_lt_of_cell? w _ (h.F b o v hf)
def Env.addRow (E:Env) (b:Nat) (vs:Array Value):Env:={ E with F:=fun b' o=>if b' = b then vs[o]? else E.F b' o }
theorem ZJ.newRow {m:Nat} {H:Zf} {E:Env} {w w1:World} (h:ZJ m H E w) (vs:Array Value) (e:TypeId) (os:w1.os = w.os) (tape:w1.tape = w.tape) (output:w1.output = w.output)
  (drawn:E.qd = true → w.drawn ≤ w1.drawn) (hh:w1.heap = w.heap) :
  ZJ m H (E.addRow w.heap.size vs) (w1.alloc (.cells vs e)) ∧ Ext m E w (E.addRow w.heap.size vs) (w1.alloc (.cells vs e)):=by
 refine h.grow os tape output drawn (by simp [World.alloc,hh]) ?_ ?_ ?_ ?_
 ·intro b hb
  simp only [World.alloc,hh,Array.getElem?_push]
  rw [if_neg (by omega)]
 ·intro b o v hf
  have:=h.ZbZ hf
  rw [if_neg (by omega)]; exact hf
 ·intro b o v hf
  split at hf
  ·rename_i hbe; subst hbe
   simp only [World.cell?,World.alloc,hh,Array.getElem?_push]
   simpa using hf
  ·have:=h.ZbZ hf
   have hc:=h.F b o v hf
   simp only [World.cell?,World.alloc,hh,Array.getElem?_push] at hc ⊢
   rw [if_neg (by omega)]; exact hc
 ·intro b o hb
  rw [if_neg (by omega)]
def Xe (P:Program) (m:Nat) (o:Oper) (ρ:Operand → AV) (H:Zf) (v:AV) (H':Zf):Prop :=
 ∀ E w (a:Act),ZJ m H E w → (∀ x ∈ o.op.operands,VR E (ρ x) (a.eval x)) →
  ∃ cv E' w',((execOp a.eval o).run P w = .ok (.value cv) w' ∨ ((execOp a.eval o).run P w = .ok .skip w' ∧ cv = undef)) ∧ VR E' v cv ∧ ZJ m H' E' w' ∧ Ext m E w E' w'
theorem Zjs {ro:Option Nat} {ρ:Operand → Value} {o:Oper} (h:∀ c,o.op ≠ .defer c):o.semAt ro ρ = execOp ρ o:=by
 cases ro with
 | none=>rfl
 | some l=>unfold Oper.semAt; split <;> first | rfl | (rename_i h'; exact absurd h' (h _))
theorem Zh4 {P:Program} {o:Oper} {ρ:Operand → Value} {w w':World} {x:Next} (h:(execOp ρ o).run P w = .ok x w') (hx:∀ d,x ≠ .defer d):∀ c,o.op ≠ .defer c:=fun c hc=>by
 simp only [execOp,hc,Sem.run_bind] at h
 cases hr:(resolve ρ c o.type).run P w with
 | ok d w2=>rw [hr] at h; simp only [Result.andThen,Sem.run_pure,Result.ok.injEq] at h; exact hx _ h.1.symm
 | halt u w2=>rw [hr] at h; cases h
theorem Xr {P:Program} {ro:Option Nat} {o:Oper} {a:Act} {w w':World} {K:Act → World → Prop} {Q:Exit → Act → World → Prop} {x:Next} (hrun:(execOp a.eval o).run P w = .ok x w') (hx:∀ d,x ≠ .defer d)
  (h:o.uponIn (fr ro) 0 P a K Q (.ok x w')):o.wpIn (fr ro) 0 P a w K Q :=
 ⟨fun _ _=>trivial,by rw [Zjs (Zh4 hrun hx),hrun]; exact h⟩
theorem Xe.sem {P:Program} {m:Nat} {o:Oper} {ρ:Operand → AV} {H:Zf} {v:AV} {H':Zf} (h:Xe P m o ρ H v H'):Wi P m o ρ H v H':=by
 intro E w a Q K hr ho hk ro
 obtain ⟨cv,E',w',hrun,hv,hh,hx⟩:=h E w a hr ho
 rcases hrun with hrun | ⟨hrun,rfl⟩
 ·exact Xr hrun (fun _ e=>by cases e) (hk E' w' cv hv hh hx)
 ·exact Xr hrun (fun _ e=>by cases e) (hk E' w' undef hv hh hx)
def Y2 (P:Program) (o:Oper) (ρ:Operand → AV) (v:AV):Prop :=
 ∀ E (a:Act),(∀ x ∈ o.op.operands,VR E (ρ x) (a.eval x)) → ∃ cv,(∀ w,(execOp a.eval o).run P w = .ok (.value cv) w) ∧ VR E v cv
theorem Y2.run {P:Program} {o:Oper} {ρ:Operand → AV} {v:AV} (h:Y2 P o ρ v) (m:Nat) (H:Zf):Xe P m o ρ H v H:=by
 intro E w a hr ho
 obtain ⟨cv,h1,h2⟩:=h E a ho
 exact ⟨cv,E,w,.inl (h1 w),h2,hr,.refl m E w⟩
def ZdY (T:TT) (ty:TypeId) (v:AV):AV :=
 match v with
 | .sl k [] o=>match T ty with
  | some r=>match r.td with
   | .slice e=>match T e with
    | some q=>.sl q.size [] o
    | none=>.sl k [] o
   | _=>.sl k [] o
  | none=>.sl k [] o
 | v=>v
theorem Jq {E:Env} {k k':Nat} {o:Own} {v:Value} (h:VR E (.sl k [] o) v):VR E (.sl k' [] o) v:=by
 cases h with
 | slnil _ _ a ho ha=>exact .slnil k' o a ho ha
 | sl _ _ _ b off cap c hk hc hv hcap hm ho=>exact .sl k' [] o b off cap c (fun i h=>absurd h (Nat.not_lt_zero _)) (fun i j h=>absurd h (Nat.not_lt_zero _)) (fun i h=>absurd h (Nat.not_lt_zero _)) hcap hm ho
theorem Zjw {E:Env} {T:TT} {ty:TypeId} {v:AV} {x:Value} (h:VR E v x):VR E (ZdY T ty v) x:=by
 unfold ZdY
 split
 ·split
  ·split
   ·split
    ·exact Jq h
    ·exact h
   ·exact h
  ·exact h
 ·exact h
def mv (T:TT) (ty:TypeId) (x:Operand) (v:AV):AV :=
 match x with
 | .const _=>ZdY T ty v
 | _=>v
theorem Zd0 {E:Env} {T:TT} {ty:TypeId} {x:Operand} {v:AV} {y:Value} (h:VR E v y):VR E (mv T ty x v) y:=by
 unfold mv; split
 ·exact Zjw h
 ·exact h
section ops
variable {P:Program} {T:TT} {o:Oper} {ρ:Operand → AV}
theorem ZjN {x:Operand} (ho:o.op = .move x):Y2 P o ρ (mv T o.type x (ρ x)):=fun E a h =>
 ⟨a.eval x,fun w=>by simp [execOp,ho],Zd0 (h x (by simp [ho,Op.operands]))⟩
theorem ZhY {x:Operand} (ho:o.op = .assign x):Y2 P o ρ (mv T o.type x (ρ x)):=fun E a h =>
 ⟨a.eval x,fun w=>by simp [execOp,ho],Zd0 (h x (by simp [ho,Op.operands]))⟩
theorem Zha {c x y:Operand} {t:Bool} (ho:o.op = .pick c x y) (hc:ρ c = .bool t):Y2 P o ρ (if t then mv T o.type x (ρ x) else mv T o.type y (ρ y)):=fun E a h=>by
 have h1:=h c (by simp [ho,Op.operands])
 rw [hc] at h1
 cases hb:a.eval c <;> rw [hb] at h1 <;> cases h1
 refine ⟨if t then a.eval x else a.eval y,fun w=>by simp [execOp,ho,hb,asBool],?_⟩
 cases t
 ·exact Zd0 (h y (by simp [ho,Op.operands]))
 ·exact Zd0 (h x (by simp [ho,Op.operands]))
theorem Va {x:Operand} {v:AV} (ho:o.op = .nilCheck x) (hv:ρ x = v) (hk:(match v with | .ptr ..=>true | .ZA _=>true | .eptr ..=>true | .fn (.func _) _=>true | .fn (.yield _) _=>true | _=>false) = true):Y2 P o ρ v:=fun E a h=>by
 have h1:=h x (by simp [ho,Op.operands])
 rw [hv] at h1
 refine ⟨a.eval x,fun w=>?_,h1⟩
 have hex:execOp a.eval o = match a.eval x with
  | .pointer none | .nilIface | .nilFunc=>runtimePanic .nilDeref
  | .func (.method name) first captured =>
   match (first[0]?:Option Value) with
   | some .nilIface=>runtimePanic .nilDeref
   | some (.iface t w)=>do
    if (← nilAhead ((← program).types.size + Made.depth) t w name) != some false then
     unsupported (.noEntry "op/nilCheck.the method's receiver behind this interface value is a nil pointer, or cannot be seen to be none, and the arguments act or may panic (ledger 612)")
    pure (.value (.func (.method name) first captured))
   | _=>pure (.value (.func (.method name) first captured))
  | x=>pure (.value x):=by simp only [execOp,ho]; rfl
 rw [hex]
 clear hex
 generalize a.eval x = y at *
 cases h1 with
 | ptr l k off b hm=>rfl
 | ZA cs b off c hc hv=>rfl
 | eptr l k n off g cap hh=>rfl
 | fn f caps vs hl hvs=>cases f <;> first | rfl | (simp at hk; done)
 | _=>simp at hk
theorem Z9 (b off n:Nat):(⟨b,off,none⟩:Addr).add n = ⟨b,off + n,none⟩:=by
 unfold Addr.add; split
 ·rename_i h; subst h; rfl
 ·rfl
theorem Zcb {t:TypeId} {x:Operand} {f:Nat} {r rf:ZE} {fs:List (Nat × TypeId)} {fo ft l k off:Nat} (hT:TOK P T) (ho:o.op = .fieldAddr t x f) (h1:T t = some r) (h2:r.td = .struct fs)
  (h3:fs[f]? = some (fo,ft)) (h4:T ft = some rf) (h5:rf.size ≠ 0) (hv:ρ x = .ptr l k off):Y2 P o ρ (.ptr l k (off + fo)):=fun E a h=>by
 have hx:=h x (by simp [ho,Op.operands])
 rw [hv] at hx
 obtain ⟨d,i,z,hf⟩:=Zl (hT t r h1)
 obtain ⟨d',i',z',hf'⟩:=Zl (hT ft rf h4)
 have hfit:=hf.fits
 rw [h2] at hfit
 cases d <;> try (simp [TD.fits] at hfit; done)
 rename_i gs
 simp only [TD.fits,Bool.and_eq_true,beq_iff_eq] at hfit
 have hg:∃ g,gs[f]? = some g ∧ g.offset = fo ∧ g.type = ft:=by
  have h3':=h3
  rw [← hfit.1,List.getElem?_map] at h3'
  cases hq:gs.toList[f]? with
  | none=>simp [hq] at h3'
  | some g=>rw [hq] at h3'; simp at h3'; exact ⟨g,by rw [← Array.getElem?_toList]; exact hq,h3'.1,h3'.2⟩
 obtain ⟨g,hg1,hg2,hg3⟩:=hg
 cases hy:a.eval x <;> rw [hy] at hx <;> cases hx
 rename_i b hm
 refine ⟨.pointer (some ⟨b,off + fo,none⟩),fun w=>?_,.ptr l k _ b hm⟩
 simp [execOp,ho,hy,Instr.fieldAt,run_underlying hf.und,hg1,Instr.sureAddr,fieldPlace,hg3,ZT hf',h5,Z9,hg2]
theorem Zbi {t:TypeId} {x:Operand} {f:Nat} {r rf:ZE} {fs:List (Nat × TypeId)} {fo ft:Nat} {cs:List AV} (hT:TOK P T) (ho:o.op = .fieldAddr t x f) (h1:T t = some r) (h2:r.td = .struct fs)
  (h3:fs[f]? = some (fo,ft)) (h4:T ft = some rf) (h5:rf.size ≠ 0) (hv:ρ x = .ZA cs):Y2 P o ρ (.ZA (cs.drop fo)):=fun E a h=>by
 have hx:=h x (by simp [ho,Op.operands])
 rw [hv] at hx
 obtain ⟨d,i,z,hf⟩:=Zl (hT t r h1)
 obtain ⟨d',i',z',hf'⟩:=Zl (hT ft rf h4)
 have hfit:=hf.fits
 rw [h2] at hfit
 cases d <;> try (simp [TD.fits] at hfit; done)
 rename_i gs
 simp only [TD.fits,Bool.and_eq_true,beq_iff_eq] at hfit
 have hg:∃ g,gs[f]? = some g ∧ g.offset = fo ∧ g.type = ft:=by
  have h3':=h3
  rw [← hfit.1,List.getElem?_map] at h3'
  cases hq:gs.toList[f]? with
  | none=>simp [hq] at h3'
  | some g=>rw [hq] at h3'; simp at h3'; exact ⟨g,by rw [← Array.getElem?_toList]; exact hq,h3'.1,h3'.2⟩
 obtain ⟨g,hg1,hg2,hg3⟩:=hg
 generalize hy:a.eval x = y at hx
 cases hx with | ZA _ b off c hc hv =>
 refine ⟨.pointer (some ⟨b,off + fo,none⟩),fun w=>?_,?_⟩
 ·simp [execOp,ho,hy,Instr.fieldAt,run_underlying hf.und,hg1,Instr.sureAddr,fieldPlace,hg3,ZT hf',h5,Z9,hg2]
 ·refine .ZA _ b (off + fo) (fun j=>c (fo + j)) (fun j hj=>?_) (fun j hj=>?_)
  ·rw [List.length_drop] at hj
   rw [Nat.add_assoc]; exact hc (fo + j) (by omega)
  ·rw [List.length_drop] at hj
   have:=hv (fo + j) (by omega)
   simpa using this
theorem Yp {d:TypeDesc} {e:TypeId} (h:(TD.slice e).fits d = true):d = .slice e:=by
 cases d <;> simp [TD.fits] at h
 subst h; rfl
theorem Zcv {t:TypeId} {x ix:Operand} {r re:ZE} {e:TypeId} {k:Nat} {xs:List AV} {ow:Own} {kk:IntKind} {i:Int} (hT:TOK P T) (ho:o.op = .indexAddr t x ix)
  (h1:T t = some r) (h2:r.td = .slice e) (h3:T e = some re) (hk:k = re.size) (hv:ρ x = .sl k xs ow) (hi:ρ ix = .int kk i) (hlo:0 ≤ i) (hhi:i < xs.length) :
  Y2 P o ρ (.ZA (xs.getD i.toNat .dead).cells):=fun E a h=>by
 have hx:=h x (by simp [ho,Op.operands])
 have hix:=h ix (by simp [ho,Op.operands])
 rw [hv] at hx
 rw [hi] at hix
 obtain ⟨d,inf,z,hf⟩:=Zl (hT t r h1)
 obtain ⟨d',i',z',hf'⟩:=Zl (hT e re h3)
 have hd:=Yp (h2 ▸ hf.fits)
 subst hd
 cases hyi:a.eval ix <;> rw [hyi] at hix <;> cases hix
 have hlt:i.toNat < xs.length:=by omega
 have hg:xs.getD i.toNat .dead = xs[i.toNat]:=by simp [List.getD_eq_getElem?_getD,List.getElem?_eq_getElem hlt]
 generalize hy:a.eval x = y at hx
 cases hx with
 | slnil _ _ _ ho' _=>simp at hhi; omega
 | sl _ _ _ b off cap c hkk hc hvv hcap hm how =>
  refine ⟨.pointer (some ⟨b,off + i.toNat * re.size,none⟩),fun w=>?_,?_⟩
  ·simp [execOp,ho,hy,hyi,Instr.indexAt,asIntOf,run_underlying hf.und,hlo,hhi,ZT hf',Z9]
  ·rw [hg]
   refine .ZA _ b _ (fun j=>c i.toNat j) (fun j hj=>?_) (fun j hj=>hvv i.toNat hlt j hj)
   have:=hc i.toNat j hlt (by rw [← hkk i.toNat hlt]; exact hj)
   rw [← hk,Nat.add_assoc]; exact this
theorem Zhz {t:TypeId} {x:Operand} {r:ZE} {e:TypeId} {k:Nat} {xs:List AV} {ow:Own} (hT:TOK P T) (ho:o.op = .call { callee:=.builtin .len,args:=#[x],argTypes:=#[t] })
  (h1:T t = some r) (h2:r.td = .slice e) (hv:ρ x = .sl k xs ow):Y2 P o ρ (.int .i64 xs.length):=fun E a h=>by
 have hx:=h x (by simp [ho,Op.operands,Call.operands])
 rw [hv] at hx
 obtain ⟨d,inf,z,hf⟩:=Zl (hT t r h1)
 have hd:=Yp (h2 ▸ hf.fits)
 subst hd
 cases hy:a.eval x <;> rw [hy] at hx <;> cases hx
 ·exact ⟨_,fun w=>by simp [execOp,ho,hy,resolve,invoke,builtin,Builtin.len_,run_underlying hf.und,goInt],.int _ _⟩
 ·exact ⟨_,fun w=>by simp [execOp,ho,hy,resolve,invoke,builtin,Builtin.len_,run_underlying hf.und,goInt],.int _ _⟩
theorem WW {d:TypeDesc} (h:TD.str.fits d = true):d = .string:=by
 cases d <;> simp [TD.fits] at h; rfl
theorem ZgG {t:TypeId} {x:Operand} {r:ZE} {s:List UInt8} (hT:TOK P T) (ho:o.op = .call { callee:=.builtin .len,args:=#[x],argTypes:=#[t] })
  (h1:T t = some r) (h2:r.td = .str) (hv:ρ x = .str s):Y2 P o ρ (.int .i64 s.length):=fun E a h=>by
 have hx:=h x (by simp [ho,Op.operands,Call.operands])
 rw [hv] at hx
 obtain ⟨d,inf,z,hf⟩:=Zl (hT t r h1)
 have hd:=WW (h2 ▸ hf.fits)
 subst hd
 cases hy:a.eval x <;> rw [hy] at hx <;> cases hx
 have hsz:(⟨s.toArray⟩:ByteArray).size = s.length:=by show s.toArray.size = s.length; simp
 exact ⟨.int .i64 s.length,fun w=>by simp [execOp,ho,hy,resolve,invoke,builtin,Builtin.len_,run_underlying hf.und,goInt,hsz],.int _ _⟩
theorem Zet {t:TypeId} {x ix:Operand} {r:ZE} {s:List UInt8} {kk:IntKind} {i:Int} (hT:TOK P T) (ho:o.op = .index t x ix)
  (h1:T t = some r) (h2:r.td = .str) (hv:ρ x = .str s) (hi:ρ ix = .int kk i) (hlo:0 ≤ i) (hhi:i < s.length):Y2 P o ρ (.int .u8 (s.getD i.toNat 0).toNat):=fun E a h=>by
 have hx:=h x (by simp [ho,Op.operands])
 have hix:=h ix (by simp [ho,Op.operands])
 rw [hv] at hx
 rw [hi] at hix
 obtain ⟨d,inf,z,hf⟩:=Zl (hT t r h1)
 have hd:=WW (h2 ▸ hf.fits)
 subst hd
 have hlt:i.toNat < s.length:=by omega
 cases hyi:a.eval ix <;> rw [hyi] at hix <;> cases hix
 cases hy:a.eval x <;> rw [hy] at hx <;> cases hx
 refine ⟨.int .u8 (s.getD i.toNat 0).toNat,fun w=>?_,.int _ _⟩
 have hget:(⟨s.toArray⟩:ByteArray)[i.toNat]? = some s[i.toNat]:=by
  rw [getElem?_pos (⟨s.toArray⟩:ByteArray) i.toNat (by show i.toNat < s.toArray.size; simpa using hlt)]
  rfl
 simp [execOp,ho,hy,hyi,Instr.index,asIntOf,run_underlying hf.und,hlo,hget,List.getD_eq_getElem?_getD,List.getElem?_eq_getElem hlt]
theorem Zgy {x:Operand} {i:Nat} {vs:List AV} (ho:o.op = .extract x i) (hv:ρ x = .tup vs) (hi:i < vs.length):Y2 P o ρ (vs.getD i .dead):=fun E a h=>by
 have hx:=h x (by simp [ho,Op.operands])
 rw [hv] at hx
 generalize hy:a.eval x = y at hx
 cases hx with | tup _ us hl hvs =>
 refine ⟨us[i]'(by omega),fun w=>?_,?_⟩
 ·simp [execOp,ho,hy,Instr.extract,List.getElem?_eq_getElem (show i < us.length by omega)]
 ·have:=hvs i hi (by omega)
  simpa [List.getD_eq_getElem?_getD,List.getElem?_eq_getElem hi] using this
theorem Zlp {x:Operand} {t:TypeId} {b:Bool} (ho:o.op = .unOp .not t x) (hv:ρ x = .bool b):Y2 P o ρ (.bool (!b)):=fun E a h=>by
 have hx:=h x (by simp [ho,Op.operands])
 rw [hv] at hx
 cases hy:a.eval x <;> rw [hy] at hx <;> cases hx
 exact ⟨.bool (!b),fun w=>by simp [execOp,ho,hy,Op.unary],.bool _⟩
theorem ZkW {x:Operand} {t:TypeId} {k:IntKind} {n:Int} (ho:o.op = .unOp .neg t x) (hv:ρ x = .int k n):Y2 P o ρ (.int k (k.wrap (0 - n))):=fun E a h=>by
 have hx:=h x (by simp [ho,Op.operands])
 rw [hv] at hx
 cases hy:a.eval x <;> rw [hy] at hx <;> cases hx
 exact ⟨.int k (k.wrap (0 - n)),fun w=>by simp [execOp,ho,hy,Op.unary,Op.intArith],.int _ _⟩
theorem J6 {d:TypeDesc} {k:IntKind} (h:(TD.int k).fits d = true):d = .int k:=by
 cases d <;> simp [TD.fits] at h
 subst h; rfl
theorem Zdk {src dst:TypeId} {x:Operand} {rs r:ZE} {k0 k k':IntKind} {n:Int} (hT:TOK P T) (ho:o.op = .convert src dst x) (h0:T src = some rs) (h0':rs.td = .int k0) (h1:T dst = some r) (h2:r.td = .int k) (hv:ρ x = .int k' n) :
  Y2 P o ρ (.int k (k.wrap n)):=fun E a h=>by
 have hx:=h x (by simp [ho,Op.operands])
 rw [hv] at hx
 obtain ⟨d,inf,z,hf⟩:=Zl (hT dst r h1)
 have hd:=J6 (h2 ▸ hf.fits)
 subst hd
 obtain ⟨d0,inf0,z0,hf0⟩:=Zl (hT src rs h0)
 have hd0:=J6 (h0' ▸ hf0.fits)
 subst hd0
 cases hy:a.eval x <;> rw [hy] at hx <;> cases hx
 exact ⟨.int k (k.wrap n),fun w=>by simp [execOp,ho,hy,convert,run_underlying hf.und,run_underlying hf0.und,Conv.intToInt],.int _ _⟩
theorem ZcQ {src dst:TypeId} {x:Operand} {rs r:ZE} {s:List UInt8} (hT:TOK P T) (ho:o.op = .convert src dst x) (h0:T src = some rs) (h0':rs.td = .str) (h1:T dst = some r) (h2:r.td = .str) (hv:ρ x = .str s) :
  Y2 P o ρ (.str s):=fun E a h=>by
 have hx:=h x (by simp [ho,Op.operands])
 rw [hv] at hx
 obtain ⟨d,inf,z,hf⟩:=Zl (hT dst r h1)
 have hd:=WW (h2 ▸ hf.fits)
 subst hd
 obtain ⟨d0,inf0,z0,hf0⟩:=Zl (hT src rs h0)
 have hd0:=WW (h0' ▸ hf0.fits)
 subst hd0
 cases hy:a.eval x <;> rw [hy] at hx <;> cases hx
 exact ⟨.string ⟨s.toArray⟩,fun w=>by simp [execOp,ho,hy,convert,run_underlying hf.und,run_underlying hf0.und],.str _⟩
theorem ZfK {f:Fn} {cs:Array Operand} (ho:o.op = .makeFunc f #[] cs):Y2 P o ρ (.fn f (cs.toList.map ρ)):=fun E a h=>by
 refine ⟨.func f #[] (cs.toList.map a.eval).toArray,fun w=>?_,?_⟩
 ·have:execOp a.eval o = (do let v ← Instr.makeFunc f (#[].map a.eval) (cs.map a.eval); pure (Next.value v)):=by simp only [execOp,ho]
  rw [this]; simp [Instr.makeFunc]
  rw [← Array.toList_map]
 ·refine .fn f (cs.toList.map ρ) (cs.toList.map a.eval) (by rw [List.length_map,List.length_map]) (fun i h1 h2=>?_)
  rw [List.getElem_map,List.getElem_map]
  have hm:cs.toList[i]'(by simpa using h1) ∈ o.op.operands:=by
   rw [ho]; simp only [Op.operands]; simp
  exact h _ hm
theorem ZeS {f:Fn} {fs:Array Operand} (ho:o.op = .makeFunc f fs #[]):Y2 P o ρ (.bfn f (fs.toList.map ρ)):=fun E a h=>by
 refine ⟨.func f (fs.toList.map a.eval).toArray #[],fun w=>?_,?_⟩
 ·have:execOp a.eval o = (do let v ← Instr.makeFunc f (fs.map a.eval) (#[].map a.eval); pure (Next.value v)):=by simp only [execOp,ho]
  rw [this]; simp [Instr.makeFunc]
  rw [← Array.toList_map]
 ·refine .bfn f (fs.toList.map ρ) (fs.toList.map a.eval) (by rw [List.length_map,List.length_map]) (fun i h1 h2=>?_)
  rw [List.getElem_map,List.getElem_map]
  have hm:fs.toList[i]'(by simpa using h1) ∈ o.op.operands:=by
   rw [ho]; simp only [Op.operands]; simp
  exact h _ hm
end ops
end Go.Abs

/- More operations that have nothing to do with the abstract heap: binary operators, slices, composites, append. No program, no condition. -/
namespace Go.Abs
def Zg5 (op:BinOp) (k:IntKind) (x y:Int):Option AV :=
 match op with
 | .add=>some (.int k (k.wrap (x + y)))
 | .sub=>some (.int k (k.wrap (x - y)))
 | .mul=>some (.int k (k.wrap (x * y)))
 | .eql=>some (.bool (x == y))
 | .neq=>some (.bool (x != y))
 | .lss=>some (.bool (decide (x < y)))
 | .leq=>some (.bool (decide (x ≤ y)))
 | .gtr=>some (.bool (decide (x > y)))
 | .geq=>some (.bool (decide (x ≥ y)))
 | _=>none
def Zg7 (op:BinOp) (x y:List UInt8):Option AV :=
 match op with
 | .eql=>some (.bool (x == y))
 | .neq=>some (.bool (!(x == y)))
 | .lss=>some (.bool (Op.bytesLess x y))
 | .leq=>some (.bool (Op.bytesLess x y || x == y))
 | .gtr=>some (.bool (!(Op.bytesLess x y || x == y)))
 | .geq=>some (.bool (!(Op.bytesLess x y)))
 | _=>none
section ops
variable {P:Program} {T:TT} {o:Oper} {ρ:Operand → AV}
def guardy:Value → Value → Bool
 | .nilIface,.nilIface=>true
 | .agg _,.agg _=>true
 | _,_=>false
theorem Ze4 {op:BinOp} {t:TypeId} {x y:Operand} {a b:Value} (w:World) (h:guardy a b = false) :
  (eqGuard op t x y a b).run P w = .ok () w:=by
 unfold eqGuard
 cases op <;> simp only [] <;> first | rfl | (cases a <;> cases b <;> first | rfl | (cases h; done))
theorem Yq {op:BinOp} {t yt:TypeId} {x y:Operand} {a:Act} {u v r:Value} (ho:o.op = .binOp op t x y yt) (hx:a.eval x = u) (hy:a.eval y = v)
  (h:guardy u v = false) (hr:∀ w,(binOp op t u v).run P w = .ok r w) (w:World) :
  (execOp a.eval o).run P w = .ok (.value r) w:=by
 have he:execOp a.eval o = (do let v ← (do eqGuard op t x y (a.eval x) (a.eval y); binOp op t (a.eval x) (a.eval y)); pure (Next.value v)):=by simp only [execOp,ho]
 rw [he,hx,hy]
 simp only [Sem.run_bind,Ze4 (P:=P) w h,Result.andThen_ok,hr w,Sem.run_pure]
theorem ZgQ {op:BinOp} {t yt:TypeId} {x y:Operand} {k:IntKind} {m n:Int} {v:AV} (ho:o.op = .binOp op t x y yt) (hx:ρ x = .int k m) (hy:ρ y = .int k n) (hv:Zg5 op k m n = some v):Y2 P o ρ v:=fun E a h=>by
 have h1:=h x (by simp [ho,Op.operands])
 have h2:=h y (by simp [ho,Op.operands])
 rw [hx] at h1
 rw [hy] at h2
 cases ha:a.eval x <;> rw [ha] at h1 <;> cases h1
 cases hb:a.eval y <;> rw [hb] at h2 <;> cases h2
 cases op <;> simp only [Zg5,Option.some.injEq,reduceCtorEq] at hv <;> subst hv
 ·exact ⟨.int k (k.wrap (m + n)),Yq ho ha hb rfl (fun w=>by simp [binOp,Op.intArith]),.int _ _⟩
 ·exact ⟨.int k (k.wrap (m - n)),Yq ho ha hb rfl (fun w=>by simp [binOp,Op.intArith]),.int _ _⟩
 ·exact ⟨.int k (k.wrap (m * n)),Yq ho ha hb rfl (fun w=>by simp [binOp,Op.intArith]),.int _ _⟩
 ·exact ⟨.bool (m == n),Yq ho ha hb rfl (fun w=>by simp [binOp,Op.intCmp]),.bool _⟩
 ·exact ⟨.bool (m != n),Yq ho ha hb rfl (fun w=>by simp [binOp,Op.intCmp]),.bool _⟩
 ·exact ⟨.bool (decide (m < n)),Yq ho ha hb rfl (fun w=>by simp [binOp,Op.intCmp]),.bool _⟩
 ·exact ⟨.bool (decide (m ≤ n)),Yq ho ha hb rfl (fun w=>by simp [binOp,Op.intCmp]),.bool _⟩
 ·exact ⟨.bool (decide (m > n)),Yq ho ha hb rfl (fun w=>by simp [binOp,Op.intCmp]),.bool _⟩
 ·exact ⟨.bool (decide (m ≥ n)),Yq ho ha hb rfl (fun w=>by simp [binOp,Op.intCmp]),.bool _⟩
theorem Zlk {op:BinOp} {t yt:TypeId} {x y:Operand} {k:IntKind} {m n:Int} (ho:o.op = .binOp op t x y yt) (hx:ρ x = .int k m) (hy:ρ y = .int k n) (hop:op = .quo) (hn:n ≠ 0):Y2 P o ρ (.int k (k.wrap (m.tdiv n))):=fun E a h=>by
 have h1:=h x (by simp [ho,Op.operands])
 have h2:=h y (by simp [ho,Op.operands])
 rw [hx] at h1
 rw [hy] at h2
 cases ha:a.eval x <;> rw [ha] at h1 <;> cases h1
 cases hb:a.eval y <;> rw [hb] at h2 <;> cases h2
 subst hop
 exact ⟨.int k (k.wrap (m.tdiv n)),Yq ho ha hb rfl (fun w=>by simp [binOp,Op.intDiv,hn]),.int _ _⟩
theorem Zk5 {op:BinOp} {t yt:TypeId} {x y:Operand} {k:IntKind} {m n:Int} (ho:o.op = .binOp op t x y yt) (hx:ρ x = .int k m) (hy:ρ y = .int k n) (hop:op = .rem) (hn:n ≠ 0):Y2 P o ρ (.int k (m.tmod n)):=fun E a h=>by
 have h1:=h x (by simp [ho,Op.operands])
 have h2:=h y (by simp [ho,Op.operands])
 rw [hx] at h1
 rw [hy] at h2
 cases ha:a.eval x <;> rw [ha] at h1 <;> cases h1
 cases hb:a.eval y <;> rw [hb] at h2 <;> cases h2
 subst hop
 exact ⟨.int k (m.tmod n),Yq ho ha hb rfl (fun w=>by simp [binOp,Op.intDiv,hn]),.int _ _⟩
theorem Zgs {op:BinOp} {t yt:TypeId} {x y:Operand} {m n:List UInt8} {v:AV} (ho:o.op = .binOp op t x y yt) (hx:ρ x = .str m) (hy:ρ y = .str n) (hv:Zg7 op m n = some v):Y2 P o ρ v:=fun E a h=>by
 have h1:=h x (by simp [ho,Op.operands])
 have h2:=h y (by simp [ho,Op.operands])
 rw [hx] at h1
 rw [hy] at h2
 cases ha:a.eval x <;> rw [ha] at h1 <;> cases h1
 cases hb:a.eval y <;> rw [hb] at h2 <;> cases h2
 cases op <;> simp only [Zg7,Option.some.injEq,reduceCtorEq] at hv <;> subst hv
 ·exact ⟨.bool (m == n),Yq ho ha hb rfl (fun w=>by simp only [binOp,Op.stringOp,ByteArray.toList_mk,Sem.run_pure]),.bool _⟩
 ·exact ⟨.bool (!(m == n)),Yq ho ha hb rfl (fun w=>by simp only [binOp,Op.stringOp,ByteArray.toList_mk,Sem.run_pure]),.bool _⟩
 ·exact ⟨.bool (Op.bytesLess m n),Yq ho ha hb rfl (fun w=>by simp only [binOp,Op.stringOp,ByteArray.toList_mk,Sem.run_pure]),.bool _⟩
 ·exact ⟨.bool (Op.bytesLess m n || m == n),Yq ho ha hb rfl (fun w=>by simp only [binOp,Op.stringOp,ByteArray.toList_mk,Sem.run_pure]),.bool _⟩
 ·exact ⟨.bool (!(Op.bytesLess m n || m == n)),Yq ho ha hb rfl (fun w=>by simp only [binOp,Op.stringOp,ByteArray.toList_mk,Sem.run_pure]),.bool _⟩
 ·exact ⟨.bool (!(Op.bytesLess m n)),Yq ho ha hb rfl (fun w=>by simp only [binOp,Op.stringOp,ByteArray.toList_mk,Sem.run_pure]),.bool _⟩
theorem Zh6 {op:BinOp} {t yt:TypeId} {x y:Operand} {m n:List UInt8} (ho:o.op = .binOp op t x y yt) (hx:ρ x = .str m) (hy:ρ y = .str n) (hop:op = .add) (hl:m.length + n.length ≤ 9223372036854775807):Y2 P o ρ (.str (m ++ n)):=fun E a h=>by
 have h1:=h x (by simp [ho,Op.operands])
 have h2:=h y (by simp [ho,Op.operands])
 rw [hx] at h1
 rw [hy] at h2
 cases ha:a.eval x <;> rw [ha] at h1 <;> cases h1
 cases hb:a.eval y <;> rw [hb] at h2 <;> cases h2
 subst hop
 refine ⟨.string ⟨(m ++ n).toArray⟩,Yq ho ha hb rfl (fun w=>?_),.str _⟩
 have hs1:(⟨m.toArray⟩:ByteArray).size = m.length:=by show m.toArray.size = _; simp
 have hs2:(⟨n.toArray⟩:ByteArray).size = n.length:=by show n.toArray.size = _; simp
 have hmx:IntKind.i64.max = 9223372036854775807:=by decide
 have hs:¬ (((⟨m.toArray⟩:ByteArray).size + (⟨n.toArray⟩:ByteArray).size:Nat):Int) > IntKind.i64.max:=by rw [hs1,hs2,hmx]; omega
 have happ:(⟨m.toArray⟩:ByteArray) ++ ⟨n.toArray⟩ = ⟨(m ++ n).toArray⟩:=by
  apply ByteArray.ext
  rw [ByteArray.data_append]; simp
 simp only [binOp,Op.stringOp,if_neg hs,happ,Sem.run_pure]
theorem Zhx {d:TypeDesc} (h:TD.bool.fits d = true):d = .bool:=by
 cases d <;> simp [TD.fits] at h; rfl
theorem ZeO (d:Nat) {t:TypeId} {m n:Bool} (hd:P.underlying t = some .bool) (w:World):(Op.equalIn (d + 1) t (.bool m) (.bool n)).run P w = .ok (m == n) w:=by
 simp [Op.equalIn,run_underlying hd]
theorem ZfE {op:BinOp} {t yt:TypeId} {x y:Operand} {r:ZE} {m n:Bool} (hT:TOK P T) (ho:o.op = .binOp op t x y yt) (h1:T t = some r) (h2:r.td = .bool) (hx:ρ x = .bool m) (hy:ρ y = .bool n)
  (hop:op = .eql ∨ op = .neq):Y2 P o ρ (.bool (if op = .eql then m == n else !(m == n))):=fun E a h=>by
 have k1:=h x (by simp [ho,Op.operands])
 have k2:=h y (by simp [ho,Op.operands])
 obtain ⟨d,inf,z,hf⟩:=Zl (hT t r h1)
 have hd:=Zhx (h2 ▸ hf.fits)
 subst hd
 rw [hx] at k1
 rw [hy] at k2
 cases ha:a.eval x <;> rw [ha] at k1 <;> cases k1
 cases hb:a.eval y <;> rw [hb] at k2 <;> cases k2
 have he:∀ w,(Op.equal t (.bool m) (.bool n)).run P w = .ok (m == n) w:=fun w=>ZeO 9999 hf.und w
 rcases hop with rfl | rfl
 ·exact ⟨.bool (m == n),Yq ho ha hb rfl (fun w=>by simp [binOp,he w]),.bool _⟩
 ·exact ⟨.bool (!(m == n)),Yq ho ha hb rfl (fun w=>by simp [binOp,he w]),.bool _⟩
inductive NilK:TD → AV → AV → Bool → Prop
 | pp:NilK .ptr .nilp .nilp true
 | pq (l k o:Nat):NilK .ptr (.ptr l k o) .nilp false
 | pi (cs:List AV):NilK .ptr (.ZA cs) .nilp false
 | ff:NilK .func .nilf .nilf true
 | fg (f:Fn) (c:List AV):NilK .func (.fn f c) .nilf false
 | mm (k e:Nat):NilK (.map k e) .nilm .nilm true
 | mn (k e l i:Nat):NilK (.map k e) (.map l i) .nilm false
 | ss (e:Nat):NilK (.slice e) .Y8 .Y8 true
 | sx (e k:Nat):NilK (.slice e) (.sln k) .Y8 false
 | sn (e k:Nat) (x:AV) (xs:List AV) (o:Own):NilK (.slice e) (.sl k (x :: xs) o) .Y8 false
theorem Zfq (n:Nat) {t:TypeId} {d:TypeDesc} {td:TD} {E:Env} {u v:AV} {b:Bool} {p q:Value} (hd:P.underlying t = some d) (hfit:td.fits d = true) (k1:VR E u p) (k2:VR E v q)
  (hk:NilK td u v b) (w:World):(Op.equalIn (n + 1) t p q).run P w = .ok b w:=by
 cases hk <;> cases k1 <;> cases k2 <;> cases d <;> (try (cases hfit; done)) <;> simp [Op.equalIn,run_underlying hd]
theorem JF {t:TypeId} {d:TypeDesc} {td:TD} {E:Env} {u v:AV} {b:Bool} {p q:Value} {op:BinOp} (hd:P.underlying t = some d) (hfit:td.fits d = true) (k1:VR E u p) (k2:VR E v q)
  (hk:NilK td u v b) (hop:op = .eql ∨ op = .neq):(∀ w,(binOp op t p q).run P w = .ok (.bool (if op = .eql then b else !b)) w) ∧ guardy p q = false:=by
 have he:∀ w,(Op.equal t p q).run P w = .ok b w:=fun w=>Zfq 9999 hd hfit k1 k2 hk w
 cases hk <;> cases k1 <;> cases k2 <;> refine ⟨fun w=>?_,rfl⟩ <;> rcases hop with rfl | rfl <;> first | (simp [binOp,he w]; done) | (have h:=he w; simp only [List.length_cons] at h; simp [binOp,h])
theorem Zh3 {op:BinOp} {t yt:TypeId} {x y:Operand} {r:ZE} {u v:AV} {b:Bool} (hT:TOK P T) (ho:o.op = .binOp op t x y yt) (h1:T t = some r) (hx:ρ x = u) (hy:ρ y = v)
  (hk:NilK r.td u v b) (hop:op = .eql ∨ op = .neq):Y2 P o ρ (.bool (if op = .eql then b else !b)):=fun E a h=>by
 have k1:=h x (by simp [ho,Op.operands])
 have k2:=h y (by simp [ho,Op.operands])
 obtain ⟨d,inf,z,hf⟩:=Zl (hT t r h1)
 rw [hx] at k1
 rw [hy] at k2
 obtain ⟨h3,h4⟩:=JF (P:=P) hf.und hf.fits k1 k2 hk hop
 exact ⟨_,Yq ho rfl rfl h4 h3,.bool _⟩
end ops
end Go.Abs

/- Slices as rows of cells; composites; slices cut; append where the capacity is known to be used up. No program, no condition. -/
namespace Go.Abs
def flat (xs:List AV):List AV:=xs.flatMap AV.cells
theorem Xq (x:AV) (xs:List AV):flat (x :: xs) = x.cells ++ flat xs:=by simp [flat]
theorem Zcr (xs ys:List AV):flat (xs ++ ys) = flat xs ++ flat ys:=by simp [flat]
theorem flat_length {k:Nat}:∀ {xs:List AV},(∀ x ∈ xs,x.cells.length = k) → (flat xs).length = xs.length * k
 | [],_=>by simp [flat]
 | x :: xs,h=>by
  rw [Xq,List.length_append,flat_length (fun y hy=>h y (List.mem_cons_of_mem _ hy)),h x (by simp),List.length_cons,Nat.succ_mul,Nat.add_comm]
theorem flat_get {k:Nat}:∀ {xs:List AV},(∀ x ∈ xs,x.cells.length = k) → ∀ i (h:i < xs.length) j,j < k → (flat xs)[i * k + j]? = xs[i].cells[j]?
 | x :: xs,h,0,hi,j,hj=>by
  rw [Xq,Nat.zero_mul,Nat.zero_add,List.getElem?_append_left (by rw [h x (by simp)]; exact hj)]; rfl
 | x :: xs,h,i + 1,hi,j,hj=>by
  have hx:=h x (by simp)
  rw [Xq,List.getElem?_append_right (by rw [hx,Nat.succ_mul]; omega),hx]
  rw [show (i + 1) * k + j - k = i * k + j by rw [Nat.succ_mul]; omega]
  exact flat_get (fun y hy=>h y (List.mem_cons_of_mem _ hy)) i (by simpa using hi) j hj
theorem VR.WV {E:Env} {k:Nat} {xs:List AV} {o:Own} {v:Value} (h:VR E (.sl k xs o) v) :
  ((∃ a,v = .slice a 0 0 ∧ (o ≠ .any → a = none)) ∧ xs = [] ∧ JD E 0 v 0 o) ∨
  ∃ b off cap cs,v = .slice (some ⟨b,off,none⟩) xs.length cap ∧ (∀ x ∈ xs,x.cells.length = k) ∧ VRs E (flat xs) cs ∧ (∀ j u,cs[j]? = some u → E.F b (off + j) = some u) ∧
   xs.length ≤ cap ∧ xs.length ≤ maxLen ∧ JD E xs.length v cap o:=by
 cases h with
 | slnil _ _ a ho ha=>exact .inl ⟨⟨a,rfl,ha⟩,rfl,ho⟩
 | sl _ _ _ b off cap c hk hc hv hcap hm ho =>
  have hk':∀ x ∈ xs,x.cells.length = k:=fun x hx=>by
   obtain ⟨i,hi,rfl⟩:=List.getElem_of_mem hx; exact hk i hi
  have hlen:=flat_length hk'
  refine .inr ⟨b,off,cap,(List.range (xs.length * k)).map (fun q=>c (q / k) (q % k)),rfl,hk',⟨by simp [hlen],fun q h1 h2=>?_⟩,fun q u hq=>?_,hcap,hm,ho⟩
  ·rw [hlen] at h1
   have hk0:0 < k:=by
    rcases Nat.eq_zero_or_pos k with h0 | h0
    ·subst h0; simp at h1
    ·exact h0
   have hi:q / k < xs.length:=Nat.div_lt_of_lt_mul (by rwa [Nat.mul_comm] at h1)
   have hj:q % k < k:=Nat.mod_lt _ hk0
   have hq:q / k * k + q % k = q:=by rw [Nat.mul_comm]; exact Nat.div_add_mod q k
   have hg:=flat_get hk' (q / k) hi (q % k) hj
   rw [hq] at hg
   have hjl:q % k < xs[q / k].cells.length:=by rw [hk (q / k) hi]; exact hj
   rw [List.getElem?_eq_getElem hjl,List.getElem?_eq_getElem (by rw [hlen]; exact h1),Option.some.injEq] at hg
   rw [hg]
   simpa using hv (q / k) hi (q % k) hjl
  ·rw [List.getElem?_map] at hq
   cases hr:(List.range (xs.length * k))[q]? with
   | none=>simp [hr] at hq
   | some q' =>
    rw [hr] at hq
    obtain ⟨hlt,hqq⟩:=List.getElem?_eq_some_iff.1 hr
    simp only [List.getElem_range] at hqq
    subst hqq
    simp only [List.length_range] at hlt
    simp only [Option.map_some,Option.some.injEq] at hq
    subst hq
    have hk0:0 < k:=by
     rcases Nat.eq_zero_or_pos k with h0 | h0
     ·subst h0; simp at hlt
     ·exact h0
    have hi:q / k < xs.length:=Nat.div_lt_of_lt_mul (by rwa [Nat.mul_comm] at hlt)
    have hq2:q / k * k + q % k = q:=by rw [Nat.mul_comm]; exact Nat.div_add_mod q k
    have:=hc (q / k) (q % k) hi (Nat.mod_lt _ hk0)
    rwa [hq2] at this
theorem VR.VJ {E:Env} {k:Nat} {xs:List AV} {o:Own} {b off cap:Nat} {cs:List Value} (hk:∀ x ∈ xs,x.cells.length = k) (hv:VRs E (flat xs) cs)
  (hF:∀ j u,cs[j]? = some u → E.F b (off + j) = some u) (hcap:xs.length ≤ cap) (hm:xs.length ≤ maxLen) (ho:JD E xs.length (.slice (some ⟨b,off,none⟩) xs.length cap) cap o) :
  VR E (.sl k xs o) (.slice (some ⟨b,off,none⟩) xs.length cap):=by
 have hlen:=flat_length hk
 have key:∀ i j (hi:i < xs.length),j < k → i * k + j < xs.length * k:=fun i j hi hj=>by
  have:(i + 1) * k ≤ xs.length * k:=Nat.mul_le_mul_right k hi
  rw [Nat.succ_mul] at this; omega
 refine .sl k xs o b off cap (fun i j=>cs.getD (i * k + j) undef) (fun i hi=>hk _ (List.getElem_mem hi)) (fun i j hi hj=>?_) (fun i hi j hj=>?_) hcap hm ho
 ·have hlt:=key i j hi hj
  have:cs[i * k + j]? = some (cs.getD (i * k + j) undef):=by
   rw [List.getD_eq_getElem?_getD,List.getElem?_eq_getElem (by rw [hv.1,hlen]; exact hlt)]; rfl
  exact hF _ _ this
 ·rw [hk _ (List.getElem_mem hi)] at hj
  have hlt:=key i j hi hj
  have h1:i * k + j < (flat xs).length:=by rw [hlen]; exact hlt
  have h2:i * k + j < cs.length:=by rw [hv.1]; exact h1
  have hg:=flat_get hk i hi j hj
  rw [List.getElem?_eq_getElem h1,List.getElem?_eq_getElem (by rw [hk _ (List.getElem_mem hi)]; exact hj),Option.some.injEq] at hg
  have:=hv.2 _ h1 h2
  rw [hg] at this
  simpa [List.getD_eq_getElem?_getD,List.getElem?_eq_getElem h2] using this
theorem VRs.take {E:Env} {as:List AV} {vs:List Value} (h:VRs E as vs) (n:Nat):VRs E (as.take n) (vs.take n) :=
 ⟨by simp [h.1],fun i h1 h2=>by simp only [List.getElem_take]; exact h.2 i _ _⟩
theorem VRs.drop {E:Env} {as:List AV} {vs:List Value} (h:VRs E as vs) (n:Nat):VRs E (as.drop n) (vs.drop n) :=
 ⟨by simp [h.1],fun i h1 h2=>by simp only [List.getElem_drop]; exact h.2 (n + i) _ _⟩
theorem Zb6 {k:Nat}:∀ {xs:List AV},(∀ x ∈ xs,x.cells.length = k) → ∀ n,flat (xs.take n) = (flat xs).take (n * k)
 | [],_,n=>by simp [flat]
 | x :: xs,h,0=>by simp [flat]
 | x :: xs,h,n + 1=>by
  have hx:=h x (by simp)
  rw [List.take_succ_cons,Xq,Xq,Zb6 (fun y hy=>h y (List.mem_cons_of_mem _ hy)) n,List.take_append,hx,Nat.succ_mul,List.take_of_length_le (l:=x.cells) (by omega),show n * k + k - k = n * k by omega]
theorem ZbQ {k:Nat}:∀ {xs:List AV},(∀ x ∈ xs,x.cells.length = k) → ∀ n,flat (xs.drop n) = (flat xs).drop (n * k)
 | [],_,n=>by simp [flat]
 | x :: xs,h,0=>by simp
 | x :: xs,h,n + 1=>by
  have hx:=h x (by simp)
  rw [List.drop_succ_cons,Xq,ZbQ (fun y hy=>h y (List.mem_cons_of_mem _ hy)) n,List.drop_append,hx,Nat.succ_mul,List.drop_of_length_le (l:=x.cells) (by omega),List.nil_append,show n * k + k - k = n * k by omega]
def bnd (ρ:Operand → AV):Option Operand → Int → Option Int
 | none,d=>some d
 | some x,_=>match ρ x with
  | .int _ i=>some i
  | _=>none
section ops
variable {P:Program} {T:TT} {o:Oper} {ρ:Operand → AV}
theorem Zb8 {E:Env} {a:Act} {x:Operand} {i:Int} {y:Nat} {c:BoundsCode} (h:VR E (ρ x) (a.eval x)) (hi:(match ρ x with | .int _ i=>some i | _=>none) = some i) (h0:0 ≤ i) (h1:i ≤ y) (w:World) :
  (Instr.sliceBound (a.eval x) y c).run P w = .ok i.toNat w:=by
 generalize ρ x = v at *
 generalize a.eval x = y' at *
 cases h <;> simp only [reduceCtorEq,Option.some.injEq] at hi
 subst hi
 simp [Instr.sliceBound,asIntOf,h0,h1]
theorem ZaV {E:Env} {a:Act} {lo hi:Option Operand} {l h:Int} {len cap:Nat} {s:Bool} (hv:∀ x,lo = some x ∨ hi = some x → VR E (ρ x) (a.eval x)) (hl:bnd ρ lo 0 = some l) (hh:bnd ρ hi len = some h)
  (h0:0 ≤ l) (h1:l ≤ h) (h2:h ≤ cap) (w:World):(Instr.sliceBounds s len cap (lo.map a.eval) (hi.map a.eval) none).run P w = .ok (l.toNat,h.toNat,cap) w:=by
 cases hi with
 | none =>
  simp only [bnd,Option.some.injEq] at hh
  subst hh
  cases lo with
  | none =>
   simp only [bnd,Option.some.injEq] at hl
   subst hl
   simp [Instr.sliceBounds]
  | some x =>
   have:=Zb8 (P:=P) (c:=.sliceB) (y:=len) (hv x (.inl rfl)) hl h0 h1 w
   simp [Instr.sliceBounds,this]
 | some y =>
  have hy:=Zb8 (P:=P) (c:=if s then .sliceAcap else .sliceAlen) (y:=cap) (hv y (.inr rfl)) hh (by omega) h2 w
  cases lo with
  | none =>
   simp only [bnd,Option.some.injEq] at hl
   subst hl
   cases s <;> simp [Instr.sliceBounds] at hy ⊢ <;> simp [hy]
  | some x =>
   have:=Zb8 (P:=P) (c:=.sliceB) (y:=h.toNat) (hv x (.inl rfl)) hl h0 (by omega) w
   cases s <;> simp [Instr.sliceBounds] at hy ⊢ <;> simp [hy,this]
theorem Zes {t:TypeId} {x:Operand} {lo hi:Option Operand} {r:ZE} {s:List UInt8} {l h:Int} (hT:TOK P T) (ho:o.op = .slice t x lo hi none) (h1:T t = some r) (h2:r.td = .str) (hv:ρ x = .str s)
  (hl:bnd ρ lo 0 = some l) (hh:bnd ρ hi s.length = some h) (h3:0 ≤ l) (h4:l ≤ h) (h5:h ≤ s.length):Y2 P o ρ (.str ((s.take h.toNat).drop l.toNat)):=fun E a hops=>by
 have hx:=hops x (by simp [ho,Op.operands])
 have hb:∀ y,lo = some y ∨ hi = some y → VR E (ρ y) (a.eval y):=fun y hy=>hops y (by rcases hy with rfl | rfl <;> simp [ho,Op.operands])
 rw [hv] at hx
 obtain ⟨d,inf,z,hf⟩:=Zl (hT t r h1)
 have hd:=WW (h2 ▸ hf.fits)
 subst hd
 generalize hy:a.eval x = y at hx
 cases hx with | str _ =>
 have hsz:(⟨s.toArray⟩:ByteArray).size = s.length:=by show s.toArray.size = s.length; simp
 refine ⟨.string ⟨((s.take h.toNat).drop l.toNat).toArray⟩,fun w=>?_,.str _⟩
 have hrun:=ZaV (P:=P) (s:=false) hb hl hh h3 h4 h5 w
 have he:execOp a.eval o = (do let v ← Instr.sliceAt t (a.eval x) (lo.map a.eval) (hi.map a.eval) none; pure (Next.value v)):=by simp only [execOp,ho]; rfl
 rw [he,hy]
 have hex:(⟨s.toArray⟩:ByteArray).extract l.toNat h.toNat = ⟨((s.take h.toNat).drop l.toNat).toArray⟩:=by
  apply ByteArray.ext
  rw [ByteArray.data_extract]
  simp [List.extract_eq_take_drop,List.drop_take]
 simp [Instr.sliceAt,Instr.slice,run_underlying hf.und,hsz,hrun,hex]
theorem Zfw {t:TypeId} {x:Operand} {lo hi:Option Operand} {r re:ZE} {e:TypeId} {k:Nat} {xs:List AV} {ow:Own} {l h:Int} (hT:TOK P T) (ho:o.op = .slice t x lo hi none) (h1:T t = some r) (h2:r.td = .slice e)
  (h2':T e = some re) (hk:k = re.size) (hv:ρ x = .sl k xs ow)
  (hl:bnd ρ lo 0 = some l) (hh:bnd ρ hi xs.length = some h) (h3:0 ≤ l) (h4:l ≤ h) (h5:h ≤ xs.length):Y2 P o ρ (.sl k ((xs.take h.toNat).drop l.toNat) .any):=fun E a hops=>by
 have hx:=hops x (by simp [ho,Op.operands])
 have hb:∀ y,lo = some y ∨ hi = some y → VR E (ρ y) (a.eval y):=fun y hy=>hops y (by rcases hy with rfl | rfl <;> simp [ho,Op.operands])
 rw [hv] at hx
 obtain ⟨d,inf,z,hf⟩:=Zl (hT t r h1)
 obtain ⟨d',i',z',hf'⟩:=Zl (hT e re h2')
 have hd:=Yp (h2 ▸ hf.fits)
 subst hd
 have he:execOp a.eval o = (do let v ← Instr.sliceAt t (a.eval x) (lo.map a.eval) (hi.map a.eval) none; pure (Next.value v)):=by simp only [execOp,ho]; rfl
 have hlen:((xs.take h.toNat).drop l.toNat).length = h.toNat - l.toNat:=by simp; omega
 rcases hx.WV with ⟨⟨ad,hy,_⟩,rfl,_⟩ | ⟨b,off,cap,cs,hy,hkk,hvs,hF,hcap,hm,_⟩
 ·have hl0:l = 0:=by simp at h5; omega
  have hh0:h = 0:=by simp at h5; omega
  subst hl0 hh0
  have hrun:=fun w=>ZaV (P:=P) (s:=true) (cap:=0) hb hl hh h3 h4 (by simp) w
  refine ⟨.slice ad 0 0,fun w=>?_,.slnil _ _ _ trivial (fun h=>absurd rfl h)⟩
  have hrun:=hrun w
  rw [he,hy]
  simp at hrun
  cases ad <;> simp [Instr.sliceAt,Instr.slice,run_underlying hf.und,hrun,ZT hf']
 ·have hrun:=fun w=>ZaV (P:=P) (s:=true) (cap:=cap) hb hl hh h3 h4 (by omega) w
  have hsub:∀ y ∈ (xs.take h.toNat).drop l.toNat,y.cells.length = k:=fun y hy=>hkk y (List.mem_of_mem_take (List.mem_of_mem_drop hy))
  have hflat:flat ((xs.take h.toNat).drop l.toNat) = ((flat xs).take (h.toNat * k)).drop (l.toNat * k):=by
   rw [ZbQ (fun y hy=>hkk y (List.mem_of_mem_take hy)),Zb6 hkk]
  by_cases hml:cap = l.toNat
  ·refine ⟨.slice (some ⟨b,off,none⟩) (h.toNat - l.toNat) (cap - l.toNat),fun w=>?_,?_⟩
   ·have hr:=hrun w
    rw [he,hy]
    simp only [Instr.sliceAt,Instr.slice,run_underlying hf.und,Sem.run_bind,Result.andThen_ok,hr,ZT hf',if_pos hml,Sem.run_pure]
   ·have h0:h.toNat - l.toNat = 0:=by omega
    have hnil:(xs.take h.toNat).drop l.toNat = []:=List.eq_nil_of_length_eq_zero (by omega)
    rw [hnil,h0]
    exact VR.VJ (cs:=[]) (by simp) (VRs.nil E) (by simp) (by simp) (by simp) trivial
  ·refine ⟨.slice (some ⟨b,off + l.toNat * k,none⟩) (h.toNat - l.toNat) (cap - l.toNat),fun w=>?_,?_⟩
   ·have hr:=hrun w
    rw [he,hy]
    simp only [Instr.sliceAt,Instr.slice,run_underlying hf.und,Sem.run_bind,Result.andThen_ok,hr,ZT hf',if_neg hml,Sem.run_pure,Option.map_some,Z9,hk]
   ·have:=VR.VJ (E:=E) (k:=k) (xs:=(xs.take h.toNat).drop l.toNat) (o:=.any) (b:=b) (off:=off + l.toNat * k) (cap:=cap - l.toNat) (cs:=(cs.take (h.toNat * k)).drop (l.toNat * k)) hsub
     (by rw [hflat]; exact (hvs.take _).drop _) ?_ (by omega) (by omega) trivial
    ·rwa [hlen] at this
    ·intro j u hj
     rw [List.getElem?_drop] at hj
     have hj2:cs[l.toNat * k + j]? = some u:=by
      rcases Nat.lt_or_ge (l.toNat * k + j) (h.toNat * k) with hlt | hge
      ·rwa [List.getElem?_take_of_lt hlt] at hj
      ·rw [List.getElem?_take,if_neg (by omega)] at hj; cases hj
     have:=hF _ _ hj2
     rwa [← Nat.add_assoc] at this
end ops
end Go.Abs

/- Composites; rows laid whole; append where the capacity is known to be used up. No program, no condition. -/
namespace Go.Abs
def splice (cells:List AV) (off:Nat) (cs:List AV):List AV:=cells.take off ++ (cs ++ cells.drop (off + cs.length))
def ZbD (place:Nat → Option (Nat × Nat)) (cells:List AV):List (Nat × AV) → Option (List AV)
 | []=>some cells
 | (i,v) :: rest =>
  match place i with
  | none=>none
  | some (off,size)=>if v.cells.length = size ∧ off + size ≤ cells.length then ZbD place (splice cells off v.cells) rest else none
theorem foldl_set {us:List Value}:∀ (off j:Nat) (cells:Array Value),off + (j + us.length) ≤ cells.size →
  ((us.zipIdx j).foldl (fun cs (c:Value × Nat)=>cs.setIfInBounds (off + c.2) c.1) cells).toList = cells.toList.take (off + j) ++ (us ++ cells.toList.drop (off + j + us.length)):=by
 induction us with
 | nil=>intro off j cells h; simp
 | cons u us ih =>
  intro off j cells h
  simp only [List.length_cons] at h
  rw [List.zipIdx_cons,List.foldl_cons,ih off (j + 1) _ (by simp; omega),Array.toList_setIfInBounds]
  have hlt:off + j < cells.toList.length:=by simp; omega
  rw [show off + (j + 1) = off + j + 1 by omega,List.take_succ_eq_append_getElem (by simpa using hlt),List.getElem_set_self,List.take_set_of_le (by omega),
   show off + j + 1 + us.length = off + j + (us.length + 1) by omega,List.drop_set_of_lt (by omega),List.length_cons,List.append_assoc]
  rfl
theorem Zdw {E:Env} {place:Nat → Option (Nat × Nat)}:∀ {parts:List (Nat × AV)} {vals:List (Nat × Value)} {cells out:List AV} {vs:Array Value},
  ZbD place cells parts = some out → VRs E cells vs.toList → vals.length = parts.length →
  (∀ i (h:i < parts.length) (h':i < vals.length),parts[i].1 = vals[i].1 ∧ VR E parts[i].2 vals[i].2 ∧ (∀ c ∈ parts[i].2.cells,c.one = true)) →
  ∃ us,Instr.fill place vs vals = some us ∧ VRs E out us.toList
 | [],vals,cells,out,vs,hf,hv,hl,_=>by
  have:vals = []:=by simpa using hl
  subst this
  simp only [ZbD,Option.some.injEq] at hf
  subst hf
  exact ⟨vs,rfl,hv⟩
 | (i,v) :: rest,vals,cells,out,vs,hf,hv,hl,hp=>by
  cases vals with
  | nil=>simp at hl
  | cons iv vals =>
   obtain ⟨i',u⟩:=iv
   obtain ⟨h1,h2,h3⟩:=hp 0 (by simp) (by simp)
   simp only [List.getElem_cons_zero] at h1 h2 h3
   subst h1
   simp only [ZbD] at hf
   simp only [Instr.fill]
   cases hpl:place i with
   | none=>simp [hpl] at hf
   | some os =>
    obtain ⟨off,size⟩:=os
    simp only [hpl] at hf ⊢
    split at hf
    ·rename_i hc
     have hcv:=h2.cells h3
     have hus:u.cells.size = size:=by have:=hcv.1; simp at this; omega
     have hcs:vs.size = cells.length:=by have:=hv.1; simpa using this
     rw [if_neg (by simp [hus,hcs]; omega)]
     refine Zdw hf ?_ (by simpa using hl) (fun j hj hj'=>?_)
     ·have:=foldl_set (us:=u.cells.toList) off 0 vs (by simp [hus]; omega)
      rw [← Array.foldl_toList,Array.toList_zipIdx,this]
      simp only [Nat.add_zero]
      have hlen:u.cells.toList.length = v.cells.length:=hcv.1
      unfold splice
      rw [hlen]
      exact (hv.take _).append (hcv.append (hv.drop _))
     ·have:=hp (j + 1) (by simpa using hj) (by simpa using hj')
      simpa using this
    ·cases hf
def YN (ρ:Operand → AV) (ps:List (Nat × Operand)):List (Nat × AV):=ps.map fun p=>(p.1,ρ p.2)
section ops
variable {P:Program} {T:TT} {o:Oper} {ρ:Operand → AV}
def Vt (T:TT) (fs:List (Nat × TypeId)):List (Option (Nat × Nat)):=fs.map fun f=>(T f.2).map fun r=>(f.1,r.size)
theorem ZfR {gs:Array Field} {fs:List (Nat × TypeId)} (hT:TOK P T) (hfit:gs.toList.map (fun g=>(g.offset,g.type)) = fs) (hall:∀ f ∈ fs,T f.2 ≠ none) (w:World) :
  ∃ ps:Array (Nat × Nat),(gs.mapM (m:=Sem) fun f=>do pure (f.offset,← sizeOf f.type)).run P w = .ok ps w ∧ ∀ i:Nat,ps[i]? = (Vt T fs)[i]?.join:=by
 have key:∀ (gs:List Field) (fs:List (Nat × TypeId)),gs.map (fun g=>(g.offset,g.type)) = fs → (∀ f ∈ fs,T f.2 ≠ none) →
   ∃ ps:List (Nat × Nat),(gs.mapM (m:=Sem) fun f=>do pure (f.offset,← sizeOf f.type)).run P w = .ok ps w ∧ ∀ i:Nat,ps[i]? = (Vt T fs)[i]?.join:=by
  intro gs
  induction gs with
  | nil=>intro fs h _; subst h; exact ⟨[],by simp,by simp [Vt]⟩
  | cons g gs ih =>
   intro fs h hall
   subst h
   obtain ⟨ps,h1,h2⟩:=ih _ rfl (fun f hf=>hall f (List.mem_cons_of_mem _ hf))
   have hg:=hall (g.offset,g.type) (by simp)
   cases hr:T g.type with
   | none=>exact absurd hr hg
   | some r =>
    obtain ⟨d,i,z,hf⟩:=Zl (hT g.type r hr)
    refine ⟨(g.offset,r.size) :: ps,?_,?_⟩
    ·rw [List.mapM_cons]
     simp only [Sem.run_bind,ZT hf,Result.andThen_ok,Sem.run_pure,h1]
    ·intro i
     cases i with
     | zero=>simp [Vt,hr]
     | succ i=>simpa [Vt] using h2 i
 obtain ⟨ps,h1,h2⟩:=key gs.toList fs hfit hall
 refine ⟨ps.toArray,?_,by simpa using h2⟩
 rw [Array.mapM_eq_mapM_toList,Sem.run_map,h1]
 rfl
theorem ZiV {t:TypeId} {ps:Array (Nat × Operand)} {r:ZE} {fs:List (Nat × TypeId)} {out:List AV} (hT:TOK P T) (ho:o.op = .build t ps) (h1:T t = some r) (h2:r.td = .struct fs) (hall:∀ f ∈ fs,T f.2 ≠ none)
  (hf:ZbD (fun i=>(Vt T fs)[i]?.join) r.zero (YN ρ ps.toList) = some out) (hone:∀ p ∈ YN ρ ps.toList,∀ c ∈ p.2.cells,c.one = true):Y2 P o ρ (.agg out):=fun E a h=>by
 obtain ⟨d,inf,z,hr⟩:=Zl (hT t r h1)
 have hfit:=hr.fits
 rw [h2] at hfit
 cases d <;> try (simp [TD.fits] at hfit; done)
 rename_i gs
 simp only [TD.fits,Bool.and_eq_true,beq_iff_eq] at hfit
 have hz:VRs E r.zero z.cells.toList:=X9 hr.zfits
 have hparts:∀ i (h:i < (YN ρ ps.toList).length) (h':i < (ps.toList.map fun p=>(p.1,a.eval p.2)).length),
   (YN ρ ps.toList)[i].1 = (ps.toList.map fun p=>(p.1,a.eval p.2))[i].1 ∧ VR E (YN ρ ps.toList)[i].2 (ps.toList.map fun p=>(p.1,a.eval p.2))[i].2 ∧ (∀ c ∈ (YN ρ ps.toList)[i].2.cells,c.one = true):=by
  intro i h1 h2
  refine ⟨by simp [YN],?_,fun c hc=>hone _ (List.getElem_mem h1) c hc⟩
  simp only [YN,List.getElem_map]
  have hi:i < ps.toList.length:=by simpa [YN] using h1
  exact h _ (by rw [ho]; simp only [Op.operands]; simp only [List.mem_toArray,List.mem_map]; exact ⟨ps.toList[i],by simp,rfl⟩)
 obtain ⟨us,hu1,hu2⟩:=Zdw hf hz (by simp [YN]) hparts
 refine ⟨.agg us,fun w=>?_,?_⟩
 ·obtain ⟨pl,hp1,hp2⟩:=ZfR (P:=P) (T:=T) (gs:=gs) hT hfit.1 hall w
  have he:execOp a.eval o = (do let v ← Instr.build t (ps.map fun (i,x)=>(i,a.eval x)); pure (Next.value v)):=by simp only [execOp,ho]
  have hpl:(fun i=>pl[i]?) = (fun i=>(Vt T fs)[i]?.join):=funext hp2
  have hm:(ps.map fun (i,x)=>(i,a.eval x)).toList = ps.toList.map fun p=>(p.1,a.eval p.2):=by simp
  rw [he]
  simp only [Instr.build,Sem.run_bind,Yo hr,Result.andThen_ok,run_underlying hr.und,hp1,hm]
  have hu1':Instr.fill (fun x=>pl[x]?) z.cells (ps.toList.map fun p=>(p.1,a.eval p.2)) = some us:=by rw [hpl]; exact hu1
  rw [hu1']
  rfl
 ·have:us = us.toList.toArray:=by simp
  rw [this]
  exact .agg out us.toList hu2.1 hu2.2
theorem Zjc {t:TypeId} {x:Operand} {f:Nat} {r rf:ZE} {fs:List (Nat × TypeId)} {fo ft:Nat} {cs:List AV} (hT:TOK P T) (ho:o.op = .field t x f) (h1:T t = some r) (h2:r.td = .struct fs)
  (h3:fs[f]? = some (fo,ft)) (h4:T ft = some rf) (hv:ρ x = .agg cs) (hn:rf.isAgg = false → fo < cs.length) :
  Y2 P o ρ (if rf.isAgg then .agg ((cs.drop fo).take rf.size) else cs.getD fo .dead):=fun E a h=>by
 have hx:=h x (by simp [ho,Op.operands])
 rw [hv] at hx
 obtain ⟨d,i,z,hf⟩:=Zl (hT t r h1)
 obtain ⟨d',i',z',hf'⟩:=Zl (hT ft rf h4)
 have hfit:=hf.fits
 rw [h2] at hfit
 cases d <;> try (simp [TD.fits] at hfit; done)
 rename_i gs
 simp only [TD.fits,Bool.and_eq_true,beq_iff_eq] at hfit
 have hg:∃ g,gs[f]? = some g ∧ g.offset = fo ∧ g.type = ft:=by
  have h3':=h3
  rw [← hfit.1,List.getElem?_map] at h3'
  cases hq:gs.toList[f]? with
  | none=>simp [hq] at h3'
  | some g=>rw [hq] at h3'; simp at h3'; exact ⟨g,by rw [← Array.getElem?_toList]; exact hq,h3'.1,h3'.2⟩
 obtain ⟨g,hg1,hg2,hg3⟩:=hg
 generalize hy:a.eval x = y at hx
 cases hx with | agg _ vs hl hvs =>
 have he:execOp a.eval o = (do let v ← Instr.field t (a.eval x) f; pure (Next.value v)):=by simp only [execOp,ho]
 have hvv:VRs E cs vs:=⟨hl,hvs⟩
 cases hag:rf.isAgg with
 | true =>
  refine ⟨.agg ((vs.drop fo).take rf.size).toArray,fun w=>?_,?_⟩
  ·rw [he,hy]
   have hpt:(part g.type vs.toArray g.offset).run P w = .ok (.agg ((vs.drop fo).take rf.size).toArray) w:=by
    unfold part
    rw [hg3,hg2]
    simp only [Sem.run_bind,VA hf',hag,Result.andThen_ok,if_true,ZT hf',Sem.run_pure,List.extract_toArray,List.extract_eq_take_drop]
    congr 4; omega
   simp only [Instr.field,Sem.run_bind,run_underlying hf.und,Result.andThen_ok,hg1,asAgg,Sem.run_pure,hpt]
  ·have:=(hvv.drop fo).take rf.size
   simp only [if_true]
   exact .agg _ _ this.1 this.2
 | false =>
  have hlt:=hn hag
  refine ⟨vs[fo]'(by omega),fun w=>?_,?_⟩
  ·rw [he,hy]
   have hpt:(part g.type vs.toArray g.offset).run P w = .ok (vs[fo]'(by omega)) w:=by
    unfold part
    rw [hg3,hg2]
    simp [VA hf',hag,List.getElem?_eq_getElem (show fo < vs.length by omega)]
   simp only [Instr.field,Sem.run_bind,run_underlying hf.und,Result.andThen_ok,hg1,asAgg,Sem.run_pure,hpt]
  ·simp only [Bool.false_eq_true,if_false]
   have:=hvs fo hlt (by omega)
   simpa [List.getD_eq_getElem?_getD,List.getElem?_eq_getElem hlt] using this
end ops
end Go.Abs

/- Rows laid whole; append where the capacity is known to be used up. No program, no condition. -/
namespace Go.Abs
theorem Zkd {P:Program} {m:Nat} {o:Oper} {ρ:Operand → AV} {k:Nat} {xs:List AV} {ow:Own} {H:Zf}
  (h:∀ E w (a:Act),ZJ m H E w → (∀ x ∈ o.op.operands,VR E (ρ x) (a.eval x)) →
   ∃ (w1:World) (e:TypeId) (vs:List Value) (cap:Nat),(execOp a.eval o).run P w = .ok (.value (.slice (some ⟨w.heap.size,0,none⟩) xs.length cap)) (w1.alloc (.cells vs.toArray e)) ∧
    w1.os = w.os ∧ w1.tape = w.tape ∧ w1.output = w.output ∧ w.drawn ≤ w1.drawn ∧ w1.heap = w.heap ∧ (∀ x ∈ xs,x.cells.length = k) ∧ VRs E (flat xs) (vs.take (xs.length * k)) ∧ xs.length ≤ cap ∧ xs.length ≤ maxLen ∧
    (match ow with | .any=>True | .full=>cap = xs.length | .buf _ _=>False)):Xe P m o ρ H (.sl k xs ow) H:=by
 intro E w a hr ho
 obtain ⟨w1,e,vs,cap,hrun,h1,h2,h3,hdr,h4,hk,hv,hcap,hm,how⟩:=h E w a hr ho
 obtain ⟨hh,hx⟩:=hr.newRow vs.toArray e h1 h2 h3 (fun _=>hdr) h4
 refine ⟨_,_,_,.inl hrun,?_,hh,hx⟩
 refine VR.VJ (cs:=vs.take (xs.length * k)) hk (hv.mono hr.norm hx.le) (fun j u hj=>?_) hcap hm ?_
 ·simp only [Env.addRow,if_true,Nat.zero_add]
  have hlt:j < xs.length * k:=by
   rcases Nat.lt_or_ge j (xs.length * k) with h | h
   ·exact h
   ·rw [List.getElem?_take,if_neg (by omega)] at hj; cases hj
  rw [List.getElem?_take_of_lt hlt] at hj
  simpa using hj
 ·cases ow with
  | any=>trivial
  | full=>exact how
  | buf l j=>exact how.elim
def inOrder (i:Nat):List (Nat × Operand) → Bool
 | []=>true
 | p :: r=>p.1 == i && inOrder (i + 1) r
theorem Ju {E:Env} {k n:Nat}:∀ {ps:List (Nat × Operand)} {xs:List AV} {vals:List (Nat × Value)} {pre post:List Value},
  inOrder n ps = true → xs.length = ps.length → vals.length = ps.length → pre.length = n * k → post.length = ps.length * k →
  (∀ i (h:i < ps.length) (h':i < vals.length) (h'':i < xs.length),vals[i].1 = ps[i].1 ∧ VR E xs[i] vals[i].2) → (∀ x ∈ xs,x.cells.length = k ∧ ∀ c ∈ x.cells,c.one = true) →
  ∃ us,Instr.fill (fun i=>some (i * k,k)) (pre ++ post).toArray vals = some (pre ++ us).toArray ∧ VRs E (flat xs) us
 | [],xs,vals,pre,post,_,hx,hl,_,hpost,_,_=>by
  have e1:xs = []:=by simpa using hx
  have e2:vals = []:=by simpa using hl
  have e3:post = []:=List.eq_nil_of_length_eq_zero (by simpa using hpost)
  subst e1 e2 e3
  exact ⟨[],rfl,VRs.nil E⟩
 | p :: ps,xs,vals,pre,post,hi,hx,hl,hpre,hpost,hp,ho=>by
  cases xs with
  | nil=>simp at hx
  | cons x xs =>
   cases vals with
   | nil=>simp at hl
   | cons iv vals =>
    obtain ⟨i,u⟩:=iv
    simp only [inOrder,Bool.and_eq_true,beq_iff_eq] at hi
    obtain ⟨hi1,hi2⟩:=hi
    obtain ⟨h1,h2⟩:=hp 0 (by simp) (by simp) (by simp)
    simp only [List.getElem_cons_zero] at h1 h2
    obtain ⟨h3,h4⟩:=ho x (by simp)
    have hcv:=h2.cells h4
    have hul:u.cells.toList.length = k:=hcv.1.trans h3
    have hul':u.cells.size = k:=by simpa using hul
    have hin:i = n:=h1.trans hi1
    subst hin
    simp only [List.length_cons,Nat.succ_mul] at hpost
    simp only [Instr.fill]
    rw [if_neg (by simp [hul',hpre]; omega)]
    have hset:=foldl_set (us:=u.cells.toList) (i * k) 0 (pre ++ post).toArray (by simp [hul',hpre]; omega)
    simp only [Nat.add_zero] at hset
    have harr:(u.cells.zipIdx.foldl (fun cs (c:Value × Nat)=>cs.setIfInBounds (i * k + c.2) c.1) (pre ++ post).toArray) = ((pre ++ u.cells.toList) ++ post.drop k).toArray:=by
     apply Array.ext'
     rw [← Array.foldl_toList,Array.toList_zipIdx,hset,hul]
     simp only [← hpre,List.take_left,List.append_assoc]
     rw [List.drop_append,List.drop_of_length_le (by omega),List.nil_append,show pre.length + k - pre.length = k by omega]
    rw [harr]
    obtain ⟨us,hu1,hu2⟩:=Ju (n:=i + 1) (pre:=pre ++ u.cells.toList) (post:=post.drop k) hi2 (by simpa using hx) (by simpa using hl) (by rw [List.length_append,hpre,hul,Nat.succ_mul]) (by simp; omega)
     (fun j a1 a2 a3=>by have:=hp (j + 1) (by simpa using a1) (by simpa using a2) (by simpa using a3); simpa using this) (fun y hy=>ho y (List.mem_cons_of_mem _ hy))
    refine ⟨u.cells.toList ++ us,by rw [hu1,List.append_assoc],?_⟩
    rw [Xq]; exact hcv.append hu2
section ops
variable {P:Program} {T:TT} {o:Oper} {ρ:Operand → AV}
theorem ZdF {m:Nat} {H:Zf} {t:TypeId} {n:Nat} {ps:Array (Nat × Operand)} {r re:ZE} {e:TypeId} (hT:TOK P T) (ho:o.op = .buildSlice t n ps) (h1:T t = some r) (h2:r.td = .slice e) (h3:T e = some re)
  (hin:inOrder 0 ps.toList = true) (hn:n = ps.size) (hsz:0 < re.size) (hsmall:n * re.size ≤ 2 ^ 24) (hk:∀ x ∈ ps.toList.map (fun p=>ρ p.2),x.cells.length = re.size ∧ ∀ c ∈ x.cells,c.one = true) :
  Xe P m o ρ H (.sl re.size (ps.toList.map fun p=>ρ p.2) .full) H:=Zkd fun E w a hr hops=>by
 obtain ⟨d,inf,z,hf⟩:=Zl (hT t r h1)
 obtain ⟨d',i',z',hf'⟩:=Zl (hT e re h3)
 have hd:=Yp (h2 ▸ hf.fits)
 subst hd
 have he:execOp a.eval o = (do let v ← Instr.buildSlice t n (ps.map fun (i,x)=>(i,a.eval x)); pure (Next.value v)):=by simp only [execOp,ho]
 have hm:(ps.map fun (i,x)=>(i,a.eval x)).toList = ps.toList.map fun p=>(p.1,a.eval p.2):=by simp
 have hparts:∀ i (h:i < ps.toList.length) (h':i < (ps.toList.map fun p=>(p.1,a.eval p.2)).length) (h'':i < (ps.toList.map fun p=>ρ p.2).length),
   (ps.toList.map fun p=>(p.1,a.eval p.2))[i].1 = ps.toList[i].1 ∧ VR E (ps.toList.map fun p=>ρ p.2)[i] (ps.toList.map fun p=>(p.1,a.eval p.2))[i].2:=by
  intro i h h' h''
  refine ⟨by simp,?_⟩
  simp only [List.getElem_map]
  exact hops _ (by rw [ho]; simp only [Op.operands,List.mem_toArray,List.mem_map]; exact ⟨ps.toList[i],by simp,rfl⟩)
 have hfill:∀ (cells:List Value),cells.length = n * re.size → ∃ us:List Value,Instr.fill (fun i=>some (i * re.size,re.size)) cells.toArray (ps.toList.map fun p=>(p.1,a.eval p.2)) = some us.toArray ∧
   VRs E (flat (ps.toList.map fun p=>ρ p.2)) us:=by
  intro cells hc
  have:=Ju (E:=E) (k:=re.size) (n:=0) (ps:=ps.toList) (xs:=ps.toList.map fun p=>ρ p.2) (vals:=ps.toList.map fun p=>(p.1,a.eval p.2)) (pre:=[]) (post:=cells) hin (by simp) (by simp) (by simp) (by rw [hc,hn]; simp) hparts hk
  simpa using this
 have hlen:(ps.toList.map fun p=>ρ p.2).length = n:=by simp [hn]
 have hflen:=flat_length (k:=re.size) (xs:=ps.toList.map fun p=>ρ p.2) (fun x hx=>(hk x hx).1)
 have h24:¬ n * re.size > 2 ^ 24:=by omega
 have hml:n ≤ maxLen:=by
  have:n ≤ n * re.size:=Nat.le_mul_of_pos_right n hsz
  unfold maxLen; omega
 by_cases h0:n * re.size = 0
 ·obtain ⟨us,hu1,hu2⟩:=hfill [] (by simp [h0])
  have hu0:us = []:=List.eq_nil_of_length_eq_zero (by rw [hu2.1,hflen,hlen,h0])
  refine ⟨w,e,us,n,?_,rfl,rfl,rfl,Nat.le_refl _,rfl,fun x hx=>(hk x hx).1,?_,by omega,by omega,by simp [hlen]⟩
  ·rw [he,hlen]
   have hz:∀ f:Nat → Value,(Array.range (n * re.size)).map f = #[]:=fun f=>by rw [h0]; simp
   have:Instr.fill (fun i=>some (i * re.size,re.size)) #[] (ps.toList.map fun p=>(p.1,a.eval p.2)) = some us.toArray:=hu1
   simp only [Instr.buildSlice,Sem.run_bind,run_underlying hf.und,Result.andThen_ok,ZT hf',if_neg h24,Sem.run_pure,if_pos h0,hz,hm,this]
   simp [newRow,newObj,Sem.run]
  ·rw [hlen,h0,hu0]; simpa [hu0] using hu2
 ·obtain ⟨us,hu1,hu2⟩:=hfill ((Array.range (n * re.size)).map (z'.cells[· % z'.cells.size]!)).toList (by simp)
  have hul:us.length = n * re.size:=by rw [hu2.1,hflen,hlen]
  refine ⟨w,e,us,n,?_,rfl,rfl,rfl,Nat.le_refl _,rfl,fun x hx=>(hk x hx).1,?_,by omega,by omega,by simp [hlen]⟩
  ·rw [he,hlen]
   have:Instr.fill (fun i=>some (i * re.size,re.size)) ((Array.range (n * re.size)).map (z'.cells[· % z'.cells.size]!)) (ps.toList.map fun p=>(p.1,a.eval p.2)) = some us.toArray:=by
    rw [← hu1]
   simp only [Instr.buildSlice,Sem.run_bind,run_underlying hf.und,Result.andThen_ok,ZT hf',if_neg h24,Sem.run_pure,if_neg h0,Yo hf',hm,this]
   simp [newRow,newObj,Sem.run]
  ·rw [hlen,List.take_of_length_le (by omega)]; exact hu2
theorem or_append {m:Nat} {H:Zf} {t:TypeId} {x y:Operand} {r re:ZE} {e:TypeId} {k k':Nat} {xs ys:List AV} {ow:Own} (hT:TOK P T)
  (ho:o.op = .call { callee:=.builtin .append,args:=#[x,y],argTypes:=#[t,t] }) (h1:T t = some r) (h2:r.td = .slice e) (h3:T e = some re) (hsz:0 < re.size)
  (hx:ρ x = .sl k xs .full) (hy:ρ y = .sl k' ys ow) (hk:xs = [] ∨ k = re.size) (hk':ys = [] ∨ k' = re.size) (hml:xs.length + ys.length ≤ maxLen) (hby:(xs.length + ys.length) * re.bytes ≤ 140737488355328) :
  Xe P m o ρ H (.sl re.size (xs ++ ys) .any) H:=fun E w a hr hops=>by
 obtain ⟨d,inf,z,hf⟩:=Zl (hT t r h1)
 obtain ⟨d',i',z',hf'⟩:=Zl (hT e re h3)
 have hd:=Yp (h2 ▸ hf.fits)
 subst hd
 have hxv:=hops x (by simp [ho,Op.operands,Call.operands])
 have hyv:=hops y (by simp [ho,Op.operands,Call.operands])
 rw [hx] at hxv
 rw [hy] at hyv
 have he:∀ w',(execOp a.eval o).run P w' = ((Builtin.append_ #[t,t] o.type #[a.eval x,a.eval y]).run P w').andThen fun v w''=>.ok (.value v) w'':=fun w'=>by
  simp [execOp,ho,resolve,invoke,builtin]
 have hu:P.underlying t = some (.slice e):=hf.und
 have hsm:(9223372036854775807:Int) = 9223372036854775807:=rfl
 have hmx:xs.length + ys.length ≤ 9223372036854775807:=by unfold maxLen at hml; omega
 by_cases hy0:ys = []
 ·-- nothing is appended: the first one itself
  subst hy0
  rw [List.append_nil]
  have hrun:(Builtin.append_ #[t,t] o.type #[a.eval x,a.eval y]).run P w = .ok (a.eval x) w:=by
   rcases hxv.WV with ⟨⟨a1,e1,_⟩,_,_⟩ | ⟨b,off,cap,cs,e1,_,_,_,hc,_,_⟩ <;> rcases hyv.WV with ⟨⟨a2,e2,_⟩,_,_⟩ | ⟨b2,off2,cap2,cs2,e2,_,_,_,hc2,_,_⟩ <;> rw [e1,e2]
   ·cases a1 <;> cases a2 <;> simp [Builtin.append_,run_underlying hu,sizeOf,typeInfo,hf'.info,Builtin.lenOf,Builtin.firstCells,loadCells,loadCellsFrom,storeCells]
   ·cases a1 <;> simp [Builtin.append_,run_underlying hu,sizeOf,typeInfo,hf'.info,Builtin.lenOf,Builtin.firstCells,loadCells,loadCellsFrom,storeCells]
   ·cases a2 <;> simp [Builtin.append_,run_underlying hu,sizeOf,typeInfo,hf'.info,Builtin.lenOf,Builtin.firstCells,hc,loadCells,loadCellsFrom,storeCells]
   ·simp [Builtin.append_,run_underlying hu,sizeOf,typeInfo,hf'.info,Builtin.lenOf,Builtin.firstCells,hc,loadCells,loadCellsFrom,storeCells]
  refine ⟨a.eval x,E,w,.inl (by rw [he,hrun]; rfl),?_,hr,.refl m E w⟩
  rcases hk with rfl | rfl
  ·exact (Jq hxv).any
  ·exact hxv.any
 ·have hk':k' = re.size:=hk'.resolve_left hy0
  subst hk'
  rcases hyv.WV with ⟨_,e2,_⟩ | ⟨b2,off2,cap2,cs2,e2,hky,hvy,hFy,_,_,_⟩
  ·exact absurd e2 hy0
  have hylen:0 < ys.length:=List.length_pos_iff.2 hy0
  have hl2:cs2.length = ys.length * i'.size:=by rw [hvy.1,flat_length hky,hf'.size]
  have hn2:∀ j v,cs2[j]? = some v → w.cell? ((⟨b2,off2,none⟩:Addr).add j) = some v:=fun j v hj=>by rw [Z9]; exact hr.F _ _ _ (hFy j v hj)
  have hb48:Builtin.nextslicecap (xs.length + ys.length) xs.length * i'.bytes ≤ 281474976710656:=growslice_fits (by omega) (by rw [hf'.bytes]; exact hby)
  have fin:∀ (vs:List Value) (cap:Nat),(execOp a.eval o).run P w = .ok (.value (.slice (some ⟨w.heap.size,0,none⟩) (xs ++ ys).length cap)) (w.drew.alloc (.cells vs.toArray e)) → (∀ x ∈ xs ++ ys,x.cells.length = re.size) →
    VRs E (flat (xs ++ ys)) (vs.take ((xs ++ ys).length * re.size)) → (xs ++ ys).length ≤ cap → ∃ cv E' w',((execOp a.eval o).run P w = .ok (.value cv) w' ∨ ((execOp a.eval o).run P w = .ok .skip w' ∧ cv = undef)) ∧ VR E' (.sl re.size (xs ++ ys) .any) cv ∧ ZJ m H E' w' ∧ Ext m E w E' w':=by
   intro vs cap hrun hkk hvv hcap
   obtain ⟨hh,hxx⟩:=hr.newRow vs.toArray e (w1:=w.drew) rfl rfl rfl (fun _=>Nat.le_succ _) rfl
   refine ⟨_,_,_,.inl hrun,?_,hh,hxx⟩
   refine VR.VJ (cs:=vs.take ((xs ++ ys).length * re.size)) hkk (hvv.mono hr.norm hxx.le) (fun j u hj=>?_) hcap (by rw [List.length_append]; exact hml) trivial
   simp only [Env.addRow,if_true,Nat.zero_add]
   have hlt:j < (xs ++ ys).length * re.size:=by
    rcases Nat.lt_or_ge j ((xs ++ ys).length * re.size) with h | h
    ·exact h
    ·rw [List.getElem?_take,if_neg (by omega)] at hj; cases hj
   rw [List.getElem?_take_of_lt hlt] at hj
   simpa using hj
  rcases hxv.WV with ⟨⟨a1,e1,ea1⟩,ex,_⟩ | ⟨b1,off1,cap1,cs1,e1,hkx,hvx,hFx,hc1,_,how⟩
  ·subst ex
   obtain rfl:=ea1 (by simp)
   simp only [List.length_nil,Nat.zero_add] at hmx hb48 hml hby
   have hr1:=run_append_nil (P:=P) w t o.type e i' z' hu hf'.info hf'.zero ⟨b2,off2,none⟩ ys.length cap2 cs2 hl2 hn2 hylen (by omega) (by rw [hf'.bytes]; omega)
   simp only [List.nil_append]
   simp only [List.nil_append] at fin
   refine fin (cs2 ++ (Builtin.zeroCells z'.cells (grownCap w ys.length 0 e - ys.length)).toList) (grownCap w ys.length 0 e) ?_ hky ?_ (grownCap_ge w _ _ _)
   ·rw [he,e1,e2,hr1]
    simp only [Result.andThen_ok]
    congr 3
    apply Array.ext'; simp
   ·rw [List.take_append_of_le_length (by rw [hvy.1,flat_length hky]; exact Nat.le_refl _),List.take_of_length_le (by rw [hvy.1,flat_length hky]; exact Nat.le_refl _)]
    exact hvy
  ·have hcap1:cap1 = xs.length:=how
   subst hcap1
   by_cases hx0:xs = []
   ·subst hx0
    simp only [List.length_nil,Nat.zero_add] at hmx hb48 hml hby
    have hcs1:cs1 = []:=List.eq_nil_of_length_eq_zero (by rw [hvx.1]; rfl)
    have hr1:=run_append_grow (P:=P) w t o.type e i' z' hu hf'.info hf'.zero ⟨b1,off1,none⟩ 0 0 [] (by simp) (by simp) ⟨b2,off2,none⟩ ys.length cap2 cs2 hl2 hn2 (by omega) (by omega) (by simpa using hb48)
    simp only [List.nil_append]
    simp only [List.nil_append] at fin
    simp only [Nat.zero_add] at hr1
    refine fin (cs2 ++ (Builtin.zeroCells z'.cells (grownCap w ys.length 0 e - ys.length)).toList) (grownCap w ys.length 0 e) ?_ hky ?_ (grownCap_ge w _ _ _)
    ·rw [he,e1,e2]
     simp only [List.length_nil]
     rw [hr1]
     simp only [Result.andThen_ok]
     congr 3
     apply Array.ext'; simp
    ·rw [List.take_append_of_le_length (by rw [hvy.1,flat_length hky]; exact Nat.le_refl _),List.take_of_length_le (by rw [hvy.1,flat_length hky]; exact Nat.le_refl _)]
     exact hvy
   ·have hkk:=hk.resolve_left hx0
    subst hkk
    have hl1:cs1.length = xs.length * i'.size:=by rw [hvx.1,flat_length hkx,hf'.size]
    have hn1:∀ j v,cs1[j]? = some v → w.cell? ((⟨b1,off1,none⟩:Addr).add j) = some v:=fun j v hj=>by rw [Z9]; exact hr.F _ _ _ (hFx j v hj)
    have hr1:=run_append_grow (P:=P) w t o.type e i' z' hu hf'.info hf'.zero ⟨b1,off1,none⟩ xs.length xs.length cs1 hl1 hn1 ⟨b2,off2,none⟩ ys.length cap2 cs2 hl2 hn2 (by omega) (by omega) hb48
    have hkall:∀ x ∈ xs ++ ys,x.cells.length = re.size:=fun x hx=>by
     rcases List.mem_append.1 hx with h | h
     ·exact hkx x h
     ·exact hky x h
    have hlall:(cs1 ++ cs2).length = (xs ++ ys).length * re.size:=by rw [List.length_append,hl1,hl2,hf'.size,List.length_append,Nat.add_mul]
    refine fin (cs1 ++ cs2 ++ (Builtin.zeroCells z'.cells (grownCap w (xs.length + ys.length) xs.length e - (xs.length + ys.length))).toList) (grownCap w (xs.length + ys.length) xs.length e) ?_ hkall ?_ (by rw [List.length_append]; exact grownCap_ge w _ _ _)
    ·rw [he,e1,e2,hr1,List.length_append]
     simp only [Result.andThen_ok]
     congr 3
     apply Array.ext'; simp
    ·rw [List.take_append_of_le_length (by omega),List.take_of_length_le (by omega),Zcr]
     exact hvx.append hvy
end ops
end Go.Abs
