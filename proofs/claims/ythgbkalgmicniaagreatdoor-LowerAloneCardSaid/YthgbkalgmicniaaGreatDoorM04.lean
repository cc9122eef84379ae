/- Operations on keys: comparison of structs; slices that may be written. No program, no condition. -/
import Derived.Test.YthgbkalgmicniaaGreatDoorM03
import Derived.Laws.StructEq
import Derived.WideKeyRuns
import Derived.Laws.IdiomRangeMap
set_option linter.all false
namespace Go.Abs
inductive KL where
 | int (k:IntKind) (n:Int)
 | str (l:List UInt8)
 | bool (b:Bool)
 deriving DecidableEq
def KL.val:KL → Value
 | .int k n=>.int k n
 | .str l=>.string ⟨l.toArray⟩
 | .bool b=>.bool b
def AV.kl:AV → Option KL
 | .int k n=>some (.int k n)
 | .str l=>some (.str l)
 | .bool b=>some (.bool b)
 | _=>none
def klAll:List AV → Option (List KL)
 | []=>some []
 | a :: r=>match a.kl,klAll r with
  | some x,some xs=>some (x :: xs)
  | _,_=>none
theorem kl_val {E:Env} {a:AV} {v:Value} {q:KL} (h:a.kl = some q) (hv:VR E a v):v = q.val:=by
 cases hv <;> simp [AV.kl] at h <;> subst h <;> rfl
theorem klAll_val {E:Env}:∀ {as:List AV} {vs:List Value} {ls:List KL},klAll as = some ls → VRs E as vs → vs = ls.map KL.val
 | [],vs,ls,h,hv=>by simp [klAll] at h; subst h; simpa using hv.of_nil
 | a :: r,vs,ls,h,hv=>by
  obtain ⟨v,us,rfl,h1,h2⟩:=hv.uncons
  simp only [klAll] at h
  split at h
  ·rename_i x xs hx hxs
   cases h
   rw [kl_val hx h1,klAll_val hxs h2]; rfl
  ·cases h
def covers (T:TT):List (Nat × TypeId) → Nat → Option Nat
 | [],n=>some n
 | (o,ft) :: r,n=>if o = n then match T ft with
  | some rf=>covers T r (n + rf.size)
  | none=>none else none
def keyFits (T:TT):Nat → TypeId → List KL → Bool
 | 0,_,_=>false
 | d + 1,t,l=>match T t with
  | some r=>match r.td with
   | .int k=>match l with
    | [.int k' _]=>k == k'
    | _=>false
   | .str=>match l with
    | [.str _]=>true
    | _=>false
   | .bool=>match l with
    | [.bool _]=>true
    | _=>false
   | .struct fs=>l.length == r.size && covers T fs 0 == some r.size && fs.all fun p=>match T p.2 with
    | some rf=>keyFits T d p.2 ((l.drop p.1).take rf.size)
    | none=>false
   | _=>false
  | none=>false
def kvOf (r:TRow) (l:List KL):Value:=if r.isAgg then .agg (l.map KL.val).toArray else (l.map KL.val).getD 0 undef
theorem beq_split {l m:List KL} (n k:Nat) (h:l.length = m.length):(l.drop n == m.drop n) = ((l.drop n).take k == (m.drop n).take k && (l.drop (n + k) == m.drop (n + k))):=by
 rw [Bool.eq_iff_iff]
 simp only [beq_iff_eq,Bool.and_eq_true]
 rw [← List.drop_drop,← List.drop_drop]
 constructor
 ·intro e; rw [e]; exact ⟨rfl,rfl⟩
 ·rintro ⟨h1,h2⟩
  rw [← List.take_append_drop k (l.drop n),← List.take_append_drop k (m.drop n),h1,h2]
section
variable {P:Program} {T:TT}
theorem run_part_key (hT:TOK P T) {t:TypeId} {r:TRow} (h1:T t = some r) {d:Nat} {l:List KL} {off:Nat} (hl:off + r.size ≤ l.length) (hk:keyFits T d t ((l.drop off).take r.size) = true) (w:World) :
  (part t (l.map KL.val).toArray off).run P w = .ok (kvOf r ((l.drop off).take r.size)) w:=by
 obtain ⟨dd,i,z,hf⟩:=rowOK_facts (hT t r h1)
 unfold part kvOf
 simp only [Sem.run_bind,run_isAgg' hf,Result.andThen_ok]
 cases hag:r.isAgg with
 | true =>
  simp only [if_true,run_sizeOf' hf,Sem.run_bind,Result.andThen_ok,Sem.run_pure]
  congr 2
  apply Array.ext'
  simp [List.extract,← List.map_drop,← List.map_take]
 | false =>
  simp only [Bool.false_eq_true,if_false]
  have h2:∃ q,(l.drop off).take r.size = [q]:=by
   cases d with
   | zero=>simp [keyFits] at hk
   | succ d =>
    simp only [keyFits,h1] at hk
    split at hk
    ·split at hk
     ·rename_i e; exact ⟨_,e⟩
     ·cases hk
    ·split at hk
     ·rename_i e; exact ⟨_,e⟩
     ·cases hk
    ·split at hk
     ·rename_i e; exact ⟨_,e⟩
     ·cases hk
    ·rename_i fs hfs
     simp [TRow.isAgg,hfs] at hag
    ·cases hk
  obtain ⟨q,hq⟩:=h2
  rw [hq]
  have hx:l[off]? = some q:=by
   have:=congrArg (·[0]?) hq
   have hsz:0 < r.size:=by
    rcases Nat.eq_zero_or_pos r.size with h | h
    ·rw [h] at hq; simp at hq
    ·exact h
   simp only [List.getElem?_take,hsz,if_true,List.getElem?_drop,Nat.add_zero,List.getElem?_cons_zero] at this
   exact this
  simp [hx]
theorem run_eq_key (hT:TOK P T):∀ (d:Nat) (t:TypeId) (r:TRow) (la lb:List KL),T t = some r → keyFits T d t la = true → keyFits T d t lb = true → ∀ dd,d ≤ dd → ∀ w,
  (Op.equalIn dd t (kvOf r la) (kvOf r lb)).run P w = .ok (la == lb) w
 | 0,_,_,_,_,_,h,_,_,_,_=>by simp [keyFits] at h
 | d + 1,t,r,la,lb,h1,ha,hb,dd,hd,w=>by
  obtain ⟨dd,rfl⟩:∃ x,dd = x + 1:=⟨dd - 1,by omega⟩
  obtain ⟨de,i,z,hf⟩:=rowOK_facts (hT t r h1)
  simp only [keyFits,h1] at ha hb
  split at ha
  ·rename_i k hk
   have hag:r.isAgg = false:=by simp [TRow.isAgg,hk]
   have hu:P.underlying t = some (.int k):=by
    have:=hf.fits; rw [hk] at this; rw [hf.und]
    cases de <;> simp [TD.fits] at this; rw [this]
   simp only [hk] at hb
   split at ha <;> first | exact absurd ha Bool.false_ne_true | skip
   split at hb <;> first | exact absurd hb Bool.false_ne_true | skip
   simp only [beq_iff_eq] at ha hb
   subst ha; subst hb
   simp only [kvOf,hag,Bool.false_eq_true,if_false,List.map_cons,List.map_nil,List.getD_cons_zero,KL.val,run_equalIn_int w dd t _ _ _ _ hu]
   congr 1
   rw [Bool.eq_iff_iff]; simp
  ·rename_i hk
   have hag:r.isAgg = false:=by simp [TRow.isAgg,hk]
   have hu:P.underlying t = some .string:=by
    have:=hf.fits; rw [hk] at this; rw [hf.und]
    cases de <;> simp [TD.fits] at this; rfl
   simp only [hk] at hb
   split at ha <;> first | exact absurd ha Bool.false_ne_true | skip
   split at hb <;> first | exact absurd hb Bool.false_ne_true | skip
   simp only [kvOf,hag,Bool.false_eq_true,if_false,List.map_cons,List.map_nil,List.getD_cons_zero,KL.val,run_equalIn_string w dd t _ _ hu,ByteArray.toList_mk]
   congr 1
   rw [Bool.eq_iff_iff]; simp
  ·rename_i hk
   have hag:r.isAgg = false:=by simp [TRow.isAgg,hk]
   have hu:P.underlying t = some .bool:=by
    have:=hf.fits; rw [hk] at this; rw [hf.und]
    cases de <;> simp [TD.fits] at this; rfl
   simp only [hk] at hb
   split at ha <;> first | exact absurd ha Bool.false_ne_true | skip
   split at hb <;> first | exact absurd hb Bool.false_ne_true | skip
   simp only [kvOf,hag,Bool.false_eq_true,if_false,List.map_cons,List.map_nil,List.getD_cons_zero,KL.val,run_equalIn_bool' w dd t _ _ hu]
   congr 1
   rw [Bool.eq_iff_iff]; simp
  ·rename_i fs hk
   simp only [hk,Bool.and_eq_true,beq_iff_eq,List.all_eq_true] at ha hb
   obtain ⟨⟨la1,la2⟩,la3⟩:=ha
   obtain ⟨⟨lb1,_⟩,lb3⟩:=hb
   have hag:r.isAgg = true:=by simp [TRow.isAgg,hk]
   have hft:=hf.fits
   rw [hk] at hft
   cases de <;> try (simp [TD.fits] at hft; done)
   rename_i gs
   simp only [TD.fits,Bool.and_eq_true,beq_iff_eq,List.all_eq_true,bne_iff_ne] at hft
   have hgs:P.fieldsOf t = gs:=by simp [Program.fieldsOf,hf.und]
   simp only [kvOf,hag,if_true]
   rw [run_equalIn_struct w dd t _ _ (by rw [hgs]; exact hf.und) (hf.stood fs hk).1,hgs]
   have key : ∀ (gl : List Field) (n : Nat), (∀ g ∈ gl, g.name ≠ "_") → (∀ g ∈ gl, (g.offset, g.type) ∈ fs) → covers T (gl.map fun g => (g.offset, g.type)) n = some r.size → n ≤ r.size → ∀ w,
     (Op.eqFields dd (la.map KL.val).toArray (lb.map KL.val).toArray gl).run P w = .ok (la.drop n == lb.drop n) w:=by
    intro gl
    induction gl with
    | nil =>
     intro n _ _ hc _ w
     simp only [List.map_nil,covers,Option.some.injEq] at hc
     subst hc
     rw [List.drop_of_length_le (by omega),List.drop_of_length_le (by omega)]
     simp [Op.eqFields]
    | cons g gl ih =>
     intro n hn hin hc hle w
     simp only [List.map_cons,covers] at hc
     split at hc
     ·rename_i hoff
      split at hc
      ·rename_i rf hrf
       have hcov:∀ (l:List (Nat × TypeId)) (m x:Nat),covers T l m = some x → m ≤ x:=by
        intro l
        induction l with
        | nil=>intro m x h; simp only [covers,Option.some.injEq] at h; omega
        | cons p l ihl =>
         intro m x h
         obtain ⟨o,ft⟩:=p
         simp only [covers] at h
         split at h
         ·split at h
          ·have:=ihl _ _ h; omega
          ·cases h
         ·cases h
       have hle2:=hcov _ _ _ hc
       have hka:=la3 _ (hin g (by simp))
       have hkb:=lb3 _ (hin g (by simp))
       simp only [hrf] at hka hkb
       subst hoff
       have ihd:=run_eq_key hT d g.type rf _ _ hrf hka hkb dd (by omega)
       simp only [Op.eqFields]
       rw [if_pos (hn g (by simp))]
       simp only [Sem.run_bind,run_part_key hT hrf (d:=d) (l:=la) (off:=g.offset) (by omega) hka,run_part_key hT hrf (d:=d) (l:=lb) (off:=g.offset) (by omega) hkb,Result.andThen_ok,ihd]
       rw [beq_split g.offset rf.size (by omega)]
       cases ((la.drop g.offset).take rf.size == (lb.drop g.offset).take rf.size) with
       | true =>
        simp only [Bool.not_true,Bool.false_eq_true,if_false,Bool.true_and]
        exact ih (g.offset + rf.size) (fun g hg=>hn g (List.mem_cons_of_mem _ hg)) (fun g hg=>hin g (List.mem_cons_of_mem _ hg)) hc hle2 w
       | false=>simp
      ·cases hc
     ·cases hc
   have hcv:covers T (gs.toList.map fun g=>(g.offset,g.type)) 0 = some r.size:=by rw [hft.1]; exact la2
   have:=key gs.toList 0 (fun g hg=>hft.2 g hg) (fun g hg=>by rw [← hft.1]; exact List.mem_map.2 ⟨g,hg,rfl⟩) hcv (Nat.zero_le _) w
   simpa using this
  ·cases ha
end
section ops
variable {P:Program} {T:TT} {o:Oper} {ρ:Operand → AV}
theorem keyFits_agg {d t:Nat} {r:TRow} {l:List KL} (h1:T t = some r) (h:keyFits T d t l = true) (hag:r.isAgg = true):∃ fs,r.td = .struct fs:=by
 cases d with
 | zero=>simp [keyFits] at h
 | succ d =>
  simp only [keyFits,h1] at h
  split at h
  ·rename_i hk; simp [TRow.isAgg,hk] at hag
  ·rename_i hk; simp [TRow.isAgg,hk] at hag
  ·rename_i hk; simp [TRow.isAgg,hk] at hag
  ·rename_i fs hk; exact ⟨fs,hk⟩
  ·cases h
theorem pr_eq_agg {op:BinOp} {t yt:TypeId} {x y:Operand} {r:TRow} {as bs:List AV} {la lb:List KL} (hT:TOK P T) (ho:o.op = .binOp op t x y yt) (h1:T t = some r) (hag:r.isAgg = true) (hx:ρ x = .agg as) (hy:ρ y = .agg bs)
  (ha:klAll as = some la) (hb:klAll bs = some lb) (fa:keyFits T 100 t la = true) (fb:keyFits T 100 t lb = true) (hop:op = .eql ∨ op = .neq):PRun P o ρ (.bool (if op = .eql then la == lb else !(la == lb))):=fun E a h=>by
 have k1:=h x (by simp [ho,Op.operands])
 have k2:=h y (by simp [ho,Op.operands])
 obtain ⟨d,inf,z,hf⟩:=rowOK_facts (hT t r h1)
 rw [hx] at k1
 rw [hy] at k2
 obtain ⟨fs,hfs⟩:=keyFits_agg h1 fa hag
 have he:execOp a.eval o = (do let v ← (do eqGuard op t x y (a.eval x) (a.eval y); binOp op t (a.eval x) (a.eval y)); pure (Next.value v)):=by simp only [execOp,ho]
 generalize hu:a.eval x = u at k1 he
 generalize hv:a.eval y = v at k2 he
 cases k1 with | agg _ us hl1 hv1 =>
 cases k2 with | agg _ vs hl2 hv2 =>
 have e1:=klAll_val ha ⟨hl1,hv1⟩
 have e2:=klAll_val hb ⟨hl2,hv2⟩
 subst e1; subst e2
 refine ⟨.bool (if op = .eql then la == lb else !(la == lb)),fun w=>?_,.bool _⟩
 have heq:=run_eq_key hT 100 t r la lb h1 fa fb 10000 (by omega) w
 simp only [kvOf,hag,if_true] at heq
 rw [he]
 rcases hop with rfl | rfl
 ·simp only [Sem.run_bind,run_eqGuard_agg w _ t x y _ _ (hf.stood fs hfs).2,Result.andThen_ok,run_eql_struct,heq,Sem.run_pure,if_true]
 ·simp only [Sem.run_bind,run_eqGuard_agg w _ t x y _ _ (hf.stood fs hfs).2,Result.andThen_ok,run_neq_struct,heq,Sem.run_pure,reduceCtorEq,if_false]
end ops
end Go.Abs

/- Operations on maps. No program, no condition. -/
namespace Go.Abs
def findL (q:List KL):List (List KL) → Nat → Option Nat
 | [],_=>none
 | l :: r,i=>if q = l then some i else findL q r (i + 1)
theorem findL_some {q:List KL}:∀ {ls:List (List KL)} {i j:Nat},findL q ls i = some j → i ≤ j ∧ ls[j - i]? = some q
 | [],_,_,h=>by cases h
 | l :: r,i,j,h=>by
  simp only [findL] at h
  split at h
  ·rename_i e; cases h; subst e; simp
  ·obtain ⟨h1,h2⟩:=findL_some h
   refine ⟨by omega,?_⟩
   rw [show j - i = (j - (i + 1)) + 1 by omega,List.getElem?_cons_succ]; exact h2
def resK (q:List KL):List MapEntry → List (List KL) → Nat → Option (Nat × Value)
 | e :: es,l :: ls,i=>if q = l then some (i,e.val) else resK q es ls (i + 1)
 | _,_,_=>none
theorem resK_eq {q:List KL}:∀ {es:List MapEntry} {ls:List (List KL)} {i:Nat},es.length = ls.length → resK q es ls i = (findL q ls i).bind fun j=>(es[j - i]?).map fun e=>(j,e.val)
 | [],[],_,_=>rfl
 | e :: es,l :: ls,i,h=>by
  simp only [resK,findL]
  split
  ·simp
  ·rw [resK_eq (by simpa using h)]
   cases hf:findL q ls (i + 1) with
   | none=>rfl
   | some j =>
    obtain ⟨h1,_⟩:=findL_some hf
    simp only [Option.bind_some]
    rw [show j - i = (j - (i + 1)) + 1 by omega,List.getElem?_cons_succ]
 | [],_ :: _,_,h=>by simp at h
 | _ :: _,[],_,h=>by simp at h
section
variable {P:Program} {T:TT}
theorem keyFits_single {d t:Nat} {r:TRow} {l:List KL} (h1:T t = some r) (h:keyFits T d t l = true) (hag:r.isAgg = false) :
  (∃ k n,r.td = .int k ∧ l = [.int k n]) ∨ (∃ s,r.td = .str ∧ l = [.str s]) ∨ ∃ b,r.td = .bool ∧ l = [.bool b]:=by
 cases d with
 | zero=>simp [keyFits] at h
 | succ d =>
  simp only [keyFits,h1] at h
  split at h
  ·rename_i k hk
   split at h
   ·rename_i k' n
    simp only [beq_iff_eq] at h
    subst h
    exact .inl ⟨k,n,hk,rfl⟩
   ·cases h
  ·rename_i hk
   split at h
   ·exact .inr (.inl ⟨_,hk,rfl⟩)
   ·cases h
  ·rename_i hk
   split at h
   ·exact .inr (.inr ⟨_,hk,rfl⟩)
   ·cases h
  ·rename_i fs hfs
   simp [TRow.isAgg,hfs] at hag
  ·cases h
theorem fits_int {k:IntKind} {d:TypeDesc} (h:(TD.int k).fits d = true):d = .int k:=by
 cases d <;> simp [TD.fits] at h; rw [h]
theorem fits_bool {d:TypeDesc} (h:TD.bool.fits d = true):d = .bool:=by
 cases d <;> simp [TD.fits] at h; rfl
theorem fits_struct {fs : List (Nat × TypeId)} {d : TypeDesc} (h : (TD.struct fs).fits d = true) : ∃ gs, d = .struct gs ∧ gs.toList.map (fun g => (g.offset, g.type)) = fs ∧ ∀ g ∈ gs.toList, g.name ≠ "_" := by
 cases d <;> try (simp [TD.fits] at h; done)
 rename_i gs
 simp only [TD.fits,Bool.and_eq_true,beq_iff_eq,List.all_eq_true,bne_iff_ne] at h
 exact ⟨gs,rfl,h.1,h.2⟩
theorem sameNow_kl {t d:Nat} {r:TRow} {q l:List KL} {de:TypeDesc} (h1:T t = some r) (hfit:r.td.fits de = true) (hag:r.isAgg = false) (hq:keyFits T d t q = true) (hl:keyFits T d t l = true) :
  Instr.sameNow de (kvOf r q) (kvOf r l) = some (decide (q = l)):=by
 rcases keyFits_single h1 hq hag with ⟨k,n,hk,rfl⟩ | ⟨s,hk,rfl⟩ | ⟨b,hk,rfl⟩ <;> rcases keyFits_single h1 hl hag with ⟨k',n',hk',rfl⟩ | ⟨s',hk',rfl⟩ | ⟨b',hk',rfl⟩ <;> rw [hk] at hk' hfit <;> cases hk'
 ·obtain rfl:=fits_int hfit
  simp only [kvOf,hag,Bool.false_eq_true,if_false,List.map_cons,List.map_nil,List.getD_cons_zero,KL.val,Instr.sameNow,if_true]
  rw [Option.some.injEq,Bool.eq_iff_iff]; simp
 ·obtain rfl:=str_fits hfit
  simp only [kvOf,hag,Bool.false_eq_true,if_false,List.map_cons,List.map_nil,List.getD_cons_zero,KL.val,Instr.sameNow]
  rw [Option.some.injEq,Bool.eq_iff_iff,beq_toListBytes,ByteArray.toList_mk,ByteArray.toList_mk]; simp
 ·obtain rfl:=fits_bool hfit
  simp only [kvOf,hag,Bool.false_eq_true,if_false,List.map_cons,List.map_nil,List.getD_cons_zero,KL.val,Instr.sameNow]
  rw [Option.some.injEq,Bool.eq_iff_iff]; simp
theorem findNow_kl {t d:Nat} {r:TRow} {q:List KL} {de:TypeDesc} (h1:T t = some r) (hfit:r.td.fits de = true) (hag:r.isAgg = false) (hq:keyFits T d t q = true):∀ (es:List MapEntry) (ls:List (List KL)) (i:Nat),
  es.map (·.key) = ls.map (kvOf r) → (∀ l ∈ ls,keyFits T d t l = true) → Instr.findNow de (kvOf r q) es i = some (resK q es ls i)
 | [],[],_,_,_=>rfl
 | e :: es,l :: ls,i,h,hf=>by
  simp only [List.map_cons,List.cons.injEq] at h
  simp only [Instr.findNow,h.1,sameNow_kl h1 hfit hag hq (hf l (by simp)),resK]
  by_cases hql:q = l
  ·simp [hql]
  ·simp only [hql,decide_false,if_false]
   exact findNow_kl h1 hfit hag hq es ls (i + 1) h.2 (fun l hl=>hf l (List.mem_cons_of_mem _ hl))
 | [],_ :: _,_,h,_=>by simp at h
 | _ :: _,[],_,h,_=>by simp at h
theorem findAsking_kl (hT:TOK P T) {t:Nat} {r:TRow} {q:List KL} (h1:T t = some r) (hq:keyFits T 100 t q = true) (w:World):∀ (es:List MapEntry) (ls:List (List KL)) (i:Nat),
  es.map (·.key) = ls.map (kvOf r) → (∀ l ∈ ls,keyFits T 100 t l = true) → (Instr.findAsking t (kvOf r q) es i).run P w = .ok (resK q es ls i) w
 | [],[],_,_,_=>rfl
 | e :: es,l :: ls,i,h,hf=>by
  simp only [List.map_cons,List.cons.injEq] at h
  have he:(Op.equal t (kvOf r q) (kvOf r l)).run P w = .ok (q == l) w:=run_eq_key hT 100 t r q l h1 hq (hf l (by simp)) 10000 (by omega) w
  simp only [Instr.findAsking,h.1,Sem.run_bind,he,Result.andThen_ok,resK]
  by_cases hql:q = l
  ·simp [hql]
  ·simp only [hql,beq_iff_eq,if_false]
   exact findAsking_kl hT h1 hq w es ls (i + 1) h.2 (fun l hl=>hf l (List.mem_cons_of_mem _ hl))
 | [],_ :: _,_,h,_=>by simp at h
 | _ :: _,[],_,h,_=>by simp at h
theorem findKey_kl (hT:TOK P T) {t:Nat} {r:TRow} {q:List KL} (h1:T t = some r) (hq:keyFits T 100 t q = true) (w:World) (es:List MapEntry) (ls:List (List KL))
  (h:es.map (·.key) = ls.map (kvOf r)) (hf:∀ l ∈ ls,keyFits T 100 t l = true):(Instr.findKey t (kvOf r q) es).run P w = .ok (resK q es ls 0) w:=by
 obtain ⟨de,inf,z,hrf⟩:=rowOK_facts (hT t r h1)
 cases hag:r.isAgg with
 | false =>
  simp [Instr.findKey,run_underlying hrf.und,findNow_kl h1 hrf.fits hag hq es ls 0 h hf]
 | true =>
  obtain ⟨fs,hfs⟩:=keyFits_agg h1 hq hag
  obtain ⟨gs,rfl,_⟩:=fits_struct (hfs ▸ hrf.fits)
  rw [run_findKey_eq w (by rw [hrf.und])]
  exact findAsking_kl hT h1 hq w es ls 0 h hf
theorem checkKey_kl (hT:TOK P T) (em:Bool):∀ (d:Nat) (t:TypeId) (r:TRow) (l:List KL),T t = some r → keyFits T d t l = true → ∀ dd,d ≤ dd → ∀ w:World,(Instr.checkKey em dd t (kvOf r l)).run P w = .ok () w
 | 0,_,_,_,_,h,_,_,_=>by simp [keyFits] at h
 | d + 1,t,r,l,h1,hk,dd,hd,w=>by
  obtain ⟨dd,rfl⟩:∃ x,dd = x + 1:=⟨dd - 1,by omega⟩
  obtain ⟨de,inf,z,hrf⟩:=rowOK_facts (hT t r h1)
  cases hag:r.isAgg with
  | false =>
   rcases keyFits_single h1 hk hag with ⟨k,n,hk',rfl⟩ | ⟨s,hk',rfl⟩ | ⟨b,hk',rfl⟩
   ·have:=fits_int (hk' ▸ hrf.fits); subst this
    simp [Instr.checkKey,run_underlying hrf.und,kvOf,hag,KL.val]
   ·have:=str_fits (hk' ▸ hrf.fits); subst this
    simp [Instr.checkKey,run_underlying hrf.und,kvOf,hag,KL.val]
   ·have:=fits_bool (hk' ▸ hrf.fits); subst this
    simp [Instr.checkKey,run_underlying hrf.und,kvOf,hag,KL.val]
  | true =>
   obtain ⟨fs,hfs⟩:=keyFits_agg h1 hk hag
   obtain ⟨gs,rfl,hgs,hn⟩:=fits_struct (hfs ▸ hrf.fits)
   simp only [keyFits,h1,hfs,Bool.and_eq_true,beq_iff_eq,List.all_eq_true] at hk
   obtain ⟨⟨hlen,hcv⟩,hall⟩:=hk
   have hle:∀ (fl:List (Nat × TypeId)) (n x:Nat),covers T fl n = some x → n ≤ x ∧ ∀ p ∈ fl,∀ rf,T p.2 = some rf → p.1 + rf.size ≤ x:=by
    intro fl
    induction fl with
    | nil=>intro n x h; simp only [covers,Option.some.injEq] at h; exact ⟨by omega,by simp⟩
    | cons p fl ih =>
     intro n x h
     obtain ⟨o,ft⟩:=p
     simp only [covers] at h
     split at h
     ·rename_i ho
      split at h
      ·rename_i rf hrf'
       obtain ⟨a1,a2⟩:=ih _ _ h
       refine ⟨by omega,fun p hp rf' hrf2=>?_⟩
       rcases List.mem_cons.1 hp with rfl | hp
       ·simp only [hrf',Option.some.injEq] at hrf2; subst hrf2; simp only; omega
       ·exact a2 p hp rf' hrf2
      ·cases h
     ·cases h
   have hin:=(hle _ _ _ hcv).2
   simp only [kvOf,hag,if_true]
   unfold Instr.checkKey
   simp only [Sem.run_bind,run_underlying hrf.und,Result.andThen_ok]
   rw [← Array.forIn_toList]
   have key:∀ (gl:List Field),(∀ g ∈ gl,(g.offset,g.type) ∈ fs) → ∀ w:World,
     (forIn gl PUnit.unit fun f (_ : PUnit) => (if f.name ≠ "_" then do
       let a ← part f.type (l.map KL.val).toArray f.offset
       Instr.checkKey em dd f.type a
       pure (ForInStep.yield PUnit.unit)
      else pure (ForInStep.yield PUnit.unit):Sem (ForInStep PUnit))).run P w = .ok PUnit.unit w:=by
    intro gl
    induction gl with
    | nil=>intro _ w; rfl
    | cons g gl ih =>
     intro hg w
     have hgf:=hall _ (hg g (by simp))
     cases hrg:T g.type with
     | none=>rw [hrg] at hgf; simp at hgf
     | some rf =>
      simp only [hrg] at hgf
      have hpart:=run_part_key hT hrg (d:=d) (l:=l) (off:=g.offset) (by rw [hlen]; exact hin _ (hg g (by simp)) rf hrg) hgf
      have hck:=checkKey_kl hT em d g.type rf _ hrg hgf dd (by omega)
      simp only [List.forIn_cons,Sem.run_bind,Sem.run_ite]
      split
      ·simp only [hpart,hck,Sem.run_bind,Result.andThen_ok,Sem.run_pure]
       exact ih (fun g hg'=>hg g (List.mem_cons_of_mem _ hg')) w
      ·simp only [Sem.run_pure,Result.andThen_ok]
       exact ih (fun g hg'=>hg g (List.mem_cons_of_mem _ hg')) w
   have:=key gs.toList (fun g hg=>by rw [← hgs]; exact List.mem_map.2 ⟨g,hg,rfl⟩) w
   rw [this]
   rfl
theorem sameBits_kl (r:TRow) (l:List KL) (hs:r.isAgg = false → ∃ x,l = [x]):Instr.sameBits 10000 (kvOf r l) (kvOf r l) = true:=by
 have h1:∀ (x:KL) n,Instr.sameBits n x.val x.val = true:=by
  intro x n
  cases x with
  | int k n=>simp [KL.val,Instr.sameBits]
  | bool b=>simp [KL.val,Instr.sameBits]
  | str s=>simp only [KL.val,Instr.sameBits]; rw [beq_toListBytes]; simp
 unfold kvOf
 cases hag:r.isAgg with
 | true =>
  simp only [if_true,Instr.sameBits,beq_self_eq_true,Bool.true_and,List.all_eq_true]
  intro p hp
  obtain ⟨i,hi,rfl⟩:=List.getElem_of_mem hp
  simp only [List.getElem_zip]
  rw [List.getElem_map]
  exact h1 _ _
 | false =>
  obtain ⟨x,rfl⟩:=hs hag
  simp only [Bool.false_eq_true,if_false,List.map_cons,List.map_nil,List.getD_cons_zero]
  exact h1 x _
theorem keyStays_kl {t d:Nat} {r:TRow} {l:List KL} (h1:T t = some r) (h:keyFits T d t l = true) (w:World):(Instr.keyThatStays (kvOf r l) (kvOf r l)).run P w = .ok (kvOf r l) w:=by
 simp only [Instr.keyThatStays]
 rw [if_pos (sameBits_kl r l (fun hag=>by
  rcases keyFits_single h1 h hag with ⟨k,n,_,e⟩ | ⟨s,_,e⟩ | ⟨b,_,e⟩ <;> exact ⟨_,e⟩))]
 rfl
end
end Go.Abs

/- Operations on maps, over the abstract heap. No program, no condition. -/
namespace Go.Abs
def AV.isAgg:AV → Bool
 | .agg _=>true
 | _=>false
def AV.kls (a:AV):List KL:=(klAll a.cells).getD []
def keyOK (T:TT) (kt:TypeId) (a:AV):Bool:=match T kt with
 | some rk=>match klAll a.cells with
  | some l=>keyFits T 100 kt l && a.isAgg == rk.isAgg
  | none=>false
 | none=>false
def findA (k:AV) (es:List (AV × AV)):Option Nat:=findL k.kls (es.map fun p=>p.1.kls) 0
def zeroA (r:TRow):AV:=if r.isAgg then .agg r.zero else r.zero.getD 0 .dead
theorem keyOK_spec {T:TT} {kt:TypeId} {a:AV} (h:keyOK T kt a = true):∃ rk,T kt = some rk ∧ klAll a.cells = some a.kls ∧ keyFits T 100 kt a.kls = true ∧ a.isAgg = rk.isAgg:=by
 unfold keyOK at h
 split at h
 ·rename_i rk hrk
  split at h
  ·rename_i l hl
   simp only [Bool.and_eq_true,beq_iff_eq] at h
   exact ⟨rk,hrk,by simp [AV.kls,hl],by simpa [AV.kls,hl] using h.1,h.2⟩
  ·cases h
 ·cases h
theorem key_val {E:Env} {T:TT} {kt:TypeId} {a:AV} {v:Value} {rk:TRow} (h:keyOK T kt a = true) (hrk:T kt = some rk) (hv:VR E a v):v = kvOf rk a.kls:=by
 obtain ⟨rk',h1,h2,h3,h4⟩:=keyOK_spec h
 rw [hrk] at h1; cases h1
 cases hv with
 | agg cs vs hl hvs =>
  have:rk.isAgg = true:=by rw [← h4]; rfl
  have e:=klAll_val h2 ⟨hl,hvs⟩
  simp only [kvOf,this,if_true]
  rw [← e]
 | int k n=>simp only [AV.cells,klAll,AV.kl,Option.some.injEq] at h2; rw [← h2]; simp [kvOf,← h4,AV.isAgg,KL.val]
 | bool b=>simp only [AV.cells,klAll,AV.kl,Option.some.injEq] at h2; rw [← h2]; simp [kvOf,← h4,AV.isAgg,KL.val]
 | str l=>simp only [AV.cells,klAll,AV.kl,Option.some.injEq] at h2; rw [← h2]; simp [kvOf,← h4,AV.isAgg,KL.val]
 | _=>simp [AV.cells,klAll,AV.kl] at h2
section
variable {P:Program} {T:TT}
theorem map_find (hT:TOK P T) {E:Env} {w:World} {kt:TypeId} {k:AV} {kv:Value} {es:List (AV × AV)} {ent:Array MapEntry} (hk:keyOK T kt k = true) (hes:∀ p ∈ es,keyOK T kt p.1 = true) (hv:VR E k kv) (hs:ent.size = es.length)
  (hr:∀ i (h:i < es.length) (h':i < ent.size),VR E es[i].1 ent[i].key ∧ VR E es[i].2 ent[i].val ∧ ent[i].born = i) :
  (∀ em,(Instr.checkKey em 10000 kt kv).run P w = .ok () w) ∧ (Instr.keyThatStays kv kv).run P w = .ok kv w ∧ (∀ i,findA k es = some i → ∃ h:i < es.length,∀ h':i < ent.size,ent[i].key = kv) ∧
  (Instr.findKey kt kv ent.toList).run P w = .ok ((findA k es).bind fun j=>(ent[j]?).map fun e=>(j,e.val)) w:=by
 obtain ⟨rk,h1,h2,h3,h4⟩:=keyOK_spec hk
 have e1:=key_val hk h1 hv
 subst e1
 have hkeys:ent.toList.map (·.key) = (es.map fun p=>p.1.kls).map (kvOf rk):=by
  apply List.ext_getElem
  ·simp [hs]
  ·intro i a1 a2
   simp only [List.length_map,Array.length_toList] at a1 a2
   simp only [List.getElem_map,Array.getElem_toList]
   exact key_val (hes _ (List.getElem_mem a2)) h1 (hr i a2 a1).1
 have hf:∀ l ∈ es.map (fun p=>p.1.kls),keyFits T 100 kt l = true:=by
  intro l hl
  obtain ⟨p,hp,rfl⟩:=List.mem_map.1 hl
  obtain ⟨_,_,_,h,_⟩:=keyOK_spec (hes p hp)
  exact h
 refine ⟨fun em=>checkKey_kl hT em 100 kt rk _ h1 h3 10000 (by omega) w,keyStays_kl h1 h3 w,fun i hi=>?_,?_⟩
 ·obtain ⟨_,h6⟩:=findL_some hi
  rw [Nat.sub_zero,List.getElem?_map] at h6
  cases hg:es[i]? with
  | none=>rw [hg] at h6; cases h6
  | some p =>
   rw [hg,Option.map_some,Option.some.injEq] at h6
   have hlt:i < es.length:=by
    rcases Nat.lt_or_ge i es.length with h | h
    ·exact h
    ·rw [List.getElem?_eq_none h] at hg; cases hg
   refine ⟨hlt,fun h'=>?_⟩
   have:=key_val (hes _ (List.getElem_mem hlt)) h1 (hr i hlt h').1
   rw [List.getElem?_eq_getElem hlt,Option.some.injEq] at hg
   rw [hg,h6] at this; exact this
 ·rw [findKey_kl hT h1 h3 w ent.toList _ hkeys hf,resK_eq (by simp [hs])]
  simp [findA]
theorem findA_lt {k:AV} {es:List (AV × AV)} {i:Nat} (h:findA k es = some i):i < es.length:=by
 obtain ⟨_,h6⟩:=findL_some h
 rw [Nat.sub_zero,List.getElem?_map] at h6
 rcases Nat.lt_or_ge i es.length with h | h
 ·exact h
 ·rw [List.getElem?_eq_none h] at h6; cases h6
theorem zeroA_VR {E:Env} {t:TypeId} {r:TRow} {d:TypeDesc} {i:TypeInfo} {z:Value} (hf:RowFacts P t r d i z) (h0:r.isAgg = false → r.size = 1):VR E (zeroA r) z:=by
 have h:=fitsAll_VRs (E:=E) hf.zfits
 unfold zeroA
 cases hag:r.isAgg with
 | true =>
  have hz:isAggV z = true:=by rw [← hf.zagg]; exact hag
  cases z <;> simp [isAggV] at hz
  simp only [if_true]
  exact .agg _ _ h.1 h.2
 | false =>
  have hz:isAggV z = false:=by rw [← hf.zagg]; exact hag
  have hsz:=hf.zsize
  have hc:z.cells = #[z]:=by cases z <;> simp [isAggV] at hz <;> rfl
  rw [hc] at h
  obtain ⟨h1,h2⟩:=h
  simp only [List.length_cons,List.length_nil] at h1
  simp only [Bool.false_eq_true,if_false]
  have h3:=h2 0 (by omega) (by simp)
  simpa [List.getD_eq_getElem?_getD,List.getElem?_eq_getElem (show 0 < r.zero.length by omega)] using h3
def mapOf (T:TT) (t:TypeId):Option (TypeId × TypeId × TRow) :=
 match T t with
 | some r=>match r.td with
  | .map k e=>(T e).map fun re=>(k,e,re)
  | _=>none
 | none=>none
theorem mapOf_spec (hT:TOK P T) {t k e:TypeId} {re:TRow} (h:mapOf T t = some (k,e,re)):P.underlying t = some (.map k e) ∧ T e = some re:=by
 unfold mapOf at h
 split at h
 ·rename_i r hr
  split at h
  ·rename_i k' e' hd
   simp only [Option.map_eq_some_iff] at h
   obtain ⟨re',h1,h2⟩:=h
   cases h2
   obtain ⟨d,i,z,hf⟩:=rowOK_facts (hT t r hr)
   have:=hf.fits
   rw [hd] at this
   cases d <;> simp [TD.fits] at this
   obtain ⟨rfl,rfl⟩:=this
   exact ⟨hf.und,h1⟩
  ·cases h
 ·cases h
end
section ops
variable {P:Program} {T:TT} {o:Oper} {ρ:Operand → AV}
theorem or_makeMap {m:Nat} {H:AHeap} {t:TypeId} {l k:Nat} (ho:o.op = .makeMap t none) (hl:l < m) (hfree:H l k = none) :
  OpRun P m o ρ H (.map l k) (H.upd l k (.map [])):=fun E w a hr hops=>by
 have he:execOp a.eval o = (do let v ← Instr.makeMap t none; pure (Next.value v)):=by simp only [execOp,ho]; rfl
 obtain ⟨hh,hx⟩:=hr.newSlot hl hfree (.map #[] 0) (.map []) ⟨w.heap.size,by simp [Env.setM],#[],heap_alloc_new w _,rfl,fun i h=>absurd h (Nat.not_lt_zero _)⟩
 refine ⟨.map (some w.heap.size),_,_,.inl ?_,.map l k _ (by simp [Env.setM]),hh,hx⟩
 rw [he]
 simp [Instr.makeMap,newObj,Sem.run]
def nilA (v:AV):AV:=match v with
 | .sl _ [] .full=>.nils
 | v=>v
theorem fitsConst_nil {k:Nat} {z:Value} (h:fitsConst (.sl k [] .full) z = true):z = .slice none 0 0:=by
 cases z with
 | slice a n c =>
  cases a with
  | none =>
   cases n with
   | zero=>cases c with
    | zero=>rfl
    | succ c=>simp [fitsConst] at h
   | succ n=>simp [fitsConst] at h
  | some a=>simp [fitsConst] at h
 | _=>simp [fitsConst] at h
theorem nilA_VR {E:Env} {t:TypeId} {r:TRow} {d:TypeDesc} {i:TypeInfo} {z:Value} (hf:RowFacts P t r d i z) (h0:r.isAgg = false → r.size = 1):VR E (nilA (zeroA r)) z:=by
 have h:=zeroA_VR (E:=E) hf h0
 unfold nilA
 split
 ·rename_i k he
  cases hag:r.isAgg with
  | true=>simp [zeroA,hag] at he
  | false =>
   have hz:isAggV z = false:=by rw [← hf.zagg]; exact hag
   have hc:z.cells = #[z]:=by cases z <;> simp [isAggV] at hz <;> rfl
   have hs:=hf.zfits
   rw [hc] at hs
   simp only [zeroA,hag,Bool.false_eq_true,if_false] at he
   match hzz:r.zero with
   | []=>rw [hzz] at he; simp at he
   | a :: as =>
    rw [hzz] at he hs
    simp only [List.getD_cons_zero] at he
    subst he
    simp only [fitsAll,Bool.and_eq_true] at hs
    rw [fitsConst_nil hs.1]
    exact .nils
 ·exact h
def lookA (re:TRow) (k:AV) (es:List (AV × AV)) (ok:Bool):AV :=
 let r:AV × Bool:=match findA k es with
  | some i=>((es.getD i (.dead,.dead)).2,true)
  | none=>(nilA (zeroA re),false)
 if ok then .tup [r.1,.bool r.2] else r.1
theorem or_lookup {m:Nat} {H:AHeap} {t:TypeId} {x y:Operand} {ok:Bool} {kt e:TypeId} {re:TRow} {l j:Nat} {k:AV} {es:List (AV × AV)} (hT:TOK P T) (ho:o.op = .lookup t x y ok) (h1:mapOf T t = some (kt,e,re)) (h0:re.isAgg = false → re.size = 1)
  (hx:ρ x = .map l j) (hy:ρ y = k) (hH:H l j = some (.map es)) (hk:keyOK T kt k = true) (hes:∀ p ∈ es,keyOK T kt p.1 = true) :
  OpRun P m o ρ H (lookA re k es ok) H:=fun E w a hr hops=>by
 have hxv:=hops x (by simp [ho,Op.operands])
 have hyv:=hops y (by simp [ho,Op.operands])
 rw [hx] at hxv
 rw [hy] at hyv
 obtain ⟨hu,hre⟩:=mapOf_spec hT h1
 obtain ⟨d',i',z',hf'⟩:=rowOK_facts (hT e re hre)
 have he:execOp a.eval o = (do let v ← Instr.lookup t (a.eval x) (a.eval y) ok; pure (Next.value v)):=by simp only [execOp,ho]
 generalize hp:a.eval x = p at hxv
 cases hxv with | map _ _ b hm =>
 obtain ⟨b',hm',ent,hc,hs,hv⟩:=hr.map l j es (hr.norm.m_lt hm) hH
 rw [hm] at hm'; cases hm'
 obtain ⟨f1,f2,f3,f4⟩:=map_find hT (w:=w) hk hes hyv hs hv
 have hg:(getObj b).run P w = .ok (.map ent es.length) w:=by simp [getObj,Sem.run,hc]
 cases hfa:findA k es with
 | none =>
  rw [hfa] at f4
  simp only [Option.bind_none] at f4
  refine ⟨if ok then .tuple #[z',.bool false] else z',E,w,.inl ?_,?_,hr,.refl m E w⟩
  ·rw [he,hp]
   simp only [Instr.lookup,Sem.run_bind,run_underlying hu,Result.andThen_ok,hg,Sem.run_pure,f1,f4,run_zeroValue' hf']
  ·unfold lookA
   rw [hfa]
   cases ok with
   | true=>exact .tup _ [z',.bool false] rfl ((VRs.cons (nilA_VR hf' h0) (VRs.cons (.bool _) (VRs.nil E))).2)
   | false=>exact nilA_VR hf' h0
 | some i =>
  rw [hfa] at f4
  have hi:=findA_lt hfa
  have hi':i < ent.size:=by omega
  simp only [Option.bind_some,Array.getElem?_eq_getElem hi',Option.map_some] at f4
  have hval:=(hv i hi hi').2.1
  refine ⟨if ok then .tuple #[ent[i].val,.bool true] else ent[i].val,E,w,.inl ?_,?_,hr,.refl m E w⟩
  ·rw [he,hp]
   simp only [Instr.lookup,Sem.run_bind,run_underlying hu,Result.andThen_ok,hg,Sem.run_pure,f1,f4]
  ·unfold lookA
   rw [hfa]
   have hgd:(es.getD i (.dead,.dead)).2 = es[i].2:=by simp [List.getD_eq_getElem?_getD,List.getElem?_eq_getElem hi]
   simp only [hgd]
   cases ok with
   | true=>exact .tup _ [ent[i].val,.bool true] rfl ((VRs.cons hval (VRs.cons (.bool _) (VRs.nil E))).2)
   | false=>exact hval
theorem or_lookup_nil {t:TypeId} {x y:Operand} {ok:Bool} {kt e:TypeId} {re:TRow} {k:AV} (hT:TOK P T) (ho:o.op = .lookup t x y ok) (h1:mapOf T t = some (kt,e,re)) (h0:re.isAgg = false → re.size = 1)
  (hx:ρ x = .nilm) (hy:ρ y = k) (hk:keyOK T kt k = true):PRun P o ρ (lookA re k [] ok):=fun E a hops=>by
 have hxv:=hops x (by simp [ho,Op.operands])
 have hyv:=hops y (by simp [ho,Op.operands])
 rw [hx] at hxv
 rw [hy] at hyv
 obtain ⟨hu,hre⟩:=mapOf_spec hT h1
 obtain ⟨d',i',z',hf'⟩:=rowOK_facts (hT e re hre)
 have he:execOp a.eval o = (do let v ← Instr.lookup t (a.eval x) (a.eval y) ok; pure (Next.value v)):=by simp only [execOp,ho]
 generalize hp:a.eval x = p at hxv
 cases hxv
 refine ⟨if ok then .tuple #[z',.bool false] else z',fun w=>?_,?_⟩
 ·obtain ⟨f1,f2,f3,f4⟩:=map_find hT (w:=w) (es:=[]) (ent:=#[]) hk (by simp) hyv rfl (fun i h=>absurd h (Nat.not_lt_zero _))
  rw [he,hp]
  have f4':(Instr.findKey kt (a.eval y) []).run P w = .ok none w:=f4
  simp only [Instr.lookup,Sem.run_bind,run_underlying hu,Result.andThen_ok,Sem.run_pure,f1,f4',run_zeroValue' hf']
 ·unfold lookA
  have:findA k [] = none:=rfl
  rw [this]
  cases ok with
  | true=>exact .tup _ [z',.bool false] rfl ((VRs.cons (nilA_VR hf' h0) (VRs.cons (.bool _) (VRs.nil E))).2)
  | false=>exact nilA_VR hf' h0
def putA (k v:AV) (es:List (AV × AV)):List (AV × AV) :=
 match findA k es with
 | some i=>es.set i (k,v)
 | none=>es ++ [(k,v)]
theorem run_setObj' {w:World} {b:Nat} {es:Array MapEntry} {c:Nat} {o':Obj} (hb:w.heap[b]? = some (.map es c)):(setObj b o').run P w = .ok () { w with heap:=w.heap.setIfInBounds b o' }:=by
 simp [setObj,Sem.run,hb]
theorem map_turn {m:Nat} {H:AHeap} {E:Env} {w:World} (hr:HRel m H E w) {l j b:Nat} (hm:E.m l j = some b) {x:Obj} (hb:w.heap[b]? = some x) {es:List (AV × AV)} {ent:Array MapEntry} (hs:ent.size = es.length)
  (hv:∀ i (h:i < es.length) (h':i < ent.size),VR E es[i].1 ent[i].key ∧ VR E es[i].2 ent[i].val ∧ ent[i].born = i) :
  HRel m (H.upd l j (.map es)) E { w with heap:=w.heap.setIfInBounds b (.map ent es.length) } ∧ Ext m E w E { w with heap:=w.heap.setIfInBounds b (.map ent es.length) }:=by
 have hlt:b < w.heap.size:=(Array.getElem?_eq_some_iff.1 hb).1
 exact hr.turn (.inl hm) (.map es) (fun hg=>absurd (hr.m_g hm) hg) rfl rfl rfl (fun _=>Nat.le_refl _) (by simp) (fun b' hne=>by simp [Array.getElem?_setIfInBounds_ne (Ne.symm hne)]) (fun o=>hr.mF _ _ _ o hm)
  ⟨b,hm,ent,by simp [hlt],hs,hv⟩
theorem or_mapUpdate {m:Nat} {H:AHeap} {t:TypeId} {x y z:Operand} {kt e:TypeId} {re:TRow} {l j:Nat} {k v:AV} {es:List (AV × AV)} (hT:TOK P T) (ho:o.op = .mapUpdate t x y z ∨ o.op = .insert t x y z) (h1:mapOf T t = some (kt,e,re))
  (hx:ρ x = .map l j) (hy:ρ y = k) (hz:ρ z = v) (hH:H l j = some (.map es)) (hk:keyOK T kt k = true) (hes:∀ p ∈ es,keyOK T kt p.1 = true) :
  OpRun P m o ρ H (.tup []) (H.upd l j (.map (putA k v es))):=fun E w a hr hops=>by
 have hxv:=hops x (by rcases ho with ho | ho <;> simp [ho,Op.operands])
 have hyv:=hops y (by rcases ho with ho | ho <;> simp [ho,Op.operands])
 have hzv:=hops z (by rcases ho with ho | ho <;> simp [ho,Op.operands])
 rw [hx] at hxv
 rw [hy] at hyv
 rw [hz] at hzv
 obtain ⟨hu,hre⟩:=mapOf_spec hT h1
 have he:execOp a.eval o = (do Instr.mapUpdate t (a.eval x) (a.eval y) (a.eval z); pure .skip):=by rcases ho with ho | ho <;> simp only [execOp,ho]
 generalize hp:a.eval x = p at hxv
 cases hxv with | map _ _ b hm =>
 obtain ⟨b',hm',ent,hc,hs,hv⟩:=hr.map l j es (hr.norm.m_lt hm) hH
 rw [hm] at hm'; cases hm'
 obtain ⟨f1,f2,f3,f4⟩:=map_find hT (w:=w) hk hes hyv hs hv
 have hg:(getObj b).run P w = .ok (.map ent es.length) w:=by simp [getObj,Sem.run,hc]
 cases hfa:findA k es with
 | none =>
  rw [hfa] at f4
  simp only [Option.bind_none] at f4
  have hput:putA k v es = es ++ [(k,v)]:=by simp only [putA,hfa]
  obtain ⟨hh,hxx⟩:=map_turn hr hm hc (es:=es ++ [(k,v)]) (ent:=ent.push { key:=a.eval y,val:=a.eval z,born:=es.length }) (by simp [hs]) (fun i h h'=>by
   rcases Nat.lt_or_ge i es.length with hi | hi
   ·rw [List.getElem_append_left hi,Array.getElem_push_lt (by omega)]; exact hv i hi (by omega)
   ·have:i = es.length:=by simp at h; omega
    subst this
    simp only [List.getElem_concat_length]
    simp only [← hs,Array.getElem_push_eq]
    exact ⟨hyv,hzv,trivial⟩)
  refine ⟨undef,E,_,.inr ⟨?_,rfl⟩,VR_undef E,by rw [hput]; exact hh,hxx⟩
  rw [he,hp]
  simp only [Instr.mapUpdate,Sem.run_bind,run_underlying hu,Result.andThen_ok,hg,f1,f4,run_setObj' hc,Sem.run_pure,List.length_append,List.length_cons,List.length_nil,Nat.zero_add]
 | some i =>
  rw [hfa] at f4
  have hi:=findA_lt hfa
  have hi':i < ent.size:=by omega
  simp only [Option.bind_some,Array.getElem?_eq_getElem hi',Option.map_some] at f4
  have hkey:ent[i].key = a.eval y:=by obtain ⟨_,h⟩:=f3 i hfa; exact h hi'
  have hput:putA k v es = es.set i (k,v):=by simp only [putA,hfa]
  obtain ⟨hh,hxx⟩:=map_turn hr hm hc (es:=es.set i (k,v)) (ent:=ent.modify i fun e=>{ e with key:=a.eval y,val:=a.eval z }) (by simp [hs]) (fun j h h'=>by
   simp only [List.length_set] at h
   have h3:=hv j h (by omega)
   rw [List.getElem_set,Array.getElem_modify]
   by_cases hij:i = j
   ·subst hij; simp only [if_true]; exact ⟨hyv,hzv,h3.2.2⟩
   ·simp only [hij,if_false]; exact h3)
  refine ⟨undef,E,_,.inr ⟨?_,rfl⟩,VR_undef E,by rw [hput]; exact hh,hxx⟩
  rw [he,hp]
  simp only [Instr.mapUpdate,Sem.run_bind,run_underlying hu,Result.andThen_ok,hg,f1,f4,Array.getElem?_eq_getElem hi',Option.map_some,Option.getD_some,hkey,f2,run_setObj' hc,Sem.run_pure,List.length_set]
def entA (re:TRow) (k:AV) (es:List (AV × AV)):AV × List (AV × AV) :=
 match findA k es with
 | some i=>(.tup [(es.getD i (.dead,.dead)).2,.int .i64 i],es.set i (k,(es.getD i (.dead,.dead)).2))
 | none=>(.tup [zeroA re,.int .i64 es.length],es ++ [(k,zeroA re)])
theorem or_mapEntry {m:Nat} {H:AHeap} {t:TypeId} {x y:Operand} {kt e:TypeId} {re:TRow} {l j:Nat} {k:AV} {es:List (AV × AV)} (hT:TOK P T) (ho:o.op = .mapEntry t x y) (h1:mapOf T t = some (kt,e,re)) (h0:re.isAgg = false → re.size = 1)
  (hx:ρ x = .map l j) (hy:ρ y = k) (hH:H l j = some (.map es)) (hk:keyOK T kt k = true) (hes:∀ p ∈ es,keyOK T kt p.1 = true) :
  OpRun P m o ρ H (entA re k es).1 (H.upd l j (.map (entA re k es).2)):=fun E w a hr hops=>by
 have hxv:=hops x (by simp [ho,Op.operands])
 have hyv:=hops y (by simp [ho,Op.operands])
 rw [hx] at hxv
 rw [hy] at hyv
 obtain ⟨hu,hre⟩:=mapOf_spec hT h1
 obtain ⟨d',i',z',hf'⟩:=rowOK_facts (hT e re hre)
 have he:execOp a.eval o = (do let v ← Instr.mapEntry t (a.eval x) (a.eval y); pure (Next.value v)):=by simp only [execOp,ho]
 generalize hp:a.eval x = p at hxv
 cases hxv with | map _ _ b hm =>
 obtain ⟨b',hm',ent,hc,hs,hv⟩:=hr.map l j es (hr.norm.m_lt hm) hH
 rw [hm] at hm'; cases hm'
 obtain ⟨f1,f2,f3,f4⟩:=map_find hT (w:=w) hk hes hyv hs hv
 have hg:(getObj b).run P w = .ok (.map ent es.length) w:=by simp [getObj,Sem.run,hc]
 cases hfa:findA k es with
 | none =>
  rw [hfa] at f4
  simp only [Option.bind_none] at f4
  have hput:entA re k es = (.tup [zeroA re,.int .i64 es.length],es ++ [(k,zeroA re)]):=by simp only [entA,hfa]
  obtain ⟨hh,hxx⟩:=map_turn hr hm hc (es:=es ++ [(k,zeroA re)]) (ent:=ent.push { key:=a.eval y,val:=z',born:=es.length }) (by simp [hs]) (fun i h h'=>by
   rcases Nat.lt_or_ge i es.length with hi | hi
   ·rw [List.getElem_append_left hi,Array.getElem_push_lt (by omega)]; exact hv i hi (by omega)
   ·have:i = es.length:=by simp at h; omega
    subst this
    simp only [List.getElem_concat_length]
    simp only [← hs,Array.getElem_push_eq]
    exact ⟨hyv,zeroA_VR hf' h0,trivial⟩)
  refine ⟨.tuple #[z',.int .i64 es.length],E,_,.inl ?_,?_,by rw [hput]; exact hh,hxx⟩
  ·rw [he,hp]
   simp only [Instr.mapEntry,Sem.run_bind,run_underlying hu,Result.andThen_ok,hg,f1,f4,run_zeroValue' hf',run_setObj' hc,Sem.run_pure,List.length_append,List.length_cons,List.length_nil,Nat.zero_add,goInt]
  ·rw [hput]
   exact .tup _ [z',.int .i64 es.length] rfl ((VRs.cons (zeroA_VR hf' h0) (VRs.cons (.int _ _) (VRs.nil E))).2)
 | some i =>
  rw [hfa] at f4
  have hi:=findA_lt hfa
  have hi':i < ent.size:=by omega
  simp only [Option.bind_some,Array.getElem?_eq_getElem hi',Option.map_some] at f4
  have hkey:ent[i].key = a.eval y:=by obtain ⟨_,h⟩:=f3 i hfa; exact h hi'
  have hgd:(es.getD i (.dead,.dead)).2 = es[i].2:=by simp [List.getD_eq_getElem?_getD,List.getElem?_eq_getElem hi]
  have hput:entA re k es = (.tup [es[i].2,.int .i64 i],es.set i (k,es[i].2)):=by simp only [entA,hfa,hgd]
  have hborn:=(hv i hi hi').2.2
  obtain ⟨hh,hxx⟩:=map_turn hr hm hc (es:=es.set i (k,es[i].2)) (ent:=ent.modify i fun e=>{ e with key:=a.eval y }) (by simp [hs]) (fun j h h'=>by
   simp only [List.length_set] at h
   have h3:=hv j h (by omega)
   rw [List.getElem_set,Array.getElem_modify]
   by_cases hij:i = j
   ·subst hij; simp only [if_true]; exact ⟨hyv,h3.2.1,h3.2.2⟩
   ·simp only [hij,if_false]; exact h3)
  refine ⟨.tuple #[ent[i].val,.int .i64 i],E,_,.inl ?_,?_,by rw [hput]; exact hh,hxx⟩
  ·rw [he,hp]
   simp only [Instr.mapEntry,Sem.run_bind,run_underlying hu,Result.andThen_ok,hg,f1,f4,Array.getElem?_eq_getElem hi',Option.map_some,Option.getD_some,hkey,f2,run_setObj' hc,Sem.run_pure,List.length_set,goInt,hborn]
  ·rw [hput]
   exact .tup _ [ent[i].val,.int .i64 i] rfl ((VRs.cons (hv i hi hi').2.1 (VRs.cons (.int _ _) (VRs.nil E))).2)
theorem findIdx_born' {ent:Array MapEntry} {n i:Nat} (hs:ent.size = n) (hb:∀ j (h:j < ent.size),ent[j].born = j) (hi:i < n):ent.findIdx? (fun e=>((e.born:Nat):Int) == ((i:Nat):Int)) = some i:=by
 rw [Array.findIdx?_eq_some_iff_getElem]
 refine ⟨by omega,?_,fun j hj=>?_⟩
 ·simp [hb i (by omega)]
 ·simp only [hb j (by omega),beq_iff_eq]
  omega
theorem or_entryStore {m:Nat} {H:AHeap} {t:TypeId} {x y z:Operand} {l j:Nat} {i:Nat} {kk:IntKind} {v:AV} {es:List (AV × AV)} (ho:o.op = .entryStore t x y z) (hx:ρ x = .map l j) (hy:ρ y = .int kk i) (hz:ρ z = v) (hH:H l j = some (.map es)) (hi:i < es.length) :
  OpRun P m o ρ H (.tup []) (H.upd l j (.map (es.set i ((es.getD i (.dead,.dead)).1,v)))):=fun E w a hr hops=>by
 have hxv:=hops x (by simp [ho,Op.operands])
 have hyv:=hops y (by simp [ho,Op.operands])
 have hzv:=hops z (by simp [ho,Op.operands])
 rw [hx] at hxv
 rw [hy] at hyv
 rw [hz] at hzv
 have he:execOp a.eval o = (do Instr.entryStore t (a.eval x) (a.eval y) (a.eval z); pure .skip):=by simp only [execOp,ho]
 generalize hp:a.eval x = p at hxv
 generalize hq:a.eval y = q at hyv
 cases hxv with | map _ _ b hm =>
 cases hyv
 obtain ⟨b',hm',ent,hc,hs,hv⟩:=hr.map l j es (hr.norm.m_lt hm) hH
 rw [hm] at hm'; cases hm'
 have hg:(getObj b).run P w = .ok (.map ent es.length) w:=by simp [getObj,Sem.run,hc]
 have hfi:=findIdx_born' hs (fun j h=>(hv j (by omega) h).2.2) hi
 have hgd:(es.getD i (.dead,.dead)).1 = es[i].1:=by simp [List.getD_eq_getElem?_getD,List.getElem?_eq_getElem hi]
 obtain ⟨hh,hxx⟩:=map_turn hr hm hc (es:=es.set i (es[i].1,v)) (ent:=ent.modify i fun e=>{ e with val:=a.eval z }) (by simp [hs]) (fun j h h'=>by
   simp only [List.length_set] at h
   have h3:=hv j h (by omega)
   rw [List.getElem_set,Array.getElem_modify]
   by_cases hij:i = j
   ·subst hij; simp only [if_true]; exact ⟨h3.1,hzv,h3.2.2⟩
   ·simp only [hij,if_false]; exact h3)
 refine ⟨undef,E,_,.inr ⟨?_,rfl⟩,VR_undef E,by rw [hgd]; exact hh,hxx⟩
 rw [he,hp,hq]
 simp only [Instr.entryStore,Sem.run_bind,Sem.run_pure,Result.andThen_ok,hg,asInt,asIntOf,hfi,run_setObj' hc,List.length_set]
end ops
end Go.Abs

/- Walks over maps; slices that may be written. No program, no condition. -/
namespace Go.Abs
def OpSemN (P:Program) (m:Nat) (o:Oper) (ρ:Operand → AV) (H:AHeap) (S:AV → AHeap → Prop):Prop :=
 ∀ E w (a:Act) (Q:Exit → Act → World → Prop) (K:Act → World → Prop),HRel m H E w → (∀ x ∈ o.op.operands,VR E (ρ x) (a.eval x)) →
  (∀ E' w' cv v H',S v H' → VR E' v cv → HRel m H' E' w' → Ext m E w E' w' → K (a.put o.dst cv) w') → ∀ ro,o.wpIn (fr ro) 0 P a w K Q
def NextS (H:AHeap) (l k l' j:Nat) (es:List (AV × AV)) (seen:List Nat) (v:AV) (H':AHeap):Prop :=
 ((∀ i,i < es.length → i ∈ seen) ∧ v = .tup [.bool false] ∧ H' = H) ∨
 ∃ i,i < es.length ∧ i ∉ seen ∧ v = .tup [.bool true,(es.getD i (.dead,.dead)).1,(es.getD i (.dead,.dead)).2] ∧ H' = H.upd l k (.iter l' j es.length (seen ++ [i]))
theorem HRel.iterTurn {m:Nat} {H:AHeap} {E:Env} {w:World} (hr:HRel m H E w) {l k l' j b b' since:Nat} {seen:List Nat} {x:Obj} (hm:E.m l k = some b) (hm':E.m l' j = some b') (hb:w.heap[b]? = some x) :
  HRel m (H.upd l k (.iter l' j since seen)) E { w with heap:=w.heap.setIfInBounds b (.mapIter (some b') since seen.toArray since) } ∧ Ext m E w E { w with heap:=w.heap.setIfInBounds b (.mapIter (some b') since seen.toArray since) }:=by
 have hlt:b < w.heap.size:=(Array.getElem?_eq_some_iff.1 hb).1
 exact hr.turn (.inl hm) (.iter l' j since seen) (fun hg=>absurd (hr.m_g hm) hg) rfl rfl rfl (fun _=>Nat.le_refl _) (by simp) (fun b' hne=>by simp [Array.getElem?_setIfInBounds_ne (Ne.symm hne)]) (fun o=>hr.mF _ _ _ o hm)
  ⟨b,b',hm,hm',by simp [hlt]⟩
section ops
variable {P:Program} {T:TT} {o:Oper} {ρ:Operand → AV}
theorem or_range {m:Nat} {H:AHeap} {t:TypeId} {x:Operand} {kt e:TypeId} {re:TRow} {l k l' j:Nat} {es:List (AV × AV)} (hT:TOK P T) (ho:o.op = .range t x) (h1:mapOf T t = some (kt,e,re))
  (hx:ρ x = .map l' j) (hH:H l' j = some (.map es)) (hl:l < m) (hfree:H l k = none) :
  OpRun P m o ρ H (.ptr l k 0) (H.upd l k (.iter l' j es.length [])):=fun E w a hr hops=>by
 have hxv:=hops x (by simp [ho,Op.operands])
 rw [hx] at hxv
 obtain ⟨hu,hre⟩:=mapOf_spec hT h1
 have he:execOp a.eval o = (do let v ← Instr.range t (a.eval x); pure (Next.value v)):=by simp only [execOp,ho]
 generalize hp:a.eval x = p at hxv
 cases hxv with | map _ _ b hm =>
 obtain ⟨b',hm',ent,hc,hs,hv⟩:=hr.map l' j es (hr.norm.m_lt hm) hH
 rw [hm] at hm'; cases hm'
 have hne:¬(l' = l ∧ j = k):=fun hc=>by rw [hc.1,hc.2,hfree] at hH; cases hH
 obtain ⟨hh,hxx⟩:=hr.newSlot hl hfree (.mapIter (some b) es.length #[] es.length) (.iter l' j es.length []) ⟨w.heap.size,b,by simp [Env.setM],by simp only [Env.setM]; rw [if_neg hne]; exact hm,heap_alloc_new w _⟩
 refine ⟨.pointer (some ⟨w.heap.size,0,none⟩),_,_,.inl ?_,.ptr l k 0 _ (by simp [Env.setM]),hh,hxx⟩
 rw [he,hp]
 simp [Instr.range,Sem.run_bind,run_underlying hu,getObj,Sem.run,hc,newObj,Result.andThen]
theorem run_next_at {w:World} {ty:TypeId} {r bm:Nat} {seen:List Nat} {es:Array MapEntry} {n:Nat} (hr:w.heap[r]? = some (.mapIter (some bm) n seen.toArray n)) (hb:w.heap[bm]? = some (.map es n)) (hs:es.size = n)
  (hborn:∀ i (h:i < es.size),es[i].born = i) :
  ((∀ i,i < n → i ∈ seen) ∧ (Instr.next (.pointer (some ⟨r,0,none⟩)) false ty).run P w = .ok (.tuple #[.bool false]) w) ∨
  ∃ (i:Nat) (h:i < es.size),i ∉ seen ∧ ∃ dr,w.drawn ≤ dr ∧ (Instr.next (.pointer (some ⟨r,0,none⟩)) false ty).run P w = .ok (.tuple #[.bool true,es[i].key,es[i].val]) { w with heap:=w.heap.setIfInBounds r (.mapIter (some bm) n (seen ++ [i]).toArray n),drawn:=dr }:=by
 have hold:∀ x ∈ es.toList,x.born < n:=by
  intro x hx
  obtain ⟨i,hi,rfl⟩:=List.getElem_of_mem hx
  simp only [Array.length_toList] at hi
  simp only [Array.getElem_toList,hborn i hi]; omega
 simp only [Instr.next,getObj,Sem.run_bind,Sem.run,hr,hb,Result.andThen,next_test_false seen.toArray es n n hold (Nat.le_refl _),Bool.false_eq_true,if_false]
 have hmem:∀ x,x ∈ (Array.filter (fun e=>!seen.toArray.contains e.born) es).toList → ∃ (i:Nat) (h:i < es.size),x = es[i] ∧ i ∉ seen:=by
  intro x hx
  simp only [Array.toList_filter,List.mem_filter,Bool.not_eq_true',Array.mem_toList_iff] at hx
  obtain ⟨i,hi,rfl⟩:=Array.getElem_of_mem hx.1
  refine ⟨i,hi,rfl,fun hc=>?_⟩
  have:=hx.2
  rw [hborn i hi] at this
  simp [hc] at this
 have hall:(Array.filter (fun e=>!seen.toArray.contains e.born) es).size = 0 → ∀ i,i < n → i ∈ seen:=by
  intro h0 i hi
  have he:Array.filter (fun e=>!seen.toArray.contains e.born) es = #[]:=Array.eq_empty_of_size_eq_zero h0
  rw [Array.filter_eq_empty_iff] at he
  have:=he es[i] (Array.getElem_mem (by omega))
  rw [hborn i (by omega)] at this
  simpa using this
 generalize Array.filter (fun e=>!seen.toArray.contains e.born) es = L at hmem hall ⊢
 have hlt:∀ x ∈ L.toList,x.born < n:=by
  intro x hx
  obtain ⟨i,hi,rfl,_⟩:=hmem x hx
  rw [hborn i hi]; omega
 have e1:L.filter (fun x=>decide (x.born < n)) = L:=Array.filter_eq_self.2 (fun x hx=>by simpa using hlt x (by simpa using hx))
 have e2:L.filter (fun x=>decide (x.born ≥ n)) = #[]:=by
  rw [Array.filter_eq_empty_iff]
  intro x hx
  have:=hlt x (by simpa using hx)
  simp
  omega
 simp only [e1,e2,Array.append_empty]
 by_cases h0:L.size = 0
 ·left
  refine ⟨hall h0,?_⟩
  have:L = #[]:=Array.eq_empty_of_size_eq_zero h0
  subst this
  simp [choose,Sem.run,Question.forced]
 ·right
  have hne:L.isEmpty = false:=by simp [Array.isEmpty,h0]
  simp only [hne,Bool.false_eq_true,if_false,Array.empty_append,Array.size_map]
  have hch:∃ (j dr:Nat),j < L.size ∧ w.drawn ≤ dr ∧ (choose (Question.mapNext L.size)).run P w = .ok j { w with drawn:=dr }:=by
   by_cases hf:L.size ≤ 1
   ·exact ⟨0,w.drawn,by omega,Nat.le_refl _,by simp [choose,Sem.run,Question.forced,hf]⟩
   ·exact ⟨_,w.drawn + 1,Nat.mod_lt _ (by omega),Nat.le_succ _,by
     simp only [choose,Sem.run,Question.forced,decide_eq_true_eq,hf,if_false,Question.cut]
     rfl⟩
  obtain ⟨j,dr,hj,hdr,hrun⟩:=hch
  obtain ⟨i,hi,hei,hns⟩:=hmem L[j] (by simp)
  refine ⟨i,hi,hns,dr,hdr,?_⟩
  have hset:∀ o',(setObj r o').run P { w with drawn:=dr } = .ok () { w with heap:=w.heap.setIfInBounds r o',drawn:=dr }:=fun o'=>by
   simp only [setObj,Sem.run,hr]
  simp only [hrun,Array.getElem?_map,Array.getElem?_eq_getElem hj,Option.map_some,Sem.run_bind,hset,Result.andThen]
  rw [hei,hborn i hi]
  simp [Sem.run]
theorem os_next {m:Nat} {H:AHeap} {x:Operand} {l k l' j:Nat} {es:List (AV × AV)} {seen:List Nat} (ho:o.op = .next x false) (hx:ρ x = .ptr l k 0) (hH:H l k = some (.iter l' j es.length seen)) (hM:H l' j = some (.map es)) :
  OpSemN P m o ρ H (NextS H l k l' j es seen):=fun E w a Q K hr hops hK ro=>by
 have hxv:=hops x (by simp [ho,Op.operands])
 rw [hx] at hxv
 have he:execOp a.eval o = (do let v ← Instr.next (a.eval x) false o.type; pure (Next.value v)):=by simp only [execOp,ho]
 generalize hp:a.eval x = p at hxv
 cases hxv with | ptr _ _ _ b hm =>
 obtain ⟨r,r',a1,a2,a3⟩:=hr.blk l k _ (hr.norm.m_lt hm) hH
 rw [hm] at a1; cases a1
 obtain ⟨b',hm',ent,hc,hs,hv⟩:=hr.map l' j es (hr.norm.m_lt a2) hM
 rw [a2] at hm'; cases hm'
 rcases run_next_at (P:=P) (ty:=o.type) a3 hc hs (fun i h=>(hv i (by omega) h).2.2) with ⟨n1,n2⟩ | ⟨i,hi,n1,dr,hdr,n2⟩
 ·have hrun:(execOp a.eval o).run P w = .ok (.value (.tuple #[.bool false])) w:=by
   rw [he,hp]; simp only [Sem.run_bind,n2,Result.andThen_ok,Sem.run_pure]
  refine wpIn_of_run hrun (fun _ e=>by cases e) ?_
  exact hK E w _ (.tup [.bool false]) H (.inl ⟨n1,rfl,rfl⟩) (.tup _ [.bool false] rfl ((VRs.cons (.bool _) (VRs.nil E)).2)) hr (.refl m E w)
 ·have hrun:(execOp a.eval o).run P w = .ok (.value (.tuple #[.bool true,ent[i].key,ent[i].val])) { w with heap:=w.heap.setIfInBounds b (.mapIter (some r') es.length (seen ++ [i]).toArray es.length),drawn:=dr }:=by
   rw [he,hp]; simp only [Sem.run_bind,n2,Result.andThen_ok,Sem.run_pure]
  refine wpIn_of_run hrun (fun _ e=>by cases e) ?_
  have hi2:i < es.length:=by omega
  obtain ⟨hh,hxx⟩:=hr.iterTurn (since:=es.length) (seen:=seen ++ [i]) hm a2 a3
  have hgd:es.getD i (.dead,.dead) = es[i]:=by simp [List.getD_eq_getElem?_getD,List.getElem?_eq_getElem hi2]
  obtain ⟨q1,q2,_⟩:=hv i hi2 hi
  refine hK E _ _ (.tup [.bool true,es[i].1,es[i].2]) (H.upd l k (.iter l' j es.length (seen ++ [i]))) (.inr ⟨i,hi2,n1,by rw [hgd],rfl⟩)
   (.tup _ [.bool true,ent[i].key,ent[i].val] rfl ((VRs.cons (.bool _) (VRs.cons q1 (VRs.cons q2 (VRs.nil E)))).2)) ?_ ?_
  ·exact { norm:=hh.norm,F:=hh.F,blk:=fun l k b hl hb=>(hh.blk l k b hl hb).keep rfl rfl (fun _=>rfl) (fun _ _ _ h=>h) (fun _ _=>rfl) (fun _ _ _ h=>h) (fun _ _ _ h=>h),dom:=hh.dom,nobuf:=hh.nobuf,inj:=hh.inj,injg:=hh.injg,mg:=hh.mg,mF:=hh.mF,lt:=hh.lt }
  ·exact ⟨hxx.le,hxx.os,hxx.tape,hxx.output,fun _=>hdr,hxx.size,hxx.block,hxx.own⟩
theorem or_entry {m:Nat} {H:AHeap} {x:Operand} {l k l' j i:Nat} {es:List (AV × AV)} {seen:List Nat} (ho:o.op = .entry x) (hx:ρ x = .ptr l k 0) (hH:H l k = some (.iter l' j es.length (seen ++ [i]))) (hM:H l' j = some (.map es)) (hi:i < es.length) :
  OpRun P m o ρ H (.tup [(es.getD i (.dead,.dead)).1,(es.getD i (.dead,.dead)).2]) H:=fun E w a hr hops=>by
 have hxv:=hops x (by simp [ho,Op.operands])
 rw [hx] at hxv
 have he:execOp a.eval o = (do let v ← Instr.entry (a.eval x); pure (Next.value v)):=by simp only [execOp,ho]
 generalize hp:a.eval x = p at hxv
 cases hxv with | ptr _ _ _ b hm =>
 obtain ⟨r,r',a1,a2,a3⟩:=hr.blk l k _ (hr.norm.m_lt hm) hH
 rw [hm] at a1; cases a1
 obtain ⟨b',hm',ent,hc,hs,hv⟩:=hr.map l' j es (hr.norm.m_lt a2) hM
 rw [a2] at hm'; cases hm'
 have hi':i < ent.size:=by omega
 have hf:ent.find? (·.born == i) = some ent[i]:=by
  rw [← Array.find?_toList]
  rw [List.find?_eq_some_iff_getElem]
  refine ⟨by simp [(hv i hi hi').2.2],i,by simpa using hi',by simp,fun j' hj'=>?_⟩
  have:=(hv j' (by omega) (by omega)).2.2
  simp only [Array.getElem_toList,this,Bool.not_eq_true',beq_eq_false_iff_ne]
  omega
 have hgd:es.getD i (.dead,.dead) = es[i]:=by simp [List.getD_eq_getElem?_getD,List.getElem?_eq_getElem hi]
 obtain ⟨q1,q2,_⟩:=hv i hi hi'
 refine ⟨.tuple #[ent[i].key,ent[i].val],E,w,.inl ?_,by rw [hgd]; exact .tup _ [ent[i].key,ent[i].val] rfl ((VRs.cons q1 (VRs.cons q2 (VRs.nil E))).2),hr,.refl m E w⟩
 rw [he,hp]
 have hbk:(seen ++ [i]).toArray.back? = some i:=by simp
 simp only [Instr.entry,getObj,Sem.run_bind,Sem.run,a3,hc,Result.andThen,hbk,bne_self_eq_false,Bool.false_eq_true,if_false,hf]
 rfl
theorem pr_indexAddr_msl {t:TypeId} {x ix:Operand} {r re:TRow} {e:TypeId} {sz l k n:Nat} {kk:IntKind} {i:Int} (hT:TOK P T) (ho:o.op = .indexAddr t x ix)
  (h1:T t = some r) (h2:r.td = .slice e) (h3:T e = some re) (hv:ρ x = .msl sz l k n) (hi:ρ ix = .int kk i) (hlo:0 ≤ i) (hhi:i < n) :
  PRun P o ρ (.eptr l k n (i.toNat * re.size)):=fun E a h=>by
 have hx:=h x (by simp [ho,Op.operands])
 have hix:=h ix (by simp [ho,Op.operands])
 rw [hv] at hx
 rw [hi] at hix
 obtain ⟨d,inf,z,hf⟩:=rowOK_facts (hT t r h1)
 obtain ⟨d',i',z',hf'⟩:=rowOK_facts (hT e re h3)
 have hd:=slice_fits (h2 ▸ hf.fits)
 subst hd
 cases hyi:a.eval ix <;> rw [hyi] at hix <;> cases hix
 generalize hy:a.eval x = y at hx
 cases hx with
 | mnil=>omega
 | msl _ _ _ _ g cap hh =>
  refine ⟨.pointer (some ⟨g,i.toNat * re.size,none⟩),fun w=>?_,.eptr l k n _ g cap hh⟩
  simp [execOp,ho,hy,hyi,Instr.indexAt,asIntOf,run_underlying hf.und,hlo,hhi,run_sizeOf' hf',addr_add_lit]
theorem pr_len_msl {t:TypeId} {x:Operand} {r:TRow} {e:TypeId} {sz l k n:Nat} (hT:TOK P T) (ho:o.op = .call { callee:=.builtin .len,args:=#[x],argTypes:=#[t] })
  (h1:T t = some r) (h2:r.td = .slice e) (hv:ρ x = .msl sz l k n):PRun P o ρ (.int .i64 n):=fun E a h=>by
 have hx:=h x (by simp [ho,Op.operands,Call.operands])
 rw [hv] at hx
 obtain ⟨d,inf,z,hf⟩:=rowOK_facts (hT t r h1)
 have hd:=slice_fits (h2 ▸ hf.fits)
 subst hd
 generalize hy:a.eval x = y at hx
 cases hx with
 | mnil=>exact ⟨_,fun w=>by simp [execOp,ho,hy,resolve,invoke,builtin,Builtin.len_,run_underlying hf.und,goInt],.int _ _⟩
 | msl=>exact ⟨_,fun w=>by simp [execOp,ho,hy,resolve,invoke,builtin,Builtin.len_,run_underlying hf.und,goInt],.int _ _⟩
theorem pr_fieldAddr_eptr {t:TypeId} {x:Operand} {f:Nat} {r rf:TRow} {fs:List (Nat × TypeId)} {fo ft l k n off:Nat} (hT:TOK P T) (ho:o.op = .fieldAddr t x f) (h1:T t = some r) (h2:r.td = .struct fs)
  (h3:fs[f]? = some (fo,ft)) (h4:T ft = some rf) (h5:rf.size ≠ 0) (hv:ρ x = .eptr l k n off):PRun P o ρ (.eptr l k n (off + fo)):=fun E a h=>by
 have hx:=h x (by simp [ho,Op.operands])
 rw [hv] at hx
 obtain ⟨d,i,z,hf⟩:=rowOK_facts (hT t r h1)
 obtain ⟨d',i',z',hf'⟩:=rowOK_facts (hT ft rf h4)
 obtain ⟨gs,rfl,hgs,_⟩:=fits_struct (h2 ▸ hf.fits)
 have hg:∃ g,gs[f]? = some g ∧ g.offset = fo ∧ g.type = ft:=by
  have h3':=h3
  rw [← hgs,List.getElem?_map] at h3'
  cases hq:gs.toList[f]? with
  | none=>simp [hq] at h3'
  | some g=>rw [hq] at h3'; simp at h3'; exact ⟨g,by rw [← Array.getElem?_toList]; exact hq,h3'.1,h3'.2⟩
 obtain ⟨g,hg1,hg2,hg3⟩:=hg
 generalize hy:a.eval x = y at hx
 cases hx with | eptr _ _ _ _ b cap hh =>
 refine ⟨.pointer (some ⟨b,off + fo,none⟩),fun w=>?_,.eptr l k n _ b cap hh⟩
 simp [execOp,ho,hy,Instr.fieldAt,run_underlying hf.und,hg1,Instr.sureAddr,fieldPlace,hg3,run_sizeOf' hf',h5,addr_add_lit,hg2]
end ops
end Go.Abs

/- Interface values. No program. -/
namespace Go.Abs
section
variable {P:Program} {T:TT} {o:Oper} {ρ:Operand → AV}
theorem pr_makeIface {t:TypeId} {x:Operand} {r:TRow} (hT:TOK P T) (ho:o.op = .makeInterface t x) (h1:T t = some r) (h2:r.td ≠ .iface):PRun P o ρ (.ifc t (ρ x)):=fun E a h=>by
 obtain ⟨d,i,z,hf⟩:=rowOK_facts (hT t r h1)
 have hx:=h x (by simp [ho,Op.operands])
 refine ⟨.iface t (a.eval x),fun w=>?_,.ifc t _ _ hx⟩
 have hu:P.underlying t = some d:=hf.und
 have hfit:=hf.fits
 simp only [execOp,ho,Instr.makeInterface,Sem.run_bind,run_underlying hu,Result.andThen_ok]
 cases d <;> first | (simp [Sem.run_pure]; done) | skip
 all_goals (cases hr:r.td <;> rw [hr] at hfit <;> first | (simp [TD.fits] at hfit; done) | exact absurd hr h2)
theorem pr_assert_yes {x:Operand} {xt t:TypeId} {r:TRow} {v:AV} (hT:TOK P T) (ho:o.op = .typeAssert x xt t true) (h1:T t = some r) (h2:r.td ≠ .iface) (hx:ρ x = .ifc t v):PRun P o ρ (.tup [v,.bool true]):=fun E a h=>by
 obtain ⟨d,i,z,hf⟩:=rowOK_facts (hT t r h1)
 have hv:=h x (by simp [ho,Op.operands])
 rw [hx] at hv
 cases hy:a.eval x <;> rw [hy] at hv <;> cases hv
 rename_i u hu
 refine ⟨.tuple #[u,.bool true],fun w=>?_,?_⟩
 ·have hud:P.underlying t = some d:=hf.und
  have hfit:=hf.fits
  simp only [execOp,ho,hy,Instr.typeAssert,Sem.run_bind,run_underlying hud,Result.andThen_ok]
  cases d <;> first | (simp [Sem.run_pure]; done) | skip
  all_goals (cases hr:r.td <;> rw [hr] at hfit <;> first | (simp [TD.fits] at hfit; done) | exact absurd hr h2)
 ·exact .tup [v,.bool true] [u,.bool true] rfl (VRs.cons hu (VRs.cons (.bool true) (VRs.nil E))).2
theorem pr_assert_plain {x:Operand} {xt t:TypeId} {r:TRow} {v:AV} (hT:TOK P T) (ho:o.op = .typeAssert x xt t false) (h1:T t = some r) (h2:r.td ≠ .iface) (hx:ρ x = .ifc t v):PRun P o ρ v:=fun E a h=>by
 obtain ⟨d,i,z,hf⟩:=rowOK_facts (hT t r h1)
 have hv:=h x (by simp [ho,Op.operands])
 rw [hx] at hv
 cases hy:a.eval x <;> rw [hy] at hv <;> cases hv
 rename_i u hu
 refine ⟨u,fun w=>?_,hu⟩
 have hud:P.underlying t = some d:=hf.und
 have hfit:=hf.fits
 simp only [execOp,ho,hy,Instr.typeAssert,Sem.run_bind,run_underlying hud,Result.andThen_ok]
 cases d <;> first | (simp [Sem.run_pure]; done) | skip
 all_goals (cases hr:r.td <;> rw [hr] at hfit <;> first | (simp [TD.fits] at hfit; done) | exact absurd hr h2)
theorem pr_assert_no {x:Operand} {xt t t':TypeId} {r:TRow} {v:AV} (hT:TOK P T) (ho:o.op = .typeAssert x xt t true) (h1:T t = some r) (h2:r.td ≠ .iface) (h3:t' ≠ t) (h0:r.isAgg = false → r.size = 1) (hx:ρ x = .ifc t' v):PRun P o ρ (.tup [zeroA r,.bool false]):=fun E a h=>by
 obtain ⟨d,i,z,hf⟩:=rowOK_facts (hT t r h1)
 have hv:=h x (by simp [ho,Op.operands])
 rw [hx] at hv
 cases hy:a.eval x <;> rw [hy] at hv <;> cases hv
 refine ⟨.tuple #[z,.bool false],fun w=>?_,?_⟩
 ·have hud:P.underlying t = some d:=hf.und
  have hfit:=hf.fits
  simp only [execOp,ho,hy,Instr.typeAssert,Sem.run_bind,run_underlying hud,Result.andThen_ok]
  cases d <;> first | (simp [Sem.run_pure,h3,run_zeroValue' hf]; done) | skip
  all_goals (cases hr:r.td <;> rw [hr] at hfit <;> first | (simp [TD.fits] at hfit; done) | exact absurd hr h2)
 ·exact .tup _ [z,.bool false] rfl (VRs.cons (zeroA_VR hf h0) (VRs.cons (.bool false) (VRs.nil E))).2
theorem pr_assert_nil {x:Operand} {xt t:TypeId} {r:TRow} (hT:TOK P T) (ho:o.op = .typeAssert x xt t true) (h1:T t = some r) (h2:r.td ≠ .iface) (h0:r.isAgg = false → r.size = 1) (hx:ρ x = .nili):PRun P o ρ (.tup [zeroA r,.bool false]):=fun E a h=>by
 obtain ⟨d,i,z,hf⟩:=rowOK_facts (hT t r h1)
 have hv:=h x (by simp [ho,Op.operands])
 rw [hx] at hv
 cases hy:a.eval x <;> rw [hy] at hv <;> cases hv
 refine ⟨.tuple #[z,.bool false],fun w=>?_,?_⟩
 ·have hud:P.underlying t = some d:=hf.und
  have hfit:=hf.fits
  simp only [execOp,ho,hy,Instr.typeAssert,Sem.run_bind,run_underlying hud,Result.andThen_ok]
  cases d <;> first | (simp [Sem.run_pure,run_zeroValue' hf]; done) | skip
  all_goals (cases hr:r.td <;> rw [hr] at hfit <;> first | (simp [TD.fits] at hfit; done) | exact absurd hr h2)
 ·exact .tup _ [z,.bool false] rfl (VRs.cons (zeroA_VR hf h0) (VRs.cons (.bool false) (VRs.nil E))).2
def nilQ (y:Operand) (v:AV):Option Bool:=match y with
 | .const (.slice none 0 0)=>(match v with
  | .nils=>some true
  | .sl _ (_ :: _) _=>some false
  | .sln _=>some false
  | _=>none)
 | _=>none
theorem pr_nilQ {op:BinOp} {t yt:TypeId} {x y:Operand} {r:TRow} {e:TypeId} {b:Bool} (hT:TOK P T) (ho:o.op = .binOp op t x y yt) (h1:T t = some r) (h2:r.td = .slice e) (hq:nilQ y (ρ x) = some b) (hop:op = .eql ∨ op = .neq):PRun P o ρ (.bool (if op = .eql then b else !b)):=fun E a h=>by
 have k1:=h x (by simp [ho,Op.operands])
 obtain ⟨d,inf,z,hf⟩:=rowOK_facts (hT t r h1)
 unfold nilQ at hq
 split at hq
 ·have k2:VR E .nils (a.eval (.const (.slice none 0 0))):=.nils
  split at hq
  ·rename_i hx
   cases hq
   rw [hx] at k1
   obtain ⟨h3,h4⟩:=bin_eq_nil (P:=P) hf.und (h2 ▸ hf.fits) k1 k2 (.ss e) hop
   exact ⟨_,bin_run ho rfl rfl h4 h3,.bool _⟩
  ·rename_i hx
   cases hq
   rw [hx] at k1
   obtain ⟨h3,h4⟩:=bin_eq_nil (P:=P) hf.und (h2 ▸ hf.fits) k1 k2 (.sn e _ _ _ _) hop
   exact ⟨_,bin_run ho rfl rfl h4 h3,.bool _⟩
  ·rename_i hx
   cases hq
   rw [hx] at k1
   obtain ⟨h3,h4⟩:=bin_eq_nil (P:=P) hf.und (h2 ▸ hf.fits) k1 k2 (.sx e _) hop
   exact ⟨_,bin_run ho rfl rfl h4 h3,.bool _⟩
  ·cases hq
 ·cases hq
end
end Go.Abs

/- Arrays, and slices made at once. No program. -/
namespace Go.Abs
section
variable {P:Program} {T:TT} {o:Oper} {ρ:Operand → AV}
theorem arr_fits {n:Nat} {e:TypeId} {d:TypeDesc} (h:(TD.array n e).fits d = true):d = .array n e:=by
 cases d <;> simp [TD.fits] at h
 obtain ⟨rfl,rfl⟩:=h; rfl
theorem pr_build_arr {t:TypeId} {ps:Array (Nat × Operand)} {r re:TRow} {n:Nat} {e:TypeId} {out:List AV} (hT:TOK P T) (ho:o.op = .build t ps) (h1:T t = some r) (h2:r.td = .array n e) (h3:T e = some re)
  (hf:fillA (fun i=>some (i * re.size,re.size)) r.zero (partsA ρ ps.toList) = some out) (hone:∀ p ∈ partsA ρ ps.toList,∀ c ∈ p.2.cells,c.one = true):PRun P o ρ (.agg out):=fun E a h=>by
 obtain ⟨d,inf,z,hr⟩:=rowOK_facts (hT t r h1)
 obtain ⟨d',inf',z',hr'⟩:=rowOK_facts (hT e re h3)
 have hd:=arr_fits (h2 ▸ hr.fits)
 subst hd
 have hz:VRs E r.zero z.cells.toList:=fitsAll_VRs hr.zfits
 have hparts:∀ i (h:i < (partsA ρ ps.toList).length) (h':i < (ps.toList.map fun p=>(p.1,a.eval p.2)).length),
   (partsA ρ ps.toList)[i].1 = (ps.toList.map fun p=>(p.1,a.eval p.2))[i].1 ∧ VR E (partsA ρ ps.toList)[i].2 (ps.toList.map fun p=>(p.1,a.eval p.2))[i].2 ∧ (∀ c ∈ (partsA ρ ps.toList)[i].2.cells,c.one = true):=by
  intro i h1 h2
  refine ⟨by simp [partsA],?_,fun c hc=>hone _ (List.getElem_mem h1) c hc⟩
  simp only [partsA,List.getElem_map]
  have hi:i < ps.toList.length:=by simpa [partsA] using h1
  exact h _ (by rw [ho]; simp only [Op.operands]; simp only [List.mem_toArray,List.mem_map]; exact ⟨ps.toList[i],by simp,rfl⟩)
 obtain ⟨us,hu1,hu2⟩:=fill_VRs hf hz (by simp [partsA]) hparts
 refine ⟨.agg us,fun w=>?_,?_⟩
 ·have he:execOp a.eval o = (do let v ← Instr.build t (ps.map fun (i,x)=>(i,a.eval x)); pure (Next.value v)):=by simp only [execOp,ho]
  have hm:(ps.map fun (i,x)=>(i,a.eval x)).toList = ps.toList.map fun p=>(p.1,a.eval p.2):=by simp
  rw [he]
  have hu1':Instr.fill (fun i=>some (i * re.size,re.size)) z.cells (ps.toList.map fun p=>(p.1,a.eval p.2)) = some us:=hu1
  simp only [Instr.build,Sem.run_bind,run_zeroValue' hr,Result.andThen_ok,run_underlying hr.und,run_sizeOf' hr',hm,hu1']
  rfl
 ·have:us = us.toList.toArray:=by simp
  rw [this]
  exact .agg out us.toList hu2.1 hu2.2
theorem pr_indexAddr_arr {t:TypeId} {x ix:Operand} {r re:TRow} {e:TypeId} {N l k off:Nat} {kk:IntKind} {i:Int} (hT:TOK P T) (ho:o.op = .indexAddr t x ix)
  (h1:T t = some r) (h2:r.td = .array N e) (h3:T e = some re) (hv:ρ x = .ptr l k off) (hi:ρ ix = .int kk i) (hlo:0 ≤ i) (hhi:i < N) :
  PRun P o ρ (.ptr l k (off + i.toNat * re.size)):=fun E a h=>by
 have hx:=h x (by simp [ho,Op.operands])
 have hix:=h ix (by simp [ho,Op.operands])
 rw [hv] at hx
 rw [hi] at hix
 obtain ⟨d,inf,z,hf⟩:=rowOK_facts (hT t r h1)
 obtain ⟨d',i',z',hf'⟩:=rowOK_facts (hT e re h3)
 have hd:=arr_fits (h2 ▸ hf.fits)
 subst hd
 cases hyi:a.eval ix <;> rw [hyi] at hix <;> cases hix
 generalize hy:a.eval x = y at hx
 cases hx with
 | ptr _ _ _ b hm =>
  refine ⟨.pointer (some ⟨b,off + i.toNat * re.size,none⟩),fun w=>?_,.ptr l k _ b hm⟩
  simp [execOp,ho,hy,hyi,Instr.indexAt,asIntOf,run_underlying hf.und,hlo,hhi,run_sizeOf' hf',addr_add_lit,Instr.sureAddr]
theorem pr_indexAddr_arri {t:TypeId} {x ix:Operand} {r re:TRow} {e:TypeId} {N:Nat} {cs:List AV} {kk:IntKind} {i:Int} (hT:TOK P T) (ho:o.op = .indexAddr t x ix)
  (h1:T t = some r) (h2:r.td = .array N e) (h3:T e = some re) (hv:ρ x = .iptr cs) (hi:ρ ix = .int kk i) (hlo:0 ≤ i) (hhi:i < N) :
  PRun P o ρ (.iptr (cs.drop (i.toNat * re.size))):=fun E a h=>by
 have hx:=h x (by simp [ho,Op.operands])
 have hix:=h ix (by simp [ho,Op.operands])
 rw [hv] at hx
 rw [hi] at hix
 obtain ⟨d,inf,z,hf⟩:=rowOK_facts (hT t r h1)
 obtain ⟨d',i',z',hf'⟩:=rowOK_facts (hT e re h3)
 have hd:=arr_fits (h2 ▸ hf.fits)
 subst hd
 cases hyi:a.eval ix <;> rw [hyi] at hix <;> cases hix
 generalize hy:a.eval x = y at hx
 cases hx with
 | iptr _ b off c hc hv' =>
  refine ⟨.pointer (some ⟨b,off + i.toNat * re.size,none⟩),fun w=>?_,?_⟩
  ·simp [execOp,ho,hy,hyi,Instr.indexAt,asIntOf,run_underlying hf.und,hlo,hhi,run_sizeOf' hf',addr_add_lit,Instr.sureAddr]
  ·refine .iptr _ b _ (fun j=>c (i.toNat * re.size + j)) (fun j hj=>?_) (fun j hj=>?_)
   ·simp only [List.length_drop] at hj
    have:=hc (i.toNat * re.size + j) (by omega)
    rw [Nat.add_assoc]; exact this
   ·simp only [List.length_drop] at hj
    have:=hv' (i.toNat * re.size + j) (by omega)
    simpa [List.getElem_drop] using this
end
end Go.Abs
