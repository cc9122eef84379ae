/- Abstract values, the ghost environment, and the relation of abstract values to the model's values. No program, no condition. -/
import Derived.WalkKit
import Derived.RangeFuncLeaves
import Derived.RangeFuncRecord
import Derived.OrdersIn
import Derived.TacticsIn
import Derived.Orders
set_option linter.all false
theorem sS{p:Prop}(h:p:=by simp only[go_sem,simprocAttr]):p:=h
theorem om{p:Prop}(h:p:=by omega):p:=h
theorem sm{p:Prop}(h:p:=by simp):p:=h
theorem dc{p:Prop}(h:p:=by decide):p:=h
theorem ck{α:Type _}{a b:α}(h:a=b:=by kernel_rfl):some a=some b:=congrArg some h
theorem sF{p:Prop}(h:p:=by simp only[go_sem,simprocAttr,full]):p:=h
theorem sO{p:Prop}(h:p:=by simp[ho,Go.Op.operands]):p:=h
theorem sC{p:Prop}(h:p:=by simp[ho,Go.Op.operands,Go.Call.operands]):p:=h
abbrev Qa:=@List.getElem_mem
abbrev Qb:=@List.mem_map
abbrev Qd:=@List.getElem?_eq_getElem
abbrev Qe:=@Nat.le_refl
abbrev Qg:=@Nat.lt_or_ge
abbrev Qh:=@List.length_append
abbrev Qi:=@Bool.and_eq_true
abbrev Qj:=@List.mem_append
abbrev Qk:=@List.mem_cons
abbrev Ql:=@List.mem_singleton
abbrev Qm:=@Nat.not_lt_zero
abbrev Qn:=@List.take_succ_eq_append_getElem
abbrev Qo:=@List.length_cons
abbrev Qp:=@List.getD_eq_getElem?_getD
abbrev Qq:=@Option.some.injEq
abbrev Qr:=@Nat.lt_succ_self
abbrev Qs:=@List.map_cons
abbrev Qu:=@List.append_nil
abbrev Qv:=@List.length_map
abbrev Qw:=@List.drop_eq_getElem_cons
abbrev Qx:=@List.mem_cons_of_mem
abbrev Qy:=@List.not_mem_nil
abbrev Qz:=@List.mem_flatMap
abbrev QA:=@List.all_eq_true
abbrev QB:=@List.length_nil
abbrev QC:=@List.mem_append_left
abbrev QD:=@Nat.mul_le_mul_right
abbrev QE:=@Nat.not_lt
abbrev QF:=@Nat.zero_add
abbrev QG:=@List.map_append
abbrev QI:=@List.length_take
abbrev QJ:=@List.getElem_of_mem
abbrev QK:=@List.mem_append_right
abbrev QL:=@List.length_drop
abbrev QM:=@List.take_length
abbrev QN:=@Array.getElem?_eq_some_iff
abbrev QO:=@List.getElem_map
abbrev QS:=@List.flatMap_cons
abbrev QT:=@Bool.false_eq_true
abbrev QU:=@List.sizeOf_lt_of_mem
abbrev QV:=@List.getElem?_take_of_lt
abbrev QW:=@Nat.succ_pos
abbrev QX:=@List.take_append_drop
abbrev QY:=@List.nil_append
abbrev QZ:=@List.getElem?_map
abbrev Q5:=@List.take_of_length_le
abbrev Q7:=@List.append_assoc
abbrev Q8:=@List.getElem?_eq_some_iff
abbrev Q9:=@List.cons_append
abbrev Ua:=@Array.getD_eq_getD_getElem?
abbrev Ub:=@List.cons.injEq
abbrev Uc:=@List.eq_nil_of_length_eq_zero
abbrev Ud:=@List.getElem_cons_zero
abbrev Ue:=@Nat.add_mul
abbrev Uf:=@Array.length_toList
abbrev Ug:=@List.mem_replicate
abbrev Uh:=@Nat.lt_irrefl
abbrev Ui:=@Nat.lt_of_lt_of_le
abbrev Uj:=@Nat.le_succ
abbrev Uk:=@List.drop_eq_nil_of_le
abbrev Ul:=@Option.map_eq_some_iff
abbrev Um:=@Option.getD_some
abbrev Un:=@Nat.zero_le
abbrev Uo:=@List.length_take_of_le
abbrev Ur:=@List.flatMap_append
abbrev Us:=@Option.map_some
abbrev Ut:=@List.getElem?_eq_none
abbrev Uu:=@List.foldl_cons
abbrev Uw:=@Nat.le_trans
abbrev Ux:=@List.drop_of_length_le
abbrev Uy:=@List.map_nil
abbrev Uz:=@List.contains_cons
abbrev UA:=@List.pairwise_cons
abbrev UC:=@List.getElem?_drop
abbrev UD:=@Nat.add_zero
abbrev UE:=@Option.bind_some
abbrev UF:=@List.drop_drop
abbrev UG:=@List.getElem?_take
abbrev UH:=@List.length_filter_le
abbrev UJ:=@List.getElem?_cons_succ
abbrev UK:=@Array.getElem?_eq_getElem
abbrev UL:=@List.getElem?_append_left
abbrev UM:=@List.mem_of_mem_take
abbrev UN:=@Array.getElem?_setIfInBounds_ne
abbrev UO:=@Option.some.inj
abbrev UQ:=@Bool.eq_iff_iff
abbrev UR:=@Array.eq_empty_of_size_eq_zero
abbrev UU:=@List.pairwise_iff_getElem
abbrev UW:=@List.getElem_cons_succ
abbrev UY:=@Nat.eq_zero_or_pos
abbrev UZ:=@List.set_cons_zero
abbrev U0:=@Bool.or_false
abbrev U1:=@Array.getElem?_push
abbrev U2:=@List.toList_toArray
abbrev U3:=@List.map_congr_left
abbrev U4:=@List.getD_cons_zero
abbrev U5:=@Bool.or_self
abbrev U6:=@List.foldl_append
abbrev U7:=@List.size_toArray
abbrev U8:=@List.mem_of_mem_drop
abbrev U9:=@Array.getElem_toList
abbrev Mc:=@List.length_set
abbrev Md:=@Nat.le_of_lt
abbrev Me:=@List.foldlM_cons
abbrev MB:=@List.take_append_of_le_length
abbrev MF:=@Array.getElem?_toList
abbrev MG:=@List.getElem_append_left
abbrev MH:=@List.mem_filter
abbrev MI:=@Nat.sub_zero
abbrev MJ:=@List.set_cons_succ
abbrev MK:=@List.getElem_range
abbrev ML:=@Array.toList_map
abbrev MN:=@Bool.not_eq_true
abbrev MO:=@Option.bind_eq_some_iff
abbrev MP:=@Bool.true_and
abbrev MQ:=@Nat.add_assoc
abbrev MR:=@Array.getElem?_append_left
abbrev MS:=@List.length_range
abbrev MV:=@List.getElem?_append_right
abbrev MW:=@List.take_left'
abbrev MX:=@Array.getElem?_modify
abbrev MZ:=@List.ext_getElem
abbrev Gf:=@List.getElem_set
abbrev Gg:=@List.mem_range
abbrev Gh:=@List.length_eq_zero_iff
abbrev Gj:=@List.getElem_take
abbrev Gl:=@List.getElem?_cons_zero
abbrev Gm:=@List.nodup_cons
abbrev Gn:=@Bool.or_eq_true
abbrev Gp:=@Array.toList_append
abbrev Gq:=@Nat.zero_mul
abbrev Gs:=@Nat.mul_comm
abbrev Gt:=@Bool.false_or
abbrev Gu:=@Nat.le_add_right
abbrev Gv:=@Bool.false_ne_true
abbrev Gw:=@List.take_left
abbrev Gx:=@List.length_replicate
abbrev Gy:=@Nat.lt_succ_of_lt
abbrev Gz:=@Array.size_append
abbrev GH:=@List.nodup_append
abbrev GI:=@Int.le_refl
abbrev GK:=@List.mem_of_getElem?
abbrev GL:=@Nat.div_lt_of_lt_mul
abbrev GN:=@List.filterMap_cons
abbrev GR:=@List.any_eq_true
abbrev GU:=@List.nodup_nil
abbrev GV:=@List.drop_zero
abbrev GX:=@List.drop_length
abbrev GY:=@Option.isSome_none
abbrev GZ:=@Nat.succ_mul
abbrev G5:=@Option.isSome_some
abbrev G6:=@List.mem_zipIdx_iff_getElem?
abbrev G7:=@Classical.choose_spec
abbrev G8:=@List.length_singleton
abbrev G9:=@Bool.not_eq_true'
abbrev Qaa:=@List.getElem_drop
abbrev Qab:=@Nat.mul_one
abbrev Qac:=@Nat.mod_eq_of_lt
abbrev Qad:=@Bool.true_or
abbrev Qae:=@And.intro
abbrev Qaf:=@Array.toList_inj
abbrev Qag:=@List.take_append
abbrev Qah:=@Array.mapM_eq_mapM_toList
abbrev Qai:=@List.mem_or_eq_of_mem_set
abbrev Qak:=@List.length_pos_iff
abbrev Qal:=@Nat.mul_le_mul_left
abbrev Qam:=@List.take_succ_cons
abbrev Qan:=@Int.natCast_mul
abbrev Qao:=@List.drop_left'
abbrev Qaq:=@List.foldlM_append
abbrev Qar:=@Array.ext'
abbrev Qas:=@List.take_zero
abbrev Qat:=@Nat.ne_of_lt
abbrev Qau:=@Bool.false_and
abbrev Qav:=@Array.getElem?_eq_none
abbrev Qaw:=@Int.lt_or_le
abbrev Qax:=@List.take_take
abbrev Qay:=@List.mem_toArray
abbrev Qaz:=@List.nodup_range
abbrev QaA:=@List.sum_cons
abbrev QaC:=@Array.getElem_modify
abbrev QaD:=@List.getElem?_set_ne
abbrev QaE:=@Bool.or_eq_false_iff
abbrev QaF:=@Nat.one_mul
abbrev QaG:=@Bool.and_eq_true_iff
abbrev QaH:=@Array.getElem_mapIdx
abbrev QaI:=@Nat.min_eq_left
abbrev QaJ:=@List.beq_nil_eq
abbrev QaK:=@List.getD_cons_succ
abbrev QaL:=@List.map_id'
abbrev QaM:=@List.append_cancel_right_eq
abbrev QaN:=@Nat.mod_lt
abbrev QaO:=@List.perm_ext_iff_of_nodup
abbrev QaP:=@List.drop_left
abbrev QaQ:=@Nat.mul_le_mul
abbrev QaR:=@List.mem_filterMap
abbrev QaS:=@List.getElem_concat_length
abbrev QaT:=@List.drop_take
abbrev QaU:=@List.filter_append
abbrev QaV:=@Nat.mod_eq_sub_mod
abbrev QaW:=@List.getElem_append_right
abbrev QaX:=@List.extract_eq_take_drop
abbrev QaY:=@Array.filter_eq_empty_iff
abbrev QaZ:=@List.ext_getElem?
abbrev Qa0:=@Nat.le_succ_of_le
abbrev Qa1:=@List.any_eq_false
abbrev Qa2:=@List.pairwise_map
abbrev Qa3:=@Prod.mk.injEq
abbrev Qa4:=@Option.isSome_iff_exists
abbrev Qa5:=@List.length_filterMap_le
abbrev Qa6:=@Option.getD_none
abbrev Qa7:=@List.drop_append
abbrev Qa8:=@Nat.le_mul_of_pos_right
abbrev Qa9:=@Prod.ext
abbrev Qba:=@Nat.div_eq_of_lt
abbrev Qbb:=@Option.bind_none
abbrev Qbc:=@Nat.lt_trans
abbrev Qbd:=@List.not_of_lt_findIdx
abbrev Qbe:=@Nat.div_add_mod
abbrev Qbf:=@Option.map_none
abbrev Qbg:=@Array.getElem_push_lt
abbrev Qbh:=@Option.or_eq_none_iff
abbrev Qbi:=@List.set_getElem_self
abbrev Qbj:=@Array.getElem?_append
abbrev Qbk:=@List.countP_le_length
abbrev Qbl:=@Array.getElem_push_eq
abbrev Qbm:=@Bool.and_false
abbrev Qbn:=@List.map_id
abbrev Qbo:=@List.mapM_cons
abbrev Qbp:=@List.foldl_nil
abbrev Qbq:=@Bool.not_true
abbrev Qbr:=@Bool.and_true
abbrev Qbs:=@List.all_cons
abbrev Qbt:=@Nat.not_le
abbrev Qbu:=@List.map_map
abbrev Qbv:=@Bool.or_true
abbrev Qbw:=@Nat.ne_of_gt
namespace Go.Abs
inductive Own where
 |any
 |full
 |buf (l k:Nat)
inductive AV where
 |int (k:IntKind) (n:Int)
 |bool (b:Bool)
 |str (s:List UInt8)
 |nilp
 |ptr (l k off:Nat)
 |iptr (cs:List AV)
 |sl (k:Nat) (xs:List AV) (o:Own)
 |nilf
 |fn (f:Fn) (caps:List AV)
 |bfn (f:Fn) (caps:List AV)
 |nilm
 |map (l k:Nat)
 |msl (sz l k n:Nat)
 |eptr (l k n off:Nat)
 |ssl (k:Nat) (xs ys:List AV)
 |nili
 |ifc (t:TypeId) (v:AV)
 |Xg
 |sln (k:Nat)
 |sub (sz l k n off m:Nat)
 |agg (cs:List AV)
 |tup (vs:List AV)
 |dead
def AV.cells:AV→List AV
 | .agg cs=>cs
 |v=>[v]
def AV.one:AV→Bool
 | .agg _| .tup _| .dead=>false
 |_=>true
structure Env where
 F:Nat→Nat→Option Value
 m:Nat→Nat→Option Nat
 hist:Nat→Nat→Nat→Option Value
 g:Nat→Nat→Option Nat
 qd:Bool
def Zaj(E:Env)(n:Nat)(v:Value)(cap:Nat):Own→Prop
 | .any=>True
 | .full=>cap=n
 | .buf l k=>E.hist l k n=some v
inductive VR (E:Env):AV→Value→Prop
 |int (k:IntKind) (n:Int):VR E (.int k n) (.int k n)
 |bool (b:Bool):VR E (.bool b) (.bool b)
 |str (l:List UInt8):VR E (.str l) (.string ⟨l.toArray⟩)
 |nilp:VR E .nilp (.pointer none)
 |ptr (l k off b:Nat) (h:E.m l k=some b):VR E (.ptr l k off) (.pointer (some ⟨b,off,none⟩))
 |iptr (cs:List AV) (b off:Nat) (c:Nat→Value) (hc:∀j,j<cs.length→E.F b (off+j)=some (c j))
   (hv:∀j (h:j<cs.length),VR E cs[j] (c j)):VR E (.iptr cs) (.pointer (some ⟨b,off,none⟩))
 |slnil (k:Nat) (o:Own) (a:Option Addr) (ho:Zaj E 0 (.slice a 0 0) 0 o) (ha:o≠ .any→a=none):VR E (.sl k [] o) (.slice a 0 0)
 |sl (k:Nat) (xs:List AV) (o:Own) (b off cap:Nat) (c:Nat→Nat→Value) (hk:∀i (h:i<xs.length),xs[i].cells.length=k)
   (hc:∀i j,i<xs.length→j<k→E.F b (off+(i*k+j))=some (c i j))
   (hv:∀i (h:i<xs.length) j (h':j<xs[i].cells.length),VR E xs[i].cells[j] (c i j))
   (hcap:xs.length≤cap) (hm:xs.length≤maxLen) (ho:Zaj E xs.length (.slice (some ⟨b,off,none⟩) xs.length cap) cap o):
   VR E (.sl k xs o) (.slice (some ⟨b,off,none⟩) xs.length cap)
 |nilf:VR E .nilf .nilFunc
 |fn (f:Fn) (caps:List AV) (vs:List Value) (hl:vs.length=caps.length) (hv:∀i (h:i<caps.length) (h':i<vs.length),VR E caps[i] vs[i]):VR E (.fn f caps) (.func f #[] vs.toArray)
 |bfn (f:Fn) (caps:List AV) (vs:List Value) (hl:vs.length=caps.length) (hv:∀i (h:i<caps.length) (h':i<vs.length),VR E caps[i] vs[i]):VR E (.bfn f caps) (.func f vs.toArray #[])
 |nilm:VR E .nilm (.map none)
 |map (l k b:Nat) (h:E.m l k=some b):VR E (.map l k) (.map (some b))
 |mnil (sz l k:Nat) (a:Option Addr) (h:E.hist l k 0=some (.slice a 0 0)) (ha:∀x,a=some x→x.spot=none):VR E (.msl sz l k 0) (.slice a 0 0)
 |msl (sz l k n g cap:Nat) (h:E.hist l k n=some (.slice (some ⟨g,0,none⟩) n cap)):VR E (.msl sz l k n) (.slice (some ⟨g,0,none⟩) n cap)
 |eptr (l k n off g cap:Nat) (h:E.hist l k n=some (.slice (some ⟨g,0,none⟩) n cap)):VR E (.eptr l k n off) (.pointer (some ⟨g,off,none⟩))
 |ssl (k:Nat) (xs ys:List AV) (b off cap:Nat) (c:Nat→Nat→Value) (hk:∀i (h:i<(xs++ys).length),(xs++ys)[i].cells.length=k)
   (hc:∀i j,i<(xs++ys).length→j<k→E.F b (off+(i*k+j))=some (c i j))
   (hv:∀i (h:i<(xs++ys).length) j (h':j<(xs++ys)[i].cells.length),VR E (xs++ys)[i].cells[j] (c i j))
   (hcap:(xs++ys).length≤cap) (hm:(xs++ys).length≤maxLen):VR E (.ssl k xs ys) (.slice (some ⟨b,off,none⟩) xs.length cap)
 |nili:VR E .nili .nilIface
 |Xg:VR E .Xg (.slice none 0 0)
 |sln (k:Nat) (a:Addr) (cap:Nat) (h:cap=0∨a.spot=none):VR E (.sln k) (.slice (some a) 0 cap)
 |sub (sz l k n off m g cap:Nat) (h:E.hist l k n=some (.slice (some ⟨g,0,none⟩) n cap)) (hm:off+m≤n):VR E (.sub sz l k n off m) (.slice (some ⟨g,off*sz,none⟩) m (cap - off))
 |ifc (t:TypeId) (a:AV) (v:Value) (h:VR E a v):VR E (.ifc t a) (.iface t v)
 |agg (cs:List AV) (vs:List Value) (hl:vs.length=cs.length) (hv:∀i (h:i<cs.length) (h':i<vs.length),VR E cs[i] vs[i]):VR E (.agg cs) (.agg vs.toArray)
 |tup (cs:List AV) (vs:List Value) (hl:vs.length=cs.length) (hv:∀i (h:i<cs.length) (h':i<vs.length),VR E cs[i] vs[i]):VR E (.tup cs) (.tuple vs.toArray)
 |dead (v:Value):VR E .dead v
def VRs(E:Env)(az:List AV)(vs:List Value):Prop:=vs.length=az.length∧ ∀i (h:i<az.length) (h':i<vs.length),VR E az[i] vs[i]
theorem VRs.nil(E:Env):VRs E [] []:=⟨rfl,fun _ h=>absurd h (Qm _)⟩
section
variable {vs:List Value} {az:List AV} {v:Value} {a:AV} {E:Env}
theorem VRs.cons(h:VR E a v)(hs:VRs E az vs):VRs E (a::az) (v::vs):=by
 refine⟨by simp[hs.1],fun i h1 h2=>?_⟩;cases i with
 |zero=>exact h
 |succ i=>exact hs.2 i (by simpa using h1) (by simpa using h2)
theorem VRs.YR(h:VRs E (a::az) vs):∃v r,vs=v::r∧VR E a v∧VRs E az r:=by
 obtain⟨hl,hv⟩:=h;cases vs with
 |nil=>simp at hl
 |cons v r=>
  refine⟨v,r,rfl,hv 0 sm sm,by simpa using hl,fun i h1 h2=>?_⟩;exact hv (i+1) (by simpa using h1) (by simpa using h2)
theorem VRs.of_nil(h:VRs E [] vs):vs=[]:=by
 have:=h.1;simpa using this
theorem VRs.append{bs:List AV}{us:List Value}(h:VRs E az vs)(h':VRs E bs us):VRs E (az++bs) (vs++us):=by
 induction az generalizing vs with
 |nil=>rw[h.of_nil];exact h'
 |cons a az ih=>obtain⟨v,r,rfl,hv,hr⟩:=h.YR;exact VRs.cons hv (ih hr)
theorem VRs.get(h:VRs E az vs)(i:Nat)(hi:i<az.length):∃v,vs[i]? =some v∧VR E az[i] v:=
 ⟨vs[i]'(by rw[h.1];exact hi),by simp[h.1,hi],h.2 i hi (by rw[h.1];exact hi)⟩
structure Env.le (n:Nat) (E E':Env):Prop where
 F:∀b o v,E.F b o=some v→E'.F b o=some v
 m:∀l k b,l<n→E.m l k=some b→E'.m l k=some b
 hist:∀l k j v,l<n→E.hist l k j=some v→E'.hist l k j=some v
 qd:E'.qd=E.qd
theorem Env.le.refl(n:Nat)(E:Env):E.le n E:=⟨fun _ _ _ h=>h,fun _ _ _ _ h=>h,fun _ _ _ _ _ h=>h,rfl⟩
theorem Env.le.trans{n:Nat}{A B C:Env}(h:A.le n B)(h':B.le n C):A.le n C:=
 ⟨fun b o v x=>h'.F _ _ _ (h.F b o v x),fun l k b hl x=>h'.m _ _ _ hl (h.m l k b hl x),fun l k j v hl x=>h'.hist _ _ _ _ hl (h.hist l k j v hl x),h'.qd.trans h.qd⟩
variable {n n':Nat}
theorem Env.le.mono{A B:Env}(h:A.le n B)(hn:n'≤n):A.le n' B:=
 ⟨h.F,fun l k b hl=>h.m l k b (Ui hl hn),fun l k j v hl=>h.hist l k j v (Ui hl hn),h.qd⟩
structure Env.norm (n:Nat) (E:Env):Prop where
 m:∀l k,n≤l→E.m l k=none
 g:∀l k,n≤l→E.g l k=none
 hist:∀l k j,n≤l→E.hist l k j=none
variable {l k:Nat}
theorem Env.norm.Zak(h:E.norm n){b:Nat}(hm:E.m l k=some b):l<n:=by
 rcases Qg l n with hl|hl
 ·exact hl
 ·rw[h.m l k hl]at hm;cases hm
theorem Env.norm.Xr(h:E.norm n){j:Nat}(hm:E.hist l k j=some v):l<n:=by
 rcases Qg l n with hl|hl
 ·exact hl
 ·rw[h.hist l k j hl]at hm;cases hm
theorem Env.norm.ZtN(h:E.norm n){b:Nat}(hm:E.g l k=some b):l<n:=by
 rcases Qg l n with hl|hl
 ·exact hl
 ·rw[h.g l k hl]at hm;cases hm
theorem Env.norm.mono(h:E.norm n)(hn:n≤n'):E.norm n':=
 ⟨fun l k hl=>h.m l k (Uw hn hl),fun l k hl=>h.g l k (Uw hn hl),fun l k j hl=>h.hist l k j (Uw hn hl)⟩
theorem Zaj.mono{N:Nat}{E':Env}{c:Nat}{o:Own}(hn:E.norm n)(h:E.le n E')(ho:Zaj E N v c o):Zaj E' N v c o:=by
 cases o with
 |any=>exact ho
 |full=>exact ho
 |buf l k=>exact h.hist l k N v (hn.Xr ho) ho
theorem VR.mono{n:Nat}{E E':Env}(hn:E.norm n)(h:E.le n E'){a:AV}{v:Value}(hv:VR E a v):VR E' a v:=by
 induction hv with
 |int k n=>exact .int k n
 |bool b=>exact .bool b
 |str l=>exact .str l
 |nilp=>exact .nilp
 |ptr l k off b hm=>exact .ptr l k off b (h.m l k b (hn.Zak hm) hm)
 |iptr cs b off c hc _ ih=>exact .iptr cs b off c (fun j hj=>h.F _ _ _ (hc j hj)) ih
 |slnil k o a ho ha=>exact .slnil k o a (ho.mono hn h) ha
 |sl k xs o b off cap c hk hc _ hcap hm ho ih=>exact .sl k xs o b off cap c hk (fun i j hi hj=>h.F _ _ _ (hc i j hi hj)) ih hcap hm (ho.mono hn h)
 |nilf=>exact .nilf
 |fn f caps vs hl _ ih=>exact .fn f caps vs hl ih
 |bfn f caps vs hl _ ih=>exact .bfn f caps vs hl ih
 |nilm=>exact .nilm
 |map l k b hm=>exact .map l k b (h.m l k b (hn.Zak hm) hm)
 |mnil sz l k a hh ha=>exact .mnil sz l k a (h.hist _ _ _ _ (hn.Xr hh) hh) ha
 |msl sz l k n g cap hh=>exact .msl sz l k n g cap (h.hist _ _ _ _ (hn.Xr hh) hh)
 |eptr l k n off g cap hh=>exact .eptr l k n off g cap (h.hist _ _ _ _ (hn.Xr hh) hh)
 |ssl k xs ys b off cap c hk hc _ hcap hm ih=>exact .ssl k xs ys b off cap c hk (fun i j hi hj=>h.F _ _ _ (hc i j hi hj)) ih hcap hm
 |nili=>exact .nili
 |Xg=>exact .Xg
 |sln k a cap hc=>exact .sln k a cap hc
 |sub sz l k n off m g cap hh hm=>exact .sub sz l k n off m g cap (h.hist _ _ _ _ (hn.Xr hh) hh) hm
 |ifc t a v _ ih=>exact .ifc t a v ih
 |agg cs vs hl _ ih=>exact .agg cs vs hl ih
 |tup cs vs hl _ ih=>exact .tup cs vs hl ih
 |dead v=>exact .dead v
theorem VRs.mono{n:Nat}{E E':Env}(hn:E.norm n)(h:E.le n E'){az:List AV}{vs:List Value}(hv:VRs E az vs):VRs E' az vs:=
 ⟨hv.1,fun i h1 h2=>(hv.2 i h1 h2).mono hn h⟩
inductive Below (n:Nat):AV→Prop
 |int (k:IntKind) (i:Int):Below n (.int k i)
 |bool (b:Bool):Below n (.bool b)
 |str (l:List UInt8):Below n (.str l)
 |nilp:Below n .nilp
 |ptr (l k off:Nat) (h:l<n):Below n (.ptr l k off)
 |iptr (cs:List AV) (hv:∀j (h:j<cs.length),Below n cs[j]):Below n (.iptr cs)
 |sl (k:Nat) (xs:List AV) (o:Own) (hv:∀i (h:i<xs.length) j (h':j<xs[i].cells.length),Below n xs[i].cells[j])
   (ho:∀l j,o= .buf l j→l<n):Below n (.sl k xs o)
 |nilf:Below n .nilf
 |fn (f:Fn) (caps:List AV) (hv:∀i (h:i<caps.length),Below n caps[i]):Below n (.fn f caps)
 |bfn (f:Fn) (caps:List AV) (hv:∀i (h:i<caps.length),Below n caps[i]):Below n (.bfn f caps)
 |nilm:Below n .nilm
 |map (l k:Nat) (h:l<n):Below n (.map l k)
 |msl (sz l k i:Nat) (h:l<n):Below n (.msl sz l k i)
 |eptr (l k i off:Nat) (h:l<n):Below n (.eptr l k i off)
 |ssl (k:Nat) (xs ys:List AV) (hv:∀i (h:i<(xs++ys).length) j (h':j<(xs++ys)[i].cells.length),Below n (xs++ys)[i].cells[j]):Below n (.ssl k xs ys)
 |nili:Below n .nili
 |Xg:Below n .Xg
 |sln (k:Nat):Below n (.sln k)
 |sub (sz l k i off m:Nat) (h:l<n):Below n (.sub sz l k i off m)
 |ifc (t:TypeId) (a:AV) (h:Below n a):Below n (.ifc t a)
 |agg (cs:List AV) (hv:∀i (h:i<cs.length),Below n cs[i]):Below n (.agg cs)
 |tup (cs:List AV) (hv:∀i (h:i<cs.length),Below n cs[i]):Below n (.tup cs)
 |dead:Below n .dead
theorem Below.mono(hn:n≤n')(h:Below n a):Below n' a:=by
 induction h with
 |int k i=>exact .int k i
 |bool b=>exact .bool b
 |str l=>exact .str l
 |nilp=>exact .nilp
 |ptr l k off h=>exact .ptr l k off (Ui h hn)
 |iptr cs _ ih=>exact .iptr cs ih
 |sl k xs o _ ho ih=>exact .sl k xs o ih (fun l j e=>Ui (ho l j e) hn)
 |nilf=>exact .nilf
 |fn f caps _ ih=>exact .fn f caps ih
 |bfn f caps _ ih=>exact .bfn f caps ih
 |nilm=>exact .nilm
 |map l k h=>exact .map l k (Ui h hn)
 |msl sz l k i h=>exact .msl sz l k i (Ui h hn)
 |eptr l k i off h=>exact .eptr l k i off (Ui h hn)
 |ssl k xs ys _ ih=>exact .ssl k xs ys ih
 |nili=>exact .nili
 |Xg=>exact .Xg
 |sln k=>exact .sln k
 |sub sz l k i off m h=>exact .sub sz l k i off m (Ui h hn)
 |ifc t a _ ih=>exact .ifc t a ih
 |agg cs _ ih=>exact .agg cs ih
 |tup cs _ ih=>exact .tup cs ih
 |dead=>exact .dead
theorem VR.lvl(hn:E.norm n)(hv:VR E a v):Below n a:=by
 induction hv with
 |int k n=>exact .int k n
 |bool b=>exact .bool b
 |str l=>exact .str l
 |nilp=>exact .nilp
 |ptr l k off b hm=>exact .ptr l k off (hn.Zak hm)
 |iptr cs b off c hc _ ih=>exact .iptr cs ih
 |slnil k o a ho ha=>exact .sl k [] o (fun i h=>absurd h (Qm _)) (fun l j e=>by subst e;exact hn.Xr ho)
 |sl k xs o b off cap c hk hc _ hcap hm ho ih=>exact .sl k xs o ih (fun l j e=>by subst e;exact hn.Xr ho)
 |nilf=>exact .nilf
 |fn f caps vs hl _ ih=>exact .fn f caps (fun i h=>ih i h om)
 |bfn f caps vs hl _ ih=>exact .bfn f caps (fun i h=>ih i h om)
 |nilm=>exact .nilm
 |map l k b hm=>exact .map l k (hn.Zak hm)
 |mnil sz l k a hh ha=>exact .msl _ _ _ _ (hn.Xr hh)
 |msl sz l k n g cap hh=>exact .msl _ _ _ _ (hn.Xr hh)
 |eptr l k n off g cap hh=>exact .eptr _ _ _ _ (hn.Xr hh)
 |ssl k xs ys b off cap c hk hc _ hcap hm ih=>exact .ssl k xs ys ih
 |nili=>exact .nili
 |Xg=>exact .Xg
 |sln k a cap hc=>exact .sln k
 |sub sz l k n off m g cap hh hm=>exact .sub _ _ _ _ _ _ (hn.Xr hh)
 |ifc t a v _ ih=>exact .ifc t a ih
 |agg cs vs hl _ ih=>exact .agg cs (fun i h=>ih i h om)
 |tup cs vs hl _ ih=>exact .tup cs (fun i h=>ih i h om)
 |dead v=>exact .dead
def Env.cut(n:Nat)(E:Env):Env:=
 {F:=E.F,m:=fun l k=>if l<n then E.m l k else none,hist:=fun l k j=>if l<n then E.hist l k j else none,g:=fun l k=>if l<n then E.g l k else none,qd:=E.qd}
theorem Env.Zgp(n:Nat)(E:Env):(E.cut n).norm n:=
 ⟨fun l k h=>if_neg om,fun l k h=>if_neg om,fun l k j h=>if_neg om⟩
theorem Env.ZiT{E':Env}(h:E.le n E'):E.le n (E'.cut n):=
 ⟨h.F,fun l k b hl hm=>by simp only[Env.cut,if_pos hl];exact h.m l k b hl hm,fun l k j v hl hm=>by simp only[Env.cut,if_pos hl];exact h.hist l k j v hl hm,h.qd⟩
theorem VR.cut{n:Nat}{E:Env}{a:AV}{v:Value}(hv:VR E a v)(hb:Below n a):VR (E.cut n) a v:=by
 induction hv with
 |int k n=>exact .int k n
 |bool b=>exact .bool b
 |str l=>exact .str l
 |nilp=>exact .nilp
 |ptr l k off b hm=>cases hb with|ptr _ _ _ hl=>exact .ptr l k off b (by simp only[Env.cut,if_pos hl];exact hm)
 |iptr cs b off c hc _ ih=>cases hb with|iptr _ hb=>exact .iptr cs b off c hc (fun j h=>ih j h (hb j h))
 |slnil k o a ho ha=>
  cases hb with
  |sl _ _ _ _ hb=>
   refine .slnil k o a ?_ ha;cases o with
   |any=>trivial
   |full=>exact ho
   |buf l j=>simp only[Zaj,Env.cut,if_pos (hb l j rfl)];exact ho
 |sl k xs o b off cap c hk hc _ hcap hm ho ih=>
  cases hb with
  |sl _ _ _ hx hb=>
   refine .sl k xs o b off cap c hk hc (fun i h j h'=>ih i h j h' (hx i h j h')) hcap hm ?_;cases o with
   |any=>trivial
   |full=>exact ho
   |buf l j=>simp only[Zaj,Env.cut,if_pos (hb l j rfl)];exact ho
 |nilf=>exact .nilf
 |fn f caps vs hl _ ih=>cases hb with|fn _ _ hb=>exact .fn f caps vs hl (fun i h h'=>ih i h h' (hb i h))
 |bfn f caps vs hl _ ih=>cases hb with|bfn _ _ hb=>exact .bfn f caps vs hl (fun i h h'=>ih i h h' (hb i h))
 |nilm=>exact .nilm
 |map l k b hm=>cases hb with|map _ _ hl=>exact .map l k b (by simp only[Env.cut,if_pos hl];exact hm)
 |mnil sz l k a hh ha=>cases hb with|msl _ _ _ _ hl=>exact .mnil _ _ _ _ (by simp only[Env.cut,if_pos hl];exact hh) ha
 |msl sz l k n g cap hh=>cases hb with|msl _ _ _ _ hl=>exact .msl _ _ _ _ _ _ (by simp only[Env.cut,if_pos hl];exact hh)
 |eptr l k n off g cap hh=>cases hb with|eptr _ _ _ _ hl=>exact .eptr _ _ _ _ _ _ (by simp only[Env.cut,if_pos hl];exact hh)
 |ssl k xs ys b off cap c hk hc _ hcap hm ih=>cases hb with|ssl _ _ _ hx=>exact .ssl k xs ys b off cap c hk hc (fun i h j h'=>ih i h j h' (hx i h j h')) hcap hm
 |nili=>exact .nili
 |Xg=>exact .Xg
 |sln k a cap hc=>exact .sln k a cap hc
 |sub sz l k n off m g cap hh hm=>cases hb with|sub _ _ _ _ _ _ hl=>exact .sub _ _ _ _ _ _ _ _ (by simp only[Env.cut,if_pos hl];exact hh) hm
 |ifc t a v _ ih=>cases hb with|ifc _ _ hb=>exact .ifc t a v (ih hb)
 |agg cs vs hl _ ih=>cases hb with|agg _ hb=>exact .agg cs vs hl (fun i h h'=>ih i h h' (hb i h))
 |tup cs vs hl _ ih=>cases hb with|tup _ hb=>exact .tup cs vs hl (fun i h h'=>ih i h h' (hb i h))
 |dead v=>exact .dead v
theorem VR.any{E:Env}{k:Nat}{xs:List AV}{o:Own}{v:Value}(h:VR E (.sl k xs o) v):VR E (.sl k xs .any) v:=by
 cases h with
 |slnil _ _ a ho ha=>exact .slnil k .any a trivial (fun h=>absurd rfl h)
 |sl _ _ _ b off cap c hk hc hv hcap hm ho=>exact .sl k xs .any b off cap c hk hc hv hcap hm trivial
theorem VR.ZiY{o:Own}(h:VR E (.sl k [] o) v):VR E .Xg v∨VR E (.sln k) v:=by
 cases h with
 |slnil _ _ a ho ha=>cases a with
  |none=>exact .inl .Xg
  |some a=>exact .inr (.sln k a 0 (.inl rfl))
 |sl _ _ _ b off cap c hk hc hv hcap hm ho=>exact .inr (.sln k _ cap (.inr rfl))
theorem VR.ZiW(h:VR E .Xg v):VR E (.sl k [] .full) v:=by
 cases h;exact .slnil k .full none rfl (fun _=>rfl)
theorem VR.ZrN(h:VR E (.sln k) v):VR E (.sl k [] .any) v:=by
 cases h with|sln _ a cap h=>
 rcases h with rfl|h
 ·exact .slnil k .any _ trivial (fun h=>absurd rfl h)
 ·obtain⟨b,off,sp⟩:=a;cases h;exact .sl k [] .any b off cap (fun _ _=>undef) (fun i h=>absurd h (Qm _)) (fun i j h=>absurd h (Qm _)) (fun i h=>absurd h (Qm _)) (Un _) (Un _) trivial
theorem VR.one{E:Env}{a:AV}{v:Value}(h:VR E a v)(ha:a.one=true):v.oneCell'=true:=by
 cases h<;>first|rfl|(simp[AV.one]at ha)
theorem VR.cells{E:Env}{a:AV}{v:Value}(h:VR E a v)(ha:∀c∈a.cells,c.one=true):VRs E a.cells v.cells.toList:=by
 cases h with
 |agg cs vs hl hv=>exact⟨by simpa[Value.cells,AV.cells]using hl,by simpa[Value.cells,AV.cells]using hv⟩
 |tup cs vs hl hv=>simp[AV.cells,AV.one]at ha
 |dead v=>simp[AV.cells,AV.one]at ha
 |_=>exact VRs.cons (by constructor<;>assumption) (VRs.nil E)
end
inductive Ze where
 |box (cs:List AV)
 |map (es:List (AV×AV))
 |buf (e sz fr:Nat)
 |Zg (e sz:Nat) (cs:List AV) (n:Nat)
 |iter (l k since:Nat) (seen:List Nat)
 |var (b:Nat) (t:TypeId) (cs:List AV)
 |lrec (l N fo:Nat) (tm:List (Nat×AV)) (ps:Array Tmp) (ca cb:Code) (st:LoopState) (pend:Option Code)
def lkv:List (Nat×AV)→Nat→AV
 |[],_=>.dead
 |(i,v)::r,t=>if i=t then v else lkv r t
def Ze.avs:Ze→List AV
 | .box cs=>cs
 | .map es=>es.map (·.1)++es.map (·.2)
 | .Zg _ _ cs _=>cs
 | .var _ _ cs=>cs
 | .lrec _ _ _ tm _ _ _ _ _=>tm.map fun p=>lkv tm p.1
 |_=>[]
def Ze.at_:Ze→List (Nat×Nat)
 | .iter l k _ _=>[(l,k)]
 |_=>[]
def Ze.isRec:Ze→Bool
 | .lrec _ _ _ _ _ _ _ _ _=>true
 |_=>false
def Ze.isBuf:Ze→Bool
 | .buf _ _ _=>true
 | .Zg _ _ _ _=>true
 |_=>false
def Ze.Below(n:Nat)(b:Ze):Prop:=(∀a∈b.avs,Abs.Below n a)∧ ∀p∈b.at_,p.1<n
abbrev Za:=Nat→Nat→Option Ze
def Za.upd(H:Za)(l k:Nat)(b:Ze):Za:=fun l' k'=>if l'=l∧k'=k then some b else H l' k'
def Env.own(E:Env)(b:Nat):Prop:=(∃l k,E.m l k=some b)∨(∃l k,E.g l k=some b)
def Ztr(E:Env)(w:World)(cs:List AV)(b:Nat):Prop:=∃c t,w.heap[b]? =some (.cells c t (0,0))∧VRs E cs c.toList
def Zt7(E:Env)(w:World)(es:List (AV×AV))(b:Nat):Prop:=
 ∃ent:Array MapEntry,w.heap[b]? =some (.map ent es.length)∧ent.size=es.length∧
  ∀i (h:i<es.length) (h':i<ent.size),VR E es[i].1 ent[i].key∧VR E es[i].2 ent[i].val∧ent[i].born=i
def Ztl(E:Env)(w:World)(l k e sz fr:Nat):Prop:=
 ∃v,E.hist l k fr=some v∧(∀j,fr<j→E.hist l k j=none)∧
  ((∃a,v= .slice a 0 0∧fr=0∧E.g l k=none)∨
   ∃g cap cur,v= .slice (some ⟨g,0,none⟩) fr cap∧E.g l k=some g∧w.heap[g]? =some (.cells cur e (0,0))∧fr≤cap∧cap≤maxLen∧cur.size=cap*sz∧
    ∀o,fr*sz≤o→E.F g o=none)
def Zry(E:Env)(w:World)(l k e sz:Nat)(cs:List AV)(n:Nat):Prop:=
 cs.length=n*sz∧ ∃v,E.hist l k n=some v∧(∀j,n<j→E.hist l k j=none)∧
  ((∃a,v= .slice a 0 0∧n=0∧E.g l k=none)∨
   ∃g cap cur,v= .slice (some ⟨g,0,none⟩) n cap∧E.g l k=some g∧w.heap[g]? =some (.cells cur e (0,0))∧n≤cap∧cap≤maxLen∧cur.size=cap*sz∧
    (∀o,E.F g o=none)∧VRs E cs (cur.toList.take (n*sz)))
theorem lkv_mem:∀{tm:List (Nat×AV)} {t:Nat},lkv tm t= .dead∨(t,lkv tm t)∈tm
 |[],t=>.inl rfl
 |(i,v)::r,t=>by
  simp only[lkv];split
  ·rename_i h;subst h;exact .inr sm
  ·rcases lkv_mem (tm:=r) (t:=t)with h|h
   ·exact .inl h
   ·exact .inr (Qx _ h)
def Ztg(E:Env)(w:World)(b N fo:Nat)(tm:List (Nat×AV))(ps:Array Tmp)(ca cb:Code)(st:LoopState)(pend:Option Code):Prop:=
 ∃rc:Loop,w.heap[b]? =some (.loop rc)∧rc.params=ps∧rc.assign=ca∧rc.body=cb∧rc.state=st∧rc.pending=pend∧rc.tmps.size=N∧(∀t,VR E (lkv tm t) (rc.tmps.getD t undef))∧(fo≠0→rc.fn+1=fo)
def Zen(E:Env)(w:World)(l k:Nat):Ze→Prop
 | .box cs=>∃b,E.m l k=some b∧Ztr E w cs b
 | .map es=>∃b,E.m l k=some b∧Zt7 E w es b
 | .buf e sz fr=>Ztl E w l k e sz fr∧E.m l k=none
 | .Zg e sz cs n=>Zry E w l k e sz cs n∧E.m l k=none
 | .iter l' k' since seen=>∃b b',E.m l k=some b∧E.m l' k'=some b'∧w.heap[b]? =some (.mapIter (some b') since seen.toArray since)
 | .var b t cs=>E.qd=false∧E.m l k=some b∧ ∃c,w.heap[b]? =some (.cells c t (0,0))∧VRs E cs c.toList
 | .lrec b N fo tm ps ca cb st pend=>E.m l k=some b∧Ztg E w b N fo tm ps ca cb st pend
section
variable {w:World} {E E':Env}
theorem Zen.keep{w':World}{l k:Nat}{b:Ze}(h:Zen E w l k b)(hm:E'.m l k=E.m l k)(hg:E'.g l k=E.g l k)(hh:∀j,E'.hist l k j=E.hist l k j)
  (hi:∀p∈b.at_,∀r,E.m p.1 p.2=some r→E'.m p.1 p.2=some r) (hb:∀r,E.m l k=some r∨E.g l k=some r→w'.heap[r]? =w.heap[r]?)
  (hF:∀g o,E.g l k=some g→E.F g o=none→E'.F g o=none) (hv:∀a∈b.avs,∀v,VR E a v→VR E' a v) (hqd:E'.qd=E.qd:=by rfl):Zen E' w' l k b:=by
 cases b with
 |box cs=>
  obtain⟨r,h1,c,t,h2,h3⟩:=h;exact⟨r,hm.trans h1,c,t,by rw[hb r (.inl h1)];exact h2,h3.1,fun i x y=>hv _ (by simpa[Ze.avs]using Qa x) _ (h3.2 i x y)⟩
 |map es=>
  obtain⟨r,h1,ent,h2,h3,h4⟩:=h;refine⟨r,hm.trans h1,ent,by rw[hb r (.inl h1)];exact h2,h3,fun i x y=>?_⟩;obtain⟨q1,q2,q3⟩:=h4 i x y;exact⟨hv _ (QC _ (Qb.2 ⟨_,Qa x,rfl⟩)) _ q1,hv _ (QK _ (Qb.2 ⟨_,Qa x,rfl⟩)) _ q2,q3⟩
 |buf e sz fr=>
  obtain⟨⟨v,h1,h2,h3⟩,h4⟩:=h;refine⟨⟨v,(hh fr).trans h1,fun j hj=>(hh j).trans (h2 j hj),?_⟩,hm.trans h4⟩;rcases h3 with⟨a,q1,q2,q3⟩|⟨g,cap,cur,q1,q2,q3,q4,q5,q6,q7⟩
  ·exact .inl ⟨a,q1,q2,hg.trans q3⟩
  ·exact .inr ⟨g,cap,cur,q1,hg.trans q2,by rw[hb g (.inr q2)];exact q3,q4,q5,q6,fun o ho=>hF g o q2 (q7 o ho)⟩
 |Zg e sz cs n=>
  obtain⟨⟨h0,v,h1,h2,h3⟩,h4⟩:=h;refine⟨⟨h0,v,(hh n).trans h1,fun j hj=>(hh j).trans (h2 j hj),?_⟩,hm.trans h4⟩;rcases h3 with⟨a,q1,q2,q3⟩|⟨g,cap,cur,q1,q2,q3,q4,q5,q6,q7,q8⟩
  ·exact .inl ⟨a,q1,q2,hg.trans q3⟩
  ·exact .inr ⟨g,cap,cur,q1,hg.trans q2,by rw[hb g (.inr q2)];exact q3,q4,q5,q6,fun o=>hF g o q2 (q7 o),q8.1,fun i x y=>hv _ (by simpa[Ze.avs]using Qa x) _ (q8.2 i x y)⟩
 |iter l' k' since seen=>
  obtain⟨r,r',h1,h2,h3⟩:=h;exact⟨r,r',hm.trans h1,hi (l',k') (by simp[Ze.at_]) r' h2,by rw[hb r (.inl h1)];exact h3⟩
 |var b t cs=>
  obtain⟨h0,h1,c,h2,h3⟩:=h;exact⟨hqd.trans h0,hm.trans h1,c,by rw[hb b (.inl h1)];exact h2,h3.1,fun i x y=>hv _ (by simpa[Ze.avs]using Qa x) _ (h3.2 i x y)⟩
 |lrec b N fo tm ps ca cb st pend=>
  obtain⟨h1,rc,h2,h3,h4,h5,h6,h7,h8,h9,h10⟩:=h;refine⟨hm.trans h1,rc,by rw[hb b (.inl h1)];exact h2,h3,h4,h5,h6,h7,h8,fun t=>?_,h10⟩;rcases lkv_mem (tm:=tm) (t:=t)with hd|hd
  ·rw[hd];exact .dead _
  ·exact hv _ (by simp only[Ze.avs];exact Qb.2 ⟨_,hd,rfl⟩) _ (h9 t)
structure Zt (n:Nat) (H:Za) (E:Env) (w:World):Prop where
 norm:E.norm n
 F:∀b o v,E.F b o=some v→w.cell? ⟨b,o,none⟩=some v
 blk:∀l k b,l<n→H l k=some b→Zen E w l k b
 dom:∀l k,l<n→H l k=none→E.m l k=none∧E.g l k=none∧ ∀j,E.hist l k j=none
 nobuf:∀l k,E.g l k≠none→ ∃b,H l k=some b∧b.isBuf=true
 inj:∀l k l' k' b,E.m l k=some b→E.m l' k'=some b→l=l'∧k=k'
 injg:∀l k l' k' b,E.g l k=some b→E.g l' k'=some b→l=l'∧k=k'
 mg:∀l k l' k' b,E.m l k=some b→E.g l' k'=some b→False
 mF:∀l k b o,E.m l k=some b→E.F b o=none
 lt:∀b,E.own b→b<w.heap.size
theorem Zt.box{n:Nat}{H:Za}{E:Env}{w:World}(h:Zt n H E w)(l k:Nat)(cs:List AV)(hl:l<n)(hb:H l k=some (.box cs)):∃b,E.m l k=some b∧Ztr E w cs b:=h.blk l k _ hl hb
theorem Zt.map{n:Nat}{H:Za}{E:Env}{w:World}(h:Zt n H E w)(l k:Nat)(es:List (AV×AV))(hl:l<n)(hb:H l k=some (.map es)):∃b,E.m l k=some b∧Zt7 E w es b:=h.blk l k _ hl hb
theorem Zt.buf{n:Nat}{H:Za}{E:Env}{w:World}(h:Zt n H E w)(l k e sz fr:Nat)(hl:l<n)(hb:H l k=some (.buf e sz fr)):Ztl E w l k e sz fr∧E.m l k=none:=h.blk l k _ hl hb
theorem Zt.Zg{n:Nat}{H:Za}{E:Env}{w:World}(h:Zt n H E w)(l k e sz:Nat)(cs:List AV)(i:Nat)(hl:l<n)(hb:H l k=some (.Zg e sz cs i)):Zry E w l k e sz cs i∧E.m l k=none:=h.blk l k _ hl hb
structure Ext (n:Nat) (E:Env) (w:World) (E':Env) (w':World):Prop where
 le:E.le n E'
 os:w'.os=w.os
 tape:w'.tape=w.tape
 output:w'.output=w.output
 drawn:E.qd=true→w.drawn≤w'.drawn
 size:w.heap.size≤w'.heap.size
 block:∀b,b<w.heap.size→ ¬E.own b→w'.heap[b]? =w.heap[b]?
 own:∀b,b<w.heap.size→E'.own b→E.own b
theorem Ext.refl(n:Nat)(E:Env)(w:World):Ext n E w E w:=⟨.refl n E,rfl,rfl,rfl,fun _=>Qe _,Qe _,fun _ _ _=>rfl,fun _ _ h=>h⟩
theorem Ext.trans{n:Nat}{A B C:Env}{u v w:World}(h:Ext n A u B v)(h':Ext n B v C w):Ext n A u C w:=
 ⟨h.le.trans h'.le,h'.os.trans h.os,h'.tape.trans h.tape,h'.output.trans h.output,fun hq=>Uw (h.drawn hq) (h'.drawn (h.le.qd.trans hq)),Uw h.size h'.size,
  fun b hb ho=>(h'.block b (Ui hb h.size) (fun x=>ho (h.own b hb x))).trans (h.block b hb ho),
  fun b hb ho=>h.own b hb (h'.own b (Ui hb h.size) ho)⟩
theorem Ext.mono{n n':Nat}{A B:Env}{u v:World}(h:Ext n A u B v)(hn:n'≤n):Ext n' A u B v:=
 ⟨h.le.mono hn,h.os,h.tape,h.output,h.drawn,h.size,h.block,h.own⟩
variable {n:Nat}
theorem Zt.congr{H H':Za}(h:Zt n H E w)(he:∀l k,l<n→H' l k=H l k):Zt n H' E w where
 norm:=h.norm
 F:=h.F
 blk l k b hl hH:=h.blk l k b hl (by rw[←he l k hl];exact hH)
 dom l k hl hH:=h.dom l k hl (by rw[←he l k hl];exact hH)
 nobuf l k hg:=by
  have hl:l<n:=by
   cases hx:E.g l k with
   |none=>exact absurd hx hg
   |some b=>exact h.norm.ZtN hx
  rw[he l k hl];exact h.nobuf l k hg
 inj:=h.inj
 injg:=h.injg
 mg:=h.mg
 mF:=h.mF
 lt:=h.lt
theorem Zen.lvl{n:Nat}{E:Env}{w:World}{l k:Nat}{b:Ze}(hn:E.norm n)(h:Zen E w l k b):b.Below n:=by
 cases b with
 |box cs=>
  obtain⟨r,_,c,t,_,hv⟩:=h;refine⟨fun a ha=>?_,by simp[Ze.at_]⟩;obtain⟨i,hi,rfl⟩:=QJ ha;exact(hv.2 i hi (by rw[hv.1];exact hi)).lvl hn
 |map es=>
  obtain⟨r,_,ent,_,hs,hv⟩:=h;refine⟨fun a ha=>?_,by simp[Ze.at_]⟩;rcases Qj.1 ha with ha|ha<;>obtain⟨x,hx,rfl⟩:=Qb.1 ha<;>obtain⟨i,hi,rfl⟩:=QJ hx
  ·exact(hv i hi om).1.lvl hn
  ·exact(hv i hi om).2.1.lvl hn
 |buf e sz fr=>exact⟨by simp[Ze.avs],by simp[Ze.at_]⟩
 |Zg e sz cs i=>
  obtain⟨⟨h0,v,_,_,h3⟩,_⟩:=h;refine⟨fun a ha=>?_,by simp[Ze.at_]⟩;obtain⟨j,hj,rfl⟩:=QJ ha;rcases h3 with⟨a,_,q2,_⟩|⟨g,cap,cur,_,_,_,_,_,_,_,q8⟩
  ·simp only[Ze.avs]at hj;subst q2;simp at h0;simp[h0]at hj
  ·exact(q8.2 j hj (by rw[q8.1];exact hj)).lvl hn
 |iter l' k' since seen=>
  obtain⟨r,r',_,h2,_⟩:=h;exact⟨by simp[Ze.avs],fun p hp=>by simp[Ze.at_]at hp;subst hp;exact hn.Zak h2⟩
 |var b t cs=>
  obtain⟨_,r,c,_,hv⟩:=h;refine⟨fun a ha=>?_,by simp[Ze.at_]⟩;obtain⟨i,hi,rfl⟩:=QJ ha;exact(hv.2 i hi (by rw[hv.1];exact hi)).lvl hn
 |lrec b N fo tm ps ca cb st pend=>
  obtain⟨_,rc,_,_,_,_,_,_,_,h9,_⟩:=h;refine⟨fun a ha=>?_,by simp[Ze.at_]⟩;simp only[Ze.avs]at ha;obtain⟨p,hp,rfl⟩:=Qb.1 ha;exact(h9 p.1).lvl hn
theorem Zt.out{H:Za}(h:Zt n H E w){l k:Nat}{b:Ze}(hl:l<n)(hb:H l k=some b):b.Below n:=(h.blk l k b hl hb).lvl h.norm
structure Zb where
 tmps:List (Nat×AV)
 L:List (Nat×Ze)
 H:Za
def lkb:List (Nat×Ze)→Nat→Option Ze
 |[],_=>none
 |(i,v)::r,t=>if i=t then some v else lkb r t
def full(n:Nat)(L:List (Nat×Ze))(H:Za):Za:=fun l k=>if l=n then lkb L k else H l k
structure Base where
 lo:Nat
 ds:List Deferred
structure Fm where
 ro:Option Nat
 B:Base
def fr(ro:Option Nat):Fence:={fn:=fun _=>True,depth:=none,alive:=false,round:=ro}
def mark(D:Nat):Deferred:={target:=.collected D,args:=#[]}
def Zcs(B:Base)(E:Env)(ds:List Deferred)(w:World):Prop:=
 B.lo≤w.heap.size∧ ∃l:List Nat,ds=l.map mark++B.ds∧l.Nodup∧ ∀D∈l,B.lo≤D∧w.heap[D]? =some (.deferred (some []))∧ ¬E.own D
theorem Zcs.nil{B:Nat}(E:Env)(h:B≤w.heap.size):Zcs ⟨B,[]⟩ E [] w:=⟨h,[],rfl,GU,fun _ h=>by cases h⟩
variable {ds:List Deferred}
theorem Zcs.ext{B:Base}{w':World}(h:Zcs B E ds w)(hx:Ext n E w E' w'):Zcs B E' ds w':=by
 obtain⟨h0,l,h1,h2,h3⟩:=h;refine⟨Uw h0 hx.size,l,h1,h2,fun D hD=>?_⟩;obtain⟨a1,a2,a3⟩:=h3 D hD;have hlt:D<w.heap.size:=(QN.1 a2).1;exact⟨a1,(hx.block D hlt a3).trans a2,fun ho=>a3 (hx.own D hlt ho)⟩
theorem Zcs.sub{B:Base}(h:Zcs B E ds w)(ho:∀b,E'.own b→E.own b):Zcs B E' ds w:=by
 obtain⟨h0,l,h1,h2,h3⟩:=h;exact⟨h0,l,h1,h2,fun D hD=>⟨(h3 D hD).1,(h3 D hD).2.1,fun h=>(h3 D hD).2.2 (ho D h)⟩⟩
structure Yn (B:Base) (n N:Nat) (s:Zb) (E:Env) (a:Act) (w:World):Prop where
 size:a.tmps.size=N
 defs:Zcs B E a.defers w
 tmps:∀t,VR E (lkv s.tmps t) (a.tmps.getD t undef)
 heap:Zt (n+1) (full n s.L s.H) E w
 out:∀l k b,l<n→s.H l k=some b→b.Below n
def AC(P:Program)(φ:Fm)(n N:Nat)(c:Code)(Q:Exit→Zb→Prop)(s:Zb):Prop:=
 ∀E w a,Yn φ.B n N s E a w→c.wpIn (fr φ.ro) 0 P (fun e a' w'=>∃s' E',Q e s'∧Yn φ.B n N s' E' a' w'∧Ext n E w E' w') a w
def Zi(P:Program)(n:Nat)(f:FuncId)(args:List AV)(H:Za)(Q:AV→Za→Prop):Prop:=
 ∀E w vs,Zt n H E w→VRs E args vs→
  Calls P f vs.toArray w fun e w'=>∃r v H' E',e= .returned v∧Q r H'∧VR E' r v∧Zt n H' E' w'∧Ext n E w E' w'
def PC(P:Program)(n:Nat)(f:FuncId)(args:List AV)(H:Za)(r:AV):Prop:=Zi P n f args H fun r' H'=>r'=r∧H'=H
def Pure(P:Program)(f:FuncId)(args:List AV)(r:AV):Prop:=∀n H,PC P n f args H r
theorem Zi.mono{P:Program}{n:Nat}{f:FuncId}{args:List AV}{H:Za}{Q Q':AV→Za→Prop}(h:Zi P n f args H Q)
  (hq:∀r H',Q r H'→Q' r H'):Zi P n f args H Q':=fun E w vs hr hv=>
 (h E w vs hr hv).mono fun e w' ⟨r,v,H',E',he,hQ,rest⟩=>⟨r,v,H',E',he,hq _ _ hQ,rest⟩
variable {s:Zb} {Q:Exit→Zb→Prop} {c:Code} {N:Nat} {φ:Fm} {P:Program}
theorem AC.mono{Q':Exit→Zb→Prop}(h:AC P φ n N c Q s)(hq:∀e s',Q e s'→Q' e s'):AC P φ n N c Q' s:=
 fun E w a hs=>wpIn_mono (h E w a hs) fun e a' w' ⟨s',E',hQ,rest⟩=>⟨s',E',hq _ _ hQ,rest⟩
theorem AC.run(h:AC P φ n N c Q s){E0:Env}{w0:World}{a:Act}
  (hs:Yn φ.B n N s E a w) (hx:Ext n E0 w0 E w):c.wpIn (fr φ.ro) 0 P (fun e a' w'=>∃s' E',Q e s'∧Yn φ.B n N s' E' a' w'∧Ext n E0 w0 E' w') a w:=
 wpIn_mono (h E w a hs) fun e a' w' ⟨s',E',hQ,hr,he⟩=>⟨s',E',hQ,hr,hx.trans he⟩
theorem AC.seq{P:Program}{φ:Fm}{n N:Nat}{x y:Code}{Q:Exit→Zb→Prop}{s:Zb}
  (h:AC P φ n N x (fun e s'=>match e with| .normal=>AC P φ n N y Q s'|e=>Q e s') s):AC P φ n N (.seq x y) Q s:=fun E w a hs=>by
 refine wpIn_seq (wpIn_mono (h E w a hs) ?_);rintro e a' w' ⟨s',E',hQ,hr,he⟩;cases e with
 |normal=>exact AC.run hQ hr he
 |_=>exact⟨s',E',hQ,hr,he⟩
theorem AC.block{P:Program}{φ:Fm}{n N:Nat}{id:Nat}{c:Code}{Q:Exit→Zb→Prop}{s:Zb}
  (h:AC P φ n N c (fun e s'=>match e with| .exit id'=>if id'=id then Q .normal s' else Q (.exit id') s'|e=>Q e s') s):AC P φ n N (.block id c) Q s:=fun E w a hs=>by
 refine wpIn_block (wpIn_mono (h E w a hs) ?_);rintro e a' w' ⟨s',E',hQ,hr,he⟩;cases e with
 |exit id'=>
  simp only[Exit.inBlock];by_cases hid:id'=id
  ·simp only[hid,if_true]at hQ⊢;exact⟨s',E',hQ,hr,he⟩
  ·simp only[hid,if_false]at hQ⊢;exact⟨s',E',hQ,hr,he⟩
 |_=>exact⟨s',E',hQ,hr,he⟩
theorem AC.skip{P:Program}{φ:Fm}{n N:Nat}{Q:Exit→Zb→Prop}{s:Zb}(h:Q .normal s):AC P φ n N .skip Q s:=
 fun E w _ hs=>wpIn_skip ⟨s,E,h,hs,.refl n E w⟩
theorem AC.exit{P:Program}{φ:Fm}{n N id:Nat}{Q:Exit→Zb→Prop}{s:Zb}(h:Q (.exit id) s):AC P φ n N (.exit id) Q s:=
 fun E w _ hs=>wpIn_exit ⟨s,E,h,hs,.refl n E w⟩
theorem AC.ret{P:Program}{φ:Fm}{n N:Nat}{Q:Exit→Zb→Prop}{s:Zb}(h:Q .ret s):AC P φ n N .ret Q s:=
 fun E w _ hs=>wpIn_ret ⟨s,E,h,hs,.refl n E w⟩
inductive Itm where
 |code (c:Code)
 |blk (id:Nat)
def AX(P:Program)(φ:Fm)(n N:Nat)(Q:Exit→Zb→Prop):List Itm→Exit→Zb→Prop
 |[],e,s=>Q e s
 | .code d::k,e,s=>match e with
  | .normal=>AC P φ n N d (AX P φ n N Q k) s
  |e=>AX P φ n N Q k e s
 | .blk id::k,e,s=>match e with
  | .exit id'=>if id'=id then AX P φ n N Q k .normal s else AX P φ n N Q k (.exit id') s
  |e=>AX P φ n N Q k e s
def AK(P:Program)(φ:Fm)(n N:Nat)(k:List Itm)(Q:Exit→Zb→Prop)(s:Zb):Prop:=AX P φ n N Q k .normal s
def VQ(id:Nat):List Itm→Option (List Itm)
 |[]=>none
 | .blk j::k=>if id=j then some k else VQ id k
 | .code _::k=>VQ id k
section
variable {P:Program} {φ:Fm} {n N:Nat} {Q:Exit→Zb→Prop} {s:Zb} {k k':List Itm}
theorem ZgU(h:Q .ret s):∀k,AX P φ n N Q k .ret s
 |[]=>h
 | .code _::k=>ZgU h k
 | .blk _::k=>ZgU h k
theorem Zfh{id:Nat}:∀{k:List Itm},VQ id k=some k'→AK P φ n N k' Q s→AX P φ n N Q k (.exit id) s
 |[],h,_=>by simp[VQ]at h
 | .code _::k,h,hk=>Zfh (k:=k) h hk
 | .blk j::k,h,hk=>by
  simp only[VQ]at h;by_cases hj:id=j
  ·simp only[hj,if_true,Qq]at h;subst h;simp only[AX,hj,if_true];exact hk
  ·simp only[hj,if_false]at h;simp only[AX,hj,if_false];exact Zfh (k:=k) h hk
theorem ZiF(h:Q .normal s):AK P φ n N [] Q s:=h
theorem ZrW{a b:Code}(h:AK P φ n N (.code a:: .code b::k) Q s):AK P φ n N (.code (.seq a b)::k) Q s:=
 AC.seq (AC.mono h fun e s' hq=>by cases e<;>exact hq)
theorem Zp5{id:Nat}{c:Code}(h:AK P φ n N (.code c:: .blk id::k) Q s):AK P φ n N (.code (.block id c)::k) Q s:=
 AC.block (AC.mono h fun e s' hq=>by cases e<;>exact hq)
theorem ZqF(h:AK P φ n N k Q s):AK P φ n N (.code .skip::k) Q s:=AC.skip h
theorem Zsl{id:Nat}(h:AK P φ n N k Q s):AK P φ n N (.blk id::k) Q s:=h
theorem ZqX{id:Nat}(hp:VQ id k=some k')(h:AK P φ n N k' Q s):AK P φ n N (.code (.exit id)::k) Q s:=AC.exit (Zfh hp h)
theorem ZpC(h:Q .ret s):AK P φ n N (.code .ret::k) Q s:=AC.ret (ZgU h k)
theorem Zad{Q':Exit→Zb→Prop}(hq:∀e s',Q e s'→Q' e s'):∀{k:List Itm} {e:Exit} {s:Zb},AX P φ n N Q k e s→AX P φ n N Q' k e s
 |[],_,_,h=>hq _ _ h
 | .code _::k,e,s,h=>by
  cases e with
  |normal=>exact AC.mono h fun e s'=>Zad hq (k:=k)
  |_=>exact Zad hq (k:=k) h
 | .blk id::k,e,s,h=>by
  cases e with
  |exit id'=>
   simp only[AX]at h⊢;split at h
   ·rename_i he;simp only[he,if_true];exact Zad hq (k:=k) h
   ·rename_i he;simp only[he,if_false];exact Zad hq (k:=k) h
  |_=>exact Zad hq (k:=k) h
end
def AV.ofCell:Value→AV
 | .int k n=>.int k n
 | .bool b=>.bool b
 | .string s=>.str s.data.toList
 | .pointer none=>.nilp
 | .slice none n c=>if n=0∧c=0 then .sl 0 [] .full else .dead
 | .nilFunc=>.nilf
 | .map none=>.nilm
 | .func f a b=>if a.size=0∧b.size=0 then .fn f []else .dead
 |_=>.dead
theorem Zog(E:Env)(v:Value):VR E (.ofCell v) v:=by
 cases v with
 |int k n=>exact .int _ _
 |bool b=>exact .bool _
 |string s=>
  have:s=⟨s.data.toList.toArray⟩:=by simp
  simp only[AV.ofCell];rw[this];exact .str _
 |pointer a=>cases a with
  |none=>exact .nilp
  |some a=>exact .dead _
 |slice a n c=>cases a with
  |none=>
   simp only[AV.ofCell];split
   ·rename_i h;obtain⟨rfl,rfl⟩:=h;exact .slnil 0 .full none rfl (fun _=>rfl)
   ·exact .dead _
  |some a=>exact .dead _
 |nilFunc=>exact .nilf
 |map r=>cases r with
  |none=>exact .nilm
  |some r=>exact .dead _
 |func f a b=>
  simp only[AV.ofCell];split
  ·rename_i h;obtain⟨h1,h2⟩:=h;have e1:a= #[]:=UR h1;have e2:b= #[]:=UR h2;subst e1 e2;exact VR.fn _ [] [] rfl (fun i h=>absurd h (Qm _))
  ·exact .dead _
 |_=>exact .dead _
def AV.ofValue:Value→AV
 | .int k n=>.int k n
 | .bool b=>.bool b
 | .string s=>.str s.data.toList
 | .pointer none=>.nilp
 | .slice none n c=>if n=0∧c=0 then .sl 0 [] .full else .dead
 | .nilFunc=>.nilf
 | .map none=>.nilm
 | .func f a b=>if a.size=0∧b.size=0 then .fn f []else .dead
 | .agg vs=>.agg (vs.toList.map .ofCell)
 |_=>.dead
theorem ZgF(E:Env)(v:Value):VR E (.ofValue v) v:=by
 cases v with
 |int k n=>exact .int _ _
 |bool b=>exact .bool _
 |string s=>
  have:s=⟨s.data.toList.toArray⟩:=by simp
  simp only[AV.ofValue];rw[this];exact .str _
 |pointer a=>cases a with
  |none=>exact .nilp
  |some a=>exact .dead _
 |slice a n c=>cases a with
  |none=>
   simp only[AV.ofValue];split
   ·rename_i h;obtain⟨rfl,rfl⟩:=h;exact .slnil 0 .full none rfl (fun _=>rfl)
   ·exact .dead _
  |some a=>exact .dead _
 |nilFunc=>exact .nilf
 |map r=>cases r with
  |none=>exact .nilm
  |some r=>exact .dead _
 |func f a b=>
  simp only[AV.ofValue];split
  ·rename_i h;obtain⟨h1,h2⟩:=h;have e1:a= #[]:=UR h1;have e2:b= #[]:=UR h2;subst e1 e2;exact VR.fn _ [] [] rfl (fun i h=>absurd h (Qm _))
  ·exact .dead _
 |agg vs=>
  have e:vs=vs.toList.toArray:=by simp
  simp only[AV.ofValue]
  conv=>arg 3;rw[e]
  exact .agg _ _ sm fun i h h'=>by rw[QO];exact Zog E _
 |_=>exact .dead _
def Zb.ev(s:Zb):Operand→AV
 | .tmp t=>lkv s.tmps t
 | .const v=>.ofValue v
 | .global _=>.dead
 | .func f=>.fn (.func f) []
def evT(tm:List (Nat×AV)):Operand→AV
 | .tmp t=>lkv tm t
 | .const v=>.ofValue v
 | .global _=>.dead
 | .func f=>.fn (.func f) []
theorem Zdp{tm:List (Nat×AV)}{a:Act}(h:∀t,VR E (lkv tm t) (a.tmps.getD t undef))(x:Operand):VR E (evT tm x) (a.eval x):=by
 cases x with
 |tmp t=>exact h t
 |const v=>exact ZgF E v
 |global g=>exact .dead _
 |func f=>exact VR.fn _ [] [] rfl (fun i h=>absurd h (Qm _))
theorem Zm5{k:List Itm}{c:Operand}{x y:Code}{t:Bool}(hc:evT s.tmps c= .bool t)
  (ht:t=true→AK P φ n N (.code x::k) Q s) (hf:t=false→AK P φ n N (.code y::k) Q s):AK P φ n N (.code (.cond c x y)::k) Q s:=fun E w a hs=>by
 have hv:=Zdp hs.tmps c;rw[hc]at hv;cases hb:a.eval c<;>rw[hb]at hv<;>cases hv;exact wpIn_cond_split hb (fun h=>ht h E w a hs) (fun h=>hf h E w a hs)
def AWk(n N:Nat)(s s':Zb):Prop:=∀B E w a,Yn B n N s E a w→ ∃E',Yn B n N s' E' a w∧Ext n E w E' w
theorem Zrd{s':Zb}
  (hw:AWk n N s s') (h:AC P φ n N c Q s'):AC P φ n N c Q s:=fun E w a hs=>by
 obtain⟨E',hs',hx⟩:=hw _ E w a hs;exact AC.run h hs' hx
end
def XE(P:Program)(m:Nat)(o:Oper)(ρ:Operand→AV)(H:Za)(v:AV)(H':Za):Prop:=
 ∀E w (a:Act) (Q:Exit→Act→World→Prop) (K:Act→World→Prop),Zt m H E w→(∀x∈o.op.operands,VR E (ρ x) (a.eval x))→
  (∀E' w' cv,VR E' v cv→Zt m H' E' w'→Ext m E w E' w'→K (a.put o.dst cv) w')→ ∀ro,o.wpIn (fr ro) 0 P a w K Q
def Yp(ops:List Oper)(tm:List (Nat×AV))(o:Oper):Option Bool:=
 match o.guard with
 |none=>some true
 |some (j,want)=>match (ops[j]?).bind (·.dst)with
  |none=>some false
  |some d=>match lkv tm d with
   | .bool b=>some (b==want)
   | .tup []=>some false
   |_=>none
def Yl(tm:List (Nat×AV))(d:Option Nat)(v:AV):List (Nat×AV):=
 match d with
 |none=>tm
 |some d=>(d,v)::tm
theorem JE(tm:List (Nat×AV))(d:Option Nat)(v:AV)(t:Nat):lkv (Yl tm d v) t=if d=some t then v else lkv tm t:=by
 cases d with
 |none=>simp[Yl]
 |some d=>simp only[Yl,lkv,Qq]
section
variable {cv:Value} {d:Option Nat} {a:Act}
theorem VN{N t:Nat}(hs:a.tmps.size=N)(hd:∀x,d=some x→x<N):
  (a.put d cv).tmps.getD t undef=if d=some t then cv else a.tmps.getD t undef:=by
 cases d with
 |none=>simp[Act.put]
 |some d=>
  have hlt:=hd d rfl;simp only[Act.put,Qq,Ua];by_cases h:d=t
  ·subst h;simp[hs,hlt]
  ·simp[h,UN h]
theorem size_put:(a.put d cv).tmps.size=a.tmps.size:=by
 cases d<;>simp[Act.put]
theorem X8:(a.put d cv).defers=a.defers:=by
 cases d<;>rfl
variable {tm:List (Nat×AV)}
theorem Xd{E:Env}{ops:Array Oper}{o:Oper}{g:Bool}
  (hv:∀j w d,o.guard=some (j,w)→(ops[j]?).bind (·.dst)=some d→VR E (lkv tm d) (a.tmps.getD d undef)) (hg:Yp ops.toList tm o=some g):
  Region.wanted o (yielded ops a.tmps)=g:=by
 unfold Yp at hg;unfold Region.wanted;cases hgd:o.guard with
 |none=>simp only[hgd,Qq]at hg;simpa using hg
 |some jw=>
  obtain⟨j,want⟩:=jw;simp only[hgd,MF]at hg;simp only[yielded];cases hd:(ops[j]?).bind (·.dst)with
  |none=>simp only[hd,Qq]at hg;subst hg;simp
  |some d=>
   simp only[hd]at hg;have h1:=hv j want d hgd hd;simp only[UE];rw[Ua]at h1;cases hx:a.tmps[d]? with
   |none=>
    rw[hx]at h1;simp only[Qa6,undef]at h1;split at hg
    ·rename_i b hb;rw[hb]at h1;cases h1
    ·simp only[Qq]at hg;subst hg;simp
    ·cases hg
   |some x=>
    rw[hx]at h1;simp only[Um]at h1;split at hg
    ·rename_i b hb;rw[hb]at h1;cases h1;simp only[Qq]at hg;subst hg;cases b<;>cases want<;>rfl
    ·rename_i hb;rw[hb]at h1;simp only[Qq]at hg;subst hg;cases h1 with
     |tup _ vs hl _=>
      have:vs=[]:=by simpa using hl
      subst this;rfl
    ·cases hg
theorem VY(E:Env):VR E (.tup []) undef:=VR.tup [] [] rfl (fun i h=>absurd h (Qm _))
inductive Kd where
 |p|t|w
 |a (d:Nat)
 |b (l d:Nat)
 deriving DecidableEq
def Kd.touches(n:Nat):Kd→Nat→Nat→Bool
 | .w,_,_=>true
 | .a d,l,s=>l==n&&s==d
 | .b l' d,l,s=>l==l'&&s==d
 |_,_,_=>false
def JD(n:Nat)(A:Nat→Bool)(G H:Za):Prop:=∀l s,(l=n→A s=false)→G l s=H l s
def Kd.sem(P:Program)(m n:Nat)(A:Nat→Bool)(o:Oper)(ρ:Operand→AV)(H:Za)(v:AV)(H':Za):Kd→Prop
 | .p=>(∀G,XE P m o ρ G v G)∧H'=H
 | .t=>(∀G,JD n A G H→XE P m o ρ G v G)∧H'=H
 | .w=>XE P m o ρ H v H'
 | .a d=>∃b,(∀G,G n d=H n d→XE P m o ρ G v (G.upd n d b))∧H'=H.upd n d b
 | .b l d=>∃b,(∀G,G l d=H l d→XE P m o ρ G v (G.upd l d b))∧H'=H.upd l d b
def ZeD(len:Nat)(kd:Nat→Kd)(s:Nat):Bool:=(List.range len).any fun i=>kd i== .a s
inductive J4 (P:Program) (m n:Nat) (A:Nat→Bool) (all:List Oper) (kd:Nat→Kd):Nat→List Oper→List (Nat×AV)→Za→List (Nat×AV)→Za→Prop
 |nil (i:Nat) (tm:List (Nat×AV)) (H:Za):J4 P m n A all kd i [] tm H tm H
 |run (i:Nat) (o:Oper) (r:List Oper) (tm tm':List (Nat×AV)) (H H1 H':Za) (v:AV) (hg:Yp all tm o=some true) (h:(kd i).sem P m n A o (evT tm) H v H1)
   (hr:J4 P m n A all kd (i+1) r (Yl tm o.dst v) H1 tm' H'):J4 P m n A all kd i (o::r) tm H tm' H'
 |pass (i:Nat) (o:Oper) (r:List Oper) (tm tm':List (Nat×AV)) (H H':Za) (hg:Yp all tm o=some false)
   (hr:J4 P m n A all kd (i+1) r (Yl tm o.dst (.tup [])) H tm' H'):J4 P m n A all kd i (o::r) tm H tm' H'
structure ZfL (P:Program) (m n:Nat) (A:Nat→Bool) (all:List Oper) (kd:Nat→Kd) (tm:Nat→List (Nat×AV)) (H:Nat→Za) (val:Nat→AV) (i0:Nat) (l:List Oper):Prop where
 step:∀j o,l[j]? =some o→tm (j+1)=Yl (tm j) o.dst (val j)∧
  ((Yp all (tm j) o=some true∧(kd (i0+j)).sem P m n A o (evT (tm j)) (H j) (val j) (H (j+1)))∨
   (Yp all (tm j) o=some false∧val j= .tup []∧H (j+1)=H j))
variable {kd:Nat→Kd} {n:Nat}
theorem J4.course{P:Program}{m:Nat}{A:Nat→Bool}{all:List Oper}{i:Nat}{l:List Oper}{tm':List (Nat×AV)}{H H':Za}
  (h:J4 P m n A all kd i l tm H tm' H'):∃T G V,T 0=tm∧G 0=H∧T l.length=tm'∧G l.length=H'∧ZfL P m n A all kd T G V i l:=by
 induction h with
 |nil i tm H=>exact⟨fun _=>tm,fun _=>H,fun _=>.dead,rfl,rfl,rfl,rfl,⟨fun j o h=>by simp at h⟩⟩
 |run i o r tm tm' H H1 H' v hg h _ ih=>
  obtain⟨T,G,V,t0,g0,t1,g1,hc⟩:=ih;refine⟨fun j=>match j with|0=>tm|j+1=>T j,fun j=>match j with|0=>H|j+1=>G j,fun j=>match j with|0=>v|j+1=>V j,rfl,rfl,t1,g1,⟨?_⟩⟩;intro j o' hj;cases j with
  |zero=>
   simp only[Gl,Qq]at hj;subst hj;exact⟨t0,.inl ⟨hg,by simp only[g0];exact h⟩⟩
  |succ j=>
   simp only[UJ]at hj;have:=hc.step j o' hj;rw[show i+1+j=i+(j+1) by omega]at this;exact this
 |pass i o r tm tm' H H' hg _ ih=>
  obtain⟨T,G,V,t0,g0,t1,g1,hc⟩:=ih;refine⟨fun j=>match j with|0=>tm|j+1=>T j,fun j=>match j with|0=>H|j+1=>G j,fun j=>match j with|0=>.tup []|j+1=>V j,rfl,rfl,t1,g1,⟨?_⟩⟩;intro j o' hj;cases j with
  |zero=>
   simp only[Gl,Qq]at hj;subst hj;exact⟨t0,.inr ⟨hg,rfl,g0⟩⟩
  |succ j=>
   simp only[UJ]at hj;have:=hc.step j o' hj;rw[show i+1+j=i+(j+1) by omega]at this;exact this
def ZiV(o:Oper)(acc:List Nat):Nat:=
 o.after.toList.foldl (fun m e=>if Region.binds .any e then(m|||(2^e.on))|||(acc.getD e.on 0)else m) 0
def ancL:List Oper→List Nat→List Nat
 |[],acc=>acc
 |o::r,acc=>ancL r (acc++[ZiV o acc])
def Closed(ops:List Oper)(D:Nat→Prop):Prop:=∀i o,ops[i]? =some o→D i→ ∀e∈o.after.toList,Region.binds .any e=true→D e.on
variable {D:Nat→Prop}
theorem ZhZ{o:Oper}{acc:List Nat}(hacc:∀i,D i→ ∀j,(acc.getD i 0).testBit j=true→D j)
  (ho:∀e∈o.after.toList,Region.binds .any e=true→D e.on) (j:Nat) (hj:(ZiV o acc).testBit j=true):D j:=by
 have key:∀(l:List Edge) (m:Nat),(∀j,m.testBit j=true→D j)→(∀e∈l,Region.binds .any e=true→D e.on)→
   ∀j,(l.foldl (fun m e=>if Region.binds .any e then(m|||(2^e.on))|||(acc.getD e.on 0)else m) m).testBit j=true→D j:=by
  intro l;induction l with
  |nil=>intro m hm _ j hj;exact hm j hj
  |cons e l ih=>
   intro m hm hl j hj;simp only[Uu]at hj;refine ih _ ?_ (fun e' he'=>hl e' (Qx _ he')) j hj;intro j hj;split at hj
   ·rename_i hb;have hd:=hl e sm hb;simp only[Nat.testBit_or,Gn]at hj;rcases hj with(h|h)|h
    ·exact hm j h
    ·rw[Nat.testBit_two_pow]at h;have:e.on=j:=by simpa using h
     exact this▸hd
    ·exact hacc _ hd j h
   ·exact hm j hj
 exact key _ 0 (fun j h=>by simp at h) ho j hj
variable {ops:List Oper}
theorem ZfF(hD:Closed ops D):∀(r:List Oper) (acc:List Nat),ops.drop acc.length=r→
  (∀i,D i→ ∀j,(acc.getD i 0).testBit j=true→D j)→ ∀i,D i→ ∀j,((ancL r acc).getD i 0).testBit j=true→D j:=by
 intro r;induction r with
 |nil=>intro acc _ h;exact h
 |cons o r ih=>
  intro acc hr h;refine ih (acc++[ZiV o acc]) (by rw[Qh,←UF,hr];rfl) ?_;intro i hi j hj;rcases Nat.lt_trichotomy i acc.length with hlt|heq|hgt
  ·rw[Qp,UL hlt,←Qp]at hj;exact h i hi j hj
  ·subst heq;rw[Qp,MV (Qe _)]at hj;simp at hj;have ho:ops[acc.length]? =some o:=by
    have:=congrArg (·[0]?) hr;simpa[UC]using this
   exact ZhZ h (fun e he hb=>hD _ _ ho hi e he hb) j hj
  ·rw[Qp,Ut (by simp;omega)]at hj;simp at hj
def looks(ops:List Oper)(o:Oper):List Nat:=
 (o.op.operands.toList.filterMap fun| .tmp t=>some t|_=>none)++(match o.guard with|some (g,_)=>((ops[g]?).bind (·.dst)).toList|none=>[])
def Kd.clash:Kd→Kd→Bool
 | .w,.p=>false
 | .w,_=>true
 | .p,.w=>false
 |_,.w=>true
 | .a d,.a d'=>d==d'
 | .b _ d,.b _ d'=>d==d'
 | .a d,.b _ d'=>d==d'
 | .b _ d,.a d'=>d==d'
 | .b _ _,.t=>true
 | .t,.b _ _=>true
 |_,_=>false
def clash(ops:List Oper)(kd:Nat→Kd)(i j:Nat)(x y:Oper):Bool:=
 (match x.dst with|some d=>(looks ops y).contains d||y.dst==some d|none=>false)||
 (match y.dst with|some d=>(looks ops x).contains d|none=>false)||
 (kd i).clash (kd j)
theorem Xi{i j:Nat}{x y:Oper}(h:(kd i).clash (kd j)=true):clash ops kd i j x y=true:=by
 unfold clash;rw[h];simp
variable {κ:Kd}
theorem Kd.Zib(h:κ≠ .p):Kd.clash .w κ=true∧Kd.clash κ .w=true:=by
 cases κ<;>first|exact absurd rfl h|exact⟨rfl,rfl⟩
theorem Kd.Zr8{l s:Nat}(h:κ.touches n l s=true):κ≠ .p:=by
 intro e;subst e;cases h
theorem Kd.V6{κ':Kd}{l s:Nat}(h:κ.touches n l s=true)(h':κ'.touches n l s=true):κ.clash κ'=true:=by
 cases κ with
 |p=>cases h
 |t=>cases h
 |w=>exact(Kd.Zib (Kd.Zr8 h')).1
 |a d=>cases κ' with
  |p=>cases h'
  |t=>cases h'
  |w=>rfl
  |a d'=>
   simp only[Kd.touches,Qi,beq_iff_eq]at h h';simp[Kd.clash,←h.2,←h'.2]
  |b l' d'=>
   simp only[Kd.touches,Qi,beq_iff_eq]at h h';simp[Kd.clash,←h.2,←h'.2]
 |b l0 d=>cases κ' with
  |p=>cases h'
  |t=>cases h'
  |w=>rfl
  |a d'=>
   simp only[Kd.touches,Qi,beq_iff_eq]at h h';simp[Kd.clash,←h.2,←h'.2]
  |b l' d'=>
   simp only[Kd.touches,Qi,beq_iff_eq]at h h';simp[Kd.clash,←h.2,←h'.2]
def Zpg{β:Type}(x:Nat)(f:Nat→β):β:=match x with
 |0=>f 0
 |n+1=>f (n+1)
theorem ZnG{β:Type}(x:Nat)(f:Nat→β):Zpg x f=f x:=by cases x<;>rfl
def ancK:List Oper→List Nat→(List Nat→Bool)→Bool
 |[],acc,k=>k acc
 |o::r,acc,k=>Zpg (ZiV o acc) fun m=>ancK r (acc++[m]) k
theorem ancK_eq:∀(ops:List Oper) (acc:List Nat) (k:List Nat→Bool),ancK ops acc k=k (ancL ops acc)
 |[],acc,k=>rfl
 |o::r,acc,k=>by rw[ancK,ZnG,ancK_eq r,ancL]
def VH(ops:List Oper)(kd:Nat→Kd):Bool:=
 ancK ops [] fun ms=>ops.zipIdx.all fun(y,j)=>y.after.toList.all (fun e=>!Region.binds .any e||e.on<j)&&
  ops.zipIdx.all fun(x,i)=>!(i<j)|| !clash ops kd i j x y||(ms.getD j 0).testBit i
structure Ordered (ops:List Oper) (kd:Nat→Kd):Prop where
 back:∀j y,ops[j]? =some y→ ∀e∈y.after.toList,Region.binds .any e=true→e.on<j
 cmp:∀i j x y,i<j→ops[i]? =some x→ops[j]? =some y→clash ops kd i j x y=true→ ∀D,Closed ops D→D j→D i
theorem Zcu(h:VH ops kd=true):Ordered ops kd:=by
 simp only[VH,ancK_eq,QA,Qi]at h;have hz:∀j y,ops[j]? =some y→(y,j)∈ops.zipIdx:=fun j y hy=>by
  rw[G6];exact hy
 constructor
 ·intro j y hy e he hb;have:=(h (y,j) (hz j y hy)).1 e he;simpa[hb]using this
 ·intro i j x y hij hx hy hc D hD hDj;have:=(h (y,j) (hz j y hy)).2 (x,i) (hz i x hx);simp only[hc,hij,decide_true,Qbq,Gt]at this;exact ZfF hD ops [] rfl (fun i _ j hj=>by simp at hj) j hDj i this
end

def Zda (ops : List Oper) (k : Nat) : Option Nat := (ops[k]?).bind (·.dst)

def va (ops : List Oper) (t0 : Nat → AV) (V : Nat → AV) (L : Nat → Bool) : Nat → Nat → AV
  | 0, t => t0 t
  | k + 1, t => if L k = true ∧ Zda ops k = some t then V k else va ops t0 V L k t

def hv (n : Nat) (kd : Nat → Kd) (G : Nat → Za) (L : Nat → Bool) : Nat → Za
  | 0 => G 0
  | k + 1 => fun l s => if L k = true ∧ (kd k).touches n l s = true then G (k + 1) l s else hv n kd G L k l s

theorem Zcn (n : Nat) (kd : Nat → Kd) (G : Nat → Za) (L : Nat → Bool) (k l s : Nat) :
    hv n kd G L (k + 1) l s = if L k = true ∧ (kd k).touches n l s = true then G (k + 1) l s else hv n kd G L k l s := rfl

section
variable {P : Program} {m nl : Nat} {A : Nat → Bool} {ops : List Oper} {kd : Nat → Kd} {T : Nat → List (Nat × AV)} {G : Nat → Za} {V : Nat → AV}

theorem Ziv {l0 post : List Oper} (hp : ops = l0 ++ post) (hc : ZfL P m nl A ops kd T G V 0 l0) {L : Nat → Bool} {t : Nat} : ∀ {i : Nat}, i ≤ l0.length → (∀ k, k < i → Zda ops k = some t → L k = true) →
    va ops (lkv (T 0)) V L i t = lkv (T i) t := by
  intro i
  induction i with
  | zero => intro _ _; rfl
  | succ i ih =>
    intro hi h
    have ho : l0[i]? = some l0[i] := List.getElem?_eq_getElem (by omega)
    have ho' : ops[i]? = some l0[i] := by rw [hp, List.getElem?_append_left (by omega)]; exact ho
    rw [(hc.step i _ ho).1, JE, va, ih (by omega) (fun k hk => h k (by omega))]
    have hd : Zda ops i = l0[i].dst := by simp [Zda, ho']
    by_cases hx : l0[i].dst = some t
    · rw [if_pos ⟨h i (by omega) (hd.trans hx), hd.trans hx⟩, if_pos hx]
    · rw [if_neg (fun c => hx (hd ▸ c.2)), if_neg hx]

theorem Zil {L : Nat → Bool} {t i : Nat} {t0 : Nat → AV} : ∀ {n : Nat}, i ≤ n → (∀ k, i ≤ k → k < n → Zda ops k = some t → L k = false) →
    va ops t0 V L n t = va ops t0 V L i t := by
  intro n
  induction n with
  | zero => intro hi _; have : i = 0 := by omega
            subst this; rfl
  | succ n ih =>
    intro hi h
    rcases Nat.lt_or_ge n i with hlt | hge
    · have : i = n + 1 := by omega
      subst this; rfl
    · rw [va, if_neg, ih hge (fun k h1 h2 => h k h1 (by omega))]
      rintro ⟨h1, h2⟩
      rw [h n hge (by omega) h2] at h1; cases h1

theorem ZoW {L L' : Nat → Bool} {t : Nat} {t0 : Nat → AV} : ∀ {n : Nat}, (∀ k, k < n → Zda ops k = some t → L k = L' k) → va ops t0 V L n t = va ops t0 V L' n t := by
  intro n
  induction n with
  | zero => intro _; rfl
  | succ n ih =>
    intro h
    simp only [va]
    rw [ih (fun k hk => h k (by omega))]
    by_cases hd : Zda ops n = some t
    · rw [h n (by omega) hd]
    · simp [hd]

theorem Zrh {o : Oper} {ρ : Operand → AV} {H H' : Za} {v : AV} {κ : Kd} (h : κ.sem P m nl A o ρ H v H') {l s : Nat} (ht : κ.touches nl l s = false) : H' l s = H l s := by
  cases κ with
  | p => exact congrFun (congrFun h.2 l) s
  | t => exact congrFun (congrFun h.2 l) s
  | w => cases ht
  | a d =>
    obtain ⟨b, _, rfl⟩ := h
    simp only [Za.upd]
    rw [if_neg]
    rintro ⟨rfl, rfl⟩
    simp [Kd.touches] at ht
  | b l0 d =>
    obtain ⟨b, _, rfl⟩ := h
    simp only [Za.upd]
    rw [if_neg]
    rintro ⟨rfl, rfl⟩
    simp [Kd.touches] at ht

theorem Zig {l0 : List Oper} (hc : ZfL P m nl A ops kd T G V 0 l0) {L : Nat → Bool} {l s : Nat} : ∀ {i : Nat}, i ≤ l0.length → (∀ k, k < i → (kd k).touches nl l s = true → L k = true) → hv nl kd G L i l s = G i l s := by
  intro i
  induction i with
  | zero => intro _ _; rfl
  | succ i ih =>
    intro hi h
    have ho : l0[i]? = some l0[i] := List.getElem?_eq_getElem (by omega)
    have hs := (hc.step i _ ho).2
    rw [Zcn, ih (by omega) (fun k hk => h k (by omega))]
    by_cases hw : (kd i).touches nl l s = true
    · rw [if_pos ⟨h i (by omega) hw, hw⟩]
    · rw [if_neg (fun c => hw c.2)]
      rcases hs with ⟨_, hs⟩ | ⟨_, _, hs⟩
      · rw [Nat.zero_add] at hs
        exact (Zrh hs (by simpa using hw)).symm
      · exact (congrFun (congrFun hs l) s).symm

theorem Zir {L : Nat → Bool} {i l s : Nat} : ∀ {n : Nat}, i ≤ n → (∀ k, i ≤ k → k < n → (kd k).touches nl l s = true → L k = false) → hv nl kd G L n l s = hv nl kd G L i l s := by
  intro n
  induction n with
  | zero => intro hi _; have : i = 0 := by omega
            subst this; rfl
  | succ n ih =>
    intro hi h
    rcases Nat.lt_or_ge n i with hlt | hge
    · have : i = n + 1 := by omega
      subst this; rfl
    · rw [Zcn, if_neg, ih hge (fun k h1 h2 => h k h1 (by omega))]
      rintro ⟨h1, h2⟩
      rw [h n hge (by omega) h2] at h1; cases h1

theorem ZpM {L L' : Nat → Bool} {l s : Nat} : ∀ {n : Nat}, (∀ k, k < n → (kd k).touches nl l s = true → L k = L' k) → hv nl kd G L n l s = hv nl kd G L' n l s := by
  intro n
  induction n with
  | zero => intro _; rfl
  | succ n ih =>
    intro h
    simp only [Zcn]
    rw [ih (fun k hk => h k (by omega))]
    by_cases hd : (kd n).touches nl l s = true
    · rw [h n (by omega) hd]
    · simp [hd]
end

def unl (l : Array Bool) : Nat := l.toList.countP (· == false)

theorem Zqc {l : Array Bool} {i : Nat} (h : i < l.size) (hf : l.getD i true = false) : unl (l.setIfInBounds i true) + 1 = unl l := by
  have hx : l.toList[i]'(by simpa using h) = false := by simpa [Array.getD_eq_getD_getElem?, h] using hf
  unfold unl
  rw [Array.toList_setIfInBounds]
  have key : ∀ (l : List Bool) (i : Nat) (h : i < l.length), l[i] = false → (l.set i true).countP (· == false) + 1 = l.countP (· == false) := by
    intro l
    induction l with
    | nil => intro i h; simp at h
    | cons a l ih =>
      intro i h hx
      cases i with
      | zero =>
        have ha : a = false := by simpa using hx
        subst ha
        rw [List.set_cons_zero, List.countP_cons, List.countP_cons]; rfl
      | succ i =>
        have := ih i (by simpa using h) (by simpa using hx)
        rw [List.set_cons_succ, List.countP_cons, List.countP_cons]
        omega
  exact key _ _ _ hx

theorem Zjh {l : Array Bool} (h : unl l = 0) (i : Nat) (hi : i < l.size) : l.getD i true = true := by
  unfold unl at h
  rw [List.countP_eq_zero] at h
  have := h (l.toList[i]'(by simpa using hi)) (List.getElem_mem _)
  simpa [Array.getD_eq_getD_getElem?, hi] using this

/-- A course of which the operation behind l0 may be the last one that runs. -/
theorem Zcy {P : Program} (ro : Option Nat) (ds : List Deferred) {m nl N : Nat} {ops : Array Oper} {Q : Exit → Act → World → Prop} {kd : Nat → Kd} {T : Nat → List (Nat × AV)} {G : Nat → Za} {V : Nat → AV} {l0 post : List Oper} (hp : ops.toList = l0 ++ post)
    (hd : ∀ o ∈ ops.toList, ∀ x, o.dst = some x → x < N) (hc : ZfL P m nl (ZeD ops.toList.length kd) ops.toList kd T G V 0 l0) (hO : Ordered ops.toList kd) (E0 : Env) (w0 : World)
    (hpv : post ≠ [] → ∀ i, i < ops.size → ∀ D, Closed ops.toList D → (i < l0.length → D l0.length → D i) ∧ (l0.length < i → D i → D l0.length))
    (hX : ∀ o, ops[l0.length]? = some o → ∀ E' w' a' K, a'.tmps.size = N → a'.defers = ds → (∀ t, VR E' (lkv (T l0.length) t) (a'.tmps.getD t undef)) → Zt m (G l0.length) E' w' → Ext m E0 w0 E' w' → wpOpIn (fr ro) 0 P ops Q l0.length K a' w')
    (hQ : post = [] → ∀ E' w' a', a'.tmps.size = N → a'.defers = ds → (∀ t, VR E' (lkv (T ops.size) t) (a'.tmps.getD t undef)) → Zt m (G ops.size) E' w' → Ext m E0 w0 E' w' → Q .normal a' w') :
    ∀ (fuel : Nat) (listed : Array Bool) (E : Env) (w : World) (a : Act), unl listed ≤ fuel → listed.size = ops.size → Closed ops.toList (fun i => listed.getD i false = true) →
      listed.getD l0.length false = false → a.tmps.size = N → a.defers = ds → (∀ t, VR E (va ops.toList (lkv (T 0)) V (listed.getD · false) ops.size t) (a.tmps.getD t undef)) →
      Zt m (hv nl kd G (listed.getD · false) ops.size) E w → Ext m E0 w0 E w → wpAnyIn (fr ro) 0 P .any ops Q fuel listed a w := by
  have hpl : ops.size = l0.length + post.length := by
    have := congrArg List.length hp
    simpa using this
  have hpn : post ≠ [] → l0.length < ops.size := fun h => by
    have := List.length_pos_iff.2 h
    omega
  intro fuel
  induction fuel with
  | zero =>
    intro listed E w a hu hsz hcl hlp h1 h2 h3 h4 h5
    have hall : ∀ i, i < ops.size → listed.getD i false = true := fun i hi => by
      have := Zjh (Nat.le_zero.1 hu) i (by omega)
      simpa [Array.getD_eq_getD_getElem?, hsz, hi] using this
    have hpe : post = [] := Classical.byContradiction fun h => by
      have := hall _ (hpn h)
      rw [hlp] at this; cases this
    subst hpe
    rw [List.append_nil] at hp
    have hp' : ops.toList = l0 ++ [] := by rw [hp, List.append_nil]
    rw [List.length_nil, Nat.add_zero] at hpl
    refine ⟨?_, hQ rfl E w a h1 h2 (fun t => ?_) ?_ h5⟩
    · simp only [Region.ready]
      rw [List.filter_eq_nil_iff]
      intro i hi
      have hi' : i < ops.size := by simpa using hi
      have := Zjh (Nat.le_zero.1 hu) i (by omega)
      simp [this]
    · have := h3 t
      rwa [hpl, Ziv hp' hc (Nat.le_refl _) (fun k hk _ => hall k (by omega)), ← hpl] at this
    · rwa [show hv nl kd G (listed.getD · false) ops.size = G ops.size from funext fun l => funext fun s => by
        rw [hpl]; exact Zig hc (Nat.le_refl _) (fun k hk _ => hall k (by omega))] at h4
  | succ fuel ih =>
    intro listed E w a hu hsz hcl hlp h1 h2 h3 h4 h5
    refine ⟨fun hnil => ?_, fun i hi => ?_⟩
    · -- nothing is ready: all are done
      have hall : ∀ i, i < ops.size → listed.getD i false = true := by
        intro i
        induction i using Nat.strongRecOn with
        | _ i hi =>
          intro hlt
          cases hli : listed.getD i false with
          | true => rfl
          | false =>
            exfalso
            simp only [Region.ready] at hnil
            rw [List.filter_eq_nil_iff] at hnil
            refine hnil i (by simpa using hlt) ?_
            have ho : ops[i]? = some ops[i] := Array.getElem?_eq_getElem hlt
            have hlt' : listed.getD i true = false := by simpa [Array.getD_eq_getD_getElem?, hsz, hlt] using hli
            simp only [hlt', Bool.not_false, Bool.true_and, ho, Option.map_some, Option.getD_some]
            rw [← Array.all_toList, List.all_eq_true]
            intro e he
            cases hb : Region.binds .any e with
            | false => rfl
            | true =>
              have hlt2 := hO.back i ops[i] (by rw [Array.getElem?_toList]; exact ho) e he hb
              simp [hi e.on hlt2 (by omega)]
      have hpe : post = [] := Classical.byContradiction fun h => by
        have := hall _ (hpn h)
        rw [hlp] at this; cases this
      subst hpe
      rw [List.append_nil] at hp
      have hp' : ops.toList = l0 ++ [] := by rw [hp, List.append_nil]
      rw [List.length_nil, Nat.add_zero] at hpl
      refine hQ rfl E w a h1 h2 (fun t => ?_) ?_ h5
      · have := h3 t
        rwa [hpl, Ziv hp' hc (Nat.le_refl _) (fun k hk _ => hall k (by omega)), ← hpl] at this
      · rwa [show hv nl kd G (listed.getD · false) ops.size = G ops.size from funext fun l => funext fun s => by
          rw [hpl]; exact Zig hc (Nat.le_refl _) (fun k hk _ => hall k (by omega))] at h4
    · -- one that is ready
      simp only [Region.ready, List.mem_filter, List.mem_range, Bool.and_eq_true, Bool.not_eq_true'] at hi
      obtain ⟨hlt, hun, haft⟩ := hi
      have ho : ops[i]? = some ops[i] := Array.getElem?_eq_getElem hlt
      generalize hoi : ops[i] = o at ho
      have hol : ops.toList[i]? = some o := by rw [Array.getElem?_toList]; exact ho
      have hmem : o ∈ ops.toList := List.mem_of_getElem? hol
      simp only [ho, Option.map_some, Option.getD_some] at haft
      rw [← Array.all_toList, List.all_eq_true] at haft
      have hLi : listed.getD i false = false := by
        have := hun
        simpa [Array.getD_eq_getD_getElem?, hsz, hlt] using this
      -- downward closure with i
      have hcl' : Closed ops.toList (fun j => listed.getD j false = true ∨ j = i) := by
        intro j o' hj hjD e he hb
        rcases hjD with hjD | rfl
        · exact .inl (hcl j o' hj hjD e he hb)
        · rw [hol] at hj; cases hj
          have := haft e he
          simp only [hb, Bool.not_true, Bool.false_or] at this
          exact .inl this
      rcases Nat.lt_trichotomy i l0.length with hi0 | hi0 | hi0
      rotate_left
      · have hne : post ≠ [] := fun h => by rw [h, List.length_nil] at hpl; omega
        have hlo : ∀ k, k < l0.length → listed.getD k false = true := fun k hk => by
          rcases (hpv hne k (by omega) _ hcl').1 hk (.inr hi0.symm) with h | h
          · exact h
          · omega
        have hhi : ∀ k, l0.length ≤ k → k < ops.size → listed.getD k false = false := fun k hk hks => by
          rcases Nat.lt_or_eq_of_le hk with hk | rfl
          · cases hlk : listed.getD k false with
            | false => rfl
            | true => exact absurd ((hpv hne k hks _ hcl).2 hk hlk) (by rw [hlp]; simp)
          · exact hlp
        subst hi0
        refine hX o ho E w a _ h1 h2 (fun t => ?_) ?_ h5
        · have := h3 t
          rwa [Zil (i := l0.length) (by omega) (fun k hk hkn _ => hhi k hk hkn), Ziv hp hc (Nat.le_refl _) (fun k hk _ => hlo k hk)] at this
        · rwa [show hv nl kd G (listed.getD · false) ops.size = G l0.length from funext fun l => funext fun s => by
            rw [Zir (i := l0.length) (by omega) (fun k hk hkn _ => hhi k hk hkn)]; exact Zig hc (Nat.le_refl _) (fun k hk _ => hlo k hk)] at h4
      · have hne : post ≠ [] := fun h => by rw [h, List.length_nil] at hpl; omega
        rcases (hpv hne i hlt _ hcl').2 hi0 (.inr rfl) with h | h
        · rw [hlp] at h; cases h
        · omega
      have hol0 : l0[i]? = some o := by
        rw [hp, List.getElem?_append_left hi0] at hol; exact hol
      have hbefore : ∀ j x, j < i → ops.toList[j]? = some x → clash ops.toList kd j i x o = true → listed.getD j false = true := by
        intro j x hji hx hcl2
        rcases hO.cmp j i x o hji hx hol hcl2 _ hcl' (.inr rfl) with h | h
        · exact h
        · omega
      have hafter : ∀ j y, i < j → ops.toList[j]? = some y → clash ops.toList kd i j o y = true → listed.getD j false = false := by
        intro j y hij hy hcl2
        cases hlj : listed.getD j false with
        | false => rfl
        | true =>
          have := hO.cmp i j o y hij hol hy hcl2 _ hcl hlj
          rw [hLi] at this; cases this
      have hlen : ops.toList.length = ops.size := by simp
      -- what it looks at
      have hlook : ∀ t, t ∈ looks ops.toList o → va ops.toList (lkv (T 0)) V (listed.getD · false) ops.size t = lkv (T i) t := by
        intro t ht
        rw [Zil (i := i) (by omega), Ziv hp hc (by omega)]
        · intro k hk hdk
          obtain ⟨x, hx, hxd⟩ := Option.bind_eq_some_iff.1 hdk
          refine hbefore k x hk hx ?_
          simp [clash, hxd, ht]
        · intro k hk hkn hdk
          obtain ⟨x, hx, hxd⟩ := Option.bind_eq_some_iff.1 hdk
          rcases Nat.lt_or_eq_of_le hk with hk | rfl
          · refine hafter k x hk hx ?_
            simp [clash, hxd, ht]
          · exact hLi
      -- the heap, slot by slot
      have hslot : ∀ l s, (∀ k x, ops.toList[k]? = some x → k ≠ i → (kd k).touches nl l s = true → clash ops.toList kd k i x o = true ∧ clash ops.toList kd i k o x = true) → hv nl kd G (listed.getD · false) ops.size l s = G i l s := by
        intro l s hcl3
        rw [Zir (i := i) (by omega), Zig hc (by omega)]
        · intro k hk hkw
          have hx : ops.toList[k]? = some ops.toList[k] := List.getElem?_eq_getElem (by omega)
          exact hbefore k _ hk hx (hcl3 k _ hx (by omega) hkw).1
        · intro k hk hkn hkw
          rcases Nat.lt_or_eq_of_le hk with hk | rfl
          · have hx : ops.toList[k]? = some ops.toList[k] := List.getElem?_eq_getElem (by omega)
            exact hafter k _ hk hx (hcl3 k _ hx (by omega) hkw).2
          · exact hLi
      have hoff : kd i = .t → JD nl (ZeD ops.toList.length kd) (hv nl kd G (listed.getD · false) ops.size) (G i) := by
        intro hp l s hA
        refine hslot l s (fun k x hx hki hkt => ?_)
        cases hkk : kd k with
        | p => rw [hkk] at hkt; cases hkt
        | t => rw [hkk] at hkt; cases hkt
        | w => exact ⟨Xi (by rw [hkk, hp]; rfl), Xi (by rw [hkk, hp]; rfl)⟩
        | b l0 d => exact ⟨Xi (by rw [hkk, hp]; rfl), Xi (by rw [hkk, hp]; rfl)⟩
        | a d =>
          rw [hkk] at hkt
          simp only [Kd.touches, Bool.and_eq_true, beq_iff_eq] at hkt
          have hlt2 : k < ops.toList.length := by
            rcases Nat.lt_or_ge k ops.toList.length with h | h
            · exact h
            · rw [List.getElem?_eq_none h] at hx; cases hx
          have := hA hkt.1
          simp only [ZeD, List.any_eq_false, List.mem_range, beq_iff_eq] at this
          exact absurd (by rw [hkk, hkt.2]) (this k hlt2)
      have hall2 : kd i = .w → hv nl kd G (listed.getD · false) ops.size = G i := by
        intro hw
        funext l s
        refine hslot l s (fun k x hx hki hkt => ?_)
        exact ⟨Xi (by rw [hw]; exact (Kd.Zib (Kd.Zr8 hkt)).2), Xi (by rw [hw]; exact (Kd.Zib (Kd.Zr8 hkt)).1)⟩
      have hown : ∀ d, kd i = .a d → hv nl kd G (listed.getD · false) ops.size nl d = G i nl d := by
        intro d hd'
        refine hslot nl d (fun k x hx hki hkt => ?_)
        have h0 : (kd i).touches nl nl d = true := by rw [hd']; simp [Kd.touches]
        exact ⟨Xi (Kd.V6 hkt h0), Xi (Kd.V6 h0 hkt)⟩
      have hownb : ∀ l' d, kd i = .b l' d → hv nl kd G (listed.getD · false) ops.size l' d = G i l' d := by
        intro l' d hd'
        refine hslot l' d (fun k x hx hki hkt => ?_)
        have h0 : (kd i).touches nl l' d = true := by rw [hd']; simp [Kd.touches]
        exact ⟨Xi (Kd.V6 hkt h0), Xi (Kd.V6 h0 hkt)⟩
      have hset : ∀ k, (listed.setIfInBounds i true).getD k false = if k = i then true else listed.getD k false := by
        intro k
        rw [Array.getD_eq_getD_getElem?, Array.getD_eq_getD_getElem?]
        by_cases hk : i = k
        · subst hk; simp [hsz, hlt]
        · rw [Array.getElem?_setIfInBounds_ne hk, if_neg (fun e => hk e.symm)]
      have hcl2 : Closed ops.toList (fun j => (listed.setIfInBounds i true).getD j false = true) := by
        intro j o' hj hjD e he hb
        rw [hset] at hjD ⊢
        have := hcl' j o' hj (by split at hjD; · exact .inr ‹_›
                                 · exact .inl hjD) e he hb
        split
        · rfl
        · rcases this with h | h
          · exact h
          · rename_i hne; exact absurd h hne
      have hu2 : unl (listed.setIfInBounds i true) ≤ fuel := by
        have := Zqc (l := listed) (i := i) (by omega) hun
        omega
      obtain ⟨hT, hstep⟩ := hc.step i o hol0
      rw [Nat.zero_add] at hstep
      -- the temporaries behind it
      have htm : ∀ t, va ops.toList (lkv (T 0)) V ((listed.setIfInBounds i true).getD · false) ops.size t =
          if o.dst = some t then V i else va ops.toList (lkv (T 0)) V (listed.getD · false) ops.size t := by
        intro t
        have hdi : Zda ops.toList i = o.dst := by simp [Zda, hol]
        by_cases hdt : o.dst = some t
        · rw [if_pos hdt, Zil (i := i + 1) (by omega)]
          · rw [va, if_pos ⟨by rw [hset, if_pos rfl], hdi.trans hdt⟩]
          · intro k hk hkn hdk
            obtain ⟨x, hx, hxd⟩ := Option.bind_eq_some_iff.1 hdk
            rw [hset, if_neg (by omega)]
            refine hafter k x (by omega) hx ?_
            simp [clash, hdt, hxd]
        · rw [if_neg hdt]
          refine ZoW (fun k _ hdk => ?_)
          rw [hset, if_neg]
          rintro rfl
          exact hdt (hdi ▸ hdk)
      -- the heap behind it
      have hhp : hv nl kd G ((listed.setIfInBounds i true).getD · false) ops.size = fun l s => if (kd i).touches nl l s = true then G (i + 1) l s else hv nl kd G (listed.getD · false) ops.size l s := by
        funext l s
        by_cases hw : (kd i).touches nl l s = true
        · rw [if_pos hw, Zir (i := i + 1) (by omega)]
          · rw [Zcn, if_pos ⟨by rw [hset, if_pos rfl], hw⟩]
          · intro k hk hkn hkw
            have hx : ops.toList[k]? = some ops.toList[k] := List.getElem?_eq_getElem (by omega)
            rw [hset, if_neg (by omega)]
            exact hafter k _ (by omega) hx (Xi (Kd.V6 hw hkw))
        · rw [if_neg hw]
          refine ZpM (fun k _ hkw => ?_)
          rw [hset, if_neg]
          rintro rfl
          exact hw hkw
      simp only [wpOpIn, ho]
      have hguard : ∀ j w d, o.guard = some (j, w) → (ops[j]?).bind (·.dst) = some d → VR E (lkv (T i) d) (a.tmps.getD d undef) := by
        intro j w' d hg hdj
        have hin : d ∈ looks ops.toList o := by
          simp only [looks, hg, Array.getElem?_toList, hdj, List.mem_append]
          exact .inr (by simp)
        rw [← hlook d hin]; exact h3 d
      rcases hstep with ⟨hg, hs⟩ | ⟨hg, hV, hGi⟩
      · rw [Xd hguard hg]
        simp only [if_true]
        have hops : ∀ x ∈ o.op.operands, VR E (evT (T i) x) (a.eval x) := by
          intro x hx
          cases x with
          | tmp t =>
            have hin : t ∈ looks ops.toList o := by
              simp only [looks, List.mem_append, List.mem_filterMap]
              exact .inl ⟨.tmp t, by simpa using hx, rfl⟩
            simp only [evT]
            rw [← hlook t hin]; exact h3 t
          | const v => exact ZgF E v
          | global g => exact .dead _
          | func f => exact VR.fn _ [] [] rfl (fun i h => absurd h (Nat.not_lt_zero _))
        have fin : ∀ (H' : Za), hv nl kd G ((listed.setIfInBounds i true).getD · false) ops.size = H' → ∀ E' w' cv, VR E' (V i) cv → Zt m H' E' w' → Ext m E w E' w' →
            wpAnyIn (fr ro) 0 P .any ops Q fuel (listed.setIfInBounds i true) (a.put o.dst cv) w' := by
          intro H' hH E' w' cv hcv hh hx
          refine ih (listed.setIfInBounds i true) E' w' (a.put o.dst cv) hu2 (by simp [hsz]) hcl2 (by rw [hset, if_neg (by omega)]; exact hlp) (by rw [size_put]; exact h1) (by rw [X8]; exact h2) ?_ (hH ▸ hh) (h5.trans hx)
          intro t
          rw [htm, VN h1 (hd o hmem)]
          split
          · exact hcv
          · exact (h3 t).mono h4.norm hx.le
        cases hk : kd i with
        | p =>
          rw [hk] at hs
          refine hs.1 _ E w a Q _ h4 hops (fin _ ?_) ro
          rw [hhp, hk]; funext l s; simp [Kd.touches]
        | t =>
          rw [hk] at hs
          refine hs.1 _ (hoff hk) E w a Q _ h4 hops (fin _ ?_) ro
          rw [hhp, hk]; funext l s; simp [Kd.touches]
        | w =>
          rw [hk] at hs
          rw [hall2 hk] at h4
          refine hs E w a Q _ h4 hops (fin _ ?_) ro
          rw [hhp, hk]; funext l s; simp [Kd.touches]
        | a d =>
          rw [hk] at hs
          obtain ⟨b, hb1, hb3⟩ := hs
          refine hb1 _ (hown d hk) E w a Q _ h4 hops (fin _ ?_) ro
          rw [hhp, hk, hb3]
          funext l s
          simp only [Kd.touches, Za.upd, Bool.and_eq_true, beq_iff_eq]
          by_cases hc' : l = nl ∧ s = d
          · simp [hc']
          · simp [hc']
        | b l0 d =>
          rw [hk] at hs
          obtain ⟨b, hb1, hb3⟩ := hs
          refine hb1 _ (hownb l0 d hk) E w a Q _ h4 hops (fin _ ?_) ro
          rw [hhp, hk, hb3]
          funext l s
          simp only [Kd.touches, Za.upd, Bool.and_eq_true, beq_iff_eq]
          by_cases hc' : l = l0 ∧ s = d
          · simp [hc']
          · simp [hc']
      · rw [Xd hguard hg]
        simp only [Bool.false_eq_true, if_false]
        refine ⟨fun _ _ => trivial, ?_⟩
        refine ih (listed.setIfInBounds i true) E w (a.put o.dst undef) hu2 (by simp [hsz]) hcl2 (by rw [hset, if_neg (by omega)]; exact hlp) (by rw [size_put]; exact h1) (by rw [X8]; exact h2) ?_ ?_ h5
        · intro t
          rw [htm, VN h1 (hd o hmem)]
          split
          · rw [hV]; exact VY E
          · exact h3 t
        · have : hv nl kd G ((listed.setIfInBounds i true).getD · false) ops.size = hv nl kd G (listed.getD · false) ops.size := by
            rw [hhp]
            funext l s
            split
            · rename_i hw
              rw [hGi]
              cases hk : kd i with
              | p => rw [hk] at hw; cases hw
              | t => rw [hk] at hw; cases hw
              | w => rw [hall2 hk]
              | a d =>
                rw [hk] at hw
                simp only [Kd.touches, Bool.and_eq_true, beq_iff_eq] at hw
                obtain ⟨rfl, rfl⟩ := hw
                exact (hown _ hk).symm
              | b l0 d =>
                rw [hk] at hw
                simp only [Kd.touches, Bool.and_eq_true, beq_iff_eq] at hw
                obtain ⟨rfl, rfl⟩ := hw
                exact (hownb _ _ hk).symm
            · rfl
          rw [this]; exact h4

theorem ZiK {P : Program} (ro : Option Nat) (ds : List Deferred) {m nl N : Nat} {ops : Array Oper} {Q : Exit → Act → World → Prop} {kd : Nat → Kd} {T : Nat → List (Nat × AV)} {G : Nat → Za} {V : Nat → AV}
    (hd : ∀ o ∈ ops.toList, ∀ x, o.dst = some x → x < N) (hc : ZfL P m nl (ZeD ops.toList.length kd) ops.toList kd T G V 0 ops.toList) (hO : Ordered ops.toList kd) (E0 : Env) (w0 : World)
    (hQ : ∀ E' w' a', a'.tmps.size = N → a'.defers = ds → (∀ t, VR E' (lkv (T ops.size) t) (a'.tmps.getD t undef)) → Zt m (G ops.size) E' w' → Ext m E0 w0 E' w' → Q .normal a' w') :
    ∀ (fuel : Nat) (listed : Array Bool) (E : Env) (w : World) (a : Act), unl listed ≤ fuel → listed.size = ops.size → Closed ops.toList (fun i => listed.getD i false = true) →
      a.tmps.size = N → a.defers = ds → (∀ t, VR E (va ops.toList (lkv (T 0)) V (listed.getD · false) ops.size t) (a.tmps.getD t undef)) →
      Zt m (hv nl kd G (listed.getD · false) ops.size) E w → Ext m E0 w0 E w → wpAnyIn (fr ro) 0 P .any ops Q fuel listed a w := fun fuel listed E w a hu hsz hcl =>
  Zcy ro ds (l0 := ops.toList) (post := []) (List.append_nil _).symm hd hc hO E0 w0 (fun h => absurd rfl h) (fun o ho => by simp at ho) (fun _ => hQ) fuel listed E w a hu hsz hcl (by
    rw [Array.getD_eq_getD_getElem?, Array.getElem?_eq_none (by simp [hsz])]; rfl)

theorem Env.Za9 (n : Nat) (E : Env) (w : World) : Ext n E w E { w with drawn := w.drawn + 1 } :=
  ⟨.refl n E, rfl, rfl, rfl, fun _ => Nat.le_succ _, Nat.le_refl _, fun _ _ _ => rfl, fun _ _ h => h⟩

theorem Zt.drew {n : Nat} {H : Za} {E : Env} {w : World} (h : Zt n H E w) : Zt n H E { w with drawn := w.drawn + 1 } :=
  { norm := h.norm, F := h.F, blk := fun l k b hl hb => (h.blk l k b hl hb).keep rfl rfl (fun _ => rfl) (fun _ _ _ h => h) (fun _ _ => rfl) (fun _ _ _ h => h) (fun _ _ _ h => h), dom := h.dom, nobuf := h.nobuf, inj := h.inj, injg := h.injg, mg := h.mg, mF := h.mF, lt := h.lt }

inductive TD where
 |int (k:IntKind)
 |bool
 |str
 |ptr
 |slice (e:TypeId)
 |array (n:Nat) (e:TypeId)
 |map (k e:TypeId)
 |struct (fs:List (Nat×TypeId))
 |func
 |tuple
 |iface
 deriving DecidableEq
def TD.fits:TD→TypeDesc→Bool
 | .int k,.int k'=>k==k'
 | .bool,.bool=>true
 | .str,.string=>true
 | .ptr,.pointer _=>true
 | .slice e,.slice e'=>e==e'
 | .array n e,.array n' e'=>n==n'&&e==e'
 | .map k e,.map k' e'=>k==k'&&e==e'
 | .struct fs, .struct gs => gs.toList.map (fun g => (g.offset, g.type)) == fs && gs.toList.all (fun g => g.name != "_")
 | .func,.func ..=>true
 | .tuple,.tuple _=>true
 | .iface,.interface _=>true
 |_,_=>false
structure Zv where
 td:TD
 size:Nat
 bytes:Nat
 zero:List AV
def Zv.isAgg(r:Zv):Bool:=match r.td with| .struct _| .array _ _=>true|_=>false
def fitsConst:AV→Value→Bool
 | .int k n,.int k' n'=>k==k'&&n==n'
 | .bool b,.bool b'=>b==b'
 | .str l,.string s=>l==s.data.toList
 | .nilp,.pointer none=>true
 | .sl _ [] .full,.slice none 0 0=>true
 | .nilf,.nilFunc=>true
 | .nilm,.map none=>true
 | .nili,.nilIface=>true
 |_,_=>false
theorem Ziy{E:Env}{a:AV}{v:Value}(h:fitsConst a v=true):VR E a v:=by
 unfold fitsConst at h;split at h<;>try(cases h;done)
 ·simp only[Qi,beq_iff_eq]at h;obtain⟨rfl,rfl⟩:=h;exact .int _ _
 ·simp only[beq_iff_eq]at h;subst h;exact .bool _
 ·rename_i l s;simp only[beq_iff_eq]at h;subst h;have:s=⟨s.data.toList.toArray⟩:=by simp
  rw[this];exact .str _
 ·exact .nilp
 ·exact .slnil _ _ none rfl (fun _=>rfl)
 ·exact .nilf
 ·exact .nilm
 ·exact .nili
theorem ZgX{a:AV}{v:Value}(h:fitsConst a v=true):a.one=true:=by
 unfold fitsConst at h;split at h<;>first|rfl|(cases h;done)
def fitsAll:List AV→List Value→Bool
 |[],[]=>true
 |a::az,v::vs=>fitsConst a v&&fitsAll az vs
 |_,_=>false
theorem Xt{E:Env}:∀{az:List AV} {vs:List Value},fitsAll az vs=true→VRs E az vs
 |[],[],_=>VRs.nil E
 |a::az,v::vs,h=>by
  simp only[fitsAll,Qi]at h;exact VRs.cons (Ziy h.1) (Xt h.2)
 |[],_::_,h=>by simp[fitsAll]at h
 |_::_,[],h=>by simp[fitsAll]at h
theorem fitsAll_one:∀{az:List AV} {vs:List Value},fitsAll az vs=true→ ∀a∈az,a.one=true
 |[],_,_=>by simp
 |a::az,v::vs,h=>by
  simp only[fitsAll,Qi]at h;intro x hx;rcases Qk.1 hx with rfl|hx
  ·exact ZgX h.1
  ·exact fitsAll_one h.2 x hx
 |_::_,[],h=>by simp[fitsAll]at h
def isAggV:Value→Bool
 | .agg _=>true
 |_=>false
def ZmJ(P:Program)(t:TypeId)(r:Zv):Bool:=
 match P.underlying t,P.info? t with
 |some d,some i=>r.td.fits d&&i.size==r.size&&i.bytes==r.bytes&&(match i.zero with|some z=>fitsAll r.zero z.cells.toList&&z.cells.size==r.size&&(r.isAgg==isAggV z)|none=>false)&&(match r.td with| .struct _=>!P.stoodInHeld t&& !P.eqGuardType P.depth t|_=>true)
 |_,_=>false
abbrev TT:=TypeId→Option Zv
def TOK(P:Program)(T:TT):Prop:=∀t r,T t=some r→ZmJ P t r=true
structure VX (P:Program) (t:TypeId) (r:Zv) (d:TypeDesc) (i:TypeInfo) (z:Value):Prop where
 und:P.underlying t=some d
 info:P.info? t=some i
 fits:r.td.fits d=true
 size:i.size=r.size
 bytes:i.bytes=r.bytes
 zero:i.zero=some z
 zfits:fitsAll r.zero z.cells.toList=true
 zsize:z.cells.size=r.size
 zagg:r.isAgg=isAggV z
 stood:∀fs,r.td= .struct fs→P.stoodInHeld t=false∧P.eqGuardType P.depth t=false
theorem Zd{P:Program}{t:TypeId}{r:Zv}(h:ZmJ P t r=true):∃d i z,VX P t r d i z:=by
 unfold ZmJ at h;split at h
 ·rename_i d i hd hi;split at h
  ·rename_i z hz;simp only[Qi,beq_iff_eq]at h;obtain⟨⟨h,h2⟩,h3⟩:=h;refine⟨d,i,z,hd,hi,h.1.1,h.1.2,h.2,hz,h2.1.1,h2.1.2,h2.2,fun fs hfs=>?_⟩;rw[hfs]at h3;simpa using h3
  ·simp at h
 ·simp at h
theorem Zic{P:Program}{l:List (TypeId×Zv)}(h:l.all (fun x=>ZmJ P x.1 x.2)=true):TOK P (fun t=>(l.find? (·.1==t)).map (·.2)):=by
 intro t r hr;simp only[Ul]at hr;obtain⟨x,hx,rfl⟩:=hr;have h1:=List.find?_some hx;have h2:=List.mem_of_find?_eq_some hx;have h3:=(QA.1 h) x h2;have:x.1=t:=by simpa using h1
 exact this▸h3
def isAggD:TypeDesc→Bool
 | .struct _| .array _ _=>true
 |_=>false
theorem TD.Zpb{r:Zv}{d:TypeDesc}(h:r.td.fits d=true):isAggD d=r.isAgg:=by
 obtain⟨td,s,b,z⟩:=r;cases td<;>cases d<;>first|rfl|(simp[TD.fits]at h;done)
section runs
variable {P:Program}
theorem JX{t:TypeId}{r:Zv}{d:TypeDesc}{i:TypeInfo}{z:Value}(h:VX P t r d i z)(w:World):(isAgg t).run P w= .ok r.isAgg w:=by
 rw[←TD.Zpb h.fits];unfold isAgg;rw[Sem.run_bind,run_underlying h.und,Result.andThen_ok];cases d<;>rfl
theorem ZF{t:TypeId}{r:Zv}{d:TypeDesc}{i:TypeInfo}{z:Value}(h:VX P t r d i z)(w:World):(sizeOf t).run P w= .ok r.size w:=by
 simp[sizeOf,typeInfo,h.info,h.size]
theorem Yk{t:TypeId}{r:Zv}{d:TypeDesc}{i:TypeInfo}{z:Value}(h:VX P t r d i z)(w:World):(zeroValue t).run P w= .ok z w:=by
 simp[zeroValue,typeInfo,h.info,h.zero]
end runs
section
variable {w:World} {E:Env} {H:Za} {m:Nat}
theorem Zt.grow{w':World}{F':Nat→Nat→Option Value}(h:Zt m H E w)(os:w'.os=w.os)(tape:w'.tape=w.tape)(output:w'.output=w.output)
  (drawn:E.qd=true→w.drawn≤w'.drawn) (size:w.heap.size≤w'.heap.size) (hb:∀b,b<w.heap.size→w'.heap[b]? =w.heap[b]?) (hF:∀b o v,E.F b o=some v→F' b o=some v)
  (hF':∀b o v,F' b o=some v→w'.cell? ⟨b,o,none⟩=some v) (hnew:∀b o,b<w.heap.size→F' b o=E.F b o):
  Zt m H {E with F:=F'} w'∧Ext m E w {E with F:=F'} w':=by
 have hle:E.le m {E with F:=F'}:=⟨hF,fun _ _ _ _ h=>h,fun _ _ _ _ _ h=>h,rfl⟩
 have hlt:∀l k b,E.m l k=some b→b<w.heap.size:=fun l k b hm=>h.lt b (.inl ⟨l,k,hm⟩)
 have hgt:∀l k b,E.g l k=some b→b<w.heap.size:=fun l k b hm=>h.lt b (.inr ⟨l,k,hm⟩)
 refine⟨{norm:=⟨h.norm.m,h.norm.g,h.norm.hist⟩,F:=hF',blk:=?_,dom:=h.dom,nobuf:=h.nobuf,inj:=h.inj,injg:=h.injg,mg:=h.mg,mF:=?_,lt:=?_},⟨hle,os,tape,output,drawn,size,fun b hb' _=>hb b hb',fun b _ ho=>ho⟩⟩
 ·intro l k b hl hH;exact(h.blk l k b hl hH).keep rfl rfl (fun _=>rfl) (fun _ _ _ h=>h) (fun r hr=>hb r (hr.elim (hlt _ _ _) (hgt _ _ _))) (fun g o hg hf=>(hnew g o (hgt _ _ _ hg)).trans hf) (fun a _ v hv=>hv.mono h.norm hle)
 ·intro l k b o hm;exact(hnew b o (hlt l k b hm)).trans (h.mF l k b o hm)
 ·intro b ho;exact Ui (h.lt b ho) size
theorem Zt.Zco(h:Zt m H E w){b o:Nat}{v:Value}(hf:E.F b o=some v):b<w.heap.size:=
 World.block_lt_of_cell? w _ (h.F b o v hf)
def Env.addRow(E:Env)(b:Nat)(vs:Array Value):Env:={E with F:=fun b' o=>if b'=b then vs[o]? else E.F b' o}
theorem Zt.newRow{w1:World}(h:Zt m H E w)(vs:Array Value)(e:TypeId)(os:w1.os=w.os)(tape:w1.tape=w.tape)(output:w1.output=w.output)
  (drawn:E.qd=true→w.drawn≤w1.drawn) (hh:w1.heap=w.heap):
  Zt m H (E.addRow w.heap.size vs) (w1.alloc (.cells vs e))∧Ext m E w (E.addRow w.heap.size vs) (w1.alloc (.cells vs e)):=by
 refine h.grow os tape output drawn (by simp[World.alloc,hh]) ?_ ?_ ?_ ?_
 ·intro b hb;simp only[World.alloc,hh,U1];rw[if_neg om]
 ·intro b o v hf;have:=h.Zco hf;rw[if_neg om];exact hf
 ·intro b o v hf;split at hf
  ·rename_i hbe;subst hbe;simp only[World.cell?,World.alloc,hh,U1];simpa using hf
  ·have:=h.Zco hf;have hc:=h.F b o v hf;simp only[World.cell?,World.alloc,hh,U1]at hc⊢;rw[if_neg om];exact hc
 ·intro b o hb;rw[if_neg om]
def Yq(P:Program)(m:Nat)(o:Oper)(ρ:Operand→AV)(H:Za)(v:AV)(H':Za):Prop:=
 ∀E w (a:Act),Zt m H E w→(∀x∈o.op.operands,VR E (ρ x) (a.eval x))→
  ∃cv E' w',((execOp a.eval o).run P w= .ok (.value cv) w'∨((execOp a.eval o).run P w= .ok .skip w'∧cv=undef))∧VR E' v cv∧Zt m H' E' w'∧Ext m E w E' w'
variable {o:Oper} {ro:Option Nat}
theorem Zpv{ρ:Operand→Value}(h:∀c,o.op≠ .defer c):o.semAt ro ρ=execOp ρ o:=by
 cases ro with
 |none=>rfl
 |some l=>unfold Oper.semAt;split<;>first|rfl|(rename_i h';exact absurd h' (h _))
theorem Znd{P:Program}{o:Oper}{ρ:Operand→Value}{w w':World}{x:Next}(h:(execOp ρ o).run P w= .ok x w')(hx:∀d,x≠ .defer d):∀c,o.op≠ .defer c:=fun c hc=>by
 simp only[execOp,hc,Sem.run_bind]at h;cases hr:(resolve ρ c o.type).run P w with
 |ok d w2=>rw[hr]at h;simp only[Result.andThen,Sem.run_pure,Result.ok.injEq]at h;exact hx _ h.1.symm
 |halt u w2=>rw[hr]at h;cases h
variable {P:Program}
theorem Y9{a:Act}{w':World}{K:Act→World→Prop}{Q:Exit→Act→World→Prop}{x:Next}(hrun:(execOp a.eval o).run P w= .ok x w')(hx:∀d,x≠ .defer d)
  (h:o.uponIn (fr ro) 0 P a K Q (.ok x w')):o.wpIn (fr ro) 0 P a w K Q:=
 ⟨fun _ _=>trivial,by rw[Zpv (Znd hrun hx),hrun];exact h⟩
variable {v:AV} {ρ:Operand→AV}
theorem Yq.sem{H':Za}(h:Yq P m o ρ H v H'):XE P m o ρ H v H':=by
 intro E w a Q K hr ho hk ro;obtain⟨cv,E',w',hrun,hv,hh,hx⟩:=h E w a hr ho;rcases hrun with hrun|⟨hrun,rfl⟩
 ·exact Y9 hrun (fun _ e=>by cases e) (hk E' w' cv hv hh hx)
 ·exact Y9 hrun (fun _ e=>by cases e) (hk E' w' undef hv hh hx)
def YV(P:Program)(o:Oper)(ρ:Operand→AV)(v:AV):Prop:=
 ∀E (a:Act),(∀x∈o.op.operands,VR E (ρ x) (a.eval x))→ ∃cv,(∀w,(execOp a.eval o).run P w= .ok (.value cv) w)∧VR E v cv
theorem YV.run(h:YV P o ρ v)(m:Nat)(H:Za):Yq P m o ρ H v H:=by
 intro E w a hr ho;obtain⟨cv,h1,h2⟩:=h E a ho;exact⟨cv,E,w,.inl (h1 w),h2,hr,.refl m E w⟩
def Zgz(T:TT)(ty:TypeId)(v:AV):AV:=
 match v with
 | .sl k [] o=>match T ty with
  |some r=>match r.td with
   | .slice e=>match T e with
    |some q=>.sl q.size [] o
    |none=>.sl k [] o
   |_=>.sl k [] o
  |none=>.sl k [] o
 |v=>v
theorem ZaU{k k':Nat}{o:Own}{v:Value}(h:VR E (.sl k [] o) v):VR E (.sl k' [] o) v:=by
 cases h with
 |slnil _ _ a ho ha=>exact .slnil k' o a ho ha
 |sl _ _ _ b off cap c hk hc hv hcap hm ho=>exact .sl k' [] o b off cap c (fun i h=>absurd h (Qm _)) (fun i j h=>absurd h (Qm _)) (fun i h=>absurd h (Qm _)) hcap hm ho
theorem ZpK{T:TT}{ty:TypeId}{x:Value}(h:VR E v x):VR E (Zgz T ty v) x:=by
 unfold Zgz;split
 ·split
  ·split
   ·split
    ·exact ZaU h
    ·exact h
   ·exact h
  ·exact h
 ·exact h
def mv(T:TT)(ty:TypeId)(x:Operand)(v:AV):AV:=
 match x with
 | .const _=>Zgz T ty v
 |_=>v
theorem ZhB{T:TT}{ty:TypeId}{x:Operand}{y:Value}(h:VR E v y):VR E (mv T ty x v) y:=by
 unfold mv;split
 ·exact ZpK h
 ·exact h
section ops
variable {P:Program} {T:TT} {o:Oper} {ρ:Operand→AV}
theorem ZqD{x:Operand}(ho:o.op= .move x):YV P o ρ (mv T o.type x (ρ x)):=fun E a h=>
 ⟨a.eval x,fun w=>by simp[execOp,ho],ZhB (h x sO)⟩
theorem Zn3{x:Operand}(ho:o.op= .assign x):YV P o ρ (mv T o.type x (ρ x)):=fun E a h=>
 ⟨a.eval x,fun w=>by simp[execOp,ho],ZhB (h x sO)⟩
theorem Zmp{c x y:Operand}{t:Bool}(ho:o.op= .pick c x y)(hc:ρ c= .bool t):YV P o ρ (if t then mv T o.type x (ρ x)else mv T o.type y (ρ y)):=fun E a h=>by
 have h1:=h c sO;rw[hc]at h1;cases hb:a.eval c<;>rw[hb]at h1<;>cases h1;refine⟨if t then a.eval x else a.eval y,fun w=>by simp[execOp,ho,hb,asBool],?_⟩;cases t
 ·exact ZhB (h y sO)
 ·exact ZhB (h x sO)
theorem V4{x:Operand}{v:AV}(ho:o.op= .nilCheck x)(hv:ρ x=v)(hk:(match v with| .ptr ..=>true| .iptr _=>true| .eptr ..=>true| .fn (.func _) _=>true| .fn (.yield _) _=>true|_=>false)=true):YV P o ρ v:=fun E a h=>by
 have h1:=h x sO;rw[hv]at h1;refine⟨a.eval x,fun w=>?_,h1⟩;have hex:execOp a.eval o=match a.eval x with
  | .pointer none| .nilIface| .nilFunc=>runtimePanic .nilDeref
  | .func (.method name) first captured=>
   match (first[0]?:Option Value)with
   |some .nilIface=>runtimePanic .nilDeref
   |some (.iface t w)=>do
    if(←nilAhead ((←program).types.size+Made.depth) t w name) !=some false then
     unsupported (.noEntry "op/nilCheck.the method's receiver behind this interface value is a nil pointer, or cannot be seen to be none, and the arguments act or may panic (ledger 612)")
    pure (.value (.func (.method name) first captured))
   |_=>pure (.value (.func (.method name) first captured))
  |x=>pure (.value x):=by simp only[execOp,ho];rfl
 rw[hex];clear hex;generalize a.eval x=y at*;cases h1 with
 |ptr l k off b hm=>rfl
 |iptr cs b off c hc hv=>rfl
 |eptr l k n off g cap hh=>rfl
 |fn f caps vs hl hvs=>cases f<;>first|rfl|(simp at hk;done)
 |_=>simp at hk
theorem ZI(b off n:Nat):(⟨b,off,none⟩:Addr).add n=⟨b,off+n,none⟩:=by
 unfold Addr.add;split
 ·rename_i h;subst h;rfl
 ·rfl
theorem Zel{t:TypeId}{x:Operand}{f:Nat}{r rf:Zv}{fs:List (Nat×TypeId)}{fo ft l k off:Nat}(hT:TOK P T)(ho:o.op= .fieldAddr t x f)(h1:T t=some r)(h2:r.td= .struct fs)
  (h3:fs[f]? =some (fo,ft)) (h4:T ft=some rf) (h5:rf.size≠0) (hv:ρ x= .ptr l k off):YV P o ρ (.ptr l k (off+fo)):=fun E a h=>by
 have hx:=h x sO;rw[hv]at hx;obtain⟨d,i,z,hf⟩:=Zd (hT t r h1);obtain⟨d',i',z',hf'⟩:=Zd (hT ft rf h4);have hfit:=hf.fits;rw[h2]at hfit;cases d<;>try(simp[TD.fits]at hfit;done)
 rename_i gs;simp only[TD.fits,Qi,beq_iff_eq]at hfit;have hg:∃g,gs[f]? =some g∧g.offset=fo∧g.type=ft:=by
  have h3':=h3;rw[←hfit.1,QZ]at h3';cases hq:gs.toList[f]? with
  |none=>simp[hq]at h3'
  |some g=>rw[hq]at h3';simp at h3';exact⟨g,by rw[←Array.getElem?_toList];exact hq,h3'.1,h3'.2⟩
 obtain⟨g,hg1,hg2,hg3⟩:=hg;cases hy:a.eval x<;>rw[hy]at hx<;>cases hx;rename_i b hm;refine⟨.pointer (some ⟨b,off+fo,none⟩),fun w=>?_,.ptr l k _ b hm⟩;simp[execOp,ho,hy,Instr.fieldAt,run_underlying hf.und,hg1,Instr.sureAddr,fieldPlace,hg3,ZF hf',h5,ZI,hg2]
theorem Zde{t:TypeId}{x:Operand}{f:Nat}{r rf:Zv}{fs:List (Nat×TypeId)}{fo ft:Nat}{cs:List AV}(hT:TOK P T)(ho:o.op= .fieldAddr t x f)(h1:T t=some r)(h2:r.td= .struct fs)
  (h3:fs[f]? =some (fo,ft)) (h4:T ft=some rf) (h5:rf.size≠0) (hv:ρ x= .iptr cs):YV P o ρ (.iptr (cs.drop fo)):=fun E a h=>by
 have hx:=h x sO;rw[hv]at hx;obtain⟨d,i,z,hf⟩:=Zd (hT t r h1);obtain⟨d',i',z',hf'⟩:=Zd (hT ft rf h4);have hfit:=hf.fits;rw[h2]at hfit;cases d<;>try(simp[TD.fits]at hfit;done)
 rename_i gs;simp only[TD.fits,Qi,beq_iff_eq]at hfit;have hg:∃g,gs[f]? =some g∧g.offset=fo∧g.type=ft:=by
  have h3':=h3;rw[←hfit.1,QZ]at h3';cases hq:gs.toList[f]? with
  |none=>simp[hq]at h3'
  |some g=>rw[hq]at h3';simp at h3';exact⟨g,by rw[←Array.getElem?_toList];exact hq,h3'.1,h3'.2⟩
 obtain⟨g,hg1,hg2,hg3⟩:=hg;generalize hy:a.eval x=y at hx;cases hx with|iptr _ b off c hc hv=>
 refine⟨.pointer (some ⟨b,off+fo,none⟩),fun w=>?_,?_⟩
 ·simp[execOp,ho,hy,Instr.fieldAt,run_underlying hf.und,hg1,Instr.sureAddr,fieldPlace,hg3,ZF hf',h5,ZI,hg2]
 ·refine .iptr _ b (off+fo) (fun j=>c (fo+j)) (fun j hj=>?_) (fun j hj=>?_)
  ·rw[QL]at hj;rw[MQ];exact hc (fo+j) om
  ·rw[QL]at hj;have:=hv (fo+j) om;simpa using this
theorem ZH{d:TypeDesc}{e:TypeId}(h:(TD.slice e).fits d=true):d= .slice e:=by
 cases d<;>simp[TD.fits]at h;subst h;rfl
theorem Zfe{t:TypeId}{x ix:Operand}{r re:Zv}{e:TypeId}{k:Nat}{xs:List AV}{ow:Own}{kk:IntKind}{i:Int}(hT:TOK P T)(ho:o.op= .indexAddr t x ix)
  (h1:T t=some r) (h2:r.td= .slice e) (h3:T e=some re) (hk:k=re.size) (hv:ρ x= .sl k xs ow) (hi:ρ ix= .int kk i) (hlo:0≤i) (hhi:i<xs.length):
  YV P o ρ (.iptr (xs.getD i.toNat .dead).cells):=fun E a h=>by
 have hx:=h x sO;have hix:=h ix sO;rw[hv]at hx;rw[hi]at hix;obtain⟨d,inf,z,hf⟩:=Zd (hT t r h1);obtain⟨d',i',z',hf'⟩:=Zd (hT e re h3);have hd:=ZH (h2▸hf.fits);subst hd;cases hyi:a.eval ix<;>rw[hyi]at hix<;>cases hix;have hlt:i.toNat<xs.length:=by omega
 have hg:xs.getD i.toNat .dead=xs[i.toNat]:=by simp[Qp,Qd hlt]
 generalize hy:a.eval x=y at hx;cases hx with
 |slnil _ _ _ ho' _=>simp at hhi;omega
 |sl _ _ _ b off cap c hkk hc hvv hcap hm how=>
  refine⟨.pointer (some ⟨b,off+i.toNat*re.size,none⟩),fun w=>?_,?_⟩
  ·simp[execOp,ho,hy,hyi,Instr.indexAt,asIntOf,run_underlying hf.und,hlo,hhi,ZF hf',ZI]
  ·rw[hg];refine .iptr _ b _ (fun j=>c i.toNat j) (fun j hj=>?_) (fun j hj=>hvv i.toNat hlt j hj);have:=hc i.toNat j hlt (by rw[←hkk i.toNat hlt];exact hj);rw[←hk,MQ];exact this
theorem Znf{t:TypeId}{x:Operand}{r:Zv}{e:TypeId}{k:Nat}{xs:List AV}{ow:Own}(hT:TOK P T)(ho:o.op= .call {callee:=.builtin .len,args:=#[x],argTypes:=#[t]})
  (h1:T t=some r) (h2:r.td= .slice e) (hv:ρ x= .sl k xs ow):YV P o ρ (.int .i64 xs.length):=fun E a h=>by
 have hx:=h x sC;rw[hv]at hx;obtain⟨d,inf,z,hf⟩:=Zd (hT t r h1);have hd:=ZH (h2▸hf.fits);subst hd;cases hy:a.eval x<;>rw[hy]at hx<;>cases hx
 ·exact⟨_,fun w=>by simp[execOp,ho,hy,resolve,invoke,builtin,Builtin.len_,run_underlying hf.und,goInt],.int _ _⟩
 ·exact⟨_,fun w=>by simp[execOp,ho,hy,resolve,invoke,builtin,Builtin.len_,run_underlying hf.und,goInt],.int _ _⟩
theorem VL{d:TypeDesc}(h:TD.str.fits d=true):d= .string:=by
 cases d<;>simp[TD.fits]at h;rfl
theorem ZlN{t:TypeId}{x:Operand}{r:Zv}{s:List UInt8}(hT:TOK P T)(ho:o.op= .call {callee:=.builtin .len,args:=#[x],argTypes:=#[t]})
  (h1:T t=some r) (h2:r.td= .str) (hv:ρ x= .str s):YV P o ρ (.int .i64 s.length):=fun E a h=>by
 have hx:=h x sC;rw[hv]at hx;obtain⟨d,inf,z,hf⟩:=Zd (hT t r h1);have hd:=VL (h2▸hf.fits);subst hd;cases hy:a.eval x<;>rw[hy]at hx<;>cases hx;have hsz:(⟨s.toArray⟩:ByteArray).size=s.length:=by show s.toArray.size=s.length;simp
 exact⟨.int .i64 s.length,fun w=>by simp[execOp,ho,hy,resolve,invoke,builtin,Builtin.len_,run_underlying hf.und,goInt,hsz],.int _ _⟩
theorem ZiX{t:TypeId}{x ix:Operand}{r:Zv}{s:List UInt8}{kk:IntKind}{i:Int}(hT:TOK P T)(ho:o.op= .index t x ix)
  (h1:T t=some r) (h2:r.td= .str) (hv:ρ x= .str s) (hi:ρ ix= .int kk i) (hlo:0≤i) (hhi:i<s.length):YV P o ρ (.int .u8 (s.getD i.toNat 0).toNat):=fun E a h=>by
 have hx:=h x sO;have hix:=h ix sO;rw[hv]at hx;rw[hi]at hix;obtain⟨d,inf,z,hf⟩:=Zd (hT t r h1);have hd:=VL (h2▸hf.fits);subst hd;have hlt:i.toNat<s.length:=by omega
 cases hyi:a.eval ix<;>rw[hyi]at hix<;>cases hix;cases hy:a.eval x<;>rw[hy]at hx<;>cases hx;refine⟨.int .u8 (s.getD i.toNat 0).toNat,fun w=>?_,.int _ _⟩;have hget:(⟨s.toArray⟩:ByteArray)[i.toNat]? =some s[i.toNat]:=by
  rw[getElem?_pos (⟨s.toArray⟩:ByteArray) i.toNat (by show i.toNat<s.toArray.size;simpa using hlt)];rfl
 simp[execOp,ho,hy,hyi,Instr.index,asIntOf,run_underlying hf.und,hlo,hget,Qp,Qd hlt]
theorem Zlj{x:Operand}{i:Nat}{vs:List AV}(ho:o.op= .extract x i)(hv:ρ x= .tup vs)(hi:i<vs.length):YV P o ρ (vs.getD i .dead):=fun E a h=>by
 have hx:=h x sO;rw[hv]at hx;generalize hy:a.eval x=y at hx;cases hx with|tup _ us hl hvs=>
 refine⟨us[i]'om,fun w=>?_,?_⟩
 ·simp[execOp,ho,hy,Instr.extract,Qd (show i<us.length by omega)]
 ·have:=hvs i hi om;simpa[Qp,Qd hi]using this
theorem ZrT{x:Operand}{t:TypeId}{b:Bool}(ho:o.op= .unOp .not t x)(hv:ρ x= .bool b):YV P o ρ (.bool (!b)):=fun E a h=>by
 have hx:=h x sO;rw[hv]at hx;cases hy:a.eval x<;>rw[hy]at hx<;>cases hx;exact⟨.bool (!b),fun w=>by simp[execOp,ho,hy,Op.unary],.bool _⟩
theorem Zsf{x:Operand}{t:TypeId}{k:IntKind}{n:Int}(ho:o.op= .unOp .neg t x)(hv:ρ x= .int k n):YV P o ρ (.int k (k.wrap (0 - n))):=fun E a h=>by
 have hx:=h x sO;rw[hv]at hx;cases hy:a.eval x<;>rw[hy]at hx<;>cases hx;exact⟨.int k (k.wrap (0 - n)),fun w=>by simp[execOp,ho,hy,Op.unary,Op.intArith],.int _ _⟩
theorem Zar{d:TypeDesc}{k:IntKind}(h:(TD.int k).fits d=true):d= .int k:=by
 cases d<;>simp[TD.fits]at h;subst h;rfl
theorem Zf1{src dst:TypeId}{x:Operand}{rs r:Zv}{k0 k k':IntKind}{n:Int}(hT:TOK P T)(ho:o.op= .convert src dst x)(h0:T src=some rs)(h0':rs.td= .int k0)(h1:T dst=some r)(h2:r.td= .int k)(hv:ρ x= .int k' n):
  YV P o ρ (.int k (k.wrap n)):=fun E a h=>by
 have hx:=h x sO;rw[hv]at hx;obtain⟨d,inf,z,hf⟩:=Zd (hT dst r h1);have hd:=Zar (h2▸hf.fits);subst hd;obtain⟨d0,inf0,z0,hf0⟩:=Zd (hT src rs h0);have hd0:=Zar (h0'▸hf0.fits);subst hd0;cases hy:a.eval x<;>rw[hy]at hx<;>cases hx;exact⟨.int k (k.wrap n),fun w=>by simp[execOp,ho,hy,convert,run_underlying hf.und,run_underlying hf0.und,Conv.intToInt],.int _ _⟩
theorem ZfO{src dst:TypeId}{x:Operand}{rs r:Zv}{s:List UInt8}(hT:TOK P T)(ho:o.op= .convert src dst x)(h0:T src=some rs)(h0':rs.td= .str)(h1:T dst=some r)(h2:r.td= .str)(hv:ρ x= .str s):
  YV P o ρ (.str s):=fun E a h=>by
 have hx:=h x sO;rw[hv]at hx;obtain⟨d,inf,z,hf⟩:=Zd (hT dst r h1);have hd:=VL (h2▸hf.fits);subst hd;obtain⟨d0,inf0,z0,hf0⟩:=Zd (hT src rs h0);have hd0:=VL (h0'▸hf0.fits);subst hd0;cases hy:a.eval x<;>rw[hy]at hx<;>cases hx;exact⟨.string ⟨s.toArray⟩,fun w=>by simp[execOp,ho,hy,convert,run_underlying hf.und,run_underlying hf0.und],.str _⟩
theorem Zkb{f:Fn}{cs:Array Operand}(ho:o.op= .makeFunc f #[] cs):YV P o ρ (.fn f (cs.toList.map ρ)):=fun E a h=>by
 refine⟨.func f #[] (cs.toList.map a.eval).toArray,fun w=>?_,?_⟩
 ·have:execOp a.eval o=(do let v←Instr.makeFunc f (#[].map a.eval) (cs.map a.eval);pure (Next.value v)):=by simp only[execOp,ho]
  rw[this];simp[Instr.makeFunc];rw[←Array.toList_map]
 ·refine .fn f (cs.toList.map ρ) (cs.toList.map a.eval) (by rw[Qv,Qv]) (fun i h1 h2=>?_);rw[QO,QO];have hm:cs.toList[i]'(by simpa using h1)∈o.op.operands:=by
   rw[ho];simp only[Op.operands];simp
  exact h _ hm
theorem ZiB{f:Fn}{fs:Array Operand}(ho:o.op= .makeFunc f fs #[]):YV P o ρ (.bfn f (fs.toList.map ρ)):=fun E a h=>by
 refine⟨.func f (fs.toList.map a.eval).toArray #[],fun w=>?_,?_⟩
 ·have:execOp a.eval o=(do let v←Instr.makeFunc f (fs.map a.eval) (#[].map a.eval);pure (Next.value v)):=by simp only[execOp,ho]
  rw[this];simp[Instr.makeFunc];rw[←Array.toList_map]
 ·refine .bfn f (fs.toList.map ρ) (fs.toList.map a.eval) (by rw[Qv,Qv]) (fun i h1 h2=>?_);rw[QO,QO];have hm:fs.toList[i]'(by simpa using h1)∈o.op.operands:=by
   rw[ho];simp only[Op.operands];simp
  exact h _ hm
end ops
end
def ZmQ(op:BinOp)(k:IntKind)(x y:Int):Option AV:=
 match op with
 | .add=>some (.int k (k.wrap (x+y)))
 | .sub=>some (.int k (k.wrap (x - y)))
 | .mul=>some (.int k (k.wrap (x*y)))
 | .eql=>some (.bool (x==y))
 | .neq=>some (.bool (x !=y))
 | .lss=>some (.bool (decide (x<y)))
 | .leq=>some (.bool (decide (x≤y)))
 | .gtr=>some (.bool (decide (x>y)))
 | .geq=>some (.bool (decide (x ≥ y)))
 |_=>none
def Zmb(op:BinOp)(x y:List UInt8):Option AV:=
 match op with
 | .eql=>some (.bool (x==y))
 | .neq=>some (.bool (!(x==y)))
 | .lss=>some (.bool (Op.bytesLess x y))
 | .leq=>some (.bool (Op.bytesLess x y||x==y))
 | .gtr=>some (.bool (!(Op.bytesLess x y||x==y)))
 | .geq=>some (.bool (!(Op.bytesLess x y)))
 |_=>none
section ops
variable {P:Program} {T:TT} {o:Oper} {ρ:Operand→AV}
def guardy:Value→Value→Bool
 | .nilIface,.nilIface=>true
 | .agg _,.agg _=>true
 |_,_=>false
theorem ZhY{op:BinOp}{t:TypeId}{x y:Operand}{a b:Value}(w:World)(h:guardy a b=false):
  (eqGuard op t x y a b).run P w= .ok () w:=by
 unfold eqGuard;cases op<;>simp only[]<;>first|rfl|(cases a<;>cases b<;>first|rfl|(cases h;done))
theorem Yr{op:BinOp}{t yt:TypeId}{x y:Operand}{a:Act}{u v r:Value}(ho:o.op= .binOp op t x y yt)(hx:a.eval x=u)(hy:a.eval y=v)
  (h:guardy u v=false) (hr:∀w,(binOp op t u v).run P w= .ok r w) (w:World):
  (execOp a.eval o).run P w= .ok (.value r) w:=by
 have he:execOp a.eval o=(do let v←(do eqGuard op t x y (a.eval x) (a.eval y);binOp op t (a.eval x) (a.eval y));pure (Next.value v)):=by simp only[execOp,ho]
 rw[he,hx,hy];simp only[Sem.run_bind,ZhY (P:=P) w h,Result.andThen_ok,hr w,Sem.run_pure]
theorem Zl8{op:BinOp}{t yt:TypeId}{x y:Operand}{k:IntKind}{m n:Int}{v:AV}(ho:o.op= .binOp op t x y yt)(hx:ρ x= .int k m)(hy:ρ y= .int k n)(hv:ZmQ op k m n=some v):YV P o ρ v:=fun E a h=>by
 have h1:=h x sO;have h2:=h y sO;rw[hx]at h1;rw[hy]at h2;cases ha:a.eval x<;>rw[ha]at h1<;>cases h1;cases hb:a.eval y<;>rw[hb]at h2<;>cases h2;cases op<;>simp only[ZmQ,Qq,reduceCtorEq]at hv<;>subst hv
 ·exact⟨.int k (k.wrap (m+n)),Yr ho ha hb rfl (fun w=>by simp[binOp,Op.intArith]),.int _ _⟩
 ·exact⟨.int k (k.wrap (m - n)),Yr ho ha hb rfl (fun w=>by simp[binOp,Op.intArith]),.int _ _⟩
 ·exact⟨.int k (k.wrap (m*n)),Yr ho ha hb rfl (fun w=>by simp[binOp,Op.intArith]),.int _ _⟩
 ·exact⟨.bool (m==n),Yr ho ha hb rfl (fun w=>by simp[binOp,Op.intCmp]),.bool _⟩
 ·exact⟨.bool (m !=n),Yr ho ha hb rfl (fun w=>by simp[binOp,Op.intCmp]),.bool _⟩
 ·exact⟨.bool (decide (m<n)),Yr ho ha hb rfl (fun w=>by simp[binOp,Op.intCmp]),.bool _⟩
 ·exact⟨.bool (decide (m≤n)),Yr ho ha hb rfl (fun w=>by simp[binOp,Op.intCmp]),.bool _⟩
 ·exact⟨.bool (decide (m>n)),Yr ho ha hb rfl (fun w=>by simp[binOp,Op.intCmp]),.bool _⟩
 ·exact⟨.bool (decide (m ≥ n)),Yr ho ha hb rfl (fun w=>by simp[binOp,Op.intCmp]),.bool _⟩
theorem Zsu{op:BinOp}{t yt:TypeId}{x y:Operand}{k:IntKind}{m n:Int}(ho:o.op= .binOp op t x y yt)(hx:ρ x= .int k m)(hy:ρ y= .int k n)(hop:op= .quo)(hn:n≠0):YV P o ρ (.int k (k.wrap (m.tdiv n))):=fun E a h=>by
 have h1:=h x sO;have h2:=h y sO;rw[hx]at h1;rw[hy]at h2;cases ha:a.eval x<;>rw[ha]at h1<;>cases h1;cases hb:a.eval y<;>rw[hb]at h2<;>cases h2;subst hop;exact⟨.int k (k.wrap (m.tdiv n)),Yr ho ha hb rfl (fun w=>by simp[binOp,Op.intDiv,hn]),.int _ _⟩
theorem ZrV{op:BinOp}{t yt:TypeId}{x y:Operand}{k:IntKind}{m n:Int}(ho:o.op= .binOp op t x y yt)(hx:ρ x= .int k m)(hy:ρ y= .int k n)(hop:op= .rem)(hn:n≠0):YV P o ρ (.int k (m.tmod n)):=fun E a h=>by
 have h1:=h x sO;have h2:=h y sO;rw[hx]at h1;rw[hy]at h2;cases ha:a.eval x<;>rw[ha]at h1<;>cases h1;cases hb:a.eval y<;>rw[hb]at h2<;>cases h2;subst hop;exact⟨.int k (m.tmod n),Yr ho ha hb rfl (fun w=>by simp[binOp,Op.intDiv,hn]),.int _ _⟩
theorem Zrz{op:BinOp}{t yt:TypeId}{x y:Operand}{k k':IntKind}{m n:Int}(ho:o.op= .binOp op t x y yt)(hx:ρ x= .int k m)(hy:ρ y= .int k' n)(hop:op= .shr)(hn:0≤n):YV P o ρ (.int k (m.fdiv (2^(min n.toNat k.bits)))):=fun E a h=>by
 have h1:=h x sO;have h2:=h y sO;rw[hx]at h1;rw[hy]at h2;cases ha:a.eval x<;>rw[ha]at h1<;>cases h1;cases hb:a.eval y<;>rw[hb]at h2<;>cases h2;subst hop;exact⟨.int k (m.fdiv (2^(min n.toNat k.bits))),Yr ho ha hb rfl (fun w=>by simp[binOp,Op.shift,Int.not_lt.2 hn]),.int _ _⟩
theorem Zk7{op:BinOp}{t yt:TypeId}{x y:Operand}{m n:List UInt8}{v:AV}(ho:o.op= .binOp op t x y yt)(hx:ρ x= .str m)(hy:ρ y= .str n)(hv:Zmb op m n=some v):YV P o ρ v:=fun E a h=>by
 have h1:=h x sO;have h2:=h y sO;rw[hx]at h1;rw[hy]at h2;cases ha:a.eval x<;>rw[ha]at h1<;>cases h1;cases hb:a.eval y<;>rw[hb]at h2<;>cases h2;cases op<;>simp only[Zmb,Qq,reduceCtorEq]at hv<;>subst hv
 ·exact⟨.bool (m==n),Yr ho ha hb rfl (fun w=>by simp only[binOp,Op.stringOp,ByteArray.toList_mk,Sem.run_pure]),.bool _⟩
 ·exact⟨.bool (!(m==n)),Yr ho ha hb rfl (fun w=>by simp only[binOp,Op.stringOp,ByteArray.toList_mk,Sem.run_pure]),.bool _⟩
 ·exact⟨.bool (Op.bytesLess m n),Yr ho ha hb rfl (fun w=>by simp only[binOp,Op.stringOp,ByteArray.toList_mk,Sem.run_pure]),.bool _⟩
 ·exact⟨.bool (Op.bytesLess m n||m==n),Yr ho ha hb rfl (fun w=>by simp only[binOp,Op.stringOp,ByteArray.toList_mk,Sem.run_pure]),.bool _⟩
 ·exact⟨.bool (!(Op.bytesLess m n||m==n)),Yr ho ha hb rfl (fun w=>by simp only[binOp,Op.stringOp,ByteArray.toList_mk,Sem.run_pure]),.bool _⟩
 ·exact⟨.bool (!(Op.bytesLess m n)),Yr ho ha hb rfl (fun w=>by simp only[binOp,Op.stringOp,ByteArray.toList_mk,Sem.run_pure]),.bool _⟩
theorem Zni{op:BinOp}{t yt:TypeId}{x y:Operand}{m n:List UInt8}(ho:o.op= .binOp op t x y yt)(hx:ρ x= .str m)(hy:ρ y= .str n)(hop:op= .add)(hl:m.length+n.length≤9223372036854775807):YV P o ρ (.str (m++n)):=fun E a h=>by
 have h1:=h x sO;have h2:=h y sO;rw[hx]at h1;rw[hy]at h2;cases ha:a.eval x<;>rw[ha]at h1<;>cases h1;cases hb:a.eval y<;>rw[hb]at h2<;>cases h2;subst hop;refine⟨.string ⟨(m++n).toArray⟩,Yr ho ha hb rfl (fun w=>?_),.str _⟩;have hs1:(⟨m.toArray⟩:ByteArray).size=m.length:=by show m.toArray.size=_;simp
 have hs2:(⟨n.toArray⟩:ByteArray).size=n.length:=by show n.toArray.size=_;simp
 have hmx:IntKind.i64.max=9223372036854775807:=by decide
 have hs:¬(((⟨m.toArray⟩:ByteArray).size+(⟨n.toArray⟩:ByteArray).size:Nat):Int)>IntKind.i64.max:=by rw[hs1,hs2,hmx];omega
 have happ:(⟨m.toArray⟩:ByteArray)++⟨n.toArray⟩=⟨(m++n).toArray⟩:=by
  apply ByteArray.ext;rw[ByteArray.data_append];simp
 simp only[binOp,Op.stringOp,if_neg hs,happ,Sem.run_pure]
theorem Zny{d:TypeDesc}(h:TD.bool.fits d=true):d= .bool:=by
 cases d<;>simp[TD.fits]at h;rfl
theorem Zik(d:Nat){t:TypeId}{m n:Bool}(hd:P.underlying t=some .bool)(w:World):(Op.equalIn (d+1) t (.bool m) (.bool n)).run P w= .ok (m==n) w:=by
 simp[Op.equalIn,run_underlying hd]
theorem Zkh{op:BinOp}{t yt:TypeId}{x y:Operand}{r:Zv}{m n:Bool}(hT:TOK P T)(ho:o.op= .binOp op t x y yt)(h1:T t=some r)(h2:r.td= .bool)(hx:ρ x= .bool m)(hy:ρ y= .bool n)
  (hop:op= .eql∨op= .neq):YV P o ρ (.bool (if op= .eql then m==n else !(m==n))):=fun E a h=>by
 have k1:=h x sO;have k2:=h y sO;obtain⟨d,inf,z,hf⟩:=Zd (hT t r h1);have hd:=Zny (h2▸hf.fits);subst hd;rw[hx]at k1;rw[hy]at k2;cases ha:a.eval x<;>rw[ha]at k1<;>cases k1;cases hb:a.eval y<;>rw[hb]at k2<;>cases k2;have he:∀w,(Op.equal t (.bool m) (.bool n)).run P w= .ok (m==n) w:=fun w=>Zik 9999 hf.und w
 rcases hop with rfl|rfl
 ·exact⟨.bool (m==n),Yr ho ha hb rfl (fun w=>by simp[binOp,he w]),.bool _⟩
 ·exact⟨.bool (!(m==n)),Yr ho ha hb rfl (fun w=>by simp[binOp,he w]),.bool _⟩
inductive NilK:TD→AV→AV→Bool→Prop
 |pp:NilK .ptr .nilp .nilp true
 |pq (l k o:Nat):NilK .ptr (.ptr l k o) .nilp false
 |pi (cs:List AV):NilK .ptr (.iptr cs) .nilp false
 |ff:NilK .func .nilf .nilf true
 |fg (f:Fn) (c:List AV):NilK .func (.fn f c) .nilf false
 |mm (k e:Nat):NilK (.map k e) .nilm .nilm true
 |mn (k e l i:Nat):NilK (.map k e) (.map l i) .nilm false
 |ss (e:Nat):NilK (.slice e) .Xg .Xg true
 |sx (e k:Nat):NilK (.slice e) (.sln k) .Xg false
 |sn (e k:Nat) (x:AV) (xs:List AV) (o:Own):NilK (.slice e) (.sl k (x::xs) o) .Xg false
 |sm (e sz l k n:Nat):NilK (.slice e) (.msl sz l k (n+1)) .Xg false
theorem ZjK(n:Nat){t:TypeId}{d:TypeDesc}{td:TD}{E:Env}{u v:AV}{b:Bool}{p q:Value}(hd:P.underlying t=some d)(hfit:td.fits d=true)(k1:VR E u p)(k2:VR E v q)
  (hk:NilK td u v b) (w:World):(Op.equalIn (n+1) t p q).run P w= .ok b w:=by
 cases hk<;>cases k1<;>cases k2<;>cases d<;>(try(cases hfit;done))<;>simp[Op.equalIn,run_underlying hd]
theorem JK{t:TypeId}{d:TypeDesc}{td:TD}{E:Env}{u v:AV}{b:Bool}{p q:Value}{op:BinOp}(hd:P.underlying t=some d)(hfit:td.fits d=true)(k1:VR E u p)(k2:VR E v q)
  (hk:NilK td u v b) (hop:op= .eql∨op= .neq):(∀w,(binOp op t p q).run P w= .ok (.bool (if op= .eql then b else !b)) w)∧guardy p q=false:=by
 have he:∀w,(Op.equal t p q).run P w= .ok b w:=fun w=>ZjK 9999 hd hfit k1 k2 hk w
 cases hk<;>cases k1<;>cases k2<;>refine⟨fun w=>?_,rfl⟩<;>rcases hop with rfl|rfl<;>first|(simp[binOp,he w];done)|(have h:=he w;simp only[Qo]at h;simp[binOp,h])
theorem Zoe{op:BinOp}{t yt:TypeId}{x y:Operand}{r:Zv}{u v:AV}{b:Bool}(hT:TOK P T)(ho:o.op= .binOp op t x y yt)(h1:T t=some r)(hx:ρ x=u)(hy:ρ y=v)
  (hk:NilK r.td u v b) (hop:op= .eql∨op= .neq):YV P o ρ (.bool (if op= .eql then b else !b)):=fun E a h=>by
 have k1:=h x sO;have k2:=h y sO;obtain⟨d,inf,z,hf⟩:=Zd (hT t r h1);rw[hx]at k1;rw[hy]at k2;obtain⟨h3,h4⟩:=JK (P:=P) hf.und hf.fits k1 k2 hk hop;exact⟨_,Yr ho rfl rfl h4 h3,.bool _⟩
end ops
def flat(xs:List AV):List AV:=xs.flatMap AV.cells
theorem flat_nil:flat []=[]:=rfl
theorem Yt(x:AV)(xs:List AV):flat (x::xs)=x.cells++flat xs:=by simp[flat]
theorem YU(xs ys:List AV):flat (xs++ys)=flat xs++flat ys:=by simp[flat]
theorem flat_length{k:Nat}:∀{xs:List AV},(∀x∈xs,x.cells.length=k)→(flat xs).length=xs.length*k
 |[],_=>by simp[flat]
 |x::xs,h=>by
  rw[Yt,Qh,flat_length (fun y hy=>h y (Qx _ hy)),h x sm,Qo,GZ,Nat.add_comm]
theorem flat_get{k:Nat}:∀{xs:List AV},(∀x∈xs,x.cells.length=k)→ ∀i (h:i<xs.length) j,j<k→(flat xs)[i*k+j]? =xs[i].cells[j]?
 |x::xs,h,0,hi,j,hj=>by
  rw[Yt,Gq,QF,UL (by rw[h x sm];exact hj)];rfl
 |x::xs,h,i+1,hi,j,hj=>by
  have hx:=h x sm;rw[Yt,MV (by rw[hx,GZ];omega),hx];rw[show(i+1)*k+j - k=i*k+j by rw[GZ];omega];exact flat_get (fun y hy=>h y (Qx _ hy)) i (by simpa using hi) j hj
section
variable {xs:List AV}
theorem VR.Vd{E:Env}{k:Nat}{o:Own}{v:Value}(h:VR E (.sl k xs o) v):
  ((∃a,v= .slice a 0 0∧(o≠ .any→a=none))∧xs=[]∧Zaj E 0 v 0 o)∨
  ∃b off cap cs,v= .slice (some ⟨b,off,none⟩) xs.length cap∧(∀x∈xs,x.cells.length=k)∧VRs E (flat xs) cs∧(∀j u,cs[j]? =some u→E.F b (off+j)=some u)∧
   xs.length≤cap∧xs.length≤maxLen∧Zaj E xs.length v cap o:=by
 cases h with
 |slnil _ _ a ho ha=>exact .inl ⟨⟨a,rfl,ha⟩,rfl,ho⟩
 |sl _ _ _ b off cap c hk hc hv hcap hm ho=>
  have hk':∀x∈xs,x.cells.length=k:=fun x hx=>by
   obtain⟨i,hi,rfl⟩:=QJ hx;exact hk i hi
  have hlen:=flat_length hk';refine .inr ⟨b,off,cap,(List.range (xs.length*k)).map (fun q=>c (q / k) (q % k)),rfl,hk',⟨by simp[hlen],fun q h1 h2=>?_⟩,fun q u hq=>?_,hcap,hm,ho⟩
  ·rw[hlen]at h1;have hk0:0<k:=by
    rcases UY k with h0|h0
    ·subst h0;simp at h1
    ·exact h0
   have hi:q / k<xs.length:=GL (by rwa [Gs]at h1);have hj:q % k<k:=QaN _ hk0;have hq:q / k*k+q % k=q:=by rw[Gs];exact Qbe q k
   have hg:=flat_get hk' (q / k) hi (q % k) hj;rw[hq]at hg;have hjl:q % k<xs[q / k].cells.length:=by rw[hk (q / k) hi];exact hj
   rw[Qd hjl,Qd (by rw[hlen];exact h1),Qq]at hg;rw[hg];simpa using hv (q / k) hi (q % k) hjl
  ·rw[QZ]at hq;cases hr:(List.range (xs.length*k))[q]? with
   |none=>simp[hr]at hq
   |some q'=>
    rw[hr]at hq;obtain⟨hlt,hqq⟩:=Q8.1 hr;simp only[MK]at hqq;subst hqq;simp only[MS]at hlt;simp only[Us,Qq]at hq;subst hq;have hk0:0<k:=by
     rcases UY k with h0|h0
     ·subst h0;simp at hlt
     ·exact h0
    have hi:q / k<xs.length:=GL (by rwa [Gs]at hlt);have hq2:q / k*k+q % k=q:=by rw[Gs];exact Qbe q k
    have:=hc (q / k) (q % k) hi (QaN _ hk0)
    rwa [hq2]at this
theorem VR.WW{E:Env}{k:Nat}{o:Own}{b off cap:Nat}{cs:List Value}(hk:∀x∈xs,x.cells.length=k)(hv:VRs E (flat xs) cs)
  (hF:∀j u,cs[j]? =some u→E.F b (off+j)=some u) (hcap:xs.length≤cap) (hm:xs.length≤maxLen) (ho:Zaj E xs.length (.slice (some ⟨b,off,none⟩) xs.length cap) cap o):
  VR E (.sl k xs o) (.slice (some ⟨b,off,none⟩) xs.length cap):=by
 have hlen:=flat_length hk;have key:∀i j (hi:i<xs.length),j<k→i*k+j<xs.length*k:=fun i j hi hj=>by
  have:(i+1)*k≤xs.length*k:=QD k hi;rw[GZ]at this;omega
 refine .sl k xs o b off cap (fun i j=>cs.getD (i*k+j) undef) (fun i hi=>hk _ (Qa hi)) (fun i j hi hj=>?_) (fun i hi j hj=>?_) hcap hm ho
 ·have hlt:=key i j hi hj;have:cs[i*k+j]? =some (cs.getD (i*k+j) undef):=by
   rw[Qp,Qd (by rw[hv.1,hlen];exact hlt)];rfl
  exact hF _ _ this
 ·rw[hk _ (Qa hi)]at hj;have hlt:=key i j hi hj;have h1:i*k+j<(flat xs).length:=by rw[hlen];exact hlt
  have h2:i*k+j<cs.length:=by rw[hv.1];exact h1
  have hg:=flat_get hk i hi j hj;rw[Qd h1,Qd (by rw[hk _ (Qa hi)];exact hj),Qq]at hg;have:=hv.2 _ h1 h2;rw[hg]at this;simpa[Qp,Qd h2]using this
theorem VRs.take{E:Env}{az:List AV}{vs:List Value}(h:VRs E az vs)(n:Nat):VRs E (az.take n) (vs.take n):=
 ⟨by simp[h.1],fun i h1 h2=>by simp only[Gj];exact h.2 i _ _⟩
theorem VRs.drop{E:Env}{az:List AV}{vs:List Value}(h:VRs E az vs)(n:Nat):VRs E (az.drop n) (vs.drop n):=
 ⟨by simp[h.1],fun i h1 h2=>by simp only[Qaa];exact h.2 (n+i) _ _⟩
theorem Zez{k:Nat}:∀{xs:List AV},(∀x∈xs,x.cells.length=k)→ ∀n,flat (xs.take n)=(flat xs).take (n*k)
 |[],_,n=>by simp[flat]
 |x::xs,h,0=>by simp[flat]
 |x::xs,h,n+1=>by
  have hx:=h x sm;rw[Qam,Yt,Yt,Zez (fun y hy=>h y (Qx _ hy)) n,Qag,hx,GZ,Q5 (l:=x.cells) om,show n*k+k - k=n*k by omega]
theorem Zca{k:Nat}:∀{xs:List AV},(∀x∈xs,x.cells.length=k)→ ∀n,flat (xs.drop n)=(flat xs).drop (n*k)
 |[],_,n=>by simp[flat]
 |x::xs,h,0=>by simp
 |x::xs,h,n+1=>by
  have hx:=h x sm;rw[List.drop_succ_cons,Yt,Zca (fun y hy=>h y (Qx _ hy)) n,Qa7,hx,GZ,Ux (l:=x.cells) om,QY,show n*k+k - k=n*k by omega]
def bnd(ρ:Operand→AV):Option Operand→Int→Option Int
 |none,d=>some d
 |some x,_=>match ρ x with
  | .int _ i=>some i
  |_=>none
section ops
variable {P:Program} {T:TT} {o:Oper} {ρ:Operand→AV}
theorem Zeh{E:Env}{a:Act}{x:Operand}{i:Int}{y:Nat}{c:BoundsCode}(h:VR E (ρ x) (a.eval x))(hi:(match ρ x with| .int _ i=>some i|_=>none)=some i)(h0:0≤i)(h1:i≤y)(w:World):
  (Instr.sliceBound (a.eval x) y c).run P w= .ok i.toNat w:=by
 generalize ρ x=v at*;generalize a.eval x=y' at*;cases h<;>simp only[reduceCtorEq,Qq]at hi;subst hi;simp[Instr.sliceBound,asIntOf,h0,h1]
theorem WG{E:Env}{a:Act}{lo hi:Option Operand}{l h:Int}{len cap:Nat}{s:Bool}(hv:∀x,lo=some x∨hi=some x→VR E (ρ x) (a.eval x))(hl:bnd ρ lo 0=some l)(hh:bnd ρ hi len=some h)
  (h0:0≤l) (h1:l≤h) (h2:h≤cap) (w:World):(Instr.sliceBounds s len cap (lo.map a.eval) (hi.map a.eval) none).run P w= .ok (l.toNat,h.toNat,cap) w:=by
 cases hi with
 |none=>
  simp only[bnd,Qq]at hh;subst hh;cases lo with
  |none=>
   simp only[bnd,Qq]at hl;subst hl;simp[Instr.sliceBounds]
  |some x=>
   have:=Zeh (P:=P) (c:=.sliceB) (y:=len) (hv x (.inl rfl)) hl h0 h1 w;simp[Instr.sliceBounds,this]
 |some y=>
  have hy:=Zeh (P:=P) (c:=if s then .sliceAcap else .sliceAlen) (y:=cap) (hv y (.inr rfl)) hh om h2 w;cases lo with
  |none=>
   simp only[bnd,Qq]at hl;subst hl;cases s<;>simp[Instr.sliceBounds]at hy⊢ <;>simp[hy]
  |some x=>
   have:=Zeh (P:=P) (c:=.sliceB) (y:=h.toNat) (hv x (.inl rfl)) hl h0 om w;cases s<;>simp[Instr.sliceBounds]at hy⊢ <;>simp[hy,this]
theorem Ziq{t:TypeId}{x:Operand}{lo hi:Option Operand}{r:Zv}{s:List UInt8}{l h:Int}(hT:TOK P T)(ho:o.op= .slice t x lo hi none)(h1:T t=some r)(h2:r.td= .str)(hv:ρ x= .str s)
  (hl:bnd ρ lo 0=some l) (hh:bnd ρ hi s.length=some h) (h3:0≤l) (h4:l≤h) (h5:h≤s.length):YV P o ρ (.str ((s.take h.toNat).drop l.toNat)):=fun E a hops=>by
 have hx:=hops x sO;have hb:∀y,lo=some y∨hi=some y→VR E (ρ y) (a.eval y):=fun y hy=>hops y (by rcases hy with rfl|rfl<;>simp[ho,Op.operands])
 rw[hv]at hx;obtain⟨d,inf,z,hf⟩:=Zd (hT t r h1);have hd:=VL (h2▸hf.fits);subst hd;generalize hy:a.eval x=y at hx;cases hx with|str _=>
 have hsz:(⟨s.toArray⟩:ByteArray).size=s.length:=by show s.toArray.size=s.length;simp
 refine⟨.string ⟨((s.take h.toNat).drop l.toNat).toArray⟩,fun w=>?_,.str _⟩;have hrun:=WG (P:=P) (s:=false) hb hl hh h3 h4 h5 w;have he:execOp a.eval o=(do let v←Instr.sliceAt t (a.eval x) (lo.map a.eval) (hi.map a.eval) none;pure (Next.value v)):=by simp only[execOp,ho];rfl
 rw[he,hy];have hex:(⟨s.toArray⟩:ByteArray).extract l.toNat h.toNat=⟨((s.take h.toNat).drop l.toNat).toArray⟩:=by
  apply ByteArray.ext;rw[ByteArray.data_extract];simp[QaX,QaT]
 simp[Instr.sliceAt,Instr.slice,run_underlying hf.und,hsz,hrun,hex]
theorem ZjN{t:TypeId}{x:Operand}{lo hi:Option Operand}{r re:Zv}{e:TypeId}{k:Nat}{xs:List AV}{ow:Own}{l h:Int}(hT:TOK P T)(ho:o.op= .slice t x lo hi none)(h1:T t=some r)(h2:r.td= .slice e)
  (h2':T e=some re) (hk:k=re.size) (hv:ρ x= .sl k xs ow)
  (hl:bnd ρ lo 0=some l) (hh:bnd ρ hi xs.length=some h) (h3:0≤l) (h4:l≤h) (h5:h≤xs.length):YV P o ρ (.sl k ((xs.take h.toNat).drop l.toNat) .any):=fun E a hops=>by
 have hx:=hops x sO;have hb:∀y,lo=some y∨hi=some y→VR E (ρ y) (a.eval y):=fun y hy=>hops y (by rcases hy with rfl|rfl<;>simp[ho,Op.operands])
 rw[hv]at hx;obtain⟨d,inf,z,hf⟩:=Zd (hT t r h1);obtain⟨d',i',z',hf'⟩:=Zd (hT e re h2');have hd:=ZH (h2▸hf.fits);subst hd;have he:execOp a.eval o=(do let v←Instr.sliceAt t (a.eval x) (lo.map a.eval) (hi.map a.eval) none;pure (Next.value v)):=by simp only[execOp,ho];rfl
 have hlen:((xs.take h.toNat).drop l.toNat).length=h.toNat - l.toNat:=by simp;omega
 rcases hx.Vd with⟨⟨ad,hy,_⟩,rfl,_⟩|⟨b,off,cap,cs,hy,hkk,hvs,hF,hcap,hm,_⟩
 ·have hl0:l=0:=by simp at h5;omega
  have hh0:h=0:=by simp at h5;omega
  subst hl0 hh0;have hrun:=fun w=>WG (P:=P) (s:=true) (cap:=0) hb hl hh h3 h4 sm w
  refine⟨.slice ad 0 0,fun w=>?_,.slnil _ _ _ trivial (fun h=>absurd rfl h)⟩;have hrun:=hrun w;rw[he,hy];simp at hrun;cases ad<;>simp[Instr.sliceAt,Instr.slice,run_underlying hf.und,hrun,ZF hf']
 ·have hrun:=fun w=>WG (P:=P) (s:=true) (cap:=cap) hb hl hh h3 h4 om w
  have hsub:∀y∈(xs.take h.toNat).drop l.toNat,y.cells.length=k:=fun y hy=>hkk y (UM (U8 hy))
  have hflat:flat ((xs.take h.toNat).drop l.toNat)=((flat xs).take (h.toNat*k)).drop (l.toNat*k):=by
   rw[Zca (fun y hy=>hkk y (UM hy)),Zez hkk]
  by_cases hml:cap=l.toNat
  ·refine⟨.slice (some ⟨b,off,none⟩) (h.toNat - l.toNat) (cap - l.toNat),fun w=>?_,?_⟩
   ·have hr:=hrun w;rw[he,hy];simp only[Instr.sliceAt,Instr.slice,run_underlying hf.und,Sem.run_bind,Result.andThen_ok,hr,ZF hf',if_pos hml,Sem.run_pure]
   ·have h0:h.toNat - l.toNat=0:=by omega
    have hnil:(xs.take h.toNat).drop l.toNat=[]:=Uc om;rw[hnil,h0];exact VR.WW (cs:=[]) sm (VRs.nil E) sm sm sm trivial
  ·refine⟨.slice (some ⟨b,off+l.toNat*k,none⟩) (h.toNat - l.toNat) (cap - l.toNat),fun w=>?_,?_⟩
   ·have hr:=hrun w;rw[he,hy];simp only[Instr.sliceAt,Instr.slice,run_underlying hf.und,Sem.run_bind,Result.andThen_ok,hr,ZF hf',if_neg hml,Sem.run_pure,Us,ZI,hk]
   ·have:=VR.WW (E:=E) (k:=k) (xs:=(xs.take h.toNat).drop l.toNat) (o:=.any) (b:=b) (off:=off+l.toNat*k) (cap:=cap - l.toNat) (cs:=(cs.take (h.toNat*k)).drop (l.toNat*k)) hsub
     (by rw[hflat];exact(hvs.take _).drop _) ?_ om om trivial
    ·rwa [hlen]at this
    ·intro j u hj;rw[UC]at hj;have hj2:cs[l.toNat*k+j]? =some u:=by
      rcases Qg (l.toNat*k+j) (h.toNat*k)with hlt|hge
      ·rwa [QV hlt]at hj
      ·rw[UG,if_neg om]at hj;cases hj
     have:=hF _ _ hj2
     rwa [←MQ]at this
end ops
end
end Go.Abs
