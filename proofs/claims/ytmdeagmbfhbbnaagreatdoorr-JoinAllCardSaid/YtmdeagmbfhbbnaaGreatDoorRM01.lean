/- Abstract values, the ghost environment, and the relation of abstract values to the model's values. No program, no condition. -/
import Derived.WalkKit
import Derived.RangeFuncLeaves
import Derived.RangeFuncRecord
import Derived.OrdersIn
import Derived.TacticsIn
import Derived.Orders
set_option linter.all false
set_option maxRecDepth 100000
theorem sS{p:Prop}(h:p:=by simp only[go_sem,simprocAttr]):p:=h
theorem ck{α:Type _}{a b:α}(h:a=b:=by kernel_rfl):some a=some b:=congrArg some h
theorem sF{p:Prop}(h:p:=by simp only[go_sem,simprocAttr,full]):p:=h
theorem sO{p:Prop}(h:p:=by simp[ho,Go.Op.operands]):p:=h
theorem sC{p:Prop}(h:p:=by simp[ho,Go.Op.operands,Go.Call.operands]):p:=h
abbrev Qa:=@List.getElem_mem
abbrev Qb:=@List.getElem?_eq_getElem
abbrev Qd:=@Bool.and_eq_true
abbrev Qe:=@Nat.lt_or_ge
abbrev Qg:=@Nat.le_refl
abbrev Qh:=@List.length_append
abbrev Qi:=@List.mem_map
abbrev Qj:=@List.take_succ_eq_append_getElem
abbrev Qk:=@List.mem_append
abbrev Ql:=@List.mem_cons
abbrev Qm:=@List.mem_singleton
abbrev Qn:=@List.getD_eq_getElem?_getD
abbrev Qo:=@Nat.not_lt_zero
abbrev Qp:=@Option.some.injEq
abbrev Qq:=@List.length_cons
abbrev Qr:=@Nat.lt_succ_self
abbrev Qs:=@List.append_nil
abbrev Qu:=@List.drop_eq_getElem_cons
abbrev Qv:=@List.map_cons
abbrev Qw:=@List.length_map
abbrev Qx:=@List.mem_flatMap
abbrev Qy:=@List.all_eq_true
abbrev Qz:=@List.mem_cons_of_mem
abbrev QA:=@List.not_mem_nil
abbrev QB:=@List.length_nil
abbrev QC:=@List.map_append
abbrev QD:=@Nat.not_lt
abbrev QE:=@Array.getD_eq_getD_getElem?
abbrev QF:=@Nat.mul_le_mul_right
abbrev QG:=@List.mem_append_left
abbrev QI:=@List.take_length
abbrev QJ:=@List.getElem_of_mem
abbrev QK:=@Nat.zero_add
abbrev QL:=@List.sizeOf_lt_of_mem
abbrev QM:=@List.length_take
abbrev QN:=@List.getElem_map
abbrev QO:=@Nat.succ_pos
abbrev QS:=@List.mem_append_right
abbrev QT:=@List.drop_eq_nil_of_le
abbrev QU:=@List.length_drop
abbrev QV:=@List.flatMap_cons
abbrev QW:=@Bool.false_eq_true
abbrev QX:=@Array.getElem?_eq_some_iff
abbrev QY:=@Nat.lt_irrefl
abbrev QZ:=@List.getElem?_take_of_lt
abbrev Q5:=@List.nil_append
abbrev Q7:=@List.take_append_drop
abbrev Q8:=@List.cons_append
abbrev Q9:=@List.take_of_length_le
abbrev Ua:=@List.getElem?_map
abbrev Ub:=@List.getElem?_eq_some_iff
abbrev Uc:=@List.append_assoc
abbrev Ud:=@Bool.true_and
abbrev Ue:=@Nat.le_trans
abbrev Uf:=@List.cons.injEq
abbrev Ug:=@List.eq_nil_of_length_eq_zero
abbrev Uh:=@List.getElem_cons_zero
abbrev Ui:=@Nat.add_mul
abbrev Uj:=@Array.length_toList
abbrev Uk:=@List.mem_replicate
abbrev Ul:=@Nat.le_succ
abbrev Um:=@Option.getD_some
abbrev Un:=@Nat.lt_of_lt_of_le
abbrev Uo:=@List.length_take_of_le
abbrev Ur:=@Option.map_eq_some_iff
abbrev Us:=@Option.map_some
abbrev Ut:=@List.flatMap_append
abbrev Uu:=@List.getElem?_eq_none
abbrev Uw:=@Nat.zero_le
abbrev Ux:=@List.map_nil
abbrev Uy:=@List.mem_filter
abbrev Uz:=@List.foldl_cons
abbrev UA:=@Bool.false_and
abbrev UC:=@List.mem_of_mem_take
abbrev UD:=@Bool.or_false
abbrev UE:=@List.getElem?_append_left
abbrev UF:=@Nat.add_zero
abbrev UG:=@Array.getElem?_eq_getElem
abbrev UH:=@List.length_filter_le
abbrev UJ:=@Option.bind_some
abbrev UK:=@List.drop_of_length_le
abbrev UL:=@List.contains_cons
abbrev UM:=@List.getElem?_drop
abbrev UN:=@List.pairwise_cons
abbrev UO:=@List.set_cons_zero
abbrev UQ:=@Array.getElem?_setIfInBounds_ne
abbrev UR:=@Bool.true_or
abbrev UU:=@List.getElem_cons_succ
abbrev UW:=@List.any_eq_true
abbrev UY:=@List.getElem?_take
abbrev UZ:=@List.drop_drop
abbrev U0:=@Array.getElem?_toList
abbrev U1:=@Option.bind_eq_some_iff
abbrev U2:=@List.getElem?_cons_succ
abbrev U3:=@Bool.eq_iff_iff
abbrev U4:=@List.set_cons_succ
abbrev U5:=@Bool.false_or
abbrev U6:=@Bool.not_true
abbrev U7:=@Option.some.inj
abbrev U8:=@Bool.not_false
abbrev U9:=@List.mem_range
abbrev Mc:=@Array.eq_empty_of_size_eq_zero
abbrev Md:=@List.foldl_append
abbrev Me:=@List.pairwise_iff_getElem
abbrev MB:=@Bool.or_self
abbrev MF:=@List.getD_cons_zero
abbrev MG:=@List.toList_toArray
abbrev MH:=@List.map_congr_left
abbrev MI:=@Array.getElem?_push
abbrev MJ:=@Bool.not_eq_true'
abbrev MK:=@List.size_toArray
abbrev ML:=@Array.getElem_toList
abbrev MN:=@List.mem_of_mem_drop
abbrev MO:=@List.length_set
abbrev MP:=@Nat.le_of_lt
abbrev MQ:=@List.foldlM_cons
abbrev MR:=@List.take_succ_cons
abbrev MS:=@List.take_append_of_le_length
abbrev MV:=@List.getElem_append_left
abbrev MW:=@Nat.sub_zero
abbrev MX:=@Nat.mul_comm
abbrev MZ:=@List.getElem_range
abbrev Gf:=@Nat.eq_zero_or_pos
abbrev Gg:=@Array.toList_map
abbrev Gh:=@List.ext_getElem
abbrev Gj:=@Nat.div_lt_of_lt_mul
abbrev Gl:=@Bool.not_eq_true
abbrev Gm:=@List.length_eq_zero_iff
abbrev Gn:=@Nat.add_assoc
abbrev Gp:=@List.length_range
abbrev Gq:=@Bool.and_false
abbrev Gs:=@Array.getElem?_append_left
abbrev Gt:=@Nat.lt_succ_of_lt
abbrev Gu:=@List.getElem?_append_right
abbrev Gv:=@List.take_left'
abbrev Gw:=@Array.getElem?_modify
abbrev Gx:=@Nat.le_add_right
abbrev Gy:=@List.getElem_set
abbrev Gz:=@Bool.or_true
abbrev GH:=@List.mem_of_getElem?
abbrev GI:=@List.getElem?_cons_zero
abbrev GK:=@List.nodup_append
abbrev GL:=@List.getElem_take
abbrev GN:=@List.nodup_cons
abbrev GR:=@Bool.or_eq_true
abbrev GU:=@Array.toList_append
abbrev GV:=@Nat.zero_mul
abbrev GX:=@List.take_left
abbrev GY:=@Bool.false_ne_true
abbrev GZ:=@List.length_singleton
abbrev G5:=@List.length_replicate
abbrev G6:=@Int.le_refl
abbrev G7:=@List.pairwise_map
abbrev G8:=@Array.size_append
abbrev G9:=@List.length_pos_iff
abbrev Qaa:=@List.filterMap_cons
abbrev Qab:=@List.drop_zero
abbrev Qac:=@List.nodup_range
abbrev Qad:=@List.drop_length
abbrev Qae:=@List.nodup_nil
abbrev Qaf:=@Nat.succ_mul
abbrev Qag:=@Option.isSome_some
abbrev Qah:=@Option.isSome_none
abbrev Qai:=@Array.getElem?_eq_none
abbrev Qaj:=@Nat.mod_lt
abbrev Qak:=@Nat.ne_of_lt
abbrev Qal:=@Int.natCast_mul
abbrev Qam:=@List.mem_zipIdx_iff_getElem?
abbrev Qan:=@List.any_cons
abbrev Qao:=@Bool.and_true
abbrev Qap:=@Classical.choose_spec
abbrev Qaq:=@List.getElem_drop
abbrev Qar:=@List.any_eq_false
abbrev Qas:=@Nat.mul_one
abbrev Qat:=@List.take_append
abbrev Qau:=@Array.toList_inj
abbrev Qav:=@Nat.mod_eq_of_lt
abbrev Qaw:=@Array.mapM_eq_mapM_toList
abbrev Qax:=@List.mem_or_eq_of_mem_set
abbrev Qaz:=@Nat.mul_le_mul_left
abbrev QaA:=@List.Pairwise.imp_of_mem
abbrev QaB:=@Nat.div_add_mod
abbrev QaC:=@List.drop_left'
abbrev QaD:=@Array.ext'
abbrev QaE:=@List.filter_append
abbrev QaF:=@List.mem_filterMap
abbrev QaG:=@List.mem_cons_self
abbrev QaH:=@List.foldlM_append
abbrev QaJ:=@List.take_take
abbrev QaK:=@Nat.lt_trans
abbrev QaL:=@Nat.pow_succ
abbrev QaM:=@Int.lt_or_le
abbrev QaN:=@List.take_zero
abbrev QaO:=@List.mem_toArray
abbrev QaP:=@List.countP_cons
abbrev QaQ:=@List.sum_cons
abbrev QaS:=@Prod.mk.injEq
abbrev QaT:=@Bool.and_self
abbrev QaU:=@List.getElem?_set_ne
abbrev QaV:=@Bool.and_eq_true_iff
abbrev QaW:=@Bool.or_eq_false_iff
abbrev QaX:=@Nat.one_mul
abbrev QaY:=@Array.getElem_modify
abbrev QaZ:=@Array.getElem_mapIdx
abbrev Qa0:=@Nat.min_eq_left
abbrev Qa1:=@List.beq_nil_eq
abbrev Qa2:=@List.getD_cons_succ
abbrev Qa3:=@List.map_id'
abbrev Qa4:=@List.append_cancel_right_eq
abbrev Qa5:=@And.intro
abbrev Qa6:=@Array.toList_setIfInBounds
abbrev Qa7:=@List.perm_ext_iff_of_nodup
abbrev Qa8:=@List.getElem_concat_length
abbrev Qa9:=@List.drop_take
abbrev Qba:=@Nat.mod_eq_sub_mod
abbrev Qbb:=@List.drop_left
abbrev Qbc:=@Prod.ext
abbrev Qbd:=@Nat.mul_le_mul
abbrev Qbe:=@Nat.lt_or_eq_of_le
abbrev Qbf:=@List.getElem_append_right
abbrev Qbg:=@List.exists_mem_of_ne_nil
abbrev Qbh:=@List.extract_eq_take_drop
abbrev Qbi:=@Array.filter_eq_empty_iff
abbrev Qbj:=@Classical.byContradiction
abbrev Qbk:=@Nat.lt_trichotomy
abbrev Qbl:=@Nat.le_succ_of_le
abbrev Qbm:=@List.ext_getElem?
abbrev Qbn:=@List.length_filterMap_le
abbrev Qbo:=@Option.isSome_iff_exists
abbrev Qbp:=@List.all_cons
abbrev Qbq:=@Nat.le_mul_of_pos_right
abbrev Qbr:=@Option.bind_none
abbrev Qbs:=@List.filter_cons
abbrev Qbt:=@List.drop_append
abbrev Qbu:=@Nat.div_eq_of_lt
abbrev Qbv:=@Option.getD_none
abbrev Qbw:=@List.filter_eq_nil_iff
abbrev Qbx:=@List.not_of_lt_findIdx
abbrev Qby:=@Nat.div_div_eq_div_mul
abbrev Qbz:=@Bool.not_not
abbrev QbA:=@Option.map_none
abbrev QbB:=@Nat.div_le_self
abbrev QbC:=@Array.getElem_push_lt
abbrev QbD:=@Array.getElem?_append
abbrev QbE:=@List.set_getElem_self
abbrev QbF:=@Option.or_eq_none_iff
abbrev QbG:=@List.countP_le_length
abbrev QbH:=@Array.getElem_push_eq
abbrev QbI:=@List.map_id
abbrev QbJ:=@List.mapM_cons
abbrev QbK:=@List.foldl_nil
abbrev QbL:=@Nat.not_le
abbrev QbM:=@Nat.ne_of_gt
abbrev QbN:=@List.map_map
def om{p:Prop}(h:p:=by omega):p:=h
def sm{p:Prop}(h:p:=by simp):p:=h
def dc{p:Prop}(h:p:=by decide):p:=h
namespace Go.Abs
inductive Own where
 |any
 |full
 |buf (l k:Nat)
inductive AV where
 |int (k:IntKind) (n:Int)
 |bool (b:Bool)
 |str (s:List UInt8)
 |nilp
 |ptr (l k off:Nat)
 |iptr (cs:List AV)
 |sl (k:Nat) (xs:List AV) (o:Own)
 |nilf
 |fn (f:Fn) (caps:List AV)
 |bfn (f:Fn) (caps:List AV)
 |nilm
 |map (l k:Nat)
 |msl (sz l k n:Nat)
 |eptr (l k n off:Nat)
 |ssl (k:Nat) (xs ys:List AV)
 |nili
 |ifc (t:TypeId) (v:AV)
 |Xl
 |sln (k:Nat)
 |sub (sz l k n off m:Nat)
 |agg (cs:List AV)
 |tup (vs:List AV)
 |dead
def AV.cells:AV→List AV
 | .agg cs=>cs
 |v=>[v]
def AV.one:AV→Bool
 | .agg _| .tup _| .dead=>false
 |_=>true
structure Env where
 F:Nat→Nat→Option Value
 m:Nat→Nat→Option Nat
 hist:Nat→Nat→Nat→Option Value
 g:Nat→Nat→Option Nat
 qd:Bool
def Zax(E:Env)(n:Nat)(v:Value)(cap:Nat):Own→Prop
 | .any=>True
 | .full=>cap=n
 | .buf l k=>E.hist l k n=some v
inductive VR (E:Env):AV→Value→Prop
 |int (k:IntKind) (n:Int):VR E (.int k n) (.int k n)
 |bool (b:Bool):VR E (.bool b) (.bool b)
 |str (l:List UInt8):VR E (.str l) (.string ⟨l.toArray⟩)
 |nilp:VR E .nilp (.pointer none)
 |ptr (l k off b:Nat) (h:E.m l k=some b):VR E (.ptr l k off) (.pointer (some ⟨b,off,none⟩))
 |iptr (cs:List AV) (b off:Nat) (c:Nat→Value) (hc:∀j,j<cs.length→E.F b (off+j)=some (c j))
   (hv:∀j (h:j<cs.length),VR E cs[j] (c j)):VR E (.iptr cs) (.pointer (some ⟨b,off,none⟩))
 |slnil (k:Nat) (o:Own) (a:Option Addr) (ho:Zax E 0 (.slice a 0 0) 0 o) (ha:o≠ .any→a=none):VR E (.sl k [] o) (.slice a 0 0)
 |sl (k:Nat) (xs:List AV) (o:Own) (b off cap:Nat) (c:Nat→Nat→Value) (hk:∀i (h:i<xs.length),xs[i].cells.length=k)
   (hc:∀i j,i<xs.length→j<k→E.F b (off+(i*k+j))=some (c i j))
   (hv:∀i (h:i<xs.length) j (h':j<xs[i].cells.length),VR E xs[i].cells[j] (c i j))
   (hcap:xs.length≤cap) (hm:xs.length≤maxLen) (ho:Zax E xs.length (.slice (some ⟨b,off,none⟩) xs.length cap) cap o):
   VR E (.sl k xs o) (.slice (some ⟨b,off,none⟩) xs.length cap)
 |nilf:VR E .nilf .nilFunc
 |fn (f:Fn) (caps:List AV) (vs:List Value) (hl:vs.length=caps.length) (hv:∀i (h:i<caps.length) (h':i<vs.length),VR E caps[i] vs[i]):VR E (.fn f caps) (.func f #[] vs.toArray)
 |bfn (f:Fn) (caps:List AV) (vs:List Value) (hl:vs.length=caps.length) (hv:∀i (h:i<caps.length) (h':i<vs.length),VR E caps[i] vs[i]):VR E (.bfn f caps) (.func f vs.toArray #[])
 |nilm:VR E .nilm (.map none)
 |map (l k b:Nat) (h:E.m l k=some b):VR E (.map l k) (.map (some b))
 |mnil (sz l k:Nat) (a:Option Addr) (h:E.hist l k 0=some (.slice a 0 0)) (ha:∀x,a=some x→x.spot=none):VR E (.msl sz l k 0) (.slice a 0 0)
 |msl (sz l k n g cap:Nat) (h:E.hist l k n=some (.slice (some ⟨g,0,none⟩) n cap)):VR E (.msl sz l k n) (.slice (some ⟨g,0,none⟩) n cap)
 |eptr (l k n off g cap:Nat) (h:E.hist l k n=some (.slice (some ⟨g,0,none⟩) n cap)):VR E (.eptr l k n off) (.pointer (some ⟨g,off,none⟩))
 |ssl (k:Nat) (xs ys:List AV) (b off cap:Nat) (c:Nat→Nat→Value) (hk:∀i (h:i<(xs++ys).length),(xs++ys)[i].cells.length=k)
   (hc:∀i j,i<(xs++ys).length→j<k→E.F b (off+(i*k+j))=some (c i j))
   (hv:∀i (h:i<(xs++ys).length) j (h':j<(xs++ys)[i].cells.length),VR E (xs++ys)[i].cells[j] (c i j))
   (hcap:(xs++ys).length≤cap) (hm:(xs++ys).length≤maxLen):VR E (.ssl k xs ys) (.slice (some ⟨b,off,none⟩) xs.length cap)
 |nili:VR E .nili .nilIface
 |Xl:VR E .Xl (.slice none 0 0)
 |sln (k:Nat) (a:Addr) (cap:Nat) (h:cap=0∨a.spot=none):VR E (.sln k) (.slice (some a) 0 cap)
 |sub (sz l k n off m g cap:Nat) (h:E.hist l k n=some (.slice (some ⟨g,0,none⟩) n cap)) (hm:off+m≤n):VR E (.sub sz l k n off m) (.slice (some ⟨g,off*sz,none⟩) m (cap - off))
 |ifc (t:TypeId) (a:AV) (v:Value) (h:VR E a v):VR E (.ifc t a) (.iface t v)
 |agg (cs:List AV) (vs:List Value) (hl:vs.length=cs.length) (hv:∀i (h:i<cs.length) (h':i<vs.length),VR E cs[i] vs[i]):VR E (.agg cs) (.agg vs.toArray)
 |tup (cs:List AV) (vs:List Value) (hl:vs.length=cs.length) (hv:∀i (h:i<cs.length) (h':i<vs.length),VR E cs[i] vs[i]):VR E (.tup cs) (.tuple vs.toArray)
 |dead (v:Value):VR E .dead v
def VRs(E:Env)(az:List AV)(vs:List Value):Prop:=vs.length=az.length∧ ∀i (h:i<az.length) (h':i<vs.length),VR E az[i] vs[i]
def VRs.nil(E:Env):VRs E [] []:=⟨rfl,fun _ h=>absurd h (Qo _)⟩
section
variable {vs:List Value} {az:List AV} {v:Value} {a:AV} {E:Env}
def VRs.cons(h:VR E a v)(hs:VRs E az vs):VRs E (a::az) (v::vs):=by
 refine⟨by simp[hs.1],fun i h1 h2=>?_⟩;cases i with
 |zero=>exact h
 |succ i=>exact hs.2 i (by simpa using h1) (by simpa using h2)
def VRs.YW(h:VRs E (a::az) vs):∃v r,vs=v::r∧VR E a v∧VRs E az r:=by
 obtain⟨hl,hv⟩:=h;cases vs with
 |nil=>simp at hl
 |cons v r=>
  refine⟨v,r,rfl,hv 0 sm sm,by simpa using hl,fun i h1 h2=>?_⟩;exact hv (i+1) (by simpa using h1) (by simpa using h2)
def VRs.of_nil(h:VRs E [] vs):vs=[]:=by
 have:=h.1;simpa using this
def VRs.append{bs:List AV}{us:List Value}(h:VRs E az vs)(h':VRs E bs us):VRs E (az++bs) (vs++us):=by
 induction az generalizing vs with
 |nil=>rw[h.of_nil];exact h'
 |cons a az ih=>obtain⟨v,r,rfl,hv,hr⟩:=h.YW;exact VRs.cons hv (ih hr)
def VRs.get(h:VRs E az vs)(i:Nat)(hi:i<az.length):∃v,vs[i]? =some v∧VR E az[i] v:=
 ⟨vs[i]'(by rw[h.1];exact hi),by simp[h.1,hi],h.2 i hi (by rw[h.1];exact hi)⟩
structure Env.le (n:Nat) (E E':Env):Prop where
 F:∀b o v,E.F b o=some v→E'.F b o=some v
 m:∀l k b,l<n→E.m l k=some b→E'.m l k=some b
 hist:∀l k j v,l<n→E.hist l k j=some v→E'.hist l k j=some v
 qd:E'.qd=E.qd
def Env.le.refl(n:Nat)(E:Env):E.le n E:=⟨fun _ _ _ h=>h,fun _ _ _ _ h=>h,fun _ _ _ _ _ h=>h,rfl⟩
def Env.le.trans{n:Nat}{A B C:Env}(h:A.le n B)(h':B.le n C):A.le n C:=
 ⟨fun b o v x=>h'.F _ _ _ (h.F b o v x),fun l k b hl x=>h'.m _ _ _ hl (h.m l k b hl x),fun l k j v hl x=>h'.hist _ _ _ _ hl (h.hist l k j v hl x),h'.qd.trans h.qd⟩
variable {n n':Nat}
def Env.le.mono{A B:Env}(h:A.le n B)(hn:n'≤n):A.le n' B:=
 ⟨h.F,fun l k b hl=>h.m l k b (Un hl hn),fun l k j v hl=>h.hist l k j v (Un hl hn),h.qd⟩
structure Env.norm (n:Nat) (E:Env):Prop where
 m:∀l k,n≤l→E.m l k=none
 g:∀l k,n≤l→E.g l k=none
 hist:∀l k j,n≤l→E.hist l k j=none
variable {l k:Nat}
def Env.norm.Zaw(h:E.norm n){b:Nat}(hm:E.m l k=some b):l<n:=by
 rcases Qe l n with hl|hl
 ·exact hl
 ·rw[h.m l k hl]at hm;cases hm
def Env.norm.Xw(h:E.norm n){j:Nat}(hm:E.hist l k j=some v):l<n:=by
 rcases Qe l n with hl|hl
 ·exact hl
 ·rw[h.hist l k j hl]at hm;cases hm
def Env.norm.Zud(h:E.norm n){b:Nat}(hm:E.g l k=some b):l<n:=by
 rcases Qe l n with hl|hl
 ·exact hl
 ·rw[h.g l k hl]at hm;cases hm
def Env.norm.mono(h:E.norm n)(hn:n≤n'):E.norm n':=
 ⟨fun l k hl=>h.m l k (Ue hn hl),fun l k hl=>h.g l k (Ue hn hl),fun l k j hl=>h.hist l k j (Ue hn hl)⟩
def Zax.mono{N:Nat}{E':Env}{c:Nat}{o:Own}(hn:E.norm n)(h:E.le n E')(ho:Zax E N v c o):Zax E' N v c o:=by
 cases o with
 |any=>exact ho
 |full=>exact ho
 |buf l k=>exact h.hist l k N v (hn.Xw ho) ho
def VR.mono{n:Nat}{E E':Env}(hn:E.norm n)(h:E.le n E'){a:AV}{v:Value}(hv:VR E a v):VR E' a v:=by
 induction hv with
 |int k n=>exact .int k n
 |bool b=>exact .bool b
 |str l=>exact .str l
 |nilp=>exact .nilp
 |ptr l k off b hm=>exact .ptr l k off b (h.m l k b (hn.Zaw hm) hm)
 |iptr cs b off c hc _ ih=>exact .iptr cs b off c (fun j hj=>h.F _ _ _ (hc j hj)) ih
 |slnil k o a ho ha=>exact .slnil k o a (ho.mono hn h) ha
 |sl k xs o b off cap c hk hc _ hcap hm ho ih=>exact .sl k xs o b off cap c hk (fun i j hi hj=>h.F _ _ _ (hc i j hi hj)) ih hcap hm (ho.mono hn h)
 |nilf=>exact .nilf
 |fn f caps vs hl _ ih=>exact .fn f caps vs hl ih
 |bfn f caps vs hl _ ih=>exact .bfn f caps vs hl ih
 |nilm=>exact .nilm
 |map l k b hm=>exact .map l k b (h.m l k b (hn.Zaw hm) hm)
 |mnil sz l k a hh ha=>exact .mnil sz l k a (h.hist _ _ _ _ (hn.Xw hh) hh) ha
 |msl sz l k n g cap hh=>exact .msl sz l k n g cap (h.hist _ _ _ _ (hn.Xw hh) hh)
 |eptr l k n off g cap hh=>exact .eptr l k n off g cap (h.hist _ _ _ _ (hn.Xw hh) hh)
 |ssl k xs ys b off cap c hk hc _ hcap hm ih=>exact .ssl k xs ys b off cap c hk (fun i j hi hj=>h.F _ _ _ (hc i j hi hj)) ih hcap hm
 |nili=>exact .nili
 |Xl=>exact .Xl
 |sln k a cap hc=>exact .sln k a cap hc
 |sub sz l k n off m g cap hh hm=>exact .sub sz l k n off m g cap (h.hist _ _ _ _ (hn.Xw hh) hh) hm
 |ifc t a v _ ih=>exact .ifc t a v ih
 |agg cs vs hl _ ih=>exact .agg cs vs hl ih
 |tup cs vs hl _ ih=>exact .tup cs vs hl ih
 |dead v=>exact .dead v
def VRs.mono{n:Nat}{E E':Env}(hn:E.norm n)(h:E.le n E'){az:List AV}{vs:List Value}(hv:VRs E az vs):VRs E' az vs:=
 ⟨hv.1,fun i h1 h2=>(hv.2 i h1 h2).mono hn h⟩
inductive Below (n:Nat):AV→Prop
 |int (k:IntKind) (i:Int):Below n (.int k i)
 |bool (b:Bool):Below n (.bool b)
 |str (l:List UInt8):Below n (.str l)
 |nilp:Below n .nilp
 |ptr (l k off:Nat) (h:l<n):Below n (.ptr l k off)
 |iptr (cs:List AV) (hv:∀j (h:j<cs.length),Below n cs[j]):Below n (.iptr cs)
 |sl (k:Nat) (xs:List AV) (o:Own) (hv:∀i (h:i<xs.length) j (h':j<xs[i].cells.length),Below n xs[i].cells[j])
   (ho:∀l j,o= .buf l j→l<n):Below n (.sl k xs o)
 |nilf:Below n .nilf
 |fn (f:Fn) (caps:List AV) (hv:∀i (h:i<caps.length),Below n caps[i]):Below n (.fn f caps)
 |bfn (f:Fn) (caps:List AV) (hv:∀i (h:i<caps.length),Below n caps[i]):Below n (.bfn f caps)
 |nilm:Below n .nilm
 |map (l k:Nat) (h:l<n):Below n (.map l k)
 |msl (sz l k i:Nat) (h:l<n):Below n (.msl sz l k i)
 |eptr (l k i off:Nat) (h:l<n):Below n (.eptr l k i off)
 |ssl (k:Nat) (xs ys:List AV) (hv:∀i (h:i<(xs++ys).length) j (h':j<(xs++ys)[i].cells.length),Below n (xs++ys)[i].cells[j]):Below n (.ssl k xs ys)
 |nili:Below n .nili
 |Xl:Below n .Xl
 |sln (k:Nat):Below n (.sln k)
 |sub (sz l k i off m:Nat) (h:l<n):Below n (.sub sz l k i off m)
 |ifc (t:TypeId) (a:AV) (h:Below n a):Below n (.ifc t a)
 |agg (cs:List AV) (hv:∀i (h:i<cs.length),Below n cs[i]):Below n (.agg cs)
 |tup (cs:List AV) (hv:∀i (h:i<cs.length),Below n cs[i]):Below n (.tup cs)
 |dead:Below n .dead
def Below.mono(hn:n≤n')(h:Below n a):Below n' a:=by
 induction h with
 |int k i=>exact .int k i
 |bool b=>exact .bool b
 |str l=>exact .str l
 |nilp=>exact .nilp
 |ptr l k off h=>exact .ptr l k off (Un h hn)
 |iptr cs _ ih=>exact .iptr cs ih
 |sl k xs o _ ho ih=>exact .sl k xs o ih (fun l j e=>Un (ho l j e) hn)
 |nilf=>exact .nilf
 |fn f caps _ ih=>exact .fn f caps ih
 |bfn f caps _ ih=>exact .bfn f caps ih
 |nilm=>exact .nilm
 |map l k h=>exact .map l k (Un h hn)
 |msl sz l k i h=>exact .msl sz l k i (Un h hn)
 |eptr l k i off h=>exact .eptr l k i off (Un h hn)
 |ssl k xs ys _ ih=>exact .ssl k xs ys ih
 |nili=>exact .nili
 |Xl=>exact .Xl
 |sln k=>exact .sln k
 |sub sz l k i off m h=>exact .sub sz l k i off m (Un h hn)
 |ifc t a _ ih=>exact .ifc t a ih
 |agg cs _ ih=>exact .agg cs ih
 |tup cs _ ih=>exact .tup cs ih
 |dead=>exact .dead
def VR.lvl(hn:E.norm n)(hv:VR E a v):Below n a:=by
 induction hv with
 |int k n=>exact .int k n
 |bool b=>exact .bool b
 |str l=>exact .str l
 |nilp=>exact .nilp
 |ptr l k off b hm=>exact .ptr l k off (hn.Zaw hm)
 |iptr cs b off c hc _ ih=>exact .iptr cs ih
 |slnil k o a ho ha=>exact .sl k [] o (fun i h=>absurd h (Qo _)) (fun l j e=>by subst e;exact hn.Xw ho)
 |sl k xs o b off cap c hk hc _ hcap hm ho ih=>exact .sl k xs o ih (fun l j e=>by subst e;exact hn.Xw ho)
 |nilf=>exact .nilf
 |fn f caps vs hl _ ih=>exact .fn f caps (fun i h=>ih i h om)
 |bfn f caps vs hl _ ih=>exact .bfn f caps (fun i h=>ih i h om)
 |nilm=>exact .nilm
 |map l k b hm=>exact .map l k (hn.Zaw hm)
 |mnil sz l k a hh ha=>exact .msl _ _ _ _ (hn.Xw hh)
 |msl sz l k n g cap hh=>exact .msl _ _ _ _ (hn.Xw hh)
 |eptr l k n off g cap hh=>exact .eptr _ _ _ _ (hn.Xw hh)
 |ssl k xs ys b off cap c hk hc _ hcap hm ih=>exact .ssl k xs ys ih
 |nili=>exact .nili
 |Xl=>exact .Xl
 |sln k a cap hc=>exact .sln k
 |sub sz l k n off m g cap hh hm=>exact .sub _ _ _ _ _ _ (hn.Xw hh)
 |ifc t a v _ ih=>exact .ifc t a ih
 |agg cs vs hl _ ih=>exact .agg cs (fun i h=>ih i h om)
 |tup cs vs hl _ ih=>exact .tup cs (fun i h=>ih i h om)
 |dead v=>exact .dead
def Env.cut(n:Nat)(E:Env):Env:=
 {F:=E.F,m:=fun l k=>if l<n then E.m l k else none,hist:=fun l k j=>if l<n then E.hist l k j else none,g:=fun l k=>if l<n then E.g l k else none,qd:=E.qd}
def Env.Zg7(n:Nat)(E:Env):(E.cut n).norm n:=
 ⟨fun l k h=>if_neg om,fun l k h=>if_neg om,fun l k j h=>if_neg om⟩
def Env.Ziv{E':Env}(h:E.le n E'):E.le n (E'.cut n):=
 ⟨h.F,fun l k b hl hm=>by simp only[Env.cut,if_pos hl];exact h.m l k b hl hm,fun l k j v hl hm=>by simp only[Env.cut,if_pos hl];exact h.hist l k j v hl hm,h.qd⟩
def VR.cut{n:Nat}{E:Env}{a:AV}{v:Value}(hv:VR E a v)(hb:Below n a):VR (E.cut n) a v:=by
 induction hv with
 |int k n=>exact .int k n
 |bool b=>exact .bool b
 |str l=>exact .str l
 |nilp=>exact .nilp
 |ptr l k off b hm=>cases hb with|ptr _ _ _ hl=>exact .ptr l k off b (by simp only[Env.cut,if_pos hl];exact hm)
 |iptr cs b off c hc _ ih=>cases hb with|iptr _ hb=>exact .iptr cs b off c hc (fun j h=>ih j h (hb j h))
 |slnil k o a ho ha=>
  cases hb with
  |sl _ _ _ _ hb=>
   refine .slnil k o a ?_ ha;cases o with
   |any=>trivial
   |full=>exact ho
   |buf l j=>simp only[Zax,Env.cut,if_pos (hb l j rfl)];exact ho
 |sl k xs o b off cap c hk hc _ hcap hm ho ih=>
  cases hb with
  |sl _ _ _ hx hb=>
   refine .sl k xs o b off cap c hk hc (fun i h j h'=>ih i h j h' (hx i h j h')) hcap hm ?_;cases o with
   |any=>trivial
   |full=>exact ho
   |buf l j=>simp only[Zax,Env.cut,if_pos (hb l j rfl)];exact ho
 |nilf=>exact .nilf
 |fn f caps vs hl _ ih=>cases hb with|fn _ _ hb=>exact .fn f caps vs hl (fun i h h'=>ih i h h' (hb i h))
 |bfn f caps vs hl _ ih=>cases hb with|bfn _ _ hb=>exact .bfn f caps vs hl (fun i h h'=>ih i h h' (hb i h))
 |nilm=>exact .nilm
 |map l k b hm=>cases hb with|map _ _ hl=>exact .map l k b (by simp only[Env.cut,if_pos hl];exact hm)
 |mnil sz l k a hh ha=>cases hb with|msl _ _ _ _ hl=>exact .mnil _ _ _ _ (by simp only[Env.cut,if_pos hl];exact hh) ha
 |msl sz l k n g cap hh=>cases hb with|msl _ _ _ _ hl=>exact .msl _ _ _ _ _ _ (by simp only[Env.cut,if_pos hl];exact hh)
 |eptr l k n off g cap hh=>cases hb with|eptr _ _ _ _ hl=>exact .eptr _ _ _ _ _ _ (by simp only[Env.cut,if_pos hl];exact hh)
 |ssl k xs ys b off cap c hk hc _ hcap hm ih=>cases hb with|ssl _ _ _ hx=>exact .ssl k xs ys b off cap c hk hc (fun i h j h'=>ih i h j h' (hx i h j h')) hcap hm
 |nili=>exact .nili
 |Xl=>exact .Xl
 |sln k a cap hc=>exact .sln k a cap hc
 |sub sz l k n off m g cap hh hm=>cases hb with|sub _ _ _ _ _ _ hl=>exact .sub _ _ _ _ _ _ _ _ (by simp only[Env.cut,if_pos hl];exact hh) hm
 |ifc t a v _ ih=>cases hb with|ifc _ _ hb=>exact .ifc t a v (ih hb)
 |agg cs vs hl _ ih=>cases hb with|agg _ hb=>exact .agg cs vs hl (fun i h h'=>ih i h h' (hb i h))
 |tup cs vs hl _ ih=>cases hb with|tup _ hb=>exact .tup cs vs hl (fun i h h'=>ih i h h' (hb i h))
 |dead v=>exact .dead v
def VR.any{E:Env}{k:Nat}{xs:List AV}{o:Own}{v:Value}(h:VR E (.sl k xs o) v):VR E (.sl k xs .any) v:=by
 cases h with
 |slnil _ _ a ho ha=>exact .slnil k .any a trivial (fun h=>absurd rfl h)
 |sl _ _ _ b off cap c hk hc hv hcap hm ho=>exact .sl k xs .any b off cap c hk hc hv hcap hm trivial
def VR.Zi5{o:Own}(h:VR E (.sl k [] o) v):VR E .Xl v∨VR E (.sln k) v:=by
 cases h with
 |slnil _ _ a ho ha=>cases a with
  |none=>exact .inl .Xl
  |some a=>exact .inr (.sln k a 0 (.inl rfl))
 |sl _ _ _ b off cap c hk hc hv hcap hm ho=>exact .inr (.sln k _ cap (.inr rfl))
def VR.ZiW(h:VR E .Xl v):VR E (.sl k [] .full) v:=by
 cases h;exact .slnil k .full none rfl (fun _=>rfl)
def VR.ZsD(h:VR E (.sln k) v):VR E (.sl k [] .any) v:=by
 cases h with|sln _ a cap h=>
 rcases h with rfl|h
 ·exact .slnil k .any _ trivial (fun h=>absurd rfl h)
 ·obtain⟨b,off,sp⟩:=a;cases h;exact .sl k [] .any b off cap (fun _ _=>undef) (fun i h=>absurd h (Qo _)) (fun i j h=>absurd h (Qo _)) (fun i h=>absurd h (Qo _)) (Uw _) (Uw _) trivial
def VR.one{E:Env}{a:AV}{v:Value}(h:VR E a v)(ha:a.one=true):v.oneCell'=true:=by
 cases h<;>first|rfl|(simp[AV.one]at ha)
def VR.cells{E:Env}{a:AV}{v:Value}(h:VR E a v)(ha:∀c∈a.cells,c.one=true):VRs E a.cells v.cells.toList:=by
 cases h with
 |agg cs vs hl hv=>exact⟨by simpa[Value.cells,AV.cells]using hl,by simpa[Value.cells,AV.cells]using hv⟩
 |tup cs vs hl hv=>simp[AV.cells,AV.one]at ha
 |dead v=>simp[AV.cells,AV.one]at ha
 |_=>exact VRs.cons (by constructor<;>assumption) (VRs.nil E)
end
end Go.Abs

namespace Go.Abs
inductive Ze where
 |box (cs:List AV)
 |map (es:List (AV×AV))
 |buf (e sz fr:Nat)
 |Zg (e sz:Nat) (cs:List AV) (n:Nat)
 |iter (l k since:Nat) (seen:List Nat)
 |var (b:Nat) (t:TypeId) (cs:List AV)
 |lrec (l N fo:Nat) (tm:List (Nat×AV)) (ps:Array Tmp) (ca cb:Code) (st:LoopState) (pend:Option Code)
def lkv:List (Nat×AV)→Nat→AV
 |[],_=>.dead
 |(i,v)::r,t=>if i=t then v else lkv r t
def Ze.avs:Ze→List AV
 | .box cs=>cs
 | .map es=>es.map (·.1)++es.map (·.2)
 | .Zg _ _ cs _=>cs
 | .var _ _ cs=>cs
 | .lrec _ _ _ tm _ _ _ _ _=>tm.map fun p=>lkv tm p.1
 |_=>[]
def Ze.at_:Ze→List (Nat×Nat)
 | .iter l k _ _=>[(l,k)]
 |_=>[]
def Ze.isRec:Ze→Bool
 | .lrec _ _ _ _ _ _ _ _ _=>true
 |_=>false
def Ze.isBuf:Ze→Bool
 | .buf _ _ _=>true
 | .Zg _ _ _ _=>true
 |_=>false
def Ze.Below(n:Nat)(b:Ze):Prop:=(∀a∈b.avs,Abs.Below n a)∧ ∀p∈b.at_,p.1<n
abbrev Za:=Nat→Nat→Option Ze
def Za.upd(H:Za)(l k:Nat)(b:Ze):Za:=fun l' k'=>if l'=l∧k'=k then some b else H l' k'
def Env.own(E:Env)(b:Nat):Prop:=(∃l k,E.m l k=some b)∨(∃l k,E.g l k=some b)
def Zur(E:Env)(w:World)(cs:List AV)(b:Nat):Prop:=∃c t,w.heap[b]? =some (.cells c t (0,0))∧VRs E cs c.toList
def Zva(E:Env)(w:World)(es:List (AV×AV))(b:Nat):Prop:=
 ∃ent:Array MapEntry,w.heap[b]? =some (.map ent es.length)∧ent.size=es.length∧
  ∀i (h:i<es.length) (h':i<ent.size),VR E es[i].1 ent[i].key∧VR E es[i].2 ent[i].val∧ent[i].born=i
def Zuq(E:Env)(w:World)(l k e sz fr:Nat):Prop:=
 ∃v,E.hist l k fr=some v∧(∀j,fr<j→E.hist l k j=none)∧
  ((∃a,v= .slice a 0 0∧fr=0∧E.g l k=none)∨
   ∃g cap cur,v= .slice (some ⟨g,0,none⟩) fr cap∧E.g l k=some g∧w.heap[g]? =some (.cells cur e (0,0))∧fr≤cap∧cap≤maxLen∧cur.size=cap*sz∧
    ∀o,fr*sz≤o→E.F g o=none)
def Zsw(E:Env)(w:World)(l k e sz:Nat)(cs:List AV)(n:Nat):Prop:=
 cs.length=n*sz∧ ∃v,E.hist l k n=some v∧(∀j,n<j→E.hist l k j=none)∧
  ((∃a,v= .slice a 0 0∧n=0∧E.g l k=none)∨
   ∃g cap cur,v= .slice (some ⟨g,0,none⟩) n cap∧E.g l k=some g∧w.heap[g]? =some (.cells cur e (0,0))∧n≤cap∧cap≤maxLen∧cur.size=cap*sz∧
    (∀o,E.F g o=none)∧VRs E cs (cur.toList.take (n*sz)))
def lkv_mem:∀{tm:List (Nat×AV)} {t:Nat},lkv tm t= .dead∨(t,lkv tm t)∈tm
 |[],t=>.inl rfl
 |(i,v)::r,t=>by
  simp only[lkv];split
  ·rename_i h;subst h;exact .inr sm
  ·rcases lkv_mem (tm:=r) (t:=t)with h|h
   ·exact .inl h
   ·exact .inr (Qz _ h)
def Zu1(E:Env)(w:World)(b N fo:Nat)(tm:List (Nat×AV))(ps:Array Tmp)(ca cb:Code)(st:LoopState)(pend:Option Code):Prop:=
 ∃rc:Loop,w.heap[b]? =some (.loop rc)∧rc.params=ps∧rc.assign=ca∧rc.body=cb∧rc.state=st∧rc.pending=pend∧rc.tmps.size=N∧(∀t,VR E (lkv tm t) (rc.tmps.getD t undef))∧(fo≠0→rc.fn+1=fo)
def Zei(E:Env)(w:World)(l k:Nat):Ze→Prop
 | .box cs=>∃b,E.m l k=some b∧Zur E w cs b
 | .map es=>∃b,E.m l k=some b∧Zva E w es b
 | .buf e sz fr=>Zuq E w l k e sz fr∧E.m l k=none
 | .Zg e sz cs n=>Zsw E w l k e sz cs n∧E.m l k=none
 | .iter l' k' since seen=>∃b b',E.m l k=some b∧E.m l' k'=some b'∧w.heap[b]? =some (.mapIter (some b') since seen.toArray since)
 | .var b t cs=>E.qd=false∧E.m l k=some b∧ ∃c,w.heap[b]? =some (.cells c t (0,0))∧VRs E cs c.toList
 | .lrec b N fo tm ps ca cb st pend=>E.m l k=some b∧Zu1 E w b N fo tm ps ca cb st pend
section
variable {w:World} {E E':Env}
def Zei.keep{w':World}{l k:Nat}{b:Ze}(h:Zei E w l k b)(hm:E'.m l k=E.m l k)(hg:E'.g l k=E.g l k)(hh:∀j,E'.hist l k j=E.hist l k j)
  (hi:∀p∈b.at_,∀r,E.m p.1 p.2=some r→E'.m p.1 p.2=some r) (hb:∀r,E.m l k=some r∨E.g l k=some r→w'.heap[r]? =w.heap[r]?)
  (hF:∀g o,E.g l k=some g→E.F g o=none→E'.F g o=none) (hv:∀a∈b.avs,∀v,VR E a v→VR E' a v) (hqd:E'.qd=E.qd:=by rfl):Zei E' w' l k b:=by
 cases b with
 |box cs=>
  obtain⟨r,h1,c,t,h2,h3⟩:=h;exact⟨r,hm.trans h1,c,t,by rw[hb r (.inl h1)];exact h2,h3.1,fun i x y=>hv _ (by simpa[Ze.avs]using Qa x) _ (h3.2 i x y)⟩
 |map es=>
  obtain⟨r,h1,ent,h2,h3,h4⟩:=h;refine⟨r,hm.trans h1,ent,by rw[hb r (.inl h1)];exact h2,h3,fun i x y=>?_⟩;obtain⟨q1,q2,q3⟩:=h4 i x y;exact⟨hv _ (QG _ (Qi.2 ⟨_,Qa x,rfl⟩)) _ q1,hv _ (QS _ (Qi.2 ⟨_,Qa x,rfl⟩)) _ q2,q3⟩
 |buf e sz fr=>
  obtain⟨⟨v,h1,h2,h3⟩,h4⟩:=h;refine⟨⟨v,(hh fr).trans h1,fun j hj=>(hh j).trans (h2 j hj),?_⟩,hm.trans h4⟩;rcases h3 with⟨a,q1,q2,q3⟩|⟨g,cap,cur,q1,q2,q3,q4,q5,q6,q7⟩
  ·exact .inl ⟨a,q1,q2,hg.trans q3⟩
  ·exact .inr ⟨g,cap,cur,q1,hg.trans q2,by rw[hb g (.inr q2)];exact q3,q4,q5,q6,fun o ho=>hF g o q2 (q7 o ho)⟩
 |Zg e sz cs n=>
  obtain⟨⟨h0,v,h1,h2,h3⟩,h4⟩:=h;refine⟨⟨h0,v,(hh n).trans h1,fun j hj=>(hh j).trans (h2 j hj),?_⟩,hm.trans h4⟩;rcases h3 with⟨a,q1,q2,q3⟩|⟨g,cap,cur,q1,q2,q3,q4,q5,q6,q7,q8⟩
  ·exact .inl ⟨a,q1,q2,hg.trans q3⟩
  ·exact .inr ⟨g,cap,cur,q1,hg.trans q2,by rw[hb g (.inr q2)];exact q3,q4,q5,q6,fun o=>hF g o q2 (q7 o),q8.1,fun i x y=>hv _ (by simpa[Ze.avs]using Qa x) _ (q8.2 i x y)⟩
 |iter l' k' since seen=>
  obtain⟨r,r',h1,h2,h3⟩:=h;exact⟨r,r',hm.trans h1,hi (l',k') (by simp[Ze.at_]) r' h2,by rw[hb r (.inl h1)];exact h3⟩
 |var b t cs=>
  obtain⟨h0,h1,c,h2,h3⟩:=h;exact⟨hqd.trans h0,hm.trans h1,c,by rw[hb b (.inl h1)];exact h2,h3.1,fun i x y=>hv _ (by simpa[Ze.avs]using Qa x) _ (h3.2 i x y)⟩
 |lrec b N fo tm ps ca cb st pend=>
  obtain⟨h1,rc,h2,h3,h4,h5,h6,h7,h8,h9,h10⟩:=h;refine⟨hm.trans h1,rc,by rw[hb b (.inl h1)];exact h2,h3,h4,h5,h6,h7,h8,fun t=>?_,h10⟩;rcases lkv_mem (tm:=tm) (t:=t)with hd|hd
  ·rw[hd];exact .dead _
  ·exact hv _ (by simp only[Ze.avs];exact Qi.2 ⟨_,hd,rfl⟩) _ (h9 t)
structure Zt (n:Nat) (H:Za) (E:Env) (w:World):Prop where
 norm:E.norm n
 F:∀b o v,E.F b o=some v→w.cell? ⟨b,o,none⟩=some v
 blk:∀l k b,l<n→H l k=some b→Zei E w l k b
 dom:∀l k,l<n→H l k=none→E.m l k=none∧E.g l k=none∧ ∀j,E.hist l k j=none
 nobuf:∀l k,E.g l k≠none→ ∃b,H l k=some b∧b.isBuf=true
 inj:∀l k l' k' b,E.m l k=some b→E.m l' k'=some b→l=l'∧k=k'
 injg:∀l k l' k' b,E.g l k=some b→E.g l' k'=some b→l=l'∧k=k'
 mg:∀l k l' k' b,E.m l k=some b→E.g l' k'=some b→False
 mF:∀l k b o,E.m l k=some b→E.F b o=none
 lt:∀b,E.own b→b<w.heap.size
def Zt.box{n:Nat}{H:Za}{E:Env}{w:World}(h:Zt n H E w)(l k:Nat)(cs:List AV)(hl:l<n)(hb:H l k=some (.box cs)):∃b,E.m l k=some b∧Zur E w cs b:=h.blk l k _ hl hb
def Zt.map{n:Nat}{H:Za}{E:Env}{w:World}(h:Zt n H E w)(l k:Nat)(es:List (AV×AV))(hl:l<n)(hb:H l k=some (.map es)):∃b,E.m l k=some b∧Zva E w es b:=h.blk l k _ hl hb
def Zt.buf{n:Nat}{H:Za}{E:Env}{w:World}(h:Zt n H E w)(l k e sz fr:Nat)(hl:l<n)(hb:H l k=some (.buf e sz fr)):Zuq E w l k e sz fr∧E.m l k=none:=h.blk l k _ hl hb
def Zt.Zg{n:Nat}{H:Za}{E:Env}{w:World}(h:Zt n H E w)(l k e sz:Nat)(cs:List AV)(i:Nat)(hl:l<n)(hb:H l k=some (.Zg e sz cs i)):Zsw E w l k e sz cs i∧E.m l k=none:=h.blk l k _ hl hb
structure Ext (n:Nat) (E:Env) (w:World) (E':Env) (w':World):Prop where
 le:E.le n E'
 os:w'.os=w.os
 tape:w'.tape=w.tape
 output:w'.output=w.output
 drawn:E.qd=true→w.drawn≤w'.drawn
 size:w.heap.size≤w'.heap.size
 block:∀b,b<w.heap.size→ ¬E.own b→w'.heap[b]? =w.heap[b]?
 own:∀b,b<w.heap.size→E'.own b→E.own b
def Ext.refl(n:Nat)(E:Env)(w:World):Ext n E w E w:=⟨.refl n E,rfl,rfl,rfl,fun _=>Qg _,Qg _,fun _ _ _=>rfl,fun _ _ h=>h⟩
def Ext.trans{n:Nat}{A B C:Env}{u v w:World}(h:Ext n A u B v)(h':Ext n B v C w):Ext n A u C w:=
 ⟨h.le.trans h'.le,h'.os.trans h.os,h'.tape.trans h.tape,h'.output.trans h.output,fun hq=>Ue (h.drawn hq) (h'.drawn (h.le.qd.trans hq)),Ue h.size h'.size,
  fun b hb ho=>(h'.block b (Un hb h.size) (fun x=>ho (h.own b hb x))).trans (h.block b hb ho),
  fun b hb ho=>h.own b hb (h'.own b (Un hb h.size) ho)⟩
def Ext.mono{n n':Nat}{A B:Env}{u v:World}(h:Ext n A u B v)(hn:n'≤n):Ext n' A u B v:=
 ⟨h.le.mono hn,h.os,h.tape,h.output,h.drawn,h.size,h.block,h.own⟩
variable {n:Nat}
def Zt.congr{H H':Za}(h:Zt n H E w)(he:∀l k,l<n→H' l k=H l k):Zt n H' E w where
 norm:=h.norm
 F:=h.F
 blk l k b hl hH:=h.blk l k b hl (by rw[←he l k hl];exact hH)
 dom l k hl hH:=h.dom l k hl (by rw[←he l k hl];exact hH)
 nobuf l k hg:=by
  have hl:l<n:=by
   cases hx:E.g l k with
   |none=>exact absurd hx hg
   |some b=>exact h.norm.Zud hx
  rw[he l k hl];exact h.nobuf l k hg
 inj:=h.inj
 injg:=h.injg
 mg:=h.mg
 mF:=h.mF
 lt:=h.lt
def Zei.lvl{n:Nat}{E:Env}{w:World}{l k:Nat}{b:Ze}(hn:E.norm n)(h:Zei E w l k b):b.Below n:=by
 cases b with
 |box cs=>
  obtain⟨r,_,c,t,_,hv⟩:=h;refine⟨fun a ha=>?_,by simp[Ze.at_]⟩;obtain⟨i,hi,rfl⟩:=QJ ha;exact(hv.2 i hi (by rw[hv.1];exact hi)).lvl hn
 |map es=>
  obtain⟨r,_,ent,_,hs,hv⟩:=h;refine⟨fun a ha=>?_,by simp[Ze.at_]⟩;rcases Qk.1 ha with ha|ha<;>obtain⟨x,hx,rfl⟩:=Qi.1 ha<;>obtain⟨i,hi,rfl⟩:=QJ hx
  ·exact(hv i hi om).1.lvl hn
  ·exact(hv i hi om).2.1.lvl hn
 |buf e sz fr=>exact⟨by simp[Ze.avs],by simp[Ze.at_]⟩
 |Zg e sz cs i=>
  obtain⟨⟨h0,v,_,_,h3⟩,_⟩:=h;refine⟨fun a ha=>?_,by simp[Ze.at_]⟩;obtain⟨j,hj,rfl⟩:=QJ ha;rcases h3 with⟨a,_,q2,_⟩|⟨g,cap,cur,_,_,_,_,_,_,_,q8⟩
  ·simp only[Ze.avs]at hj;subst q2;simp at h0;simp[h0]at hj
  ·exact(q8.2 j hj (by rw[q8.1];exact hj)).lvl hn
 |iter l' k' since seen=>
  obtain⟨r,r',_,h2,_⟩:=h;exact⟨by simp[Ze.avs],fun p hp=>by simp[Ze.at_]at hp;subst hp;exact hn.Zaw h2⟩
 |var b t cs=>
  obtain⟨_,r,c,_,hv⟩:=h;refine⟨fun a ha=>?_,by simp[Ze.at_]⟩;obtain⟨i,hi,rfl⟩:=QJ ha;exact(hv.2 i hi (by rw[hv.1];exact hi)).lvl hn
 |lrec b N fo tm ps ca cb st pend=>
  obtain⟨_,rc,_,_,_,_,_,_,_,h9,_⟩:=h;refine⟨fun a ha=>?_,by simp[Ze.at_]⟩;simp only[Ze.avs]at ha;obtain⟨p,hp,rfl⟩:=Qi.1 ha;exact(h9 p.1).lvl hn
def Zt.out{H:Za}(h:Zt n H E w){l k:Nat}{b:Ze}(hl:l<n)(hb:H l k=some b):b.Below n:=(h.blk l k b hl hb).lvl h.norm
structure Zb where
 tmps:List (Nat×AV)
 L:List (Nat×Ze)
 H:Za
def lkb:List (Nat×Ze)→Nat→Option Ze
 |[],_=>none
 |(i,v)::r,t=>if i=t then some v else lkb r t
def full(n:Nat)(L:List (Nat×Ze))(H:Za):Za:=fun l k=>if l=n then lkb L k else H l k
structure Base where
 lo:Nat
 ds:List Deferred
structure Fm where
 ro:Option Nat
 B:Base
def fr(ro:Option Nat):Fence:={fn:=fun _=>True,depth:=none,alive:=false,round:=ro}
def mark(D:Nat):Deferred:={target:=.collected D,args:=#[]}
def ZcC(B:Base)(E:Env)(ds:List Deferred)(w:World):Prop:=
 B.lo≤w.heap.size∧ ∃l:List Nat,ds=l.map mark++B.ds∧l.Nodup∧ ∀D∈l,B.lo≤D∧w.heap[D]? =some (.deferred (some []))∧ ¬E.own D
def ZcC.nil{B:Nat}(E:Env)(h:B≤w.heap.size):ZcC ⟨B,[]⟩ E [] w:=⟨h,[],rfl,Qae,fun _ h=>by cases h⟩
variable {ds:List Deferred}
def ZcC.ext{B:Base}{w':World}(h:ZcC B E ds w)(hx:Ext n E w E' w'):ZcC B E' ds w':=by
 obtain⟨h0,l,h1,h2,h3⟩:=h;refine⟨Ue h0 hx.size,l,h1,h2,fun D hD=>?_⟩;obtain⟨a1,a2,a3⟩:=h3 D hD;have hlt:D<w.heap.size:=(QX.1 a2).1;exact⟨a1,(hx.block D hlt a3).trans a2,fun ho=>a3 (hx.own D hlt ho)⟩
def ZcC.sub{B:Base}(h:ZcC B E ds w)(ho:∀b,E'.own b→E.own b):ZcC B E' ds w:=by
 obtain⟨h0,l,h1,h2,h3⟩:=h;exact⟨h0,l,h1,h2,fun D hD=>⟨(h3 D hD).1,(h3 D hD).2.1,fun h=>(h3 D hD).2.2 (ho D h)⟩⟩
structure Yq (B:Base) (n N:Nat) (s:Zb) (E:Env) (a:Act) (w:World):Prop where
 size:a.tmps.size=N
 defs:ZcC B E a.defers w
 tmps:∀t,VR E (lkv s.tmps t) (a.tmps.getD t undef)
 heap:Zt (n+1) (full n s.L s.H) E w
 out:∀l k b,l<n→s.H l k=some b→b.Below n
def AC(P:Program)(φ:Fm)(n N:Nat)(c:Code)(Q:Exit→Zb→Prop)(s:Zb):Prop:=
 ∀E w a,Yq φ.B n N s E a w→c.wpIn (fr φ.ro) 0 P (fun e a' w'=>∃s' E',Q e s'∧Yq φ.B n N s' E' a' w'∧Ext n E w E' w') a w
def Zi(P:Program)(n:Nat)(f:FuncId)(args:List AV)(H:Za)(Q:AV→Za→Prop):Prop:=
 ∀E w vs,Zt n H E w→VRs E args vs→
  Calls P f vs.toArray w fun e w'=>∃r v H' E',e= .returned v∧Q r H'∧VR E' r v∧Zt n H' E' w'∧Ext n E w E' w'
def PC(P:Program)(n:Nat)(f:FuncId)(args:List AV)(H:Za)(r:AV):Prop:=Zi P n f args H fun r' H'=>r'=r∧H'=H
def Pure(P:Program)(f:FuncId)(args:List AV)(r:AV):Prop:=∀n H,PC P n f args H r
def Zi.mono{P:Program}{n:Nat}{f:FuncId}{args:List AV}{H:Za}{Q Q':AV→Za→Prop}(h:Zi P n f args H Q)
  (hq:∀r H',Q r H'→Q' r H'):Zi P n f args H Q':=fun E w vs hr hv=>
 (h E w vs hr hv).mono fun e w' ⟨r,v,H',E',he,hQ,rest⟩=>⟨r,v,H',E',he,hq _ _ hQ,rest⟩
variable {s:Zb} {Q:Exit→Zb→Prop} {c:Code} {N:Nat} {φ:Fm} {P:Program}
def AC.mono{Q':Exit→Zb→Prop}(h:AC P φ n N c Q s)(hq:∀e s',Q e s'→Q' e s'):AC P φ n N c Q' s:=
 fun E w a hs=>wpIn_mono (h E w a hs) fun e a' w' ⟨s',E',hQ,rest⟩=>⟨s',E',hq _ _ hQ,rest⟩
def AC.run(h:AC P φ n N c Q s){E0:Env}{w0:World}{a:Act}
  (hs:Yq φ.B n N s E a w) (hx:Ext n E0 w0 E w):c.wpIn (fr φ.ro) 0 P (fun e a' w'=>∃s' E',Q e s'∧Yq φ.B n N s' E' a' w'∧Ext n E0 w0 E' w') a w:=
 wpIn_mono (h E w a hs) fun e a' w' ⟨s',E',hQ,hr,he⟩=>⟨s',E',hQ,hr,hx.trans he⟩
def AC.seq{P:Program}{φ:Fm}{n N:Nat}{x y:Code}{Q:Exit→Zb→Prop}{s:Zb}
  (h:AC P φ n N x (fun e s'=>match e with| .normal=>AC P φ n N y Q s'|e=>Q e s') s):AC P φ n N (.seq x y) Q s:=fun E w a hs=>by
 refine wpIn_seq (wpIn_mono (h E w a hs) ?_);rintro e a' w' ⟨s',E',hQ,hr,he⟩;cases e with
 |normal=>exact AC.run hQ hr he
 |_=>exact⟨s',E',hQ,hr,he⟩
def AC.block{P:Program}{φ:Fm}{n N:Nat}{id:Nat}{c:Code}{Q:Exit→Zb→Prop}{s:Zb}
  (h:AC P φ n N c (fun e s'=>match e with| .exit id'=>if id'=id then Q .normal s' else Q (.exit id') s'|e=>Q e s') s):AC P φ n N (.block id c) Q s:=fun E w a hs=>by
 refine wpIn_block (wpIn_mono (h E w a hs) ?_);rintro e a' w' ⟨s',E',hQ,hr,he⟩;cases e with
 |exit id'=>
  simp only[Exit.inBlock];by_cases hid:id'=id
  ·simp only[hid,if_true]at hQ⊢;exact⟨s',E',hQ,hr,he⟩
  ·simp only[hid,if_false]at hQ⊢;exact⟨s',E',hQ,hr,he⟩
 |_=>exact⟨s',E',hQ,hr,he⟩
def AC.skip{P:Program}{φ:Fm}{n N:Nat}{Q:Exit→Zb→Prop}{s:Zb}(h:Q .normal s):AC P φ n N .skip Q s:=
 fun E w _ hs=>wpIn_skip ⟨s,E,h,hs,.refl n E w⟩
def AC.exit{P:Program}{φ:Fm}{n N id:Nat}{Q:Exit→Zb→Prop}{s:Zb}(h:Q (.exit id) s):AC P φ n N (.exit id) Q s:=
 fun E w _ hs=>wpIn_exit ⟨s,E,h,hs,.refl n E w⟩
def AC.ret{P:Program}{φ:Fm}{n N:Nat}{Q:Exit→Zb→Prop}{s:Zb}(h:Q .ret s):AC P φ n N .ret Q s:=
 fun E w _ hs=>wpIn_ret ⟨s,E,h,hs,.refl n E w⟩
inductive Itm where
 |code (c:Code)
 |blk (id:Nat)
def AX(P:Program)(φ:Fm)(n N:Nat)(Q:Exit→Zb→Prop):List Itm→Exit→Zb→Prop
 |[],e,s=>Q e s
 | .code d::k,e,s=>match e with
  | .normal=>AC P φ n N d (AX P φ n N Q k) s
  |e=>AX P φ n N Q k e s
 | .blk id::k,e,s=>match e with
  | .exit id'=>if id'=id then AX P φ n N Q k .normal s else AX P φ n N Q k (.exit id') s
  |e=>AX P φ n N Q k e s
def AK(P:Program)(φ:Fm)(n N:Nat)(k:List Itm)(Q:Exit→Zb→Prop)(s:Zb):Prop:=AX P φ n N Q k .normal s
def V3(id:Nat):List Itm→Option (List Itm)
 |[]=>none
 | .blk j::k=>if id=j then some k else V3 id k
 | .code _::k=>V3 id k
section
variable {P:Program} {φ:Fm} {n N:Nat} {Q:Exit→Zb→Prop} {s:Zb} {k k':List Itm}
def ZeJ(h:Q .ret s):∀k,AX P φ n N Q k .ret s
 |[]=>h
 | .code _::k=>ZeJ h k
 | .blk _::k=>ZeJ h k
def Zfz{id:Nat}:∀{k:List Itm},V3 id k=some k'→AK P φ n N k' Q s→AX P φ n N Q k (.exit id) s
 |[],h,_=>by simp[V3]at h
 | .code _::k,h,hk=>Zfz (k:=k) h hk
 | .blk j::k,h,hk=>by
  simp only[V3]at h;by_cases hj:id=j
  ·simp only[hj,if_true,Qp]at h;subst h;simp only[AX,hj,if_true];exact hk
  ·simp only[hj,if_false]at h;simp only[AX,hj,if_false];exact Zfz (k:=k) h hk
def Ziw(h:Q .normal s):AK P φ n N [] Q s:=h
def ZsX{a b:Code}(h:AK P φ n N (.code a:: .code b::k) Q s):AK P φ n N (.code (.seq a b)::k) Q s:=
 AC.seq (AC.mono h fun e s' hq=>by cases e<;>exact hq)
def ZpH{id:Nat}{c:Code}(h:AK P φ n N (.code c:: .blk id::k) Q s):AK P φ n N (.code (.block id c)::k) Q s:=
 AC.block (AC.mono h fun e s' hq=>by cases e<;>exact hq)
def ZrR(h:AK P φ n N k Q s):AK P φ n N (.code .skip::k) Q s:=AC.skip h
def Zto{id:Nat}(h:AK P φ n N k Q s):AK P φ n N (.blk id::k) Q s:=h
def Zsj{id:Nat}(hp:V3 id k=some k')(h:AK P φ n N k' Q s):AK P φ n N (.code (.exit id)::k) Q s:=AC.exit (Zfz hp h)
def Zqb(h:Q .ret s):AK P φ n N (.code .ret::k) Q s:=AC.ret (ZeJ h k)
def Zam{Q':Exit→Zb→Prop}(hq:∀e s',Q e s'→Q' e s'):∀{k:List Itm} {e:Exit} {s:Zb},AX P φ n N Q k e s→AX P φ n N Q' k e s
 |[],_,_,h=>hq _ _ h
 | .code _::k,e,s,h=>by
  cases e with
  |normal=>exact AC.mono h fun e s'=>Zam hq (k:=k)
  |_=>exact Zam hq (k:=k) h
 | .blk id::k,e,s,h=>by
  cases e with
  |exit id'=>
   simp only[AX]at h⊢;split at h
   ·rename_i he;simp only[he,if_true];exact Zam hq (k:=k) h
   ·rename_i he;simp only[he,if_false];exact Zam hq (k:=k) h
  |_=>exact Zam hq (k:=k) h
end
def AV.ofCell:Value→AV
 | .int k n=>.int k n
 | .bool b=>.bool b
 | .string s=>.str s.data.toList
 | .pointer none=>.nilp
 | .slice none n c=>if n=0∧c=0 then .sl 0 [] .full else .dead
 | .nilFunc=>.nilf
 | .map none=>.nilm
 | .func f a b=>if a.size=0∧b.size=0 then .fn f []else .dead
 |_=>.dead
def ZnU(E:Env)(v:Value):VR E (.ofCell v) v:=by
 cases v with
 |int k n=>exact .int _ _
 |bool b=>exact .bool _
 |string s=>
  have:s=⟨s.data.toList.toArray⟩:=sm;simp only[AV.ofCell];rw[this];exact .str _
 |pointer a=>cases a with
  |none=>exact .nilp
  |some a=>exact .dead _
 |slice a n c=>cases a with
  |none=>
   simp only[AV.ofCell];split
   ·rename_i h;obtain⟨rfl,rfl⟩:=h;exact .slnil 0 .full none rfl (fun _=>rfl)
   ·exact .dead _
  |some a=>exact .dead _
 |nilFunc=>exact .nilf
 |map r=>cases r with
  |none=>exact .nilm
  |some r=>exact .dead _
 |func f a b=>
  simp only[AV.ofCell];split
  ·rename_i h;obtain⟨h1,h2⟩:=h;have e1:a= #[]:=Mc h1;have e2:b= #[]:=Mc h2;subst e1 e2;exact VR.fn _ [] [] rfl (fun i h=>absurd h (Qo _))
  ·exact .dead _
 |_=>exact .dead _
def AV.ofValue:Value→AV
 | .int k n=>.int k n
 | .bool b=>.bool b
 | .string s=>.str s.data.toList
 | .pointer none=>.nilp
 | .slice none n c=>if n=0∧c=0 then .sl 0 [] .full else .dead
 | .nilFunc=>.nilf
 | .map none=>.nilm
 | .func f a b=>if a.size=0∧b.size=0 then .fn f []else .dead
 | .agg vs=>.agg (vs.toList.map .ofCell)
 |_=>.dead
def ZgA(E:Env)(v:Value):VR E (.ofValue v) v:=by
 cases v with
 |int k n=>exact .int _ _
 |bool b=>exact .bool _
 |string s=>
  have:s=⟨s.data.toList.toArray⟩:=sm;simp only[AV.ofValue];rw[this];exact .str _
 |pointer a=>cases a with
  |none=>exact .nilp
  |some a=>exact .dead _
 |slice a n c=>cases a with
  |none=>
   simp only[AV.ofValue];split
   ·rename_i h;obtain⟨rfl,rfl⟩:=h;exact .slnil 0 .full none rfl (fun _=>rfl)
   ·exact .dead _
  |some a=>exact .dead _
 |nilFunc=>exact .nilf
 |map r=>cases r with
  |none=>exact .nilm
  |some r=>exact .dead _
 |func f a b=>
  simp only[AV.ofValue];split
  ·rename_i h;obtain⟨h1,h2⟩:=h;have e1:a= #[]:=Mc h1;have e2:b= #[]:=Mc h2;subst e1 e2;exact VR.fn _ [] [] rfl (fun i h=>absurd h (Qo _))
  ·exact .dead _
 |agg vs=>
  have e:vs=vs.toList.toArray:=sm;simp only[AV.ofValue]
  conv=>arg 3;rw[e]
  exact .agg _ _ sm fun i h h'=>by rw[QN];exact ZnU E _
 |_=>exact .dead _
def Zb.ev(s:Zb):Operand→AV
 | .tmp t=>lkv s.tmps t
 | .const v=>.ofValue v
 | .global _=>.dead
 | .func f=>.fn (.func f) []
def evT(tm:List (Nat×AV)):Operand→AV
 | .tmp t=>lkv tm t
 | .const v=>.ofValue v
 | .global _=>.dead
 | .func f=>.fn (.func f) []
def ZdS{tm:List (Nat×AV)}{a:Act}(h:∀t,VR E (lkv tm t) (a.tmps.getD t undef))(x:Operand):VR E (evT tm x) (a.eval x):=by
 cases x with
 |tmp t=>exact h t
 |const v=>exact ZgA E v
 |global g=>exact .dead _
 |func f=>exact VR.fn _ [] [] rfl (fun i h=>absurd h (Qo _))
def Zna{k:List Itm}{c:Operand}{x y:Code}{t:Bool}(hc:evT s.tmps c= .bool t)
  (ht:t=true→AK P φ n N (.code x::k) Q s) (hf:t=false→AK P φ n N (.code y::k) Q s):AK P φ n N (.code (.cond c x y)::k) Q s:=fun E w a hs=>by
 have hv:=ZdS hs.tmps c;rw[hc]at hv;cases hb:a.eval c<;>rw[hb]at hv<;>cases hv;exact wpIn_cond_split hb (fun h=>ht h E w a hs) (fun h=>hf h E w a hs)
def AWk(n N:Nat)(s s':Zb):Prop:=∀B E w a,Yq B n N s E a w→ ∃E',Yq B n N s' E' a w∧Ext n E w E' w
def Zq9{s':Zb}
  (hw:AWk n N s s') (h:AC P φ n N c Q s'):AC P φ n N c Q s:=fun E w a hs=>by
 obtain⟨E',hs',hx⟩:=hw _ E w a hs;exact AC.run h hs' hx
end
def XO(P:Program)(m:Nat)(o:Oper)(ρ:Operand→AV)(H:Za)(v:AV)(H':Za):Prop:=
 ∀E w (a:Act) (Q:Exit→Act→World→Prop) (K:Act→World→Prop),Zt m H E w→(∀x∈o.op.operands,VR E (ρ x) (a.eval x))→
  (∀E' w' cv,VR E' v cv→Zt m H' E' w'→Ext m E w E' w'→K (a.put o.dst cv) w')→ ∀ro,o.wpIn (fr ro) 0 P a w K Q
def Yr(ops:List Oper)(tm:List (Nat×AV))(o:Oper):Option Bool:=
 match o.guard with
 |none=>some true
 |some (j,want)=>match (ops[j]?).bind (·.dst)with
  |none=>some false
  |some d=>match lkv tm d with
   | .bool b=>some (b==want)
   | .tup []=>some false
   |_=>none
def Yk(tm:List (Nat×AV))(d:Option Nat)(v:AV):List (Nat×AV):=
 match d with
 |none=>tm
 |some d=>(d,v)::tm
def JH(tm:List (Nat×AV))(d:Option Nat)(v:AV)(t:Nat):lkv (Yk tm d v) t=if d=some t then v else lkv tm t:=by
 cases d with
 |none=>simp[Yk]
 |some d=>simp only[Yk,lkv,Qp]
section
variable {cv:Value} {d:Option Nat} {a:Act}
def V9{N t:Nat}(hs:a.tmps.size=N)(hd:∀x,d=some x→x<N):
  (a.put d cv).tmps.getD t undef=if d=some t then cv else a.tmps.getD t undef:=by
 cases d with
 |none=>simp[Act.put]
 |some d=>
  have hlt:=hd d rfl;simp only[Act.put,Qp,QE];by_cases h:d=t
  ·subst h;simp[hs,hlt]
  ·simp[h,UQ h]
def size_put:(a.put d cv).tmps.size=a.tmps.size:=by
 cases d<;>simp[Act.put]
def Ws:(a.put d cv).defers=a.defers:=by
 cases d<;>rfl
variable {tm:List (Nat×AV)}
def Xe{E:Env}{ops:Array Oper}{o:Oper}{g:Bool}
  (hv:∀j w d,o.guard=some (j,w)→(ops[j]?).bind (·.dst)=some d→VR E (lkv tm d) (a.tmps.getD d undef)) (hg:Yr ops.toList tm o=some g):
  Region.wanted o (yielded ops a.tmps)=g:=by
 unfold Yr at hg;unfold Region.wanted;cases hgd:o.guard with
 |none=>simp only[hgd,Qp]at hg;simpa using hg
 |some jw=>
  obtain⟨j,want⟩:=jw;simp only[hgd,U0]at hg;simp only[yielded];cases hd:(ops[j]?).bind (·.dst)with
  |none=>simp only[hd,Qp]at hg;subst hg;simp
  |some d=>
   simp only[hd]at hg;have h1:=hv j want d hgd hd;simp only[UJ];rw[QE]at h1;cases hx:a.tmps[d]? with
   |none=>
    rw[hx]at h1;simp only[Qbv,undef]at h1;split at hg
    ·rename_i b hb;rw[hb]at h1;cases h1
    ·simp only[Qp]at hg;subst hg;simp
    ·cases hg
   |some x=>
    rw[hx]at h1;simp only[Um]at h1;split at hg
    ·rename_i b hb;rw[hb]at h1;cases h1;simp only[Qp]at hg;subst hg;cases b<;>cases want<;>rfl
    ·rename_i hb;rw[hb]at h1;simp only[Qp]at hg;subst hg;cases h1 with
     |tup _ vs hl _=>
      have:vs=[]:=by simpa using hl
      subst this;rfl
    ·cases hg
def V4(E:Env):VR E (.tup []) undef:=VR.tup [] [] rfl (fun i h=>absurd h (Qo _))
inductive Kd where
 |p|t|w
 |a (d:Nat)
 |b (l d:Nat)
 deriving DecidableEq
def Kd.touches(n:Nat):Kd→Nat→Nat→Bool
 | .w,_,_=>true
 | .a d,l,s=>l==n&&s==d
 | .b l' d,l,s=>l==l'&&s==d
 |_,_,_=>false
def JX(n:Nat)(A:Nat→Bool)(G H:Za):Prop:=∀l s,(l=n→A s=false)→G l s=H l s
def Kd.sem(P:Program)(m n:Nat)(A:Nat→Bool)(o:Oper)(ρ:Operand→AV)(H:Za)(v:AV)(H':Za):Kd→Prop
 | .p=>(∀G,XO P m o ρ G v G)∧H'=H
 | .t=>(∀G,JX n A G H→XO P m o ρ G v G)∧H'=H
 | .w=>XO P m o ρ H v H'
 | .a d=>∃b,(∀G,G n d=H n d→XO P m o ρ G v (G.upd n d b))∧H'=H.upd n d b
 | .b l d=>∃b,(∀G,G l d=H l d→XO P m o ρ G v (G.upd l d b))∧H'=H.upd l d b
def Zex(len:Nat)(kd:Nat→Kd)(s:Nat):Bool:=(List.range len).any fun i=>kd i== .a s
inductive Zai (P:Program) (m n:Nat) (A:Nat→Bool) (all:List Oper) (kd:Nat→Kd):Nat→List Oper→List (Nat×AV)→Za→List (Nat×AV)→Za→Prop
 |nil (i:Nat) (tm:List (Nat×AV)) (H:Za):Zai P m n A all kd i [] tm H tm H
 |run (i:Nat) (o:Oper) (r:List Oper) (tm tm':List (Nat×AV)) (H H1 H':Za) (v:AV) (hg:Yr all tm o=some true) (h:(kd i).sem P m n A o (evT tm) H v H1)
   (hr:Zai P m n A all kd (i+1) r (Yk tm o.dst v) H1 tm' H'):Zai P m n A all kd i (o::r) tm H tm' H'
 |pass (i:Nat) (o:Oper) (r:List Oper) (tm tm':List (Nat×AV)) (H H':Za) (hg:Yr all tm o=some false)
   (hr:Zai P m n A all kd (i+1) r (Yk tm o.dst (.tup [])) H tm' H'):Zai P m n A all kd i (o::r) tm H tm' H'
structure ZgH (P:Program) (m n:Nat) (A:Nat→Bool) (all:List Oper) (kd:Nat→Kd) (tm:Nat→List (Nat×AV)) (H:Nat→Za) (val:Nat→AV) (i0:Nat) (l:List Oper):Prop where
 step:∀j o,l[j]? =some o→tm (j+1)=Yk (tm j) o.dst (val j)∧
  ((Yr all (tm j) o=some true∧(kd (i0+j)).sem P m n A o (evT (tm j)) (H j) (val j) (H (j+1)))∨
   (Yr all (tm j) o=some false∧val j= .tup []∧H (j+1)=H j))
variable {kd:Nat→Kd} {n:Nat}
def Zai.course{P:Program}{m:Nat}{A:Nat→Bool}{all:List Oper}{i:Nat}{l:List Oper}{tm':List (Nat×AV)}{H H':Za}
  (h:Zai P m n A all kd i l tm H tm' H'):∃T G V,T 0=tm∧G 0=H∧T l.length=tm'∧G l.length=H'∧ZgH P m n A all kd T G V i l:=by
 induction h with
 |nil i tm H=>exact⟨fun _=>tm,fun _=>H,fun _=>.dead,rfl,rfl,rfl,rfl,⟨fun j o h=>by simp at h⟩⟩
 |run i o r tm tm' H H1 H' v hg h _ ih=>
  obtain⟨T,G,V,t0,g0,t1,g1,hc⟩:=ih;refine⟨fun j=>match j with|0=>tm|j+1=>T j,fun j=>match j with|0=>H|j+1=>G j,fun j=>match j with|0=>v|j+1=>V j,rfl,rfl,t1,g1,⟨?_⟩⟩;intro j o' hj;cases j with
  |zero=>
   simp only[GI,Qp]at hj;subst hj;exact⟨t0,.inl ⟨hg,by simp only[g0];exact h⟩⟩
  |succ j=>
   simp only[U2]at hj;have:=hc.step j o' hj;rw[show i+1+j=i+(j+1) by omega]at this;exact this
 |pass i o r tm tm' H H' hg _ ih=>
  obtain⟨T,G,V,t0,g0,t1,g1,hc⟩:=ih;refine⟨fun j=>match j with|0=>tm|j+1=>T j,fun j=>match j with|0=>H|j+1=>G j,fun j=>match j with|0=>.tup []|j+1=>V j,rfl,rfl,t1,g1,⟨?_⟩⟩;intro j o' hj;cases j with
  |zero=>
   simp only[GI,Qp]at hj;subst hj;exact⟨t0,.inr ⟨hg,rfl,g0⟩⟩
  |succ j=>
   simp only[U2]at hj;have:=hc.step j o' hj;rw[show i+1+j=i+(j+1) by omega]at this;exact this
def Zjb(o:Oper)(acc:List Nat):Nat:=
 o.after.toList.foldl (fun m e=>if Region.binds .any e then(m|||(2^e.on))|||(acc.getD e.on 0)else m) 0
def ancL:List Oper→List Nat→List Nat
 |[],acc=>acc
 |o::r,acc=>ancL r (acc++[Zjb o acc])
def Closed(ops:List Oper)(D:Nat→Prop):Prop:=∀i o,ops[i]? =some o→D i→ ∀e∈o.after.toList,Region.binds .any e=true→D e.on
variable {D:Nat→Prop}
def Zir{o:Oper}{acc:List Nat}(hacc:∀i,D i→ ∀j,(acc.getD i 0).testBit j=true→D j)
  (ho:∀e∈o.after.toList,Region.binds .any e=true→D e.on) (j:Nat) (hj:(Zjb o acc).testBit j=true):D j:=by
 have key:∀(l:List Edge) (m:Nat),(∀j,m.testBit j=true→D j)→(∀e∈l,Region.binds .any e=true→D e.on)→
   ∀j,(l.foldl (fun m e=>if Region.binds .any e then(m|||(2^e.on))|||(acc.getD e.on 0)else m) m).testBit j=true→D j:=by
  intro l;induction l with
  |nil=>intro m hm _ j hj;exact hm j hj
  |cons e l ih=>
   intro m hm hl j hj;simp only[Uz]at hj;refine ih _ ?_ (fun e' he'=>hl e' (Qz _ he')) j hj;intro j hj;split at hj
   ·rename_i hb;have hd:=hl e sm hb;simp only[Nat.testBit_or,GR]at hj;rcases hj with(h|h)|h
    ·exact hm j h
    ·rw[Nat.testBit_two_pow]at h;have:e.on=j:=by simpa using h
     exact this▸hd
    ·exact hacc _ hd j h
   ·exact hm j hj
 exact key _ 0 (fun j h=>by simp at h) ho j hj
variable {ops:List Oper}
def Zf2(hD:Closed ops D):∀(r:List Oper) (acc:List Nat),ops.drop acc.length=r→
  (∀i,D i→ ∀j,(acc.getD i 0).testBit j=true→D j)→ ∀i,D i→ ∀j,((ancL r acc).getD i 0).testBit j=true→D j:=by
 intro r;induction r with
 |nil=>intro acc _ h;exact h
 |cons o r ih=>
  intro acc hr h;refine ih (acc++[Zjb o acc]) (by rw[Qh,←UZ,hr];rfl) ?_;intro i hi j hj;rcases Qbk i acc.length with hlt|heq|hgt
  ·rw[Qn,UE hlt,←Qn]at hj;exact h i hi j hj
  ·subst heq;rw[Qn,Gu (Qg _)]at hj;simp at hj;have ho:ops[acc.length]? =some o:=by
    have:=congrArg (·[0]?) hr;simpa[UM]using this
   exact Zir h (fun e he hb=>hD _ _ ho hi e he hb) j hj
  ·rw[Qn,Uu (by simp;omega)]at hj;simp at hj
def looks(ops:List Oper)(o:Oper):List Nat:=
 (o.op.operands.toList.filterMap fun| .tmp t=>some t|_=>none)++(match o.guard with|some (g,_)=>((ops[g]?).bind (·.dst)).toList|none=>[])
def Kd.clash:Kd→Kd→Bool
 | .w,.p=>false
 | .w,_=>true
 | .p,.w=>false
 |_,.w=>true
 | .a d,.a d'=>d==d'
 | .b _ d,.b _ d'=>d==d'
 | .a d,.b _ d'=>d==d'
 | .b _ d,.a d'=>d==d'
 | .b _ _,.t=>true
 | .t,.b _ _=>true
 |_,_=>false
def clash(ops:List Oper)(kd:Nat→Kd)(i j:Nat)(x y:Oper):Bool:=
 (match x.dst with|some d=>(looks ops y).contains d||y.dst==some d|none=>false)||
 (match y.dst with|some d=>(looks ops x).contains d|none=>false)||
 (kd i).clash (kd j)
def Xh{i j:Nat}{x y:Oper}(h:(kd i).clash (kd j)=true):clash ops kd i j x y=true:=by
 unfold clash;rw[h];simp
variable {κ:Kd}
def Kd.Zji(h:κ≠ .p):Kd.clash .w κ=true∧Kd.clash κ .w=true:=by
 cases κ<;>first|exact absurd rfl h|exact⟨rfl,rfl⟩
def Kd.Zs4{l s:Nat}(h:κ.touches n l s=true):κ≠ .p:=by
 intro e;subst e;cases h
theorem Kd.VW{κ':Kd}{l s:Nat}(h:κ.touches n l s=true)(h':κ'.touches n l s=true):κ.clash κ'=true:=by
 cases κ with
 |p=>cases h
 |t=>cases h
 |w=>exact(Kd.Zji (Kd.Zs4 h')).1
 |a d=>cases κ' with
  |p=>cases h'
  |t=>cases h'
  |w=>rfl
  |a d'=>
   simp only[Kd.touches,Qd,beq_iff_eq]at h h';simp[Kd.clash,←h.2,←h'.2]
  |b l' d'=>
   simp only[Kd.touches,Qd,beq_iff_eq]at h h';simp[Kd.clash,←h.2,←h'.2]
 |b l0 d=>cases κ' with
  |p=>cases h'
  |t=>cases h'
  |w=>rfl
  |a d'=>
   simp only[Kd.touches,Qd,beq_iff_eq]at h h';simp[Kd.clash,←h.2,←h'.2]
  |b l' d'=>
   simp only[Kd.touches,Qd,beq_iff_eq]at h h';simp[Kd.clash,←h.2,←h'.2]
def ZqX{β:Type}(x:Nat)(f:Nat→β):β:=match x with
 |0=>f 0
 |n+1=>f (n+1)
def Zoi{β:Type}(x:Nat)(f:Nat→β):ZqX x f=f x:=by cases x<;>rfl
def ancK:List Oper→List Nat→(List Nat→Bool)→Bool
 |[],acc,k=>k acc
 |o::r,acc,k=>ZqX (Zjb o acc) fun m=>ancK r (acc++[m]) k
theorem ancK_eq:∀(ops:List Oper) (acc:List Nat) (k:List Nat→Bool),ancK ops acc k=k (ancL ops acc)
 |[],acc,k=>rfl
 |o::r,acc,k=>by rw[ancK,Zoi,ancK_eq r,ancL]
def WI(ops:List Oper)(kd:Nat→Kd):Bool:=
 ancK ops [] fun ms=>ops.zipIdx.all fun(y,j)=>y.after.toList.all (fun e=>!Region.binds .any e||e.on<j)&&
  ops.zipIdx.all fun(x,i)=>!(i<j)|| !clash ops kd i j x y||(ms.getD j 0).testBit i
structure Ordered (ops:List Oper) (kd:Nat→Kd):Prop where
 back:∀j y,ops[j]? =some y→ ∀e∈y.after.toList,Region.binds .any e=true→e.on<j
 cmp:∀i j x y,i<j→ops[i]? =some x→ops[j]? =some y→clash ops kd i j x y=true→ ∀D,Closed ops D→D j→D i
def ZcF(h:WI ops kd=true):Ordered ops kd:=by
 simp only[WI,ancK_eq,Qy,Qd]at h;have hz:∀j y,ops[j]? =some y→(y,j)∈ops.zipIdx:=fun j y hy=>by
  rw[Qam];exact hy
 constructor
 ·intro j y hy e he hb;have:=(h (y,j) (hz j y hy)).1 e he;simpa[hb]using this
 ·intro i j x y hij hx hy hc D hD hDj;have:=(h (y,j) (hz j y hy)).2 (x,i) (hz i x hx);simp only[hc,hij,decide_true,U6,U5]at this;exact Zf2 hD ops [] rfl (fun i _ j hj=>by simp at hj) j hDj i this
end
def ZdF(ops:List Oper)(k:Nat):Option Nat:=(ops[k]?).bind (·.dst)
def va(ops:List Oper)(t0:Nat→AV)(V:Nat→AV)(L:Nat→Bool):Nat→Nat→AV
 |0,t=>t0 t
 |k+1,t=>if L k=true∧ZdF ops k=some t then V k else va ops t0 V L k t
def hv(n:Nat)(kd:Nat→Kd)(G:Nat→Za)(L:Nat→Bool):Nat→Za
 |0=>G 0
 |k+1=>fun l s=>if L k=true∧(kd k).touches n l s=true then G (k+1) l s else hv n kd G L k l s
theorem Zcu(n:Nat)(kd:Nat→Kd)(G:Nat→Za)(L:Nat→Bool)(k l s:Nat):
  hv n kd G L (k+1) l s=if L k=true∧(kd k).touches n l s=true then G (k+1) l s else hv n kd G L k l s:=rfl
section
variable {P:Program} {m nl:Nat} {A:Nat→Bool} {ops:List Oper} {kd:Nat→Kd} {T:Nat→List (Nat×AV)} {G:Nat→Za} {V:Nat→AV}
def Zjj{l0 post:List Oper}(hp:ops=l0++post)(hc:ZgH P m nl A ops kd T G V 0 l0){L:Nat→Bool}{t:Nat}:∀{i:Nat},i≤l0.length→(∀k,k<i→ZdF ops k=some t→L k=true)→
  va ops (lkv (T 0)) V L i t=lkv (T i) t:=by
 intro i;induction i with
 |zero=>intro _ _;rfl
 |succ i ih=>
  intro hi h;have ho:l0[i]? =some l0[i]:=Qb om;have ho':ops[i]? =some l0[i]:=by rw[hp,UE om];exact ho
  rw[(hc.step i _ ho).1,JH,va,ih om (fun k hk=>h k om)];have hd:ZdF ops i=l0[i].dst:=by simp[ZdF,ho']
  by_cases hx:l0[i].dst=some t
  ·rw[if_pos ⟨h i om (hd.trans hx),hd.trans hx⟩,if_pos hx]
  ·rw[if_neg (fun c=>hx (hd▸c.2)),if_neg hx]
def ZiE{L:Nat→Bool}{t i:Nat}{t0:Nat→AV}:∀{n:Nat},i≤n→(∀k,i≤k→k<n→ZdF ops k=some t→L k=false)→
  va ops t0 V L n t=va ops t0 V L i t:=by
 intro n;induction n with
 |zero=>
  intro hi _;have:i=0:=om;subst this;rfl
 |succ n ih=>
  intro hi h;rcases Qe n i with hlt|hge
  ·have:i=n+1:=om;subst this;rfl
  ·rw[va,if_neg,ih hge (fun k h1 h2=>h k h1 om)];rintro⟨h1,h2⟩;rw[h n hge om h2]at h1;cases h1
def Zq7{L L':Nat→Bool}{t:Nat}{t0:Nat→AV}:∀{n:Nat},(∀k,k<n→ZdF ops k=some t→L k=L' k)→va ops t0 V L n t=va ops t0 V L' n t:=by
 intro n;induction n with
 |zero=>intro _;rfl
 |succ n ih=>
  intro h;simp only[va];rw[ih (fun k hk=>h k om)];by_cases hd:ZdF ops n=some t
  ·rw[h n om hd]
  ·simp[hd]
def ZrM{o:Oper}{ρ:Operand→AV}{H H':Za}{v:AV}{κ:Kd}(h:κ.sem P m nl A o ρ H v H'){l s:Nat}(ht:κ.touches nl l s=false):H' l s=H l s:=by
 cases κ with
 |p=>exact congrFun (congrFun h.2 l) s
 |t=>exact congrFun (congrFun h.2 l) s
 |w=>cases ht
 |a d=>
  obtain⟨b,_,rfl⟩:=h;simp only[Za.upd];rw[if_neg];rintro⟨rfl,rfl⟩;simp[Kd.touches]at ht
 |b l0 d=>
  obtain⟨b,_,rfl⟩:=h;simp only[Za.upd];rw[if_neg];rintro⟨rfl,rfl⟩;simp[Kd.touches]at ht
def Ziy{l0:List Oper}(hc:ZgH P m nl A ops kd T G V 0 l0){L:Nat→Bool}{l s:Nat}:∀{i:Nat},i≤l0.length→(∀k,k<i→(kd k).touches nl l s=true→L k=true)→hv nl kd G L i l s=G i l s:=by
 intro i;induction i with
 |zero=>intro _ _;rfl
 |succ i ih=>
  intro hi h;have ho:l0[i]? =some l0[i]:=Qb om;have hs:=(hc.step i _ ho).2;rw[Zcu,ih om (fun k hk=>h k om)];by_cases hw:(kd i).touches nl l s=true
  ·rw[if_pos ⟨h i om hw,hw⟩]
  ·rw[if_neg (fun c=>hw c.2)];rcases hs with⟨_,hs⟩|⟨_,_,hs⟩
   ·rw[QK]at hs;exact(ZrM hs (by simpa using hw)).symm
   ·exact(congrFun (congrFun hs l) s).symm
def ZiB{L:Nat→Bool}{i l s:Nat}:∀{n:Nat},i≤n→(∀k,i≤k→k<n→(kd k).touches nl l s=true→L k=false)→hv nl kd G L n l s=hv nl kd G L i l s:=by
 intro n;induction n with
 |zero=>
  intro hi _;have:i=0:=om;subst this;rfl
 |succ n ih=>
  intro hi h;rcases Qe n i with hlt|hge
  ·have:i=n+1:=om;subst this;rfl
  ·rw[Zcu,if_neg,ih hge (fun k h1 h2=>h k h1 om)];rintro⟨h1,h2⟩;rw[h n hge om h2]at h1;cases h1
def Zpf{L L':Nat→Bool}{l s:Nat}:∀{n:Nat},(∀k,k<n→(kd k).touches nl l s=true→L k=L' k)→hv nl kd G L n l s=hv nl kd G L' n l s:=by
 intro n;induction n with
 |zero=>intro _;rfl
 |succ n ih=>
  intro h;simp only[Zcu];rw[ih (fun k hk=>h k om)];by_cases hd:(kd n).touches nl l s=true
  ·rw[h n om hd]
  ·simp[hd]
end
def unl(l:Array Bool):Nat:=l.toList.countP (· ==false)
section
variable {l:Array Bool}
def Zre{i:Nat}(h:i<l.size)(hf:l.getD i true=false):unl (l.setIfInBounds i true)+1=unl l:=by
 have hx:l.toList[i]'(by simpa using h)=false:=by simpa[QE,h]using hf
 unfold unl;rw[Qa6];have key:∀(l:List Bool) (i:Nat) (h:i<l.length),l[i]=false→(l.set i true).countP (· ==false)+1=l.countP (· ==false):=by
  intro l;induction l with
  |nil=>intro i h;simp at h
  |cons a l ih=>
   intro i h hx;cases i with
   |zero=>
    have ha:a=false:=by simpa using hx
    subst ha;rw[UO,QaP,QaP];rfl
   |succ i=>
    have:=ih i (by simpa using h) (by simpa using hx);rw[U4,QaP,QaP];omega
 exact key _ _ _ hx
def Zkq(h:unl l=0)(i:Nat)(hi:i<l.size):l.getD i true=true:=by
 unfold unl at h;rw[List.countP_eq_zero]at h;have:=h (l.toList[i]'(by simpa using hi)) (Qa _);simpa[QE,hi]using this
variable {V:Nat→AV} {G:Nat→Za} {T:Nat→List (Nat×AV)} {kd:Nat→Kd} {Q:Exit→Act→World→Prop} {ops:Array Oper}
theorem ZcL{P:Program}(ro:Option Nat)(ds:List Deferred){m nl N:Nat}{l0 post:List Oper}(hp:ops.toList=l0++post)
  (hd:∀o∈ops.toList,∀x,o.dst=some x→x<N) (hc:ZgH P m nl (Zex ops.toList.length kd) ops.toList kd T G V 0 l0) (hO:Ordered ops.toList kd) (E0:Env) (w0:World)
  (hpv:post≠[]→ ∀i,i<ops.size→ ∀D,Closed ops.toList D→(i<l0.length→D l0.length→D i)∧(l0.length<i→D i→D l0.length))
  (hX:∀o,ops[l0.length]? =some o→ ∀E' w' a' K,a'.tmps.size=N→a'.defers=ds→(∀t,VR E' (lkv (T l0.length) t) (a'.tmps.getD t undef))→Zt m (G l0.length) E' w'→Ext m E0 w0 E' w'→wpOpIn (fr ro) 0 P ops Q l0.length K a' w')
  (hQ:post=[]→ ∀E' w' a',a'.tmps.size=N→a'.defers=ds→(∀t,VR E' (lkv (T ops.size) t) (a'.tmps.getD t undef))→Zt m (G ops.size) E' w'→Ext m E0 w0 E' w'→Q .normal a' w'):
  ∀(fuel:Nat) (listed:Array Bool) (E:Env) (w:World) (a:Act),unl listed≤fuel→listed.size=ops.size→Closed ops.toList (fun i=>listed.getD i false=true)→
   listed.getD l0.length false=false→a.tmps.size=N→a.defers=ds→(∀t,VR E (va ops.toList (lkv (T 0)) V (listed.getD · false) ops.size t) (a.tmps.getD t undef))→
   Zt m (hv nl kd G (listed.getD · false) ops.size) E w→Ext m E0 w0 E w→wpAnyIn (fr ro) 0 P .any ops Q fuel listed a w:=by
 have hpl:ops.size=l0.length+post.length:=by
  have:=congrArg List.length hp;simpa using this
 have hpn:post≠[]→l0.length<ops.size:=fun h=>by
  have:=G9.2 h;omega
 intro fuel;induction fuel with
 |zero=>
  intro listed E w a hu hsz hcl hlp h1 h2 h3 h4 h5;have hall:∀i,i<ops.size→listed.getD i false=true:=fun i hi=>by
   have:=Zkq (Nat.le_zero.1 hu) i om;simpa[QE,hsz,hi]using this
  have hpe:post=[]:=Qbj fun h=>by
   have:=hall _ (hpn h);rw[hlp]at this;cases this
  subst hpe;rw[Qs]at hp;have hp':ops.toList=l0++[]:=by rw[hp,Qs]
  rw[QB,UF]at hpl;refine⟨?_,hQ rfl E w a h1 h2 (fun t=>?_) ?_ h5⟩
  ·simp only[Region.ready];rw[Qbw];intro i hi;have hi':i<ops.size:=by simpa using hi
   have:=Zkq (Nat.le_zero.1 hu) i om;simp[this]
  ·have:=h3 t
   rwa [hpl,Zjj hp' hc (Qg _) (fun k hk _=>hall k om),←hpl]at this
  ·rwa [show hv nl kd G (listed.getD · false) ops.size=G ops.size from funext fun l=>funext fun s=>by
    rw[hpl];exact Ziy hc (Qg _) (fun k hk _=>hall k om)]at h4
 |succ fuel ih=>
  intro listed E w a hu hsz hcl hlp h1 h2 h3 h4 h5;refine⟨fun hnil=>?_,fun i hi=>?_⟩
  ·-- nothing is ready:all are done
   have hall:∀i,i<ops.size→listed.getD i false=true:=by
    intro i;induction i using Nat.strongRecOn with
    |_ i hi=>
     intro hlt;cases hli:listed.getD i false with
     |true=>rfl
     |false=>
      exfalso
      simp only[Region.ready]at hnil;rw[Qbw]at hnil;refine hnil i (by simpa using hlt) ?_;have ho:ops[i]? =some ops[i]:=UG hlt;have hlt':listed.getD i true=false:=by simpa[QE,hsz,hlt]using hli
      simp only[hlt',U8,Ud,ho,Us,Um];rw[←Array.all_toList,Qy];intro e he;cases hb:Region.binds .any e with
      |false=>rfl
      |true=>
       have hlt2:=hO.back i ops[i] (by rw[U0];exact ho) e he hb;simp[hi e.on hlt2 om]
   have hpe:post=[]:=Qbj fun h=>by
    have:=hall _ (hpn h);rw[hlp]at this;cases this
   subst hpe;rw[Qs]at hp;have hp':ops.toList=l0++[]:=by rw[hp,Qs]
   rw[QB,UF]at hpl;refine hQ rfl E w a h1 h2 (fun t=>?_) ?_ h5
   ·have:=h3 t
    rwa [hpl,Zjj hp' hc (Qg _) (fun k hk _=>hall k om),←hpl]at this
   ·rwa [show hv nl kd G (listed.getD · false) ops.size=G ops.size from funext fun l=>funext fun s=>by
     rw[hpl];exact Ziy hc (Qg _) (fun k hk _=>hall k om)]at h4
  ·-- one that is ready
   simp only[Region.ready,Uy,U9,Qd,MJ]at hi;obtain⟨hlt,hun,haft⟩:=hi;have ho:ops[i]? =some ops[i]:=UG hlt;generalize hoi:ops[i]=o at ho;have hol:ops.toList[i]? =some o:=by rw[U0];exact ho
   have hmem:o∈ops.toList:=GH hol;simp only[ho,Us,Um]at haft;rw[←Array.all_toList,Qy]at haft;have hLi:listed.getD i false=false:=by
    have:=hun;simpa[QE,hsz,hlt]using this
   have hcl':Closed ops.toList (fun j=>listed.getD j false=true∨j=i):=by
    intro j o' hj hjD e he hb;rcases hjD with hjD|rfl
    ·exact .inl (hcl j o' hj hjD e he hb)
    ·rw[hol]at hj;cases hj;have:=haft e he;simp only[hb,U6,U5]at this;exact .inl this
   rcases Qbk i l0.length with hi0|hi0|hi0
   rotate_left
   ·have hne:post≠[]:=fun h=>by rw[h,QB]at hpl;omega
    have hlo:∀k,k<l0.length→listed.getD k false=true:=fun k hk=>by
     rcases(hpv hne k om _ hcl').1 hk (.inr hi0.symm)with h|h
     ·exact h
     ·omega
    have hhi:∀k,l0.length≤k→k<ops.size→listed.getD k false=false:=fun k hk hks=>by
     rcases Qbe hk with hk|rfl
     ·cases hlk:listed.getD k false with
      |false=>rfl
      |true=>exact absurd ((hpv hne k hks _ hcl).2 hk hlk) (by rw[hlp];simp)
     ·exact hlp
    subst hi0;refine hX o ho E w a _ h1 h2 (fun t=>?_) ?_ h5
    ·have:=h3 t
     rwa [ZiE (i:=l0.length) om (fun k hk hkn _=>hhi k hk hkn),Zjj hp hc (Qg _) (fun k hk _=>hlo k hk)]at this
    ·rwa [show hv nl kd G (listed.getD · false) ops.size=G l0.length from funext fun l=>funext fun s=>by
      rw[ZiB (i:=l0.length) om (fun k hk hkn _=>hhi k hk hkn)];exact Ziy hc (Qg _) (fun k hk _=>hlo k hk)]at h4
   ·have hne:post≠[]:=fun h=>by rw[h,QB]at hpl;omega
    rcases(hpv hne i hlt _ hcl').2 hi0 (.inr rfl)with h|h
    ·rw[hlp]at h;cases h
    ·omega
   have hol0:l0[i]? =some o:=by
    rw[hp,UE hi0]at hol;exact hol
   have hbefore:∀j x,j<i→ops.toList[j]? =some x→clash ops.toList kd j i x o=true→listed.getD j false=true:=by
    intro j x hji hx hcl2;rcases hO.cmp j i x o hji hx hol hcl2 _ hcl' (.inr rfl)with h|h
    ·exact h
    ·omega
   have hafter:∀j y,i<j→ops.toList[j]? =some y→clash ops.toList kd i j o y=true→listed.getD j false=false:=by
    intro j y hij hy hcl2;cases hlj:listed.getD j false with
    |false=>rfl
    |true=>
     have:=hO.cmp i j o y hij hol hy hcl2 _ hcl hlj;rw[hLi]at this;cases this
   have hlen:ops.toList.length=ops.size:=by simp
   have hlook:∀t,t∈looks ops.toList o→va ops.toList (lkv (T 0)) V (listed.getD · false) ops.size t=lkv (T i) t:=by
    intro t ht;rw[ZiE (i:=i) om,Zjj hp hc om]
    ·intro k hk hdk;obtain⟨x,hx,hxd⟩:=U1.1 hdk;refine hbefore k x hk hx ?_;simp[clash,hxd,ht]
    ·intro k hk hkn hdk;obtain⟨x,hx,hxd⟩:=U1.1 hdk;rcases Qbe hk with hk|rfl
     ·refine hafter k x hk hx ?_;simp[clash,hxd,ht]
     ·exact hLi
   have hslot:∀l s,(∀k x,ops.toList[k]? =some x→k≠i→(kd k).touches nl l s=true→clash ops.toList kd k i x o=true∧clash ops.toList kd i k o x=true)→hv nl kd G (listed.getD · false) ops.size l s=G i l s:=by
    intro l s hcl3;rw[ZiB (i:=i) om,Ziy hc om]
    ·intro k hk hkw;have hx:ops.toList[k]? =some ops.toList[k]:=Qb om;exact hbefore k _ hk hx (hcl3 k _ hx om hkw).1
    ·intro k hk hkn hkw;rcases Qbe hk with hk|rfl
     ·have hx:ops.toList[k]? =some ops.toList[k]:=Qb om;exact hafter k _ hk hx (hcl3 k _ hx om hkw).2
     ·exact hLi
   have hoff:kd i= .t→JX nl (Zex ops.toList.length kd) (hv nl kd G (listed.getD · false) ops.size) (G i):=by
    intro hp l s hA;refine hslot l s (fun k x hx hki hkt=>?_);cases hkk:kd k with
    |p=>rw[hkk]at hkt;cases hkt
    |t=>rw[hkk]at hkt;cases hkt
    |w=>exact⟨Xh (by rw[hkk,hp];rfl),Xh (by rw[hkk,hp];rfl)⟩
    |b l0 d=>exact⟨Xh (by rw[hkk,hp];rfl),Xh (by rw[hkk,hp];rfl)⟩
    |a d=>
     rw[hkk]at hkt;simp only[Kd.touches,Qd,beq_iff_eq]at hkt;have hlt2:k<ops.toList.length:=by
      rcases Qe k ops.toList.length with h|h
      ·exact h
      ·rw[Uu h]at hx;cases hx
     have:=hA hkt.1;simp only[Zex,Qar,U9,beq_iff_eq]at this;exact absurd (by rw[hkk,hkt.2]) (this k hlt2)
   have hall2:kd i= .w→hv nl kd G (listed.getD · false) ops.size=G i:=by
    intro hw;funext l s;refine hslot l s (fun k x hx hki hkt=>?_);exact⟨Xh (by rw[hw];exact(Kd.Zji (Kd.Zs4 hkt)).2),Xh (by rw[hw];exact(Kd.Zji (Kd.Zs4 hkt)).1)⟩
   have hown:∀d,kd i= .a d→hv nl kd G (listed.getD · false) ops.size nl d=G i nl d:=by
    intro d hd';refine hslot nl d (fun k x hx hki hkt=>?_);have h0:(kd i).touches nl nl d=true:=by rw[hd'];simp[Kd.touches]
    exact⟨Xh (Kd.VW hkt h0),Xh (Kd.VW h0 hkt)⟩
   have hownb:∀l' d,kd i= .b l' d→hv nl kd G (listed.getD · false) ops.size l' d=G i l' d:=by
    intro l' d hd';refine hslot l' d (fun k x hx hki hkt=>?_);have h0:(kd i).touches nl l' d=true:=by rw[hd'];simp[Kd.touches]
    exact⟨Xh (Kd.VW hkt h0),Xh (Kd.VW h0 hkt)⟩
   have hset:∀k,(listed.setIfInBounds i true).getD k false=if k=i then true else listed.getD k false:=by
    intro k;rw[QE,QE];by_cases hk:i=k
    ·subst hk;simp[hsz,hlt]
    ·rw[UQ hk,if_neg (fun e=>hk e.symm)]
   have hcl2:Closed ops.toList (fun j=>(listed.setIfInBounds i true).getD j false=true):=by
    intro j o' hj hjD e he hb;rw[hset]at hjD⊢;have:=hcl' j o' hj (by split at hjD<;>first|exact .inr ‹_›|exact .inl hjD) e he hb;split
    ·rfl
    ·rcases this with h|h
     ·exact h
     ·rename_i hne;exact absurd h hne
   have hu2:unl (listed.setIfInBounds i true)≤fuel:=by
    have:=Zre (l:=listed) (i:=i) om hun;omega
   obtain⟨hT,hstep⟩:=hc.step i o hol0;rw[QK]at hstep
   have htm:∀t,va ops.toList (lkv (T 0)) V ((listed.setIfInBounds i true).getD · false) ops.size t=
     if o.dst=some t then V i else va ops.toList (lkv (T 0)) V (listed.getD · false) ops.size t:=by
    intro t;have hdi:ZdF ops.toList i=o.dst:=by simp[ZdF,hol]
    by_cases hdt:o.dst=some t
    ·rw[if_pos hdt,ZiE (i:=i+1) om]
     ·rw[va,if_pos ⟨by rw[hset,if_pos rfl],hdi.trans hdt⟩]
     ·intro k hk hkn hdk;obtain⟨x,hx,hxd⟩:=U1.1 hdk;rw[hset,if_neg om];refine hafter k x om hx ?_;simp[clash,hdt,hxd]
    ·rw[if_neg hdt];refine Zq7 (fun k _ hdk=>?_);rw[hset,if_neg];rintro rfl;exact hdt (hdi▸hdk)
   have hhp:hv nl kd G ((listed.setIfInBounds i true).getD · false) ops.size=fun l s=>if(kd i).touches nl l s=true then G (i+1) l s else hv nl kd G (listed.getD · false) ops.size l s:=by
    funext l s;by_cases hw:(kd i).touches nl l s=true
    ·rw[if_pos hw,ZiB (i:=i+1) om]
     ·rw[Zcu,if_pos ⟨by rw[hset,if_pos rfl],hw⟩]
     ·intro k hk hkn hkw;have hx:ops.toList[k]? =some ops.toList[k]:=Qb om;rw[hset,if_neg om];exact hafter k _ om hx (Xh (Kd.VW hw hkw))
    ·rw[if_neg hw];refine Zpf (fun k _ hkw=>?_);rw[hset,if_neg];rintro rfl;exact hw hkw
   simp only[wpOpIn,ho];have hguard:∀j w d,o.guard=some (j,w)→(ops[j]?).bind (·.dst)=some d→VR E (lkv (T i) d) (a.tmps.getD d undef):=by
    intro j w' d hg hdj;have hin:d∈looks ops.toList o:=by
     simp only[looks,hg,U0,hdj,Qk];exact .inr sm
    rw[←hlook d hin];exact h3 d
   rcases hstep with⟨hg,hs⟩|⟨hg,hV,hGi⟩
   ·rw[Xe hguard hg];simp only[if_true];have hops:∀x∈o.op.operands,VR E (evT (T i) x) (a.eval x):=by
     intro x hx;cases x with
     |tmp t=>
      have hin:t∈looks ops.toList o:=by
       simp only[looks,Qk,QaF];exact .inl ⟨.tmp t,by simpa using hx,rfl⟩
      simp only[evT];rw[←hlook t hin];exact h3 t
     |const v=>exact ZgA E v
     |global g=>exact .dead _
     |func f=>exact VR.fn _ [] [] rfl (fun i h=>absurd h (Qo _))
    have fin:∀(H':Za),hv nl kd G ((listed.setIfInBounds i true).getD · false) ops.size=H'→ ∀E' w' cv,VR E' (V i) cv→Zt m H' E' w'→Ext m E w E' w'→
      wpAnyIn (fr ro) 0 P .any ops Q fuel (listed.setIfInBounds i true) (a.put o.dst cv) w':=by
     intro H' hH E' w' cv hcv hh hx;refine ih (listed.setIfInBounds i true) E' w' (a.put o.dst cv) hu2 (by simp[hsz]) hcl2 (by rw[hset,if_neg om];exact hlp) (by rw[size_put];exact h1) (by rw[Ws];exact h2) ?_ (hH▸hh) (h5.trans hx);intro t;rw[htm,V9 h1 (hd o hmem)];split
     ·exact hcv
     ·exact(h3 t).mono h4.norm hx.le
    cases hk:kd i with
    |p=>
     rw[hk]at hs;refine hs.1 _ E w a Q _ h4 hops (fin _ ?_) ro;rw[hhp,hk];funext l s;simp[Kd.touches]
    |t=>
     rw[hk]at hs;refine hs.1 _ (hoff hk) E w a Q _ h4 hops (fin _ ?_) ro;rw[hhp,hk];funext l s;simp[Kd.touches]
    |w=>
     rw[hk]at hs;rw[hall2 hk]at h4;refine hs E w a Q _ h4 hops (fin _ ?_) ro;rw[hhp,hk];funext l s;simp[Kd.touches]
    |a d=>
     rw[hk]at hs;obtain⟨b,hb1,hb3⟩:=hs;refine hb1 _ (hown d hk) E w a Q _ h4 hops (fin _ ?_) ro;rw[hhp,hk,hb3];funext l s;simp only[Kd.touches,Za.upd,Qd,beq_iff_eq];by_cases hc':l=nl∧s=d
     ·simp[hc']
     ·simp[hc']
    |b l0 d=>
     rw[hk]at hs;obtain⟨b,hb1,hb3⟩:=hs;refine hb1 _ (hownb l0 d hk) E w a Q _ h4 hops (fin _ ?_) ro;rw[hhp,hk,hb3];funext l s;simp only[Kd.touches,Za.upd,Qd,beq_iff_eq];by_cases hc':l=l0∧s=d
     ·simp[hc']
     ·simp[hc']
   ·rw[Xe hguard hg];simp only[QW,if_false];refine⟨fun _ _=>trivial,?_⟩;refine ih (listed.setIfInBounds i true) E w (a.put o.dst undef) hu2 (by simp[hsz]) hcl2 (by rw[hset,if_neg om];exact hlp) (by rw[size_put];exact h1) (by rw[Ws];exact h2) ?_ ?_ h5
    ·intro t;rw[htm,V9 h1 (hd o hmem)];split
     ·rw[hV];exact V4 E
     ·exact h3 t
    ·have:hv nl kd G ((listed.setIfInBounds i true).getD · false) ops.size=hv nl kd G (listed.getD · false) ops.size:=by
      rw[hhp];funext l s;split
      ·rename_i hw;rw[hGi];cases hk:kd i with
       |p=>rw[hk]at hw;cases hw
       |t=>rw[hk]at hw;cases hw
       |w=>rw[hall2 hk]
       |a d=>
        rw[hk]at hw;simp only[Kd.touches,Qd,beq_iff_eq]at hw;obtain⟨rfl,rfl⟩:=hw;exact(hown _ hk).symm
       |b l0 d=>
        rw[hk]at hw;simp only[Kd.touches,Qd,beq_iff_eq]at hw;obtain⟨rfl,rfl⟩:=hw;exact(hownb _ _ hk).symm
      ·rfl
     rw[this];exact h4
def Zio{P:Program}(ro:Option Nat)(ds:List Deferred){m nl N:Nat} 
  (hd:∀o∈ops.toList,∀x,o.dst=some x→x<N) (hc:ZgH P m nl (Zex ops.toList.length kd) ops.toList kd T G V 0 ops.toList) (hO:Ordered ops.toList kd) (E0:Env) (w0:World)
  (hQ:∀E' w' a',a'.tmps.size=N→a'.defers=ds→(∀t,VR E' (lkv (T ops.size) t) (a'.tmps.getD t undef))→Zt m (G ops.size) E' w'→Ext m E0 w0 E' w'→Q .normal a' w'):
  ∀(fuel:Nat) (listed:Array Bool) (E:Env) (w:World) (a:Act),unl listed≤fuel→listed.size=ops.size→Closed ops.toList (fun i=>listed.getD i false=true)→
   a.tmps.size=N→a.defers=ds→(∀t,VR E (va ops.toList (lkv (T 0)) V (listed.getD · false) ops.size t) (a.tmps.getD t undef))→
   Zt m (hv nl kd G (listed.getD · false) ops.size) E w→Ext m E0 w0 E w→wpAnyIn (fr ro) 0 P .any ops Q fuel listed a w:=fun fuel listed E w a hu hsz hcl=>
 ZcL ro ds (l0:=ops.toList) (post:=[]) (Qs _).symm hd hc hO E0 w0 (fun h=>absurd rfl h) (fun o ho=>by simp at ho) (fun _=>hQ) fuel listed E w a hu hsz hcl (by
  rw[QE,Qai (by simp[hsz])];rfl)
def Env.ZaY(n:Nat)(E:Env)(w:World):Ext n E w E {w with drawn:=w.drawn+1}:=
 ⟨.refl n E,rfl,rfl,rfl,fun _=>Ul _,Qg _,fun _ _ _=>rfl,fun _ _ h=>h⟩
def Zt.drew{n:Nat}{H:Za}{E:Env}{w:World}(h:Zt n H E w):Zt n H E {w with drawn:=w.drawn+1}:=
 {norm:=h.norm,F:=h.F,blk:=fun l k b hl hb=>(h.blk l k b hl hb).keep rfl rfl (fun _=>rfl) (fun _ _ _ h=>h) (fun _ _=>rfl) (fun _ _ _ h=>h) (fun _ _ _ h=>h),dom:=h.dom,nobuf:=h.nobuf,inj:=h.inj,injg:=h.injg,mg:=h.mg,mF:=h.mF,lt:=h.lt}
end
inductive TD where
 |int (k:IntKind)
 |bool
 |str
 |ptr
 |slice (e:TypeId)
 |array (n:Nat) (e:TypeId)
 |map (k e:TypeId)
 |struct (fs:List (Nat×TypeId))
 |func
 |tuple
 |iface
 deriving DecidableEq
def TD.fits:TD→TypeDesc→Bool
 | .int k,.int k'=>k==k'
 | .bool,.bool=>true
 | .str,.string=>true
 | .ptr,.pointer _=>true
 | .slice e,.slice e'=>e==e'
 | .array n e,.array n' e'=>n==n'&&e==e'
 | .map k e,.map k' e'=>k==k'&&e==e'
 | .struct fs, .struct gs => gs.toList.map (fun g => (g.offset, g.type)) == fs && gs.toList.all (fun g => g.name != "_")
 | .func,.func ..=>true
 | .tuple,.tuple _=>true
 | .iface,.interface _=>true
 |_,_=>false
structure Zu where
 td:TD
 size:Nat
 bytes:Nat
 zero:List AV
def Zu.isAgg(r:Zu):Bool:=match r.td with| .struct _| .array _ _=>true|_=>false
def fitsConst:AV→Value→Bool
 | .int k n,.int k' n'=>k==k'&&n==n'
 | .bool b,.bool b'=>b==b'
 | .str l,.string s=>l==s.data.toList
 | .nilp,.pointer none=>true
 | .sl _ [] .full,.slice none 0 0=>true
 | .nilf,.nilFunc=>true
 | .nilm,.map none=>true
 | .nili,.nilIface=>true
 |_,_=>false
def ZiD{E:Env}{a:AV}{v:Value}(h:fitsConst a v=true):VR E a v:=by
 unfold fitsConst at h;split at h<;>try(cases h;done)
 ·simp only[Qd,beq_iff_eq]at h;obtain⟨rfl,rfl⟩:=h;exact .int _ _
 ·simp only[beq_iff_eq]at h;subst h;exact .bool _
 ·rename_i l s;simp only[beq_iff_eq]at h;subst h;have:s=⟨s.data.toList.toArray⟩:=sm;rw[this];exact .str _
 ·exact .nilp
 ·exact .slnil _ _ none rfl (fun _=>rfl)
 ·exact .nilf
 ·exact .nilm
 ·exact .nili
def Zhu{a:AV}{v:Value}(h:fitsConst a v=true):a.one=true:=by
 unfold fitsConst at h;split at h<;>first|rfl|(cases h;done)
def fitsAll:List AV→List Value→Bool
 |[],[]=>true
 |a::az,v::vs=>fitsConst a v&&fitsAll az vs
 |_,_=>false
def Xv{E:Env}:∀{az:List AV} {vs:List Value},fitsAll az vs=true→VRs E az vs
 |[],[],_=>VRs.nil E
 |a::az,v::vs,h=>by
  simp only[fitsAll,Qd]at h;exact VRs.cons (ZiD h.1) (Xv h.2)
 |[],_::_,h=>by simp[fitsAll]at h
 |_::_,[],h=>by simp[fitsAll]at h
def fitsAll_one:∀{az:List AV} {vs:List Value},fitsAll az vs=true→ ∀a∈az,a.one=true
 |[],_,_=>by simp
 |a::az,v::vs,h=>by
  simp only[fitsAll,Qd]at h;intro x hx;rcases Ql.1 hx with rfl|hx
  ·exact Zhu h.1
  ·exact fitsAll_one h.2 x hx
 |_::_,[],h=>by simp[fitsAll]at h
def isAggV:Value→Bool
 | .agg _=>true
 |_=>false
def Znh(P:Program)(t:TypeId)(r:Zu):Bool:=
 match P.underlying t,P.info? t with
 |some d,some i=>r.td.fits d&&i.size==r.size&&i.bytes==r.bytes&&(match i.zero with|some z=>fitsAll r.zero z.cells.toList&&z.cells.size==r.size&&(r.isAgg==isAggV z)|none=>false)&&(match r.td with| .struct _=>!P.stoodInHeld t&& !P.eqGuardType P.depth t|_=>true)
 |_,_=>false
abbrev TT:=TypeId→Option Zu
def TOK(P:Program)(T:TT):Prop:=∀t r,T t=some r→Znh P t r=true
structure Jb (P:Program) (t:TypeId) (r:Zu) (d:TypeDesc) (i:TypeInfo) (z:Value):Prop where
 und:P.underlying t=some d
 info:P.info? t=some i
 fits:r.td.fits d=true
 size:i.size=r.size
 bytes:i.bytes=r.bytes
 zero:i.zero=some z
 zfits:fitsAll r.zero z.cells.toList=true
 zsize:z.cells.size=r.size
 zagg:r.isAgg=isAggV z
 stood:∀fs,r.td= .struct fs→P.stoodInHeld t=false∧P.eqGuardType P.depth t=false
def Zd{P:Program}{t:TypeId}{r:Zu}(h:Znh P t r=true):∃d i z,Jb P t r d i z:=by
 unfold Znh at h;split at h
 ·rename_i d i hd hi;split at h
  ·rename_i z hz;simp only[Qd,beq_iff_eq]at h;obtain⟨⟨h,h2⟩,h3⟩:=h;refine⟨d,i,z,hd,hi,h.1.1,h.1.2,h.2,hz,h2.1.1,h2.1.2,h2.2,fun fs hfs=>?_⟩;rw[hfs]at h3;simpa using h3
  ·simp at h
 ·simp at h
def Zjm{P:Program}{l:List (TypeId×Zu)}(h:l.all (fun x=>Znh P x.1 x.2)=true):TOK P (fun t=>(l.find? (·.1==t)).map (·.2)):=by
 intro t r hr;simp only[Ur]at hr;obtain⟨x,hx,rfl⟩:=hr;have h1:=List.find?_some hx;have h2:=List.mem_of_find?_eq_some hx;have h3:=(Qy.1 h) x h2;have:x.1=t:=by simpa using h1
 exact this▸h3
def isAggD:TypeDesc→Bool
 | .struct _| .array _ _=>true
 |_=>false
def TD.ZpM{r:Zu}{d:TypeDesc}(h:r.td.fits d=true):isAggD d=r.isAgg:=by
 obtain⟨td,s,b,z⟩:=r;cases td<;>cases d<;>first|rfl|(simp[TD.fits]at h;done)
section runs
variable {P:Program}
def JL{t:TypeId}{r:Zu}{d:TypeDesc}{i:TypeInfo}{z:Value}(h:Jb P t r d i z)(w:World):(isAgg t).run P w= .ok r.isAgg w:=by
 rw[←TD.ZpM h.fits];unfold isAgg;rw[Sem.run_bind,run_underlying h.und,Result.andThen_ok];cases d<;>rfl
def ZE{t:TypeId}{r:Zu}{d:TypeDesc}{i:TypeInfo}{z:Value}(h:Jb P t r d i z)(w:World):(sizeOf t).run P w= .ok r.size w:=by
 simp[sizeOf,typeInfo,h.info,h.size]
def Yl{t:TypeId}{r:Zu}{d:TypeDesc}{i:TypeInfo}{z:Value}(h:Jb P t r d i z)(w:World):(zeroValue t).run P w= .ok z w:=by
 simp[zeroValue,typeInfo,h.info,h.zero]
end runs
section
variable {w:World} {E:Env} {H:Za} {m:Nat}
def Zt.grow{w':World}{F':Nat→Nat→Option Value}(h:Zt m H E w)(os:w'.os=w.os)(tape:w'.tape=w.tape)(output:w'.output=w.output)
  (drawn:E.qd=true→w.drawn≤w'.drawn) (size:w.heap.size≤w'.heap.size) (hb:∀b,b<w.heap.size→w'.heap[b]? =w.heap[b]?) (hF:∀b o v,E.F b o=some v→F' b o=some v)
  (hF':∀b o v,F' b o=some v→w'.cell? ⟨b,o,none⟩=some v) (hnew:∀b o,b<w.heap.size→F' b o=E.F b o):
  Zt m H {E with F:=F'} w'∧Ext m E w {E with F:=F'} w':=by
 have hle:E.le m {E with F:=F'}:=⟨hF,fun _ _ _ _ h=>h,fun _ _ _ _ _ h=>h,rfl⟩
 have hlt:∀l k b,E.m l k=some b→b<w.heap.size:=fun l k b hm=>h.lt b (.inl ⟨l,k,hm⟩)
 have hgt:∀l k b,E.g l k=some b→b<w.heap.size:=fun l k b hm=>h.lt b (.inr ⟨l,k,hm⟩)
 refine⟨{norm:=⟨h.norm.m,h.norm.g,h.norm.hist⟩,F:=hF',blk:=?_,dom:=h.dom,nobuf:=h.nobuf,inj:=h.inj,injg:=h.injg,mg:=h.mg,mF:=?_,lt:=?_},⟨hle,os,tape,output,drawn,size,fun b hb' _=>hb b hb',fun b _ ho=>ho⟩⟩
 ·intro l k b hl hH;exact(h.blk l k b hl hH).keep rfl rfl (fun _=>rfl) (fun _ _ _ h=>h) (fun r hr=>hb r (hr.elim (hlt _ _ _) (hgt _ _ _))) (fun g o hg hf=>(hnew g o (hgt _ _ _ hg)).trans hf) (fun a _ v hv=>hv.mono h.norm hle)
 ·intro l k b o hm;exact(hnew b o (hlt l k b hm)).trans (h.mF l k b o hm)
 ·intro b ho;exact Un (h.lt b ho) size
def Zt.ZcB(h:Zt m H E w){b o:Nat}{v:Value}(hf:E.F b o=some v):b<w.heap.size:=
 World.block_lt_of_cell? w _ (h.F b o v hf)
def Env.addRow(E:Env)(b:Nat)(vs:Array Value):Env:={E with F:=fun b' o=>if b'=b then vs[o]? else E.F b' o}
def Zt.newRow{w1:World}(h:Zt m H E w)(vs:Array Value)(e:TypeId)(os:w1.os=w.os)(tape:w1.tape=w.tape)(output:w1.output=w.output)
  (drawn:E.qd=true→w.drawn≤w1.drawn) (hh:w1.heap=w.heap):
  Zt m H (E.addRow w.heap.size vs) (w1.alloc (.cells vs e))∧Ext m E w (E.addRow w.heap.size vs) (w1.alloc (.cells vs e)):=by
 refine h.grow os tape output drawn (by simp[World.alloc,hh]) ?_ ?_ ?_ ?_
 ·intro b hb;simp only[World.alloc,hh,MI];rw[if_neg om]
 ·intro b o v hf;have:=h.ZcB hf;rw[if_neg om];exact hf
 ·intro b o v hf;split at hf
  ·rename_i hbe;subst hbe;simp only[World.cell?,World.alloc,hh,MI];simpa using hf
  ·have:=h.ZcB hf;have hc:=h.F b o v hf;simp only[World.cell?,World.alloc,hh,MI]at hc⊢;rw[if_neg om];exact hc
 ·intro b o hb;rw[if_neg om]
def Yv(P:Program)(m:Nat)(o:Oper)(ρ:Operand→AV)(H:Za)(v:AV)(H':Za):Prop:=
 ∀E w (a:Act),Zt m H E w→(∀x∈o.op.operands,VR E (ρ x) (a.eval x))→
  ∃cv E' w',((execOp a.eval o).run P w= .ok (.value cv) w'∨((execOp a.eval o).run P w= .ok .skip w'∧cv=undef))∧VR E' v cv∧Zt m H' E' w'∧Ext m E w E' w'
variable {o:Oper} {ro:Option Nat}
theorem Zps{ρ:Operand→Value}(h:∀c,o.op≠ .defer c):o.semAt ro ρ=execOp ρ o:=by
 cases ro with
 |none=>rfl
 |some l=>unfold Oper.semAt;split<;>first|rfl|(rename_i h';exact absurd h' (h _))
def Zoo{P:Program}{o:Oper}{ρ:Operand→Value}{w w':World}{x:Next}(h:(execOp ρ o).run P w= .ok x w')(hx:∀d,x≠ .defer d):∀c,o.op≠ .defer c:=fun c hc=>by
 simp only[execOp,hc,Sem.run_bind]at h;cases hr:(resolve ρ c o.type).run P w with
 |ok d w2=>rw[hr]at h;simp only[Result.andThen,Sem.run_pure,Result.ok.injEq]at h;exact hx _ h.1.symm
 |halt u w2=>rw[hr]at h;cases h
variable {P:Program}
def Xb{a:Act}{w':World}{K:Act→World→Prop}{Q:Exit→Act→World→Prop}{x:Next}(hrun:(execOp a.eval o).run P w= .ok x w')(hx:∀d,x≠ .defer d)
  (h:o.uponIn (fr ro) 0 P a K Q (.ok x w')):o.wpIn (fr ro) 0 P a w K Q:=
 ⟨fun _ _=>trivial,by rw[Zps (Zoo hrun hx),hrun];exact h⟩
variable {v:AV} {ρ:Operand→AV}
def Yv.sem{H':Za}(h:Yv P m o ρ H v H'):XO P m o ρ H v H':=by
 intro E w a Q K hr ho hk ro;obtain⟨cv,E',w',hrun,hv,hh,hx⟩:=h E w a hr ho;rcases hrun with hrun|⟨hrun,rfl⟩
 ·exact Xb hrun (fun _ e=>by cases e) (hk E' w' cv hv hh hx)
 ·exact Xb hrun (fun _ e=>by cases e) (hk E' w' undef hv hh hx)
def Y0(P:Program)(o:Oper)(ρ:Operand→AV)(v:AV):Prop:=
 ∀E (a:Act),(∀x∈o.op.operands,VR E (ρ x) (a.eval x))→ ∃cv,(∀w,(execOp a.eval o).run P w= .ok (.value cv) w)∧VR E v cv
def Y0.run(h:Y0 P o ρ v)(m:Nat)(H:Za):Yv P m o ρ H v H:=by
 intro E w a hr ho;obtain⟨cv,h1,h2⟩:=h E a ho;exact⟨cv,E,w,.inl (h1 w),h2,hr,.refl m E w⟩
def Zgh(T:TT)(ty:TypeId)(v:AV):AV:=
 match v with
 | .sl k [] o=>match T ty with
  |some r=>match r.td with
   | .slice e=>match T e with
    |some q=>.sl q.size [] o
    |none=>.sl k [] o
   |_=>.sl k [] o
  |none=>.sl k [] o
 |v=>v
def ZaX{k k':Nat}{o:Own}{v:Value}(h:VR E (.sl k [] o) v):VR E (.sl k' [] o) v:=by
 cases h with
 |slnil _ _ a ho ha=>exact .slnil k' o a ho ha
 |sl _ _ _ b off cap c hk hc hv hcap hm ho=>exact .sl k' [] o b off cap c (fun i h=>absurd h (Qo _)) (fun i j h=>absurd h (Qo _)) (fun i h=>absurd h (Qo _)) hcap hm ho
def Zo9{T:TT}{ty:TypeId}{x:Value}(h:VR E v x):VR E (Zgh T ty v) x:=by
 unfold Zgh;split
 ·split
  ·split
   ·split
    ·exact ZaX h
    ·exact h
   ·exact h
  ·exact h
 ·exact h
def mv(T:TT)(ty:TypeId)(x:Operand)(v:AV):AV:=
 match x with
 | .const _=>Zgh T ty v
 |_=>v
def Zh4{T:TT}{ty:TypeId}{x:Operand}{y:Value}(h:VR E v y):VR E (mv T ty x v) y:=by
 unfold mv;split
 ·exact Zo9 h
 ·exact h
section ops
variable {P:Program} {T:TT} {o:Oper} {ρ:Operand→AV}
def ZrN{x:Operand}(ho:o.op= .move x):Y0 P o ρ (mv T o.type x (ρ x)):=fun E a h=>
 ⟨a.eval x,fun w=>by simp[execOp,ho],Zh4 (h x sO)⟩
def Zoa{x:Operand}(ho:o.op= .assign x):Y0 P o ρ (mv T o.type x (ρ x)):=fun E a h=>
 ⟨a.eval x,fun w=>by simp[execOp,ho],Zh4 (h x sO)⟩
def Znk{c x y:Operand}{t:Bool}(ho:o.op= .pick c x y)(hc:ρ c= .bool t):Y0 P o ρ (if t then mv T o.type x (ρ x)else mv T o.type y (ρ y)):=fun E a h=>by
 have h1:=h c sO;rw[hc]at h1;cases hb:a.eval c<;>rw[hb]at h1<;>cases h1;refine⟨if t then a.eval x else a.eval y,fun w=>by simp[execOp,ho,hb,asBool],?_⟩;cases t
 ·exact Zh4 (h y sO)
 ·exact Zh4 (h x sO)
theorem V5{x:Operand}{v:AV}(ho:o.op= .nilCheck x)(hv:ρ x=v)(hk:(match v with| .ptr ..=>true| .iptr _=>true| .eptr ..=>true| .fn (.func _) _=>true| .fn (.yield _) _=>true|_=>false)=true):Y0 P o ρ v:=fun E a h=>by
 have h1:=h x sO;rw[hv]at h1;refine⟨a.eval x,fun w=>?_,h1⟩;have hex:execOp a.eval o=match a.eval x with
  | .pointer none| .nilIface| .nilFunc=>runtimePanic .nilDeref
  | .func (.method name) first captured=>
   match (first[0]?:Option Value)with
   |some .nilIface=>runtimePanic .nilDeref
   |some (.iface t w)=>do
    if(←nilAhead ((←program).types.size+Made.depth) t w name) !=some false then
     unsupported (.noEntry "op/nilCheck.the method's receiver behind this interface value is a nil pointer, or cannot be seen to be none, and the arguments act or may panic (ledger 612)")
    pure (.value (.func (.method name) first captured))
   |_=>pure (.value (.func (.method name) first captured))
  |x=>pure (.value x):=by simp only[execOp,ho];rfl
 rw[hex];clear hex;generalize a.eval x=y at*;cases h1 with
 |ptr l k off b hm=>rfl
 |iptr cs b off c hc hv=>rfl
 |eptr l k n off g cap hh=>rfl
 |fn f caps vs hl hvs=>cases f<;>first|rfl|(simp at hk;done)
 |_=>simp at hk
def ZK(b off n:Nat):(⟨b,off,none⟩:Addr).add n=⟨b,off+n,none⟩:=by
 unfold Addr.add;split
 ·rename_i h;subst h;rfl
 ·rfl
def Zew{t:TypeId}{x:Operand}{f:Nat}{r rf:Zu}{fs:List (Nat×TypeId)}{fo ft l k off:Nat}(hT:TOK P T)(ho:o.op= .fieldAddr t x f)(h1:T t=some r)(h2:r.td= .struct fs)
  (h3:fs[f]? =some (fo,ft)) (h4:T ft=some rf) (h5:rf.size≠0) (hv:ρ x= .ptr l k off):Y0 P o ρ (.ptr l k (off+fo)):=fun E a h=>by
 have hx:=h x sO;rw[hv]at hx;obtain⟨d,i,z,hf⟩:=Zd (hT t r h1);obtain⟨d',i',z',hf'⟩:=Zd (hT ft rf h4);have hfit:=hf.fits;rw[h2]at hfit;cases d<;>try(simp[TD.fits]at hfit;done)
 rename_i gs;simp only[TD.fits,Qd,beq_iff_eq]at hfit;have hg:∃g,gs[f]? =some g∧g.offset=fo∧g.type=ft:=by
  have h3':=h3;rw[←hfit.1,Ua]at h3';cases hq:gs.toList[f]? with
  |none=>simp[hq]at h3'
  |some g=>rw[hq]at h3';simp at h3';exact⟨g,by rw[←Array.getElem?_toList];exact hq,h3'.1,h3'.2⟩
 obtain⟨g,hg1,hg2,hg3⟩:=hg;cases hy:a.eval x<;>rw[hy]at hx<;>cases hx;rename_i b hm;refine⟨.pointer (some ⟨b,off+fo,none⟩),fun w=>?_,.ptr l k _ b hm⟩;simp[execOp,ho,hy,Instr.fieldAt,run_underlying hf.und,hg1,Instr.sureAddr,fieldPlace,hg3,ZE hf',h5,ZK,hg2]
def Zdf{t:TypeId}{x:Operand}{f:Nat}{r rf:Zu}{fs:List (Nat×TypeId)}{fo ft:Nat}{cs:List AV}(hT:TOK P T)(ho:o.op= .fieldAddr t x f)(h1:T t=some r)(h2:r.td= .struct fs)
  (h3:fs[f]? =some (fo,ft)) (h4:T ft=some rf) (h5:rf.size≠0) (hv:ρ x= .iptr cs):Y0 P o ρ (.iptr (cs.drop fo)):=fun E a h=>by
 have hx:=h x sO;rw[hv]at hx;obtain⟨d,i,z,hf⟩:=Zd (hT t r h1);obtain⟨d',i',z',hf'⟩:=Zd (hT ft rf h4);have hfit:=hf.fits;rw[h2]at hfit;cases d<;>try(simp[TD.fits]at hfit;done)
 rename_i gs;simp only[TD.fits,Qd,beq_iff_eq]at hfit;have hg:∃g,gs[f]? =some g∧g.offset=fo∧g.type=ft:=by
  have h3':=h3;rw[←hfit.1,Ua]at h3';cases hq:gs.toList[f]? with
  |none=>simp[hq]at h3'
  |some g=>rw[hq]at h3';simp at h3';exact⟨g,by rw[←Array.getElem?_toList];exact hq,h3'.1,h3'.2⟩
 obtain⟨g,hg1,hg2,hg3⟩:=hg;generalize hy:a.eval x=y at hx;cases hx with|iptr _ b off c hc hv=>
 refine⟨.pointer (some ⟨b,off+fo,none⟩),fun w=>?_,?_⟩
 ·simp[execOp,ho,hy,Instr.fieldAt,run_underlying hf.und,hg1,Instr.sureAddr,fieldPlace,hg3,ZE hf',h5,ZK,hg2]
 ·refine .iptr _ b (off+fo) (fun j=>c (fo+j)) (fun j hj=>?_) (fun j hj=>?_)
  ·rw[QU]at hj;rw[Gn];exact hc (fo+j) om
  ·rw[QU]at hj;have:=hv (fo+j) om;simpa using this
def ZJ{d:TypeDesc}{e:TypeId}(h:(TD.slice e).fits d=true):d= .slice e:=by
 cases d<;>simp[TD.fits]at h;subst h;rfl
def Zfr{t:TypeId}{x ix:Operand}{r re:Zu}{e:TypeId}{k:Nat}{xs:List AV}{ow:Own}{kk:IntKind}{i:Int}(hT:TOK P T)(ho:o.op= .indexAddr t x ix)
  (h1:T t=some r) (h2:r.td= .slice e) (h3:T e=some re) (hk:k=re.size) (hv:ρ x= .sl k xs ow) (hi:ρ ix= .int kk i) (hlo:0≤i) (hhi:i<xs.length):
  Y0 P o ρ (.iptr (xs.getD i.toNat .dead).cells):=fun E a h=>by
 have hx:=h x sO;have hix:=h ix sO;rw[hv]at hx;rw[hi]at hix;obtain⟨d,inf,z,hf⟩:=Zd (hT t r h1);obtain⟨d',i',z',hf'⟩:=Zd (hT e re h3);have hd:=ZJ (h2▸hf.fits);subst hd;cases hyi:a.eval ix<;>rw[hyi]at hix<;>cases hix;have hlt:i.toNat<xs.length:=om;have hg:xs.getD i.toNat .dead=xs[i.toNat]:=by simp[Qn,Qb hlt]
 generalize hy:a.eval x=y at hx;cases hx with
 |slnil _ _ _ ho' _=>simp at hhi;omega
 |sl _ _ _ b off cap c hkk hc hvv hcap hm how=>
  refine⟨.pointer (some ⟨b,off+i.toNat*re.size,none⟩),fun w=>?_,?_⟩
  ·simp[execOp,ho,hy,hyi,Instr.indexAt,asIntOf,run_underlying hf.und,hlo,hhi,ZE hf',ZK]
  ·rw[hg];refine .iptr _ b _ (fun j=>c i.toNat j) (fun j hj=>?_) (fun j hj=>hvv i.toNat hlt j hj);have:=hc i.toNat j hlt (by rw[←hkk i.toNat hlt];exact hj);rw[←hk,Gn];exact this
def Zoj{t:TypeId}{x:Operand}{r:Zu}{e:TypeId}{k:Nat}{xs:List AV}{ow:Own}(hT:TOK P T)(ho:o.op= .call {callee:=.builtin .len,args:=#[x],argTypes:=#[t]})
  (h1:T t=some r) (h2:r.td= .slice e) (hv:ρ x= .sl k xs ow):Y0 P o ρ (.int .i64 xs.length):=fun E a h=>by
 have hx:=h x sC;rw[hv]at hx;obtain⟨d,inf,z,hf⟩:=Zd (hT t r h1);have hd:=ZJ (h2▸hf.fits);subst hd;cases hy:a.eval x<;>rw[hy]at hx<;>cases hx
 ·exact⟨_,fun w=>by simp[execOp,ho,hy,resolve,invoke,builtin,Builtin.len_,run_underlying hf.und,goInt],.int _ _⟩
 ·exact⟨_,fun w=>by simp[execOp,ho,hy,resolve,invoke,builtin,Builtin.len_,run_underlying hf.und,goInt],.int _ _⟩
def VU{d:TypeDesc}(h:TD.str.fits d=true):d= .string:=by
 cases d<;>simp[TD.fits]at h;rfl
def Zmn{t:TypeId}{x:Operand}{r:Zu}{s:List UInt8}(hT:TOK P T)(ho:o.op= .call {callee:=.builtin .len,args:=#[x],argTypes:=#[t]})
  (h1:T t=some r) (h2:r.td= .str) (hv:ρ x= .str s):Y0 P o ρ (.int .i64 s.length):=fun E a h=>by
 have hx:=h x sC;rw[hv]at hx;obtain⟨d,inf,z,hf⟩:=Zd (hT t r h1);have hd:=VU (h2▸hf.fits);subst hd;cases hy:a.eval x<;>rw[hy]at hx<;>cases hx;have hsz:(⟨s.toArray⟩:ByteArray).size=s.length:=by show s.toArray.size=s.length;simp
 exact⟨.int .i64 s.length,fun w=>by simp[execOp,ho,hy,resolve,invoke,builtin,Builtin.len_,run_underlying hf.und,goInt,hsz],.int _ _⟩
def Zju{t:TypeId}{x ix:Operand}{r:Zu}{s:List UInt8}{kk:IntKind}{i:Int}(hT:TOK P T)(ho:o.op= .index t x ix)
  (h1:T t=some r) (h2:r.td= .str) (hv:ρ x= .str s) (hi:ρ ix= .int kk i) (hlo:0≤i) (hhi:i<s.length):Y0 P o ρ (.int .u8 (s.getD i.toNat 0).toNat):=fun E a h=>by
 have hx:=h x sO;have hix:=h ix sO;rw[hv]at hx;rw[hi]at hix;obtain⟨d,inf,z,hf⟩:=Zd (hT t r h1);have hd:=VU (h2▸hf.fits);subst hd;have hlt:i.toNat<s.length:=om;cases hyi:a.eval ix<;>rw[hyi]at hix<;>cases hix;cases hy:a.eval x<;>rw[hy]at hx<;>cases hx;refine⟨.int .u8 (s.getD i.toNat 0).toNat,fun w=>?_,.int _ _⟩;have hget:(⟨s.toArray⟩:ByteArray)[i.toNat]? =some s[i.toNat]:=by
  rw[getElem?_pos (⟨s.toArray⟩:ByteArray) i.toNat (by show i.toNat<s.toArray.size;simpa using hlt)];rfl
 simp[execOp,ho,hy,hyi,Instr.index,asIntOf,run_underlying hf.und,hlo,hget,Qn,Qb hlt]
def ZmA{x:Operand}{i:Nat}{vs:List AV}(ho:o.op= .extract x i)(hv:ρ x= .tup vs)(hi:i<vs.length):Y0 P o ρ (vs.getD i .dead):=fun E a h=>by
 have hx:=h x sO;rw[hv]at hx;generalize hy:a.eval x=y at hx;cases hx with|tup _ us hl hvs=>
 refine⟨us[i]'om,fun w=>?_,?_⟩
 ·simp[execOp,ho,hy,Instr.extract,Qb (show i<us.length by omega)]
 ·have:=hvs i hi om;simpa[Qn,Qb hi]using this
def Ztm{x:Operand}{t:TypeId}{b:Bool}(ho:o.op= .unOp .not t x)(hv:ρ x= .bool b):Y0 P o ρ (.bool (!b)):=fun E a h=>by
 have hx:=h x sO;rw[hv]at hx;cases hy:a.eval x<;>rw[hy]at hx<;>cases hx;exact⟨.bool (!b),fun w=>by simp[execOp,ho,hy,Op.unary],.bool _⟩
def ZsP{x:Operand}{t:TypeId}{k:IntKind}{n:Int}(ho:o.op= .unOp .neg t x)(hv:ρ x= .int k n):Y0 P o ρ (.int k (k.wrap (0 - n))):=fun E a h=>by
 have hx:=h x sO;rw[hv]at hx;cases hy:a.eval x<;>rw[hy]at hx<;>cases hx;exact⟨.int k (k.wrap (0 - n)),fun w=>by simp[execOp,ho,hy,Op.unary,Op.intArith],.int _ _⟩
def ZaC{d:TypeDesc}{k:IntKind}(h:(TD.int k).fits d=true):d= .int k:=by
 cases d<;>simp[TD.fits]at h;subst h;rfl
def Zgd{src dst:TypeId}{x:Operand}{rs r:Zu}{k0 k k':IntKind}{n:Int}(hT:TOK P T)(ho:o.op= .convert src dst x)(h0:T src=some rs)(h0':rs.td= .int k0)(h1:T dst=some r)(h2:r.td= .int k)(hv:ρ x= .int k' n):
  Y0 P o ρ (.int k (k.wrap n)):=fun E a h=>by
 have hx:=h x sO;rw[hv]at hx;obtain⟨d,inf,z,hf⟩:=Zd (hT dst r h1);have hd:=ZaC (h2▸hf.fits);subst hd;obtain⟨d0,inf0,z0,hf0⟩:=Zd (hT src rs h0);have hd0:=ZaC (h0'▸hf0.fits);subst hd0;cases hy:a.eval x<;>rw[hy]at hx<;>cases hx;exact⟨.int k (k.wrap n),fun w=>by simp[execOp,ho,hy,convert,run_underlying hf.und,run_underlying hf0.und,Conv.intToInt],.int _ _⟩
def ZgQ{src dst:TypeId}{x:Operand}{rs r:Zu}{s:List UInt8}(hT:TOK P T)(ho:o.op= .convert src dst x)(h0:T src=some rs)(h0':rs.td= .str)(h1:T dst=some r)(h2:r.td= .str)(hv:ρ x= .str s):
  Y0 P o ρ (.str s):=fun E a h=>by
 have hx:=h x sO;rw[hv]at hx;obtain⟨d,inf,z,hf⟩:=Zd (hT dst r h1);have hd:=VU (h2▸hf.fits);subst hd;obtain⟨d0,inf0,z0,hf0⟩:=Zd (hT src rs h0);have hd0:=VU (h0'▸hf0.fits);subst hd0;cases hy:a.eval x<;>rw[hy]at hx<;>cases hx;exact⟨.string ⟨s.toArray⟩,fun w=>by simp[execOp,ho,hy,convert,run_underlying hf.und,run_underlying hf0.und],.str _⟩
def ZjM{f:Fn}{cs:Array Operand}(ho:o.op= .makeFunc f #[] cs):Y0 P o ρ (.fn f (cs.toList.map ρ)):=fun E a h=>by
 refine⟨.func f #[] (cs.toList.map a.eval).toArray,fun w=>?_,?_⟩
 ·have:execOp a.eval o=(do let v←Instr.makeFunc f (#[].map a.eval) (cs.map a.eval);pure (Next.value v)):=by simp only[execOp,ho]
  rw[this];simp[Instr.makeFunc];rw[←Array.toList_map]
 ·refine .fn f (cs.toList.map ρ) (cs.toList.map a.eval) (by rw[Qw,Qw]) (fun i h1 h2=>?_);rw[QN,QN];have hm:cs.toList[i]'(by simpa using h1)∈o.op.operands:=by
   rw[ho];simp only[Op.operands];simp
  exact h _ hm
def Zis{f:Fn}{fs:Array Operand}(ho:o.op= .makeFunc f fs #[]):Y0 P o ρ (.bfn f (fs.toList.map ρ)):=fun E a h=>by
 refine⟨.func f (fs.toList.map a.eval).toArray #[],fun w=>?_,?_⟩
 ·have:execOp a.eval o=(do let v←Instr.makeFunc f (fs.map a.eval) (#[].map a.eval);pure (Next.value v)):=by simp only[execOp,ho]
  rw[this];simp[Instr.makeFunc];rw[←Array.toList_map]
 ·refine .bfn f (fs.toList.map ρ) (fs.toList.map a.eval) (by rw[Qw,Qw]) (fun i h1 h2=>?_);rw[QN,QN];have hm:fs.toList[i]'(by simpa using h1)∈o.op.operands:=by
   rw[ho];simp only[Op.operands];simp
  exact h _ hm
end ops
end
def ZnH(op:BinOp)(k:IntKind)(x y:Int):Option AV:=
 match op with
 | .add=>some (.int k (k.wrap (x+y)))
 | .sub=>some (.int k (k.wrap (x - y)))
 | .mul=>some (.int k (k.wrap (x*y)))
 | .eql=>some (.bool (x==y))
 | .neq=>some (.bool (x !=y))
 | .lss=>some (.bool (decide (x<y)))
 | .leq=>some (.bool (decide (x≤y)))
 | .gtr=>some (.bool (decide (x>y)))
 | .geq=>some (.bool (decide (x ≥ y)))
 |_=>none
def ZmO(op:BinOp)(x y:List UInt8):Option AV:=
 match op with
 | .eql=>some (.bool (x==y))
 | .neq=>some (.bool (!(x==y)))
 | .lss=>some (.bool (Op.bytesLess x y))
 | .leq=>some (.bool (Op.bytesLess x y||x==y))
 | .gtr=>some (.bool (!(Op.bytesLess x y||x==y)))
 | .geq=>some (.bool (!(Op.bytesLess x y)))
 |_=>none
section ops
variable {P:Program} {T:TT} {o:Oper} {ρ:Operand→AV}
def guardy:Value→Value→Bool
 | .nilIface,.nilIface=>true
 | .agg _,.agg _=>true
 |_,_=>false
def Zi4{op:BinOp}{t:TypeId}{x y:Operand}{a b:Value}(w:World)(h:guardy a b=false):
  (eqGuard op t x y a b).run P w= .ok () w:=by
 unfold eqGuard;cases op<;>simp only[]<;>first|rfl|(cases a<;>cases b<;>first|rfl|(cases h;done))
def Yu{op:BinOp}{t yt:TypeId}{x y:Operand}{a:Act}{u v r:Value}(ho:o.op= .binOp op t x y yt)(hx:a.eval x=u)(hy:a.eval y=v)
  (h:guardy u v=false) (hr:∀w,(binOp op t u v).run P w= .ok r w) (w:World):
  (execOp a.eval o).run P w= .ok (.value r) w:=by
 have he:execOp a.eval o=(do let v←(do eqGuard op t x y (a.eval x) (a.eval y);binOp op t (a.eval x) (a.eval y));pure (Next.value v)):=by simp only[execOp,ho]
 rw[he,hx,hy];simp only[Sem.run_bind,Zi4 (P:=P) w h,Result.andThen_ok,hr w,Sem.run_pure]
def Zl8{op:BinOp}{t yt:TypeId}{x y:Operand}{k:IntKind}{m n:Int}{v:AV}(ho:o.op= .binOp op t x y yt)(hx:ρ x= .int k m)(hy:ρ y= .int k n)(hv:ZnH op k m n=some v):Y0 P o ρ v:=fun E a h=>by
 have h1:=h x sO;have h2:=h y sO;rw[hx]at h1;rw[hy]at h2;cases ha:a.eval x<;>rw[ha]at h1<;>cases h1;cases hb:a.eval y<;>rw[hb]at h2<;>cases h2;cases op<;>simp only[ZnH,Qp,reduceCtorEq]at hv<;>subst hv
 ·exact⟨.int k (k.wrap (m+n)),Yu ho ha hb rfl (fun w=>by simp[binOp,Op.intArith]),.int _ _⟩
 ·exact⟨.int k (k.wrap (m - n)),Yu ho ha hb rfl (fun w=>by simp[binOp,Op.intArith]),.int _ _⟩
 ·exact⟨.int k (k.wrap (m*n)),Yu ho ha hb rfl (fun w=>by simp[binOp,Op.intArith]),.int _ _⟩
 ·exact⟨.bool (m==n),Yu ho ha hb rfl (fun w=>by simp[binOp,Op.intCmp]),.bool _⟩
 ·exact⟨.bool (m !=n),Yu ho ha hb rfl (fun w=>by simp[binOp,Op.intCmp]),.bool _⟩
 ·exact⟨.bool (decide (m<n)),Yu ho ha hb rfl (fun w=>by simp[binOp,Op.intCmp]),.bool _⟩
 ·exact⟨.bool (decide (m≤n)),Yu ho ha hb rfl (fun w=>by simp[binOp,Op.intCmp]),.bool _⟩
 ·exact⟨.bool (decide (m>n)),Yu ho ha hb rfl (fun w=>by simp[binOp,Op.intCmp]),.bool _⟩
 ·exact⟨.bool (decide (m ≥ n)),Yu ho ha hb rfl (fun w=>by simp[binOp,Op.intCmp]),.bool _⟩
def Ztj{op:BinOp}{t yt:TypeId}{x y:Operand}{k:IntKind}{m n:Int}(ho:o.op= .binOp op t x y yt)(hx:ρ x= .int k m)(hy:ρ y= .int k n)(hop:op= .quo)(hn:n≠0):Y0 P o ρ (.int k (k.wrap (m.tdiv n))):=fun E a h=>by
 have h1:=h x sO;have h2:=h y sO;rw[hx]at h1;rw[hy]at h2;cases ha:a.eval x<;>rw[ha]at h1<;>cases h1;cases hb:a.eval y<;>rw[hb]at h2<;>cases h2;subst hop;exact⟨.int k (k.wrap (m.tdiv n)),Yu ho ha hb rfl (fun w=>by simp[binOp,Op.intDiv,hn]),.int _ _⟩
def ZsU{op:BinOp}{t yt:TypeId}{x y:Operand}{k:IntKind}{m n:Int}(ho:o.op= .binOp op t x y yt)(hx:ρ x= .int k m)(hy:ρ y= .int k n)(hop:op= .rem)(hn:n≠0):Y0 P o ρ (.int k (m.tmod n)):=fun E a h=>by
 have h1:=h x sO;have h2:=h y sO;rw[hx]at h1;rw[hy]at h2;cases ha:a.eval x<;>rw[ha]at h1<;>cases h1;cases hb:a.eval y<;>rw[hb]at h2<;>cases h2;subst hop;exact⟨.int k (m.tmod n),Yu ho ha hb rfl (fun w=>by simp[binOp,Op.intDiv,hn]),.int _ _⟩
def ZsT{op:BinOp}{t yt:TypeId}{x y:Operand}{k k':IntKind}{m n:Int}(ho:o.op= .binOp op t x y yt)(hx:ρ x= .int k m)(hy:ρ y= .int k' n)(hop:op= .shr)(hn:0≤n):Y0 P o ρ (.int k (m.fdiv (2^(min n.toNat k.bits)))):=fun E a h=>by
 have h1:=h x sO;have h2:=h y sO;rw[hx]at h1;rw[hy]at h2;cases ha:a.eval x<;>rw[ha]at h1<;>cases h1;cases hb:a.eval y<;>rw[hb]at h2<;>cases h2;subst hop;exact⟨.int k (m.fdiv (2^(min n.toNat k.bits))),Yu ho ha hb rfl (fun w=>by simp[binOp,Op.shift,Int.not_lt.2 hn]),.int _ _⟩
def ZmC{op:BinOp}{t yt:TypeId}{x y:Operand}{m n:List UInt8}{v:AV}(ho:o.op= .binOp op t x y yt)(hx:ρ x= .str m)(hy:ρ y= .str n)(hv:ZmO op m n=some v):Y0 P o ρ v:=fun E a h=>by
 have h1:=h x sO;have h2:=h y sO;rw[hx]at h1;rw[hy]at h2;cases ha:a.eval x<;>rw[ha]at h1<;>cases h1;cases hb:a.eval y<;>rw[hb]at h2<;>cases h2;cases op<;>simp only[ZmO,Qp,reduceCtorEq]at hv<;>subst hv
 ·exact⟨.bool (m==n),Yu ho ha hb rfl (fun w=>by simp only[binOp,Op.stringOp,ByteArray.toList_mk,Sem.run_pure]),.bool _⟩
 ·exact⟨.bool (!(m==n)),Yu ho ha hb rfl (fun w=>by simp only[binOp,Op.stringOp,ByteArray.toList_mk,Sem.run_pure]),.bool _⟩
 ·exact⟨.bool (Op.bytesLess m n),Yu ho ha hb rfl (fun w=>by simp only[binOp,Op.stringOp,ByteArray.toList_mk,Sem.run_pure]),.bool _⟩
 ·exact⟨.bool (Op.bytesLess m n||m==n),Yu ho ha hb rfl (fun w=>by simp only[binOp,Op.stringOp,ByteArray.toList_mk,Sem.run_pure]),.bool _⟩
 ·exact⟨.bool (!(Op.bytesLess m n||m==n)),Yu ho ha hb rfl (fun w=>by simp only[binOp,Op.stringOp,ByteArray.toList_mk,Sem.run_pure]),.bool _⟩
 ·exact⟨.bool (!(Op.bytesLess m n)),Yu ho ha hb rfl (fun w=>by simp only[binOp,Op.stringOp,ByteArray.toList_mk,Sem.run_pure]),.bool _⟩
def Zn3{op:BinOp}{t yt:TypeId}{x y:Operand}{m n:List UInt8}(ho:o.op= .binOp op t x y yt)(hx:ρ x= .str m)(hy:ρ y= .str n)(hop:op= .add)(hl:m.length+n.length≤9223372036854775807):Y0 P o ρ (.str (m++n)):=fun E a h=>by
 have h1:=h x sO;have h2:=h y sO;rw[hx]at h1;rw[hy]at h2;cases ha:a.eval x<;>rw[ha]at h1<;>cases h1;cases hb:a.eval y<;>rw[hb]at h2<;>cases h2;subst hop;refine⟨.string ⟨(m++n).toArray⟩,Yu ho ha hb rfl (fun w=>?_),.str _⟩;have hs1:(⟨m.toArray⟩:ByteArray).size=m.length:=by show m.toArray.size=_;simp
 have hs2:(⟨n.toArray⟩:ByteArray).size=n.length:=by show n.toArray.size=_;simp
 have hmx:IntKind.i64.max=9223372036854775807:=dc;have hs:¬(((⟨m.toArray⟩:ByteArray).size+(⟨n.toArray⟩:ByteArray).size:Nat):Int)>IntKind.i64.max:=by rw[hs1,hs2,hmx];omega
 have happ:(⟨m.toArray⟩:ByteArray)++⟨n.toArray⟩=⟨(m++n).toArray⟩:=by
  apply ByteArray.ext;rw[ByteArray.data_append];simp
 simp only[binOp,Op.stringOp,if_neg hs,happ,Sem.run_pure]
def ZoY{d:TypeDesc}(h:TD.bool.fits d=true):d= .bool:=by
 cases d<;>simp[TD.fits]at h;rfl
def ZiU(d:Nat){t:TypeId}{m n:Bool}(hd:P.underlying t=some .bool)(w:World):(Op.equalIn (d+1) t (.bool m) (.bool n)).run P w= .ok (m==n) w:=by
 simp[Op.equalIn,run_underlying hd]
def ZjO{op:BinOp}{t yt:TypeId}{x y:Operand}{r:Zu}{m n:Bool}(hT:TOK P T)(ho:o.op= .binOp op t x y yt)(h1:T t=some r)(h2:r.td= .bool)(hx:ρ x= .bool m)(hy:ρ y= .bool n)
  (hop:op= .eql∨op= .neq):Y0 P o ρ (.bool (if op= .eql then m==n else !(m==n))):=fun E a h=>by
 have k1:=h x sO;have k2:=h y sO;obtain⟨d,inf,z,hf⟩:=Zd (hT t r h1);have hd:=ZoY (h2▸hf.fits);subst hd;rw[hx]at k1;rw[hy]at k2;cases ha:a.eval x<;>rw[ha]at k1<;>cases k1;cases hb:a.eval y<;>rw[hb]at k2<;>cases k2;have he:∀w,(Op.equal t (.bool m) (.bool n)).run P w= .ok (m==n) w:=fun w=>ZiU 9999 hf.und w
 rcases hop with rfl|rfl
 ·exact⟨.bool (m==n),Yu ho ha hb rfl (fun w=>by simp[binOp,he w]),.bool _⟩
 ·exact⟨.bool (!(m==n)),Yu ho ha hb rfl (fun w=>by simp[binOp,he w]),.bool _⟩
inductive NilK:TD→AV→AV→Bool→Prop
 |pp:NilK .ptr .nilp .nilp true
 |pq (l k o:Nat):NilK .ptr (.ptr l k o) .nilp false
 |pi (cs:List AV):NilK .ptr (.iptr cs) .nilp false
 |ff:NilK .func .nilf .nilf true
 |fg (f:Fn) (c:List AV):NilK .func (.fn f c) .nilf false
 |mm (k e:Nat):NilK (.map k e) .nilm .nilm true
 |mn (k e l i:Nat):NilK (.map k e) (.map l i) .nilm false
 |ss (e:Nat):NilK (.slice e) .Xl .Xl true
 |sx (e k:Nat):NilK (.slice e) (.sln k) .Xl false
 |sn (e k:Nat) (x:AV) (xs:List AV) (o:Own):NilK (.slice e) (.sl k (x::xs) o) .Xl false
 |sm (e sz l k n:Nat):NilK (.slice e) (.msl sz l k (n+1)) .Xl false
def ZkZ(n:Nat){t:TypeId}{d:TypeDesc}{td:TD}{E:Env}{u v:AV}{b:Bool}{p q:Value}(hd:P.underlying t=some d)(hfit:td.fits d=true)(k1:VR E u p)(k2:VR E v q)
  (hk:NilK td u v b) (w:World):(Op.equalIn (n+1) t p q).run P w= .ok b w:=by
 cases hk<;>cases k1<;>cases k2<;>cases d<;>(try(cases hfit;done))<;>simp[Op.equalIn,run_underlying hd]
def J7{t:TypeId}{d:TypeDesc}{td:TD}{E:Env}{u v:AV}{b:Bool}{p q:Value}{op:BinOp}(hd:P.underlying t=some d)(hfit:td.fits d=true)(k1:VR E u p)(k2:VR E v q)
  (hk:NilK td u v b) (hop:op= .eql∨op= .neq):(∀w,(binOp op t p q).run P w= .ok (.bool (if op= .eql then b else !b)) w)∧guardy p q=false:=by
 have he:∀w,(Op.equal t p q).run P w= .ok b w:=fun w=>ZkZ 9999 hd hfit k1 k2 hk w
 cases hk<;>cases k1<;>cases k2<;>refine⟨fun w=>?_,rfl⟩<;>rcases hop with rfl|rfl<;>first|(simp[binOp,he w];done)|(have h:=he w;simp only[Qq]at h;simp[binOp,h])
def ZoL{op:BinOp}{t yt:TypeId}{x y:Operand}{r:Zu}{u v:AV}{b:Bool}(hT:TOK P T)(ho:o.op= .binOp op t x y yt)(h1:T t=some r)(hx:ρ x=u)(hy:ρ y=v)
  (hk:NilK r.td u v b) (hop:op= .eql∨op= .neq):Y0 P o ρ (.bool (if op= .eql then b else !b)):=fun E a h=>by
 have k1:=h x sO;have k2:=h y sO;obtain⟨d,inf,z,hf⟩:=Zd (hT t r h1);rw[hx]at k1;rw[hy]at k2;obtain⟨h3,h4⟩:=J7 (P:=P) hf.und hf.fits k1 k2 hk hop;exact⟨_,Yu ho rfl rfl h4 h3,.bool _⟩
end ops
def flat(xs:List AV):List AV:=xs.flatMap AV.cells
theorem flat_nil:flat []=[]:=rfl
def Yw(x:AV)(xs:List AV):flat (x::xs)=x.cells++flat xs:=by simp[flat]
def YZ(xs ys:List AV):flat (xs++ys)=flat xs++flat ys:=by simp[flat]
def flat_length{k:Nat}:∀{xs:List AV},(∀x∈xs,x.cells.length=k)→(flat xs).length=xs.length*k
 |[],_=>by simp[flat]
 |x::xs,h=>by
  rw[Yw,Qh,flat_length (fun y hy=>h y (Qz _ hy)),h x sm,Qq,Qaf,Nat.add_comm]
def flat_get{k:Nat}:∀{xs:List AV},(∀x∈xs,x.cells.length=k)→ ∀i (h:i<xs.length) j,j<k→(flat xs)[i*k+j]? =xs[i].cells[j]?
 |x::xs,h,0,hi,j,hj=>by
  rw[Yw,GV,QK,UE (by rw[h x sm];exact hj)];rfl
 |x::xs,h,i+1,hi,j,hj=>by
  have hx:=h x sm;rw[Yw,Gu (by rw[hx,Qaf];omega),hx];rw[show(i+1)*k+j - k=i*k+j by rw[Qaf];omega];exact flat_get (fun y hy=>h y (Qz _ hy)) i (by simpa using hi) j hj
section
variable {xs:List AV}
def VR.Vr{E:Env}{k:Nat}{o:Own}{v:Value}(h:VR E (.sl k xs o) v):
  ((∃a,v= .slice a 0 0∧(o≠ .any→a=none))∧xs=[]∧Zax E 0 v 0 o)∨
  ∃b off cap cs,v= .slice (some ⟨b,off,none⟩) xs.length cap∧(∀x∈xs,x.cells.length=k)∧VRs E (flat xs) cs∧(∀j u,cs[j]? =some u→E.F b (off+j)=some u)∧
   xs.length≤cap∧xs.length≤maxLen∧Zax E xs.length v cap o:=by
 cases h with
 |slnil _ _ a ho ha=>exact .inl ⟨⟨a,rfl,ha⟩,rfl,ho⟩
 |sl _ _ _ b off cap c hk hc hv hcap hm ho=>
  have hk':∀x∈xs,x.cells.length=k:=fun x hx=>by
   obtain⟨i,hi,rfl⟩:=QJ hx;exact hk i hi
  have hlen:=flat_length hk';refine .inr ⟨b,off,cap,(List.range (xs.length*k)).map (fun q=>c (q / k) (q % k)),rfl,hk',⟨by simp[hlen],fun q h1 h2=>?_⟩,fun q u hq=>?_,hcap,hm,ho⟩
  ·rw[hlen]at h1;have hk0:0<k:=by
    rcases Gf k with h0|h0
    ·subst h0;simp at h1
    ·exact h0
   have hi:q / k<xs.length:=Gj (by rwa [MX]at h1);have hj:q % k<k:=Qaj _ hk0;have hq:q / k*k+q % k=q:=by rw[MX];exact QaB q k
   have hg:=flat_get hk' (q / k) hi (q % k) hj;rw[hq]at hg;have hjl:q % k<xs[q / k].cells.length:=by rw[hk (q / k) hi];exact hj
   rw[Qb hjl,Qb (by rw[hlen];exact h1),Qp]at hg;rw[hg];simpa using hv (q / k) hi (q % k) hjl
  ·rw[Ua]at hq;cases hr:(List.range (xs.length*k))[q]? with
   |none=>simp[hr]at hq
   |some q'=>
    rw[hr]at hq;obtain⟨hlt,hqq⟩:=Ub.1 hr;simp only[MZ]at hqq;subst hqq;simp only[Gp]at hlt;simp only[Us,Qp]at hq;subst hq;have hk0:0<k:=by
     rcases Gf k with h0|h0
     ·subst h0;simp at hlt
     ·exact h0
    have hi:q / k<xs.length:=Gj (by rwa [MX]at hlt);have hq2:q / k*k+q % k=q:=by rw[MX];exact QaB q k
    have:=hc (q / k) (q % k) hi (Qaj _ hk0)
    rwa [hq2]at this
def VR.Vs{E:Env}{k:Nat}{o:Own}{b off cap:Nat}{cs:List Value}(hk:∀x∈xs,x.cells.length=k)(hv:VRs E (flat xs) cs)
  (hF:∀j u,cs[j]? =some u→E.F b (off+j)=some u) (hcap:xs.length≤cap) (hm:xs.length≤maxLen) (ho:Zax E xs.length (.slice (some ⟨b,off,none⟩) xs.length cap) cap o):
  VR E (.sl k xs o) (.slice (some ⟨b,off,none⟩) xs.length cap):=by
 have hlen:=flat_length hk;have key:∀i j (hi:i<xs.length),j<k→i*k+j<xs.length*k:=fun i j hi hj=>by
  have:(i+1)*k≤xs.length*k:=QF k hi;rw[Qaf]at this;omega
 refine .sl k xs o b off cap (fun i j=>cs.getD (i*k+j) undef) (fun i hi=>hk _ (Qa hi)) (fun i j hi hj=>?_) (fun i hi j hj=>?_) hcap hm ho
 ·have hlt:=key i j hi hj;have:cs[i*k+j]? =some (cs.getD (i*k+j) undef):=by
   rw[Qn,Qb (by rw[hv.1,hlen];exact hlt)];rfl
  exact hF _ _ this
 ·rw[hk _ (Qa hi)]at hj;have hlt:=key i j hi hj;have h1:i*k+j<(flat xs).length:=by rw[hlen];exact hlt
  have h2:i*k+j<cs.length:=by rw[hv.1];exact h1
  have hg:=flat_get hk i hi j hj;rw[Qb h1,Qb (by rw[hk _ (Qa hi)];exact hj),Qp]at hg;have:=hv.2 _ h1 h2;rw[hg]at this;simpa[Qn,Qb h2]using this
def VRs.take{E:Env}{az:List AV}{vs:List Value}(h:VRs E az vs)(n:Nat):VRs E (az.take n) (vs.take n):=
 ⟨by simp[h.1],fun i h1 h2=>by simp only[GL];exact h.2 i _ _⟩
def VRs.drop{E:Env}{az:List AV}{vs:List Value}(h:VRs E az vs)(n:Nat):VRs E (az.drop n) (vs.drop n):=
 ⟨by simp[h.1],fun i h1 h2=>by simp only[Qaq];exact h.2 (n+i) _ _⟩
def ZeC{k:Nat}:∀{xs:List AV},(∀x∈xs,x.cells.length=k)→ ∀n,flat (xs.take n)=(flat xs).take (n*k)
 |[],_,n=>by simp[flat]
 |x::xs,h,0=>by simp[flat]
 |x::xs,h,n+1=>by
  have hx:=h x sm;rw[MR,Yw,Yw,ZeC (fun y hy=>h y (Qz _ hy)) n,Qat,hx,Qaf,Q9 (l:=x.cells) om,show n*k+k - k=n*k by omega]
def Zch{k:Nat}:∀{xs:List AV},(∀x∈xs,x.cells.length=k)→ ∀n,flat (xs.drop n)=(flat xs).drop (n*k)
 |[],_,n=>by simp[flat]
 |x::xs,h,0=>by simp
 |x::xs,h,n+1=>by
  have hx:=h x sm;rw[List.drop_succ_cons,Yw,Zch (fun y hy=>h y (Qz _ hy)) n,Qbt,hx,Qaf,UK (l:=x.cells) om,Q5,show n*k+k - k=n*k by omega]
def bnd(ρ:Operand→AV):Option Operand→Int→Option Int
 |none,d=>some d
 |some x,_=>match ρ x with
  | .int _ i=>some i
  |_=>none
section ops
variable {P:Program} {T:TT} {o:Oper} {ρ:Operand→AV}
def Zed{E:Env}{a:Act}{x:Operand}{i:Int}{y:Nat}{c:BoundsCode}(h:VR E (ρ x) (a.eval x))(hi:(match ρ x with| .int _ i=>some i|_=>none)=some i)(h0:0≤i)(h1:i≤y)(w:World):
  (Instr.sliceBound (a.eval x) y c).run P w= .ok i.toNat w:=by
 generalize ρ x=v at*;generalize a.eval x=y' at*;cases h<;>simp only[reduceCtorEq,Qp]at hi;subst hi;simp[Instr.sliceBound,asIntOf,h0,h1]
def WV{E:Env}{a:Act}{lo hi:Option Operand}{l h:Int}{len cap:Nat}{s:Bool}(hv:∀x,lo=some x∨hi=some x→VR E (ρ x) (a.eval x))(hl:bnd ρ lo 0=some l)(hh:bnd ρ hi len=some h)
  (h0:0≤l) (h1:l≤h) (h2:h≤cap) (w:World):(Instr.sliceBounds s len cap (lo.map a.eval) (hi.map a.eval) none).run P w= .ok (l.toNat,h.toNat,cap) w:=by
 cases hi with
 |none=>
  simp only[bnd,Qp]at hh;subst hh;cases lo with
  |none=>
   simp only[bnd,Qp]at hl;subst hl;simp[Instr.sliceBounds]
  |some x=>
   have:=Zed (P:=P) (c:=.sliceB) (y:=len) (hv x (.inl rfl)) hl h0 h1 w;simp[Instr.sliceBounds,this]
 |some y=>
  have hy:=Zed (P:=P) (c:=if s then .sliceAcap else .sliceAlen) (y:=cap) (hv y (.inr rfl)) hh om h2 w;cases lo with
  |none=>
   simp only[bnd,Qp]at hl;subst hl;cases s<;>simp[Instr.sliceBounds]at hy⊢ <;>simp[hy]
  |some x=>
   have:=Zed (P:=P) (c:=.sliceB) (y:=h.toNat) (hv x (.inl rfl)) hl h0 om w;cases s<;>simp[Instr.sliceBounds]at hy⊢ <;>simp[hy,this]
def Zi7{t:TypeId}{x:Operand}{lo hi:Option Operand}{r:Zu}{s:List UInt8}{l h:Int}(hT:TOK P T)(ho:o.op= .slice t x lo hi none)(h1:T t=some r)(h2:r.td= .str)(hv:ρ x= .str s)
  (hl:bnd ρ lo 0=some l) (hh:bnd ρ hi s.length=some h) (h3:0≤l) (h4:l≤h) (h5:h≤s.length):Y0 P o ρ (.str ((s.take h.toNat).drop l.toNat)):=fun E a hops=>by
 have hx:=hops x sO;have hb:∀y,lo=some y∨hi=some y→VR E (ρ y) (a.eval y):=fun y hy=>hops y (by rcases hy with rfl|rfl<;>simp[ho,Op.operands])
 rw[hv]at hx;obtain⟨d,inf,z,hf⟩:=Zd (hT t r h1);have hd:=VU (h2▸hf.fits);subst hd;generalize hy:a.eval x=y at hx;cases hx with|str _=>
 have hsz:(⟨s.toArray⟩:ByteArray).size=s.length:=by show s.toArray.size=s.length;simp
 refine⟨.string ⟨((s.take h.toNat).drop l.toNat).toArray⟩,fun w=>?_,.str _⟩;have hrun:=WV (P:=P) (s:=false) hb hl hh h3 h4 h5 w;have he:execOp a.eval o=(do let v←Instr.sliceAt t (a.eval x) (lo.map a.eval) (hi.map a.eval) none;pure (Next.value v)):=by simp only[execOp,ho];rfl
 rw[he,hy];have hex:(⟨s.toArray⟩:ByteArray).extract l.toNat h.toNat=⟨((s.take h.toNat).drop l.toNat).toArray⟩:=by
  apply ByteArray.ext;rw[ByteArray.data_extract];simp[Qbh,Qa9]
 simp[Instr.sliceAt,Instr.slice,run_underlying hf.und,hsz,hrun,hex]
def ZkD{t:TypeId}{x:Operand}{lo hi:Option Operand}{r re:Zu}{e:TypeId}{k:Nat}{xs:List AV}{ow:Own}{l h:Int}(hT:TOK P T)(ho:o.op= .slice t x lo hi none)(h1:T t=some r)(h2:r.td= .slice e)
  (h2':T e=some re) (hk:k=re.size) (hv:ρ x= .sl k xs ow)
  (hl:bnd ρ lo 0=some l) (hh:bnd ρ hi xs.length=some h) (h3:0≤l) (h4:l≤h) (h5:h≤xs.length):Y0 P o ρ (.sl k ((xs.take h.toNat).drop l.toNat) .any):=fun E a hops=>by
 have hx:=hops x sO;have hb:∀y,lo=some y∨hi=some y→VR E (ρ y) (a.eval y):=fun y hy=>hops y (by rcases hy with rfl|rfl<;>simp[ho,Op.operands])
 rw[hv]at hx;obtain⟨d,inf,z,hf⟩:=Zd (hT t r h1);obtain⟨d',i',z',hf'⟩:=Zd (hT e re h2');have hd:=ZJ (h2▸hf.fits);subst hd;have he:execOp a.eval o=(do let v←Instr.sliceAt t (a.eval x) (lo.map a.eval) (hi.map a.eval) none;pure (Next.value v)):=by simp only[execOp,ho];rfl
 have hlen:((xs.take h.toNat).drop l.toNat).length=h.toNat - l.toNat:=by simp;omega
 rcases hx.Vr with⟨⟨ad,hy,_⟩,rfl,_⟩|⟨b,off,cap,cs,hy,hkk,hvs,hF,hcap,hm,_⟩
 ·have hl0:l=0:=by simp at h5;omega
  have hh0:h=0:=by simp at h5;omega
  subst hl0 hh0;have hrun:=fun w=>WV (P:=P) (s:=true) (cap:=0) hb hl hh h3 h4 sm w
  refine⟨.slice ad 0 0,fun w=>?_,.slnil _ _ _ trivial (fun h=>absurd rfl h)⟩;have hrun:=hrun w;rw[he,hy];simp at hrun;cases ad<;>simp[Instr.sliceAt,Instr.slice,run_underlying hf.und,hrun,ZE hf']
 ·have hrun:=fun w=>WV (P:=P) (s:=true) (cap:=cap) hb hl hh h3 h4 om w
  have hsub:∀y∈(xs.take h.toNat).drop l.toNat,y.cells.length=k:=fun y hy=>hkk y (UC (MN hy))
  have hflat:flat ((xs.take h.toNat).drop l.toNat)=((flat xs).take (h.toNat*k)).drop (l.toNat*k):=by
   rw[Zch (fun y hy=>hkk y (UC hy)),ZeC hkk]
  by_cases hml:cap=l.toNat
  ·refine⟨.slice (some ⟨b,off,none⟩) (h.toNat - l.toNat) (cap - l.toNat),fun w=>?_,?_⟩
   ·have hr:=hrun w;rw[he,hy];simp only[Instr.sliceAt,Instr.slice,run_underlying hf.und,Sem.run_bind,Result.andThen_ok,hr,ZE hf',if_pos hml,Sem.run_pure]
   ·have h0:h.toNat - l.toNat=0:=om;have hnil:(xs.take h.toNat).drop l.toNat=[]:=Ug om;rw[hnil,h0];exact VR.Vs (cs:=[]) sm (VRs.nil E) sm sm sm trivial
  ·refine⟨.slice (some ⟨b,off+l.toNat*k,none⟩) (h.toNat - l.toNat) (cap - l.toNat),fun w=>?_,?_⟩
   ·have hr:=hrun w;rw[he,hy];simp only[Instr.sliceAt,Instr.slice,run_underlying hf.und,Sem.run_bind,Result.andThen_ok,hr,ZE hf',if_neg hml,Sem.run_pure,Us,ZK,hk]
   ·have:=VR.Vs (E:=E) (k:=k) (xs:=(xs.take h.toNat).drop l.toNat) (o:=.any) (b:=b) (off:=off+l.toNat*k) (cap:=cap - l.toNat) (cs:=(cs.take (h.toNat*k)).drop (l.toNat*k)) hsub
     (by rw[hflat];exact(hvs.take _).drop _) ?_ om om trivial
    ·rwa [hlen]at this
    ·intro j u hj;rw[UM]at hj;have hj2:cs[l.toNat*k+j]? =some u:=by
      rcases Qe (l.toNat*k+j) (h.toNat*k)with hlt|hge
      ·rwa [QZ hlt]at hj
      ·rw[UY,if_neg om]at hj;cases hj
     have:=hF _ _ hj2
     rwa [←Gn]at this
end ops
end
def splice(cells:List AV)(off:Nat)(cs:List AV):List AV:=cells.take off++(cs++cells.drop (off+cs.length))
def ZdK(place:Nat→Option (Nat×Nat))(cells:List AV):List (Nat×AV)→Option (List AV)
 |[]=>some cells
 |(i,v)::rest=>
  match place i with
  |none=>none
  |some (off,size)=>if v.cells.length=size∧off+size≤cells.length then ZdK place (splice cells off v.cells) rest else none
def foldl_set{us:List Value}:∀(off j:Nat) (cells:Array Value),off+(j+us.length)≤cells.size→
  ((us.zipIdx j).foldl (fun cs (c:Value×Nat)=>cs.setIfInBounds (off+c.2) c.1) cells).toList=cells.toList.take (off+j)++(us++cells.toList.drop (off+j+us.length)):=by
 induction us with
 |nil=>intro off j cells h;simp
 |cons u us ih=>
  intro off j cells h;simp only[Qq]at h;rw[List.zipIdx_cons,Uz,ih off (j+1) _ (by simp;omega),Qa6];have hlt:off+j<cells.toList.length:=by simp;omega
  rw[show off+(j+1)=off+j+1 by omega,Qj (by simpa using hlt),List.getElem_set_self,List.take_set_of_le om,
   show off+j+1+us.length=off+j+(us.length+1) by omega,List.drop_set_of_lt om,Qq,Uc]
  rfl
def Zf0{E:Env}{place:Nat→Option (Nat×Nat)}:∀{parts:List (Nat×AV)} {vals:List (Nat×Value)} {cells out:List AV} {vs:Array Value},
  ZdK place cells parts=some out→VRs E cells vs.toList→vals.length=parts.length→
  (∀i (h:i<parts.length) (h':i<vals.length),parts[i].1=vals[i].1∧VR E parts[i].2 vals[i].2∧(∀c∈parts[i].2.cells,c.one=true))→
  ∃us,Instr.fill place vs vals=some us∧VRs E out us.toList
 |[],vals,cells,out,vs,hf,hv,hl,_=>by
  have:vals=[]:=by simpa using hl
  subst this;simp only[ZdK,Qp]at hf;subst hf;exact⟨vs,rfl,hv⟩
 |(i,v)::rest,vals,cells,out,vs,hf,hv,hl,hp=>by
  cases vals with
  |nil=>simp at hl
  |cons iv vals=>
   obtain⟨i',u⟩:=iv;obtain⟨h1,h2,h3⟩:=hp 0 sm sm;simp only[Uh]at h1 h2 h3;subst h1;simp only[ZdK]at hf;simp only[Instr.fill];cases hpl:place i with
   |none=>simp[hpl]at hf
   |some os=>
    obtain⟨off,size⟩:=os;simp only[hpl]at hf⊢;split at hf
    ·rename_i hc;have hcv:=h2.cells h3;have hus:u.cells.size=size:=by have:=hcv.1;simp at this;omega
     have hcs:vs.size=cells.length:=by have:=hv.1;simpa using this
     rw[if_neg (by simp[hus,hcs];omega)];refine Zf0 hf ?_ (by simpa using hl) (fun j hj hj'=>?_)
     ·have:=foldl_set (us:=u.cells.toList) off 0 vs (by simp[hus];omega);rw[←Array.foldl_toList,Array.toList_zipIdx,this];simp only[UF];have hlen:u.cells.toList.length=v.cells.length:=hcv.1;unfold splice;rw[hlen];exact(hv.take _).append (hcv.append (hv.drop _))
     ·have:=hp (j+1) (by simpa using hj) (by simpa using hj');simpa using this
    ·cases hf
def Y4(ρ:Operand→AV)(ps:List (Nat×Operand)):List (Nat×AV):=ps.map fun p=>(p.1,ρ p.2)
section ops
variable {P:Program} {T:TT} {o:Oper} {ρ:Operand→AV}
def Jr(T:TT)(fs:List (Nat×TypeId)):List (Option (Nat×Nat)):=fs.map fun f=>(T f.2).map fun r=>(f.1,r.size)
def ZjV{gs:Array Field}{fs:List (Nat×TypeId)}(hT:TOK P T)(hfit:gs.toList.map (fun g=>(g.offset,g.type))=fs)(hall:∀f∈fs,T f.2≠none)(w:World):
  ∃ps:Array (Nat×Nat),(gs.mapM (m:=Sem) fun f=>do pure (f.offset,←sizeOf f.type)).run P w= .ok ps w∧ ∀i:Nat,ps[i]? =(Jr T fs)[i]?.join:=by
 have key:∀(gs:List Field) (fs:List (Nat×TypeId)),gs.map (fun g=>(g.offset,g.type))=fs→(∀f∈fs,T f.2≠none)→
   ∃ps:List (Nat×Nat),(gs.mapM (m:=Sem) fun f=>do pure (f.offset,←sizeOf f.type)).run P w= .ok ps w∧ ∀i:Nat,ps[i]? =(Jr T fs)[i]?.join:=by
  intro gs;induction gs with
  |nil=>intro fs h _;subst h;exact⟨[],sm,by simp[Jr]⟩
  |cons g gs ih=>
   intro fs h hall;subst h;obtain⟨ps,h1,h2⟩:=ih _ rfl (fun f hf=>hall f (Qz _ hf));have hg:=hall (g.offset,g.type) sm;cases hr:T g.type with
   |none=>exact absurd hr hg
   |some r=>
    obtain⟨d,i,z,hf⟩:=Zd (hT g.type r hr);refine⟨(g.offset,r.size)::ps,?_,?_⟩
    ·rw[QbJ];simp only[Sem.run_bind,ZE hf,Result.andThen_ok,Sem.run_pure,h1]
    ·intro i;cases i with
     |zero=>simp[Jr,hr]
     |succ i=>simpa[Jr]using h2 i
 obtain⟨ps,h1,h2⟩:=key gs.toList fs hfit hall;refine⟨ps.toArray,?_,by simpa using h2⟩;rw[Qaw,Sem.run_map,h1];rfl
def Zpj{t:TypeId}{ps:Array (Nat×Operand)}{r:Zu}{fs:List (Nat×TypeId)}{out:List AV}(hT:TOK P T)(ho:o.op= .build t ps)(h1:T t=some r)(h2:r.td= .struct fs)(hall:∀f∈fs,T f.2≠none)
  (hf:ZdK (fun i=>(Jr T fs)[i]?.join) r.zero (Y4 ρ ps.toList)=some out) (hone:∀p∈Y4 ρ ps.toList,∀c∈p.2.cells,c.one=true):Y0 P o ρ (.agg out):=fun E a h=>by
 obtain⟨d,inf,z,hr⟩:=Zd (hT t r h1);have hfit:=hr.fits;rw[h2]at hfit;cases d<;>try(simp[TD.fits]at hfit;done)
 rename_i gs;simp only[TD.fits,Qd,beq_iff_eq]at hfit;have hz:VRs E r.zero z.cells.toList:=Xv hr.zfits;have hparts:∀i (h:i<(Y4 ρ ps.toList).length) (h':i<(ps.toList.map fun p=>(p.1,a.eval p.2)).length),
   (Y4 ρ ps.toList)[i].1=(ps.toList.map fun p=>(p.1,a.eval p.2))[i].1∧VR E (Y4 ρ ps.toList)[i].2 (ps.toList.map fun p=>(p.1,a.eval p.2))[i].2∧(∀c∈(Y4 ρ ps.toList)[i].2.cells,c.one=true):=by
  intro i h1 h2;refine⟨by simp[Y4],?_,fun c hc=>hone _ (Qa h1) c hc⟩;simp only[Y4,QN];have hi:i<ps.toList.length:=by simpa[Y4]using h1
  exact h _ (by rw[ho];simp only[Op.operands];simp only[QaO,Qi];exact⟨ps.toList[i],sm,rfl⟩)
 obtain⟨us,hu1,hu2⟩:=Zf0 hf hz (by simp[Y4]) hparts;refine⟨.agg us,fun w=>?_,?_⟩
 ·obtain⟨pl,hp1,hp2⟩:=ZjV (P:=P) (T:=T) (gs:=gs) hT hfit.1 hall w;have he:execOp a.eval o=(do let v←Instr.build t (ps.map fun(i,x)=>(i,a.eval x));pure (Next.value v)):=by simp only[execOp,ho]
  have hpl:(fun i=>pl[i]?)=(fun i=>(Jr T fs)[i]?.join):=funext hp2;have hm:(ps.map fun(i,x)=>(i,a.eval x)).toList=ps.toList.map fun p=>(p.1,a.eval p.2):=sm
  rw[he];simp only[Instr.build,Sem.run_bind,Yl hr,Result.andThen_ok,run_underlying hr.und,hp1,hm];have hu1':Instr.fill (fun x=>pl[x]?) z.cells (ps.toList.map fun p=>(p.1,a.eval p.2))=some us:=by rw[hpl];exact hu1
  rw[hu1'];rfl
 ·have:us=us.toList.toArray:=sm;rw[this];exact .agg out us.toList hu2.1 hu2.2
def Zqf{t:TypeId}{x:Operand}{f:Nat}{r rf:Zu}{fs:List (Nat×TypeId)}{fo ft:Nat}{cs:List AV}(hT:TOK P T)(ho:o.op= .field t x f)(h1:T t=some r)(h2:r.td= .struct fs)
  (h3:fs[f]? =some (fo,ft)) (h4:T ft=some rf) (hv:ρ x= .agg cs) (hn:rf.isAgg=false→fo<cs.length):
  Y0 P o ρ (if rf.isAgg then .agg ((cs.drop fo).take rf.size)else cs.getD fo .dead):=fun E a h=>by
 have hx:=h x sO;rw[hv]at hx;obtain⟨d,i,z,hf⟩:=Zd (hT t r h1);obtain⟨d',i',z',hf'⟩:=Zd (hT ft rf h4);have hfit:=hf.fits;rw[h2]at hfit;cases d<;>try(simp[TD.fits]at hfit;done)
 rename_i gs;simp only[TD.fits,Qd,beq_iff_eq]at hfit;have hg:∃g,gs[f]? =some g∧g.offset=fo∧g.type=ft:=by
  have h3':=h3;rw[←hfit.1,Ua]at h3';cases hq:gs.toList[f]? with
  |none=>simp[hq]at h3'
  |some g=>rw[hq]at h3';simp at h3';exact⟨g,by rw[←Array.getElem?_toList];exact hq,h3'.1,h3'.2⟩
 obtain⟨g,hg1,hg2,hg3⟩:=hg;generalize hy:a.eval x=y at hx;cases hx with|agg _ vs hl hvs=>
 have he:execOp a.eval o=(do let v←Instr.field t (a.eval x) f;pure (Next.value v)):=by simp only[execOp,ho]
 have hvv:VRs E cs vs:=⟨hl,hvs⟩
 cases hag:rf.isAgg with
 |true=>
  refine⟨.agg ((vs.drop fo).take rf.size).toArray,fun w=>?_,?_⟩
  ·rw[he,hy];have hpt:(part g.type vs.toArray g.offset).run P w= .ok (.agg ((vs.drop fo).take rf.size).toArray) w:=by
    unfold part;rw[hg3,hg2];simp only[Sem.run_bind,JL hf',hag,Result.andThen_ok,if_true,ZE hf',Sem.run_pure,List.extract_toArray,Qbh];congr 4;omega
   simp only[Instr.field,Sem.run_bind,run_underlying hf.und,Result.andThen_ok,hg1,asAgg,Sem.run_pure,hpt]
  ·have:=(hvv.drop fo).take rf.size;simp only[if_true];exact .agg _ _ this.1 this.2
 |false=>
  have hlt:=hn hag;refine⟨vs[fo]'om,fun w=>?_,?_⟩
  ·rw[he,hy];have hpt:(part g.type vs.toArray g.offset).run P w= .ok (vs[fo]'om) w:=by
    unfold part;rw[hg3,hg2];simp[JL hf',hag,Qb (show fo<vs.length by omega)]
   simp only[Instr.field,Sem.run_bind,run_underlying hf.und,Result.andThen_ok,hg1,asAgg,Sem.run_pure,hpt]
  ·simp only[QW,if_false];have:=hvs fo hlt om;simpa[Qn,Qb hlt]using this
end ops
def Zr7{P:Program}{m:Nat}{o:Oper}{ρ:Operand→AV}{k:Nat}{xs:List AV}{ow:Own}{H:Za}
  (h:∀E w (a:Act),Zt m H E w→(∀x∈o.op.operands,VR E (ρ x) (a.eval x))→
   ∃(w1:World) (e:TypeId) (vs:List Value) (cap:Nat),(execOp a.eval o).run P w= .ok (.value (.slice (some ⟨w.heap.size,0,none⟩) xs.length cap)) (w1.alloc (.cells vs.toArray e))∧
    w1.os=w.os∧w1.tape=w.tape∧w1.output=w.output∧w.drawn≤w1.drawn∧w1.heap=w.heap∧(∀x∈xs,x.cells.length=k)∧VRs E (flat xs) (vs.take (xs.length*k))∧xs.length≤cap∧xs.length≤maxLen∧
    (match ow with| .any=>True| .full=>cap=xs.length| .buf _ _=>False)):Yv P m o ρ H (.sl k xs ow) H:=by
 intro E w a hr ho;obtain⟨w1,e,vs,cap,hrun,h1,h2,h3,hdr,h4,hk,hv,hcap,hm,how⟩:=h E w a hr ho;obtain⟨hh,hx⟩:=hr.newRow vs.toArray e h1 h2 h3 (fun _=>hdr) h4;refine⟨_,_,_,.inl hrun,?_,hh,hx⟩;refine VR.Vs (cs:=vs.take (xs.length*k)) hk (hv.mono hr.norm hx.le) (fun j u hj=>?_) hcap hm ?_
 ·simp only[Env.addRow,if_true,QK];have hlt:j<xs.length*k:=by
   rcases Qe j (xs.length*k)with h|h
   ·exact h
   ·rw[UY,if_neg om]at hj;cases hj
  rw[QZ hlt]at hj;simpa using hj
 ·cases ow with
  |any=>trivial
  |full=>exact how
  |buf l j=>exact how.elim
def inOrder(i:Nat):List (Nat×Operand)→Bool
 |[]=>true
 |p::r=>p.1==i&&inOrder (i+1) r
def ZaT{E:Env}{k n:Nat}:∀{ps:List (Nat×Operand)} {xs:List AV} {vals:List (Nat×Value)} {pre post:List Value},
  inOrder n ps=true→xs.length=ps.length→vals.length=ps.length→pre.length=n*k→post.length=ps.length*k→
  (∀i (h:i<ps.length) (h':i<vals.length) (h'':i<xs.length),vals[i].1=ps[i].1∧VR E xs[i] vals[i].2)→(∀x∈xs,x.cells.length=k∧ ∀c∈x.cells,c.one=true)→
  ∃us,Instr.fill (fun i=>some (i*k,k)) (pre++post).toArray vals=some (pre++us).toArray∧VRs E (flat xs) us
 |[],xs,vals,pre,post,_,hx,hl,_,hpost,_,_=>by
  have e1:xs=[]:=by simpa using hx
  have e2:vals=[]:=by simpa using hl
  have e3:post=[]:=Ug (by simpa using hpost);subst e1 e2 e3;exact⟨[],rfl,VRs.nil E⟩
 |p::ps,xs,vals,pre,post,hi,hx,hl,hpre,hpost,hp,ho=>by
  cases xs with
  |nil=>simp at hx
  |cons x xs=>
   cases vals with
   |nil=>simp at hl
   |cons iv vals=>
    obtain⟨i,u⟩:=iv;simp only[inOrder,Qd,beq_iff_eq]at hi;obtain⟨hi1,hi2⟩:=hi;obtain⟨h1,h2⟩:=hp 0 sm sm sm;simp only[Uh]at h1 h2;obtain⟨h3,h4⟩:=ho x sm;have hcv:=h2.cells h4;have hul:u.cells.toList.length=k:=hcv.1.trans h3;have hul':u.cells.size=k:=by simpa using hul
    have hin:i=n:=h1.trans hi1;subst hin;simp only[Qq,Qaf]at hpost;simp only[Instr.fill];rw[if_neg (by simp[hul',hpre];omega)];have hset:=foldl_set (us:=u.cells.toList) (i*k) 0 (pre++post).toArray (by simp[hul',hpre];omega);simp only[UF]at hset;have harr:(u.cells.zipIdx.foldl (fun cs (c:Value×Nat)=>cs.setIfInBounds (i*k+c.2) c.1) (pre++post).toArray)=((pre++u.cells.toList)++post.drop k).toArray:=by
     apply QaD;rw[←Array.foldl_toList,Array.toList_zipIdx,hset,hul];simp only[←hpre,GX,Uc];rw[Qbt,UK om,Q5,show pre.length+k - pre.length=k by omega]
    rw[harr];obtain⟨us,hu1,hu2⟩:=ZaT (n:=i+1) (pre:=pre++u.cells.toList) (post:=post.drop k) hi2 (by simpa using hx) (by simpa using hl) (by rw[Qh,hpre,hul,Qaf]) (by simp;omega)
     (fun j a1 a2 a3=>by have:=hp (j+1) (by simpa using a1) (by simpa using a2) (by simpa using a3);simpa using this) (fun y hy=>ho y (Qz _ hy))
    refine⟨u.cells.toList++us,by rw[hu1,Uc],?_⟩;rw[Yw];exact hcv.append hu2
section ops
variable {P:Program} {T:TT} {o:Oper} {ρ:Operand→AV}
def Zhk{m:Nat}{H:Za}{t:TypeId}{n:Nat}{ps:Array (Nat×Operand)}{r re:Zu}{e:TypeId}(hT:TOK P T)(ho:o.op= .buildSlice t n ps)(h1:T t=some r)(h2:r.td= .slice e)(h3:T e=some re)
  (hin:inOrder 0 ps.toList=true) (hn:n=ps.size) (hsz:0<re.size) (hsmall:n*re.size≤2^24) (hk:∀x∈ps.toList.map (fun p=>ρ p.2),x.cells.length=re.size∧ ∀c∈x.cells,c.one=true):
  Yv P m o ρ H (.sl re.size (ps.toList.map fun p=>ρ p.2) .full) H:=Zr7 fun E w a hr hops=>by
 obtain⟨d,inf,z,hf⟩:=Zd (hT t r h1);obtain⟨d',i',z',hf'⟩:=Zd (hT e re h3);have hd:=ZJ (h2▸hf.fits);subst hd;have he:execOp a.eval o=(do let v←Instr.buildSlice t n (ps.map fun(i,x)=>(i,a.eval x));pure (Next.value v)):=by simp only[execOp,ho]
 have hm:(ps.map fun(i,x)=>(i,a.eval x)).toList=ps.toList.map fun p=>(p.1,a.eval p.2):=sm
 have hparts:∀i (h:i<ps.toList.length) (h':i<(ps.toList.map fun p=>(p.1,a.eval p.2)).length) (h'':i<(ps.toList.map fun p=>ρ p.2).length),
   (ps.toList.map fun p=>(p.1,a.eval p.2))[i].1=ps.toList[i].1∧VR E (ps.toList.map fun p=>ρ p.2)[i] (ps.toList.map fun p=>(p.1,a.eval p.2))[i].2:=by
  intro i h h' h'';refine⟨sm,?_⟩;simp only[QN];exact hops _ (by rw[ho];simp only[Op.operands,QaO,Qi];exact⟨ps.toList[i],sm,rfl⟩)
 have hfill:∀(cells:List Value),cells.length=n*re.size→ ∃us:List Value,Instr.fill (fun i=>some (i*re.size,re.size)) cells.toArray (ps.toList.map fun p=>(p.1,a.eval p.2))=some us.toArray∧
   VRs E (flat (ps.toList.map fun p=>ρ p.2)) us:=by
  intro cells hc;have:=ZaT (E:=E) (k:=re.size) (n:=0) (ps:=ps.toList) (xs:=ps.toList.map fun p=>ρ p.2) (vals:=ps.toList.map fun p=>(p.1,a.eval p.2)) (pre:=[]) (post:=cells) hin sm sm sm (by rw[hc,hn];simp) hparts hk;simpa using this
 have hlen:(ps.toList.map fun p=>ρ p.2).length=n:=by simp[hn]
 have hflen:=flat_length (k:=re.size) (xs:=ps.toList.map fun p=>ρ p.2) (fun x hx=>(hk x hx).1);have h24:¬n*re.size>2^24:=om;have hml:n≤maxLen:=by
  have:n≤n*re.size:=Qbq n hsz;unfold maxLen;omega
 by_cases h0:n*re.size=0
 ·obtain⟨us,hu1,hu2⟩:=hfill [] (by simp[h0]);have hu0:us=[]:=Ug (by rw[hu2.1,hflen,hlen,h0]);refine⟨w,e,us,n,?_,rfl,rfl,rfl,Qg _,rfl,fun x hx=>(hk x hx).1,?_,om,om,by simp[hlen]⟩
  ·rw[he,hlen];have hz:∀f:Nat→Value,(Array.range (n*re.size)).map f= #[]:=fun f=>by rw[h0];simp
   have:Instr.fill (fun i=>some (i*re.size,re.size)) #[] (ps.toList.map fun p=>(p.1,a.eval p.2))=some us.toArray:=hu1;simp only[Instr.buildSlice,Sem.run_bind,run_underlying hf.und,Result.andThen_ok,ZE hf',if_neg h24,Sem.run_pure,if_pos h0,hz,hm,this];simp[newRow,newObj,Sem.run]
  ·rw[hlen,h0,hu0];simpa[hu0]using hu2
 ·obtain⟨us,hu1,hu2⟩:=hfill ((Array.range (n*re.size)).map (z'.cells[· % z'.cells.size]!)).toList sm;have hul:us.length=n*re.size:=by rw[hu2.1,hflen,hlen]
  refine⟨w,e,us,n,?_,rfl,rfl,rfl,Qg _,rfl,fun x hx=>(hk x hx).1,?_,om,om,by simp[hlen]⟩
  ·rw[he,hlen];have:Instr.fill (fun i=>some (i*re.size,re.size)) ((Array.range (n*re.size)).map (z'.cells[· % z'.cells.size]!)) (ps.toList.map fun p=>(p.1,a.eval p.2))=some us.toArray:=by
    rw[←hu1]
   simp only[Instr.buildSlice,Sem.run_bind,run_underlying hf.und,Result.andThen_ok,ZE hf',if_neg h24,Sem.run_pure,if_neg h0,Yl hf',hm,this];simp[newRow,newObj,Sem.run]
  ·rw[hlen,Q9 om];exact hu2
def or_append{m:Nat}{H:Za}{t:TypeId}{x y:Operand}{r re:Zu}{e:TypeId}{k k':Nat}{xs ys:List AV}{ow:Own}(hT:TOK P T)
  (ho:o.op= .call {callee:=.builtin .append,args:=#[x,y],argTypes:=#[t,t]}) (h1:T t=some r) (h2:r.td= .slice e) (h3:T e=some re) (hsz:0<re.size)
  (hx:ρ x= .sl k xs .full) (hy:ρ y= .sl k' ys ow) (hk:xs=[]∨k=re.size) (hk':ys=[]∨k'=re.size) (hml:xs.length+ys.length≤maxLen) (hby:(xs.length+ys.length)*re.bytes≤140737488355328):
  Yv P m o ρ H (.sl re.size (xs++ys) .any) H:=fun E w a hr hops=>by
 obtain⟨d,inf,z,hf⟩:=Zd (hT t r h1);obtain⟨d',i',z',hf'⟩:=Zd (hT e re h3);have hd:=ZJ (h2▸hf.fits);subst hd;have hxv:=hops x sC;have hyv:=hops y sC;rw[hx]at hxv;rw[hy]at hyv;have he:∀w',(execOp a.eval o).run P w'=((Builtin.append_ #[t,t] o.type #[a.eval x,a.eval y]).run P w').andThen fun v w''=>.ok (.value v) w'':=fun w'=>by
  simp[execOp,ho,resolve,invoke,builtin]
 have hu:P.underlying t=some (.slice e):=hf.und;have hsm:(9223372036854775807:Int)=9223372036854775807:=rfl;have hmx:xs.length+ys.length≤9223372036854775807:=by unfold maxLen at hml;omega
 by_cases hy0:ys=[]
 ·-- nothing is appended:the first one itself
  subst hy0;rw[Qs];have hrun:(Builtin.append_ #[t,t] o.type #[a.eval x,a.eval y]).run P w= .ok (a.eval x) w:=by
   rcases hxv.Vr with⟨⟨a1,e1,_⟩,_,_⟩|⟨b,off,cap,cs,e1,_,_,_,hc,_,_⟩<;>rcases hyv.Vr with⟨⟨a2,e2,_⟩,_,_⟩|⟨b2,off2,cap2,cs2,e2,_,_,_,hc2,_,_⟩<;>rw[e1,e2]
   ·cases a1<;>cases a2<;>simp[Builtin.append_,run_underlying hu,sizeOf,typeInfo,hf'.info,Builtin.lenOf,Builtin.firstCells,loadCells,loadCellsFrom,storeCells]
   ·cases a1<;>simp[Builtin.append_,run_underlying hu,sizeOf,typeInfo,hf'.info,Builtin.lenOf,Builtin.firstCells,loadCells,loadCellsFrom,storeCells]
   ·cases a2<;>simp[Builtin.append_,run_underlying hu,sizeOf,typeInfo,hf'.info,Builtin.lenOf,Builtin.firstCells,hc,loadCells,loadCellsFrom,storeCells]
   ·simp[Builtin.append_,run_underlying hu,sizeOf,typeInfo,hf'.info,Builtin.lenOf,Builtin.firstCells,hc,loadCells,loadCellsFrom,storeCells]
  refine⟨a.eval x,E,w,.inl (by rw[he,hrun];rfl),?_,hr,.refl m E w⟩;rcases hk with rfl|rfl
  ·exact(ZaX hxv).any
  ·exact hxv.any
 ·have hk':k'=re.size:=hk'.resolve_left hy0;subst hk';rcases hyv.Vr with⟨_,e2,_⟩|⟨b2,off2,cap2,cs2,e2,hky,hvy,hFy,_,_,_⟩
  ·exact absurd e2 hy0
  have hylen:0<ys.length:=G9.2 hy0;have hl2:cs2.length=ys.length*i'.size:=by rw[hvy.1,flat_length hky,hf'.size]
  have hn2:∀j v,cs2[j]? =some v→w.cell? ((⟨b2,off2,none⟩:Addr).add j)=some v:=fun j v hj=>by rw[ZK];exact hr.F _ _ _ (hFy j v hj)
  have hb48:Builtin.nextslicecap (xs.length+ys.length) xs.length*i'.bytes≤281474976710656:=growslice_fits om (by rw[hf'.bytes];exact hby);have fin:∀(vs:List Value) (cap:Nat),(execOp a.eval o).run P w= .ok (.value (.slice (some ⟨w.heap.size,0,none⟩) (xs++ys).length cap)) (w.drew.alloc (.cells vs.toArray e))→(∀x∈xs++ys,x.cells.length=re.size)→
    VRs E (flat (xs++ys)) (vs.take ((xs++ys).length*re.size))→(xs++ys).length≤cap→ ∃cv E' w',((execOp a.eval o).run P w= .ok (.value cv) w'∨((execOp a.eval o).run P w= .ok .skip w'∧cv=undef))∧VR E' (.sl re.size (xs++ys) .any) cv∧Zt m H E' w'∧Ext m E w E' w':=by
   intro vs cap hrun hkk hvv hcap;obtain⟨hh,hxx⟩:=hr.newRow vs.toArray e (w1:=w.drew) rfl rfl rfl (fun _=>Ul _) rfl;refine⟨_,_,_,.inl hrun,?_,hh,hxx⟩;refine VR.Vs (cs:=vs.take ((xs++ys).length*re.size)) hkk (hvv.mono hr.norm hxx.le) (fun j u hj=>?_) hcap (by rw[Qh];exact hml) trivial;simp only[Env.addRow,if_true,QK];have hlt:j<(xs++ys).length*re.size:=by
    rcases Qe j ((xs++ys).length*re.size)with h|h
    ·exact h
    ·rw[UY,if_neg om]at hj;cases hj
   rw[QZ hlt]at hj;simpa using hj
  rcases hxv.Vr with⟨⟨a1,e1,ea1⟩,ex,_⟩|⟨b1,off1,cap1,cs1,e1,hkx,hvx,hFx,hc1,_,how⟩
  ·subst ex;obtain rfl:=ea1 sm;simp only[QB,QK]at hmx hb48 hml hby;have hr1:=run_append_nil (P:=P) w t o.type e i' z' hu hf'.info hf'.zero ⟨b2,off2,none⟩ ys.length cap2 cs2 hl2 hn2 hylen om (by rw[hf'.bytes];omega);simp only[Q5];simp only[Q5]at fin;refine fin (cs2++(Builtin.zeroCells z'.cells (grownCap w ys.length 0 e - ys.length)).toList) (grownCap w ys.length 0 e) ?_ hky ?_ (grownCap_ge w _ _ _)
   ·rw[he,e1,e2,hr1];simp only[Result.andThen_ok];congr 3
    apply QaD;simp
   ·rw[MS (by rw[hvy.1,flat_length hky];exact Qg _),Q9 (by rw[hvy.1,flat_length hky];exact Qg _)];exact hvy
  ·have hcap1:cap1=xs.length:=how;subst hcap1;by_cases hx0:xs=[]
   ·subst hx0;simp only[QB,QK]at hmx hb48 hml hby;have hcs1:cs1=[]:=Ug (by rw[hvx.1];rfl);have hr1:=run_append_grow (P:=P) w t o.type e i' z' hu hf'.info hf'.zero ⟨b1,off1,none⟩ 0 0 [] sm sm ⟨b2,off2,none⟩ ys.length cap2 cs2 hl2 hn2 om om (by simpa using hb48);simp only[Q5];simp only[Q5]at fin;simp only[QK]at hr1;refine fin (cs2++(Builtin.zeroCells z'.cells (grownCap w ys.length 0 e - ys.length)).toList) (grownCap w ys.length 0 e) ?_ hky ?_ (grownCap_ge w _ _ _)
    ·rw[he,e1,e2];simp only[QB];rw[hr1];simp only[Result.andThen_ok];congr 3
     apply QaD;simp
    ·rw[MS (by rw[hvy.1,flat_length hky];exact Qg _),Q9 (by rw[hvy.1,flat_length hky];exact Qg _)];exact hvy
   ·have hkk:=hk.resolve_left hx0;subst hkk;have hl1:cs1.length=xs.length*i'.size:=by rw[hvx.1,flat_length hkx,hf'.size]
    have hn1:∀j v,cs1[j]? =some v→w.cell? ((⟨b1,off1,none⟩:Addr).add j)=some v:=fun j v hj=>by rw[ZK];exact hr.F _ _ _ (hFx j v hj)
    have hr1:=run_append_grow (P:=P) w t o.type e i' z' hu hf'.info hf'.zero ⟨b1,off1,none⟩ xs.length xs.length cs1 hl1 hn1 ⟨b2,off2,none⟩ ys.length cap2 cs2 hl2 hn2 om om hb48;have hkall:∀x∈xs++ys,x.cells.length=re.size:=fun x hx=>by
     rcases Qk.1 hx with h|h
     ·exact hkx x h
     ·exact hky x h
    have hlall:(cs1++cs2).length=(xs++ys).length*re.size:=by rw[Qh,hl1,hl2,hf'.size,Qh,Ui]
    refine fin (cs1++cs2++(Builtin.zeroCells z'.cells (grownCap w (xs.length+ys.length) xs.length e - (xs.length+ys.length))).toList) (grownCap w (xs.length+ys.length) xs.length e) ?_ hkall ?_ (by rw[Qh];exact grownCap_ge w _ _ _)
    ·rw[he,e1,e2,hr1,Qh];simp only[Result.andThen_ok];congr 3
     apply QaD;simp
    ·rw[MS om,Q9 om,YZ];exact hvx.append hvy
end ops
def Env.X9(E:Env)(l k b:Nat):Env:={E with m:=fun l' k'=>if l'=l∧k'=k then some b else E.m l' k'}
def Za.upd_same(H:Za)(l k:Nat)(b:Ze):H.upd l k b l k=some b:=by simp[Za.upd]
section
variable {l k:Nat}
def Za.upd_ne(H:Za){l' k':Nat}(b:Ze)(h:¬(l'=l∧k'=k)):H.upd l k b l' k'=H l' k':=by simp only[Za.upd,if_neg h]
variable {w:World} {E:Env} {H:Za} {m:Nat}
def Zt.ZdO(h:Zt m H E w)(hl:l<m)(hfree:H l k=none)(ob:Obj)(blk:Ze)(hblk:Zei (E.X9 l k w.heap.size) (w.alloc ob) l k blk):
  Zt m (H.upd l k blk) (E.X9 l k w.heap.size) (w.alloc ob)∧Ext m E w (E.X9 l k w.heap.size) (w.alloc ob):=by
 obtain⟨d1,d2,d3⟩:=h.dom l k hl hfree;have hlt:∀l' k' b,E.m l' k'=some b→b<w.heap.size:=fun l' k' b hm=>h.lt b (.inl ⟨l',k',hm⟩)
 have hgt:∀l' k' b,E.g l' k'=some b→b<w.heap.size:=fun l' k' b hm=>h.lt b (.inr ⟨l',k',hm⟩)
 have hm':∀l' k' b,(E.X9 l k w.heap.size).m l' k'=some b→(l'=l∧k'=k∧b=w.heap.size)∨(¬(l'=l∧k'=k)∧E.m l' k'=some b):=by
  intro l' k' b hm;simp only[Env.X9]at hm;by_cases hc:l'=l∧k'=k
  ·rw[if_pos hc]at hm;exact .inl ⟨hc.1,hc.2,by simpa using hm.symm⟩
  ·rw[if_neg hc]at hm;exact .inr ⟨hc,hm⟩
 have hle:E.le m (E.X9 l k w.heap.size):=⟨fun _ _ _ h=>h,fun l' k' b _ hm=>by
  simp only[Env.X9];rw[if_neg (fun hc=>by rw[hc.1,hc.2,d1]at hm;cases hm)];exact hm,fun _ _ _ _ _ h=>h,rfl⟩
 have hold:∀b,b<w.heap.size→(w.alloc ob).heap[b]? =w.heap[b]?:=fun b hb=>by
  simp only[World.alloc,MI];rw[if_neg om]
 have hc?:∀b o,b<w.heap.size→(w.alloc ob).cell? ⟨b,o,none⟩=w.cell? ⟨b,o,none⟩:=fun b o hb=>by
  simp only[World.cell?,hold b hb]
 refine⟨{norm:=?_,F:=?_,blk:=?_,dom:=?_,nobuf:=?_,inj:=?_,injg:=h.injg,mg:=?_,mF:=?_,lt:=?_},⟨hle,rfl,rfl,rfl,fun _=>Qg _,sm,fun b hb _=>hold b hb,?_⟩⟩
 ·refine⟨fun l' k' hl'=>?_,h.norm.g,h.norm.hist⟩;simp only[Env.X9];rw[if_neg (fun hc=>by omega)];exact h.norm.m l' k' hl'
 ·intro b o v hf;rw[hc? b o (h.ZcB hf)];exact h.F b o v hf
 ·intro l' k' bb hl' hH;by_cases hc:l'=l∧k'=k
  ·obtain⟨rfl,rfl⟩:=hc;rw[Za.upd_same,Qp]at hH;subst hH;exact hblk
  ·rw[Za.upd_ne H blk hc]at hH;exact(h.blk l' k' bb hl' hH).keep (by simp only[Env.X9];rw[if_neg hc]) rfl (fun _=>rfl) (fun p _ r hr=>hle.m p.1 p.2 r (h.norm.Zaw hr) hr) (fun r hr=>hold r (hr.elim (hlt _ _ _) (hgt _ _ _))) (fun _ _ _ hf=>hf) (fun a _ v hv=>hv.mono h.norm hle)
 ·intro l' k' hl' hH;by_cases hc:l'=l∧k'=k
  ·obtain⟨rfl,rfl⟩:=hc;rw[Za.upd_same]at hH;cases hH
  ·rw[Za.upd_ne H blk hc]at hH;obtain⟨a1,a2,a3⟩:=h.dom l' k' hl' hH;exact⟨by simp only[Env.X9];rw[if_neg hc];exact a1,a2,a3⟩
 ·intro l' k' hg;have hc:¬(l'=l∧k'=k):=fun hc=>by rw[hc.1,hc.2]at hg;exact hg d2
  rw[Za.upd_ne H blk hc];exact h.nobuf l' k' hg
 ·intro l1 k1 l2 k2 b h1 h2;rcases hm' _ _ _ h1 with⟨a1,a2,a3⟩|⟨_,a1⟩<;>rcases hm' _ _ _ h2 with⟨b1,b2,b3⟩|⟨_,b1⟩
  ·exact⟨a1.trans b1.symm,a2.trans b2.symm⟩
  ·have:=hlt _ _ _ b1;omega
  ·have:=hlt _ _ _ a1;omega
  ·exact h.inj _ _ _ _ _ a1 b1
 ·intro l1 k1 l2 k2 b h1 h2;rcases hm' _ _ _ h1 with⟨a1,a2,a3⟩|⟨_,a1⟩
  ·have:=hgt _ _ _ h2;omega
  ·exact h.mg _ _ _ _ _ a1 h2
 ·intro l1 k1 b o h1;rcases hm' _ _ _ h1 with⟨a1,a2,a3⟩|⟨_,a1⟩
  ·subst a3;cases hf:E.F w.heap.size o with
   |none=>exact hf
   |some v=>have:=h.ZcB hf;omega
  ·exact h.mF _ _ _ _ a1
 ·intro b hb;rcases hb with⟨l',k',hm⟩|⟨l',k',hg⟩
  ·rcases hm' _ _ _ hm with⟨_,_,rfl⟩|⟨_,a1⟩
   ·simp
   ·have:=hlt _ _ _ a1;simp;omega
  ·have:=hgt _ _ _ hg;simp;omega
 ·intro b hb ho;rcases ho with⟨l',k',hm⟩|⟨l',k',hg⟩
  ·rcases hm' _ _ _ hm with⟨_,_,rfl⟩|⟨_,a1⟩
   ·omega
   ·exact .inl ⟨l',k',a1⟩
  ·exact .inr ⟨l',k',hg⟩
def Zt.turn{w':World}(h:Zt m H E w){b:Nat}(hm:E.m l k=some b∨E.g l k=some b)(blk:Ze)(hnb:E.g l k≠none→blk.isBuf=true)
  (os:w'.os=w.os) (tape:w'.tape=w.tape) (output:w'.output=w.output) (drawn:E.qd=true→w.drawn≤w'.drawn) (size:w'.heap.size=w.heap.size) (hold:∀b',b'≠b→w'.heap[b']? =w.heap[b']?)
  (hF:∀o,E.F b o=none) (hblk:Zei E w' l k blk):
  Zt m (H.upd l k blk) E w'∧Ext m E w E w':=by
 have hlm:l<m:=hm.elim (fun hm=>h.norm.Zaw hm) (fun hm=>h.norm.Zud hm);have hne:∀l' k' b',E.m l' k'=some b'∨E.g l' k'=some b'→ ¬(l'=l∧k'=k)→b'≠b:=fun l' k' b' hm' hc e=>by
  subst e;rcases hm' with hm'|hm'<;>rcases hm with hm|hm
  ·exact hc (h.inj _ _ _ _ _ hm' hm)
  ·exact h.mg _ _ _ _ _ hm' hm
  ·exact h.mg _ _ _ _ _ hm hm'
  ·exact hc (h.injg _ _ _ _ _ hm' hm)
 refine⟨{norm:=h.norm,F:=?_,blk:=?_,dom:=?_,nobuf:=?_,inj:=h.inj,injg:=h.injg,mg:=h.mg,mF:=h.mF,lt:=?_},⟨.refl m E,os,tape,output,drawn,om,fun b' _ ho=>?_,fun _ _ h=>h⟩⟩
 ·intro b' o v hf;have:b'≠b:=fun e=>by subst e;rw[hF o]at hf;cases hf
  have hc:=h.F b' o v hf;simp only[World.cell?,hold b' this]at hc⊢;exact hc
 ·intro l' k' bb hl' hH;by_cases hc:l'=l∧k'=k
  ·obtain⟨rfl,rfl⟩:=hc;rw[Za.upd_same,Qp]at hH;subst hH;exact hblk
  ·rw[Za.upd_ne H blk hc]at hH;exact(h.blk l' k' bb hl' hH).keep rfl rfl (fun _=>rfl) (fun _ _ _ h=>h) (fun r hr=>hold r (hne _ _ _ hr hc)) (fun _ _ _ h=>h) (fun _ _ _ h=>h)
 ·intro l' k' hl' hH;by_cases hc:l'=l∧k'=k
  ·obtain⟨rfl,rfl⟩:=hc;rw[Za.upd_same]at hH;cases hH
  ·rw[Za.upd_ne H blk hc]at hH;exact h.dom l' k' hl' hH
 ·intro l' k' hg;by_cases hc:l'=l∧k'=k
  ·obtain⟨rfl,rfl⟩:=hc;exact⟨blk,Za.upd_same _ _ _ _,hnb hg⟩
  ·rw[Za.upd_ne H blk hc];exact h.nobuf l' k' hg
 ·intro b' ho;rw[size];exact h.lt b' ho
 ·exact hold b' (fun e=>ho (by subst e;exact hm.elim (fun hm=>.inl ⟨l,k,hm⟩) (fun hm=>.inr ⟨l,k,hm⟩)))
theorem Zt.m_g(h:Zt m H E w){b:Nat}(hm:E.m l k=some b):E.g l k=none:=by
 cases hg:E.g l k with
 |none=>rfl
 |some g=>
  obtain⟨bb,hb,hi⟩:=h.nobuf l k (by rw[hg];simp);have:=h.blk l k bb (h.norm.Zaw hm) hb;cases bb with
  |buf e sz fr=>rw[this.2]at hm;cases hm
  |Zg e sz cs n=>rw[this.2]at hm;cases hm
  |_=>cases hi
section ops
variable {P:Program} {T:TT} {o:Oper} {ρ:Operand→AV}
def Jk{t:TypeId}{r:Zu}{d:TypeDesc}{i:TypeInfo}{z:Value}(hf:Jb P t r d i z){b off:Nat}{cs:List Value}{w:World}(hc:∀j u,cs[j]? =some u→w.cell? ⟨b,off+j,none⟩=some u)
  (hl:r.size≤cs.length) (h1:r.isAgg=false→0<cs.length):
  (loadVar t ⟨b,off,none⟩).run P w= .ok (if r.isAgg then .agg (cs.take r.size).toArray else cs.getD 0 undef) w:=by
 unfold loadVar;cases hag:r.isAgg with
 |true=>
  have:=run_loadCells_list (P:=P) w ⟨b,off,none⟩ (cs.take r.size) (fun j v hj=>by
   rw[ZK];exact hc j v (by
    rcases Qe j r.size with h|h
    ·rwa [QZ h]at hj
    ·rw[UY,if_neg om]at hj;cases hj))
  rw[QM,Qa0 hl]at this;simp only[Sem.run_bind,JL hf,hag,Result.andThen_ok,if_true,ZE hf,this,Sem.run_pure]
 |false=>
  have h0:=h1 hag;have hx:cs[0]? =some cs[0]:=Qb h0;have:=hc 0 _ hx;simp only[UF]at this;simp[JL hf,hag,this,Qn,hx]
def Zco{E:Env}{cs:List AV}{vs:List Value}{r:Zu}(hv:VRs E cs vs)(h1:r.isAgg=false→0<cs.length):
  VR E (if r.isAgg then .agg (cs.take r.size)else cs.getD 0 .dead) (if r.isAgg then .agg (vs.take r.size).toArray else vs.getD 0 undef):=by
 cases hag:r.isAgg with
 |true=>
  have:=hv.take r.size;simp only[if_true];exact .agg _ _ this.1 this.2
 |false=>
  have h0:=h1 hag;simp only[QW,if_false];have h2:0<vs.length:=by rw[hv.1];exact h0
  have:=hv.2 0 h0 h2;simpa[Qn,Qb h0,Qb h2]using this
def Zd9{m:Nat}{H:Za}{t:TypeId}{x:Operand}{r:Zu}{cs:List AV}(hT:TOK P T)(ho:o.op= .load t x)(h1:T t=some r)(hv:ρ x= .iptr cs)(hl:r.size≤cs.length)(h0:r.isAgg=false→0<cs.length):
  Yv P m o ρ H (if r.isAgg then .agg (cs.take r.size)else cs.getD 0 .dead) H:=fun E w a hr hops=>by
 have hx:=hops x sO;rw[hv]at hx;obtain⟨d,i,z,hf⟩:=Zd (hT t r h1);have he:execOp a.eval o=(do let v←Instr.loadAt t (a.eval x);pure (Next.value v)):=by simp only[execOp,ho]
 generalize hy:a.eval x=y at hx;cases hx with|iptr _ b off c hc hcv=>
 have hvs:VRs E cs ((List.range cs.length).map c):=⟨sm,fun j h1 h2=>by simpa using hcv j h1⟩
 have hcell:∀j u,((List.range cs.length).map c)[j]? =some u→w.cell? ⟨b,off+j,none⟩=some u:=fun j u hj=>by
  rw[Ua]at hj;rcases Qe j cs.length with h|h
  ·rw[List.getElem?_range h]at hj;simp only[Us,Qp]at hj;subst hj;exact hr.F _ _ _ (hc j h)
  ·rw[Uu (by simpa using h)]at hj;cases hj
 have hrun:=Jk (P:=P) hf hcell (by simpa using hl) (by simpa using h0);refine⟨_,E,w,.inl ?_,Zco hvs h0,hr,.refl m E w⟩;rw[he,hy];simp only[Instr.loadAt,Instr.sureAddr,Sem.run_bind,Sem.run_pure,Result.andThen_ok,hrun]
def Zjy{m:Nat}{H:Za}{t:TypeId}{x:Operand}{r:Zu}{l k off:Nat}{cs:List AV}(hT:TOK P T)(ho:o.op= .load t x)(h1:T t=some r)(hv:ρ x= .ptr l k off)(hH:H l k=some (.box cs))
  (hl:off+r.size≤cs.length) (h0:r.isAgg=false→off<cs.length):
  Yv P m o ρ H (if r.isAgg then .agg ((cs.drop off).take r.size)else(cs.drop off).getD 0 .dead) H:=fun E w a hr hops=>by
 have hx:=hops x sO;rw[hv]at hx;obtain⟨d,i,z,hf⟩:=Zd (hT t r h1);have he:execOp a.eval o=(do let v←Instr.loadAt t (a.eval x);pure (Next.value v)):=by simp only[execOp,ho]
 generalize hy:a.eval x=y at hx;cases hx with|ptr _ _ _ b hm=>
 obtain⟨b',hm',c,t',hcc,hvs⟩:=hr.box l k cs (hr.norm.Zaw hm) hH;rw[hm]at hm';cases hm';have hcell:∀j u,(c.toList.drop off)[j]? =some u→w.cell? ⟨b,off+j,none⟩=some u:=fun j u hj=>by
  rw[UM]at hj;simp only[World.cell?,hcc];simpa using hj
 have hlen:=hvs.1;have hrun:=Jk (P:=P) hf hcell (by rw[QU];omega) (fun h=>by rw[QU];have:=h0 h;omega);refine⟨_,E,w,.inl ?_,Zco (hvs.drop off) (fun h=>by rw[QU];have:=h0 h;omega),hr,.refl m E w⟩;rw[he,hy];simp only[Instr.loadAt,Instr.sureAddr,Sem.run_bind,Sem.run_pure,Result.andThen_ok,hrun]
def ZkK{m:Nat}{H:Za}{t:TypeId}{x y:Operand}{r:Zu}{l k off:Nat}{cs:List AV}{v:AV}(hT:TOK P T)(ho:o.op= .store t x y)(h1:T t=some r)(hx:ρ x= .ptr l k off)(hy:ρ y=v)(hH:H l k=some (.box cs))
  (hvl:v.cells.length=r.size) (hone:∀c∈v.cells,c.one=true) (hl:off+r.size≤cs.length):
  Yv P m o ρ H (.tup []) (H.upd l k (.box (splice cs off v.cells))):=fun E w a hr hops=>by
 have hxv:=hops x sO;have hyv:=hops y sO;rw[hx]at hxv;rw[hy]at hyv;obtain⟨d,i,z,hf⟩:=Zd (hT t r h1);have he:execOp a.eval o=(do Instr.storeAt t (a.eval x) (a.eval y);pure .skip):=by simp only[execOp,ho]
 generalize hp:a.eval x=p at hxv;cases hxv with|ptr _ _ _ b hm=>
 obtain⟨b',hm',c,t',hcc,hvs⟩:=hr.box l k cs (hr.norm.Zaw hm) hH;rw[hm]at hm';cases hm';have hcv:=hyv.cells hone;have hus:(a.eval y).cells.toList.length=r.size:=hcv.1.trans hvl;have hlen:=hvs.1;have hst:=run_storeCells_at P b off t' (a.eval y).cells.toList 0 c w hcc (by rw[hus];simp at hlen;omega) (fun u hu=>by
  obtain⟨j,hj,rfl⟩:=QJ hu;exact(hcv.2 j (by rw[←hcv.1];exact hj) hj).one (hone _ (Qa _)))
 simp only[UF]at hst;obtain⟨hh,hx'⟩:=hr.turn (w':=w.setRow b (c.toList.take off++(a.eval y).cells.toList++c.toList.drop (off+(a.eval y).cells.toList.length)).toArray) (.inl hm) (.box (splice cs off v.cells)) (fun hg=>absurd (hr.m_g hm) hg) rfl rfl rfl (fun _=>Qg _) (by simp[World.setRow])
  (fun b' hb'=>setRow_other w b b' _ hb') (fun o=>hr.mF _ _ _ o hm) ⟨b,hm,_,t',setRow_heap w b c _ t' (0,0) hcc,by
   unfold splice;rw[hus,hvl,Uc];exact(hvs.take off).append (hcv.append (hvs.drop _))⟩
 refine⟨undef,E,_,.inr ⟨?_,rfl⟩,V4 E,hh,hx'⟩;rw[he,hp];simp only[Instr.storeAt,Instr.sureAddr,storeVar,Sem.run_bind,Sem.run_pure,Result.andThen_ok,ZE hf];rw[if_neg (by simp at hus;simp[hus])];simp only[hst,Result.andThen_ok]
def Zt.mrow{m:Nat}{H:Za}{E:Env}{w:World}(h:Zt m H E w){l k n g cap e sz:Nat}{cs:List AV}(hh:E.hist l k n=some (.slice (some ⟨g,0,none⟩) n cap))(hH:H l k=some (.Zg e sz cs n))(hn:0<n):
  ∃cur,E.g l k=some g∧w.heap[g]? =some (.cells cur e (0,0))∧n≤cap∧cap≤maxLen∧cur.size=cap*sz∧(∀o,E.F g o=none)∧VRs E cs (cur.toList.take (n*sz))∧cs.length=n*sz:=by
 obtain⟨⟨h0,v,h1,h2,h3⟩,_⟩:=h.Zg l k e sz cs n (h.norm.Xw hh) hH;rw[hh]at h1;cases h1;rcases h3 with⟨a,q1,q2,_⟩|⟨g',cap',cur,q1,q2,q3,q4,q5,q6,q7,q8⟩
 ·omega
 ·cases q1;exact⟨cur,q2,q3,q4,q5,q6,q7,q8,h0⟩
def ZiQ{m:Nat}{H:Za}{t:TypeId}{x:Operand}{r:Zu}{l k n off e sz:Nat}{cs:List AV}(hT:TOK P T)(ho:o.op= .load t x)(h1:T t=some r)(hv:ρ x= .eptr l k n off)(hH:H l k=some (.Zg e sz cs n))(hn:0<n)
  (hl:off+r.size≤cs.length) (h0:r.isAgg=false→off<cs.length):
  Yv P m o ρ H (if r.isAgg then .agg ((cs.drop off).take r.size)else(cs.drop off).getD 0 .dead) H:=fun E w a hr hops=>by
 have hx:=hops x sO;rw[hv]at hx;obtain⟨d,i,z,hf⟩:=Zd (hT t r h1);have he:execOp a.eval o=(do let v←Instr.loadAt t (a.eval x);pure (Next.value v)):=by simp only[execOp,ho]
 generalize hy:a.eval x=y at hx;cases hx with|eptr _ _ _ _ g cap hh=>
 obtain⟨cur,q1,q2,q3,q4,q5,q6,q7,q8⟩:=hr.mrow hh hH hn;have hcell:∀j u,((cur.toList.take (n*sz)).drop off)[j]? =some u→w.cell? ⟨g,off+j,none⟩=some u:=fun j u hj=>by
  rw[UM]at hj;simp only[World.cell?,q2];rcases Qe (off+j) (n*sz)with h|h
  ·rw[QZ h]at hj;simpa using hj
  ·rw[UY,if_neg om]at hj;cases hj
 have hlen:=q7.1;have hrun:=Jk (P:=P) hf hcell (by rw[QU];omega) (fun h=>by rw[QU];have:=h0 h;omega);refine⟨_,E,w,.inl ?_,Zco (q7.drop off) (fun h=>by rw[QU];have:=h0 h;omega),hr,.refl m E w⟩;rw[he,hy];simp only[Instr.loadAt,Instr.sureAddr,Sem.run_bind,Sem.run_pure,Result.andThen_ok,hrun]
def ZcI{m:Nat}{H:Za}{t:TypeId}{x y:Operand}{r:Zu}{l k n off e sz:Nat}{cs:List AV}{v:AV}(hT:TOK P T)(ho:o.op= .store t x y)(h1:T t=some r)(hx:ρ x= .eptr l k n off)(hy:ρ y=v)(hH:H l k=some (.Zg e sz cs n))(hn:0<n)
  (hvl:v.cells.length=r.size) (hone:∀c∈v.cells,c.one=true) (hl:off+r.size≤cs.length):
  Yv P m o ρ H (.tup []) (H.upd l k (.Zg e sz (splice cs off v.cells) n)):=fun E w a hr hops=>by
 have hxv:=hops x sO;have hyv:=hops y sO;rw[hx]at hxv;rw[hy]at hyv;obtain⟨d,i,z,hf⟩:=Zd (hT t r h1);have he:execOp a.eval o=(do Instr.storeAt t (a.eval x) (a.eval y);pure .skip):=by simp only[execOp,ho]
 generalize hp:a.eval x=p at hxv;cases hxv with|eptr _ _ _ _ g cap hh=>
 obtain⟨c,q1,q2,q3,q4,q5,q6,q7,q8⟩:=hr.mrow hh hH hn;have hcv:=hyv.cells hone;have hus:(a.eval y).cells.toList.length=r.size:=hcv.1.trans hvl;have hlen:=q7.1;have hle:n*sz≤cap*sz:=QF _ q3;have hst:=run_storeCells_at P g off e (a.eval y).cells.toList 0 c w q2 (by rw[hus];omega) (fun u hu=>by
  obtain⟨j,hj,rfl⟩:=QJ hu;exact(hcv.2 j (by rw[←hcv.1];exact hj) hj).one (hone _ (Qa _)))
 simp only[UF]at hst;have hsl:(splice cs off v.cells).length=cs.length:=by simp only[splice,Qh,QM,QU];omega
 obtain⟨⟨_,v0,hv0,hj0,_⟩,hm0⟩:=hr.Zg l k e sz cs n (hr.norm.Xw hh) hH;rw[hh]at hv0;cases hv0;obtain⟨hh2,hx'⟩:=hr.turn (w':=w.setRow g (c.toList.take off++(a.eval y).cells.toList++c.toList.drop (off+(a.eval y).cells.toList.length)).toArray) (.inr q1) (.Zg e sz (splice cs off v.cells) n) (fun _=>rfl) rfl rfl rfl (fun _=>Qg _) (by simp[World.setRow])
  (fun b' hb'=>setRow_other w g b' _ hb') q6 ⟨⟨by rw[hsl,q8],_,hh,hj0,.inr ⟨g,cap,_,rfl,q1,setRow_heap w g c _ e (0,0) q2,q3,q4,by simp only[MK,Qh,QM,QU,Uj]at hus hlen hle⊢;omega,q6,by
   have e1:((c.toList.take off++(a.eval y).cells.toList++c.toList.drop (off+(a.eval y).cells.toList.length)).toArray.toList).take (n*sz)=
     (c.toList.take (n*sz)).take off++((a.eval y).cells.toList++(c.toList.take (n*sz)).drop (off+r.size)):=by
    rw[MG,hus,Uc,Qat,Qat,QaJ,QaJ,Qa9];have h1:min off (n*sz)=off:=om;have h2:min (n*sz) off=off:=om;have h3:(c.toList.take off).length=off:=by rw[QM];simp;omega
    rw[h1,h2,h3,hus,Q9 (l:=(a.eval y).cells.toList) om,show n*sz - off - r.size=n*sz - (off+r.size) by omega]
   rw[e1];unfold splice;rw[hvl];exact(q7.take off).append (hcv.append (q7.drop _))⟩⟩,hm0⟩
 refine⟨undef,E,_,.inr ⟨?_,rfl⟩,V4 E,hh2,hx'⟩;rw[he,hp];simp only[Instr.storeAt,Instr.sureAddr,storeVar,Sem.run_bind,Sem.run_pure,Result.andThen_ok,ZE hf];rw[if_neg (by simp at hus;simp[hus])];simp only[hst,Result.andThen_ok]
def Zgy{t:TypeId}{v:Value}{w:World}:(newVar t v).run P w= .ok ⟨w.heap.size,0,none⟩ (w.alloc (.cells v.cells t)):=by
 simp[newVar,newRow,newObj,Sem.run]
def ZqZ{m:Nat}{H:Za}{E:Env}{w:World}(h:Zt m H E w){l k:Nat}(hl:l<m)(hfree:H l k=none){cs:List AV}{v:Value}(hv:VRs E cs v.cells.toList)(t:TypeId):
  Zt m (H.upd l k (.box cs)) (E.X9 l k w.heap.size) (w.alloc (.cells v.cells t))∧Ext m E w (E.X9 l k w.heap.size) (w.alloc (.cells v.cells t)):=by
 have hle:E.le m (E.X9 l k w.heap.size):=by
  obtain⟨d1,_,_⟩:=h.dom l k hl hfree;exact⟨fun _ _ _ h=>h,fun l' k' b _ hm=>by
   simp only[Env.X9];rw[if_neg (fun hc=>by rw[hc.1,hc.2,d1]at hm;cases hm)];exact hm,fun _ _ _ _ _ h=>h,rfl⟩
 exact h.ZdO hl hfree _ (.box cs) ⟨w.heap.size,by simp[Env.X9],v.cells,t,heap_alloc_new w _,hv.mono h.norm hle⟩
def Zs2{m:Nat}{H:Za}{t:TypeId}{x:Operand}{l k:Nat}{v:AV}(ho:o.op= .box t x)(hx:ρ x=v)(hone:∀c∈v.cells,c.one=true)(hl:l<m)(hfree:H l k=none):
  Yv P m o ρ H (.ptr l k 0) (H.upd l k (.box v.cells)):=fun E w a hr hops=>by
 have hxv:=hops x sO;rw[hx]at hxv;have he:execOp a.eval o=(do let v←Instr.box t (a.eval x);pure (Next.value v)):=by simp only[execOp,ho]
 obtain⟨hh,hxx⟩:=ZqZ hr hl hfree (hxv.cells hone) t;refine⟨.pointer (some ⟨w.heap.size,0,none⟩),_,_,.inl ?_,.ptr l k 0 _ (by simp[Env.X9]),hh,hxx⟩;rw[he];simp only[Instr.box,Sem.run_bind,Zgy,Sem.run_pure,Result.andThen_ok]
def ZpQ{m:Nat}{H:Za}{t:TypeId}{l k:Nat}{r:Zu}(hT:TOK P T)(ho:o.op= .alloc t)(h1:T t=some r)(hl:l<m)(hfree:H l k=none):
  Yv P m o ρ H (.ptr l k 0) (H.upd l k (.box r.zero)):=fun E w a hr hops=>by
 obtain⟨d,i,z,hf⟩:=Zd (hT t r h1);have he:execOp a.eval o=(do let v←Instr.alloc t true (.tuple #[]);pure (Next.value v)):=by simp only[execOp,ho]
 obtain⟨hh,hxx⟩:=ZqZ hr hl hfree (Xv hf.zfits) t;refine⟨.pointer (some ⟨w.heap.size,0,none⟩),_,_,.inl ?_,.ptr l k 0 _ (by simp[Env.X9]),hh,hxx⟩;rw[he];simp only[Instr.alloc,Sem.run_bind,Yl hf,Zgy,Sem.run_pure,Result.andThen_ok]
end ops
end
end Go.Abs
