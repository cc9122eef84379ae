/- Abstract values, the ghost environment, and the relation of abstract values to the model's values. No program, no condition. -/
import Derived.WalkKit
import Derived.RangeFuncLeaves
import Derived.RangeFuncRecord
import Derived.OrdersIn
import Derived.TacticsIn
import Derived.Orders
import Derived.Laws.StructEq
import Derived.WideKeyRuns
import Derived.Laws.IdiomRangeMap
import Derived.Laws.BytesString
set_option linter.all false
set_option maxRecDepth 100000
noncomputable section
abbrev Bs:=List UInt8
theorem sS{p:Prop}(h:p:=by simp only[go_sem,simprocAttr]):p:=h
theorem ck{α:Type _}{a b:α}(h:a=b:=by kernel_rfl):some a=some b:=congrArg some h
theorem sF{p:Prop}(h:p:=by simp only[go_sem,simprocAttr,full]):p:=h
theorem sO{p:Prop}(h:p:=by simp[ho,Go.Op.operands]):p:=h
theorem sC{p:Prop}(h:p:=by simp[ho,Go.Op.operands,Go.Call.operands]):p:=h
abbrev Qa:=@List.getElem_mem
abbrev Qb:=@Bool.and_eq_true
abbrev Qd:=@Nat.lt_or_ge
abbrev Qe:=@List.getElem?_eq_getElem
abbrev Qg:=@List.mem_map
abbrev Qh:=@List.length_append
abbrev Qi:=@Nat.le_refl
abbrev Qj:=@Nat.not_lt_zero
abbrev Qk:=@List.getD_eq_getElem?_getD
abbrev Ql:=@List.mem_cons
abbrev Qm:=@List.length_cons
abbrev Qn:=@List.take_succ_eq_append_getElem
abbrev Qo:=@List.mem_singleton
abbrev Qp:=@Option.some.injEq
abbrev Qq:=@Nat.lt_succ_self
abbrev Qr:=@List.mem_append
abbrev Qs:=@List.map_cons
abbrev Qu:=@List.append_nil
abbrev Qv:=@List.length_map
abbrev Qw:=@List.all_eq_true
abbrev Qx:=@List.mem_cons_of_mem
abbrev Qy:=@Nat.zero_add
abbrev Qz:=@List.length_nil
abbrev QA:=@List.not_mem_nil
abbrev QB:=@List.drop_eq_getElem_cons
abbrev QC:=@Nat.not_lt
abbrev QD:=@Array.getD_eq_getD_getElem?
abbrev QE:=@Bool.false_eq_true
abbrev QF:=@Nat.mul_le_mul_right
abbrev QG:=@List.nil_append
abbrev QI:=@List.mem_flatMap
abbrev QJ:=@List.length_take
abbrev QK:=@List.getElem_of_mem
abbrev QL:=@List.length_drop
abbrev QM:=@List.map_append
abbrev QN:=@List.cons_append
abbrev QO:=@Array.getElem?_eq_some_iff
abbrev QS:=@List.contains_cons
abbrev QT:=@List.getElem?_take_of_lt
abbrev QU:=@List.sizeOf_lt_of_mem
abbrev QV:=@List.take_length
abbrev QW:=@Bool.false_and
abbrev QX:=@Bool.true_and
abbrev QY:=@Bool.and_false
abbrev QZ:=@List.getElem_map
abbrev Q5:=@List.append_assoc
abbrev Q7:=@List.getElem?_eq_some_iff
abbrev Q8:=@List.take_append_drop
abbrev Q9:=@Nat.add_mul
abbrev Ua:=@List.eq_nil_of_length_eq_zero
abbrev Ub:=@List.getElem?_map
abbrev Uc:=@Nat.le_succ
abbrev Ud:=@List.take_of_length_le
abbrev Ue:=@List.mem_replicate
abbrev Uf:=@Bool.and_true
abbrev Ug:=@List.cons.injEq
abbrev Uh:=@Array.length_toList
abbrev Ui:=@List.getElem_cons_zero
abbrev Uj:=@Bool.or_false
abbrev Uk:=@List.flatMap_cons
abbrev Ul:=@Option.getD_some
abbrev Um:=@Nat.lt_of_lt_of_le
abbrev Un:=@Nat.lt_irrefl
abbrev Uo:=@Nat.eq_of_beq_eq_true
abbrev Ur:=@Option.map_eq_some_iff
abbrev Us:=@Nat.zero_le
abbrev Ut:=@Option.map_some
abbrev Uu:=@Option.some.inj
abbrev Uw:=@List.getElem?_eq_none
abbrev Ux:=@List.drop_of_length_le
abbrev Uy:=@List.getElem?_drop
abbrev Uz:=@List.flatMap_append
abbrev UA:=@Nat.le_trans
abbrev UC:=@Nat.add_zero
abbrev UD:=@Array.getElem?_eq_getElem
abbrev UE:=@Bool.or_self
abbrev UF:=@List.getElem?_append_left
abbrev UG:=@List.length_take_of_le
abbrev UH:=@List.mem_append_left
abbrev UJ:=@List.map_nil
abbrev UK:=@Array.getElem?_toList
abbrev UL:=@List.getElem?_take
abbrev UM:=@List.pairwise_cons
abbrev UN:=@List.drop_drop
abbrev UO:=@Array.getElem?_setIfInBounds_ne
abbrev UQ:=@List.drop_eq_nil_of_le
abbrev UR:=@Nat.succ_pos
abbrev UU:=@List.mem_of_mem_drop
abbrev UW:=@List.mem_of_mem_take
abbrev UY:=@Option.bind_some
abbrev UZ:=@List.size_toArray
abbrev U0:=@List.length_filter_le
abbrev U1:=@List.getElem?_cons_succ
abbrev U2:=@Option.bind_eq_some_iff
abbrev U3:=@List.toList_toArray
abbrev U4:=@List.set_cons_zero
abbrev U5:=@Array.getElem?_modify
abbrev U6:=@List.mem_append_right
abbrev U7:=@Bool.eq_iff_iff
abbrev U8:=@List.foldl_cons
abbrev U9:=@Array.eq_empty_of_size_eq_zero
abbrev Mc:=@List.getElem_cons_succ
abbrev Md:=@Bool.or_eq_true
abbrev Me:=@Bool.not_eq_true
abbrev MB:=@Array.getElem?_push
abbrev MF:=@List.getD_cons_zero
abbrev MG:=@List.map_congr_left
abbrev MH:=@Nat.le_of_ble_eq_true
abbrev MI:=@Nat.le_of_lt
abbrev MJ:=@Array.getElem_toList
abbrev MK:=@List.getElem_range
abbrev ML:=@List.set_cons_succ
abbrev MN:=@List.length_set
abbrev MO:=@List.mem_filter
abbrev MP:=@List.foldlM_cons
abbrev MQ:=@Array.toList_append
abbrev MR:=@List.take_append_of_le_length
abbrev MS:=@Nat.add_assoc
abbrev MV:=@Nat.sub_zero
abbrev MW:=@Nat.eq_zero_or_pos
abbrev MX:=@Array.toList_map
abbrev MZ:=@List.length_eq_zero_iff
abbrev Gf:=@List.mem_of_getElem?
abbrev Gg:=@Bool.false_or
abbrev Gh:=@Array.getElem?_append_left
abbrev Gj:=@Array.size_append
abbrev Gl:=@List.getElem?_append_right
abbrev Gm:=@List.mem_range
abbrev Gn:=@List.take_left
abbrev Gp:=@Nat.zero_mul
abbrev Gq:=@List.take_left'
abbrev Gs:=@Nat.mul_one
abbrev Gt:=@List.pairwise_iff_getElem
abbrev Gu:=@Bool.false_ne_true
abbrev Gv:=@List.ext_getElem
abbrev Gw:=@List.getElem_set
abbrev Gx:=@List.getElem_append_left
abbrev Gy:=@List.append_eq
abbrev Gz:=@List.foldl_append
abbrev GH:=@List.getElem?_cons_zero
abbrev GI:=@List.getElem_take
abbrev GK:=@List.length_range
abbrev GN:=@List.nodup_cons
abbrev GR:=@List.any_eq_true
abbrev GU:=@Nat.le_add_right
abbrev GV:=@Nat.eq_or_lt_of_le
abbrev GX:=@List.length_replicate
abbrev GY:=@Bool.true_or
abbrev GZ:=@List.contains_nil
abbrev G5:=@List.nodup_append
abbrev G6:=@Nat.mul_comm
abbrev G7:=@Nat.succ_mul
abbrev G8:=@List.filterMap_cons
abbrev G9:=@List.length_pos_iff
abbrev Qaa:=@Array.toList_inj
abbrev Qab:=@List.drop_zero
abbrev Qac:=@List.nodup_nil
abbrev Qad:=@Array.getElem?_eq_none
abbrev Qae:=@Option.isSome_none
abbrev Qaf:=@Option.isSome_some
abbrev Qag:=@List.mem_zipIdx_iff_getElem?
abbrev Qah:=@Classical.choose_spec
abbrev Qai:=@List.length_singleton
abbrev Qaj:=@Bool.not_eq_true'
abbrev Qak:=@List.getElem_drop
abbrev Qal:=@Nat.lt_succ_of_lt
abbrev Qam:=@List.take_zero
abbrev Qan:=@Nat.div_lt_of_lt_mul
abbrev Qao:=@List.drop_length
abbrev Qap:=@List.take_append
abbrev Qaq:=@Array.mapM_eq_mapM_toList
abbrev Qar:=@List.mem_or_eq_of_mem_set
abbrev Qas:=@List.append_toArray
abbrev Qat:=@List.take_succ_cons
abbrev Qau:=@Nat.mul_le_mul_left
abbrev Qav:=@Bool.not_true
abbrev Qaw:=@Option.isSome_iff_exists
abbrev Qax:=@Prod.mk.injEq
abbrev Qay:=@Int.natCast_mul
abbrev Qaz:=@List.drop_left'
abbrev QaA:=@Array.ext'
abbrev QaB:=@Array.foldl_toList
abbrev QaC:=@List.foldlM_append
abbrev QaD:=@List.mem_filterMap
abbrev QaE:=@Bool.not_false
abbrev QaF:=@Bool.or_true
abbrev QaG:=@Int.sub_zero
abbrev QaH:=@List.any_eq_false
abbrev QaI:=@List.map_id'
abbrev QaJ:=@List.take_take
abbrev QaK:=@List.countP_le_length
abbrev QaL:=@List.countP_cons
abbrev QaM:=@List.mem_toArray
abbrev QaN:=@List.map_take
abbrev QaO:=@List.sum_cons
abbrev QaP:=@Array.getElem_mapIdx
abbrev QaQ:=@Array.getElem_modify
abbrev QaR:=@Bool.and_eq_true_iff
abbrev QaS:=@Bool.or_eq_false_iff
abbrev QaT:=@Int.le_refl
abbrev QaU:=@List.contains_eq_mem
abbrev QaV:=@List.getElem?_set_ne
abbrev QaW:=@Nat.one_mul
abbrev QaX:=@List.beq_nil_eq
abbrev QaY:=@Nat.min_eq_left
abbrev QaZ:=@List.getD_cons_succ
abbrev Qa0:=@List.append_cancel_right_eq
abbrev Qa1:=@Nat.ne_of_lt
abbrev Qa2:=@And.intro
abbrev Qa3:=@Array.toList_setIfInBounds
abbrev Qa4:=@List.drop_left
abbrev Qa5:=@List.drop_take
abbrev Qa6:=@List.filter_append
abbrev Qa7:=@List.getElem_concat_length
abbrev Qa8:=@List.perm_ext_iff_of_nodup
abbrev Qa9:=@Nat.lt_or_eq_of_le
abbrev Qba:=@Nat.mul_le_mul
abbrev Qbb:=@Array.filter_eq_empty_iff
abbrev Qbc:=@Classical.byContradiction
abbrev Qbd:=@List.extract_eq_take_drop
abbrev Qbe:=@List.mem_of_find?_eq_some
abbrev Qbf:=@List.ext_getElem?
abbrev Qbg:=@List.pairwise_map
abbrev Qbh:=@Nat.le_succ_of_le
abbrev Qbi:=@List.all_cons
abbrev Qbj:=@List.length_filterMap_le
abbrev Qbk:=@List.drop_append
abbrev Qbl:=@List.isEmpty_iff
abbrev Qbm:=@List.nodup_range
abbrev Qbn:=@Nat.le_mul_of_pos_right
abbrev Qbo:=@Nat.mod_eq_of_lt
abbrev Qbp:=@Option.bind_none
abbrev Qbq:=@Option.getD_none
abbrev Qbr:=@Prod.ext
abbrev Qbs:=@Int.sub_self
abbrev Qbt:=@List.filter_eq_nil_iff
abbrev Qbu:=@List.not_of_lt_findIdx
abbrev Qbv:=@Nat.lt_trans
abbrev Qbw:=@Nat.mod_lt
abbrev Qbx:=@Nat.div_add_mod
abbrev Qby:=@Option.map_none
abbrev Qbz:=@Array.getElem?_append
abbrev QbA:=@Array.getElem_push_eq
abbrev QbB:=@Array.getElem_push_lt
abbrev QbC:=@List.set_getElem_self
abbrev QbD:=@List.foldl_nil
abbrev QbE:=@List.mapM_cons
abbrev QbF:=@List.map_id
abbrev QbG:=@Nat.not_le
abbrev QbH:=@List.map_map
abbrev QbI:=@Nat.ne_of_gt
def om{p:Prop}(h:p:=by omega):p:=h
def sm{p:Prop}(h:p:=by simp):p:=h
def dc{p:Prop}(h:p:=by decide):p:=h
namespace Go.Abs
inductive Own where
 |any
 |full
 |buf (l k:Nat)
inductive AV where
 |int (k:IntKind) (n:Int)
 |bool (b:Bool)
 |str (s:Bs)
 |nilp
 |ptr (l k off:Nat)
 |iptr (cs:List AV)
 |sl (k:Nat) (xs:List AV) (o:Own)
 |nilf
 |fn (f:Fn) (caps:List AV)
 |bfn (f:Fn) (caps:List AV)
 |nilm
 |map (l k:Nat)
 |msl (sz l k n:Nat)
 |eptr (l k n off:Nat)
 |ssl (k:Nat) (xs ys:List AV)
 |nili
 |ifc (t:TypeId) (v:AV)
 |Xd
 |sln (k:Nat)
 |sub (sz l k n off m:Nat)
 |agg (cs:List AV)
 |tup (vs:List AV)
 |dead
abbrev LA:=List AV
abbrev LN:=List (Nat×AV)
def AV.cells:AV->LA
 | .agg cs=>cs
 |v=>[v]
def AV.one:AV->Bool
 | .agg _| .tup _| .dead=>false
 |_=>true
structure Env where
 F:Nat->Nat->Option Value
 m:Nat->Nat->Option Nat
 hist:Nat->Nat->Nat->Option Value
 g:Nat->Nat->Option Nat
 qd:Bool
def Zam(E:Env)(n:Nat)(v:Value)(a:Nat):Own->Prop
 | .any=>True
 | .full=>a=n
 | .buf l k=>E.hist l k n=some v
inductive VR (E:Env):AV->Value->Prop
 |int (k:IntKind) (n:Int):VR E (.int k n) (.int k n)
 |bool (b:Bool):VR E (.bool b) (.bool b)
 |str (l:Bs):VR E (.str l) (.string ⟨l.toArray⟩)
 |nilp:VR E .nilp (.pointer none)
 |ptr (l k off b:Nat) (h:E.m l k=some b):VR E (.ptr l k off) (.pointer (some ⟨b,off,none⟩))
 |iptr (cs:LA) (b off:Nat) (c:Nat->Value) (hc:∀j,j<cs.length->E.F b (off+j)=some (c j))
   (hv:∀j (h:j<cs.length),VR E cs[j] (c j)):VR E (.iptr cs) (.pointer (some ⟨b,off,none⟩))
 |slnil (k:Nat) (o:Own) (a:Option Addr) (ho:Zam E 0 (.slice a 0 0) 0 o) (ha:o≠ .any->a=none):VR E (.sl k [] o) (.slice a 0 0)
 |sl (k:Nat) (xs:LA) (o:Own) (b off cap:Nat) (c:Nat->Nat->Value) (hk:∀i (h:i<xs.length),xs[i].cells.length=k)
   (hc:∀i j,i<xs.length->j<k->E.F b (off+(i*k+j))=some (c i j))
   (hv:∀i (h:i<xs.length) j (h':j<xs[i].cells.length),VR E xs[i].cells[j] (c i j))
   (hcap:xs.length<=cap) (hm:xs.length<=maxLen) (ho:Zam E xs.length (.slice (some ⟨b,off,none⟩) xs.length cap) cap o):
   VR E (.sl k xs o) (.slice (some ⟨b,off,none⟩) xs.length cap)
 |nilf:VR E .nilf .nilFunc
 |fn (f:Fn) (caps:LA) (vs:List Value) (hl:vs.length=caps.length) (hv:∀i (h:i<caps.length) (h':i<vs.length),VR E caps[i] vs[i]):VR E (.fn f caps) (.func f #[] vs.toArray)
 |bfn (f:Fn) (caps:LA) (vs:List Value) (hl:vs.length=caps.length) (hv:∀i (h:i<caps.length) (h':i<vs.length),VR E caps[i] vs[i]):VR E (.bfn f caps) (.func f vs.toArray #[])
 |nilm:VR E .nilm (.map none)
 |map (l k b:Nat) (h:E.m l k=some b):VR E (.map l k) (.map (some b))
 |mnil (sz l k:Nat) (a:Option Addr) (h:E.hist l k 0=some (.slice a 0 0)) (ha:∀x,a=some x->x.spot=none):VR E (.msl sz l k 0) (.slice a 0 0)
 |msl (sz l k n g cap:Nat) (h:E.hist l k n=some (.slice (some ⟨g,0,none⟩) n cap)):VR E (.msl sz l k n) (.slice (some ⟨g,0,none⟩) n cap)
 |eptr (l k n off g cap:Nat) (h:E.hist l k n=some (.slice (some ⟨g,0,none⟩) n cap)):VR E (.eptr l k n off) (.pointer (some ⟨g,off,none⟩))
 |ssl (k:Nat) (xs ys:LA) (b off cap:Nat) (c:Nat->Nat->Value) (hk:∀i (h:i<(xs++ys).length),(xs++ys)[i].cells.length=k)
   (hc:∀i j,i<(xs++ys).length->j<k->E.F b (off+(i*k+j))=some (c i j))
   (hv:∀i (h:i<(xs++ys).length) j (h':j<(xs++ys)[i].cells.length),VR E (xs++ys)[i].cells[j] (c i j))
   (hcap:(xs++ys).length<=cap) (hm:(xs++ys).length<=maxLen):VR E (.ssl k xs ys) (.slice (some ⟨b,off,none⟩) xs.length cap)
 |nili:VR E .nili .nilIface
 |Xd:VR E .Xd (.slice none 0 0)
 |sln (k:Nat) (a:Addr) (cap:Nat) (h:cap=0\/a.spot=none):VR E (.sln k) (.slice (some a) 0 cap)
 |sub (sz l k n off m g cap:Nat) (h:E.hist l k n=some (.slice (some ⟨g,0,none⟩) n cap)) (hm:off+m<=n):VR E (.sub sz l k n off m) (.slice (some ⟨g,off*sz,none⟩) m (cap - off))
 |ifc (t:TypeId) (a:AV) (v:Value) (h:VR E a v):VR E (.ifc t a) (.iface t v)
 |agg (cs:LA) (vs:List Value) (hl:vs.length=cs.length) (hv:∀i (h:i<cs.length) (h':i<vs.length),VR E cs[i] vs[i]):VR E (.agg cs) (.agg vs.toArray)
 |tup (cs:LA) (vs:List Value) (hl:vs.length=cs.length) (hv:∀i (h:i<cs.length) (h':i<vs.length),VR E cs[i] vs[i]):VR E (.tup cs) (.tuple vs.toArray)
 |dead (v:Value):VR E .dead v
def VRs(E:Env)(az:LA)(vs:List Value):Prop:=vs.length=az.length/\ ∀i (h:i<az.length) (a:i<vs.length),VR E az[i] vs[i]
def VRs.nil(E:Env):VRs E [] []:=⟨rfl,fun _ h=>absurd h (Qj _)⟩
section
variable {vs:List Value} {az:LA} {v:Value} {a:AV} {E:Env}
def VRs.cons(h:VR E a v)(hs:VRs E az vs):VRs E (a::az) (v::vs):=by
 refine⟨by simp[hs.1],fun i b c=>?_⟩;cases i with
 |zero=>exact h
 |succ i=>exact hs.2 i (by simpa using b) (by simpa using c)
def VRs.Yw(h:VRs E (a::az) vs):∃v r,vs=v::r/\VR E a v/\VRs E az r:=by
 obtain⟨c,b⟩:=h;cases vs with
 |nil=>simp at c
 |cons v r=>
  refine⟨v,r,rfl,b 0 sm sm,by simpa using c,fun i d e=>?_⟩;exact b (i+1) (by simpa using d) (by simpa using e)
def VRs.of_nil(h:VRs E [] vs):vs=[]:=by
 have:=h.1;simpa using this
def VRs.append{c:LA}{b:List Value}(h:VRs E az vs)(d:VRs E c b):VRs E (az++c) (vs++b):=by
 induction az generalizing vs with
 |nil=>rw[h.of_nil];exact d
 |cons a az ih=>obtain⟨v,r,rfl,e,f⟩:=h.Yw;exact VRs.cons e (ih f)
def VRs.get(h:VRs E az vs)(i:Nat)(a:i<az.length):∃v,vs[i]? =some v/\VR E az[i] v:=
 ⟨vs[i]'(by rw[h.1];exact a),by simp[h.1,a],h.2 i a (by rw[h.1];exact a)⟩
structure Env.le (n:Nat) (E E':Env):Prop where
 F:∀b o v,E.F b o=some v->E'.F b o=some v
 m:∀l k b,l<n->E.m l k=some b->E'.m l k=some b
 hist:∀l k j v,l<n->E.hist l k j=some v->E'.hist l k j=some v
 qd:E'.qd=E.qd
def Env.le.refl(n:Nat)(E:Env):E.le n E:=⟨fun _ _ _ h=>h,fun _ _ _ _ h=>h,fun _ _ _ _ _ h=>h,rfl⟩
def Env.le.trans{n:Nat}{A B C:Env}(h:A.le n B)(h':B.le n C):A.le n C:=
 ⟨fun b o v x=>h'.F _ _ _ (h.F b o v x),fun l k b hl x=>h'.m _ _ _ hl (h.m l k b hl x),fun l k j v hl x=>h'.hist _ _ _ _ hl (h.hist l k j v hl x),h'.qd.trans h.qd⟩
variable {n n':Nat}
def Env.le.mono{A B:Env}(h:A.le n B)(c:n'<=n):A.le n' B:=
 ⟨h.F,fun l k b a=>h.m l k b (Um a c),fun l k j v a=>h.hist l k j v (Um a c),h.qd⟩
structure Env.norm (n:Nat) (E:Env):Prop where
 m:∀l k,n<=l->E.m l k=none
 g:∀l k,n<=l->E.g l k=none
 hist:∀l k j,n<=l->E.hist l k j=none
variable {l k:Nat}
def Env.norm.J8(h:E.norm n){b:Nat}(a:E.m l k=some b):l<n:=by
 rcases Qd l n with hl|hl
 ·exact hl
 ·rw[h.m l k hl]at a;cases a
def Env.norm.Xg(h:E.norm n){j:Nat}(a:E.hist l k j=some v):l<n:=by
 rcases Qd l n with hl|hl
 ·exact hl
 ·rw[h.hist l k j hl]at a;cases a
def Env.norm.ZuP(h:E.norm n){b:Nat}(a:E.g l k=some b):l<n:=by
 rcases Qd l n with hl|hl
 ·exact hl
 ·rw[h.g l k hl]at a;cases a
def Env.norm.mono(h:E.norm n)(b:n<=n'):E.norm n':=
 ⟨fun l k a=>h.m l k (UA b a),fun l k a=>h.g l k (UA b a),fun l k j a=>h.hist l k j (UA b a)⟩
def Zam.mono{N:Nat}{b:Env}{c:Nat}{o:Own}(d:E.norm n)(h:E.le n b)(a:Zam E N v c o):Zam b N v c o:=by
 cases o with
 |any=>exact a
 |full=>exact a
 |buf l k=>exact h.hist l k N v (d.Xg a) a
def VR.mono{n:Nat}{E q:Env}(d:E.norm n)(h:E.le n q){a:AV}{v:Value}(r:VR E a v):VR q a v:=by
 induction r with
 |int k n=>exact .int k n
 |bool b=>exact .bool b
 |str l=>exact .str l
 |nilp=>exact .nilp
 |ptr l k off b hm=>exact .ptr l k off b (h.m l k b (d.J8 hm) hm)
 |iptr cs b off c hc _ ih=>exact .iptr cs b off c (fun j e=>h.F _ _ _ (hc j e)) ih
 |slnil k o a ho ha=>exact .slnil k o a (ho.mono d h) ha
 |sl k xs o b off cap c hk hc _ hcap hm ho ih=>exact .sl k xs o b off cap c hk (fun i j p e=>h.F _ _ _ (hc i j p e)) ih hcap hm (ho.mono d h)
 |nilf=>exact .nilf
 |fn f caps vs hl _ ih=>exact .fn f caps vs hl ih
 |bfn f caps vs hl _ ih=>exact .bfn f caps vs hl ih
 |nilm=>exact .nilm
 |map l k b hm=>exact .map l k b (h.m l k b (d.J8 hm) hm)
 |mnil sz l k a hh ha=>exact .mnil sz l k a (h.hist _ _ _ _ (d.Xg hh) hh) ha
 |msl sz l k n g cap hh=>exact .msl sz l k n g cap (h.hist _ _ _ _ (d.Xg hh) hh)
 |eptr l k n off g cap hh=>exact .eptr l k n off g cap (h.hist _ _ _ _ (d.Xg hh) hh)
 |ssl k xs ys b off cap c hk hc _ hcap hm ih=>exact .ssl k xs ys b off cap c hk (fun i j p e=>h.F _ _ _ (hc i j p e)) ih hcap hm
 |nili=>exact .nili
 |Xd=>exact .Xd
 |sln k a cap hc=>exact .sln k a cap hc
 |sub sz l k n off m g cap hh hm=>exact .sub sz l k n off m g cap (h.hist _ _ _ _ (d.Xg hh) hh) hm
 |ifc t a v _ ih=>exact .ifc t a v ih
 |agg cs vs hl _ ih=>exact .agg cs vs hl ih
 |tup cs vs hl _ ih=>exact .tup cs vs hl ih
 |dead v=>exact .dead v
def VRs.mono{n:Nat}{E a:Env}(e:E.norm n)(h:E.le n a){az:LA}{vs:List Value}(b:VRs E az vs):VRs a az vs:=
 ⟨b.1,fun i d c=>(b.2 i d c).mono e h⟩
inductive Below (n:Nat):AV->Prop
 |int (k:IntKind) (i:Int):Below n (.int k i)
 |bool (b:Bool):Below n (.bool b)
 |str (l:Bs):Below n (.str l)
 |nilp:Below n .nilp
 |ptr (l k off:Nat) (h:l<n):Below n (.ptr l k off)
 |iptr (cs:LA) (hv:∀j (h:j<cs.length),Below n cs[j]):Below n (.iptr cs)
 |sl (k:Nat) (xs:LA) (o:Own) (hv:∀i (h:i<xs.length) j (h':j<xs[i].cells.length),Below n xs[i].cells[j])
   (ho:∀l j,o= .buf l j->l<n):Below n (.sl k xs o)
 |nilf:Below n .nilf
 |fn (f:Fn) (caps:LA) (hv:∀i (h:i<caps.length),Below n caps[i]):Below n (.fn f caps)
 |bfn (f:Fn) (caps:LA) (hv:∀i (h:i<caps.length),Below n caps[i]):Below n (.bfn f caps)
 |nilm:Below n .nilm
 |map (l k:Nat) (h:l<n):Below n (.map l k)
 |msl (sz l k i:Nat) (h:l<n):Below n (.msl sz l k i)
 |eptr (l k i off:Nat) (h:l<n):Below n (.eptr l k i off)
 |ssl (k:Nat) (xs ys:LA) (hv:∀i (h:i<(xs++ys).length) j (h':j<(xs++ys)[i].cells.length),Below n (xs++ys)[i].cells[j]):Below n (.ssl k xs ys)
 |nili:Below n .nili
 |Xd:Below n .Xd
 |sln (k:Nat):Below n (.sln k)
 |sub (sz l k i off m:Nat) (h:l<n):Below n (.sub sz l k i off m)
 |ifc (t:TypeId) (a:AV) (h:Below n a):Below n (.ifc t a)
 |agg (cs:LA) (hv:∀i (h:i<cs.length),Below n cs[i]):Below n (.agg cs)
 |tup (cs:LA) (hv:∀i (h:i<cs.length),Below n cs[i]):Below n (.tup cs)
 |dead:Below n .dead
def Below.mono(c:n<=n')(h:Below n a):Below n' a:=by
 induction h with
 |int k i=>exact .int k i
 |bool b=>exact .bool b
 |str l=>exact .str l
 |nilp=>exact .nilp
 |ptr l k off h=>exact .ptr l k off (Um h c)
 |iptr cs _ ih=>exact .iptr cs ih
 |sl k xs o _ ho ih=>exact .sl k xs o ih (fun l j e=>Um (ho l j e) c)
 |nilf=>exact .nilf
 |fn f caps _ ih=>exact .fn f caps ih
 |bfn f caps _ ih=>exact .bfn f caps ih
 |nilm=>exact .nilm
 |map l k h=>exact .map l k (Um h c)
 |msl sz l k i h=>exact .msl sz l k i (Um h c)
 |eptr l k i off h=>exact .eptr l k i off (Um h c)
 |ssl k xs ys _ ih=>exact .ssl k xs ys ih
 |nili=>exact .nili
 |Xd=>exact .Xd
 |sln k=>exact .sln k
 |sub sz l k i off m h=>exact .sub sz l k i off m (Um h c)
 |ifc t a _ ih=>exact .ifc t a ih
 |agg cs _ ih=>exact .agg cs ih
 |tup cs _ ih=>exact .tup cs ih
 |dead=>exact .dead
def VR.lvl(d:E.norm n)(p:VR E a v):Below n a:=by
 induction p with
 |int k n=>exact .int k n
 |bool b=>exact .bool b
 |str l=>exact .str l
 |nilp=>exact .nilp
 |ptr l k off b hm=>exact .ptr l k off (d.J8 hm)
 |iptr cs b off c hc _ ih=>exact .iptr cs ih
 |slnil k o a ho ha=>exact .sl k [] o (fun i h=>absurd h (Qj _)) (fun l j e=>by subst e;exact d.Xg ho)
 |sl k xs o b off cap c hk hc _ hcap hm ho ih=>exact .sl k xs o ih (fun l j e=>by subst e;exact d.Xg ho)
 |nilf=>exact .nilf
 |fn f caps vs hl _ ih=>exact .fn f caps (fun i h=>ih i h om)
 |bfn f caps vs hl _ ih=>exact .bfn f caps (fun i h=>ih i h om)
 |nilm=>exact .nilm
 |map l k b hm=>exact .map l k (d.J8 hm)
 |mnil sz l k a hh ha=>exact .msl _ _ _ _ (d.Xg hh)
 |msl sz l k n g cap hh=>exact .msl _ _ _ _ (d.Xg hh)
 |eptr l k n off g cap hh=>exact .eptr _ _ _ _ (d.Xg hh)
 |ssl k xs ys b off cap c hk hc _ hcap hm ih=>exact .ssl k xs ys ih
 |nili=>exact .nili
 |Xd=>exact .Xd
 |sln k a cap hc=>exact .sln k
 |sub sz l k n off m g cap hh hm=>exact .sub _ _ _ _ _ _ (d.Xg hh)
 |ifc t a v _ ih=>exact .ifc t a ih
 |agg cs vs hl _ ih=>exact .agg cs (fun i h=>ih i h om)
 |tup cs vs hl _ ih=>exact .tup cs (fun i h=>ih i h om)
 |dead v=>exact .dead
def Env.cut(n:Nat)(E:Env):Env:=
 {F:=E.F,m:=fun l k=>if l<n then E.m l k else none,hist:=fun l k j=>if l<n then E.hist l k j else none,g:=fun l k=>if l<n then E.g l k else none,qd:=E.qd}
def Env.Zgp(n:Nat)(E:Env):(E.cut n).norm n:=
 ⟨fun l k h=>if_neg om,fun l k h=>if_neg om,fun l k j h=>if_neg om⟩
def Env.Zi1{d:Env}(h:E.le n d):E.le n (d.cut n):=
 ⟨h.F,fun l k b a c=>by simp only[Env.cut,if_pos a];exact h.m l k b a c,fun l k j v a c=>by simp only[Env.cut,if_pos a];exact h.hist l k j v a c,h.qd⟩
def VR.cut{n:Nat}{E:Env}{a:AV}{v:Value}(p:VR E a v)(d:Below n a):VR (E.cut n) a v:=by
 induction p with
 |int k n=>exact .int k n
 |bool b=>exact .bool b
 |str l=>exact .str l
 |nilp=>exact .nilp
 |ptr l k off b hm=>cases d with|ptr _ _ _ hl=>exact .ptr l k off b (by simp only[Env.cut,if_pos hl];exact hm)
 |iptr cs b off c hc _ ih=>cases d with|iptr _ d=>exact .iptr cs b off c hc (fun j h=>ih j h (d j h))
 |slnil k o a ho ha=>
  cases d with
  |sl _ _ _ _ d=>
   refine .slnil k o a ?_ ha;cases o with
   |any=>trivial
   |full=>exact ho
   |buf l j=>simp only[Zam,Env.cut,if_pos (d l j rfl)];exact ho
 |sl k xs o b off cap c hk hc _ hcap hm ho ih=>
  cases d with
  |sl _ _ _ hx d=>
   refine .sl k xs o b off cap c hk hc (fun i h j e=>ih i h j e (hx i h j e)) hcap hm ?_;cases o with
   |any=>trivial
   |full=>exact ho
   |buf l j=>simp only[Zam,Env.cut,if_pos (d l j rfl)];exact ho
 |nilf=>exact .nilf
 |fn f caps vs hl _ ih=>cases d with|fn _ _ d=>exact .fn f caps vs hl (fun i h e=>ih i h e (d i h))
 |bfn f caps vs hl _ ih=>cases d with|bfn _ _ d=>exact .bfn f caps vs hl (fun i h e=>ih i h e (d i h))
 |nilm=>exact .nilm
 |map l k b hm=>cases d with|map _ _ hl=>exact .map l k b (by simp only[Env.cut,if_pos hl];exact hm)
 |mnil sz l k a hh ha=>cases d with|msl _ _ _ _ hl=>exact .mnil _ _ _ _ (by simp only[Env.cut,if_pos hl];exact hh) ha
 |msl sz l k n g cap hh=>cases d with|msl _ _ _ _ hl=>exact .msl _ _ _ _ _ _ (by simp only[Env.cut,if_pos hl];exact hh)
 |eptr l k n off g cap hh=>cases d with|eptr _ _ _ _ hl=>exact .eptr _ _ _ _ _ _ (by simp only[Env.cut,if_pos hl];exact hh)
 |ssl k xs ys b off cap c hk hc _ hcap hm ih=>cases d with|ssl _ _ _ hx=>exact .ssl k xs ys b off cap c hk hc (fun i h j e=>ih i h j e (hx i h j e)) hcap hm
 |nili=>exact .nili
 |Xd=>exact .Xd
 |sln k a cap hc=>exact .sln k a cap hc
 |sub sz l k n off m g cap hh hm=>cases d with|sub _ _ _ _ _ _ hl=>exact .sub _ _ _ _ _ _ _ _ (by simp only[Env.cut,if_pos hl];exact hh) hm
 |ifc t a v _ ih=>cases d with|ifc _ _ d=>exact .ifc t a v (ih d)
 |agg cs vs hl _ ih=>cases d with|agg _ d=>exact .agg cs vs hl (fun i h e=>ih i h e (d i h))
 |tup cs vs hl _ ih=>cases d with|tup _ d=>exact .tup cs vs hl (fun i h e=>ih i h e (d i h))
 |dead v=>exact .dead v
def VR.any{E:Env}{k:Nat}{d:LA}{o:Own}{v:Value}(h:VR E (.sl k d o) v):VR E (.sl k d .any) v:=by
 cases h with
 |slnil _ _ a ho ha=>exact .slnil k .any a trivial (fun h=>absurd rfl h)
 |sl _ _ _ b off cap c hk hc hv hcap hm ho=>exact .sl k d .any b off cap c hk hc hv hcap hm trivial
def VR.Zi6{o:Own}(h:VR E (.sl k [] o) v):VR E .Xd v\/VR E (.sln k) v:=by
 cases h with
 |slnil _ _ a ho ha=>cases a with
  |none=>exact .inl .Xd
  |some a=>exact .inr (.sln k a 0 (.inl rfl))
 |sl _ _ _ b off cap c hk hc hv hcap hm ho=>exact .inr (.sln k _ cap (.inr rfl))
def VR.Zi7(h:VR E .Xd v):VR E (.sl k [] .full) v:=by
 cases h;exact .slnil k .full none rfl (fun _=>rfl)
def VR.ZtE(h:VR E (.sln k) v):VR E (.sl k [] .any) v:=by
 cases h with|sln _ a cap h=>
 rcases h with rfl|h
 ·exact .slnil k .any _ trivial (fun h=>absurd rfl h)
 ·obtain⟨b,c,d⟩:=a;cases h;exact .sl k [] .any b c cap (fun _ _=>undef) (fun i h=>absurd h (Qj _)) (fun i j h=>absurd h (Qj _)) (fun i h=>absurd h (Qj _)) (Us _) (Us _) trivial
def VR.one{E:Env}{a:AV}{v:Value}(h:VR E a v)(b:a.one=true):v.oneCell'=true:=by
 cases h<;>first|rfl|(simp[AV.one]at b)
def VR.cells{E:Env}{a:AV}{v:Value}(h:VR E a v)(ha:∀c∈a.cells,c.one=true):VRs E a.cells v.cells.toList:=by
 cases h with
 |agg cs vs hl hv=>exact⟨by simpa[Value.cells,AV.cells]using hl,by simpa[Value.cells,AV.cells]using hv⟩
 |tup cs vs hl hv=>simp[AV.cells,AV.one]at ha
 |dead v=>simp[AV.cells,AV.one]at ha
 |_=>exact VRs.cons (by constructor<;>assumption) (VRs.nil E)
end
end Go.Abs

namespace Go.Abs
inductive Ze where
 |box (cs:LA)
 |map (es:List (AV×AV))
 |buf (e sz fr:Nat)
 |Zg (e sz:Nat) (cs:LA) (n:Nat)
 |iter (l k since:Nat) (seen:List Nat)
 |var (b:Nat) (t:TypeId) (cs:LA)
 |lrec (l N fo:Nat) (tm:LN) (ps:Array Tmp) (ca cb:Code) (st:LoopState) (pend:Option Code)
 |gone
 |tbox (t:TypeId) (cs:LA)
def lkv:LN->Nat->AV
 |[],_=>.dead
 |(i,v)::r,t=>if i=t then v else lkv r t
def Ze.avs:Ze->LA
 | .box cs=>cs
 | .map es=>es.map (·.1)++es.map (·.2)
 | .Zg _ _ cs _=>cs
 | .var _ _ cs=>cs
 | .tbox _ cs=>cs
 | .lrec _ _ _ tm _ _ _ _ _=>tm.map fun p=>lkv tm p.1
 |_=>[]
def Ze.at_:Ze->List (Nat×Nat)
 | .iter l k _ _=>[(l,k)]
 |_=>[]
def Ze.isRec:Ze->Bool
 | .lrec _ _ _ _ _ _ _ _ _=>true
 |_=>false
def Ze.isBuf:Ze->Bool
 | .buf _ _ _=>true
 | .Zg _ _ _ _=>true
 | .gone=>true
 |_=>false
def Ze.Below(n:Nat)(b:Ze):Prop:=(∀a∈b.avs,Abs.Below n a)/\ ∀p∈b.at_,p.1<n
abbrev Za:=Nat->Nat->Option Ze
def Za.upd(H:Za)(l k:Nat)(b:Ze):Za:=fun a k'=>if a=l/\k'=k then some b else H a k'
def Env.own(E:Env)(b:Nat):Prop:=(∃l k,E.m l k=some b)\/(∃l k,E.g l k=some b)
def Zuh(E:Env)(w:World)(a:LA)(b:Nat):Prop:=∃c t,w.heap[b]? =some (.cells c t (0,0))/\VRs E a c.toList
def Zup(E:Env)(w:World)(a:List (AV×AV))(b:Nat):Prop:=
 ∃ent:Array MapEntry,w.heap[b]? =some (.map ent a.length)/\ent.size=a.length/\
  ∀i (h:i<a.length) (c:i<ent.size),VR E a[i].1 ent[i].key/\VR E a[i].2 ent[i].val/\ent[i].born=i
def Zui(E:Env)(w:World)(l k e f c:Nat):Prop:=
 ∃v,E.hist l k c=some v/\(∀j,c<j->E.hist l k j=none)/\
  ((∃a,v= .slice a 0 0/\c=0/\E.g l k=none)\/
   ∃g b d,v= .slice (some ⟨g,0,none⟩) c b/\E.g l k=some g/\w.heap[g]? =some (.cells d e (0,0))/\c<=b/\b<=maxLen/\d.size=b*f/\
    ∀o,c*f<=o->E.F g o=none)
def ZsE(E:Env)(w:World)(l k e d:Nat)(f:LA)(n:Nat):Prop:=
 f.length=n*d/\ ∃v,E.hist l k n=some v/\(∀j,n<j->E.hist l k j=none)/\
  ((∃a,v= .slice a 0 0/\n=0/\E.g l k=none)\/
   ∃g b c,v= .slice (some ⟨g,0,none⟩) n b/\E.g l k=some g/\w.heap[g]? =some (.cells c e (0,0))/\n<=b/\b<=maxLen/\c.size=b*d/\
    (∀o,E.F g o=none)/\VRs E f (c.toList.take (n*d)))
def lkv_mem:∀{tm:LN} {t:Nat},lkv tm t= .dead\/(t,lkv tm t)∈tm
 |[],t=>.inl rfl
 |(i,v)::r,t=>by
  simp only[lkv];split
  ·rename_i h;subst h;exact .inr sm
  ·rcases lkv_mem (tm:=r) (t:=t)with h|h
   ·exact .inl h
   ·exact .inr (Qx _ h)
def Zuo(E:Env)(w:World)(b N c:Nat)(f:LN)(e:Array Tmp)(g d:Code)(h:LoopState)(a:Option Code):Prop:=
 ∃rc:Loop,w.heap[b]? =some (.loop rc)/\rc.params=e/\rc.assign=g/\rc.body=d/\rc.state=h/\rc.pending=a/\rc.tmps.size=N/\(∀t,VR E (lkv f t) (rc.tmps.getD t undef))/\(c≠0->rc.fn+1=c)
def Zee(E:Env)(w:World)(l k:Nat):Ze->Prop
 | .box cs=>∃b,E.m l k=some b/\Zuh E w cs b
 | .map es=>∃b,E.m l k=some b/\Zup E w es b
 | .buf e sz fr=>Zui E w l k e sz fr/\E.m l k=none
 | .Zg e sz cs n=>ZsE E w l k e sz cs n/\E.m l k=none
 | .iter l' k' since seen=>∃b a,E.m l k=some b/\E.m l' k'=some a/\w.heap[b]? =some (.mapIter (some a) since seen.toArray since)
 | .var b t cs=>E.qd=false/\E.m l k=some b/\ ∃c,w.heap[b]? =some (.cells c t (0,0))/\VRs E cs c.toList
 | .lrec b N fo tm ps ca cb st pend=>E.m l k=some b/\Zuo E w b N fo tm ps ca cb st pend
 | .gone=>E.m l k=none
 | .tbox t cs=>∃b,E.m l k=some b/\ ∃c,w.heap[b]? =some (.cells c t (0,0))/\VRs E cs c.toList
section
variable {w:World} {E E':Env}
def Zee.keep{w':World}{l k:Nat}{b:Ze}(h:Zee E w l k b)(hm:E'.m l k=E.m l k)(hg:E'.g l k=E.g l k)(hh:∀j,E'.hist l k j=E.hist l k j)
  (hi:∀p∈b.at_,∀r,E.m p.1 p.2=some r->E'.m p.1 p.2=some r) (hb:∀r,E.m l k=some r\/E.g l k=some r->w'.heap[r]? =w.heap[r]?)
  (hF:∀g o,E.g l k=some g->E.F g o=none->E'.F g o=none) (hv:∀a∈b.avs,∀v,VR E a v->VR E' a v) (hqd:E'.qd=E.qd:=by rfl):Zee E' w' l k b:=by
 cases b with
 |box cs=>
  obtain⟨r,h1,c,t,h2,h3⟩:=h;exact⟨r,hm.trans h1,c,t,by rw[hb r (.inl h1)];exact h2,h3.1,fun i x y=>hv _ (by simpa[Ze.avs]using Qa x) _ (h3.2 i x y)⟩
 |map es=>
  obtain⟨r,h1,ent,h2,h3,h4⟩:=h;refine⟨r,hm.trans h1,ent,by rw[hb r (.inl h1)];exact h2,h3,fun i x y=>?_⟩;obtain⟨q1,q2,q3⟩:=h4 i x y;exact⟨hv _ (UH _ (Qg.2 ⟨_,Qa x,rfl⟩)) _ q1,hv _ (U6 _ (Qg.2 ⟨_,Qa x,rfl⟩)) _ q2,q3⟩
 |buf e sz fr=>
  obtain⟨⟨v,h1,h2,h3⟩,h4⟩:=h;refine⟨⟨v,(hh fr).trans h1,fun j hj=>(hh j).trans (h2 j hj),?_⟩,hm.trans h4⟩;rcases h3 with⟨a,q1,q2,q3⟩|⟨g,cap,cur,q1,q2,q3,q4,q5,q6,q7⟩
  ·exact .inl ⟨a,q1,q2,hg.trans q3⟩
  ·exact .inr ⟨g,cap,cur,q1,hg.trans q2,by rw[hb g (.inr q2)];exact q3,q4,q5,q6,fun o ho=>hF g o q2 (q7 o ho)⟩
 |Zg e sz cs n=>
  obtain⟨⟨h0,v,h1,h2,h3⟩,h4⟩:=h;refine⟨⟨h0,v,(hh n).trans h1,fun j hj=>(hh j).trans (h2 j hj),?_⟩,hm.trans h4⟩;rcases h3 with⟨a,q1,q2,q3⟩|⟨g,cap,cur,q1,q2,q3,q4,q5,q6,q7,q8⟩
  ·exact .inl ⟨a,q1,q2,hg.trans q3⟩
  ·exact .inr ⟨g,cap,cur,q1,hg.trans q2,by rw[hb g (.inr q2)];exact q3,q4,q5,q6,fun o=>hF g o q2 (q7 o),q8.1,fun i x y=>hv _ (by simpa[Ze.avs]using Qa x) _ (q8.2 i x y)⟩
 |iter l' k' since seen=>
  obtain⟨r,r',h1,h2,h3⟩:=h;exact⟨r,r',hm.trans h1,hi (l',k') (by simp[Ze.at_]) r' h2,by rw[hb r (.inl h1)];exact h3⟩
 |var b t cs=>
  obtain⟨h0,h1,c,h2,h3⟩:=h;exact⟨hqd.trans h0,hm.trans h1,c,by rw[hb b (.inl h1)];exact h2,h3.1,fun i x y=>hv _ (by simpa[Ze.avs]using Qa x) _ (h3.2 i x y)⟩
 |lrec b N fo tm ps ca cb st pend=>
  obtain⟨h1,rc,h2,h3,h4,h5,h6,h7,h8,h9,h10⟩:=h;refine⟨hm.trans h1,rc,by rw[hb b (.inl h1)];exact h2,h3,h4,h5,h6,h7,h8,fun t=>?_,h10⟩;rcases lkv_mem (tm:=tm) (t:=t)with hd|hd
  ·rw[hd];exact .dead _
  ·exact hv _ (by simp only[Ze.avs];exact Qg.2 ⟨_,hd,rfl⟩) _ (h9 t)
 |gone=>exact hm.trans h
 |tbox t cs=>
  obtain⟨r,h1,c,h2,h3⟩:=h;exact⟨r,hm.trans h1,c,by rw[hb r (.inl h1)];exact h2,h3.1,fun i x y=>hv _ (by simpa[Ze.avs]using Qa x) _ (h3.2 i x y)⟩
structure Zo (n:Nat) (H:Za) (E:Env) (w:World):Prop where
 norm:E.norm n
 F:∀b o v,E.F b o=some v->w.cell? ⟨b,o,none⟩=some v
 blk:∀l k b,l<n->H l k=some b->Zee E w l k b
 dom:∀l k,l<n->H l k=none->E.m l k=none/\E.g l k=none/\ ∀j,E.hist l k j=none
 nobuf:∀l k,E.g l k≠none-> ∃b,H l k=some b/\b.isBuf=true
 inj:∀l k l' k' b,E.m l k=some b->E.m l' k'=some b->l=l'/\k=k'
 injg:∀l k l' k' b,E.g l k=some b->E.g l' k'=some b->l=l'/\k=k'
 mg:∀l k l' k' b,E.m l k=some b->E.g l' k'=some b->False
 mF:∀l k b o,E.m l k=some b->E.F b o=none
 lt:∀b,E.own b->b<w.heap.size
def Zo.box{n:Nat}{H:Za}{E:Env}{w:World}(h:Zo n H E w)(l k:Nat)(a:LA)(c:l<n)(d:H l k=some (.box a)):∃b,E.m l k=some b/\Zuh E w a b:=h.blk l k _ c d
def Zo.map{n:Nat}{H:Za}{E:Env}{w:World}(h:Zo n H E w)(l k:Nat)(a:List (AV×AV))(c:l<n)(d:H l k=some (.map a)):∃b,E.m l k=some b/\Zup E w a b:=h.blk l k _ c d
def Zo.buf{n:Nat}{H:Za}{E:Env}{w:World}(h:Zo n H E w)(l k e a b:Nat)(c:l<n)(d:H l k=some (.buf e a b)):Zui E w l k e a b/\E.m l k=none:=h.blk l k _ c d
def Zo.Zg{n:Nat}{H:Za}{E:Env}{w:World}(h:Zo n H E w)(l k e a:Nat)(b:LA)(i:Nat)(c:l<n)(d:H l k=some (.Zg e a b i)):ZsE E w l k e a b i/\E.m l k=none:=h.blk l k _ c d
structure Ext (n:Nat) (E:Env) (w:World) (E':Env) (w':World):Prop where
 le:E.le n E'
 os:w'.os=w.os
 tape:w'.tape=w.tape
 output:w'.output=w.output
 drawn:E.qd=true->w.drawn<=w'.drawn
 size:w.heap.size<=w'.heap.size
 block:∀b,b<w.heap.size-> ¬E.own b->w'.heap[b]? =w.heap[b]?
 own:∀b,b<w.heap.size->E'.own b->E.own b
def Ext.refl(n:Nat)(E:Env)(w:World):Ext n E w E w:=⟨.refl n E,rfl,rfl,rfl,fun _=>Qi _,Qi _,fun _ _ _=>rfl,fun _ _ h=>h⟩
def Ext.trans{n:Nat}{A B C:Env}{u v w:World}(h:Ext n A u B v)(h':Ext n B v C w):Ext n A u C w:=
 ⟨h.le.trans h'.le,h'.os.trans h.os,h'.tape.trans h.tape,h'.output.trans h.output,fun a=>UA (h.drawn a) (h'.drawn (h.le.qd.trans a)),UA h.size h'.size,
  fun b hb ho=>(h'.block b (Um hb h.size) (fun x=>ho (h.own b hb x))).trans (h.block b hb ho),
  fun b hb ho=>h.own b hb (h'.own b (Um hb h.size) ho)⟩
def Ext.mono{n a:Nat}{A B:Env}{u v:World}(h:Ext n A u B v)(b:a<=n):Ext a A u B v:=
 ⟨h.le.mono b,h.os,h.tape,h.output,h.drawn,h.size,h.block,h.own⟩
variable {n:Nat}
def Zo.congr{H d:Za}(h:Zo n H E w)(c:∀l k,l<n->d l k=H l k):Zo n d E w where
 norm:=h.norm
 F:=h.F
 blk l k b a hH:=h.blk l k b a (by rw[<-c l k a];exact hH)
 dom l k a hH:=h.dom l k a (by rw[<-c l k a];exact hH)
 nobuf l k hg:=by
  have a:l<n:=by
   cases e:E.g l k with
   |none=>exact absurd e hg
   |some b=>exact h.norm.ZuP e
  rw[c l k a];exact h.nobuf l k hg
 inj:=h.inj
 injg:=h.injg
 mg:=h.mg
 mF:=h.mF
 lt:=h.lt
def Zee.lvl{n:Nat}{E:Env}{w:World}{l k:Nat}{b:Ze}(m:E.norm n)(h:Zee E w l k b):b.Below n:=by
 cases b with
 |box cs=>
  obtain⟨r,_,c,t,_,f⟩:=h;refine⟨fun a ha=>?_,by simp[Ze.at_]⟩;obtain⟨i,d,rfl⟩:=QK ha;exact(f.2 i d (by rw[f.1];exact d)).lvl m
 |map es=>
  obtain⟨r,_,B,_,I,f⟩:=h;refine⟨fun a ha=>?_,by simp[Ze.at_]⟩;rcases Qr.1 ha with ha|ha<;>obtain⟨x,D,rfl⟩:=Qg.1 ha<;>obtain⟨i,d,rfl⟩:=QK D
  ·exact(f i d om).1.lvl m
  ·exact(f i d om).2.1.lvl m
 |buf e sz fr=>exact⟨by simp[Ze.avs],by simp[Ze.at_]⟩
 |Zg e sz cs i=>
  obtain⟨⟨s,v,_,_,C⟩,_⟩:=h;refine⟨fun a ha=>?_,by simp[Ze.at_]⟩;obtain⟨j,o,rfl⟩:=QK ha;rcases C with⟨a,_,G,_⟩|⟨g,z,A,_,_,_,_,_,_,_,u⟩
  ·simp only[Ze.avs]at o;subst G;simp at s;simp[s]at o
  ·exact(u.2 j o (by rw[u.1];exact o)).lvl m
 |iter l' k' since seen=>
  obtain⟨r,H,_,y,_⟩:=h;exact⟨by simp[Ze.avs],fun p q=>by simp[Ze.at_]at q;subst q;exact m.J8 y⟩
 |var b t cs=>
  obtain⟨_,r,c,_,f⟩:=h;refine⟨fun a ha=>?_,by simp[Ze.at_]⟩;obtain⟨i,d,rfl⟩:=QK ha;exact(f.2 i d (by rw[f.1];exact d)).lvl m
 |lrec b N fo tm ps ca cb st pend=>
  obtain⟨_,J,_,_,_,_,_,_,_,F,_⟩:=h;refine⟨fun a ha=>?_,by simp[Ze.at_]⟩;simp only[Ze.avs]at ha;obtain⟨p,q,rfl⟩:=Qg.1 ha;exact(F p.1).lvl m
 |gone=>exact⟨by simp[Ze.avs],by simp[Ze.at_]⟩
 |tbox t cs=>
  obtain⟨r,_,c,_,f⟩:=h;refine⟨fun a ha=>?_,by simp[Ze.at_]⟩;obtain⟨i,d,rfl⟩:=QK ha;exact(f.2 i d (by rw[f.1];exact d)).lvl m
def Zo.out{H:Za}(h:Zo n H E w){l k:Nat}{b:Ze}(a:l<n)(c:H l k=some b):b.Below n:=(h.blk l k b a c).lvl h.norm
structure Zc where
 tmps:LN
 L:List (Nat×Ze)
 H:Za
def lkb:List (Nat×Ze)->Nat->Option Ze
 |[],_=>none
 |(i,v)::r,t=>if i=t then some v else lkb r t
def full(n:Nat)(L:List (Nat×Ze))(H:Za):Za:=fun l k=>if l=n then lkb L k else H l k
structure Base where
 lo:Nat
 ds:List Deferred
structure Fm where
 ro:Option Nat
 B:Base
def fr(a:Option Nat):Fence:={fn:=fun _=>True,depth:=none,alive:=false,round:=a}
def mark(D:Nat):Deferred:={target:=.collected D,args:=#[]}
def ZcE(B:Base)(E:Env)(ds:List Deferred)(w:World):Prop:=
 B.lo<=w.heap.size/\ ∃l:List Nat,ds=l.map mark++B.ds/\l.Nodup/\ ∀D∈l,B.lo<=D/\w.heap[D]? =some (.deferred (some []))/\ ¬E.own D
def ZcE.nil{B:Nat}(E:Env)(h:B<=w.heap.size):ZcE ⟨B,[]⟩ E [] w:=⟨h,[],rfl,Qac,fun _ h=>by cases h⟩
variable {ds:List Deferred}
def ZcE.ext{B:Base}{c:World}(h:ZcE B E ds w)(b:Ext n E w E' c):ZcE B E' ds c:=by
 obtain⟨k,l,j,i,m⟩:=h;refine⟨UA k b.size,l,j,i,fun D o=>?_⟩;obtain⟨g,d,e⟩:=m D o;have a:D<w.heap.size:=(QO.1 d).1;exact⟨g,(b.block D a e).trans d,fun f=>e (b.own D a f)⟩
def ZcE.sub{B:Base}(h:ZcE B E ds w)(ho:∀b,E'.own b->E.own b):ZcE B E' ds w:=by
 obtain⟨f,l,e,d,a⟩:=h;exact⟨f,l,e,d,fun D c=>⟨(a D c).1,(a D c).2.1,fun h=>(a D c).2.2 (ho D h)⟩⟩
structure Yd (B:Base) (n N:Nat) (s:Zc) (E:Env) (a:Act) (w:World):Prop where
 size:a.tmps.size=N
 defs:ZcE B E a.defers w
 tmps:∀t,VR E (lkv s.tmps t) (a.tmps.getD t undef)
 heap:Zo (n+1) (full n s.L s.H) E w
 out:∀l k b,l<n->s.H l k=some b->b.Below n
def AC(P:Program)(φ:Fm)(n N:Nat)(c:Code)(Q:Exit->Zc->Prop)(s:Zc):Prop:=
 ∀E w a,Yd φ.B n N s E a w->c.wpIn (fr φ.ro) 0 P (fun e f b=>∃d E',Q e d/\Yd φ.B n N d E' f b/\Ext n E w E' b) a w
def Zh(P:Program)(n:Nat)(f:FuncId)(a:LA)(H:Za)(Q:AV->Za->Prop):Prop:=
 ∀E w d,Zo n H E w->VRs E a d->
  Calls P f d.toArray w fun e b=>∃r v c E',e= .returned v/\Q r c/\VR E' r v/\Zo n c E' b/\Ext n E w E' b
def PC(P:Program)(n:Nat)(f:FuncId)(a:LA)(H:Za)(r:AV):Prop:=Zh P n f a H fun c b=>c=r/\b=H
def Pure(P:Program)(f:FuncId)(a:LA)(r:AV):Prop:=∀n H,PC P n f a H r
def Zh.mono{P:Program}{n:Nat}{f:FuncId}{a:LA}{H:Za}{Q c:AV->Za->Prop}(h:Zh P n f a H Q)
  (g:∀r b,Q r b->c r b):Zh P n f a H c:=fun E w d j i=>
 (h E w d j i).mono fun e w' ⟨r,v,b,E',he,hQ,rest⟩=>⟨r,v,b,E',he,g _ _ hQ,rest⟩
variable {s:Zc} {Q:Exit->Zc->Prop} {c:Code} {N:Nat} {φ:Fm} {P:Program}
def AC.mono{d:Exit->Zc->Prop}(h:AC P φ n N c Q s)(g:∀e b,Q e b->d e b):AC P φ n N c d s:=
 fun E w a f=>wpIn_mono (h E w a f) fun e a' w' ⟨b,E',hQ,rest⟩=>⟨b,E',g _ _ hQ,rest⟩
def AC.run(h:AC P φ n N c Q s){f:Env}{i:World}{a:Act}
  (j:Yd φ.B n N s E a w) (k:Ext n f i E w):c.wpIn (fr φ.ro) 0 P (fun e g d=>∃b E',Q e b/\Yd φ.B n N b E' g d/\Ext n f i E' d) a w:=
 wpIn_mono (h E w a j) fun e g d ⟨b,E',hQ,hr,he⟩=>⟨b,E',hQ,hr,k.trans he⟩
def AC.seq{P:Program}{φ:Fm}{n N:Nat}{x y:Code}{Q:Exit->Zc->Prop}{s:Zc}
  (h:AC P φ n N x (fun e b=>match e with| .normal=>AC P φ n N y Q b|e=>Q e b) s):AC P φ n N (.seq x y) Q s:=fun E w a g=>by
 refine wpIn_seq (wpIn_mono (h E w a g) ?_);rintro e j i ⟨b,E',f,d,c⟩;cases e with
 |normal=>exact AC.run f d c
 |_=>exact⟨b,E',f,d,c⟩
def AC.block{P:Program}{φ:Fm}{n N:Nat}{g:Nat}{c:Code}{Q:Exit->Zc->Prop}{s:Zc}
  (h:AC P φ n N c (fun e b=>match e with| .exit id'=>if id'=g then Q .normal b else Q (.exit id') b|e=>Q e b) s):AC P φ n N (.block g c) Q s:=fun E w a k=>by
 refine wpIn_block (wpIn_mono (h E w a k) ?_);rintro e m l ⟨b,E',f,j,i⟩;cases e with
 |exit id'=>
  simp only[Exit.inBlock];by_cases d:id'=g
  ·simp only[d,if_true]at f⊢;exact⟨b,E',f,j,i⟩
  ·simp only[d,if_false]at f⊢;exact⟨b,E',f,j,i⟩
 |_=>exact⟨b,E',f,j,i⟩
def AC.skip{P:Program}{φ:Fm}{n N:Nat}{Q:Exit->Zc->Prop}{s:Zc}(h:Q .normal s):AC P φ n N .skip Q s:=
 fun E w _ hs=>wpIn_skip ⟨s,E,h,hs,.refl n E w⟩
def AC.exit{P:Program}{φ:Fm}{n N a:Nat}{Q:Exit->Zc->Prop}{s:Zc}(h:Q (.exit a) s):AC P φ n N (.exit a) Q s:=
 fun E w _ b=>wpIn_exit ⟨s,E,h,b,.refl n E w⟩
def AC.ret{P:Program}{φ:Fm}{n N:Nat}{Q:Exit->Zc->Prop}{s:Zc}(h:Q .ret s):AC P φ n N .ret Q s:=
 fun E w _ a=>wpIn_ret ⟨s,E,h,a,.refl n E w⟩
inductive Itm where
 |code (c:Code)
 |blk (id:Nat)
def AX(P:Program)(φ:Fm)(n N:Nat)(Q:Exit->Zc->Prop):List Itm->Exit->Zc->Prop
 |[],e,s=>Q e s
 | .code d::k,e,s=>match e with
  | .normal=>AC P φ n N d (AX P φ n N Q k) s
  |e=>AX P φ n N Q k e s
 | .blk id::k,e,s=>match e with
  | .exit id'=>if id'=id then AX P φ n N Q k .normal s else AX P φ n N Q k (.exit id') s
  |e=>AX P φ n N Q k e s
def AK(P:Program)(φ:Fm)(n N:Nat)(k:List Itm)(Q:Exit->Zc->Prop)(s:Zc):Prop:=AX P φ n N Q k .normal s
def V4(a:Nat):List Itm->Option (List Itm)
 |[]=>none
 | .blk j::k=>if a=j then some k else V4 a k
 | .code _::k=>V4 a k
section
variable {P:Program} {φ:Fm} {n N:Nat} {Q:Exit->Zc->Prop} {s:Zc} {k k':List Itm}
def ZfW(h:Q .ret s):∀k,AX P φ n N Q k .ret s
 |[]=>h
 | .code _::k=>ZfW h k
 | .blk _::k=>ZfW h k
def ZfA{id:Nat}:∀{k:List Itm},V4 id k=some k'->AK P φ n N k' Q s->AX P φ n N Q k (.exit id) s
 |[],h,_=>by simp[V4]at h
 | .code _::k,h,hk=>ZfA (k:=k) h hk
 | .blk j::k,h,hk=>by
  simp only[V4]at h;by_cases a:id=j
  ·simp only[a,if_true,Qp]at h;subst h;simp only[AX,a,if_true];exact hk
  ·simp only[a,if_false]at h;simp only[AX,a,if_false];exact ZfA (k:=k) h hk
def Zix(h:Q .normal s):AK P φ n N [] Q s:=h
def Zpg{a b:Code}(h:AK P φ n N (.code a:: .code b::k) Q s):AK P φ n N (.code (.seq a b)::k) Q s:=
 AC.seq (AC.mono h fun e d c=>by cases e<;>exact c)
def Zpd{a:Nat}{c:Code}(h:AK P φ n N (.code c:: .blk a::k) Q s):AK P φ n N (.code (.block a c)::k) Q s:=
 AC.block (AC.mono h fun e d b=>by cases e<;>exact b)
def Zrq(h:AK P φ n N k Q s):AK P φ n N (.code .skip::k) Q s:=AC.skip h
def ZsW{a:Nat}(h:AK P φ n N k Q s):AK P φ n N (.blk a::k) Q s:=h
def Zrp{a:Nat}(b:V4 a k=some k')(h:AK P φ n N k' Q s):AK P φ n N (.code (.exit a)::k) Q s:=AC.exit (ZfA b h)
def Zpe(h:Q .ret s):AK P φ n N (.code .ret::k) Q s:=AC.ret (ZfW h k)
def Zab{Q':Exit->Zc->Prop}(a:∀e s',Q e s'->Q' e s'):∀{k:List Itm} {e:Exit} {s:Zc},AX P φ n N Q k e s->AX P φ n N Q' k e s
 |[],_,_,h=>a _ _ h
 | .code _::k,e,s,h=>by
  cases e with
  |normal=>exact AC.mono h fun e s'=>Zab a (k:=k)
  |_=>exact Zab a (k:=k) h
 | .blk id::k,e,s,h=>by
  cases e with
  |exit id'=>
   simp only[AX]at h⊢;split at h
   ·rename_i he;simp only[he,if_true];exact Zab a (k:=k) h
   ·rename_i he;simp only[he,if_false];exact Zab a (k:=k) h
  |_=>exact Zab a (k:=k) h
end
def AV.ofCell:Value->AV
 | .int k n=>.int k n
 | .bool b=>.bool b
 | .string s=>.str s.data.toList
 | .pointer none=>.nilp
 | .slice none n c=>if n=0/\c=0 then .sl 0 [] .full else .dead
 | .nilFunc=>.nilf
 | .map none=>.nilm
 | .func f a b=>if a.size=0/\b.size=0 then .fn f []else .dead
 |_=>.dead
def Zob(E:Env)(v:Value):VR E (.ofCell v) v:=by
 cases v with
 |int k n=>exact .int _ _
 |bool b=>exact .bool _
 |string s=>
  have:s=⟨s.data.toList.toArray⟩:=sm;simp only[AV.ofCell];rw[this];exact .str _
 |pointer a=>cases a with
  |none=>exact .nilp
  |some a=>exact .dead _
 |slice a n c=>cases a with
  |none=>
   simp only[AV.ofCell];split
   ·rename_i h;obtain⟨rfl,rfl⟩:=h;exact .slnil 0 .full none rfl (fun _=>rfl)
   ·exact .dead _
  |some a=>exact .dead _
 |nilFunc=>exact .nilf
 |map r=>cases r with
  |none=>exact .nilm
  |some r=>exact .dead _
 |func f a b=>
  simp only[AV.ofCell];split
  ·rename_i h;obtain⟨d,g⟩:=h;have j:a= #[]:=U9 d;have e:b= #[]:=U9 g;subst j e;exact VR.fn _ [] [] rfl (fun i h=>absurd h (Qj _))
  ·exact .dead _
 |_=>exact .dead _
def AV.ofValue:Value->AV
 | .int k n=>.int k n
 | .bool b=>.bool b
 | .string s=>.str s.data.toList
 | .pointer none=>.nilp
 | .slice none n c=>if n=0/\c=0 then .sl 0 [] .full else .dead
 | .nilFunc=>.nilf
 | .map none=>.nilm
 | .func f a b=>if a.size=0/\b.size=0 then .fn f []else .dead
 | .agg vs=>.agg (vs.toList.map .ofCell)
 |_=>.dead
def Zf5(E:Env)(v:Value):VR E (.ofValue v) v:=by
 cases v with
 |int k n=>exact .int _ _
 |bool b=>exact .bool _
 |string s=>
  have:s=⟨s.data.toList.toArray⟩:=sm;simp only[AV.ofValue];rw[this];exact .str _
 |pointer a=>cases a with
  |none=>exact .nilp
  |some a=>exact .dead _
 |slice a n c=>cases a with
  |none=>
   simp only[AV.ofValue];split
   ·rename_i h;obtain⟨rfl,rfl⟩:=h;exact .slnil 0 .full none rfl (fun _=>rfl)
   ·exact .dead _
  |some a=>exact .dead _
 |nilFunc=>exact .nilf
 |map r=>cases r with
  |none=>exact .nilm
  |some r=>exact .dead _
 |func f a b=>
  simp only[AV.ofValue];split
  ·rename_i h;obtain⟨j,g⟩:=h;have d:a= #[]:=U9 j;have l:b= #[]:=U9 g;subst d l;exact VR.fn _ [] [] rfl (fun i h=>absurd h (Qj _))
  ·exact .dead _
 |agg vs=>
  have e:vs=vs.toList.toArray:=sm;simp only[AV.ofValue]
  conv=>arg 3;rw[e]
  exact .agg _ _ sm fun i h m=>by rw[QZ];exact Zob E _
 |_=>exact .dead _
def Zc.ev(s:Zc):Operand->AV
 | .tmp t=>lkv s.tmps t
 | .const v=>.ofValue v
 | .global _=>.dead
 | .func f=>.fn (.func f) []
def evT(a:LN):Operand->AV
 | .tmp t=>lkv a t
 | .const v=>.ofValue v
 | .global _=>.dead
 | .func f=>.fn (.func f) []
def Zaw{b:LN}{a:Act}(h:∀t,VR E (lkv b t) (a.tmps.getD t undef))(x:Operand):VR E (evT b x) (a.eval x):=by
 cases x with
 |tmp t=>exact h t
 |const v=>exact Zf5 E v
 |global g=>exact .dead _
 |func f=>exact VR.fn _ [] [] rfl (fun i h=>absurd h (Qj _))
def Zm1{k:List Itm}{c:Operand}{x y:Code}{t:Bool}(i:evT s.tmps c= .bool t)
  (g:t=true->AK P φ n N (.code x::k) Q s) (f:t=false->AK P φ n N (.code y::k) Q s):AK P φ n N (.code (.cond c x y)::k) Q s:=fun E w a d=>by
 have b:=Zaw d.tmps c;rw[i]at b;cases e:a.eval c<;>rw[e]at b<;>cases b;exact wpIn_cond_split e (fun h=>g h E w a d) (fun h=>f h E w a d)
def AWk(n N:Nat)(s b:Zc):Prop:=∀B E w a,Yd B n N s E a w-> ∃E',Yd B n N b E' a w/\Ext n E w E' w
def Zro{d:Zc}
  (e:AWk n N s d) (h:AC P φ n N c Q d):AC P φ n N c Q s:=fun E w a f=>by
 obtain⟨E',b,g⟩:=e _ E w a f;exact AC.run h b g
end
def Xh(P:Program)(m:Nat)(o:Oper)(d:Operand->AV)(H:Za)(v:AV)(f:Za):Prop:=
 ∀E w (a:Act) (Q:Exit->Act->World->Prop) (K:Act->World->Prop),Zo m H E w->(∀x∈o.op.operands,VR E (d x) (a.eval x))->
  (∀b c cv,VR b v cv->Zo m f b c->Ext m E w b c->K (a.put o.dst cv) c)-> ∀e,o.wpIn (fr e) 0 P a w K Q
def Yk(ops:List Oper)(tm:LN)(o:Oper):Option Bool:=
 match o.guard with
 |none=>some true
 |some (j,want)=>match (ops[j]?).bind (·.dst)with
  |none=>some false
  |some d=>match lkv tm d with
   | .bool b=>some (b==want)
   | .tup []=>some false
   |_=>none
def Yf(tm:LN)(d:Option Nat)(v:AV):LN:=
 match d with
 |none=>tm
 |some d=>(d,v)::tm
def VZ(tm:LN)(d:Option Nat)(v:AV)(t:Nat):lkv (Yf tm d v) t=if d=some t then v else lkv tm t:=by
 cases d with
 |none=>simp[Yf]
 |some d=>simp only[Yf,lkv,Qp]
section
variable {cv:Value} {d:Option Nat} {a:Act}
def Vd{N t:Nat}(hs:a.tmps.size=N)(hd:∀x,d=some x->x<N):
  (a.put d cv).tmps.getD t undef=if d=some t then cv else a.tmps.getD t undef:=by
 cases d with
 |none=>simp[Act.put]
 |some d=>
  have b:=hd d rfl;simp only[Act.put,Qp,QD];by_cases h:d=t
  ·subst h;simp[hs,b]
  ·simp[h,UO h]
def size_put:(a.put d cv).tmps.size=a.tmps.size:=by
 cases d<;>simp[Act.put]
def XJ:(a.put d cv).defers=a.defers:=by
 cases d<;>rfl
variable {tm:LN}
def YE{E:Env}{ops:Array Oper}{o:Oper}{g:Bool}
  (m:∀j w d,o.guard=some (j,w)->(ops[j]?).bind (·.dst)=some d->VR E (lkv tm d) (a.tmps.getD d undef)) (c:Yk ops.toList tm o=some g):
  Region.wanted o (yielded ops a.tmps)=g:=by
 unfold Yk at c;unfold Region.wanted;cases h:o.guard with
 |none=>simp only[h,Qp]at c;simpa using c
 |some jw=>
  obtain⟨j,f⟩:=jw;simp only[h,UK]at c;simp only[yielded];cases k:(ops[j]?).bind (·.dst)with
  |none=>simp only[k,Qp]at c;subst c;simp
  |some d=>
   simp only[k]at c;have e:=m j f d h k;simp only[UY];rw[QD]at e;cases l:a.tmps[d]? with
   |none=>
    rw[l]at e;simp only[Qbq,undef]at e;split at c
    ·rename_i b i;rw[i]at e;cases e
    ·simp only[Qp]at c;subst c;simp
    ·cases c
   |some x=>
    rw[l]at e;simp only[Ul]at e;split at c
    ·rename_i b i;rw[i]at e;cases e;simp only[Qp]at c;subst c;cases b<;>cases f<;>rfl
    ·rename_i i;rw[i]at e;simp only[Qp]at c;subst c;cases e with
     |tup _ vs hl _=>
      have:vs=[]:=by simpa using hl
      subst this;rfl
    ·cases c
def XP(E:Env):VR E (.tup []) undef:=VR.tup [] [] rfl (fun i h=>absurd h (Qj _))
inductive Kd where
 |p|t|w
 |a (d:Nat)
 |b (l d:Nat)
 |f (l:Nat) (D W:List Nat)
 deriving DecidableEq
def ovB(G:Za)(l:Nat)(W:List Nat)(B:Nat->Option Ze):Za:=fun a s=>if a=l/\W.contains s=true then B s else G a s
def Kd.touches(n:Nat):Kd->Nat->Nat->Bool
 | .w,_,_=>true
 | .a d,l,s=>l==n&&s==d
 | .b l' d,l,s=>l==l'&&s==d
 | .f l' _ W,l,s=>l==l'&&W.contains s
 |_,_,_=>false
def Jy(n:Nat)(A:Nat->Bool)(G H:Za):Prop:=∀l s,(l=n->A s=false)->G l s=H l s
def Kd.sem(P:Program)(m n:Nat)(A:Nat->Bool)(o:Oper)(c:Operand->AV)(H:Za)(v:AV)(e:Za):Kd->Prop
 | .p=>(∀G,Xh P m o c G v G)/\e=H
 | .t=>(∀G,Jy n A G H->Xh P m o c G v G)/\e=H
 | .w=>Xh P m o c H v e
 | .a d=>∃b,(∀G,G n d=H n d->Xh P m o c G v (G.upd n d b))/\e=H.upd n d b
 | .b l d=>∃b,(∀G,G l d=H l d->Xh P m o c G v (G.upd l d b))/\e=H.upd l d b
 | .f l D W=>∃B,(∀G:Za,(∀g s,(g=l->D.contains s=true\/W.contains s=true)->G g s=H g s)->Xh P m o c G v (ovB G l W B))/\e=ovB H l W B
def Zdb(b:Nat)(kd:Nat->Kd)(s:Nat):Bool:=(List.range b).any fun i=>kd i== .a s
inductive JB (P:Program) (m n:Nat) (A:Nat->Bool) (all:List Oper) (kd:Nat->Kd):Nat->List Oper->LN->Za->LN->Za->Prop
 |nil (i:Nat) (tm:LN) (H:Za):JB P m n A all kd i [] tm H tm H
 |run (i:Nat) (o:Oper) (r:List Oper) (tm tm':LN) (H H1 H':Za) (v:AV) (hg:Yk all tm o=some true) (h:(kd i).sem P m n A o (evT tm) H v H1)
   (hr:JB P m n A all kd (i+1) r (Yf tm o.dst v) H1 tm' H'):JB P m n A all kd i (o::r) tm H tm' H'
 |pass (i:Nat) (o:Oper) (r:List Oper) (tm tm':LN) (H H':Za) (hg:Yk all tm o=some false)
   (hr:JB P m n A all kd (i+1) r (Yf tm o.dst (.tup [])) H tm' H'):JB P m n A all kd i (o::r) tm H tm' H'
structure Zf0 (P:Program) (m n:Nat) (A:Nat->Bool) (all:List Oper) (kd:Nat->Kd) (tm:Nat->LN) (H:Nat->Za) (val:Nat->AV) (i0:Nat) (l:List Oper):Prop where
 step:∀j o,l[j]? =some o->tm (j+1)=Yf (tm j) o.dst (val j)/\
  ((Yk all (tm j) o=some true/\(kd (i0+j)).sem P m n A o (evT (tm j)) (H j) (val j) (H (j+1)))\/
   (Yk all (tm j) o=some false/\val j= .tup []/\H (j+1)=H j))
variable {kd:Nat->Kd} {n:Nat}
def JB.course{P:Program}{m:Nat}{A:Nat->Bool}{c:List Oper}{i:Nat}{l:List Oper}{b:LN}{H d:Za}
  (h:JB P m n A c kd i l tm H b d):∃T G V,T 0=tm/\G 0=H/\T l.length=b/\G l.length=d/\Zf0 P m n A c kd T G V i l:=by
 induction h with
 |nil i tm H=>exact⟨fun _=>tm,fun _=>H,fun _=>.dead,rfl,rfl,rfl,rfl,⟨fun j o h=>by simp at h⟩⟩
 |run i o r tm b H H1 d v hg h _ ih=>
  obtain⟨T,G,V,q,g,f,e,k⟩:=ih;refine⟨fun j=>match j with|0=>tm|j+1=>T j,fun j=>match j with|0=>H|j+1=>G j,fun j=>match j with|0=>v|j+1=>V j,rfl,rfl,f,e,⟨?_⟩⟩;intro j p a;cases j with
  |zero=>
   simp only[GH,Qp]at a;subst a;exact⟨q,.inl ⟨hg,by simp only[g];exact h⟩⟩
  |succ j=>
   simp only[U1]at a;have:=k.step j p a;rw[show i+1+j=i+(j+1) by omega]at this;exact this
 |pass i o r tm b H d hg _ ih=>
  obtain⟨T,G,V,q,g,f,e,k⟩:=ih;refine⟨fun j=>match j with|0=>tm|j+1=>T j,fun j=>match j with|0=>H|j+1=>G j,fun j=>match j with|0=>.tup []|j+1=>V j,rfl,rfl,f,e,⟨?_⟩⟩;intro j p a;cases j with
  |zero=>
   simp only[GH,Qp]at a;subst a;exact⟨q,.inr ⟨hg,rfl,g⟩⟩
  |succ j=>
   simp only[U1]at a;have:=k.step j p a;rw[show i+1+j=i+(j+1) by omega]at this;exact this
def Zi4(o:Oper)(a:List Nat):Nat:=
 o.after.toList.foldl (fun m e=>if Region.binds .any e then(m|||(2^e.on))|||(a.getD e.on 0)else m) 0
def ancL:List Oper->List Nat->List Nat
 |[],acc=>acc
 |o::r,acc=>ancL r (acc++[Zi4 o acc])
def Closed(ops:List Oper)(D:Nat->Prop):Prop:=∀i o,ops[i]? =some o->D i-> ∀e∈o.after.toList,Region.binds .any e=true->D e.on
variable {D:Nat->Prop}
def Zi5{o:Oper}{b:List Nat}(c:∀i,D i-> ∀j,(b.getD i 0).testBit j=true->D j)
  (p:∀e∈o.after.toList,Region.binds .any e=true->D e.on) (j:Nat) (a:(Zi4 o b).testBit j=true):D j:=by
 have f:∀(l:List Edge) (m:Nat),(∀j,m.testBit j=true->D j)->(∀e∈l,Region.binds .any e=true->D e.on)->
   ∀j,(l.foldl (fun m e=>if Region.binds .any e then(m|||(2^e.on))|||(b.getD e.on 0)else m) m).testBit j=true->D j:=by
  intro l;induction l with
  |nil=>intro m d _ j a;exact d j a
  |cons e l ih=>
   intro m d n j a;simp only[U8]at a;refine ih _ ?_ (fun q g=>n q (Qx _ g)) j a;intro j a;split at a
   ·rename_i r;have k:=n e sm r;simp only[Nat.testBit_or,Md]at a;rcases a with(h|h)|h
    ·exact d j h
    ·rw[Nat.testBit_two_pow]at h;have:e.on=j:=by simpa using h
     exact this▸k
    ·exact c _ k j h
   ·exact d j a
 exact f _ 0 (fun j h=>by simp at h) p j a
variable {ops:List Oper}
def ZcZ(m:Closed ops D):∀(r:List Oper) (a:List Nat),ops.drop a.length=r->
  (∀i,D i-> ∀j,(a.getD i 0).testBit j=true->D j)-> ∀i,D i-> ∀j,((ancL r a).getD i 0).testBit j=true->D j:=by
 intro r;induction r with
 |nil=>intro a _ h;exact h
 |cons o r ih=>
  intro a d h;refine ih (a++[Zi4 o a]) (by rw[Qh,<-UN,d];rfl) ?_;intro i f j b;rcases Nat.lt_trichotomy i a.length with c|heq|hgt
  ·rw[Qk,UF c,<-Qk]at b;exact h i f j b
  ·subst heq;rw[Qk,Gl (Qi _)]at b;simp at b;have g:ops[a.length]? =some o:=by
    have:=congrArg (·[0]?) d;simpa[Uy]using this
   exact Zi5 h (fun e k l=>m _ _ g f e k l) j b
  ·rw[Qk,Uw (by simp;omega)]at b;simp at b
def looks(ops:List Oper)(o:Oper):List Nat:=
 (o.op.operands.toList.filterMap fun| .tmp t=>some t|_=>none)++(match o.guard with|some (g,_)=>((ops[g]?).bind (·.dst)).toList|none=>[])
def Kd.clash:Kd->Kd->Bool
 | .w,.p=>false
 | .w,_=>true
 | .p,.w=>false
 |_,.w=>true
 | .a d,.a d'=>d==d'
 | .b _ d,.b _ d'=>d==d'
 | .a d,.b _ d'=>d==d'
 | .b _ d,.a d'=>d==d'
 | .b _ _,.t=>true
 | .t,.b _ _=>true
 | .f _ _ _,.p=>false
 | .p,.f _ _ _=>false
 | .f l D W,.f l' D' W'=>!(l==l')||(W.any fun s=>D'.contains s||W'.contains s)||(W'.any fun s=>D.contains s||W.contains s)
 | .f _ _ _,_=>true
 |_,.f _ _ _=>true
 |_,_=>false
def clash(ops:List Oper)(kd:Nat->Kd)(i j:Nat)(x y:Oper):Bool:=
 (match x.dst with|some d=>(looks ops y).contains d||y.dst==some d|none=>false)||
 (match y.dst with|some d=>(looks ops x).contains d|none=>false)||
 (kd i).clash (kd j)
def Yx{i j:Nat}{x y:Oper}(h:(kd i).clash (kd j)=true):clash ops kd i j x y=true:=by
 unfold clash;rw[h];simp
variable {κ:Kd}
def Kd.ZiE(h:κ≠ .p):Kd.clash .w κ=true/\Kd.clash κ .w=true:=by
 cases κ<;>first|exact absurd rfl h|exact⟨rfl,rfl⟩
variable {l s:Nat}
def Kd.ZtA(h:κ.touches n l s=true):κ≠ .p:=by
 intro e;subst e;cases h
def Kd.Znc{c:Nat}{D W:List Nat}(h:κ.touches n c s=true)(m:c=l->D.contains s=true\/W.contains s=true):κ.clash (.f l D W)=true/\Kd.clash (.f l D W) κ=true:=by
 cases κ with
 |p=>cases h
 |t=>cases h
 |w=>exact⟨rfl,rfl⟩
 |a d=>exact⟨rfl,rfl⟩
 |b l d=>exact⟨rfl,rfl⟩
 |f l2 D' W'=>
  simp only[Kd.touches,Qb,beq_iff_eq]at h;obtain⟨rfl,h⟩:=h;by_cases g:c=l
  ·have i:W'.any (fun s=>D.contains s||W.contains s)=true:=GR.2 ⟨s,by simpa using h,by simpa using m g⟩;exact⟨by simp only[Kd.clash,i,GY,QaF],by simp only[Kd.clash,i,QaF]⟩
  ·have k:(c==l)=false:=by simpa using g
   have j:(l==c)=false:=by simpa using fun e=>g e.symm
   exact⟨by simp only[Kd.clash,k,QaE,GY],by simp only[Kd.clash,j,QaE,GY]⟩
theorem Kd.VW{e:Kd}(h:κ.touches n l s=true)(c:e.touches n l s=true):κ.clash e=true:=by
 cases κ with
 |p=>cases h
 |t=>cases h
 |w=>exact(Kd.ZiE (Kd.ZtA c)).1
 |a d=>cases e with
  |p=>cases c
  |t=>cases c
  |w=>rfl
  |a d'=>
   simp only[Kd.touches,Qb,beq_iff_eq]at h c;simp[Kd.clash,<-h.2,<-c.2]
  |b l' d'=>
   simp only[Kd.touches,Qb,beq_iff_eq]at h c;simp[Kd.clash,<-h.2,<-c.2]
  |f l' D W=>rfl
 |f l0 D W=>
  simp only[Kd.touches,Qb,beq_iff_eq]at h;obtain⟨rfl,h⟩:=h;exact(Kd.Znc c (fun _=>.inr h)).2
 |b l0 d=>cases e with
  |p=>cases c
  |t=>cases c
  |w=>rfl
  |a d'=>
   simp only[Kd.touches,Qb,beq_iff_eq]at h c;simp[Kd.clash,<-h.2,<-c.2]
  |b l' d'=>
   simp only[Kd.touches,Qb,beq_iff_eq]at h c;simp[Kd.clash,<-h.2,<-c.2]
  |f l' D W=>rfl
def ZpP{a:Type}(x:Nat)(f:Nat->a):a:=match x with
 |0=>f 0
 |n+1=>f (n+1)
def ZoD{a:Type}(x:Nat)(f:Nat->a):ZpP x f=f x:=by cases x<;>rfl
def ancK:List Oper->List Nat->(List Nat->Bool)->Bool
 |[],acc,k=>k acc
 |o::r,acc,k=>ZpP (Zi4 o acc) fun m=>ancK r (acc++[m]) k
theorem ancK_eq:∀(ops:List Oper) (a:List Nat) (k:List Nat->Bool),ancK ops a k=k (ancL ops a)
 |[],a,k=>rfl
 |o::r,a,k=>by rw[ancK,ZoD,ancK_eq r,ancL]
def Wv(ops:List Oper)(kd:Nat->Kd):Bool:=
 ancK ops [] fun a=>ops.zipIdx.all fun(y,j)=>y.after.toList.all (fun e=>!Region.binds .any e||e.on<j)&&
  ops.zipIdx.all fun(x,i)=>!(i<j)|| !clash ops kd i j x y||(a.getD j 0).testBit i
structure Ordered (ops:List Oper) (kd:Nat->Kd):Prop where
 back:∀j y,ops[j]? =some y-> ∀e∈y.after.toList,Region.binds .any e=true->e.on<j
 cmp:∀i j x y,i<j->ops[i]? =some x->ops[j]? =some y->clash ops kd i j x y=true-> ∀D,Closed ops D->D j->D i
def Zau(h:Wv ops kd=true):Ordered ops kd:=by
 simp only[Wv,ancK_eq,Qw,Qb]at h;have d:∀j y,ops[j]? =some y->(y,j)∈ops.zipIdx:=fun j y a=>by
  rw[Qag];exact a
 constructor
 ·intro j y a e f k;have:=(h (y,j) (d j y a)).1 e f;simpa[k]using this
 ·intro i j x y c m a l D n b;have:=(h (y,j) (d j y a)).2 (x,i) (d i x m);simp only[l,c,decide_true,Qav,Gg]at this;exact ZcZ n ops [] rfl (fun i _ j g=>by simp at g) j b i this
end
def Zdy(ops:List Oper)(k:Nat):Option Nat:=(ops[k]?).bind (·.dst)
def va(ops:List Oper)(a:Nat->AV)(V:Nat->AV)(L:Nat->Bool):Nat->Nat->AV
 |0,t=>a t
 |k+1,t=>if L k=true/\Zdy ops k=some t then V k else va ops a V L k t
def hv(n:Nat)(kd:Nat->Kd)(G:Nat->Za)(L:Nat->Bool):Nat->Za
 |0=>G 0
 |k+1=>fun l s=>if L k=true/\(kd k).touches n l s=true then G (k+1) l s else hv n kd G L k l s
theorem Za3(n:Nat)(kd:Nat->Kd)(G:Nat->Za)(L:Nat->Bool)(k l s:Nat):
  hv n kd G L (k+1) l s=if L k=true/\(kd k).touches n l s=true then G (k+1) l s else hv n kd G L k l s:=rfl
section
variable {P:Program} {m nl:Nat} {A:Nat->Bool} {ops:List Oper} {kd:Nat->Kd} {T:Nat->LN} {G:Nat->Za} {V:Nat->AV}
def Zjx{a b:List Oper}(j:ops=a++b)(l:Zf0 P m nl A ops kd T G V 0 a){L:Nat->Bool}{t:Nat}:∀{i:Nat},i<=a.length->(∀k,k<i->Zdy ops k=some t->L k=true)->
  va ops (lkv (T 0)) V L i t=lkv (T i) t:=by
 intro i;induction i with
 |zero=>intro _ _;rfl
 |succ i ih=>
  intro o h;have g:a[i]? =some a[i]:=Qe om;have f:ops[i]? =some a[i]:=by rw[j,UF om];exact g
  rw[(l.step i _ g).1,VZ,va,ih om (fun k n=>h k om)];have e:Zdy ops i=a[i].dst:=by simp[Zdy,f]
  by_cases d:a[i].dst=some t
  ·rw[if_pos ⟨h i om (e.trans d),e.trans d⟩,if_pos d]
  ·rw[if_neg (fun c=>d (e▸c.2)),if_neg d]
def Zjw{L:Nat->Bool}{t i:Nat}{c:Nat->AV}:∀{n:Nat},i<=n->(∀k,i<=k->k<n->Zdy ops k=some t->L k=false)->
  va ops c V L n t=va ops c V L i t:=by
 intro n;induction n with
 |zero=>
  intro e _;have:i=0:=om;subst this;rfl
 |succ n ih=>
  intro e h;rcases Qd n i with d|hge
  ·have:i=n+1:=om;subst this;rfl
  ·rw[va,if_neg,ih hge (fun k a b=>h k a om)];rintro⟨a,b⟩;rw[h n hge om b]at a;cases a
def Zra{L b:Nat->Bool}{t:Nat}{c:Nat->AV}:∀{n:Nat},(∀k,k<n->Zdy ops k=some t->L k=b k)->va ops c V L n t=va ops c V b n t:=by
 intro n;induction n with
 |zero=>intro _;rfl
 |succ n ih=>
  intro h;simp only[va];rw[ih (fun k d=>h k om)];by_cases a:Zdy ops n=some t
  ·rw[h n om a]
  ·simp[a]
def Zso{o:Oper}{i:Operand->AV}{H g:Za}{v:AV}{e:Kd}(h:e.sem P m nl A o i H v g){l s:Nat}(c:e.touches nl l s=false):g l s=H l s:=by
 cases e with
 |p=>exact congrFun (congrFun h.2 l) s
 |t=>exact congrFun (congrFun h.2 l) s
 |w=>cases c
 |a d=>
  obtain⟨b,_,rfl⟩:=h;simp only[Za.upd];rw[if_neg];rintro⟨rfl,rfl⟩;simp[Kd.touches]at c
 |b l0 d=>
  obtain⟨b,_,rfl⟩:=h;simp only[Za.upd];rw[if_neg];rintro⟨rfl,rfl⟩;simp[Kd.touches]at c
 |f l0 D W=>
  obtain⟨B,_,rfl⟩:=h;simp only[ovB];rw[if_neg];rintro⟨rfl,j⟩;simp only[Kd.touches,beq_self_eq_true,QX,j]at c;cases c
def ZiT{d:List Oper}(f:Zf0 P m nl A ops kd T G V 0 d){L:Nat->Bool}{l s:Nat}:∀{i:Nat},i<=d.length->(∀k,k<i->(kd k).touches nl l s=true->L k=true)->hv nl kd G L i l s=G i l s:=by
 intro i;induction i with
 |zero=>intro _ _;rfl
 |succ i ih=>
  intro j h;have e:d[i]? =some d[i]:=Qe om;have a:=(f.step i _ e).2;rw[Za3,ih om (fun k g=>h k om)];by_cases b:(kd i).touches nl l s=true
  ·rw[if_pos ⟨h i om b,b⟩]
  ·rw[if_neg (fun c=>b c.2)];rcases a with⟨_,a⟩|⟨_,_,a⟩
   ·rw[Qy]at a;exact(Zso a (by simpa using b)).symm
   ·exact(congrFun (congrFun a l) s).symm
def ZiS{L:Nat->Bool}{i l s:Nat}:∀{n:Nat},i<=n->(∀k,i<=k->k<n->(kd k).touches nl l s=true->L k=false)->hv nl kd G L n l s=hv nl kd G L i l s:=by
 intro n;induction n with
 |zero=>
  intro d _;have:i=0:=om;subst this;rfl
 |succ n ih=>
  intro d h;rcases Qd n i with c|hge
  ·have:i=n+1:=om;subst this;rfl
  ·rw[Za3,if_neg,ih hge (fun k a b=>h k a om)];rintro⟨a,b⟩;rw[h n hge om b]at a;cases a
def ZpW{L b:Nat->Bool}{l s:Nat}:∀{n:Nat},(∀k,k<n->(kd k).touches nl l s=true->L k=b k)->hv nl kd G L n l s=hv nl kd G b n l s:=by
 intro n;induction n with
 |zero=>intro _;rfl
 |succ n ih=>
  intro h;simp only[Za3];rw[ih (fun k c=>h k om)];by_cases a:(kd n).touches nl l s=true
  ·rw[h n om a]
  ·simp[a]
end
def unl(l:Array Bool):Nat:=l.toList.countP (· ==false)
section
variable {l:Array Bool}
def Zst{i:Nat}(h:i<l.size)(hf:l.getD i true=false):unl (l.setIfInBounds i true)+1=unl l:=by
 have hx:l.toList[i]'(by simpa using h)=false:=by simpa[QD,h]using hf
 unfold unl;rw[Qa3];have key:∀(l:List Bool) (i:Nat) (h:i<l.length),l[i]=false->(l.set i true).countP (· ==false)+1=l.countP (· ==false):=by
  intro l;induction l with
  |nil=>intro i h;simp at h
  |cons a l ih=>
   intro i h hx;cases i with
   |zero=>
    have ha:a=false:=by simpa using hx
    subst ha;rw[U4,QaL,QaL];rfl
   |succ i=>
    have:=ih i (by simpa using h) (by simpa using hx);rw[ML,QaL,QaL];omega
 exact key _ _ _ hx
def Zlo(h:unl l=0)(i:Nat)(a:i<l.size):l.getD i true=true:=by
 unfold unl at h;rw[List.countP_eq_zero]at h;have:=h (l.toList[i]'(by simpa using a)) (Qa _);simpa[QD,a]using this
variable {V:Nat->AV} {G:Nat->Za} {T:Nat->LN} {kd:Nat->Kd} {Q:Exit->Act->World->Prop} {ops:Array Oper}
theorem ZcV{P:Program}(ro:Option Nat)(ds:List Deferred){m nl N:Nat}{l0 post:List Oper}(hp:ops.toList=l0++post)
  (hd:∀o∈ops.toList,∀x,o.dst=some x->x<N) (hc:Zf0 P m nl (Zdb ops.toList.length kd) ops.toList kd T G V 0 l0) (hO:Ordered ops.toList kd) (E0:Env) (w0:World)
  (b4:post≠[]-> ∀i,i<ops.size-> ∀D,Closed ops.toList D->(i<l0.length->D l0.length->D i)/\(l0.length<i->D i->D l0.length))
  (hX:∀o,ops[l0.length]? =some o-> ∀E' w' a' K,a'.tmps.size=N->a'.defers=ds->(∀t,VR E' (lkv (T l0.length) t) (a'.tmps.getD t undef))->Zo m (G l0.length) E' w'->Ext m E0 w0 E' w'->wpOpIn (fr ro) 0 P ops Q l0.length K a' w')
  (hQ:post=[]-> ∀E' w' a',a'.tmps.size=N->a'.defers=ds->(∀t,VR E' (lkv (T ops.size) t) (a'.tmps.getD t undef))->Zo m (G ops.size) E' w'->Ext m E0 w0 E' w'->Q .normal a' w'):
  ∀(z:Nat) (c:Array Bool) (E:Env) (w:World) (a:Act),unl c<=z->c.size=ops.size->Closed ops.toList (fun i=>c.getD i false=true)->
   c.getD l0.length false=false->a.tmps.size=N->a.defers=ds->(∀t,VR E (va ops.toList (lkv (T 0)) V (c.getD · false) ops.size t) (a.tmps.getD t undef))->
   Zo m (hv nl kd G (c.getD · false) ops.size) E w->Ext m E0 w0 E w->wpAnyIn (fr ro) 0 P .any ops Q z c a w:=by
 have H:ops.size=l0.length+post.length:=by
  have:=congrArg List.length hp;simpa using this
 have cu:post≠[]->l0.length<ops.size:=fun h=>by
  have:=G9.2 h;omega
 intro z;induction z with
 |zero=>
  intro c E w a hu S bw O h1 h2 h3 h4 h5;have C:∀i,i<ops.size->c.getD i false=true:=fun i hi=>by
   have:=Zlo (Nat.le_zero.1 hu) i om;simpa[QD,S,hi]using this
  have b2:post=[]:=Qbc fun h=>by
   have:=C _ (cu h);rw[O]at this;cases this
  subst b2;rw[Qu]at hp;have b0:ops.toList=l0++[]:=by rw[hp,Qu]
  rw[Qz,UC]at H;refine⟨?_,hQ rfl E w a h1 h2 (fun t=>?_) ?_ h5⟩
  ·simp only[Region.ready];rw[Qbt];intro i hi;have dx:i<ops.size:=by simpa using hi
   have:=Zlo (Nat.le_zero.1 hu) i om;simp[this]
  ·have:=h3 t
   rwa [H,Zjx b0 hc (Qi _) (fun k hk _=>C k om),<-H]at this
  ·rwa [show hv nl kd G (c.getD · false) ops.size=G ops.size from funext fun l=>funext fun s=>by
    rw[H];exact ZiT hc (Qi _) (fun k hk _=>C k om)]at h4
 |succ z ih=>
  intro c E w a hu S bw O h1 h2 h3 h4 h5;refine⟨fun a0=>?_,fun i hi=>?_⟩
  ·-- nothing is ready:all are done
   have C:∀i,i<ops.size->c.getD i false=true:=by
    intro i;induction i using Nat.strongRecOn with
    |_ i hi=>
     intro L;cases c7:c.getD i false with
     |true=>rfl
     |false=>
      exfalso
      simp only[Region.ready]at a0;rw[Qbt]at a0;refine a0 i (by simpa using L) ?_;have ho:ops[i]? =some ops[i]:=UD L;have cz:c.getD i true=false:=by simpa[QD,S,L]using c7
      simp only[cz,QaE,QX,ho,Ut,Ul];rw[<-Array.all_toList,Qw];intro e he;cases hb:Region.binds .any e with
      |false=>rfl
      |true=>
       have a9:=hO.back i ops[i] (by rw[UK];exact ho) e he hb;simp[hi e.on a9 om]
   have b2:post=[]:=Qbc fun h=>by
    have:=C _ (cu h);rw[O]at this;cases this
   subst b2;rw[Qu]at hp;have b0:ops.toList=l0++[]:=by rw[hp,Qu]
   rw[Qz,UC]at H;refine hQ rfl E w a h1 h2 (fun t=>?_) ?_ h5
   ·have:=h3 t
    rwa [H,Zjx b0 hc (Qi _) (fun k hk _=>C k om),<-H]at this
   ·rwa [show hv nl kd G (c.getD · false) ops.size=G ops.size from funext fun l=>funext fun s=>by
     rw[H];exact ZiT hc (Qi _) (fun k hk _=>C k om)]at h4
  ·-- one that is ready
   simp only[Region.ready,MO,Gm,Qb,Qaj]at hi;obtain⟨L,cw,a7⟩:=hi;have ho:ops[i]? =some ops[i]:=UD L;generalize dy:ops[i]=o at ho;have X:ops.toList[i]? =some o:=by rw[UK];exact ho
   have bu:o∈ops.toList:=Gf X;simp only[ho,Ut,Ul]at a7;rw[<-Array.all_toList,Qw]at a7;have b1:c.getD i false=false:=by
    have:=cw;simpa[QD,S,L]using this
   have ay:Closed ops.toList (fun j=>c.getD j false=true\/j=i):=by
    intro j o' hj Y e he hb;rcases Y with Y|rfl
    ·exact .inl (bw j o' hj Y e he hb)
    ·rw[X]at hj;cases hj;have:=a7 e he;simp only[hb,Qav,Gg]at this;exact .inl this
   rcases Nat.lt_trichotomy i l0.length with hi0|hi0|hi0
   rotate_left
   ·have aw:post≠[]:=fun h=>by rw[h,Qz]at H;omega
    have b7:∀k,k<l0.length->c.getD k false=true:=fun k hk=>by
     rcases(b4 aw k om _ ay).1 hk (.inr hi0.symm)with h|h
     ·exact h
     ·omega
    have b9:∀k,l0.length<=k->k<ops.size->c.getD k false=false:=fun k hk c8=>by
     rcases Qa9 hk with hk|rfl
     ·cases cq:c.getD k false with
      |false=>rfl
      |true=>exact absurd ((b4 aw k c8 _ bw).2 hk cq) (by rw[O];simp)
     ·exact O
    subst hi0;refine hX o ho E w a _ h1 h2 (fun t=>?_) ?_ h5
    ·have:=h3 t
     rwa [Zjw (i:=l0.length) om (fun k hk R _=>b9 k hk R),Zjx hp hc (Qi _) (fun k hk _=>b7 k hk)]at this
    ·rwa [show hv nl kd G (c.getD · false) ops.size=G l0.length from funext fun l=>funext fun s=>by
      rw[ZiS (i:=l0.length) om (fun k hk R _=>b9 k hk R)];exact ZiT hc (Qi _) (fun k hk _=>b7 k hk)]at h4
   ·have aw:post≠[]:=fun h=>by rw[h,Qz]at H;omega
    rcases(b4 aw i L _ ay).2 hi0 (.inr rfl)with h|h
    ·rw[O]at h;cases h
    ·omega
   have cx:l0[i]? =some o:=by
    rw[hp,UF hi0]at X;exact X
   have M:∀j x,j<i->ops.toList[j]? =some x->clash ops.toList kd j i x o=true->c.getD j false=true:=by
    intro j x c4 hx I;rcases hO.cmp j i x o c4 hx X I _ ay (.inr rfl)with h|h
    ·exact h
    ·omega
   have r:∀j y,i<j->ops.toList[j]? =some y->clash ops.toList kd i j o y=true->c.getD j false=false:=by
    intro j y c0 hy I;cases c2:c.getD j false with
    |false=>rfl
    |true=>
     have:=hO.cmp i j o y c0 X hy I _ bw c2;rw[b1]at this;cases this
   have c9:ops.toList.length=ops.size:=by simp
   have a8:∀t,t∈looks ops.toList o->va ops.toList (lkv (T 0)) V (c.getD · false) ops.size t=lkv (T i) t:=by
    intro t ht;rw[Zjw (i:=i) om,Zjx hp hc om]
    ·intro k hk U;obtain⟨x,hx,aq⟩:=U2.1 U;refine M k x hk hx ?_;simp[clash,aq,ht]
    ·intro k hk R U;obtain⟨x,hx,aq⟩:=U2.1 U;rcases Qa9 hk with hk|rfl
     ·refine r k x hk hx ?_;simp[clash,aq,ht]
     ·exact b1
   have u:∀l s,(∀k x,ops.toList[k]? =some x->k≠i->(kd k).touches nl l s=true->clash ops.toList kd k i x o=true/\clash ops.toList kd i k o x=true)->hv nl kd G (c.getD · false) ops.size l s=G i l s:=by
    intro l s bv;rw[ZiS (i:=i) om,ZiT hc om]
    ·intro k hk ax;have hx:ops.toList[k]? =some ops.toList[k]:=Qe om;exact M k _ hk hx (bv k _ hx om ax).1
    ·intro k hk R ax;rcases Qa9 hk with hk|rfl
     ·have hx:ops.toList[k]? =some ops.toList[k]:=Qe om;exact r k _ hk hx (bv k _ hx om ax).2
     ·exact b1
   have b8:kd i= .t->Jy nl (Zdb ops.toList.length kd) (hv nl kd G (c.getD · false) ops.size) (G i):=by
    intro hp l s hA;refine u l s (fun k x hx bz n=>?_);cases F:kd k with
    |p=>rw[F]at n;cases n
    |t=>rw[F]at n;cases n
    |w=>exact⟨Yx (by rw[F,hp];rfl),Yx (by rw[F,hp];rfl)⟩
    |b l0 d=>exact⟨Yx (by rw[F,hp];rfl),Yx (by rw[F,hp];rfl)⟩
    |f l0 D W=>exact⟨Yx (by rw[F,hp];rfl),Yx (by rw[F,hp];rfl)⟩
    |a d=>
     rw[F]at n;simp only[Kd.touches,Qb,beq_iff_eq]at n;have a9:k<ops.toList.length:=by
      rcases Qd k ops.toList.length with h|h
      ·exact h
      ·rw[Uw h]at hx;cases hx
     have:=hA n.1;simp only[Zdb,QaH,Gm,beq_iff_eq]at this;exact absurd (by rw[F,n.2]) (this k a9)
   have a1:kd i= .w->hv nl kd G (c.getD · false) ops.size=G i:=by
    intro hw;funext l s;refine u l s (fun k x hx bz n=>?_);exact⟨Yx (by rw[hw];exact(Kd.ZiE (Kd.ZtA n)).2),Yx (by rw[hw];exact(Kd.ZiE (Kd.ZtA n)).1)⟩
   have bq:∀d,kd i= .a d->hv nl kd G (c.getD · false) ops.size nl d=G i nl d:=by
    intro d av;refine u nl d (fun k x hx bz n=>?_);have h0:(kd i).touches nl nl d=true:=by rw[av];simp[Kd.touches]
    exact⟨Yx (Kd.VW n h0),Yx (Kd.VW h0 n)⟩
   have a3:∀l' d,kd i= .b l' d->hv nl kd G (c.getD · false) ops.size l' d=G i l' d:=by
    intro l' d av;refine u l' d (fun k x hx bz n=>?_);have h0:(kd i).touches nl l' d=true:=by rw[av];simp[Kd.touches]
    exact⟨Yx (Kd.VW n h0),Yx (Kd.VW h0 n)⟩
   have a4:∀l D W,kd i= .f l D W-> ∀l' s,(l'=l->D.contains s=true\/W.contains s=true)->hv nl kd G (c.getD · false) ops.size l' s=G i l' s:=by
    intro l D W av l' s c3;refine u l' s (fun k x hx bz n=>?_);have h0:=Kd.Znc n c3;exact⟨Yx (by rw[av];exact h0.1),Yx (by rw[av];exact h0.2)⟩
   have q:∀k,(c.setIfInBounds i true).getD k false=if k=i then true else c.getD k false:=by
    intro k;rw[QD,QD];by_cases hk:i=k
    ·subst hk;simp[S,L]
    ·rw[UO hk,if_neg (fun e=>hk e.symm)]
   have I:Closed ops.toList (fun j=>(c.setIfInBounds i true).getD j false=true):=by
    intro j o' hj Y e he hb;rw[q]at Y⊢;have:=ay j o' hj (by split at Y<;>first|exact .inr ‹_›|exact .inl Y) e he hb;split
    ·rfl
    ·rcases this with h|h
     ·exact h
     ·rename_i aw;exact absurd h aw
   have b5:unl (c.setIfInBounds i true)<=z:=by
    have:=Zst (l:=c) (i:=i) om cw;omega
   obtain⟨hT,a2⟩:=hc.step i o cx;rw[Qy]at a2
   have cy:∀t,va ops.toList (lkv (T 0)) V ((c.setIfInBounds i true).getD · false) ops.size t=
     if o.dst=some t then V i else va ops.toList (lkv (T 0)) V (c.getD · false) ops.size t:=by
    intro t;have b6:Zdy ops.toList i=o.dst:=by simp[Zdy,X]
    by_cases a6:o.dst=some t
    ·rw[if_pos a6,Zjw (i:=i+1) om]
     ·rw[va,if_pos ⟨by rw[q,if_pos rfl],b6.trans a6⟩]
     ·intro k hk R U;obtain⟨x,hx,aq⟩:=U2.1 U;rw[q,if_neg om];refine r k x om hx ?_;simp[clash,a6,aq]
    ·rw[if_neg a6];refine Zra (fun k _ U=>?_);rw[q,if_neg];rintro rfl;exact a6 (b6▸U)
   have Z:hv nl kd G ((c.setIfInBounds i true).getD · false) ops.size=fun l s=>if(kd i).touches nl l s=true then G (i+1) l s else hv nl kd G (c.getD · false) ops.size l s:=by
    funext l s;by_cases hw:(kd i).touches nl l s=true
    ·rw[if_pos hw,ZiS (i:=i+1) om]
     ·rw[Za3,if_pos ⟨by rw[q,if_pos rfl],hw⟩]
     ·intro k hk R ax;have hx:ops.toList[k]? =some ops.toList[k]:=Qe om;rw[q,if_neg om];exact r k _ om hx (Yx (Kd.VW hw ax))
    ·rw[if_neg hw];refine ZpW (fun k _ ax=>?_);rw[q,if_neg];rintro rfl;exact hw ax
   simp only[wpOpIn,ho];have az:∀j w d,o.guard=some (j,w)->(ops[j]?).bind (·.dst)=some d->VR E (lkv (T i) d) (a.tmps.getD d undef):=by
    intro j w' d hg c5;have b3:d∈looks ops.toList o:=by
     simp only[looks,hg,UK,c5,Qr];exact .inr sm
    rw[<-a8 d b3];exact h3 d
   rcases a2 with⟨hg,hs⟩|⟨hg,hV,c6⟩
   ·rw[YE az hg];simp only[if_true];have J:∀x∈o.op.operands,VR E (evT (T i) x) (a.eval x):=by
     intro x hx;cases x with
     |tmp t=>
      have b3:t∈looks ops.toList o:=by
       simp only[looks,Qr,QaD];exact .inl ⟨.tmp t,by simpa using hx,rfl⟩
      simp only[evT];rw[<-a8 t b3];exact h3 t
     |const v=>exact Zf5 E v
     |global g=>exact .dead _
     |func f=>exact VR.fn _ [] [] rfl (fun i h=>absurd h (Qj _))
    have au:∀(H':Za),hv nl kd G ((c.setIfInBounds i true).getD · false) ops.size=H'-> ∀E' w' cv,VR E' (V i) cv->Zo m H' E' w'->Ext m E w E' w'->
      wpAnyIn (fr ro) 0 P .any ops Q z (c.setIfInBounds i true) (a.put o.dst cv) w':=by
     intro H' hH E' w' cv c1 hh hx;refine ih (c.setIfInBounds i true) E' w' (a.put o.dst cv) b5 (by simp[S]) I (by rw[q,if_neg om];exact O) (by rw[size_put];exact h1) (by rw[XJ];exact h2) ?_ (hH▸hh) (h5.trans hx);intro t;rw[cy,Vd h1 (hd o bu)];split
     ·exact c1
     ·exact(h3 t).mono h4.norm hx.le
    cases hk:kd i with
    |p=>
     rw[hk]at hs;refine hs.1 _ E w a Q _ h4 J (au _ ?_) ro;rw[Z,hk];funext l s;simp[Kd.touches]
    |t=>
     rw[hk]at hs;refine hs.1 _ (b8 hk) E w a Q _ h4 J (au _ ?_) ro;rw[Z,hk];funext l s;simp[Kd.touches]
    |w=>
     rw[hk]at hs;rw[a1 hk]at h4;refine hs E w a Q _ h4 J (au _ ?_) ro;rw[Z,hk];funext l s;simp[Kd.touches]
    |a d=>
     rw[hk]at hs;obtain⟨b,bx,a5⟩:=hs;refine bx _ (bq d hk) E w a Q _ h4 J (au _ ?_) ro;rw[Z,hk,a5];funext l s;simp only[Kd.touches,Za.upd,Qb,beq_iff_eq];by_cases A:l=nl/\s=d
     ·simp[A]
     ·simp[A]
    |b l0 d=>
     rw[hk]at hs;obtain⟨b,bx,a5⟩:=hs;refine bx _ (a3 l0 d hk) E w a Q _ h4 J (au _ ?_) ro;rw[Z,hk,a5];funext l s;simp only[Kd.touches,Za.upd,Qb,beq_iff_eq];by_cases A:l=l0/\s=d
     ·simp[A]
     ·simp[A]
    |f l0 D W=>
     rw[hk]at hs;obtain⟨B,bx,a5⟩:=hs;refine bx _ (a4 l0 D W hk) E w a Q _ h4 J (au _ ?_) ro;rw[Z,hk,a5];funext l s;simp only[Kd.touches,ovB,Qb,beq_iff_eq];by_cases A:l=l0/\W.contains s=true
     ·rw[if_pos A,if_pos A,if_pos A]
     ·rw[if_neg A,if_neg A]
   ·rw[YE az hg];simp only[QE,if_false];refine⟨fun _ _=>trivial,?_⟩;refine ih (c.setIfInBounds i true) E w (a.put o.dst undef) b5 (by simp[S]) I (by rw[q,if_neg om];exact O) (by rw[size_put];exact h1) (by rw[XJ];exact h2) ?_ ?_ h5
    ·intro t;rw[cy,Vd h1 (hd o bu)];split
     ·rw[hV];exact XP E
     ·exact h3 t
    ·have:hv nl kd G ((c.setIfInBounds i true).getD · false) ops.size=hv nl kd G (c.getD · false) ops.size:=by
      rw[Z];funext l s;split
      ·rename_i hw;rw[c6];cases hk:kd i with
       |p=>rw[hk]at hw;cases hw
       |t=>rw[hk]at hw;cases hw
       |w=>rw[a1 hk]
       |a d=>
        rw[hk]at hw;simp only[Kd.touches,Qb,beq_iff_eq]at hw;obtain⟨rfl,rfl⟩:=hw;exact(bq _ hk).symm
       |b l0 d=>
        rw[hk]at hw;simp only[Kd.touches,Qb,beq_iff_eq]at hw;obtain⟨rfl,rfl⟩:=hw;exact(a3 _ _ hk).symm
       |f l0 D W=>
        rw[hk]at hw;simp only[Kd.touches,Qb,beq_iff_eq]at hw;obtain⟨rfl,hw⟩:=hw;exact(a4 _ _ _ hk _ _ (fun _=>.inr hw)).symm
      ·rfl
     rw[this];exact h4
def Zea{P:Program}(ro:Option Nat)(ds:List Deferred){m nl N:Nat} 
  (hd:∀o∈ops.toList,∀x,o.dst=some x->x<N) (hc:Zf0 P m nl (Zdb ops.toList.length kd) ops.toList kd T G V 0 ops.toList) (f:Ordered ops.toList kd) (E0:Env) (w0:World)
  (j:∀E' w' a',a'.tmps.size=N->a'.defers=ds->(∀t,VR E' (lkv (T ops.size) t) (a'.tmps.getD t undef))->Zo m (G ops.size) E' w'->Ext m E0 w0 E' w'->Q .normal a' w'):
  ∀(c:Nat) (b:Array Bool) (E:Env) (w:World) (a:Act),unl b<=c->b.size=ops.size->Closed ops.toList (fun i=>b.getD i false=true)->
   a.tmps.size=N->a.defers=ds->(∀t,VR E (va ops.toList (lkv (T 0)) V (b.getD · false) ops.size t) (a.tmps.getD t undef))->
   Zo m (hv nl kd G (b.getD · false) ops.size) E w->Ext m E0 w0 E w->wpAnyIn (fr ro) 0 P .any ops Q c b a w:=fun c b E w a g d e=>
 ZcV ro ds (l0:=ops.toList) (post:=[]) (Qu _).symm hd hc f E0 w0 (fun h=>absurd rfl h) (fun o ho=>by simp at ho) (fun _=>j) c b E w a g d e (by
  rw[QD,Qad (by simp[d])];rfl)
def Env.Vz(n:Nat)(E:Env)(w:World):Ext n E w E {w with drawn:=w.drawn+1}:=
 ⟨.refl n E,rfl,rfl,rfl,fun _=>Uc _,Qi _,fun _ _ _=>rfl,fun _ _ h=>h⟩
def Zo.drew{n:Nat}{H:Za}{E:Env}{w:World}(h:Zo n H E w):Zo n H E {w with drawn:=w.drawn+1}:=
 {norm:=h.norm,F:=h.F,blk:=fun l k b a c=>(h.blk l k b a c).keep rfl rfl (fun _=>rfl) (fun _ _ _ h=>h) (fun _ _=>rfl) (fun _ _ _ h=>h) (fun _ _ _ h=>h),dom:=h.dom,nobuf:=h.nobuf,inj:=h.inj,injg:=h.injg,mg:=h.mg,mF:=h.mF,lt:=h.lt}
end
inductive TD where
 |int (k:IntKind)
 |bool
 |str
 |ptr
 |slice (e:TypeId)
 |array (n:Nat) (e:TypeId)
 |map (k e:TypeId)
 |struct (fs:List (Nat×TypeId))
 |func
 |tuple
 |iface
 deriving DecidableEq
def TD.fits:TD->TypeDesc->Bool
 | .int k,.int k'=>k==k'
 | .bool,.bool=>true
 | .str,.string=>true
 | .ptr,.pointer _=>true
 | .slice e,.slice e'=>e==e'
 | .array n e,.array n' e'=>n==n'&&e==e'
 | .map k e,.map k' e'=>k==k'&&e==e'
 | .struct fs, .struct gs => gs.toList.map (fun g => (g.offset, g.type)) == fs && gs.toList.all (fun g => g.name != "_")
 | .func,.func ..=>true
 | .tuple,.tuple _=>true
 | .iface,.interface _=>true
 |_,_=>false
structure Zp where
 td:TD
 size:Nat
 bytes:Nat
 zero:LA
def Zp.isAgg(r:Zp):Bool:=match r.td with| .struct _| .array _ _=>true|_=>false
def fitsConst:AV->Value->Bool
 | .int k n,.int k' n'=>k==k'&&n==n'
 | .bool b,.bool b'=>b==b'
 | .str l,.string s=>l==s.data.toList
 | .nilp,.pointer none=>true
 | .sl _ [] .full,.slice none 0 0=>true
 | .nilf,.nilFunc=>true
 | .nilm,.map none=>true
 | .nili,.nilIface=>true
 |_,_=>false
def ZiN{E:Env}{a:AV}{v:Value}(h:fitsConst a v=true):VR E a v:=by
 unfold fitsConst at h;split at h<;>try(cases h;done)
 ·simp only[Qb,beq_iff_eq]at h;obtain⟨rfl,rfl⟩:=h;exact .int _ _
 ·simp only[beq_iff_eq]at h;subst h;exact .bool _
 ·rename_i l s;simp only[beq_iff_eq]at h;subst h;have:s=⟨s.data.toList.toArray⟩:=sm;rw[this];exact .str _
 ·exact .nilp
 ·exact .slnil _ _ none rfl (fun _=>rfl)
 ·exact .nilf
 ·exact .nilm
 ·exact .nili
def Zhp{a:AV}{v:Value}(h:fitsConst a v=true):a.one=true:=by
 unfold fitsConst at h;split at h<;>first|rfl|(cases h;done)
def fitsAll:LA->List Value->Bool
 |[],[]=>true
 |a::az,v::vs=>fitsConst a v&&fitsAll az vs
 |_,_=>false
def Y5{E:Env}:∀{az:LA} {vs:List Value},fitsAll az vs=true->VRs E az vs
 |[],[],_=>VRs.nil E
 |a::az,v::vs,h=>by
  simp only[fitsAll,Qb]at h;exact VRs.cons (ZiN h.1) (Y5 h.2)
 |[],_::_,h=>by simp[fitsAll]at h
 |_::_,[],h=>by simp[fitsAll]at h
def fitsAll_one:∀{b:LA} {c:List Value},fitsAll b c=true-> ∀a∈b,a.one=true
 |[],_,_=>by simp
 |a::b,v::c,h=>by
  simp only[fitsAll,Qb]at h;intro x hx;rcases Ql.1 hx with rfl|hx
  ·exact Zhp h.1
  ·exact fitsAll_one h.2 x hx
 |_::_,[],h=>by simp[fitsAll]at h
def isAggV:Value->Bool
 | .agg _=>true
 |_=>false
def ZnM(P:Program)(t:TypeId)(r:Zp):Bool:=
 match P.underlying t,P.info? t with
 |some d,some i=>r.td.fits d&&i.size==r.size&&i.bytes==r.bytes&&(match i.zero with|some z=>fitsAll r.zero z.cells.toList&&z.cells.size==r.size&&(r.isAgg==isAggV z)|none=>false)&&(match r.td with| .struct _=>!P.stoodInHeld t&& !P.eqGuardType P.depth t|_=>true)
 |_,_=>false
abbrev TT:=TypeId->Option Zp
def TOK(P:Program)(T:TT):Prop:=∀t r,T t=some r->ZnM P t r=true
structure VP (P:Program) (t:TypeId) (r:Zp) (d:TypeDesc) (i:TypeInfo) (z:Value):Prop where
 und:P.underlying t=some d
 info:P.info? t=some i
 fits:r.td.fits d=true
 size:i.size=r.size
 bytes:i.bytes=r.bytes
 zero:i.zero=some z
 zfits:fitsAll r.zero z.cells.toList=true
 zsize:z.cells.size=r.size
 zagg:r.isAgg=isAggV z
 stood:∀fs,r.td= .struct fs->P.stoodInHeld t=false/\P.eqGuardType P.depth t=false
def Zd{P:Program}{t:TypeId}{r:Zp}(h:ZnM P t r=true):∃d i z,VP P t r d i z:=by
 unfold ZnM at h;split at h
 ·rename_i d i e f;split at h
  ·rename_i z g;simp only[Qb,beq_iff_eq]at h;obtain⟨⟨h,a⟩,c⟩:=h;refine⟨d,i,z,e,f,h.1.1,h.1.2,h.2,g,a.1.1,a.1.2,a.2,fun j b=>?_⟩;rw[b]at c;simpa using c
  ·simp at h
 ·simp at h
def Zjv{P:Program}{l:List (TypeId×Zp)}(h:l.all (fun x=>ZnM P x.1 x.2)=true):TOK P (fun t=>(l.find? (·.1==t)).map (·.2)):=by
 intro t r a;simp only[Ur]at a;obtain⟨x,b,rfl⟩:=a;have d:=List.find?_some b;have c:=Qbe b;have e:=(Qw.1 h) x c;have:x.1=t:=by simpa using d
 exact this▸e
def isAggD:TypeDesc->Bool
 | .struct _| .array _ _=>true
 |_=>false
def TD.Zp0{r:Zp}{d:TypeDesc}(h:r.td.fits d=true):isAggD d=r.isAgg:=by
 obtain⟨a,s,b,z⟩:=r;cases a<;>cases d<;>first|rfl|(simp[TD.fits]at h;done)
section runs
variable {P:Program}
def JW{t:TypeId}{r:Zp}{d:TypeDesc}{i:TypeInfo}{z:Value}(h:VP P t r d i z)(w:World):(isAgg t).run P w= .ok r.isAgg w:=by
 rw[<-TD.Zp0 h.fits];unfold isAgg;rw[Sem.run_bind,run_underlying h.und,Result.andThen_ok];cases d<;>rfl
def ZA{t:TypeId}{r:Zp}{d:TypeDesc}{i:TypeInfo}{z:Value}(h:VP P t r d i z)(w:World):(sizeOf t).run P w= .ok r.size w:=by
 simp[sizeOf,typeInfo,h.info,h.size]
def Yg{t:TypeId}{r:Zp}{d:TypeDesc}{i:TypeInfo}{z:Value}(h:VP P t r d i z)(w:World):(zeroValue t).run P w= .ok z w:=by
 simp[zeroValue,typeInfo,h.info,h.zero]
end runs
section
variable {w:World} {E:Env} {H:Za} {m:Nat}
def Zo.grow{w':World}{F':Nat->Nat->Option Value}(h:Zo m H E w)(os:w'.os=w.os)(tape:w'.tape=w.tape)(output:w'.output=w.output)
  (drawn:E.qd=true->w.drawn<=w'.drawn) (size:w.heap.size<=w'.heap.size) (hb:∀b,b<w.heap.size->w'.heap[b]? =w.heap[b]?) (p:∀b o v,E.F b o=some v->F' b o=some v)
  (j:∀b o v,F' b o=some v->w'.cell? ⟨b,o,none⟩=some v) (c:∀b o,b<w.heap.size->F' b o=E.F b o):
  Zo m H {E with F:=F'} w'/\Ext m E w {E with F:=F'} w':=by
 have f:E.le m {E with F:=F'}:=⟨p,fun _ _ _ _ h=>h,fun _ _ _ _ _ h=>h,rfl⟩
 have e:∀l k b,E.m l k=some b->b<w.heap.size:=fun l k b hm=>h.lt b (.inl ⟨l,k,hm⟩)
 have d:∀l k b,E.g l k=some b->b<w.heap.size:=fun l k b hm=>h.lt b (.inr ⟨l,k,hm⟩)
 refine⟨{norm:=⟨h.norm.m,h.norm.g,h.norm.hist⟩,F:=j,blk:=?_,dom:=h.dom,nobuf:=h.nobuf,inj:=h.inj,injg:=h.injg,mg:=h.mg,mF:=?_,lt:=?_},⟨f,os,tape,output,drawn,size,fun b i _=>hb b i,fun b _ ho=>ho⟩⟩
 ·intro l k b hl n;exact(h.blk l k b hl n).keep rfl rfl (fun _=>rfl) (fun _ _ _ h=>h) (fun r hr=>hb r (hr.elim (e _ _ _) (d _ _ _))) (fun g o hg hf=>(c g o (d _ _ _ hg)).trans hf) (fun a _ v hv=>hv.mono h.norm f)
 ·intro l k b o hm;exact(c b o (e l k b hm)).trans (h.mF l k b o hm)
 ·intro b ho;exact Um (h.lt b ho) size
def Zo.ZbC(h:Zo m H E w){b o:Nat}{v:Value}(a:E.F b o=some v):b<w.heap.size:=
 World.block_lt_of_cell? w _ (h.F b o v a)
def Env.addRow(E:Env)(b:Nat)(c:Array Value):Env:={E with F:=fun a o=>if a=b then c[o]? else E.F a o}
def Zo.newRow{w1:World}(h:Zo m H E w)(vs:Array Value)(e:TypeId)(os:w1.os=w.os)(tape:w1.tape=w.tape)(output:w1.output=w.output)
  (drawn:E.qd=true->w.drawn<=w1.drawn) (a:w1.heap=w.heap):
  Zo m H (E.addRow w.heap.size vs) (w1.alloc (.cells vs e))/\Ext m E w (E.addRow w.heap.size vs) (w1.alloc (.cells vs e)):=by
 refine h.grow os tape output drawn (by simp[World.alloc,a]) ?_ ?_ ?_ ?_
 ·intro b hb;simp only[World.alloc,a,MB];rw[if_neg om]
 ·intro b o v hf;have:=h.ZbC hf;rw[if_neg om];exact hf
 ·intro b o v hf;split at hf
  ·rename_i c;subst c;simp only[World.cell?,World.alloc,a,MB];simpa using hf
  ·have:=h.ZbC hf;have hc:=h.F b o v hf;simp only[World.cell?,World.alloc,a,MB]at hc⊢;rw[if_neg om];exact hc
 ·intro b o hb;rw[if_neg om]
def Z5(P:Program)(m:Nat)(o:Oper)(ρ:Operand->AV)(H:Za)(v:AV)(e:Za):Prop:=
 ∀E w (a:Act),Zo m H E w->(∀x∈o.op.operands,VR E (ρ x) (a.eval x))->
  ∃c d b,((execOp a.eval o).run P w= .ok (.value c) b\/((execOp a.eval o).run P w= .ok .skip b/\c=undef))/\VR d v c/\Zo m e d b/\Ext m E w d b
variable {o:Oper} {ro:Option Nat}
theorem ZqL{ρ:Operand->Value}(h:∀c,o.op≠ .defer c):o.semAt ro ρ=execOp ρ o:=by
 cases ro with
 |none=>rfl
 |some l=>unfold Oper.semAt;split<;>first|rfl|(rename_i a;exact absurd a (h _))
def ZoP{P:Program}{o:Oper}{ρ:Operand->Value}{w b:World}{x:Next}(h:(execOp ρ o).run P w= .ok x b)(f:∀d,x≠ .defer d):∀c,o.op≠ .defer c:=fun c e=>by
 simp only[execOp,e,Sem.run_bind]at h;cases a:(resolve ρ c o.type).run P w with
 |ok d w2=>rw[a]at h;simp only[Result.andThen,Sem.run_pure,Result.ok.injEq]at h;exact f _ h.1.symm
 |halt u w2=>rw[a]at h;cases h
variable {P:Program}
def Y8{a:Act}{c:World}{K:Act->World->Prop}{Q:Exit->Act->World->Prop}{x:Next}(b:(execOp a.eval o).run P w= .ok x c)(e:∀d,x≠ .defer d)
  (h:o.uponIn (fr ro) 0 P a K Q (.ok x c)):o.wpIn (fr ro) 0 P a w K Q:=
 ⟨fun _ _=>trivial,by rw[ZqL (ZoP b e),b];exact h⟩
variable {v:AV} {ρ:Operand->AV}
def Z5.sem{j:Za}(h:Z5 P m o ρ H v j):Xh P m o ρ H v j:=by
 intro E w a Q K n l c ro;obtain⟨p,d,f,b,g,i,k⟩:=h E w a n l;rcases b with b|⟨b,rfl⟩
 ·exact Y8 b (fun _ e=>by cases e) (c d f p g i k)
 ·exact Y8 b (fun _ e=>by cases e) (c d f undef g i k)
def YQ(P:Program)(o:Oper)(ρ:Operand->AV)(v:AV):Prop:=
 ∀E (a:Act),(∀x∈o.op.operands,VR E (ρ x) (a.eval x))-> ∃b,(∀w,(execOp a.eval o).run P w= .ok (.value b) w)/\VR E v b
def YQ.run(h:YQ P o ρ v)(m:Nat)(H:Za):Z5 P m o ρ H v H:=by
 intro E w a d b;obtain⟨f,e,c⟩:=h E a b;exact⟨f,E,w,.inl (e w),c,d,.refl m E w⟩
def Zhb(T:TT)(a:TypeId)(v:AV):AV:=
 match v with
 | .sl k [] o=>match T a with
  |some r=>match r.td with
   | .slice e=>match T e with
    |some q=>.sl q.size [] o
    |none=>.sl k [] o
   |_=>.sl k [] o
  |none=>.sl k [] o
 |v=>v
def ZaQ{k d:Nat}{o:Own}{v:Value}(h:VR E (.sl k [] o) v):VR E (.sl d [] o) v:=by
 cases h with
 |slnil _ _ a ho ha=>exact .slnil d o a ho ha
 |sl _ _ _ b off cap c hk hc hv hcap hm ho=>exact .sl d [] o b off cap c (fun i h=>absurd h (Qj _)) (fun i j h=>absurd h (Qj _)) (fun i h=>absurd h (Qj _)) hcap hm ho
def Zpo{T:TT}{a:TypeId}{x:Value}(h:VR E v x):VR E (Zhb T a v) x:=by
 unfold Zhb;split
 ·split
  ·split
   ·split
    ·exact ZaQ h
    ·exact h
   ·exact h
  ·exact h
 ·exact h
def mv(T:TT)(a:TypeId)(x:Operand)(v:AV):AV:=
 match x with
 | .const _=>Zhb T a v
 |_=>v
def Zf4{T:TT}{a:TypeId}{x:Operand}{y:Value}(h:VR E v y):VR E (mv T a x v) y:=by
 unfold mv;split
 ·exact Zpo h
 ·exact h
section ops
variable {P:Program} {T:TT} {o:Oper} {ρ:Operand->AV}
def Zsf{x:Operand}(ho:o.op= .move x):YQ P o ρ (mv T o.type x (ρ x)):=fun E a h=>
 ⟨a.eval x,fun w=>by simp[execOp,ho],Zf4 (h x sO)⟩
def ZoW{x:Operand}(ho:o.op= .assign x):YQ P o ρ (mv T o.type x (ρ x)):=fun E a h=>
 ⟨a.eval x,fun w=>by simp[execOp,ho],Zf4 (h x sO)⟩
def ZnK{c x y:Operand}{t:Bool}(ho:o.op= .pick c x y)(hc:ρ c= .bool t):YQ P o ρ (if t then mv T o.type x (ρ x)else mv T o.type y (ρ y)):=fun E a h=>by
 have b:=h c sO;rw[hc]at b;cases hb:a.eval c<;>rw[hb]at b<;>cases b;refine⟨if t then a.eval x else a.eval y,fun w=>by simp[execOp,ho,hb,asBool],?_⟩;cases t
 ·exact Zf4 (h y sO)
 ·exact Zf4 (h x sO)
theorem V5{x:Operand}{v:AV}(ho:o.op= .nilCheck x)(hv:ρ x=v)(hk:(match v with| .ptr ..=>true| .iptr _=>true| .eptr ..=>true| .fn (.func _) _=>true| .fn (.yield _) _=>true|_=>false)=true):YQ P o ρ v:=fun E a h=>by
 have h1:=h x sO;rw[hv]at h1;refine⟨a.eval x,fun w=>?_,h1⟩;have hex:execOp a.eval o=match a.eval x with
  | .pointer none| .nilIface| .nilFunc=>runtimePanic .nilDeref
  | .func (.method name) first captured=>
   match (first[0]?:Option Value)with
   |some .nilIface=>runtimePanic .nilDeref
   |some (.iface t w)=>do
    if(<-nilAhead ((<-program).types.size+Made.depth) t w name) !=some false then
     unsupported (.noEntry "op/nilCheck.the method's receiver behind this interface value is a nil pointer, or cannot be seen to be none, and the arguments act or may panic (ledger 612)")
    pure (.value (.func (.method name) first captured))
   |_=>pure (.value (.func (.method name) first captured))
  |x=>pure (.value x):=by simp only[execOp,ho];rfl
 rw[hex];clear hex;generalize a.eval x=y at*;cases h1 with
 |ptr l k off b hm=>rfl
 |iptr cs b off c hc hv=>rfl
 |eptr l k n off g cap hh=>rfl
 |fn f caps vs hl hvs=>cases f<;>first|rfl|(simp at hk;done)
 |_=>simp at hk
def ZC(b a n:Nat):(⟨b,a,none⟩:Addr).add n=⟨b,a+n,none⟩:=by
 unfold Addr.add;split
 ·rename_i h;subst h;rfl
 ·rfl
def ZeK{t:TypeId}{x:Operand}{f:Nat}{r s:Zp}{G:List (Nat×TypeId)}{n m l k j:Nat}(B:TOK P T)(ho:o.op= .fieldAddr t x f)(K:T t=some r)(H:r.td= .struct G)
  (M:G[f]? =some (n,m)) (J:T m=some s) (L:s.size≠0) (O:ρ x= .ptr l k j):YQ P o ρ (.ptr l k (j+n)):=fun E a h=>by
 have A:=h x sO;rw[O]at A;obtain⟨d,i,z,D⟩:=Zd (B t r K);obtain⟨R,S,Q,u⟩:=Zd (B m s J);have c:=D.fits;rw[H]at c;cases d<;>try(simp[TD.fits]at c;done)
 rename_i C;simp only[TD.fits,Qb,beq_iff_eq]at c;have I:∃g,C[f]? =some g/\g.offset=n/\g.type=m:=by
  have e:=M;rw[<-c.1,Ub]at e;cases q:C.toList[f]? with
  |none=>simp[q]at e
  |some g=>rw[q]at e;simp at e;exact⟨g,by rw[<-Array.getElem?_toList];exact q,e.1,e.2⟩
 obtain⟨g,v,y,p⟩:=I;cases F:a.eval x<;>rw[F]at A<;>cases A;rename_i b N;refine⟨.pointer (some ⟨b,j+n,none⟩),fun w=>?_,.ptr l k _ b N⟩;simp[execOp,ho,F,Instr.fieldAt,run_underlying D.und,v,Instr.sureAddr,fieldPlace,p,ZA u,L,ZC,y]
def Zd1{t:TypeId}{x:Operand}{f:Nat}{r q:Zp}{I:List (Nat×TypeId)}{l m:Nat}{F:LA}(D:TOK P T)(ho:o.op= .fieldAddr t x f)(M:T t=some r)(J:r.td= .struct I)
  (Q:I[f]? =some (l,m)) (L:T m=some q) (N:q.size≠0) (B:ρ x= .iptr F):YQ P o ρ (.iptr (F.drop l)):=fun E a h=>by
 have A:=h x sO;rw[B]at A;obtain⟨d,i,z,H⟩:=Zd (D t r M);obtain⟨S,U,R,s⟩:=Zd (D m q L);have e:=H.fits;rw[J]at e;cases d<;>try(simp[TD.fits]at e;done)
 rename_i G;simp only[TD.fits,Qb,beq_iff_eq]at e;have K:∃g,G[f]? =some g/\g.offset=l/\g.type=m:=by
  have k:=Q;rw[<-e.1,Ub]at k;cases p:G.toList[f]? with
  |none=>simp[p]at k
  |some g=>rw[p]at k;simp at k;exact⟨g,by rw[<-Array.getElem?_toList];exact p,k.1,k.2⟩
 obtain⟨g,u,v,n⟩:=K;generalize O:a.eval x=y at A;cases A with|iptr _ b off c hc B=>
 refine⟨.pointer (some ⟨b,off+l,none⟩),fun w=>?_,?_⟩
 ·simp[execOp,ho,O,Instr.fieldAt,run_underlying H.und,u,Instr.sureAddr,fieldPlace,n,ZA s,N,ZC,v]
 ·refine .iptr _ b (off+l) (fun j=>c (l+j)) (fun j C=>?_) (fun j C=>?_)
  ·rw[QL]at C;rw[MS];exact hc (l+j) om
  ·rw[QL]at C;have:=B (l+j) om;simpa using this
def ZE{d:TypeDesc}{e:TypeId}(h:(TD.slice e).fits d=true):d= .slice e:=by
 cases d<;>simp[TD.fits]at h;subst h;rfl
def Zfw{t:TypeId}{x q:Operand}{r p:Zp}{e:TypeId}{k:Nat}{l:LA}{N:Own}{I:IntKind}{i:Int}(B:TOK P T)(ho:o.op= .indexAddr t x q)
  (J:T t=some r) (F:r.td= .slice e) (M:T e=some p) (H:k=p.size) (Q:ρ x= .sl k l N) (O:ρ q= .int I i) (v:0<=i) (n:i<l.length):
  YQ P o ρ (.iptr (l.getD i.toNat .dead).cells):=fun E a h=>by
 have u:=h x sO;have g:=h q sO;rw[Q]at u;rw[O]at g;obtain⟨d,K,z,C⟩:=Zd (B t r J);obtain⟨S,U,R,s⟩:=Zd (B e p M);have D:=ZE (F▸C.fits);subst D;cases m:a.eval q<;>rw[m]at g<;>cases g;have f:i.toNat<l.length:=om;have G:l.getD i.toNat .dead=l[i.toNat]:=by simp[Qk,Qe f]
 generalize L:a.eval x=y at u;cases u with
 |slnil _ _ _ ho' _=>simp at n;omega
 |sl _ _ _ b off cap c hkk hc hvv hcap hm how=>
  refine⟨.pointer (some ⟨b,off+i.toNat*p.size,none⟩),fun w=>?_,?_⟩
  ·simp[execOp,ho,L,m,Instr.indexAt,asIntOf,run_underlying C.und,v,n,ZA s,ZC]
  ·rw[G];refine .iptr _ b _ (fun j=>c i.toNat j) (fun j A=>?_) (fun j A=>hvv i.toNat f j A);have:=hc i.toNat j f (by rw[<-hkk i.toNat f];exact A);rw[<-H,MS];exact this
def Zo0{t:TypeId}{x:Operand}{r:Zp}{e:TypeId}{k:Nat}{g:LA}{q:Own}(m:TOK P T)(ho:o.op= .call {callee:=.builtin .len,args:=#[x],argTypes:=#[t]})
  (n:T t=some r) (l:r.td= .slice e) (j:ρ x= .sl k g q):YQ P o ρ (.int .i64 g.length):=fun E a h=>by
 have f:=h x sC;rw[j]at f;obtain⟨d,p,z,b⟩:=Zd (m t r n);have i:=ZE (l▸b.fits);subst i;cases c:a.eval x<;>rw[c]at f<;>cases f
 ·exact⟨_,fun w=>by simp[execOp,ho,c,resolve,invoke,builtin,Builtin.len_,run_underlying b.und,goInt],.int _ _⟩
 ·exact⟨_,fun w=>by simp[execOp,ho,c,resolve,invoke,builtin,Builtin.len_,run_underlying b.und,goInt],.int _ _⟩
def V7{d:TypeDesc}(h:TD.str.fits d=true):d= .string:=by
 cases d<;>simp[TD.fits]at h;rfl
def Zmx{t:TypeId}{x:Operand}{r:Zp}{s:Bs}(k:TOK P T)(ho:o.op= .call {callee:=.builtin .len,args:=#[x],argTypes:=#[t]})
  (l:T t=some r) (j:r.td= .str) (i:ρ x= .str s):YQ P o ρ (.int .i64 s.length):=fun E a h=>by
 have b:=h x sC;rw[i]at b;obtain⟨d,m,z,e⟩:=Zd (k t r l);have g:=V7 (j▸e.fits);subst g;cases f:a.eval x<;>rw[f]at b<;>cases b;have c:(⟨s.toArray⟩:ByteArray).size=s.length:=by show s.toArray.size=s.length;simp
 exact⟨.int .i64 s.length,fun w=>by simp[execOp,ho,f,resolve,invoke,builtin,Builtin.len_,run_underlying e.und,goInt,c],.int _ _⟩
def Zjk{t:TypeId}{x g:Operand}{r:Zp}{s:Bs}{p:IntKind}{i:Int}(v:TOK P T)(ho:o.op= .index t x g)
  (y:T t=some r) (u:r.td= .str) (q:ρ x= .str s) (C:ρ g= .int p i) (j:0<=i) (B:i<s.length):YQ P o ρ (.int .u8 (s.getD i.toNat 0).toNat):=fun E a h=>by
 have k:=h x sO;have b:=h g sO;rw[q]at k;rw[C]at b;obtain⟨d,A,z,l⟩:=Zd (v t r y);have n:=V7 (u▸l.fits);subst n;have c:i.toNat<s.length:=om;cases e:a.eval g<;>rw[e]at b<;>cases b;cases m:a.eval x<;>rw[m]at k<;>cases k;refine⟨.int .u8 (s.getD i.toNat 0).toNat,fun w=>?_,.int _ _⟩;have f:(⟨s.toArray⟩:ByteArray)[i.toNat]? =some s[i.toNat]:=by
  rw[getElem?_pos (⟨s.toArray⟩:ByteArray) i.toNat (by show i.toNat<s.toArray.size;simpa using c)];rfl
 simp[execOp,ho,m,e,Instr.index,asIntOf,run_underlying l.und,j,f,Qk,Qe c]
def Zmv{x:Operand}{i:Nat}{b:LA}(ho:o.op= .extract x i)(e:ρ x= .tup b)(d:i<b.length):YQ P o ρ (b.getD i .dead):=fun E a h=>by
 have c:=h x sO;rw[e]at c;generalize f:a.eval x=y at c;cases c with|tup _ us hl hvs=>
 refine⟨us[i]'om,fun w=>?_,?_⟩
 ·simp[execOp,ho,f,Instr.extract,Qe (show i<us.length by omega)]
 ·have:=hvs i d om;simpa[Qk,Qe d]using this
def ZtH{x:Operand}{t:TypeId}{b:Bool}(ho:o.op= .unOp .not t x)(e:ρ x= .bool b):YQ P o ρ (.bool (!b)):=fun E a h=>by
 have c:=h x sO;rw[e]at c;cases d:a.eval x<;>rw[d]at c<;>cases c;exact⟨.bool (!b),fun w=>by simp[execOp,ho,d,Op.unary],.bool _⟩
def ZtG{x:Operand}{t:TypeId}{k:IntKind}{n:Int}(ho:o.op= .unOp .neg t x)(d:ρ x= .int k n):YQ P o ρ (.int k (k.wrap (0 - n))):=fun E a h=>by
 have b:=h x sO;rw[d]at b;cases c:a.eval x<;>rw[c]at b<;>cases b;exact⟨.int k (k.wrap (0 - n)),fun w=>by simp[execOp,ho,c,Op.unary,Op.intArith],.int _ _⟩
def ZaE{d:TypeDesc}{k:IntKind}(h:(TD.int k).fits d=true):d= .int k:=by
 cases d<;>simp[TD.fits]at h;subst h;rfl
def Zg2{c b:TypeId}{x:Operand}{f r:Zp}{v k B:IntKind}{n:Int}(l:TOK P T)(ho:o.op= .convert c b x)(u:T c=some f)(j:f.td= .int v)(y:T b=some r)(t:r.td= .int k)(C:ρ x= .int B n):
  YQ P o ρ (.int k (k.wrap n)):=fun E a h=>by
 have g:=h x sO;rw[C]at g;obtain⟨d,A,z,m⟩:=Zd (l b r y);have s:=ZaE (t▸m.fits);subst s;obtain⟨D,q,F,e⟩:=Zd (l c f u);have i:=ZaE (j▸e.fits);subst i;cases p:a.eval x<;>rw[p]at g<;>cases g;exact⟨.int k (k.wrap n),fun w=>by simp[execOp,ho,p,convert,run_underlying m.und,run_underlying e.und,Conv.intToInt],.int _ _⟩
def Zg3{c b:TypeId}{x:Operand}{f r:Zp}{s:Bs}(k:TOK P T)(ho:o.op= .convert c b x)(t:T c=some f)(j:f.td= .str)(u:T b=some r)(q:r.td= .str)(y:ρ x= .str s):
  YQ P o ρ (.str s):=fun E a h=>by
 have g:=h x sO;rw[y]at g;obtain⟨d,v,z,l⟩:=Zd (k b r u);have p:=V7 (q▸l.fits);subst p;obtain⟨A,n,B,e⟩:=Zd (k c f t);have i:=V7 (j▸e.fits);subst i;cases m:a.eval x<;>rw[m]at g<;>cases g;exact⟨.string ⟨s.toArray⟩,fun w=>by simp[execOp,ho,m,convert,run_underlying l.und,run_underlying e.und],.str _⟩
def ZkV{f:Fn}{b:Array Operand}(c:o.op= .makeFunc f #[] b):YQ P o ρ (.fn f (b.toList.map ρ)):=fun E a h=>by
 refine⟨.func f #[] (b.toList.map a.eval).toArray,fun w=>?_,?_⟩
 ·have:execOp a.eval o=(do let v<-Instr.makeFunc f (#[].map a.eval) (b.map a.eval);pure (Next.value v)):=by simp only[execOp,c]
  rw[this];simp[Instr.makeFunc];rw[<-Array.toList_map]
 ·refine .fn f (b.toList.map ρ) (b.toList.map a.eval) (by rw[Qv,Qv]) (fun i e g=>?_);rw[QZ,QZ];have d:b.toList[i]'(by simpa using e)∈o.op.operands:=by
   rw[c];simp only[Op.operands];simp
  exact h _ d
def Zjl{f:Fn}{b:Array Operand}(c:o.op= .makeFunc f b #[]):YQ P o ρ (.bfn f (b.toList.map ρ)):=fun E a h=>by
 refine⟨.func f (b.toList.map a.eval).toArray #[],fun w=>?_,?_⟩
 ·have:execOp a.eval o=(do let v<-Instr.makeFunc f (b.map a.eval) (#[].map a.eval);pure (Next.value v)):=by simp only[execOp,c]
  rw[this];simp[Instr.makeFunc];rw[<-Array.toList_map]
 ·refine .bfn f (b.toList.map ρ) (b.toList.map a.eval) (by rw[Qv,Qv]) (fun i e g=>?_);rw[QZ,QZ];have d:b.toList[i]'(by simpa using e)∈o.op.operands:=by
   rw[c];simp only[Op.operands];simp
  exact h _ d
end ops
end
def Zkk(a:BinOp)(k:IntKind)(x y:Int):Option AV:=
 match a with
 | .add=>some (.int k (k.wrap (x+y)))
 | .sub=>some (.int k (k.wrap (x - y)))
 | .mul=>some (.int k (k.wrap (x*y)))
 | .eql=>some (.bool (x==y))
 | .neq=>some (.bool (x !=y))
 | .lss=>some (.bool (decide (x<y)))
 | .leq=>some (.bool (decide (x<=y)))
 | .gtr=>some (.bool (decide (x>y)))
 | .geq=>some (.bool (decide (x ≥ y)))
 |_=>none
def Zli(a:BinOp)(x y:Bs):Option AV:=
 match a with
 | .eql=>some (.bool (x==y))
 | .neq=>some (.bool (!(x==y)))
 | .lss=>some (.bool (Op.bytesLess x y))
 | .leq=>some (.bool (Op.bytesLess x y||x==y))
 | .gtr=>some (.bool (!(Op.bytesLess x y||x==y)))
 | .geq=>some (.bool (!(Op.bytesLess x y)))
 |_=>none
section ops
variable {P:Program} {T:TT} {o:Oper} {ρ:Operand->AV}
def guardy:Value->Value->Bool
 | .nilIface,.nilIface=>true
 | .agg _,.agg _=>true
 |_,_=>false
def ZiJ{op:BinOp}{t:TypeId}{x y:Operand}{a b:Value}(w:World)(h:guardy a b=false):
  (eqGuard op t x y a b).run P w= .ok () w:=by
 unfold eqGuard;cases op<;>simp only[]<;>first|rfl|(cases a<;>cases b<;>first|rfl|(cases h;done))
def Yr{b:BinOp}{t g:TypeId}{x y:Operand}{a:Act}{u v r:Value}(c:o.op= .binOp b t x y g)(i:a.eval x=u)(e:a.eval y=v)
  (h:guardy u v=false) (f:∀w,(binOp b t u v).run P w= .ok r w) (w:World):
  (execOp a.eval o).run P w= .ok (.value r) w:=by
 have d:execOp a.eval o=(do let v<-(do eqGuard b t x y (a.eval x) (a.eval y);binOp b t (a.eval x) (a.eval y));pure (Next.value v)):=by simp only[execOp,c]
 rw[d,i,e];simp only[Sem.run_bind,ZiJ (P:=P) w h,Result.andThen_ok,f w,Sem.run_pure]
def Zms{d:BinOp}{t j:TypeId}{x y:Operand}{k:IntKind}{m n:Int}{v:AV}(ho:o.op= .binOp d t x y j)(l:ρ x= .int k m)(i:ρ y= .int k n)(g:Zkk d k m n=some v):YQ P o ρ v:=fun E a h=>by
 have f:=h x sO;have e:=h y sO;rw[l]at f;rw[i]at e;cases b:a.eval x<;>rw[b]at f<;>cases f;cases c:a.eval y<;>rw[c]at e<;>cases e;cases d<;>simp only[Zkk,Qp,reduceCtorEq]at g<;>subst g
 ·exact⟨.int k (k.wrap (m+n)),Yr ho b c rfl (fun w=>by simp[binOp,Op.intArith]),.int _ _⟩
 ·exact⟨.int k (k.wrap (m - n)),Yr ho b c rfl (fun w=>by simp[binOp,Op.intArith]),.int _ _⟩
 ·exact⟨.int k (k.wrap (m*n)),Yr ho b c rfl (fun w=>by simp[binOp,Op.intArith]),.int _ _⟩
 ·exact⟨.bool (m==n),Yr ho b c rfl (fun w=>by simp[binOp,Op.intCmp]),.bool _⟩
 ·exact⟨.bool (m !=n),Yr ho b c rfl (fun w=>by simp[binOp,Op.intCmp]),.bool _⟩
 ·exact⟨.bool (decide (m<n)),Yr ho b c rfl (fun w=>by simp[binOp,Op.intCmp]),.bool _⟩
 ·exact⟨.bool (decide (m<=n)),Yr ho b c rfl (fun w=>by simp[binOp,Op.intCmp]),.bool _⟩
 ·exact⟨.bool (decide (m>n)),Yr ho b c rfl (fun w=>by simp[binOp,Op.intCmp]),.bool _⟩
 ·exact⟨.bool (decide (m ≥ n)),Yr ho b c rfl (fun w=>by simp[binOp,Op.intCmp]),.bool _⟩
def ZtF{b:BinOp}{t j:TypeId}{x y:Operand}{k:IntKind}{m n:Int}(ho:o.op= .binOp b t x y j)(p:ρ x= .int k m)(i:ρ y= .int k n)(e:b= .quo)(l:n≠0):YQ P o ρ (.int k (k.wrap (m.tdiv n))):=fun E a h=>by
 have d:=h x sO;have c:=h y sO;rw[p]at d;rw[i]at c;cases f:a.eval x<;>rw[f]at d<;>cases d;cases g:a.eval y<;>rw[g]at c<;>cases c;subst e;exact⟨.int k (k.wrap (m.tdiv n)),Yr ho f g rfl (fun w=>by simp[binOp,Op.intDiv,l]),.int _ _⟩
def ZtI{b:BinOp}{t j:TypeId}{x y:Operand}{k:IntKind}{m n:Int}(ho:o.op= .binOp b t x y j)(p:ρ x= .int k m)(i:ρ y= .int k n)(e:b= .rem)(l:n≠0):YQ P o ρ (.int k (m.tmod n)):=fun E a h=>by
 have d:=h x sO;have c:=h y sO;rw[p]at d;rw[i]at c;cases f:a.eval x<;>rw[f]at d<;>cases d;cases g:a.eval y<;>rw[g]at c<;>cases c;subst e;exact⟨.int k (m.tmod n),Yr ho f g rfl (fun w=>by simp[binOp,Op.intDiv,l]),.int _ _⟩
def ZtJ{b:BinOp}{t j:TypeId}{x y:Operand}{k l:IntKind}{m n:Int}(ho:o.op= .binOp b t x y j)(q:ρ x= .int k m)(i:ρ y= .int l n)(e:b= .shr)(p:0<=n):YQ P o ρ (.int k (m.fdiv (2^(min n.toNat k.bits)))):=fun E a h=>by
 have d:=h x sO;have c:=h y sO;rw[q]at d;rw[i]at c;cases f:a.eval x<;>rw[f]at d<;>cases d;cases g:a.eval y<;>rw[g]at c<;>cases c;subst e;exact⟨.int k (m.fdiv (2^(min n.toNat k.bits))),Yr ho f g rfl (fun w=>by simp[binOp,Op.shift,Int.not_lt.2 p]),.int _ _⟩
def Zmt{d:BinOp}{t j:TypeId}{x y:Operand}{m n:Bs}{v:AV}(ho:o.op= .binOp d t x y j)(k:ρ x= .str m)(i:ρ y= .str n)(g:Zli d m n=some v):YQ P o ρ v:=fun E a h=>by
 have f:=h x sO;have e:=h y sO;rw[k]at f;rw[i]at e;cases b:a.eval x<;>rw[b]at f<;>cases f;cases c:a.eval y<;>rw[c]at e<;>cases e;cases d<;>simp only[Zli,Qp,reduceCtorEq]at g<;>subst g
 ·exact⟨.bool (m==n),Yr ho b c rfl (fun w=>by simp only[binOp,Op.stringOp,ByteArray.toList_mk,Sem.run_pure]),.bool _⟩
 ·exact⟨.bool (!(m==n)),Yr ho b c rfl (fun w=>by simp only[binOp,Op.stringOp,ByteArray.toList_mk,Sem.run_pure]),.bool _⟩
 ·exact⟨.bool (Op.bytesLess m n),Yr ho b c rfl (fun w=>by simp only[binOp,Op.stringOp,ByteArray.toList_mk,Sem.run_pure]),.bool _⟩
 ·exact⟨.bool (Op.bytesLess m n||m==n),Yr ho b c rfl (fun w=>by simp only[binOp,Op.stringOp,ByteArray.toList_mk,Sem.run_pure]),.bool _⟩
 ·exact⟨.bool (!(Op.bytesLess m n||m==n)),Yr ho b c rfl (fun w=>by simp only[binOp,Op.stringOp,ByteArray.toList_mk,Sem.run_pure]),.bool _⟩
 ·exact⟨.bool (!(Op.bytesLess m n)),Yr ho b c rfl (fun w=>by simp only[binOp,Op.stringOp,ByteArray.toList_mk,Sem.run_pure]),.bool _⟩
def ZoX{c:BinOp}{t q:TypeId}{x y:Operand}{m n:Bs}(ho:o.op= .binOp c t x y q)(s:ρ x= .str m)(p:ρ y= .str n)(j:c= .add)(u:m.length+n.length<=9223372036854775807):YQ P o ρ (.str (m++n)):=fun E a h=>by
 have f:=h x sO;have e:=h y sO;rw[s]at f;rw[p]at e;cases k:a.eval x<;>rw[k]at f<;>cases f;cases l:a.eval y<;>rw[l]at e<;>cases e;subst j;refine⟨.string ⟨(m++n).toArray⟩,Yr ho k l rfl (fun w=>?_),.str _⟩;have d:(⟨m.toArray⟩:ByteArray).size=m.length:=by show m.toArray.size=_;simp
 have i:(⟨n.toArray⟩:ByteArray).size=n.length:=by show n.toArray.size=_;simp
 have g:IntKind.i64.max=9223372036854775807:=dc;have r:¬(((⟨m.toArray⟩:ByteArray).size+(⟨n.toArray⟩:ByteArray).size:Nat):Int)>IntKind.i64.max:=by rw[d,i,g];omega
 have b:(⟨m.toArray⟩:ByteArray)++⟨n.toArray⟩=⟨(m++n).toArray⟩:=by
  apply ByteArray.ext;rw[ByteArray.data_append];simp
 simp only[binOp,Op.stringOp,if_neg r,b,Sem.run_pure]
def Zoi{d:TypeDesc}(h:TD.bool.fits d=true):d= .bool:=by
 cases d<;>simp[TD.fits]at h;rfl
def ZiK(d:Nat){t:TypeId}{m n:Bool}(a:P.underlying t=some .bool)(w:World):(Op.equalIn (d+1) t (.bool m) (.bool n)).run P w= .ok (m==n) w:=by
 simp[Op.equalIn,run_underlying a]
def ZkU{b:BinOp}{t v:TypeId}{x y:Operand}{r:Zp}{m n:Bool}(s:TOK P T)(ho:o.op= .binOp b t x y v)(u:T t=some r)(p:r.td= .bool)(B:ρ x= .bool m)(q:ρ y= .bool n)
  (i:b= .eql\/b= .neq):YQ P o ρ (.bool (if b= .eql then m==n else !(m==n))):=fun E a h=>by
 have c:=h x sO;have e:=h y sO;obtain⟨d,A,z,j⟩:=Zd (s t r u);have l:=Zoi (p▸j.fits);subst l;rw[B]at c;rw[q]at e;cases f:a.eval x<;>rw[f]at c<;>cases c;cases g:a.eval y<;>rw[g]at e<;>cases e;have k:∀w,(Op.equal t (.bool m) (.bool n)).run P w= .ok (m==n) w:=fun w=>ZiK 9999 j.und w
 rcases i with rfl|rfl
 ·exact⟨.bool (m==n),Yr ho f g rfl (fun w=>by simp[binOp,k w]),.bool _⟩
 ·exact⟨.bool (!(m==n)),Yr ho f g rfl (fun w=>by simp[binOp,k w]),.bool _⟩
inductive NilK:TD->AV->AV->Bool->Prop
 |pp:NilK .ptr .nilp .nilp true
 |pq (l k o:Nat):NilK .ptr (.ptr l k o) .nilp false
 |pi (cs:LA):NilK .ptr (.iptr cs) .nilp false
 |ff:NilK .func .nilf .nilf true
 |fg (f:Fn) (c:LA):NilK .func (.fn f c) .nilf false
 |mm (k e:Nat):NilK (.map k e) .nilm .nilm true
 |mn (k e l i:Nat):NilK (.map k e) (.map l i) .nilm false
 |ss (e:Nat):NilK (.slice e) .Xd .Xd true
 |sx (e k:Nat):NilK (.slice e) (.sln k) .Xd false
 |sn (e k:Nat) (x:AV) (xs:LA) (o:Own):NilK (.slice e) (.sl k (x::xs) o) .Xd false
 |sm (e sz l k n:Nat):NilK (.slice e) (.msl sz l k (n+1)) .Xd false
def Zj3(n:Nat){t:TypeId}{d:TypeDesc}{c:TD}{E:Env}{u v:AV}{b:Bool}{p q:Value}(e:P.underlying t=some d)(a:c.fits d=true)(f:VR E u p)(h:VR E v q)
  (g:NilK c u v b) (w:World):(Op.equalIn (n+1) t p q).run P w= .ok b w:=by
 cases g<;>cases f<;>cases h<;>cases d<;>(try(cases a;done))<;>simp[Op.equalIn,run_underlying e]
def JE{t:TypeId}{d:TypeDesc}{td:TD}{E:Env}{u v:AV}{b:Bool}{p q:Value}{op:BinOp}(hd:P.underlying t=some d)(a:td.fits d=true)(e:VR E u p)(f:VR E v q)
  (hk:NilK td u v b) (c:op= .eql\/op= .neq):(∀w,(binOp op t p q).run P w= .ok (.bool (if op= .eql then b else !b)) w)/\guardy p q=false:=by
 have he:∀w,(Op.equal t p q).run P w= .ok b w:=fun w=>Zj3 9999 hd a e f hk w
 cases hk<;>cases e<;>cases f<;>refine⟨fun w=>?_,rfl⟩<;>rcases c with rfl|rfl<;>first|(simp[binOp,he w];done)|(have h:=he w;simp only[Qm]at h;simp[binOp,h])
def ZoZ{c:BinOp}{t p:TypeId}{x y:Operand}{r:Zp}{u v:AV}{b:Bool}(m:TOK P T)(ho:o.op= .binOp c t x y p)(n:T t=some r)(w:ρ x=u)(k:ρ y=v)
  (j:NilK r.td u v b) (e:c= .eql\/c= .neq):YQ P o ρ (.bool (if c= .eql then b else !b)):=fun E a h=>by
 have f:=h x sO;have i:=h y sO;obtain⟨d,s,z,g⟩:=Zd (m t r n);rw[w]at f;rw[k]at i;obtain⟨q,l⟩:=JE (P:=P) g.und g.fits f i j e;exact⟨_,Yr ho rfl rfl l q,.bool _⟩
end ops
def flat(xs:LA):LA:=xs.flatMap AV.cells
theorem flat_nil:flat []=[]:=rfl
def Yc(x:AV)(xs:LA):flat (x::xs)=x.cells++flat xs:=by simp[flat]
def YJ(xs a:LA):flat (xs++a)=flat xs++flat a:=by simp[flat]
def flat_length{k:Nat}:∀{xs:LA},(∀x∈xs,x.cells.length=k)->(flat xs).length=xs.length*k
 |[],_=>by simp[flat]
 |x::xs,h=>by
  rw[Yc,Qh,flat_length (fun y a=>h y (Qx _ a)),h x sm,Qm,G7,Nat.add_comm]
def flat_get{k:Nat}:∀{xs:LA},(∀x∈xs,x.cells.length=k)-> ∀i (h:i<xs.length) j,j<k->(flat xs)[i*k+j]? =xs[i].cells[j]?
 |x::xs,h,0,hi,j,hj=>by
  rw[Yc,Gp,Qy,UF (by rw[h x sm];exact hj)];rfl
 |x::xs,h,i+1,hi,j,hj=>by
  have a:=h x sm;rw[Yc,Gl (by rw[a,G7];omega),a];rw[show(i+1)*k+j - k=i*k+j by rw[G7];omega];exact flat_get (fun y b=>h y (Qx _ b)) i (by simpa using hi) j hj
section
variable {xs:LA}
def VR.Vl{E:Env}{k:Nat}{o:Own}{v:Value}(h:VR E (.sl k xs o) v):
  ((∃a,v= .slice a 0 0/\(o≠ .any->a=none))/\xs=[]/\Zam E 0 v 0 o)\/
  ∃b f d A,v= .slice (some ⟨b,f,none⟩) xs.length d/\(∀x∈xs,x.cells.length=k)/\VRs E (flat xs) A/\(∀j u,A[j]? =some u->E.F b (f+j)=some u)/\
   xs.length<=d/\xs.length<=maxLen/\Zam E xs.length v d o:=by
 cases h with
 |slnil _ _ a ho ha=>exact .inl ⟨⟨a,rfl,ha⟩,rfl,ho⟩
 |sl _ _ _ b f d c hk hc hv hcap hm ho=>
  have l:∀x∈xs,x.cells.length=k:=fun x C=>by
   obtain⟨i,p,rfl⟩:=QK C;exact hk i p
  have e:=flat_length l;refine .inr ⟨b,f,d,(List.range (xs.length*k)).map (fun q=>c (q / k) (q % k)),rfl,l,⟨by simp[e],fun q t D=>?_⟩,fun q u m=>?_,hcap,hm,ho⟩
  ·rw[e]at t;have n:0<k:=by
    rcases MW k with h0|h0
    ·subst h0;simp at t
    ·exact h0
   have p:q / k<xs.length:=Qan (by rwa [G6]at t);have B:q % k<k:=Qbw _ n;have m:q / k*k+q % k=q:=by rw[G6];exact Qbx q k
   have w:=flat_get l (q / k) p (q % k) B;rw[m]at w;have s:q % k<xs[q / k].cells.length:=by rw[hk (q / k) p];exact B
   rw[Qe s,Qe (by rw[e];exact t),Qp]at w;rw[w];simpa using hv (q / k) p (q % k) s
  ·rw[Ub]at m;cases y:(List.range (xs.length*k))[q]? with
   |none=>simp[y]at m
   |some q'=>
    rw[y]at m;obtain⟨g,r⟩:=Q7.1 y;simp only[MK]at r;subst r;simp only[GK]at g;simp only[Ut,Qp]at m;subst m;have n:0<k:=by
     rcases MW k with h0|h0
     ·subst h0;simp at g
     ·exact h0
    have p:q / k<xs.length:=Qan (by rwa [G6]at g);have z:q / k*k+q % k=q:=by rw[G6];exact Qbx q k
    have:=hc (q / k) (q % k) p (Qbw _ n)
    rwa [z]at this
def VR.Vm{E:Env}{k:Nat}{o:Own}{b off cap:Nat}{cs:List Value}(hk:∀x∈xs,x.cells.length=k)(hv:VRs E (flat xs) cs)
  (h:∀j u,cs[j]? =some u->E.F b (off+j)=some u) (hcap:xs.length<=cap) (hm:xs.length<=maxLen) (ho:Zam E xs.length (.slice (some ⟨b,off,none⟩) xs.length cap) cap o):
  VR E (.sl k xs o) (.slice (some ⟨b,off,none⟩) xs.length cap):=by
 have c:=flat_length hk;have key:∀i j (a:i<xs.length),j<k->i*k+j<xs.length*k:=fun i j a e=>by
  have:(i+1)*k<=xs.length*k:=QF k a;rw[G7]at this;omega
 refine .sl k xs o b off cap (fun i j=>cs.getD (i*k+j) undef) (fun i a=>hk _ (Qa a)) (fun i j a e=>?_) (fun i a j e=>?_) hcap hm ho
 ·have d:=key i j a e;have:cs[i*k+j]? =some (cs.getD (i*k+j) undef):=by
   rw[Qk,Qe (by rw[hv.1,c];exact d)];rfl
  exact h _ _ this
 ·rw[hk _ (Qa a)]at e;have d:=key i j a e;have f:i*k+j<(flat xs).length:=by rw[c];exact d
  have g:i*k+j<cs.length:=by rw[hv.1];exact f
  have hg:=flat_get hk i a j e;rw[Qe f,Qe (by rw[hk _ (Qa a)];exact e),Qp]at hg;have:=hv.2 _ f g;rw[hg]at this;simpa[Qk,Qe g]using this
def VRs.take{E:Env}{a:LA}{b:List Value}(h:VRs E a b)(n:Nat):VRs E (a.take n) (b.take n):=
 ⟨by simp[h.1],fun i c d=>by simp only[GI];exact h.2 i _ _⟩
def VRs.drop{E:Env}{a:LA}{b:List Value}(h:VRs E a b)(n:Nat):VRs E (a.drop n) (b.drop n):=
 ⟨by simp[h.1],fun i c d=>by simp only[Qak];exact h.2 (n+i) _ _⟩
def Zev{k:Nat}:∀{xs:LA},(∀x∈xs,x.cells.length=k)-> ∀n,flat (xs.take n)=(flat xs).take (n*k)
 |[],_,n=>by simp[flat]
 |x::xs,h,0=>by simp[flat]
 |x::xs,h,n+1=>by
  have b:=h x sm;rw[Qat,Yc,Yc,Zev (fun y a=>h y (Qx _ a)) n,Qap,b,G7,Ud (l:=x.cells) om,show n*k+k - k=n*k by omega]
def Zcm{k:Nat}:∀{xs:LA},(∀x∈xs,x.cells.length=k)-> ∀n,flat (xs.drop n)=(flat xs).drop (n*k)
 |[],_,n=>by simp[flat]
 |x::xs,h,0=>by simp
 |x::xs,h,n+1=>by
  have b:=h x sm;rw[List.drop_succ_cons,Yc,Zcm (fun y a=>h y (Qx _ a)) n,Qbk,b,G7,Ux (l:=x.cells) om,QG,show n*k+k - k=n*k by omega]
def bnd(ρ:Operand->AV):Option Operand->Int->Option Int
 |none,d=>some d
 |some x,_=>match ρ x with
  | .int _ i=>some i
  |_=>none
section ops
variable {P:Program} {T:TT} {o:Oper} {ρ:Operand->AV}
def ZeR{E:Env}{a:Act}{x:Operand}{i:Int}{y:Nat}{c:BoundsCode}(h:VR E (ρ x) (a.eval x))(b:(match ρ x with| .int _ i=>some i|_=>none)=some i)(e:0<=i)(d:i<=y)(w:World):
  (Instr.sliceBound (a.eval x) y c).run P w= .ok i.toNat w:=by
 generalize ρ x=v at*;generalize a.eval x=y' at*;cases h<;>simp only[reduceCtorEq,Qp]at b;subst b;simp[Instr.sliceBound,asIntOf,e,d]
def WJ{E:Env}{a:Act}{lo d:Option Operand}{l h:Int}{len cap:Nat}{s:Bool}(hv:∀x,lo=some x\/d=some x->VR E (ρ x) (a.eval x))(hl:bnd ρ lo 0=some l)(e:bnd ρ d len=some h)
  (f:0<=l) (i:l<=h) (g:h<=cap) (w:World):(Instr.sliceBounds s len cap (lo.map a.eval) (d.map a.eval) none).run P w= .ok (l.toNat,h.toNat,cap) w:=by
 cases d with
 |none=>
  simp only[bnd,Qp]at e;subst e;cases lo with
  |none=>
   simp only[bnd,Qp]at hl;subst hl;simp[Instr.sliceBounds]
  |some x=>
   have:=ZeR (P:=P) (c:=.sliceB) (y:=len) (hv x (.inl rfl)) hl f i w;simp[Instr.sliceBounds,this]
 |some y=>
  have b:=ZeR (P:=P) (c:=if s then .sliceAcap else .sliceAlen) (y:=cap) (hv y (.inr rfl)) e om g w;cases lo with
  |none=>
   simp only[bnd,Qp]at hl;subst hl;cases s<;>simp[Instr.sliceBounds]at b⊢ <;>simp[b]
  |some x=>
   have:=ZeR (P:=P) (c:=.sliceB) (y:=h.toNat) (hv x (.inl rfl)) hl f om w;cases s<;>simp[Instr.sliceBounds]at b⊢ <;>simp[b,this]
def Zjo{t:TypeId}{x:Operand}{f e:Option Operand}{r:Zp}{s:Bs}{l h:Int}(A:TOK P T)(ho:o.op= .slice t x f e none)(B:T t=some r)(p:r.td= .str)(I:ρ x= .str s)
  (F:bnd ρ f 0=some l) (G:bnd ρ e s.length=some h) (H:0<=l) (u:l<=h) (C:h<=s.length):YQ P o ρ (.str ((s.take h.toNat).drop l.toNat)):=fun E a b=>by
 have k:=b x sO;have q:∀y,f=some y\/e=some y->VR E (ρ y) (a.eval y):=fun y i=>b y (by rcases i with rfl|rfl<;>simp[ho,Op.operands])
 rw[I]at k;obtain⟨d,D,z,m⟩:=Zd (A t r B);have n:=V7 (p▸m.fits);subst n;generalize i:a.eval x=y at k;cases k with|str _=>
 have g:(⟨s.toArray⟩:ByteArray).size=s.length:=by show s.toArray.size=s.length;simp
 refine⟨.string ⟨((s.take h.toNat).drop l.toNat).toArray⟩,fun w=>?_,.str _⟩;have c:=WJ (P:=P) (s:=false) q F G H u C w;have J:execOp a.eval o=(do let v<-Instr.sliceAt t (a.eval x) (f.map a.eval) (e.map a.eval) none;pure (Next.value v)):=by simp only[execOp,ho];rfl
 rw[J,i];have j:(⟨s.toArray⟩:ByteArray).extract l.toNat h.toNat=⟨((s.take h.toNat).drop l.toNat).toArray⟩:=by
  apply ByteArray.ext;rw[ByteArray.data_extract];simp[Qbd,Qa5]
 simp[Instr.sliceAt,Instr.slice,run_underlying m.und,g,c,j]
def ZkW{t:TypeId}{x:Operand}{C F:Option Operand}{r M:Zp}{e:TypeId}{k:Nat}{xs:LA}{ow:Own}{l h:Int}(U:TOK P T)(ho:o.op= .slice t x C F none)(h1:T t=some r)(h2:r.td= .slice e)
  (J:T e=some M) (hk:k=M.size) (hv:ρ x= .sl k xs ow)
  (Y:bnd ρ C 0=some l) (Z:bnd ρ F xs.length=some h) (h3:0<=l) (S:l<=h) (V:h<=xs.length):YQ P o ρ (.sl k ((xs.take h.toNat).drop l.toNat) .any):=fun E a g=>by
 have hx:=g x sO;have R:∀y,C=some y\/F=some y->VR E (ρ y) (a.eval y):=fun y f=>g y (by rcases f with rfl|rfl<;>simp[ho,Op.operands])
 rw[hv]at hx;obtain⟨d,ax,z,D⟩:=Zd (U t r h1);obtain⟨d',i',z',m⟩:=Zd (U e M J);have hd:=ZE (h2▸D.fits);subst hd;have N:execOp a.eval o=(do let v<-Instr.sliceAt t (a.eval x) (C.map a.eval) (F.map a.eval) none;pure (Next.value v)):=by simp only[execOp,ho];rfl
 have p:((xs.take h.toNat).drop l.toNat).length=h.toNat - l.toNat:=by simp;omega
 rcases hx.Vl with⟨⟨X,f,_⟩,rfl,_⟩|⟨b,off,cap,cs,f,i,O,hF,W,hm,_⟩
 ·have I:l=0:=by simp at V;omega
  have K:h=0:=by simp at V;omega
  subst I K;have c:=fun w=>WJ (P:=P) (s:=true) (cap:=0) R Y Z h3 S sm w
  refine⟨.slice X 0 0,fun w=>?_,.slnil _ _ _ trivial (fun h=>absurd rfl h)⟩;have c:=c w;rw[N,f];simp at c;cases X<;>simp[Instr.sliceAt,Instr.slice,run_underlying D.und,c,ZA m]
 ·have c:=fun w=>WJ (P:=P) (s:=true) (cap:=cap) R Y Z h3 S om w
  have B:∀y∈(xs.take h.toNat).drop l.toNat,y.cells.length=k:=fun y f=>i y (UW (UU f))
  have n:flat ((xs.take h.toNat).drop l.toNat)=((flat xs).take (h.toNat*k)).drop (l.toNat*k):=by
   rw[Zcm (fun y f=>i y (UW f)),Zev i]
  by_cases A:cap=l.toNat
  ·refine⟨.slice (some ⟨b,off,none⟩) (h.toNat - l.toNat) (cap - l.toNat),fun w=>?_,?_⟩
   ·have L:=c w;rw[N,f];simp only[Instr.sliceAt,Instr.slice,run_underlying D.und,Sem.run_bind,Result.andThen_ok,L,ZA m,if_pos A,Sem.run_pure]
   ·have h0:h.toNat - l.toNat=0:=om;have q:(xs.take h.toNat).drop l.toNat=[]:=Ua om;rw[q,h0];exact VR.Vm (cs:=[]) sm (VRs.nil E) sm sm sm trivial
  ·refine⟨.slice (some ⟨b,off+l.toNat*k,none⟩) (h.toNat - l.toNat) (cap - l.toNat),fun w=>?_,?_⟩
   ·have L:=c w;rw[N,f];simp only[Instr.sliceAt,Instr.slice,run_underlying D.und,Sem.run_bind,Result.andThen_ok,L,ZA m,if_neg A,Sem.run_pure,Ut,ZC,hk]
   ·have:=VR.Vm (E:=E) (k:=k) (xs:=(xs.take h.toNat).drop l.toNat) (o:=.any) (b:=b) (off:=off+l.toNat*k) (cap:=cap - l.toNat) (cs:=(cs.take (h.toNat*k)).drop (l.toNat*k)) B
     (by rw[n];exact(O.take _).drop _) ?_ om om trivial
    ·rwa [p]at this
    ·intro j u G;rw[Uy]at G;have Q:cs[l.toNat*k+j]? =some u:=by
      rcases Qd (l.toNat*k+j) (h.toNat*k)with H|hge
      ·rwa [QT H]at G
      ·rw[UL,if_neg om]at G;cases G
     have:=hF _ _ Q
     rwa [<-MS]at this
end ops
end
def splice(a:LA)(b:Nat)(c:LA):LA:=a.take b++(c++a.drop (b+c.length))
def Zbq(b:Nat->Option (Nat×Nat))(a:LA):LN->Option LA
 |[]=>some a
 |(i,v)::rest=>
  match b i with
  |none=>none
  |some (off,size)=>if v.cells.length=size/\off+size<=a.length then Zbq b (splice a off v.cells) rest else none
def foldl_set{us:List Value}:∀(off j:Nat) (cells:Array Value),off+(j+us.length)<=cells.size->
  ((us.zipIdx j).foldl (fun cs (c:Value×Nat)=>cs.setIfInBounds (off+c.2) c.1) cells).toList=cells.toList.take (off+j)++(us++cells.toList.drop (off+j+us.length)):=by
 induction us with
 |nil=>intro off j cells h;simp
 |cons u us ih=>
  intro off j cells h;simp only[Qm]at h;rw[List.zipIdx_cons,U8,ih off (j+1) _ (by simp;omega),Qa3];have a:off+j<cells.toList.length:=by simp;omega
  rw[show off+(j+1)=off+j+1 by omega,Qn (by simpa using a),List.getElem_set_self,List.take_set_of_le om,
   show off+j+1+us.length=off+j+(us.length+1) by omega,List.drop_set_of_lt om,Qm,Q5]
  rfl
def Zgu{E:Env}{e:Nat->Option (Nat×Nat)}:∀{d:LN} {b:List (Nat×Value)} {a g:LA} {k:Array Value},
  Zbq e a d=some g->VRs E a k.toList->b.length=d.length->
  (∀i (h:i<d.length) (y:i<b.length),d[i].1=b[i].1/\VR E d[i].2 b[i].2/\(∀c∈d[i].2.cells,c.one=true))->
  ∃us,Instr.fill e k b=some us/\VRs E g us.toList
 |[],b,a,g,k,hf,hv,hl,_=>by
  have:b=[]:=by simpa using hl
  subst this;simp only[Zbq,Qp]at hf;subst hf;exact⟨k,rfl,hv⟩
 |(i,v)::rest,b,a,g,k,hf,hv,hl,hp=>by
  cases b with
  |nil=>simp at hl
  |cons iv b=>
   obtain⟨z,u⟩:=iv;obtain⟨t,s,w⟩:=hp 0 sm sm;simp only[Ui]at t s w;subst t;simp only[Zbq]at hf;simp only[Instr.fill];cases m:e i with
   |none=>simp[m]at hf
   |some os=>
    obtain⟨q,f⟩:=os;simp only[m]at hf⊢;split at hf
    ·rename_i A;have l:=s.cells w;have n:u.cells.size=f:=by have:=l.1;simp at this;omega
     have r:k.size=a.length:=by have:=hv.1;simpa using this
     rw[if_neg (by simp[n,r];omega)];refine Zgu hf ?_ (by simpa using hl) (fun j x p=>?_)
     ·have:=foldl_set (us:=u.cells.toList) q 0 k (by simp[n];omega);rw[<-Array.foldl_toList,Array.toList_zipIdx,this];simp only[UC];have o:u.cells.toList.length=v.cells.length:=l.1;unfold splice;rw[o];exact(hv.take _).append (l.append (hv.drop _))
     ·have:=hp (j+1) (by simpa using x) (by simpa using p);simpa using this
    ·cases hf
def YN(ρ:Operand->AV)(a:List (Nat×Operand)):LN:=a.map fun p=>(p.1,ρ p.2)
section ops
variable {P:Program} {T:TT} {o:Oper} {ρ:Operand->AV}
def VN(T:TT)(a:List (Nat×TypeId)):List (Option (Nat×Nat)):=a.map fun f=>(T f.2).map fun r=>(f.1,r.size)
def Zk7{gs:Array Field}{fs:List (Nat×TypeId)}(j:TOK P T)(b:gs.toList.map (fun g=>(g.offset,g.type))=fs)(a:∀f∈fs,T f.2≠none)(w:World):
  ∃ps:Array (Nat×Nat),(gs.mapM (m:=Sem) fun f=>do pure (f.offset,<-sizeOf f.type)).run P w= .ok ps w/\ ∀i:Nat,ps[i]? =(VN T fs)[i]?.join:=by
 have key:∀(gs:List Field) (fs:List (Nat×TypeId)),gs.map (fun g=>(g.offset,g.type))=fs->(∀f∈fs,T f.2≠none)->
   ∃ps:List (Nat×Nat),(gs.mapM (m:=Sem) fun f=>do pure (f.offset,<-sizeOf f.type)).run P w= .ok ps w/\ ∀i:Nat,ps[i]? =(VN T fs)[i]?.join:=by
  intro gs;induction gs with
  |nil=>intro fs h _;subst h;exact⟨[],sm,by simp[VN]⟩
  |cons g gs ih=>
   intro fs h a;subst h;obtain⟨ps,e,c⟩:=ih _ rfl (fun f hf=>a f (Qx _ hf));have hg:=a (g.offset,g.type) sm;cases hr:T g.type with
   |none=>exact absurd hr hg
   |some r=>
    obtain⟨d,i,z,hf⟩:=Zd (j g.type r hr);refine⟨(g.offset,r.size)::ps,?_,?_⟩
    ·rw[QbE];simp only[Sem.run_bind,ZA hf,Result.andThen_ok,Sem.run_pure,e]
    ·intro i;cases i with
     |zero=>simp[VN,hr]
     |succ i=>simpa[VN]using c i
 obtain⟨ps,e,c⟩:=key gs.toList fs b a;refine⟨ps.toArray,?_,by simpa using c⟩;rw[Qaq,Sem.run_map,e];rfl
def ZqB{t:TypeId}{b:Array (Nat×Operand)}{r:Zp}{y:List (Nat×TypeId)}{j:LA}(G:TOK P T)(H:o.op= .build t b)(s:T t=some r)(F:r.td= .struct y)(n:∀f∈y,T f.2≠none)
  (L:Zbq (fun i=>(VN T y)[i]?.join) r.zero (YN ρ b.toList)=some j) (m:∀p∈YN ρ b.toList,∀c∈p.2.cells,c.one=true):YQ P o ρ (.agg j):=fun E a h=>by
 obtain⟨d,J,z,u⟩:=Zd (G t r s);have e:=u.fits;rw[F]at e;cases d<;>try(simp[TD.fits]at e;done)
 rename_i gs;simp only[TD.fits,Qb,beq_iff_eq]at e;have K:VRs E r.zero z.cells.toList:=Y5 u.zfits;have g:∀i (h:i<(YN ρ b.toList).length) (Q:i<(b.toList.map fun p=>(p.1,a.eval p.2)).length),
   (YN ρ b.toList)[i].1=(b.toList.map fun p=>(p.1,a.eval p.2))[i].1/\VR E (YN ρ b.toList)[i].2 (b.toList.map fun p=>(p.1,a.eval p.2))[i].2/\(∀c∈(YN ρ b.toList)[i].2.cells,c.one=true):=by
  intro i s F;refine⟨by simp[YN],?_,fun c O=>m _ (Qa s) c O⟩;simp only[YN,QZ];have R:i<b.toList.length:=by simpa[YN]using s
  exact h _ (by rw[H];simp only[Op.operands];simp only[QaM,Qg];exact⟨b.toList[i],sm,rfl⟩)
 obtain⟨q,B,l⟩:=Zgu L K (by simp[YN]) g;refine⟨.agg q,fun w=>?_,?_⟩
 ·obtain⟨I,A,D⟩:=Zk7 (P:=P) (T:=T) (gs:=gs) G e.1 n w;have N:execOp a.eval o=(do let v<-Instr.build t (b.map fun(i,x)=>(i,a.eval x));pure (Next.value v)):=by simp only[execOp,H]
  have C:(fun i=>I[i]?)=(fun i=>(VN T y)[i]?.join):=funext D;have M:(b.map fun(i,x)=>(i,a.eval x)).toList=b.toList.map fun p=>(p.1,a.eval p.2):=sm
  rw[N];simp only[Instr.build,Sem.run_bind,Yg u,Result.andThen_ok,run_underlying u.und,A,M];have k:Instr.fill (fun x=>I[x]?) z.cells (b.toList.map fun p=>(p.1,a.eval p.2))=some q:=by rw[C];exact B
  rw[k];rfl
 ·have:q=q.toList.toArray:=sm;rw[this];exact .agg j q.toList l.1 l.2
def ZqC{t:TypeId}{x:Operand}{f:Nat}{r j:Zp}{J:List (Nat×TypeId)}{e A:Nat}{q:LA}(G:TOK P T)(ho:o.op= .field t x f)(O:T t=some r)(L:r.td= .struct J)
  (Q:J[f]? =some (e,A)) (N:T A=some j) (S:ρ x= .agg q) (R:j.isAgg=false->e<q.length):
  YQ P o ρ (if j.isAgg then .agg ((q.drop e).take j.size)else q.getD e .dead):=fun E a h=>by
 have D:=h x sO;rw[S]at D;obtain⟨d,i,z,C⟩:=Zd (G t r O);obtain⟨V,W,U,l⟩:=Zd (G A j N);have b:=C.fits;rw[L]at b;cases d<;>try(simp[TD.fits]at b;done)
 rename_i H;simp only[TD.fits,Qb,beq_iff_eq]at b;have M:∃g,H[f]? =some g/\g.offset=e/\g.type=A:=by
  have c:=Q;rw[<-b.1,Ub]at c;cases B:H.toList[f]? with
  |none=>simp[B]at c
  |some g=>rw[B]at c;simp at c;exact⟨g,by rw[<-Array.getElem?_toList];exact B,c.1,c.2⟩
 obtain⟨g,s,u,p⟩:=M;generalize I:a.eval x=y at D;cases D with|agg _ vs hl hvs=>
 have K:execOp a.eval o=(do let v<-Instr.field t (a.eval x) f;pure (Next.value v)):=by simp only[execOp,ho]
 have F:VRs E q vs:=⟨hl,hvs⟩
 cases k:j.isAgg with
 |true=>
  refine⟨.agg ((vs.drop e).take j.size).toArray,fun w=>?_,?_⟩
  ·rw[K,I];have m:(part g.type vs.toArray g.offset).run P w= .ok (.agg ((vs.drop e).take j.size).toArray) w:=by
    unfold part;rw[p,u];simp only[Sem.run_bind,JW l,k,Result.andThen_ok,if_true,ZA l,Sem.run_pure,List.extract_toArray,Qbd];congr 4;omega
   simp only[Instr.field,Sem.run_bind,run_underlying C.und,Result.andThen_ok,s,asAgg,Sem.run_pure,m]
  ·have:=(F.drop e).take j.size;simp only[if_true];exact .agg _ _ this.1 this.2
 |false=>
  have n:=R k;refine⟨vs[e]'om,fun w=>?_,?_⟩
  ·rw[K,I];have m:(part g.type vs.toArray g.offset).run P w= .ok (vs[e]'om) w:=by
    unfold part;rw[p,u];simp[JW l,k,Qe (show e<vs.length by omega)]
   simp only[Instr.field,Sem.run_bind,run_underlying C.und,Result.andThen_ok,s,asAgg,Sem.run_pure,m]
  ·simp only[QE,if_false];have:=hvs e n om;simpa[Qk,Qe n]using this
end ops
def Zsn{P:Program}{m:Nat}{o:Oper}{ρ:Operand->AV}{k:Nat}{b:LA}{s:Own}{H:Za}
  (h:∀E w (a:Act),Zo m H E w->(∀x∈o.op.operands,VR E (ρ x) (a.eval x))->
   ∃(d:World) (e:TypeId) (f:List Value) (c:Nat),(execOp a.eval o).run P w= .ok (.value (.slice (some ⟨w.heap.size,0,none⟩) b.length c)) (d.alloc (.cells f.toArray e))/\
    d.os=w.os/\d.tape=w.tape/\d.output=w.output/\w.drawn<=d.drawn/\d.heap=w.heap/\(∀x∈b,x.cells.length=k)/\VRs E (flat b) (f.take (b.length*k))/\b.length<=c/\b.length<=maxLen/\
    (match s with| .any=>True| .full=>c=b.length| .buf _ _=>False)):Z5 P m o ρ H (.sl k b s) H:=by
 intro E w a r C;obtain⟨d,e,f,c,i,B,y,F,t,A,z,I,g,G,n⟩:=h E w a r C;obtain⟨D,v⟩:=r.newRow f.toArray e B y F (fun _=>t) A;refine⟨_,_,_,.inl i,?_,D,v⟩;refine VR.Vm (cs:=f.take (b.length*k)) z (I.mono r.norm v.le) (fun j u p=>?_) g G ?_
 ·simp only[Env.addRow,if_true,Qy];have q:j<b.length*k:=by
   rcases Qd j (b.length*k)with h|h
   ·exact h
   ·rw[UL,if_neg om]at p;cases p
  rw[QT q]at p;simpa using p
 ·cases s with
  |any=>trivial
  |full=>exact n
  |buf l j=>exact n.elim
def inOrder(i:Nat):List (Nat×Operand)->Bool
 |[]=>true
 |p::r=>p.1==i&&inOrder (i+1) r
def ZaY{E:Env}{k n:Nat}:∀{ps:List (Nat×Operand)} {xs:LA} {vals:List (Nat×Value)} {pre post:List Value},
  inOrder n ps=true->xs.length=ps.length->vals.length=ps.length->pre.length=n*k->post.length=ps.length*k->
  (∀i (h:i<ps.length) (h':i<vals.length) (t:i<xs.length),vals[i].1=ps[i].1/\VR E xs[i] vals[i].2)->(∀x∈xs,x.cells.length=k/\ ∀c∈x.cells,c.one=true)->
  ∃us,Instr.fill (fun i=>some (i*k,k)) (pre++post).toArray vals=some (pre++us).toArray/\VRs E (flat xs) us
 |[],xs,vals,pre,post,_,hx,hl,_,hpost,_,_=>by
  have C:xs=[]:=by simpa using hx
  have z:vals=[]:=by simpa using hl
  have D:post=[]:=Ua (by simpa using hpost);subst C z D;exact⟨[],rfl,VRs.nil E⟩
 |p::ps,xs,vals,pre,post,hi,hx,hl,hpre,hpost,hp,ho=>by
  cases xs with
  |nil=>simp at hx
  |cons x xs=>
   cases vals with
   |nil=>simp at hl
   |cons iv vals=>
    obtain⟨i,u⟩:=iv;simp only[inOrder,Qb,beq_iff_eq]at hi;obtain⟨g,o⟩:=hi;obtain⟨s,r⟩:=hp 0 sm sm sm;simp only[Ui]at s r;obtain⟨B,v⟩:=ho x sm;have f:=r.cells v;have d:u.cells.toList.length=k:=f.1.trans B;have a:u.cells.size=k:=by simpa using d
    have q:i=n:=s.trans g;subst q;simp only[Qm,G7]at hpost;simp only[Instr.fill];rw[if_neg (by simp[a,hpre];omega)];have b:=foldl_set (us:=u.cells.toList) (i*k) 0 (pre++post).toArray (by simp[a,hpre];omega);simp only[UC]at b;have e:(u.cells.zipIdx.foldl (fun cs (c:Value×Nat)=>cs.setIfInBounds (i*k+c.2) c.1) (pre++post).toArray)=((pre++u.cells.toList)++post.drop k).toArray:=by
     apply QaA;rw[<-Array.foldl_toList,Array.toList_zipIdx,b,d];simp only[<-hpre,Gn,Q5];rw[Qbk,Ux om,QG,show pre.length+k - pre.length=k by omega]
    rw[e];obtain⟨us,l,m⟩:=ZaY (n:=i+1) (pre:=pre++u.cells.toList) (post:=post.drop k) o (by simpa using hx) (by simpa using hl) (by rw[Qh,hpre,d,G7]) (by simp;omega)
     (fun j F G w=>by have:=hp (j+1) (by simpa using F) (by simpa using G) (by simpa using w);simpa using this) (fun y A=>ho y (Qx _ A))
    refine⟨u.cells.toList++us,by rw[l,Q5],?_⟩;rw[Yc];exact f.append m
section ops
variable {P:Program} {T:TT} {o:Oper} {ρ:Operand->AV}
def Zht{m:Nat}{H:Za}{t:TypeId}{n:Nat}{ps:Array (Nat×Operand)}{r j:Zp}{e:TypeId}(R:TOK P T)(S:o.op= .buildSlice t n ps)(h1:T t=some r)(Y:r.td= .slice e)(h3:T e=some j)
  (Q:inOrder 0 ps.toList=true) (U:n=ps.size) (N:0<j.size) (J:n*j.size<=2^24) (L:∀x∈ps.toList.map (fun p=>ρ p.2),x.cells.length=j.size/\ ∀c∈x.cells,c.one=true):
  Z5 P m o ρ H (.sl j.size (ps.toList.map fun p=>ρ p.2) .full) H:=Zsn fun E w a hr D=>by
 obtain⟨d,ax,z,O⟩:=Zd (R t r h1);obtain⟨d',i',K,B⟩:=Zd (R e j h3);have X:=ZE (Y▸O.fits);subst X;have W:execOp a.eval o=(do let v<-Instr.buildSlice t n (ps.map fun(i,x)=>(i,a.eval x));pure (Next.value v)):=by simp only[execOp,S]
 have V:(ps.map fun(i,x)=>(i,a.eval x)).toList=ps.toList.map fun p=>(p.1,a.eval p.2):=sm
 have y:∀i (h:i<ps.toList.length) (h':i<(ps.toList.map fun p=>(p.1,a.eval p.2)).length) (M:i<(ps.toList.map fun p=>ρ p.2).length),
   (ps.toList.map fun p=>(p.1,a.eval p.2))[i].1=ps.toList[i].1/\VR E (ps.toList.map fun p=>ρ p.2)[i] (ps.toList.map fun p=>(p.1,a.eval p.2))[i].2:=by
  intro i h h' M;refine⟨sm,?_⟩;simp only[QZ];exact D _ (by rw[S];simp only[Op.operands,QaM,Qg];exact⟨ps.toList[i],sm,rfl⟩)
 have q:∀(b:List Value),b.length=n*j.size-> ∃u:List Value,Instr.fill (fun i=>some (i*j.size,j.size)) b.toArray (ps.toList.map fun p=>(p.1,a.eval p.2))=some u.toArray/\
   VRs E (flat (ps.toList.map fun p=>ρ p.2)) u:=by
  intro b hc;have:=ZaY (E:=E) (k:=j.size) (n:=0) (ps:=ps.toList) (xs:=ps.toList.map fun p=>ρ p.2) (vals:=ps.toList.map fun p=>(p.1,a.eval p.2)) (pre:=[]) (post:=b) Q sm sm sm (by rw[hc,U];simp) y L;simpa using this
 have g:(ps.toList.map fun p=>ρ p.2).length=n:=by simp[U]
 have s:=flat_length (k:=j.size) (xs:=ps.toList.map fun p=>ρ p.2) (fun x I=>(L x I).1);have F:¬n*j.size>2^24:=om;have ay:n<=maxLen:=by
  have:n<=n*j.size:=Qbn n N;unfold maxLen;omega
 by_cases C:n*j.size=0
 ·obtain⟨u,A,l⟩:=q [] (by simp[C]);have G:u=[]:=Ua (by rw[l.1,s,g,C]);refine⟨w,e,u,n,?_,rfl,rfl,rfl,Qi _,rfl,fun x I=>(L x I).1,?_,om,om,by simp[g]⟩
  ·rw[W,g];have hz:∀f:Nat->Value,(Array.range (n*j.size)).map f= #[]:=fun f=>by rw[C];simp
   have:Instr.fill (fun i=>some (i*j.size,j.size)) #[] (ps.toList.map fun p=>(p.1,a.eval p.2))=some u.toArray:=A;simp only[Instr.buildSlice,Sem.run_bind,run_underlying O.und,Result.andThen_ok,ZA B,if_neg F,Sem.run_pure,if_pos C,hz,V,this];simp[newRow,newObj,Sem.run]
  ·rw[g,C,G];simpa[G]using l
 ·obtain⟨u,A,l⟩:=q ((Array.range (n*j.size)).map (K.cells[· % K.cells.size]!)).toList sm;have Z:u.length=n*j.size:=by rw[l.1,s,g]
  refine⟨w,e,u,n,?_,rfl,rfl,rfl,Qi _,rfl,fun x I=>(L x I).1,?_,om,om,by simp[g]⟩
  ·rw[W,g];have:Instr.fill (fun i=>some (i*j.size,j.size)) ((Array.range (n*j.size)).map (K.cells[· % K.cells.size]!)) (ps.toList.map fun p=>(p.1,a.eval p.2))=some u.toArray:=by
    rw[<-A]
   simp only[Instr.buildSlice,Sem.run_bind,run_underlying O.und,Result.andThen_ok,ZA B,if_neg F,Sem.run_pure,if_neg C,Yg B,V,this];simp[newRow,newObj,Sem.run]
  ·rw[g,Ud om];exact l
def or_append{m:Nat}{H:Za}{t:TypeId}{x y:Operand}{r q:Zp}{e:TypeId}{k k':Nat}{g c:LA}{ow:Own}(hT:TOK P T)
  (ho:o.op= .call {callee:=.builtin .append,args:=#[x,y],argTypes:=#[t,t]}) (h1:T t=some r) (h2:r.td= .slice e) (h3:T e=some q) (b3:0<q.size)
  (hx:ρ x= .sl k g .full) (hy:ρ y= .sl k' c ow) (hk:g=[]\/k=q.size) (V:c=[]\/k'=q.size) (K:g.length+c.length<=maxLen) (Y:(g.length+c.length)*q.bytes<=140737488355328):
  Z5 P m o ρ H (.sl q.size (g++c) .any) H:=fun E w a hr Q=>by
 obtain⟨d,b0,z,hf⟩:=Zd (hT t r h1);obtain⟨d',i',z',f⟩:=Zd (hT e q h3);have hd:=ZE (h2▸hf.fits);subst hd;have I:=Q x sC;have ax:=Q y sC;rw[hx]at I;rw[hy]at ax;have he:∀S,(execOp a.eval o).run P S=((Builtin.append_ #[t,t] o.type #[a.eval x,a.eval y]).run P S).andThen fun v bx=>.ok (.value v) bx:=fun S=>by
  simp[execOp,ho,resolve,invoke,builtin]
 have hu:P.underlying t=some (.slice e):=hf.und;have b4:(9223372036854775807:Int)=9223372036854775807:=rfl;have a5:g.length+c.length<=9223372036854775807:=by unfold maxLen at K;omega
 by_cases M:c=[]
 ·-- nothing is appended:the first one itself
  subst M;rw[Qu];have J:(Builtin.append_ #[t,t] o.type #[a.eval x,a.eval y]).run P w= .ok (a.eval x) w:=by
   rcases I.Vl with⟨⟨a1,X,_⟩,_,_⟩|⟨b,off,N,cs,X,_,_,_,hc,_,_⟩<;>rcases ax.Vl with⟨⟨a2,R,_⟩,_,_⟩|⟨b2,n,A,i,R,_,_,_,hc2,_,_⟩<;>rw[X,R]
   ·cases a1<;>cases a2<;>simp[Builtin.append_,run_underlying hu,sizeOf,typeInfo,f.info,Builtin.lenOf,Builtin.firstCells,loadCells,loadCellsFrom,storeCells]
   ·cases a1<;>simp[Builtin.append_,run_underlying hu,sizeOf,typeInfo,f.info,Builtin.lenOf,Builtin.firstCells,loadCells,loadCellsFrom,storeCells]
   ·cases a2<;>simp[Builtin.append_,run_underlying hu,sizeOf,typeInfo,f.info,Builtin.lenOf,Builtin.firstCells,hc,loadCells,loadCellsFrom,storeCells]
   ·simp[Builtin.append_,run_underlying hu,sizeOf,typeInfo,f.info,Builtin.lenOf,Builtin.firstCells,hc,loadCells,loadCellsFrom,storeCells]
  refine⟨a.eval x,E,w,.inl (by rw[he,J];rfl),?_,hr,.refl m E w⟩;rcases hk with rfl|rfl
  ·exact(ZaQ I).any
  ·exact I.any
 ·have V:k'=q.size:=V.resolve_left M;subst V;rcases ax.Vl with⟨_,R,_⟩|⟨b2,n,A,i,R,l,p,a9,_,_,_⟩
  ·exact absurd R M
  have ay:0<c.length:=G9.2 M;have L:i.length=c.length*i'.size:=by rw[p.1,flat_length l,f.size]
  have aw:∀j v,i[j]? =some v->w.cell? ((⟨b2,n,none⟩:Addr).add j)=some v:=fun j v O=>by rw[ZC];exact hr.F _ _ _ (a9 j v O)
  have s:Builtin.nextslicecap (g.length+c.length) g.length*i'.bytes<=281474976710656:=growslice_fits om (by rw[f.bytes];exact Y);have G:∀(vs:List Value) (N:Nat),(execOp a.eval o).run P w= .ok (.value (.slice (some ⟨w.heap.size,0,none⟩) (g++c).length N)) (w.drew.alloc (.cells vs.toArray e))->(∀x∈g++c,x.cells.length=q.size)->
    VRs E (flat (g++c)) (vs.take ((g++c).length*q.size))->(g++c).length<=N-> ∃cv E' S,((execOp a.eval o).run P w= .ok (.value cv) S\/((execOp a.eval o).run P w= .ok .skip S/\cv=undef))/\VR E' (.sl q.size (g++c) .any) cv/\Zo m H E' S/\Ext m E w E' S:=by
   intro vs N J U bv av;obtain⟨hh,a3⟩:=hr.newRow vs.toArray e (w1:=w.drew) rfl rfl rfl (fun _=>Uc _) rfl;refine⟨_,_,_,.inl J,?_,hh,a3⟩;refine VR.Vm (cs:=vs.take ((g++c).length*q.size)) U (bv.mono hr.norm a3.le) (fun j u O=>?_) av (by rw[Qh];exact K) trivial;simp only[Env.addRow,if_true,Qy];have a7:j<(g++c).length*q.size:=by
    rcases Qd j ((g++c).length*q.size)with h|h
    ·exact h
    ·rw[UL,if_neg om]at O;cases O
   rw[QT a7]at O;simpa using O
  rcases I.Vl with⟨⟨a1,X,a8⟩,ex,_⟩|⟨b1,D,a4,C,X,au,W,bw,b5,_,bu⟩
  ·subst ex;obtain rfl:=a8 sm;simp only[Qz,Qy]at a5 s K Y;have B:=run_append_nil (P:=P) w t o.type e i' z' hu f.info f.zero ⟨b2,n,none⟩ c.length A i L aw ay om (by rw[f.bytes];omega);simp only[QG];simp only[QG]at G;refine G (i++(Builtin.zeroCells z'.cells (grownCap w c.length 0 e - c.length)).toList) (grownCap w c.length 0 e) ?_ l ?_ (grownCap_ge w _ _ _)
   ·rw[he,X,R,B];simp only[Result.andThen_ok];congr 3
    apply QaA;simp
   ·rw[MR (by rw[p.1,flat_length l];exact Qi _),Ud (by rw[p.1,flat_length l];exact Qi _)];exact p
  ·have Z:a4=g.length:=bu;subst Z;by_cases a0:g=[]
   ·subst a0;simp only[Qz,Qy]at a5 s K Y;have bq:C=[]:=Ua (by rw[W.1];rfl);have B:=run_append_grow (P:=P) w t o.type e i' z' hu f.info f.zero ⟨b1,D,none⟩ 0 0 [] sm sm ⟨b2,n,none⟩ c.length A i L aw om om (by simpa using s);simp only[QG];simp only[QG]at G;simp only[Qy]at B;refine G (i++(Builtin.zeroCells z'.cells (grownCap w c.length 0 e - c.length)).toList) (grownCap w c.length 0 e) ?_ l ?_ (grownCap_ge w _ _ _)
    ·rw[he,X,R];simp only[Qz];rw[B];simp only[Result.andThen_ok];congr 3
     apply QaA;simp
    ·rw[MR (by rw[p.1,flat_length l];exact Qi _),Ud (by rw[p.1,flat_length l];exact Qi _)];exact p
   ·have U:=hk.resolve_left a0;subst U;have aq:C.length=g.length*i'.size:=by rw[W.1,flat_length au,f.size]
    have a6:∀j v,C[j]? =some v->w.cell? ((⟨b1,D,none⟩:Addr).add j)=some v:=fun j v O=>by rw[ZC];exact hr.F _ _ _ (bw j v O)
    have B:=run_append_grow (P:=P) w t o.type e i' z' hu f.info f.zero ⟨b1,D,none⟩ g.length g.length C aq a6 ⟨b2,n,none⟩ c.length A i L aw om om s;have az:∀x∈g++c,x.cells.length=q.size:=fun x hx=>by
     rcases Qr.1 hx with h|h
     ·exact au x h
     ·exact l x h
    have bz:(C++i).length=(g++c).length*q.size:=by rw[Qh,aq,L,f.size,Qh,Q9]
    refine G (C++i++(Builtin.zeroCells z'.cells (grownCap w (g.length+c.length) g.length e - (g.length+c.length))).toList) (grownCap w (g.length+c.length) g.length e) ?_ az ?_ (by rw[Qh];exact grownCap_ge w _ _ _)
    ·rw[he,X,R,B,Qh];simp only[Result.andThen_ok];congr 3
     apply QaA;simp
    ·rw[MR om,Ud om,YJ];exact W.append p
end ops
def Env.XG(E:Env)(l k b:Nat):Env:={E with m:=fun c a=>if c=l/\a=k then some b else E.m c a}
def Za.upd_same(H:Za)(l k:Nat)(b:Ze):H.upd l k b l k=some b:=by simp[Za.upd]
section
variable {l k:Nat}
def Za.upd_ne(H:Za){c a:Nat}(b:Ze)(h:¬(c=l/\a=k)):H.upd l k b c a=H c a:=by simp only[Za.upd,if_neg h]
variable {w:World} {E:Env} {H:Za} {m:Nat}
def Zo.Zcv(h:Zo m H E w)(hl:l<m)(n:H l k=none)(u:Obj)(blk:Ze)(z:Zee (E.XG l k w.heap.size) (w.alloc u) l k blk):
  Zo m (H.upd l k blk) (E.XG l k w.heap.size) (w.alloc u)/\Ext m E w (E.XG l k w.heap.size) (w.alloc u):=by
 obtain⟨d1,G,M⟩:=h.dom l k hl n;have i:∀l' k' b,E.m l' k'=some b->b<w.heap.size:=fun l' k' b hm=>h.lt b (.inl ⟨l',k',hm⟩)
 have q:∀l' k' b,E.g l' k'=some b->b<w.heap.size:=fun l' k' b hm=>h.lt b (.inr ⟨l',k',hm⟩)
 have d:∀l' k' b,(E.XG l k w.heap.size).m l' k'=some b->(l'=l/\k'=k/\b=w.heap.size)\/(¬(l'=l/\k'=k)/\E.m l' k'=some b):=by
  intro l' k' b hm;simp only[Env.XG]at hm;by_cases hc:l'=l/\k'=k
  ·rw[if_pos hc]at hm;exact .inl ⟨hc.1,hc.2,by simpa using hm.symm⟩
  ·rw[if_neg hc]at hm;exact .inr ⟨hc,hm⟩
 have s:E.le m (E.XG l k w.heap.size):=⟨fun _ _ _ h=>h,fun l' k' b _ hm=>by
  simp only[Env.XG];rw[if_neg (fun hc=>by rw[hc.1,hc.2,d1]at hm;cases hm)];exact hm,fun _ _ _ _ _ h=>h,rfl⟩
 have e:∀b,b<w.heap.size->(w.alloc u).heap[b]? =w.heap[b]?:=fun b hb=>by
  simp only[World.alloc,MB];rw[if_neg om]
 have hc?:∀b o,b<w.heap.size->(w.alloc u).cell? ⟨b,o,none⟩=w.cell? ⟨b,o,none⟩:=fun b o hb=>by
  simp only[World.cell?,e b hb]
 refine⟨{norm:=?_,F:=?_,blk:=?_,dom:=?_,nobuf:=?_,inj:=?_,injg:=h.injg,mg:=?_,mF:=?_,lt:=?_},⟨s,rfl,rfl,rfl,fun _=>Qi _,sm,fun b hb _=>e b hb,?_⟩⟩
 ·refine⟨fun l' k' f=>?_,h.norm.g,h.norm.hist⟩;simp only[Env.XG];rw[if_neg (fun hc=>by omega)];exact h.norm.m l' k' f
 ·intro b o v hf;rw[hc? b o (h.ZbC hf)];exact h.F b o v hf
 ·intro l' k' I f j;by_cases hc:l'=l/\k'=k
  ·obtain⟨rfl,rfl⟩:=hc;rw[Za.upd_same,Qp]at j;subst j;exact z
  ·rw[Za.upd_ne H blk hc]at j;exact(h.blk l' k' I f j).keep (by simp only[Env.XG];rw[if_neg hc]) rfl (fun _=>rfl) (fun p _ r hr=>s.m p.1 p.2 r (h.norm.J8 hr) hr) (fun r hr=>e r (hr.elim (i _ _ _) (q _ _ _))) (fun _ _ _ hf=>hf) (fun a _ v hv=>hv.mono h.norm s)
 ·intro l' k' f j;by_cases hc:l'=l/\k'=k
  ·obtain⟨rfl,rfl⟩:=hc;rw[Za.upd_same]at j;cases j
  ·rw[Za.upd_ne H blk hc]at j;obtain⟨c,y,x⟩:=h.dom l' k' f j;exact⟨by simp only[Env.XG];rw[if_neg hc];exact c,y,x⟩
 ·intro l' k' hg;have hc:¬(l'=l/\k'=k):=fun hc=>by rw[hc.1,hc.2]at hg;exact hg G
  rw[Za.upd_ne H blk hc];exact h.nobuf l' k' hg
 ·intro D C L K b t B;rcases d _ _ _ t with⟨c,y,x⟩|⟨_,c⟩<;>rcases d _ _ _ B with⟨A,J,N⟩|⟨_,A⟩
  ·exact⟨c.trans A.symm,y.trans J.symm⟩
  ·have:=i _ _ _ A;omega
  ·have:=i _ _ _ c;omega
  ·exact h.inj _ _ _ _ _ c A
 ·intro D C L K b t B;rcases d _ _ _ t with⟨c,y,x⟩|⟨_,c⟩
  ·have:=q _ _ _ B;omega
  ·exact h.mg _ _ _ _ _ c B
 ·intro D C b o t;rcases d _ _ _ t with⟨c,y,x⟩|⟨_,c⟩
  ·subst x;cases hf:E.F w.heap.size o with
   |none=>exact hf
   |some v=>have:=h.ZbC hf;omega
  ·exact h.mF _ _ _ _ c
 ·intro b hb;rcases hb with⟨l',k',hm⟩|⟨l',k',hg⟩
  ·rcases d _ _ _ hm with⟨_,_,rfl⟩|⟨_,c⟩
   ·simp
   ·have:=i _ _ _ c;simp;omega
  ·have:=q _ _ _ hg;simp;omega
 ·intro b hb ho;rcases ho with⟨l',k',hm⟩|⟨l',k',hg⟩
  ·rcases d _ _ _ hm with⟨_,_,rfl⟩|⟨_,c⟩
   ·omega
   ·exact .inl ⟨l',k',c⟩
  ·exact .inr ⟨l',k',hg⟩
def Zo.turn{w':World}(h:Zo m H E w){b:Nat}(hm:E.m l k=some b\/E.g l k=some b)(blk:Ze)(n:E.g l k≠none->blk.isBuf=true)
  (os:w'.os=w.os) (tape:w'.tape=w.tape) (output:w'.output=w.output) (drawn:E.qd=true->w.drawn<=w'.drawn) (size:w'.heap.size=w.heap.size) (c:∀a,a≠b->w'.heap[a]? =w.heap[a]?)
  (s:∀o,E.F b o=none) (i:Zee E w' l k blk):
  Zo m (H.upd l k blk) E w'/\Ext m E w E w':=by
 have p:l<m:=hm.elim (fun hm=>h.norm.J8 hm) (fun hm=>h.norm.ZuP hm);have j:∀l' k' a,E.m l' k'=some a\/E.g l' k'=some a-> ¬(l'=l/\k'=k)->a≠b:=fun l' k' a hm' hc e=>by
  subst e;rcases hm' with hm'|hm'<;>rcases hm with hm|hm
  ·exact hc (h.inj _ _ _ _ _ hm' hm)
  ·exact h.mg _ _ _ _ _ hm' hm
  ·exact h.mg _ _ _ _ _ hm hm'
  ·exact hc (h.injg _ _ _ _ _ hm' hm)
 refine⟨{norm:=h.norm,F:=?_,blk:=?_,dom:=?_,nobuf:=?_,inj:=h.inj,injg:=h.injg,mg:=h.mg,mF:=h.mF,lt:=?_},⟨.refl m E,os,tape,output,drawn,om,fun a _ ho=>?_,fun _ _ h=>h⟩⟩
 ·intro a o v hf;have:a≠b:=fun e=>by subst e;rw[s o]at hf;cases hf
  have hc:=h.F a o v hf;simp only[World.cell?,c a this]at hc⊢;exact hc
 ·intro l' k' q f d;by_cases hc:l'=l/\k'=k
  ·obtain⟨rfl,rfl⟩:=hc;rw[Za.upd_same,Qp]at d;subst d;exact i
  ·rw[Za.upd_ne H blk hc]at d;exact(h.blk l' k' q f d).keep rfl rfl (fun _=>rfl) (fun _ _ _ h=>h) (fun r hr=>c r (j _ _ _ hr hc)) (fun _ _ _ h=>h) (fun _ _ _ h=>h)
 ·intro l' k' f d;by_cases hc:l'=l/\k'=k
  ·obtain⟨rfl,rfl⟩:=hc;rw[Za.upd_same]at d;cases d
  ·rw[Za.upd_ne H blk hc]at d;exact h.dom l' k' f d
 ·intro l' k' hg;by_cases hc:l'=l/\k'=k
  ·obtain⟨rfl,rfl⟩:=hc;exact⟨blk,Za.upd_same _ _ _ _,n hg⟩
  ·rw[Za.upd_ne H blk hc];exact h.nobuf l' k' hg
 ·intro a ho;rw[size];exact h.lt a ho
 ·exact c a (fun e=>ho (by subst e;exact hm.elim (fun hm=>.inl ⟨l,k,hm⟩) (fun hm=>.inr ⟨l,k,hm⟩)))
theorem Zo.m_g(h:Zo m H E w){b:Nat}(a:E.m l k=some b):E.g l k=none:=by
 cases f:E.g l k with
 |none=>rfl
 |some g=>
  obtain⟨c,d,i⟩:=h.nobuf l k (by rw[f];simp);have:=h.blk l k c (h.norm.J8 a) d;cases c with
  |buf e sz fr=>rw[this.2]at a;cases a
  |Zg e sz cs n=>rw[this.2]at a;cases a
  |gone=>rw[show E.m l k=none from this]at a;cases a
  |_=>cases i
section ops
variable {P:Program} {T:TT} {o:Oper} {ρ:Operand->AV}
def Vk{t:TypeId}{r:Zp}{d:TypeDesc}{i:TypeInfo}{z:Value}(hf:VP P t r d i z){b off:Nat}{cs:List Value}{w:World}(hc:∀j u,cs[j]? =some u->w.cell? ⟨b,off+j,none⟩=some u)
  (hl:r.size<=cs.length) (e:r.isAgg=false->0<cs.length):
  (loadVar t ⟨b,off,none⟩).run P w= .ok (if r.isAgg then .agg (cs.take r.size).toArray else cs.getD 0 undef) w:=by
 unfold loadVar;cases a:r.isAgg with
 |true=>
  have:=run_loadCells_list (P:=P) w ⟨b,off,none⟩ (cs.take r.size) (fun j v c=>by
   rw[ZC];exact hc j v (by
    rcases Qd j r.size with h|h
    ·rwa [QT h]at c
    ·rw[UL,if_neg om]at c;cases c))
  rw[QJ,QaY hl]at this;simp only[Sem.run_bind,JW hf,a,Result.andThen_ok,if_true,ZA hf,this,Sem.run_pure]
 |false=>
  have f:=e a;have hx:cs[0]? =some cs[0]:=Qe f;have:=hc 0 _ hx;simp only[UC]at this;simp[JW hf,a,this,Qk,hx]
def Zax{E:Env}{cs:LA}{vs:List Value}{r:Zp}(hv:VRs E cs vs)(d:r.isAgg=false->0<cs.length):
  VR E (if r.isAgg then .agg (cs.take r.size)else cs.getD 0 .dead) (if r.isAgg then .agg (vs.take r.size).toArray else vs.getD 0 undef):=by
 cases b:r.isAgg with
 |true=>
  have:=hv.take r.size;simp only[if_true];exact .agg _ _ this.1 this.2
 |false=>
  have a:=d b;simp only[QE,if_false];have c:0<vs.length:=by rw[hv.1];exact a
  have:=hv.2 0 a c;simpa[Qk,Qe a,Qe c]using this
def Zba{m:Nat}{H:Za}{t:TypeId}{x:Operand}{r:Zp}{e:LA}(I:TOK P T)(ho:o.op= .load t x)(n:T t=some r)(C:ρ x= .iptr e)(D:r.size<=e.length)(A:r.isAgg=false->0<e.length):
  Z5 P m o ρ H (if r.isAgg then .agg (e.take r.size)else e.getD 0 .dead) H:=fun E w a s l=>by
 have q:=l x sO;rw[C]at q;obtain⟨d,i,z,B⟩:=Zd (I t r n);have J:execOp a.eval o=(do let v<-Instr.loadAt t (a.eval x);pure (Next.value v)):=by simp only[execOp,ho]
 generalize G:a.eval x=y at q;cases q with|iptr _ b off c hc hcv=>
 have p:VRs E e ((List.range e.length).map c):=⟨sm,fun j n K=>by simpa using hcv j n⟩
 have f:∀j u,((List.range e.length).map c)[j]? =some u->w.cell? ⟨b,off+j,none⟩=some u:=fun j u g=>by
  rw[Ub]at g;rcases Qd j e.length with h|h
  ·rw[List.getElem?_range h]at g;simp only[Ut,Qp]at g;subst g;exact s.F _ _ _ (hc j h)
  ·rw[Uw (by simpa using h)]at g;cases g
 have k:=Vk (P:=P) B f (by simpa using D) (by simpa using A);refine⟨_,E,w,.inl ?_,Zax p A,s,.refl m E w⟩;rw[J,G];simp only[Instr.loadAt,Instr.sureAddr,Sem.run_bind,Sem.run_pure,Result.andThen_ok,k]
def Zfe{m:Nat}{H:Za}{t:TypeId}{x:Operand}{r:Zp}{l k e:Nat}{g:LA}(I:TOK P T)(ho:o.op= .load t x)(J:T t=some r)(N:ρ x= .ptr l k e)(M:H l k=some (.box g))
  (S:e+r.size<=g.length) (D:r.isAgg=false->e<g.length):
  Z5 P m o ρ H (if r.isAgg then .agg ((g.drop e).take r.size)else(g.drop e).getD 0 .dead) H:=fun E w a B p=>by
 have C:=p x sO;rw[N]at C;obtain⟨d,i,z,K⟩:=Zd (I t r J);have O:execOp a.eval o=(do let v<-Instr.loadAt t (a.eval x);pure (Next.value v)):=by simp only[execOp,ho]
 generalize L:a.eval x=y at C;cases C with|ptr _ _ _ b hm=>
 obtain⟨R,n,c,Q,A,s⟩:=B.box l k g (B.norm.J8 hm) M;rw[hm]at n;cases n;have f:∀j u,(c.toList.drop e)[j]? =some u->w.cell? ⟨b,e+j,none⟩=some u:=fun j u G=>by
  rw[Uy]at G;simp only[World.cell?,A];simpa using G
 have F:=s.1;have q:=Vk (P:=P) K f (by rw[QL];omega) (fun h=>by rw[QL];have:=D h;omega);refine⟨_,E,w,.inl ?_,Zax (s.drop e) (fun h=>by rw[QL];have:=D h;omega),B,.refl m E w⟩;rw[O,L];simp only[Instr.loadAt,Instr.sureAddr,Sem.run_bind,Sem.run_pure,Result.andThen_ok,q]
def ZgY{m:Nat}{H:Za}{t:TypeId}{x y:Operand}{r:Zp}{l k off:Nat}{cs:LA}{v:AV}(M:TOK P T)(ho:o.op= .store t x y)(N:T t=some r)(hx:ρ x= .ptr l k off)(Q:ρ y=v)(S:H l k=some (.box cs))
  (A:v.cells.length=r.size) (h:∀c∈v.cells,c.one=true) (hl:off+r.size<=cs.length):
  Z5 P m o ρ H (.tup []) (H.upd l k (.box (splice cs off v.cells))):=fun E w a hr g=>by
 have n:=g x sO;have D:=g y sO;rw[hx]at n;rw[Q]at D;obtain⟨d,i,z,hf⟩:=Zd (M t r N);have he:execOp a.eval o=(do Instr.storeAt t (a.eval x) (a.eval y);pure .skip):=by simp only[execOp,ho]
 generalize O:a.eval x=p at n;cases n with|ptr _ _ _ b hm=>
 obtain⟨K,s,c,I,C,q⟩:=hr.box l k cs (hr.norm.J8 hm) S;rw[hm]at s;cases s;have f:=D.cells h;have e:(a.eval y).cells.toList.length=r.size:=f.1.trans A;have F:=q.1;have B:=run_storeCells_at P b off I (a.eval y).cells.toList 0 c w C (by rw[e];simp at F;omega) (fun u U=>by
  obtain⟨j,L,rfl⟩:=QK U;exact(f.2 j (by rw[<-f.1];exact L) L).one (h _ (Qa _)))
 simp only[UC]at B;obtain⟨R,G⟩:=hr.turn (w':=w.setRow b (c.toList.take off++(a.eval y).cells.toList++c.toList.drop (off+(a.eval y).cells.toList.length)).toArray) (.inl hm) (.box (splice cs off v.cells)) (fun hg=>absurd (hr.m_g hm) hg) rfl rfl rfl (fun _=>Qi _) (by simp[World.setRow])
  (fun K J=>setRow_other w b K _ J) (fun o=>hr.mF _ _ _ o hm) ⟨b,hm,_,I,setRow_heap w b c _ I (0,0) C,by
   unfold splice;rw[e,A,Q5];exact(q.take off).append (f.append (q.drop _))⟩
 refine⟨undef,E,_,.inr ⟨?_,rfl⟩,XP E,R,G⟩;rw[he,O];simp only[Instr.storeAt,Instr.sureAddr,storeVar,Sem.run_bind,Sem.run_pure,Result.andThen_ok,ZA hf];rw[if_neg (by simp at e;simp[e])];simp only[B,Result.andThen_ok]
def Zo.mrow{m:Nat}{H:Za}{E:Env}{w:World}(h:Zo m H E w){l k n g c e d:Nat}{f:LA}(q:E.hist l k n=some (.slice (some ⟨g,0,none⟩) n c))(A:H l k=some (.Zg e d f n))(I:0<n):
  ∃b,E.g l k=some g/\w.heap[g]? =some (.cells b e (0,0))/\n<=c/\c<=maxLen/\b.size=c*d/\(∀o,E.F g o=none)/\VRs E f (b.toList.take (n*d))/\f.length=n*d:=by
 obtain⟨⟨t,v,j,D,B⟩,_⟩:=h.Zg l k e d f n (h.norm.Xg q) A;rw[q]at j;cases j;rcases B with⟨a,p,r,_⟩|⟨G,i,b,p,r,x,z,y,u,s,C⟩
 ·omega
 ·cases p;exact⟨b,r,x,z,y,u,s,C,t⟩
def ZdX{m:Nat}{H:Za}{t:TypeId}{x:Operand}{r:Zp}{l k n b e B:Nat}{p:LA}(J:TOK P T)(ho:o.op= .load t x)(K:T t=some r)(Q:ρ x= .eptr l k n b)(N:H l k=some (.Zg e B p n))(O:0<n)
  (Z:b+r.size<=p.length) (F:r.isAgg=false->b<p.length):
  Z5 P m o ρ H (if r.isAgg then .agg ((p.drop b).take r.size)else(p.drop b).getD 0 .dead) H:=fun E w a I f=>by
 have C:=f x sO;rw[Q]at C;obtain⟨d,i,z,L⟩:=Zd (J t r K);have R:execOp a.eval o=(do let v<-Instr.loadAt t (a.eval x);pure (Next.value v)):=by simp only[execOp,ho]
 generalize M:a.eval x=y at C;cases C with|eptr _ _ _ _ g cap hh=>
 obtain⟨A,V,S,W,Y,X,U,D,q8⟩:=I.mrow hh N O;have c:∀j u,((A.toList.take (n*B)).drop b)[j]? =some u->w.cell? ⟨g,b+j,none⟩=some u:=fun j u s=>by
  rw[Uy]at s;simp only[World.cell?,S];rcases Qd (b+j) (n*B)with h|h
  ·rw[QT h]at s;simpa using s
  ·rw[UL,if_neg om]at s;cases s
 have G:=D.1;have q:=Vk (P:=P) L c (by rw[QL];omega) (fun h=>by rw[QL];have:=F h;omega);refine⟨_,E,w,.inl ?_,Zax (D.drop b) (fun h=>by rw[QL];have:=F h;omega),I,.refl m E w⟩;rw[R,M];simp only[Instr.loadAt,Instr.sureAddr,Sem.run_bind,Sem.run_pure,Result.andThen_ok,q]
def Zas{m:Nat}{H:Za}{t:TypeId}{x y:Operand}{r:Zp}{l k n off e sz:Nat}{cs:LA}{v:AV}(hT:TOK P T)(ho:o.op= .store t x y)(K:T t=some r)(hx:ρ x= .eptr l k n off)(hy:ρ y=v)(V:H l k=some (.Zg e sz cs n))(hn:0<n)
  (A:v.cells.length=r.size) (q:∀c∈v.cells,c.one=true) (hl:off+r.size<=cs.length):
  Z5 P m o ρ H (.tup []) (H.upd l k (.Zg e sz (splice cs off v.cells) n)):=fun E w a hr h=>by
 have s:=h x sO;have C:=h y sO;rw[hx]at s;rw[hy]at C;obtain⟨d,i,z,hf⟩:=Zd (hT t r K);have he:execOp a.eval o=(do Instr.storeAt t (a.eval x) (a.eval y);pure .skip):=by simp only[execOp,ho]
 generalize hp:a.eval x=p at s;cases s with|eptr _ _ _ _ g cap hh=>
 obtain⟨c,S,X,U,q4,q5,R,I,q8⟩:=hr.mrow hh V hn;have f:=C.cells q;have b:(a.eval y).cells.toList.length=r.size:=f.1.trans A;have D:=I.1;have Q:n*sz<=cap*sz:=QF _ U;have B:=run_storeCells_at P g off e (a.eval y).cells.toList 0 c w X (by rw[b];omega) (fun u hu=>by
  obtain⟨j,W,rfl⟩:=QK hu;exact(f.2 j (by rw[<-f.1];exact W) W).one (q _ (Qa _)))
 simp only[UC]at B;have J:(splice cs off v.cells).length=cs.length:=by simp only[splice,Qh,QJ,QL];omega
 obtain⟨⟨_,v0,F,N,_⟩,L⟩:=hr.Zg l k e sz cs n (hr.norm.Xg hh) V;rw[hh]at F;cases F;obtain⟨M,G⟩:=hr.turn (w':=w.setRow g (c.toList.take off++(a.eval y).cells.toList++c.toList.drop (off+(a.eval y).cells.toList.length)).toArray) (.inr S) (.Zg e sz (splice cs off v.cells) n) (fun _=>rfl) rfl rfl rfl (fun _=>Qi _) (by simp[World.setRow])
  (fun Z O=>setRow_other w g Z _ O) R ⟨⟨by rw[J,q8],_,hh,N,.inr ⟨g,cap,_,rfl,S,setRow_heap w g c _ e (0,0) X,U,q4,by simp only[UZ,Qh,QJ,QL,Uh]at b D Q⊢;omega,R,by
   have e1:((c.toList.take off++(a.eval y).cells.toList++c.toList.drop (off+(a.eval y).cells.toList.length)).toArray.toList).take (n*sz)=
     (c.toList.take (n*sz)).take off++((a.eval y).cells.toList++(c.toList.take (n*sz)).drop (off+r.size)):=by
    rw[U3,b,Q5,Qap,Qap,QaJ,QaJ,Qa5];have K:min off (n*sz)=off:=om;have Y:min (n*sz) off=off:=om;have h3:(c.toList.take off).length=off:=by rw[QJ];simp;omega
    rw[K,Y,h3,b,Ud (l:=(a.eval y).cells.toList) om,show n*sz - off - r.size=n*sz - (off+r.size) by omega]
   rw[e1];unfold splice;rw[A];exact(I.take off).append (f.append (I.drop _))⟩⟩,L⟩
 refine⟨undef,E,_,.inr ⟨?_,rfl⟩,XP E,M,G⟩;rw[he,hp];simp only[Instr.storeAt,Instr.sureAddr,storeVar,Sem.run_bind,Sem.run_pure,Result.andThen_ok,ZA hf];rw[if_neg (by simp at b;simp[b])];simp only[B,Result.andThen_ok]
def Zdd{t:TypeId}{v:Value}{w:World}:(newVar t v).run P w= .ok ⟨w.heap.size,0,none⟩ (w.alloc (.cells v.cells t)):=by
 simp[newVar,newRow,newObj,Sem.run]
def Zqn{m:Nat}{H:Za}{E:Env}{w:World}(h:Zo m H E w){l k:Nat}(f:l<m)(a:H l k=none){d:LA}{v:Value}(i:VRs E d v.cells.toList)(t:TypeId):
  Zo m (H.upd l k (.box d)) (E.XG l k w.heap.size) (w.alloc (.cells v.cells t))/\Ext m E w (E.XG l k w.heap.size) (w.alloc (.cells v.cells t)):=by
 have e:E.le m (E.XG l k w.heap.size):=by
  obtain⟨j,_,_⟩:=h.dom l k f a;exact⟨fun _ _ _ h=>h,fun n o b _ c=>by
   simp only[Env.XG];rw[if_neg (fun g=>by rw[g.1,g.2,j]at c;cases c)];exact c,fun _ _ _ _ _ h=>h,rfl⟩
 exact h.Zcv f a _ (.box d) ⟨w.heap.size,by simp[Env.XG],v.cells,t,heap_alloc_new w _,i.mono h.norm e⟩
def Zqu{m:Nat}{H:Za}{t:TypeId}{x:Operand}{l k:Nat}{v:AV}(ho:o.op= .box t x)(hx:ρ x=v)(f:∀c∈v.cells,c.one=true)(hl:l<m)(b:H l k=none):
  Z5 P m o ρ H (.ptr l k 0) (H.upd l k (.box v.cells)):=fun E w a hr e=>by
 have d:=e x sO;rw[hx]at d;have he:execOp a.eval o=(do let v<-Instr.box t (a.eval x);pure (Next.value v)):=by simp only[execOp,ho]
 obtain⟨h,g⟩:=Zqn hr hl b (d.cells f) t;refine⟨.pointer (some ⟨w.heap.size,0,none⟩),_,_,.inl ?_,.ptr l k 0 _ (by simp[Env.XG]),h,g⟩;rw[he];simp only[Instr.box,Sem.run_bind,Zdd,Sem.run_pure,Result.andThen_ok]
def ZkN{m:Nat}{H:Za}{t:TypeId}{l k:Nat}{r:Zp}(p:TOK P T)(g:o.op= .alloc t)(s:T t=some r)(j:l<m)(b:H l k=none):
  Z5 P m o ρ H (.ptr l k 0) (H.upd l k (.box r.zero)):=fun E w a q f=>by
 obtain⟨d,i,z,e⟩:=Zd (p t r s);have h:execOp a.eval o=(do let v<-Instr.alloc t true (.tuple #[]);pure (Next.value v)):=by simp only[execOp,g]
 obtain⟨n,c⟩:=Zqn q j b (Y5 e.zfits) t;refine⟨.pointer (some ⟨w.heap.size,0,none⟩),_,_,.inl ?_,.ptr l k 0 _ (by simp[Env.XG]),n,c⟩;rw[h];simp only[Instr.alloc,Sem.run_bind,Yg e,Zdd,Sem.run_pure,Result.andThen_ok]
end ops
end
structure Fun (P:Program) (f:FuncId) (fn:Func) (c:Code):Prop where
 get:P.funcs[f]? =some fn
 body:fn.body=some c
 name : (fn.name == "runtime.NumGoroutine") = false
section
variable {c:Code} {fn:Func} {f:FuncId} {P:Program}
def Y2(h:Fun P f fn c)(a:Array Value)(w:World):(callFunc f a).run P w= .ok (.enter f a) w:=by
 have b:=h.name;simp only[beq_eq_false_iff_ne,ne_eq]at b;simp[callFunc,program,Sem.run,h.get,h.body,b]
variable {w:World} {n:Nat} {ro:Option Nat}
def JH{a:Array Value}{R:Ending->World->Prop}(h:Calls P f a w R):CallsIn (fr ro) n P f a w R:=
 (callsIn_wide (n:=n)).2 h
def JI{p:Prop}:(fr ro).depth.isSome=true->p:=fun h=>by cases h
def Zb3{m:Nat}{o:Oper}{l:Operand->AV}{H z:Za}{g:Operand}{h:LA}{args:Array Operand}{u:Array TypeId}{r:AV}(G:Fun P f fn c)
  (k:o.op= .call {callee:=.value g,args:=args,argTypes:=u}) (B:l g= .fn (.func f) h) (az:LA) (p:∀E (a:Act),(∀x∈args,VR E (l x) (a.eval x))->VRs E az (args.toList.map a.eval))
  (F:Zh P m f (az++h) H (fun q t=>q=r/\t=z)):Xh P m o l H r z:=fun E w a Q K L b C ro=>by
 have i:=b g (by rw[k];simp[Op.operands,Call.operands]);rw[B]at i;have M:execOp a.eval o=(do let d<-resolve a.eval {callee:=.value g,args:=args,argTypes:=u} o.type;invoke d.target d.args):=by simp only[execOp,k]
 generalize I:a.eval g=y at i;cases i with|fn _ _ vs hl hvs=>
 have j:(execOp a.eval o).run P w= .ok (.enter f (args.map a.eval++vs.toArray)) w:=by
  rw[M];simp[resolve,I,Deferred.ofValue,invoke,Y2 G]
 refine Y8 j (fun _ e=>by cases e) ⟨JI,JH ?_⟩;have s:=F E w (args.toList.map a.eval++vs) L ((p E a (fun x n=>b x (by rw[k];simp[Op.operands,Call.operands,n]))).append ⟨hl,hvs⟩);rw[show(args.toList.map a.eval++vs).toArray=args.map a.eval++vs.toArray by rw[<-List.append_toArray,<-Array.toList_map]]at s;refine s.mono ?_;rintro e A ⟨q,v,t,D,rfl,⟨rfl,rfl⟩,N,J,n⟩;exact C D A v N J n
def VJ(P:Program)(m:Nat)(l:Nat)(b:LA)(H:Za)(Q:AV->Za->Prop):Prop:=
 ∀E w f,Zo m H E w->VRs E b f-> ∃fn a i d,(Instr.yield l f.toArray).run P w= .ok (.round l fn a i d) w/\
  ∀ro n,RoundIn (fr ro) n P l fn a i d w fun e g=>∃r v h c,e= .returned v/\Q r h/\VR c r v/\Zo m h c g/\Ext m E w c g
def VJ.mono{P:Program}{m l:Nat}{a:LA}{H:Za}{Q d:AV->Za->Prop}(h:VJ P m l a H Q)(i:∀r c,Q r c->d r c):VJ P m l a H d:=fun E w g o j=>by
 obtain⟨fn,b,q,f,p,k⟩:=h E w g o j;exact⟨fn,b,q,f,p,fun ro n=>(k ro n).mono fun e w' ⟨r,v,c,E',he,hQ,rest⟩=>⟨r,v,c,E',he,i _ _ hQ,rest⟩⟩
inductive WkS:AV->AV->Prop
 |refl (v:AV):WkS v v
 |nil (k k':Nat) (o:Own):WkS (.sl k [] o) (.sl k' [] .any)
 |sl (k:Nat) (xs ys:LA) (o:Own) (hl:ys.length=xs.length) (h:∀i (h:i<xs.length) (h':i<ys.length),WkS xs[i] ys[i]):WkS (.sl k xs o) (.sl k ys .any)
 |agg (az bs:LA) (hl:bs.length=az.length) (h:∀i (h:i<az.length) (h':i<bs.length),WkS az[i] bs[i]):WkS (.agg az) (.agg bs)
 |ssl (k:Nat) (xs zs ys:LA) (hl:ys.length=xs.length) (h:∀i (h:i<xs.length) (h':i<ys.length),WkS xs[i] ys[i]):WkS (.ssl k xs zs) (.sl k ys .any)
 |sem (a b:AV) (ha:a.cells=[a]) (hb:b.cells=[b]) (h:∀E v,VR E a v->VR E b v):WkS a b
def ZcF:LA->LA->Prop
 |[],[]=>True
 |a::az,b::bs=>WkS a b/\ZcF az bs
 |_,_=>False
theorem ZcF.len:∀{az bs:LA},ZcF az bs->bs.length=az.length
 |[],[],_=>rfl
 |a::az,b::bs,h=>by rw[Qm,Qm,ZcF.len h.2]
 |[],_::_,h=>h.elim
 |_::_,[],h=>h.elim
def ZcF.get:∀{az bs:LA},ZcF az bs-> ∀i (h:i<az.length) (c:i<bs.length),WkS az[i] bs[i]
 |a::az,b::bs,h,0,_,_=>h.1
 |a::az,b::bs,h,i+1,h1,h2=>by
  simp only[Mc];exact ZcF.get h.2 i (by simpa using h1) (by simpa using h2)
variable {az bs:LA}
def WkS.ZlK(h:ZcF az bs):WkS (.agg az) (.agg bs):=.agg az bs h.len h.get
def WkS.slL{k:Nat}{o:Own}(h:ZcF az bs):WkS (.sl k az o) (.sl k bs .any):=.sl k az bs o h.len h.get
variable {E:Env}
def WkS.both{a b:AV}(h:WkS a b):(∀v,VR E a v->VR E b v)/\a.cells.length=b.cells.length/\ ∀j (h:j<a.cells.length) (m:j<b.cells.length) v,VR E a.cells[j] v->VR E b.cells[j] v:=by
 induction h with
 |refl v=>exact⟨fun _ h=>h,rfl,fun _ _ _ _ h=>h⟩
 |nil k k' o=>
  have l:∀v,VR E (.sl k [] o) v->VR E (.sl k' [] .any) v:=fun v d=>(ZaQ d).any
  refine⟨l,rfl,fun j h m v d=>?_⟩;cases j with
  |zero=>exact l v d
  |succ j=>simp[AV.cells]at h
 |sl k xs ys o hl h ih=>
  have l:∀v,VR E (.sl k xs o) v->VR E (.sl k ys .any) v:=by
   intro v d;cases d with
   |slnil _ _ a ho ha=>
    have:ys=[]:=Ua hl;subst this;exact .slnil k .any a trivial (fun h=>absurd rfl h)
   |sl _ _ _ b off cap c hk hc d hcap hm ho=>
    rw[<-hl];refine .sl k ys .any b off cap c (fun i f=>?_) (fun i j f g=>hc i j om g) (fun i f j g=>?_) om om trivial
    ·rw[<-(ih i om f).2.1];exact hk i om
    ·have e:i<xs.length:=om;have:=(ih i e f).2;exact this.2 j (by rw[this.1];exact g) g _ (d i e j (by rw[this.1];exact g))
  refine⟨l,rfl,fun j h m v d=>?_⟩;cases j with
  |zero=>exact l v d
  |succ j=>simp[AV.cells]at h
 |agg az bs hl h ih=>
  refine⟨fun v d=>?_,hl.symm,fun j h m v d=>(ih j h m).1 v d⟩;cases d with
  |agg _ vs hvl d=>exact .agg bs vs (hvl.trans hl.symm) fun i f e=>(ih i om f).1 _ (d i om e)
 |ssl k xs zs ys hl h ih=>
  have l:∀v,VR E (.ssl k xs zs) v->VR E (.sl k ys .any) v:=by
   intro v d;cases d with
   |ssl _ _ _ b off cap c hk hc d hcap hm=>
    have r:xs.length<=(xs++zs).length:=sm;have n:∀i (f:i<xs.length),(xs++zs)[i]'om=xs[i]:=fun i f=>Gx f
    rw[<-hl];refine .sl k ys .any b off cap c (fun i f=>?_) (fun i j f g=>hc i j om g) (fun i f j g=>?_) om om trivial
    ·rw[<-(ih i om f).2.1,<-n i om];exact hk i om
    ·have e:i<xs.length:=om;have:=(ih i e f).2;have p:=d i om;simp only[n i e]at p;exact this.2 j (by rw[this.1];exact g) g _ (p j (by rw[this.1];exact g))
  refine⟨l,rfl,fun j h m v d=>?_⟩;cases j with
  |zero=>exact l v d
  |succ j=>simp[AV.cells]at h
 |sem a b ha hb h=>
  refine⟨h E,by rw[ha,hb];rfl,fun j l q v d=>?_⟩;simp only[ha,hb]at d l q⊢;cases j with
  |zero=>exact h E v d
  |succ j=>simp at l
inductive Wk:AV->AV->Prop
 |refl (v:AV):Wk v v
 |any (k:Nat) (xs:LA) (o:Own):Wk (.sl k xs o) (.sl k xs .any)
 |nil (k k':Nat) (o:Own):Wk (.sl k [] o) (.sl k' [] .any)
 |dead (v:AV):Wk v .dead
 |deep {a b:AV} (h:WkS a b):Wk a b
 |sem {a b:AV} (h:∀E v,VR E a v->VR E b v):Wk a b
def Wk.vr{a b:AV}{v:Value}(h:Wk a b)(c:VR E a v):VR E b v:=by
 cases h with
 |refl=>exact c
 |any=>exact c.any
 |nil=>exact(ZaQ c).any
 |dead=>exact .dead v
 |deep h=>exact h.both.1 v c
 |sem h=>exact h E v c
def Wks:LA->LA->Prop
 |[],[]=>True
 |a::az,b::bs=>Wk a b/\Wks az bs
 |_,_=>False
def Zbx(a:LN)(H:Za)(n:Nat)(L:List (Nat×Ze))(T:TT):ResultVar->AV
 | .tmp t=>lkv a t
 | .cell t ty=>match lkv a t with
  | .ptr l k off=>match full n L H l k,T ty with
   |some (.box cs),some r=>if off+r.size<=cs.length/\(r.isAgg=false->off<cs.length)then(if r.isAgg then .agg ((cs.drop off).take r.size)else(cs.drop off).getD 0 .dead)else .dead
   |_,_=>.dead
  |_=>.dead
def Y7(c:LN)(H:Za)(n:Nat)(L:List (Nat×Ze))(T:TT):ResultVar->Prop
 | .tmp _=>True
 | .cell t ty=>∃l k a b r,lkv c t= .ptr l k a/\full n L H l k=some (.box b)/\T ty=some r/\a+r.size<=b.length/\(r.isAgg=false->a<b.length)
def tupR:LA->AV
 |[v]=>v
 |vs=>.tup vs
def Zjr(a:Array Value):ResultVar->Sem Value
 | .tmp t=>pure (a.getD t undef)
 | .cell x t=>do loadVar t (<-asAddr (a.getD x undef))
def Zdg(fn:Func)(a:Array Value):results fn a=(do
  let vs<-fn.results.mapM (Zjr a)
  pure (if h:vs.size=1 then vs[0]else .tuple vs)):=by
 unfold results;congr 1
def Zb7{P:Program}{T:TT}(O:TOK P T){B:Base}{n N:Nat}{s:Zc}{E:Env}{a:Act}{w:World}(A:Yd B n N s E a w):∀(l:List ResultVar),(∀x∈l,Y7 s.tmps s.H n s.L T x)->
  ∃o:List Value,(l.mapM (m:=Sem) (Zjr a.tmps)).run P w= .ok o w/\VRs E (l.map (Zbx s.tmps s.H n s.L T)) o
 |[],_=>⟨[],rfl,VRs.nil E⟩
 |x::l,h=>by
  obtain⟨o,Q,M⟩:=Zb7 O A l (fun y K=>h y (Qx _ K));have Y:=h x sm;cases x with
  |tmp t=>
   refine⟨a.tmps.getD t undef::o,?_,VRs.cons (A.tmps t) M⟩;rw[QbE];simp only[Zjr,Sem.run_bind,Sem.run_pure,Result.andThen_ok,Q]
  |cell t ty=>
   obtain⟨Z,k,e,G,r,U,S,V,e4,D⟩:=Y;obtain⟨d,i,z,X⟩:=Zd (O ty r V);have J:=A.tmps t;rw[U]at J;generalize K:a.tmps.getD t undef=y at J;cases J with|ptr _ _ _ b hm=>
   obtain⟨b',g,c,t',F,C⟩:=A.heap.box Z k G (A.heap.norm.J8 hm) S;rw[hm]at g;cases g;have f:∀j u,(c.toList.drop e)[j]? =some u->w.cell? ⟨b,e+j,none⟩=some u:=fun j u W=>by
    rw[Uy]at W;simp only[World.cell?,F];simpa using W
   have R:=C.1;have p:=Vk (P:=P) X f (by rw[QL];omega) (fun h=>by rw[QL];have:=D h;omega);have I:=Zax (r:=r) (C.drop e) (fun h=>by rw[QL];have:=D h;omega);refine⟨_::o,?_,VRs.cons (v:=if r.isAgg then .agg ((c.toList.drop e).take r.size).toArray else(c.toList.drop e).getD 0 undef) ?_ M⟩
   ·rw[QbE];have q:(asAddr (Value.pointer (some ⟨b,e,none⟩))).run P w= .ok ⟨b,e,none⟩ w:=rfl;simp only[Zjr,Sem.run_bind,K,q,Sem.run_pure,Result.andThen_ok,p,Q]
   ·have:Zbx s.tmps s.H n s.L T (.cell t ty)=if r.isAgg then .agg ((G.drop e).take r.size)else(G.drop e).getD 0 .dead:=by
     simp only[Zbx,U,S,V];rw[if_pos ⟨e4,D⟩]
    rw[this];exact I
def PostF(P:Program)(T:TT)(n:Nat)(a:List ResultVar)(Q:AV->Za->Prop):Exit->Zc->Prop
 | .normal,s| .ret,s=>(∀x∈a,Y7 s.tmps s.H n s.L T x)/\ ∃r,Wks (a.map (Zbx s.tmps s.H n s.L T)) r/\(∀v∈r,Below n v)/\Q (tupR r) s.H
 |_,_=>False
def numbered:Nat->LA->LN
 |_,[]=>[]
 |i,v::r=>(i,v)::numbered (i+1) r
def lkv_numbered:∀(az:LA) (i t:Nat),lkv (numbered i az) t=if i<=t then az.getD (t - i) .dead else .dead
 |[],i,t=>by simp[numbered,lkv]
 |v::r,i,t=>by
  simp only[numbered,lkv];rw[lkv_numbered r (i+1) t];by_cases a:i=t
  ·subst a;simp
  ·by_cases b:i<=t
   ·rw[if_neg a,if_pos om,if_pos b,show t - i=(t - (i+1))+1 by omega,QaZ]
   ·rw[if_neg a,if_neg om,if_neg b]
def forall₂_vr{E:Env}:∀{az a:LA} {b:List Value},Wks az a->VRs E az b->VRs E a b
 |[],[],_,_,h=>h
 |_::_,_::_,_,⟨h1,h2⟩,h=>by
  obtain⟨v,r,rfl,c,d⟩:=h.Yw;exact VRs.cons (h1.vr c) (forall₂_vr h2 d)
def Zo.leave{B:Base}{N:Nat}{s:Zc}{a:Act}(C:Yd B n N s E a w):Zo n s.H (E.cut n) w:=by
 have h:=C.heap;have c:∀l k,l<n->full n s.L s.H l k=s.H l k:=fun l k e=>by simp only[full];rw[if_neg om]
 have d:∀l k b,(E.cut n).m l k=some b->l<n/\E.m l k=some b:=fun l k b i=>by
  simp only[Env.cut]at i;split at i
  ·exact⟨‹_›,i⟩
  ·cases i
 have f:∀l k b,(E.cut n).g l k=some b->l<n/\E.g l k=some b:=fun l k b i=>by
  simp only[Env.cut]at i;split at i
  ·exact⟨‹_›,i⟩
  ·cases i
 refine{norm:=Env.Zgp n E,F:=h.F,blk:=?_,dom:=?_,nobuf:=?_,inj:=?_,injg:=?_,mg:=?_,mF:=?_,lt:=?_}
 ·intro l k b e x;have u:=C.out l k _ e x;refine(h.blk l k b om (by rw[c l k e];exact x)).keep (by simp only[Env.cut,if_pos e]) (by simp only[Env.cut,if_pos e]) (fun j=>by simp only[Env.cut,if_pos e]) (fun p M r O=>?_) (fun _ _=>rfl) (fun _ _ _ h=>h) (fun a Q v P=>P.cut (u.1 a Q));simp only[Env.cut,if_pos (u.2 p M)];exact O
 ·intro l k e x;obtain⟨K,I,J⟩:=h.dom l k om (by rw[c l k e];exact x);simp only[Env.cut,if_pos e];exact⟨K,I,J⟩
 ·intro l k y;cases D:(E.cut n).g l k with
  |none=>exact absurd D y
  |some b=>
   obtain⟨e,z⟩:=f l k b D;rw[<-c l k e];exact h.nobuf l k (by rw[z];simp)
 ·intro l k G A b q t;exact h.inj _ _ _ _ _ (d _ _ _ q).2 (d _ _ _ t).2
 ·intro l k G A b q t;exact h.injg _ _ _ _ _ (f _ _ _ q).2 (f _ _ _ t).2
 ·intro l k G A b q t;exact h.mg _ _ _ _ _ (d _ _ _ q).2 (f _ _ _ t).2
 ·intro l k b o q;exact h.mF _ _ _ _ (d _ _ _ q).2
 ·intro b u;rcases u with⟨l,k,i⟩|⟨l,k,y⟩
  ·exact h.lt b (.inl ⟨l,k,(d _ _ _ i).2⟩)
  ·exact h.lt b (.inr ⟨l,k,(f _ _ _ y).2⟩)
variable {H:Za}
def Zo.enter(a:Zo n H E w):Zo (n+1) (full n [] H) E w:=by
 have d:Zo n (full n [] H) E w:=a.congr (fun l k e=>by simp only[full];rw[if_neg om]);refine{norm:=a.norm.mono om,F:=a.F,blk:=?_,dom:=?_,nobuf:=d.nobuf,inj:=a.inj,injg:=a.injg,mg:=a.mg,mF:=a.mF,lt:=a.lt}
 ·intro l k b e c;rcases Qd l n with h'|h'
  ·exact d.blk l k b h' c
  ·have:l=n:=om;subst this;simp[full,lkb]at c
 ·intro l k e c;rcases Qd l n with h'|h'
  ·exact d.dom l k h' c
  ·exact⟨a.norm.m l k h',a.norm.g l k h',fun j=>a.norm.hist l k j h'⟩
def Zo.putObj{n:Nat}{H:Za}{E:Env}{w:World}(h:Zo n H E w){D:Nat}{x y:Obj}(p:w.heap[D]? =some x)(m:∀c t r,x≠ .cells c t r)(g:¬E.own D):Zo n H E (w.putObj D y):=by
 have q:∀o v,E.F D o=some v->False:=fun o v a=>by
  have:=h.F D o v a;simp only[World.cell?,p]at this;split at this
  ·rename_i e;cases e;exact m _ _ _ rfl
  ·cases this
 refine{norm:=h.norm,F:=fun b o v a=>?_,blk:=fun l k b i f=>?_,dom:=h.dom,nobuf:=h.nobuf,inj:=h.inj,injg:=h.injg,mg:=h.mg,mF:=h.mF,lt:=fun b f=>by rw[World.putObj_size];exact h.lt b f}
 ·have d:b≠D:=fun e=>q o v (e▸a)
  have:=h.F b o v a;simp only[World.cell?,World.putObj_heap_other d]at this⊢;exact this
 ·exact(h.blk l k b i f).keep rfl rfl (fun _=>rfl) (fun _ _ _ h=>h) (fun r j=>World.putObj_heap_other (fun e=>g (e▸j.elim (fun h=>.inl ⟨_,_,h⟩) (fun h=>.inr ⟨_,_,h⟩)))) (fun _ _ _ h=>h) (fun _ _ _ h=>h)
theorem Za8{P:Program}{fn:Func}{c:Array Value}{R:Ending->World->Prop}{m:Nat}{H:Za}{E:Env}:∀(l:List Nat) (w:World),l.Nodup->(∀D∈l,w.heap[D]? =some (.deferred (some []))/\ ¬E.own D)->Zo m H E w->
  (∀a,Zo m H E a->(∀b,b∉l->a.heap[b]? =w.heap[b]?)->a.os=w.os->a.tape=w.tape->a.output=w.output->a.drawn=w.drawn->a.heap.size=w.heap.size-> ∃v,(results fn c).run P a= .ok v a/\R (.returned v) a)->
  LeavesInM Fence.wide 0 P fn c R (l.map mark) .returning w
 |[],w,_,_,hr,hk=>hk w hr (fun _ _=>rfl) rfl rfl rfl rfl rfl
 |D::l,w,hn,hD,hr,hk=>by
  obtain⟨g,n⟩:=hD D sm;obtain⟨r,s⟩:=GN.1 hn;refine⟨sm,.inl ⟨D,_,rfl,run_takeDeferred g,?_⟩⟩;refine Za8 l _ s (fun h d=>?_) (hr.putObj g (fun _ _ _ e=>by cases e) n) (fun a q u t j x i o=>?_)
  ·obtain⟨k,p⟩:=hD h (Qx _ d);exact⟨(World.putObj_heap_other (show h≠D from fun e=>r (e▸d))).trans k,p⟩
  ·refine hk a q (fun b f=>?_) t j x i (by rw[o,World.putObj_size]);simp only[Ql,not_or]at f;rw[u b f.2,World.putObj_heap_other f.1]
theorem ZhC{T:TT}{a:LA}{Q:AV->Za->Prop}(hT:TOK P T)(hf:Fun P f fn c)(hN:a.length<=fn.ntmps)
  (h:∀B,AK P ⟨none,B⟩ n fn.ntmps [.code c] (PostF P T n fn.results.toList Q) ⟨numbered 0 a,[],H⟩):Zh P n f a H Q:=fun E w u hr hv=>by
 refine(callsIn_wide (n:=0)).1 (callsIn_of_wp_marks hf.get hf.body trivial ?_);have ay:u.length=a.length:=hv.1;have hs:Yd ⟨w.heap.size,[]⟩ n fn.ntmps ⟨numbered 0 a,[],H⟩ E {tmps:=u.toArray++Array.replicate (fn.ntmps - u.toArray.size) undef,defers:=[]} w:=by
  refine⟨by simp;omega,.nil _ (Qi _),fun t=>?_,?_,fun l k b hl R=>hr.out hl R⟩
  ·rw[lkv_numbered];simp only[Us,if_true,MV];by_cases ht:t<a.length
   ·have g:=hv.2 t ht om;have Z:a.getD t .dead=a[t]:=by simp[Qk,Qe ht]
    have e2:(u.toArray++Array.replicate (fn.ntmps - u.toArray.size) undef).getD t undef=u[t]'om:=by
     rw[QD,Gh (by simp;omega)];simp[Qe (show t<u.length by omega)]
    rw[Z,e2];exact g
   ·have Z:a.getD t .dead= .dead:=by simp[Qk,Uw (by omega:a.length<=t)]
    rw[Z];exact .dead _
  ·exact hr.enter
 refine wpIn_mono (h ⟨w.heap.size,[]⟩ E w _ hs) ?_;rintro e M w' ⟨o,s,U,j,p⟩;have F:(∀x∈fn.results.toList,Y7 o.tmps o.H n o.L T x)/\(∃r,Wks (fn.results.toList.map (Zbx o.tmps o.H n o.L T)) r/\(∀v∈r,Below n v)/\Q (tupR r) o.H)->
   LeavesInM Fence.wide 0 P fn M.tmps (fun e C=>∃r v' H' s,e= .returned v'/\Q r H'/\VR s r v'/\Zo n H' s C/\Ext n E w s C) M.defers .returning w':=by
  rintro⟨Y,r,hw,R,W⟩;obtain⟨N,l,ax,V,K⟩:=j.defs;rw[ax,Qu];refine Za8 l w' V (fun D hD=>(K D hD).2) j.heap (fun C k1 k2 k3 k4 k5 k6 k7=>?_);have J:Yd ⟨w.heap.size,[]⟩ n fn.ntmps o s {M with defers:=[]} C:=⟨j.size,.nil _ (by rw[k7];exact N),j.tmps,k1,j.out⟩
  obtain⟨A,O,S⟩:=Zb7 hT J fn.results.toList Y;have G:=forall₂_vr hw S;have d:VRs (s.cut n) r A:=⟨G.1,fun i g h2=>(G.2 i g h2).cut (R _ (Qa g))⟩
  have I:(results fn M.tmps).run P C= .ok (if h:A.toArray.size=1 then A.toArray[0]else .tuple A.toArray) C:=by
   rw[Zdg,Qaq];simp only[Sem.run_bind,Sem.run_map,O,Result.andThen_ok,Sem.run_pure]
  refine⟨_,I,tupR r,_,o.H,s.cut n,rfl,W,?_,Zo.leave J,⟨Env.Zi1 p.le,k3.trans p.os,k4.trans p.tape,k5.trans p.output,fun W=>by rw[k6];exact p.drawn W,by rw[k7];exact p.size,fun b z X=>?_,fun b z X=>p.own b z ?_⟩⟩
  ·by_cases g:A.toArray.size=1
   ·rw[dif_pos g];cases r with
    |nil=>have:=d.1;simp at this g;rw[this]at g;simp at g
    |cons x r=>
     cases r with
     |nil=>
      obtain⟨v,q,rfl,h3,h4⟩:=d.Yw;exact h3
     |cons y r=>have:=d.1;simp at this g;omega
   ·rw[dif_neg g];have:tupR r= .tup r:=by
     cases r with
     |nil=>rfl
     |cons x r=>
      cases r with
      |nil=>have:=d.1;simp at this g;omega
      |cons y r=>rfl
    rw[this];exact .tup r A d.1 d.2
  ·rw[k2 b (fun m=>by have:w.heap.size<=b:=(K b m).1;omega)];exact p.block b z X
  ·rcases X with⟨l,k,m⟩|⟨l,k,m⟩
   ·simp only[Env.cut]at m;split at m
    ·exact .inl ⟨l,k,m⟩
    ·cases m
   ·simp only[Env.cut]at m;split at m
    ·exact .inr ⟨l,k,m⟩
    ·cases m
 cases e with
 |normal=>exact F U
 |ret=>exact F U
 |_=>exact U.elim
end
inductive KL where
 |int (k:IntKind) (n:Int)
 |str (l:Bs)
 |bool (b:Bool)
 deriving DecidableEq
def KL.val:KL->Value
 | .int k n=>.int k n
 | .str l=>.string ⟨l.toArray⟩
 | .bool b=>.bool b
def AV.kl:AV->Option KL
 | .int k n=>some (.int k n)
 | .str l=>some (.str l)
 | .bool b=>some (.bool b)
 |_=>none
def klAll:LA->Option (List KL)
 |[]=>some []
 |a::r=>match a.kl,klAll r with
  |some x,some xs=>some (x::xs)
  |_,_=>none
def Ztw{E:Env}{a:AV}{v:Value}{q:KL}(h:a.kl=some q)(b:VR E a v):v=q.val:=by
 cases b<;>simp[AV.kl]at h<;>subst h<;>rfl
def Zcs{E:Env}:∀{e:LA} {b:List Value} {c:List KL},klAll e=some c->VRs E e b->b=c.map KL.val
 |[],b,c,h,hv=>by simp[klAll]at h;subst h;simpa using hv.of_nil
 |a::r,b,c,h,hv=>by
  obtain⟨v,j,rfl,g,f⟩:=hv.Yw;simp only[klAll]at h;split at h
  ·rename_i x k i d;cases h;rw[Ztw i g,Zcs d f];rfl
  ·cases h
def covers(T:TT):List (Nat×TypeId)->Nat->Option Nat
 |[],n=>some n
 |(o,ft)::r,n=>if o=n then match T ft with
  |some rf=>covers T r (n+rf.size)
  |none=>none else none
def Z4(T:TT):Nat->TypeId->List KL->Bool
 |0,_,_=>false
 |d+1,t,l=>match T t with
  |some r=>match r.td with
   | .int k=>match l with
    |[.int k' _]=>k==k'
    |_=>false
   | .str=>match l with
    |[.str _]=>true
    |_=>false
   | .bool=>match l with
    |[.bool _]=>true
    |_=>false
   | .struct fs=>l.length==r.size&&covers T fs 0==some r.size&&fs.all fun p=>match T p.2 with
    |some rf=>Z4 T d p.2 ((l.drop p.1).take rf.size)
    |none=>false
   |_=>false
  |none=>false
def XM(r:Zp)(l:List KL):Value:=if r.isAgg then .agg (l.map KL.val).toArray else(l.map KL.val).getD 0 undef
def Zoh{l m:List KL}(n k:Nat)(h:l.length=m.length):(l.drop n==m.drop n)=((l.drop n).take k==(m.drop n).take k&&(l.drop (n+k)==m.drop (n+k))):=by
 rw[U7];simp only[beq_iff_eq,Qb];rw[<-List.drop_drop,<-List.drop_drop];constructor
 ·intro e;rw[e];exact⟨rfl,rfl⟩
 ·rintro⟨a,b⟩;rw[<-Q8 k (l.drop n),<-Q8 k (m.drop n),a,b]
section
variable {P:Program} {T:TT}
def Zbg(k:TOK P T){t:TypeId}{r:Zp}(g:T t=some r){d:Nat}{l:List KL}{off:Nat}(hl:off+r.size<=l.length)(hk:Z4 T d t ((l.drop off).take r.size)=true)(w:World):
  (part t (l.map KL.val).toArray off).run P w= .ok (XM r ((l.drop off).take r.size)) w:=by
 obtain⟨dd,i,z,hf⟩:=Zd (k t r g);unfold part XM;simp only[Sem.run_bind,JW hf,Result.andThen_ok];cases c:r.isAgg with
 |true=>
  simp only[if_true,ZA hf,Sem.run_bind,Result.andThen_ok,Sem.run_pure];congr 2
  apply QaA;simp[List.extract,<-List.map_drop,<-List.map_take]
 |false=>
  simp only[QE,if_false];have j:∃q,(l.drop off).take r.size=[q]:=by
   cases d with
   |zero=>simp[Z4]at hk
   |succ d=>
    simp only[Z4,g]at hk;split at hk
    ·split at hk
     ·rename_i e;exact⟨_,e⟩
     ·cases hk
    ·split at hk
     ·rename_i e;exact⟨_,e⟩
     ·cases hk
    ·split at hk
     ·rename_i e;exact⟨_,e⟩
     ·cases hk
    ·rename_i fs b;simp[Zp.isAgg,b]at c
    ·cases hk
  obtain⟨q,a⟩:=j;rw[a];have hx:l[off]? =some q:=by
   have:=congrArg (·[0]?) a;have f:0<r.size:=by
    rcases MW r.size with h|h
    ·rw[h]at a;simp at a
    ·exact h
   simp only[UL,f,if_true,Uy,UC,GH]at this;exact this
  simp[hx]
def Zdh(hT:TOK P T):∀(d:Nat) (t:TypeId) (r:Zp) (la lb:List KL),T t=some r->Z4 T d t la=true->Z4 T d t lb=true-> ∀dd,d<=dd-> ∀w,
  (Op.equalIn dd t (XM r la) (XM r lb)).run P w= .ok (la==lb) w
 |0,_,_,_,_,_,h,_,_,_,_=>by simp[Z4]at h
 |d+1,t,r,la,lb,h1,ha,hb,dd,hd,w=>by
  obtain⟨dd,rfl⟩:∃x,dd=x+1:=⟨dd - 1,om⟩
  obtain⟨de,i,z,hf⟩:=Zd (hT t r h1);simp only[Z4,h1]at ha hb;split at ha
  ·rename_i k hk;have hag:r.isAgg=false:=by simp[Zp.isAgg,hk]
   have hu:P.underlying t=some (.int k):=by
    have:=hf.fits;rw[hk]at this;rw[hf.und];cases de<;>simp[TD.fits]at this;rw[this]
   simp only[hk]at hb;split at ha<;>first|exact absurd ha Gu|skip
   split at hb<;>first|exact absurd hb Gu|skip
   simp only[beq_iff_eq]at ha hb;subst ha;subst hb;simp only[XM,hag,QE,if_false,Qs,UJ,MF,KL.val,run_equalIn_int w dd t _ _ _ _ hu];congr 1
   rw[U7];simp
  ·rename_i hk;have hag:r.isAgg=false:=by simp[Zp.isAgg,hk]
   have hu:P.underlying t=some .string:=by
    have:=hf.fits;rw[hk]at this;rw[hf.und];cases de<;>simp[TD.fits]at this;rfl
   simp only[hk]at hb;split at ha<;>first|exact absurd ha Gu|skip
   split at hb<;>first|exact absurd hb Gu|skip
   simp only[XM,hag,QE,if_false,Qs,UJ,MF,KL.val,run_equalIn_string w dd t _ _ hu,ByteArray.toList_mk];congr 1
   rw[U7];simp
  ·rename_i hk;have hag:r.isAgg=false:=by simp[Zp.isAgg,hk]
   have hu:P.underlying t=some .bool:=by
    have:=hf.fits;rw[hk]at this;rw[hf.und];cases de<;>simp[TD.fits]at this;rfl
   simp only[hk]at hb;split at ha<;>first|exact absurd ha Gu|skip
   split at hb<;>first|exact absurd hb Gu|skip
   simp only[XM,hag,QE,if_false,Qs,UJ,MF,KL.val,run_equalIn_bool' w dd t _ _ hu];congr 1
   rw[U7];simp
  ·rename_i fs hk;simp only[hk,Qb,beq_iff_eq,Qw]at ha hb;obtain⟨⟨la1,la2⟩,la3⟩:=ha;obtain⟨⟨lb1,_⟩,lb3⟩:=hb;have hag:r.isAgg=true:=by simp[Zp.isAgg,hk]
   have hft:=hf.fits;rw[hk]at hft;cases de<;>try(simp[TD.fits]at hft;done)
   rename_i gs;simp only[TD.fits,Qb,beq_iff_eq,Qw,bne_iff_ne]at hft;have hgs:P.fieldsOf t=gs:=by simp[Program.fieldsOf,hf.und]
   simp only[XM,hag,if_true];rw[run_equalIn_struct w dd t _ _ (by rw[hgs];exact hf.und) (hf.stood fs hk).1,hgs]
   have key : ∀ (gl : List Field) (n : Nat), (∀ g ∈ gl, g.name ≠ "_") → (∀ g ∈ gl, (g.offset, g.type) ∈ fs) → covers T (gl.map fun g => (g.offset, g.type)) n = some r.size → n ≤ r.size → ∀ w,
     (Op.eqFields dd (la.map KL.val).toArray (lb.map KL.val).toArray gl).run P w= .ok (la.drop n==lb.drop n) w:=by
    intro gl;induction gl with
    |nil=>
     intro n _ _ hc _ w;simp only[UJ,covers,Qp]at hc;subst hc;rw[Ux om,Ux om];simp[Op.eqFields]
    |cons g gl ih=>
     intro n hn hin hc hle w;simp only[Qs,covers]at hc;split at hc
     ·rename_i hoff;split at hc
      ·rename_i rf hrf;have hcov:∀(l:List (Nat×TypeId)) (m x:Nat),covers T l m=some x->m<=x:=by
        intro l;induction l with
        |nil=>intro m x h;simp only[covers,Qp]at h;omega
        |cons p l ihl=>
         intro m x h;obtain⟨o,ft⟩:=p;simp only[covers]at h;split at h
         ·split at h
          ·have:=ihl _ _ h;omega
          ·cases h
         ·cases h
       have hle2:=hcov _ _ _ hc;have hka:=la3 _ (hin g sm);have hkb:=lb3 _ (hin g sm);simp only[hrf]at hka hkb;subst hoff;have ihd:=Zdh hT d g.type rf _ _ hrf hka hkb dd om;simp only[Op.eqFields];rw[if_pos (hn g sm)];simp only[Sem.run_bind,Zbg hT hrf (d:=d) (l:=la) (off:=g.offset) om hka,Zbg hT hrf (d:=d) (l:=lb) (off:=g.offset) om hkb,Result.andThen_ok,ihd];rw[Zoh g.offset rf.size om];cases((la.drop g.offset).take rf.size==(lb.drop g.offset).take rf.size)with
       |true=>
        simp only[Qav,QE,if_false,QX];exact ih (g.offset+rf.size) (fun g hg=>hn g (Qx _ hg)) (fun g hg=>hin g (Qx _ hg)) hc hle2 w
       |false=>simp
      ·cases hc
     ·cases hc
   have hcv:covers T (gs.toList.map fun g=>(g.offset,g.type)) 0=some r.size:=by rw[hft.1];exact la2
   have:=key gs.toList 0 (fun g hg=>hft.2 g hg) (fun g hg=>by rw[<-hft.1];exact Qg.2 ⟨g,hg,rfl⟩) hcv (Us _) w;simpa using this
  ·cases ha
end
section ops
variable {P:Program} {T:TT} {o:Oper} {ρ:Operand->AV}
def ZbZ{d t:Nat}{r:Zp}{l:List KL}(e:T t=some r)(h:Z4 T d t l=true)(b:r.isAgg=true):∃c,r.td= .struct c:=by
 cases d with
 |zero=>simp[Z4]at h
 |succ d=>
  simp only[Z4,e]at h;split at h
  ·rename_i a;simp[Zp.isAgg,a]at b
  ·rename_i a;simp[Zp.isAgg,a]at b
  ·rename_i a;simp[Zp.isAgg,a]at b
  ·rename_i c a;exact⟨c,a⟩
  ·cases h
def ZoY{b:BinOp}{t F:TypeId}{x y:Operand}{r:Zp}{B p:LA}{e f:List KL}(s:TOK P T)(ho:o.op= .binOp b t x y F)(l:T t=some r)(g:r.isAgg=true)(K:ρ x= .agg B)(I:ρ y= .agg p)
  (M:klAll B=some e) (D:klAll p=some f) (q:Z4 T 100 t e=true) (J:Z4 T 100 t f=true) (k:b= .eql\/b= .neq):YQ P o ρ (.bool (if b= .eql then e==f else !(e==f))):=fun E a h=>by
 have j:=h x sO;have m:=h y sO;obtain⟨d,G,z,A⟩:=Zd (s t r l);rw[K]at j;rw[I]at m;obtain⟨C,i⟩:=ZbZ l q g;have n:execOp a.eval o=(do let v<-(do eqGuard b t x y (a.eval x) (a.eval y);binOp b t (a.eval x) (a.eval y));pure (Next.value v)):=by simp only[execOp,ho]
 generalize N:a.eval x=u at j n;generalize O:a.eval y=v at m n;cases j with|agg _ us hl1 hv1=>
 cases m with|agg _ vs hl2 hv2=>
 have L:=Zcs M ⟨hl1,hv1⟩;have H:=Zcs D ⟨hl2,hv2⟩;subst L;subst H;refine⟨.bool (if b= .eql then e==f else !(e==f)),fun w=>?_,.bool _⟩;have c:=Zdh s 100 t r e f l q J 10000 om w;simp only[XM,g,if_true]at c;rw[n];rcases k with rfl|rfl
 ·simp only[Sem.run_bind,run_eqGuard_agg w _ t x y _ _ (A.stood C i).2,Result.andThen_ok,run_eql_struct,c,Sem.run_pure,if_true]
 ·simp only[Sem.run_bind,run_eqGuard_agg w _ t x y _ _ (A.stood C i).2,Result.andThen_ok,run_neq_struct,c,Sem.run_pure,reduceCtorEq,if_false]
end ops
def XQ(q:List KL):List (List KL)->Nat->Option Nat
 |[],_=>none
 |l::r,i=>if q=l then some i else XQ q r (i+1)
def Za0{q:List KL}:∀{a:List (List KL)} {i j:Nat},XQ q a i=some j->i<=j/\a[j - i]? =some q
 |[],_,_,h=>by cases h
 |l::r,i,j,h=>by
  simp only[XQ]at h;split at h
  ·rename_i e;cases h;subst e;simp
  ·obtain⟨c,b⟩:=Za0 h;refine⟨om,?_⟩;rw[show j - i=(j - (i+1))+1 by omega,U1];exact b
def Zk5(q:List KL):List MapEntry->List (List KL)->Nat->Option (Nat×Value)
 |e::es,l::ls,i=>if q=l then some (i,e.val)else Zk5 q es ls (i+1)
 |_,_,_=>none
theorem ZnL{q:List KL}:∀{b:List MapEntry} {a:List (List KL)} {i:Nat},b.length=a.length->Zk5 q b a i=(XQ q a i).bind fun j=>(b[j - i]?).map fun e=>(j,e.val)
 |[],[],_,_=>rfl
 |e::b,l::a,i,h=>by
  simp only[Zk5,XQ];split
  ·simp
  ·rw[ZnL (by simpa using h)];cases c:XQ q a (i+1)with
   |none=>rfl
   |some j=>
    obtain⟨d,_⟩:=Za0 c;simp only[UY];rw[show j - i=(j - (i+1))+1 by omega,U1]
 |[],_::_,_,h=>by simp at h
 |_::_,[],_,h=>by simp at h
section
variable {P:Program} {T:TT}
def Vg{d t:Nat}{r:Zp}{l:List KL}(f:T t=some r)(h:Z4 T d t l=true)(e:r.isAgg=false):
  (∃k n,r.td= .int k/\l=[.int k n])\/(∃s,r.td= .str/\l=[.str s])\/ ∃b,r.td= .bool/\l=[.bool b]:=by
 cases d with
 |zero=>simp[Z4]at h
 |succ d=>
  simp only[Z4,f]at h;split at h
  ·rename_i k a;split at h
   ·rename_i i n;simp only[beq_iff_eq]at h;subst h;exact .inl ⟨k,n,a,rfl⟩
   ·cases h
  ·rename_i a;split at h
   ·exact .inr (.inl ⟨_,a,rfl⟩)
   ·cases h
  ·rename_i a;split at h
   ·exact .inr (.inr ⟨_,a,rfl⟩)
   ·cases h
  ·rename_i g c;simp[Zp.isAgg,c]at e
  ·cases h
def fits_int{k:IntKind}{d:TypeDesc}(h:(TD.int k).fits d=true):d= .int k:=by
 cases d<;>simp[TD.fits]at h;rw[h]
def fits_bool{d:TypeDesc}(h:TD.bool.fits d=true):d= .bool:=by
 cases d<;>simp[TD.fits]at h;rfl
def ZbR {fs : List (Nat × TypeId)} {d : TypeDesc} (h : (TD.struct fs).fits d = true) : ∃ gs, d = .struct gs ∧ gs.toList.map (fun g => (g.offset, g.type)) = fs ∧ ∀ g ∈ gs.toList, g.name ≠ "_" := by
 cases d<;>try(simp[TD.fits]at h;done)
 rename_i gs;simp only[TD.fits,Qb,beq_iff_eq,Qw,bne_iff_ne]at h;exact⟨gs,rfl,h.1,h.2⟩
def ZmG{t d:Nat}{r:Zp}{q l:List KL}{e:TypeDesc}(f:T t=some r)(a:r.td.fits e=true)(c:r.isAgg=false)(g:Z4 T d t q=true)(h:Z4 T d t l=true):
  Instr.sameNow e (XM r q) (XM r l)=some (decide (q=l)):=by
 rcases Vg f g c with⟨k,n,hk,rfl⟩|⟨s,hk,rfl⟩|⟨b,hk,rfl⟩<;>rcases Vg f h c with⟨k',n',hk',rfl⟩|⟨s',hk',rfl⟩|⟨b',hk',rfl⟩<;>rw[hk]at hk' a<;>cases hk'
 ·obtain rfl:=fits_int a;simp only[XM,c,QE,if_false,Qs,UJ,MF,KL.val,Instr.sameNow,if_true];rw[Qp,U7];simp
 ·obtain rfl:=V7 a;simp only[XM,c,QE,if_false,Qs,UJ,MF,KL.val,Instr.sameNow];rw[Qp,U7,beq_toListBytes,ByteArray.toList_mk,ByteArray.toList_mk];simp
 ·obtain rfl:=fits_bool a;simp only[XM,c,QE,if_false,Qs,UJ,MF,KL.val,Instr.sameNow];rw[Qp,U7];simp
theorem Zgx{t d:Nat}{r:Zp}{q:List KL}{k:TypeDesc}(m:T t=some r)(a:r.td.fits k=true)(c:r.isAgg=false)(j:Z4 T d t q=true):∀(b:List MapEntry) (f:List (List KL)) (i:Nat),
  b.map (·.key)=f.map (XM r)->(∀l∈f,Z4 T d t l=true)->Instr.findNow k (XM r q) b i=some (Zk5 q b f i)
 |[],[],_,_,_=>rfl
 |e::b,l::f,i,h,hf=>by
  simp only[Qs,Ug]at h;simp only[Instr.findNow,h.1,ZmG m a c j (hf l sm),Zk5];by_cases g:q=l
  ·simp[g]
  ·simp only[g,decide_false,if_false];exact Zgx m a c j b f (i+1) h.2 (fun l n=>hf l (Qx _ n))
 |[],_::_,_,h,_=>by simp at h
 |_::_,[],_,h,_=>by simp at h
theorem ZcL(f:TOK P T){t:Nat}{r:Zp}{q:List KL}(g:T t=some r)(d:Z4 T 100 t q=true)(w:World):∀(a:List MapEntry) (b:List (List KL)) (i:Nat),
  a.map (·.key)=b.map (XM r)->(∀l∈b,Z4 T 100 t l=true)->(Instr.findAsking t (XM r q) a i).run P w= .ok (Zk5 q a b i) w
 |[],[],_,_,_=>rfl
 |e::a,l::b,i,h,hf=>by
  simp only[Qs,Ug]at h;have j:(Op.equal t (XM r q) (XM r l)).run P w= .ok (q==l) w:=Zdh f 100 t r q l g d (hf l sm) 10000 om w;simp only[Instr.findAsking,h.1,Sem.run_bind,j,Result.andThen_ok,Zk5];by_cases c:q=l
  ·simp[c]
  ·simp only[c,beq_iff_eq,if_false];exact ZcL f g d w a b (i+1) h.2 (fun l k=>hf l (Qx _ k))
 |[],_::_,_,h,_=>by simp at h
 |_::_,[],_,h,_=>by simp at h
def ZlW(j:TOK P T){t:Nat}{r:Zp}{q:List KL}(e:T t=some r)(f:Z4 T 100 t q=true)(w:World)(b:List MapEntry)(d:List (List KL))
  (h:b.map (·.key)=d.map (XM r)) (i:∀l∈d,Z4 T 100 t l=true):(Instr.findKey t (XM r q) b).run P w= .ok (Zk5 q b d 0) w:=by
 obtain⟨m,k,z,a⟩:=Zd (j t r e);cases c:r.isAgg with
 |false=>
  simp[Instr.findKey,run_underlying a.und,Zgx e a.fits c f b d 0 h i]
 |true=>
  obtain⟨o,g⟩:=ZbZ e f c;obtain⟨n,rfl,_⟩:=ZbR (g▸a.fits);rw[run_findKey_eq w (by rw[a.und])];exact ZcL j e f w b d 0 h i
def Ze1(hT:TOK P T)(em:Bool):∀(d:Nat) (t:TypeId) (r:Zp) (l:List KL),T t=some r->Z4 T d t l=true-> ∀dd,d<=dd-> ∀w:World,(Instr.checkKey em dd t (XM r l)).run P w= .ok () w
 |0,_,_,_,_,h,_,_,_=>by simp[Z4]at h
 |d+1,t,r,l,h1,hk,dd,hd,w=>by
  obtain⟨dd,rfl⟩:∃x,dd=x+1:=⟨dd - 1,om⟩
  obtain⟨de,inf,z,hrf⟩:=Zd (hT t r h1);cases hag:r.isAgg with
  |false=>
   rcases Vg h1 hk hag with⟨k,n,hk',rfl⟩|⟨s,hk',rfl⟩|⟨b,hk',rfl⟩
   ·have:=fits_int (hk'▸hrf.fits);subst this;simp[Instr.checkKey,run_underlying hrf.und,XM,hag,KL.val]
   ·have:=V7 (hk'▸hrf.fits);subst this;simp[Instr.checkKey,run_underlying hrf.und,XM,hag,KL.val]
   ·have:=fits_bool (hk'▸hrf.fits);subst this;simp[Instr.checkKey,run_underlying hrf.und,XM,hag,KL.val]
  |true=>
   obtain⟨fs,hfs⟩:=ZbZ h1 hk hag;obtain⟨gs,rfl,hgs,hn⟩:=ZbR (hfs▸hrf.fits);simp only[Z4,h1,hfs,Qb,beq_iff_eq,Qw]at hk;obtain⟨⟨hlen,hcv⟩,hall⟩:=hk;have hle:∀(fl:List (Nat×TypeId)) (n x:Nat),covers T fl n=some x->n<=x/\ ∀p∈fl,∀rf,T p.2=some rf->p.1+rf.size<=x:=by
    intro fl;induction fl with
    |nil=>intro n x h;simp only[covers,Qp]at h;exact⟨om,sm⟩
    |cons p fl ih=>
     intro n x h;obtain⟨o,ft⟩:=p;simp only[covers]at h;split at h
     ·rename_i ho;split at h
      ·rename_i rf hrf';obtain⟨a1,a2⟩:=ih _ _ h;refine⟨om,fun p hp rf' hrf2=>?_⟩;rcases Ql.1 hp with rfl|hp
       ·simp only[hrf',Qp]at hrf2;subst hrf2;simp only;omega
       ·exact a2 p hp rf' hrf2
      ·cases h
     ·cases h
   have hin:=(hle _ _ _ hcv).2;simp only[XM,hag,if_true];unfold Instr.checkKey;simp only[Sem.run_bind,run_underlying hrf.und,Result.andThen_ok];rw[<-Array.forIn_toList];have key:∀(gl:List Field),(∀g∈gl,(g.offset,g.type)∈fs)-> ∀w:World,
     (forIn gl PUnit.unit fun f (_ : PUnit) => (if f.name ≠ "_" then do
       let a<-part f.type (l.map KL.val).toArray f.offset
       Instr.checkKey em dd f.type a
       pure (ForInStep.yield PUnit.unit)
      else pure (ForInStep.yield PUnit.unit):Sem (ForInStep PUnit))).run P w= .ok PUnit.unit w:=by
    intro gl;induction gl with
    |nil=>intro _ w;rfl
    |cons g gl ih=>
     intro hg w;have hgf:=hall _ (hg g sm);cases hrg:T g.type with
     |none=>rw[hrg]at hgf;simp at hgf
     |some rf=>
      simp only[hrg]at hgf;have hpart:=Zbg hT hrg (d:=d) (l:=l) (off:=g.offset) (by rw[hlen];exact hin _ (hg g sm) rf hrg) hgf;have hck:=Ze1 hT em d g.type rf _ hrg hgf dd om;simp only[List.forIn_cons,Sem.run_bind,Sem.run_ite];split
      ·simp only[hpart,hck,Sem.run_bind,Result.andThen_ok,Sem.run_pure];exact ih (fun g hg'=>hg g (Qx _ hg')) w
      ·simp only[Sem.run_pure,Result.andThen_ok];exact ih (fun g hg'=>hg g (Qx _ hg')) w
   have:=key gs.toList (fun g hg=>by rw[<-hgs];exact Qg.2 ⟨g,hg,rfl⟩) w;rw[this];rfl
def Zk8(r:Zp)(l:List KL)(e:r.isAgg=false-> ∃x,l=[x]):Instr.sameBits 10000 (XM r l) (XM r l)=true:=by
 have c:∀(x:KL) n,Instr.sameBits n x.val x.val=true:=by
  intro x n;cases x with
  |int k n=>simp[KL.val,Instr.sameBits]
  |bool b=>simp[KL.val,Instr.sameBits]
  |str s=>simp only[KL.val,Instr.sameBits];rw[beq_toListBytes];simp
 unfold XM;cases a:r.isAgg with
 |true=>
  simp only[if_true,Instr.sameBits,beq_self_eq_true,QX,Qw];intro p d;obtain⟨i,f,rfl⟩:=QK d;simp only[List.getElem_zip];rw[QZ];exact c _ _
 |false=>
  obtain⟨x,rfl⟩:=e a;simp only[QE,if_false,Qs,UJ,MF];exact c x _
def Zkv{t d:Nat}{r:Zp}{l:List KL}(c:T t=some r)(h:Z4 T d t l=true)(w:World):(Instr.keyThatStays (XM r l) (XM r l)).run P w= .ok (XM r l) w:=by
 simp only[Instr.keyThatStays];rw[if_pos (Zk8 r l (fun a=>by
  rcases Vg c h a with⟨k,n,_,e⟩|⟨s,_,e⟩|⟨b,_,e⟩<;>exact⟨_,e⟩))]
 rfl
end
def AV.isAgg:AV->Bool
 | .agg _=>true
 |_=>false
def AV.kls(a:AV):List KL:=(klAll a.cells).getD []
def Yv(T:TT)(b:TypeId)(a:AV):Bool:=match T b with
 |some rk=>match klAll a.cells with
  |some l=>Z4 T 100 b l&&a.isAgg==rk.isAgg
  |none=>false
 |none=>false
def Xv(k:AV)(a:List (AV×AV)):Option Nat:=XQ k.kls (a.map fun p=>p.1.kls) 0
def XI(r:Zp):AV:=if r.isAgg then .agg r.zero else r.zero.getD 0 .dead
def Zda{T:TT}{d:TypeId}{a:AV}(h:Yv T d a=true):∃b,T d=some b/\klAll a.cells=some a.kls/\Z4 T 100 d a.kls=true/\a.isAgg=b.isAgg:=by
 unfold Yv at h;split at h
 ·rename_i b c;split at h
  ·rename_i l e;simp only[Qb,beq_iff_eq]at h;exact⟨b,c,by simp[AV.kls,e],by simpa[AV.kls,e]using h.1,h.2⟩
  ·cases h
 ·cases h
def ZiX{E:Env}{T:TT}{i:TypeId}{a:AV}{v:Value}{f:Zp}(h:Yv T i a=true)(g:T i=some f)(m:VR E a v):v=XM f a.kls:=by
 obtain⟨o,j,c,p,d⟩:=Zda h;rw[g]at j;cases j;cases m with
 |agg cs vs hl hvs=>
  have:f.isAgg=true:=by rw[<-d];rfl
  have e:=Zcs c ⟨hl,hvs⟩;simp only[XM,this,if_true];rw[<-e]
 |int k n=>simp only[AV.cells,klAll,AV.kl,Qp]at c;rw[<-c];simp[XM,<-d,AV.isAgg,KL.val]
 |bool b=>simp only[AV.cells,klAll,AV.kl,Qp]at c;rw[<-c];simp[XM,<-d,AV.isAgg,KL.val]
 |str l=>simp only[AV.cells,klAll,AV.kl,Qp]at c;rw[<-c];simp[XM,<-d,AV.isAgg,KL.val]
 |_=>simp[AV.cells,klAll,AV.kl]at c
section
variable {P:Program} {T:TT}
def ZdQ(s:TOK P T){E:Env}{w:World}{f:TypeId}{k:AV}{b:Value}{es:List (AV×AV)}{ent:Array MapEntry}(hk:Yv T f k=true)(c:∀p∈es,Yv T f p.1=true)(hv:VR E k b)(hs:ent.size=es.length)
  (hr:∀i (h:i<es.length) (h':i<ent.size),VR E es[i].1 ent[i].key/\VR E es[i].2 ent[i].val/\ent[i].born=i):
  (∀n,(Instr.checkKey n 10000 f b).run P w= .ok () w)/\(Instr.keyThatStays b b).run P w= .ok b w/\(∀i,Xv k es=some i-> ∃h:i<es.length,∀h':i<ent.size,ent[i].key=b)/\
  (Instr.findKey f b ent.toList).run P w= .ok ((Xv k es).bind fun j=>(ent[j]?).map fun e=>(j,e.val)) w:=by
 obtain⟨t,g,y,q,z⟩:=Zda hk;have v:=ZiX hk g hv;subst v;have d:ent.toList.map (·.key)=(es.map fun p=>p.1.kls).map (XM t):=by
  apply Gv
  ·simp[hs]
  ·intro i r o;simp only[Qv,Uh]at r o;simp only[QZ,MJ];exact ZiX (c _ (Qa o)) g (hr i o r).1
 have hf:∀l∈es.map (fun p=>p.1.kls),Z4 T 100 f l=true:=by
  intro l hl;obtain⟨p,u,rfl⟩:=Qg.1 hl;obtain⟨_,_,_,h,_⟩:=Zda (c p u);exact h
 refine⟨fun n=>Ze1 s n 100 f t _ g q 10000 om w,Zkv g q w,fun i x=>?_,?_⟩
 ·obtain⟨_,m⟩:=Za0 x;rw[MV,Ub]at m;cases hg:es[i]? with
  |none=>rw[hg]at m;cases m
  |some p=>
   rw[hg,Ut,Qp]at m;have a:i<es.length:=by
    rcases Qd i es.length with h|h
    ·exact h
    ·rw[Uw h]at hg;cases hg
   refine⟨a,fun h'=>?_⟩;have:=ZiX (c _ (Qa a)) g (hr i a h').1;rw[Qe a,Qp]at hg;rw[hg,m]at this;exact this
 ·rw[ZlW s g q w ent.toList _ d hf,ZnL (by simp[hs])];simp[Xv]
def Zgw{k:AV}{a:List (AV×AV)}{i:Nat}(h:Xv k a=some i):i<a.length:=by
 obtain⟨_,b⟩:=Za0 h;rw[MV,Ub]at b;rcases Qd i a.length with h|h
 ·exact h
 ·rw[Uw h]at b;cases b
def Zce{E:Env}{t:TypeId}{r:Zp}{d:TypeDesc}{i:TypeInfo}{z:Value}(hf:VP P t r d i z)(j:r.isAgg=false->r.size=1):VR E (XI r) z:=by
 have h:=Y5 (E:=E) hf.zfits;unfold XI;cases a:r.isAgg with
 |true=>
  have b:isAggV z=true:=by rw[<-hf.zagg];exact a
  cases z<;>simp[isAggV]at b;simp only[if_true];exact .agg _ _ h.1 h.2
 |false=>
  have b:isAggV z=false:=by rw[<-hf.zagg];exact a
  have g:=hf.zsize;have hc:z.cells= #[z]:=by cases z<;>simp[isAggV]at b<;>rfl
  rw[hc]at h;obtain⟨e,c⟩:=h;simp only[Qm,Qz]at e;simp only[QE,if_false];have f:=c 0 om sm;simpa[Qk,Qe (show 0<r.zero.length by omega)]using f
def mapOf(T:TT)(t:TypeId):Option (TypeId×TypeId×Zp):=
 match T t with
 |some r=>match r.td with
  | .map k e=>(T e).map fun a=>(k,e,a)
  |_=>none
 |none=>none
def VA(g:TOK P T){t k e:TypeId}{b:Zp}(h:mapOf T t=some (k,e,b)):P.underlying t=some (.map k e)/\T e=some b:=by
 unfold mapOf at h;split at h
 ·rename_i r j;split at h
  ·rename_i o n c;simp only[Ur]at h;obtain⟨m,l,f⟩:=h;cases f;obtain⟨d,i,z,a⟩:=Zd (g t r j);have:=a.fits;rw[c]at this;cases d<;>simp[TD.fits]at this;obtain⟨rfl,rfl⟩:=this;exact⟨a.und,l⟩
  ·cases h
 ·cases h
end
section ops
variable {P:Program} {T:TT} {o:Oper} {ρ:Operand->AV}
def ZgX{m:Nat}{H:Za}{t:TypeId}{l k:Nat}(d:o.op= .makeMap t none)(f:l<m)(b:H l k=none):
  Z5 P m o ρ H (.map l k) (H.upd l k (.map [])):=fun E w a j c=>by
 have e:execOp a.eval o=(do let v<-Instr.makeMap t none;pure (Next.value v)):=by simp only[execOp,d];rfl
 obtain⟨g,n⟩:=j.Zcv f b (.map #[] 0) (.map []) ⟨w.heap.size,by simp[Env.XG],#[],heap_alloc_new w _,rfl,fun i h=>absurd h (Qj _)⟩;refine⟨.map (some w.heap.size),_,_,.inl ?_,.map l k _ (by simp[Env.XG]),g,n⟩;rw[e];simp[Instr.makeMap,newObj,Sem.run]
def nilA(v:AV):AV:=match v with
 | .sl _ [] .full=>.Xd
 |v=>v
theorem Zho{k:Nat}{z:Value}(h:fitsConst (.sl k [] .full) z=true):z= .slice none 0 0:=by
 cases z with
 |slice a n c=>
  cases a with
  |none=>
   cases n with
   |zero=>cases c with
    |zero=>rfl
    |succ c=>simp[fitsConst]at h
   |succ n=>simp[fitsConst]at h
  |some a=>simp[fitsConst]at h
 |_=>simp[fitsConst]at h
def ZfK{E:Env}{t:TypeId}{r:Zp}{d:TypeDesc}{i:TypeInfo}{z:Value}(f:VP P t r d i z)(g:r.isAgg=false->r.size=1):VR E (nilA (XI r)) z:=by
 have h:=Zce (E:=E) f g;unfold nilA;split
 ·rename_i k b;cases c:r.isAgg with
  |true=>simp[XI,c]at b
  |false=>
   have l:isAggV z=false:=by rw[<-f.zagg];exact c
   have j:z.cells= #[z]:=by cases z<;>simp[isAggV]at l<;>rfl
   have e:=f.zfits;rw[j]at e;simp only[XI,c,QE,if_false]at b
   match hzz:r.zero with
   |[]=>rw[hzz]at b;simp at b
   |a::az=>
    rw[hzz]at b e;simp only[MF]at b;subst b;simp only[fitsAll,Qb]at e;rw[Zho e.1];exact .Xd
 ·exact h
def lookA(b:Zp)(k:AV)(a:List (AV×AV))(c:Bool):AV:=
 let r:AV×Bool:=match Xv k a with
  |some i=>((a.getD i (.dead,.dead)).2,true)
  |none=>(nilA (XI b),false)
 if c then .tup [r.1,.bool r.2]else r.1
def Zih{m:Nat}{H:Za}{t:TypeId}{x y:Operand}{h:Bool}{I e:TypeId}{B:Zp}{l j:Nat}{k:AV}{n:List (AV×AV)}(J:TOK P T)(ho:o.op= .lookup t x y h)(W:mapOf T t=some (I,e,B))(L:B.isAgg=false->B.size=1)
  (hx:ρ x= .map l j) (X:ρ y=k) (Y:H l j=some (.map n)) (V:Yv T I k=true) (K:∀p∈n,Yv T I p.1=true):
  Z5 P m o ρ H (lookA B k n h) H:=fun E w a C f=>by
 have r:=f x sO;have A:=f y sO;rw[hx]at r;rw[X]at A;obtain⟨Q,F⟩:=VA J W;obtain⟨d',i',G,q⟩:=Zd (J e B F);have S:execOp a.eval o=(do let v<-Instr.lookup t (a.eval x) (a.eval y) h;pure (Next.value v)):=by simp only[execOp,ho]
 generalize O:a.eval x=p at r;cases r with|map _ _ b hm=>
 obtain⟨b',u,d,hc,Z,U⟩:=C.map l j n (C.norm.J8 hm) Y;rw[hm]at u;cases u;obtain⟨N,f2,f3,s⟩:=ZdQ J (w:=w) V K A Z U;have M:(getObj b).run P w= .ok (.map d n.length) w:=by simp[getObj,Sem.run,hc]
 cases c:Xv k n with
 |none=>
  rw[c]at s;simp only[Qbp]at s;refine⟨if h then .tuple #[G,.bool false]else G,E,w,.inl ?_,?_,C,.refl m E w⟩
  ·rw[S,O];simp only[Instr.lookup,Sem.run_bind,run_underlying Q,Result.andThen_ok,M,Sem.run_pure,N,s,Yg q]
  ·unfold lookA;rw[c];cases h with
   |true=>exact .tup _ [G,.bool false] rfl ((VRs.cons (ZfK q L) (VRs.cons (.bool _) (VRs.nil E))).2)
   |false=>exact ZfK q L
 |some i=>
  rw[c]at s;have R:=Zgw c;have z:i<d.size:=om;simp only[UY,UD z,Ut]at s;have g:=(U i R z).2.1;refine⟨if h then .tuple #[d[i].val,.bool true]else d[i].val,E,w,.inl ?_,?_,C,.refl m E w⟩
  ·rw[S,O];simp only[Instr.lookup,Sem.run_bind,run_underlying Q,Result.andThen_ok,M,Sem.run_pure,N,s]
  ·unfold lookA;rw[c];have D:(n.getD i (.dead,.dead)).2=n[i].2:=by simp[Qk,Qe R]
   simp only[D];cases h with
   |true=>exact .tup _ [d[i].val,.bool true] rfl ((VRs.cons g (VRs.cons (.bool _) (VRs.nil E))).2)
   |false=>exact g
def ZcQ{t:TypeId}{x y:Operand}{f:Bool}{m e:TypeId}{j:Zp}{k:AV}(n:TOK P T)(ho:o.op= .lookup t x y f)(A:mapOf T t=some (m,e,j))(s:j.isAgg=false->j.size=1)
  (F:ρ x= .nilm) (C:ρ y=k) (u:Yv T m k=true):YQ P o ρ (lookA j k [] f):=fun E a b=>by
 have d:=b x sO;have g:=b y sO;rw[F]at d;rw[C]at g;obtain⟨D,r⟩:=VA n A;obtain⟨I,L,l,c⟩:=Zd (n e j r);have H:execOp a.eval o=(do let v<-Instr.lookup t (a.eval x) (a.eval y) f;pure (Next.value v)):=by simp only[execOp,ho]
 generalize B:a.eval x=p at d;cases d;refine⟨if f then .tuple #[l,.bool false]else l,fun w=>?_,?_⟩
 ·obtain⟨z,J,K,G⟩:=ZdQ n (w:=w) (es:=[]) (ent:=#[]) u sm g rfl (fun i h=>absurd h (Qj _));rw[H,B];have q:(Instr.findKey m (a.eval y) []).run P w= .ok none w:=G;simp only[Instr.lookup,Sem.run_bind,run_underlying D,Result.andThen_ok,Sem.run_pure,z,q,Yg c]
 ·unfold lookA;have:Xv k []=none:=rfl;rw[this];cases f with
  |true=>exact .tup _ [l,.bool false] rfl ((VRs.cons (ZfK c s) (VRs.cons (.bool _) (VRs.nil E))).2)
  |false=>exact ZfK c s
def Zat(k v:AV)(a:List (AV×AV)):List (AV×AV):=
 match Xv k a with
 |some i=>a.set i (k,v)
 |none=>a++[(k,v)]
def V6{w:World}{b:Nat}{d:Array MapEntry}{c:Nat}{a:Obj}(e:w.heap[b]? =some (.map d c)):(setObj b a).run P w= .ok () {w with heap:=w.heap.setIfInBounds b a}:=by
 simp[setObj,Sem.run,e]
def Zb2{m:Nat}{H:Za}{E:Env}{w:World}(hr:Zo m H E w){l j b:Nat}(hm:E.m l j=some b){x:Obj}(hb:w.heap[b]? =some x){es:List (AV×AV)}{ent:Array MapEntry}(hs:ent.size=es.length)
  (hv:∀i (h:i<es.length) (h':i<ent.size),VR E es[i].1 ent[i].key/\VR E es[i].2 ent[i].val/\ent[i].born=i):
  Zo m (H.upd l j (.map es)) E {w with heap:=w.heap.setIfInBounds b (.map ent es.length)}/\Ext m E w E {w with heap:=w.heap.setIfInBounds b (.map ent es.length)}:=by
 have c:b<w.heap.size:=(QO.1 hb).1;exact hr.turn (.inl hm) (.map es) (fun hg=>absurd (hr.m_g hm) hg) rfl rfl rfl (fun _=>Qi _) sm (fun d a=>by simp[UO (Ne.symm a)]) (fun o=>hr.mF _ _ _ o hm)
  ⟨b,hm,ent,by simp[c],hs,hv⟩
def Zbb{m:Nat}{H:Za}{t:TypeId}{x y z:Operand}{I e:TypeId}{re:Zp}{l j:Nat}{k v:AV}{es:List (AV×AV)}(O:TOK P T)(ho:o.op= .mapUpdate t x y z\/o.op= .insert t x y z)(Y:mapOf T t=some (I,e,re))
  (hx:ρ x= .map l j) (hy:ρ y=k) (Z:ρ z=v) (hH:H l j=some (.map es)) (W:Yv T I k=true) (K:∀p∈es,Yv T I p.1=true):
  Z5 P m o ρ H (.tup []) (H.upd l j (.map (Zat k v es))):=fun E w a F d=>by
 have r:=d x (by rcases ho with ho|ho<;>simp[ho,Op.operands]);have g:=d y (by rcases ho with ho|ho<;>simp[ho,Op.operands]);have q:=d z (by rcases ho with ho|ho<;>simp[ho,Op.operands]);rw[hx]at r;rw[hy]at g;rw[Z]at q;obtain⟨R,V⟩:=VA O Y;have U:execOp a.eval o=(do Instr.mapUpdate t (a.eval x) (a.eval y) (a.eval z);pure .skip):=by rcases ho with ho|ho<;>simp only[execOp,ho]
 generalize Q:a.eval x=p at r;cases r with|map _ _ b hm=>
 obtain⟨b',A,ent,D,G,L⟩:=F.map l j es (F.norm.J8 hm) hH;rw[hm]at A;cases A;obtain⟨N,f2,f3,u⟩:=ZdQ O (w:=w) W K g G L;have M:(getObj b).run P w= .ok (.map ent es.length) w:=by simp[getObj,Sem.run,D]
 cases c:Xv k es with
 |none=>
  rw[c]at u;simp only[Qbp]at u;have f:Zat k v es=es++[(k,v)]:=by simp only[Zat,c]
  obtain⟨J,s⟩:=Zb2 F hm D (es:=es++[(k,v)]) (ent:=ent.push {key:=a.eval y,val:=a.eval z,born:=es.length}) (by simp[G]) (fun i h X=>by
   rcases Qd i es.length with hi|hi
   ·rw[Gx hi,QbB om];exact L i hi om
   ·have:i=es.length:=by simp at h;omega
    subst this;simp only[Qa7];simp only[<-G,QbA];exact⟨g,q,trivial⟩)
  refine⟨undef,E,_,.inr ⟨?_,rfl⟩,XP E,by rw[f];exact J,s⟩;rw[U,Q];simp only[Instr.mapUpdate,Sem.run_bind,run_underlying R,Result.andThen_ok,M,N,u,V6 D,Sem.run_pure,Qh,Qm,Qz,Qy]
 |some i=>
  rw[c]at u;have hi:=Zgw c;have n:i<ent.size:=om;simp only[UY,UD n,Ut]at u;have C:ent[i].key=a.eval y:=by obtain⟨_,h⟩:=f3 i c;exact h n
  have f:Zat k v es=es.set i (k,v):=by simp only[Zat,c]
  obtain⟨J,s⟩:=Zb2 F hm D (es:=es.set i (k,v)) (ent:=ent.modify i fun e=>{e with key:=a.eval y,val:=a.eval z}) (by simp[G]) (fun j h X=>by
   simp only[MN]at h;have S:=L j h om;rw[Gw,QaQ];by_cases B:i=j
   ·subst B;simp only[if_true];exact⟨g,q,S.2.2⟩
   ·simp only[B,if_false];exact S)
  refine⟨undef,E,_,.inr ⟨?_,rfl⟩,XP E,by rw[f];exact J,s⟩;rw[U,Q];simp only[Instr.mapUpdate,Sem.run_bind,run_underlying R,Result.andThen_ok,M,N,u,UD n,Ut,Ul,C,f2,V6 D,Sem.run_pure,MN]
def Zfp(b:Zp)(k:AV)(a:List (AV×AV)):AV×List (AV×AV):=
 match Xv k a with
 |some i=>(.tup [(a.getD i (.dead,.dead)).2,.int .i64 i],a.set i (k,(a.getD i (.dead,.dead)).2))
 |none=>(.tup [XI b,.int .i64 a.length],a++[(k,XI b)])
def ZkO{m:Nat}{H:Za}{t:TypeId}{x y:Operand}{N e:TypeId}{g:Zp}{l j:Nat}{k:AV}{es:List (AV×AV)}(O:TOK P T)(ho:o.op= .mapEntry t x y)(h1:mapOf T t=some (N,e,g))(U:g.isAgg=false->g.size=1)
  (hx:ρ x= .map l j) (hy:ρ y=k) (hH:H l j=some (.map es)) (hk:Yv T N k=true) (S:∀p∈es,Yv T N p.1=true):
  Z5 P m o ρ H (Zfp g k es).1 (H.upd l j (.map (Zfp g k es).2)):=fun E w a I q=>by
 have s:=q x sO;have n:=q y sO;rw[hx]at s;rw[hy]at n;obtain⟨Y,L⟩:=VA O h1;obtain⟨d',i',M,r⟩:=Zd (O e g L);have Z:execOp a.eval o=(do let v<-Instr.mapEntry t (a.eval x) (a.eval y);pure (Next.value v)):=by simp only[execOp,ho]
 generalize X:a.eval x=p at s;cases s with|map _ _ b hm=>
 obtain⟨b',B,ent,G,J,F⟩:=I.map l j es (I.norm.J8 hm) hH;rw[hm]at B;cases B;obtain⟨W,f2,f3,A⟩:=ZdQ O (w:=w) hk S n J F;have V:(getObj b).run P w= .ok (.map ent es.length) w:=by simp[getObj,Sem.run,G]
 cases d:Xv k es with
 |none=>
  rw[d]at A;simp only[Qbp]at A;have c:Zfp g k es=(.tup [XI g,.int .i64 es.length],es++[(k,XI g)]):=by simp only[Zfp,d]
  obtain⟨Q,u⟩:=Zb2 I hm G (es:=es++[(k,XI g)]) (ent:=ent.push {key:=a.eval y,val:=M,born:=es.length}) (by simp[J]) (fun i h h'=>by
   rcases Qd i es.length with hi|hi
   ·rw[Gx hi,QbB om];exact F i hi om
   ·have:i=es.length:=by simp at h;omega
    subst this;simp only[Qa7];simp only[<-J,QbA];exact⟨n,Zce r U,trivial⟩)
  refine⟨.tuple #[M,.int .i64 es.length],E,_,.inl ?_,?_,by rw[c];exact Q,u⟩
  ·rw[Z,X];simp only[Instr.mapEntry,Sem.run_bind,run_underlying Y,Result.andThen_ok,V,W,A,Yg r,V6 G,Sem.run_pure,Qh,Qm,Qz,Qy,goInt]
  ·rw[c];exact .tup _ [M,.int .i64 es.length] rfl ((VRs.cons (Zce r U) (VRs.cons (.int _ _) (VRs.nil E))).2)
 |some i=>
  rw[d]at A;have hi:=Zgw d;have f:i<ent.size:=om;simp only[UY,UD f,Ut]at A;have D:ent[i].key=a.eval y:=by obtain⟨_,h⟩:=f3 i d;exact h f
  have K:(es.getD i (.dead,.dead)).2=es[i].2:=by simp[Qk,Qe hi]
  have c:Zfp g k es=(.tup [es[i].2,.int .i64 i],es.set i (k,es[i].2)):=by simp only[Zfp,d,K]
  have z:=(F i hi f).2.2;obtain⟨Q,u⟩:=Zb2 I hm G (es:=es.set i (k,es[i].2)) (ent:=ent.modify i fun e=>{e with key:=a.eval y}) (by simp[J]) (fun j h h'=>by
   simp only[MN]at h;have R:=F j h om;rw[Gw,QaQ];by_cases C:i=j
   ·subst C;simp only[if_true];exact⟨n,R.2.1,R.2.2⟩
   ·simp only[C,if_false];exact R)
  refine⟨.tuple #[ent[i].val,.int .i64 i],E,_,.inl ?_,?_,by rw[c];exact Q,u⟩
  ·rw[Z,X];simp only[Instr.mapEntry,Sem.run_bind,run_underlying Y,Result.andThen_ok,V,W,A,UD f,Ut,Ul,D,f2,V6 G,Sem.run_pure,MN,goInt,z]
  ·rw[c];exact .tup _ [ent[i].val,.int .i64 i] rfl ((VRs.cons (F i hi f).2.1 (VRs.cons (.int _ _) (VRs.nil E))).2)
def Zhn{a:Array MapEntry}{n i:Nat}(d:a.size=n)(b:∀j (h:j<a.size),a[j].born=j)(f:i<n):a.findIdx? (fun e=>((e.born:Nat):Int)==((i:Nat):Int))=some i:=by
 rw[Array.findIdx?_eq_some_iff_getElem];refine⟨om,?_,fun j c=>?_⟩
 ·simp[b i om]
 ·simp only[b j om,beq_iff_eq];omega
def Zhu{m:Nat}{H:Za}{t:TypeId}{x y z:Operand}{l j:Nat}{i:Nat}{kk:IntKind}{v:AV}{es:List (AV×AV)}(ho:o.op= .entryStore t x y z)(hx:ρ x= .map l j)(F:ρ y= .int kk i)(J:ρ z=v)(I:H l j=some (.map es))(B:i<es.length):
  Z5 P m o ρ H (.tup []) (H.upd l j (.map (es.set i ((es.getD i (.dead,.dead)).1,v)))):=fun E w a hr c=>by
 have d:=c x sO;have f:=c y sO;have k:=c z sO;rw[hx]at d;rw[F]at f;rw[J]at k;have he:execOp a.eval o=(do Instr.entryStore t (a.eval x) (a.eval y) (a.eval z);pure .skip):=by simp only[execOp,ho]
 generalize C:a.eval x=p at d;generalize D:a.eval y=q at f;cases d with|map _ _ b hm=>
 cases f;obtain⟨K,g,ent,hc,hs,hv⟩:=hr.map l j es (hr.norm.J8 hm) I;rw[hm]at g;cases g;have hg:(getObj b).run P w= .ok (.map ent es.length) w:=by simp[getObj,Sem.run,hc]
 have A:=Zhn hs (fun j h=>(hv j om h).2.2) B;have r:(es.getD i (.dead,.dead)).1=es[i].1:=by simp[Qk,Qe B]
 obtain⟨G,s⟩:=Zb2 hr hm hc (es:=es.set i (es[i].1,v)) (ent:=ent.modify i fun e=>{e with val:=a.eval z}) (by simp[hs]) (fun j h h'=>by
   simp only[MN]at h;have u:=hv j h om;rw[Gw,QaQ];by_cases n:i=j
   ·subst n;simp only[if_true];exact⟨u.1,k,u.2.2⟩
   ·simp only[n,if_false];exact u)
 refine⟨undef,E,_,.inr ⟨?_,rfl⟩,XP E,by rw[r];exact G,s⟩;rw[he,C,D];simp only[Instr.entryStore,Sem.run_bind,Sem.run_pure,Result.andThen_ok,hg,asInt,asIntOf,A,V6 hc,MN]
end ops
def ZaP(P:Program)(m:Nat)(o:Oper)(ρ:Operand->AV)(H:Za)(S:AV->Za->Prop):Prop:=
 ∀E w (a:Act) (Q:Exit->Act->World->Prop) (K:Act->World->Prop),Zo m H E w->(∀x∈o.op.operands,VR E (ρ x) (a.eval x))->
  (∀b c e v d,S v d->VR b v e->Zo m d b c->Ext m E w b c->K (a.put o.dst e) c)-> ∀f,o.wpIn (fr f) 0 P a w K Q
def Zuq(H:Za)(l k d j:Nat)(b:List (AV×AV))(a:List Nat)(v:AV)(c:Za):Prop:=
 ((∀i,i<b.length->i∈a)/\v= .tup [.bool false]/\c=H)\/
 ∃i,i<b.length/\i∉a/\v= .tup [.bool true,(b.getD i (.dead,.dead)).1,(b.getD i (.dead,.dead)).2]/\c=H.upd l k (.iter d j b.length (a++[i]))
def Zo.Zp2{m:Nat}{H:Za}{E:Env}{w:World}(hr:Zo m H E w){l k l' j b a since:Nat}{seen:List Nat}{x:Obj}(hm:E.m l k=some b)(e:E.m l' j=some a)(hb:w.heap[b]? =some x):
  Zo m (H.upd l k (.iter l' j since seen)) E {w with heap:=w.heap.setIfInBounds b (.mapIter (some a) since seen.toArray since)}/\Ext m E w E {w with heap:=w.heap.setIfInBounds b (.mapIter (some a) since seen.toArray since)}:=by
 have d:b<w.heap.size:=(QO.1 hb).1;exact hr.turn (.inl hm) (.iter l' j since seen) (fun hg=>absurd (hr.m_g hm) hg) rfl rfl rfl (fun _=>Qi _) sm (fun a c=>by simp[UO (Ne.symm c)]) (fun o=>hr.mF _ _ _ o hm)
  ⟨b,a,hm,e,by simp[d]⟩
section ops
variable {P:Program} {T:TT} {o:Oper} {ρ:Operand->AV}
def Zqw{m:Nat}{H:Za}{t:TypeId}{x:Operand}{y e:TypeId}{F:Zp}{l k g j:Nat}{f:List (AV×AV)}(z:TOK P T)(ho:o.op= .range t x)(A:mapOf T t=some (y,e,F))
  (J:ρ x= .map g j) (r:H g j=some (.map f)) (C:l<m) (c:H l k=none):
  Z5 P m o ρ H (.ptr l k 0) (H.upd l k (.iter g j f.length [])):=fun E w a s i=>by
 have d:=i x sO;rw[J]at d;obtain⟨G,L⟩:=VA z A;have K:execOp a.eval o=(do let v<-Instr.range t (a.eval x);pure (Next.value v)):=by simp only[execOp,ho]
 generalize B:a.eval x=p at d;cases d with|map _ _ b hm=>
 obtain⟨M,h,I,n,N,O⟩:=s.map g j f (s.norm.J8 hm) r;rw[hm]at h;cases h;have q:¬(g=l/\j=k):=fun n=>by rw[n.1,n.2,c]at r;cases r
 obtain⟨D,u⟩:=s.Zcv C c (.mapIter (some b) f.length #[] f.length) (.iter g j f.length []) ⟨w.heap.size,b,by simp[Env.XG],by simp only[Env.XG];rw[if_neg q];exact hm,heap_alloc_new w _⟩;refine⟨.pointer (some ⟨w.heap.size,0,none⟩),_,_,.inl ?_,.ptr l k 0 _ (by simp[Env.XG]),D,u⟩;rw[K,B];simp[Instr.range,Sem.run_bind,run_underlying G,getObj,Sem.run,n,newObj,Result.andThen]
def run_next_at{w:World}{ty:TypeId}{r p:Nat}{seen:List Nat}{es:Array MapEntry}{n:Nat}(hr:w.heap[r]? =some (.mapIter (some p) n seen.toArray n))(hb:w.heap[p]? =some (.map es n))(hs:es.size=n)
  (a:∀i (h:i<es.size),es[i].born=i):
  ((∀i,i<n->i∈seen)/\(Instr.next (.pointer (some ⟨r,0,none⟩)) false ty).run P w= .ok (.tuple #[.bool false]) w)\/
  ∃(i:Nat) (h:i<es.size),i∉seen/\ ∃dr,w.drawn<=dr/\(Instr.next (.pointer (some ⟨r,0,none⟩)) false ty).run P w= .ok (.tuple #[.bool true,es[i].key,es[i].val]) {w with heap:=w.heap.setIfInBounds r (.mapIter (some p) n (seen++[i]).toArray n),drawn:=dr}:=by
 have k:∀x∈es.toList,x.born<n:=by
  intro x hx;obtain⟨i,b,rfl⟩:=QK hx;simp only[Uh]at b;simp only[MJ,a i b];omega
 simp only[Instr.next,getObj,Sem.run_bind,Sem.run,hr,hb,Result.andThen,next_test_false seen.toArray es n n k (Qi _),QE,if_false];have c:∀x,x∈(Array.filter (fun e=>!seen.toArray.contains e.born) es).toList-> ∃(i:Nat) (h:i<es.size),x=es[i]/\i∉seen:=by
  intro x hx;simp only[Array.toList_filter,MO,Qaj,Array.mem_toList_iff]at hx;obtain⟨i,b,rfl⟩:=Array.getElem_of_mem hx.1;refine⟨i,b,rfl,fun hc=>?_⟩;have:=hx.2;rw[a i b]at this;simp[hc]at this
 have d:(Array.filter (fun e=>!seen.toArray.contains e.born) es).size=0-> ∀i,i<n->i∈seen:=by
  intro g i b;have he:Array.filter (fun e=>!seen.toArray.contains e.born) es= #[]:=U9 g;rw[Qbb]at he;have:=he es[i] (Array.getElem_mem om);rw[a i om]at this;simpa using this
 generalize Array.filter (fun e=>!seen.toArray.contains e.born) es=L at c d⊢;have f:∀x∈L.toList,x.born<n:=by
  intro x hx;obtain⟨i,b,rfl,_⟩:=c x hx;rw[a i b];omega
 have z:L.filter (fun x=>decide (x.born<n))=L:=Array.filter_eq_self.2 (fun x hx=>by simpa using f x (by simpa using hx));have y:L.filter (fun x=>decide (x.born ≥ n))= #[]:=by
  rw[Qbb];intro x hx;have:=f x (by simpa using hx);simp;omega
 simp only[z,y,Array.append_empty];by_cases g:L.size=0
 ·left
  refine⟨d g,?_⟩;have:L= #[]:=U9 g;subst this;simp[choose,Sem.run,Question.forced]
 ·right
  have o:L.isEmpty=false:=by simp[Array.isEmpty,g]
  simp only[o,QE,if_false,Array.empty_append,Array.size_map];have v:∃(j dr:Nat),j<L.size/\w.drawn<=dr/\(choose (Question.mapNext L.size)).run P w= .ok j {w with drawn:=dr}:=by
   by_cases hf:L.size<=1
   ·exact⟨0,w.drawn,om,Qi _,by simp[choose,Sem.run,Question.forced,hf]⟩
   ·exact⟨_,w.drawn+1,Qbw _ om,Uc _,by
     simp only[choose,Sem.run,Question.forced,decide_eq_true_eq,hf,if_false,Question.cut];rfl⟩
  obtain⟨j,dr,A,t,l⟩:=v;obtain⟨i,b,u,q⟩:=c L[j] sm;refine⟨i,b,q,dr,t,?_⟩;have m:∀s,(setObj r s).run P {w with drawn:=dr}= .ok () {w with heap:=w.heap.setIfInBounds r s,drawn:=dr}:=fun s=>by
   simp only[setObj,Sem.run,hr]
  simp only[l,Array.getElem?_map,UD A,Ut,Sem.run_bind,m,Result.andThen];rw[u,a i b];simp[Sem.run]
def Zsa{m:Nat}{H:Za}{x:Operand}{l k z j:Nat}{d:List (AV×AV)}{seen:List Nat}(ho:o.op= .next x false)(hx:ρ x= .ptr l k 0)(X:H l k=some (.iter z j d.length seen))(S:H z j=some (.map d)):
  ZaP P m o ρ H (Zuq H l k z j d seen):=fun E w a Q K t y I ro=>by
 have s:=y x sO;rw[hx]at s;have M:execOp a.eval o=(do let v<-Instr.next (a.eval x) false o.type;pure (Next.value v)):=by simp only[execOp,ho]
 generalize L:a.eval x=p at s;cases s with|ptr _ _ _ b hm=>
 obtain⟨r,R,N,C,J⟩:=t.blk l k _ (t.norm.J8 hm) X;rw[hm]at N;cases N;obtain⟨b',u,n,hc,Z,O⟩:=t.map z j d (t.norm.J8 C) S;rw[C]at u;cases u;rcases run_next_at (P:=P) (ty:=o.type) J hc Z (fun i h=>(O i om h).2.2)with⟨D,G⟩|⟨i,hi,D,Y,B,G⟩
 ·have f:(execOp a.eval o).run P w= .ok (.value (.tuple #[.bool false])) w:=by
   rw[M,L];simp only[Sem.run_bind,G,Result.andThen_ok,Sem.run_pure]
  refine Y8 f (fun _ e=>by cases e) ?_;exact I E w _ (.tup [.bool false]) H (.inl ⟨D,rfl,rfl⟩) (.tup _ [.bool false] rfl ((VRs.cons (.bool _) (VRs.nil E)).2)) t (.refl m E w)
 ·have f:(execOp a.eval o).run P w= .ok (.value (.tuple #[.bool true,n[i].key,n[i].val])) {w with heap:=w.heap.setIfInBounds b (.mapIter (some R) d.length (seen++[i]).toArray d.length),drawn:=Y}:=by
   rw[M,L];simp only[Sem.run_bind,G,Result.andThen_ok,Sem.run_pure]
  refine Y8 f (fun _ e=>by cases e) ?_;have q:i<d.length:=om;obtain⟨g,c⟩:=t.Zp2 (since:=d.length) (seen:=seen++[i]) hm C J;have A:d.getD i (.dead,.dead)=d[i]:=by simp[Qk,Qe q]
  obtain⟨V,q2,_⟩:=O i q hi;refine I E _ _ (.tup [.bool true,d[i].1,d[i].2]) (H.upd l k (.iter z j d.length (seen++[i]))) (.inr ⟨i,q,D,by rw[A],rfl⟩)
   (.tup _ [.bool true,n[i].key,n[i].val] rfl ((VRs.cons (.bool _) (VRs.cons V (VRs.cons q2 (VRs.nil E)))).2)) ?_ ?_
  ·exact{norm:=g.norm,F:=g.F,blk:=fun l k b W U=>(g.blk l k b W U).keep rfl rfl (fun _=>rfl) (fun _ _ _ h=>h) (fun _ _=>rfl) (fun _ _ _ h=>h) (fun _ _ _ h=>h),dom:=g.dom,nobuf:=g.nobuf,inj:=g.inj,injg:=g.injg,mg:=g.mg,mF:=g.mF,lt:=g.lt}
  ·exact⟨c.le,c.os,c.tape,c.output,fun _=>B,c.size,c.block,c.own⟩
def Zqv{m:Nat}{H:Za}{x:Operand}{l k z j i:Nat}{e:List (AV×AV)}{d:List Nat}(ho:o.op= .entry x)(M:ρ x= .ptr l k 0)(L:H l k=some (.iter z j e.length (d++[i])))(D:H z j=some (.map e))(u:i<e.length):
  Z5 P m o ρ H (.tup [(e.getD i (.dead,.dead)).1,(e.getD i (.dead,.dead)).2]) H:=fun E w a q n=>by
 have g:=n x sO;rw[M]at g;have N:execOp a.eval o=(do let v<-Instr.entry (a.eval x);pure (Next.value v)):=by simp only[execOp,ho]
 generalize I:a.eval x=p at g;cases g with|ptr _ _ _ b hm=>
 obtain⟨r,R,A,B,G⟩:=q.blk l k _ (q.norm.J8 hm) L;rw[hm]at A;cases A;obtain⟨S,h,c,O,U,y⟩:=q.map z j e (q.norm.J8 B) D;rw[B]at h;cases h;have f:i<c.size:=om;have J:c.find? (·.born==i)=some c[i]:=by
  rw[<-Array.find?_toList];rw[List.find?_eq_some_iff_getElem];refine⟨by simp[(y i u f).2.2],i,by simpa using f,sm,fun C K=>?_⟩;have:=(y C om om).2.2;simp only[MJ,this,Qaj,beq_eq_false_iff_ne];omega
 have s:e.getD i (.dead,.dead)=e[i]:=by simp[Qk,Qe u]
 obtain⟨F,Q,_⟩:=y i u f;refine⟨.tuple #[c[i].key,c[i].val],E,w,.inl ?_,by rw[s];exact .tup _ [c[i].key,c[i].val] rfl ((VRs.cons F (VRs.cons Q (VRs.nil E))).2),q,.refl m E w⟩;rw[N,I];have t:(d++[i]).toArray.back? =some i:=sm;simp only[Instr.entry,getObj,Sem.run_bind,Sem.run,G,O,Result.andThen,t,bne_self_eq_false,QE,if_false,J];rfl
def ZeM{t:TypeId}{x j:Operand}{r f:Zp}{e:TypeId}{G l k n:Nat}{C:IntKind}{i:Int}(u:TOK P T)(ho:o.op= .indexAddr t x j)
  (D:T t=some r) (B:r.td= .slice e) (I:T e=some f) (K:ρ x= .msl G l k n) (J:ρ j= .int C i) (s:0<=i) (p:i<n):
  YQ P o ρ (.eptr l k n (i.toNat*f.size)):=fun E a h=>by
 have q:=h x sO;have b:=h j sO;rw[K]at q;rw[J]at b;obtain⟨d,F,z,v⟩:=Zd (u t r D);obtain⟨M,N,L,m⟩:=Zd (u e f I);have A:=ZE (B▸v.fits);subst A;cases c:a.eval j<;>rw[c]at b<;>cases b;generalize H:a.eval x=y at q;cases q with
 |mnil=>omega
 |msl _ _ _ _ g cap hh=>
  refine⟨.pointer (some ⟨g,i.toNat*f.size,none⟩),fun w=>?_,.eptr l k n _ g cap hh⟩;simp[execOp,ho,H,c,Instr.indexAt,asIntOf,run_underlying v.und,s,p,ZA m,ZC]
def ZeN{t:TypeId}{x p:Operand}{r j:Zp}{e:TypeId}{D l k n c m:Nat}{H:IntKind}{i:Int}(B:TOK P T)(ho:o.op= .indexAddr t x p)
  (I:T t=some r) (G:r.td= .slice e) (L:T e=some j) (u:D=j.size) (N:ρ x= .sub D l k n c m) (M:ρ p= .int H i) (A:0<=i) (s:i<m):
  YQ P o ρ (.eptr l k n ((c+i.toNat)*j.size)):=fun E a h=>by
 have v:=h x sO;have b:=h p sO;rw[N]at v;rw[M]at b;obtain⟨d,J,z,C⟩:=Zd (B t r I);obtain⟨Q,R,O,q⟩:=Zd (B e j L);have F:=ZE (G▸C.fits);subst F;cases f:a.eval p<;>rw[f]at b<;>cases b;generalize K:a.eval x=y at v;cases v with
 |sub _ _ _ _ _ _ g cap hh hm=>
  refine⟨.pointer (some ⟨g,(c+i.toNat)*j.size,none⟩),fun w=>?_,.eptr l k n _ g cap hh⟩;subst u;simp[execOp,ho,K,f,Instr.indexAt,asIntOf,run_underlying C.und,A,s,ZA q,ZC,Q9]
def Zmw{t:TypeId}{x:Operand}{r:Zp}{e:TypeId}{i l k n:Nat}(p:TOK P T)(ho:o.op= .call {callee:=.builtin .len,args:=#[x],argTypes:=#[t]})
  (q:T t=some r) (m:r.td= .slice e) (j:ρ x= .msl i l k n):YQ P o ρ (.int .i64 n):=fun E a h=>by
 have c:=h x sC;rw[j]at c;obtain⟨d,s,z,b⟩:=Zd (p t r q);have g:=ZE (m▸b.fits);subst g;generalize f:a.eval x=y at c;cases c with
 |mnil=>exact⟨_,fun w=>by simp[execOp,ho,f,resolve,invoke,builtin,Builtin.len_,run_underlying b.und,goInt],.int _ _⟩
 |msl=>exact⟨_,fun w=>by simp[execOp,ho,f,resolve,invoke,builtin,Builtin.len_,run_underlying b.und,goInt],.int _ _⟩
def Zmy{t:TypeId}{x:Operand}{r:Zp}{e:TypeId}{i l k n b m:Nat}(s:TOK P T)(ho:o.op= .call {callee:=.builtin .len,args:=#[x],argTypes:=#[t]})
  (u:T t=some r) (p:r.td= .slice e) (j:ρ x= .sub i l k n b m):YQ P o ρ (.int .i64 m):=fun E a h=>by
 have c:=h x sC;rw[j]at c;obtain⟨d,v,z,f⟩:=Zd (s t r u);have g:=ZE (p▸f.fits);subst g;generalize q:a.eval x=y at c;cases c with
 |sub=>exact⟨_,fun w=>by simp[execOp,ho,q,resolve,invoke,builtin,Builtin.len_,run_underlying f.und,goInt],.int _ _⟩
def Zd0{t:TypeId}{x:Operand}{f:Nat}{r s:Zp}{H:List (Nat×TypeId)}{m j l k n e:Nat}(D:TOK P T)(ho:o.op= .fieldAddr t x f)(L:T t=some r)(I:r.td= .struct H)
  (O:H[f]? =some (m,j)) (K:T j=some s) (M:s.size≠0) (Q:ρ x= .eptr l k n e):YQ P o ρ (.eptr l k n (e+m)):=fun E a h=>by
 have B:=h x sO;rw[Q]at B;obtain⟨d,i,z,G⟩:=Zd (D t r L);obtain⟨S,U,R,u⟩:=Zd (D j s K);obtain⟨F,rfl,C,_⟩:=ZbR (I▸G.fits);have J:∃g,F[f]? =some g/\g.offset=m/\g.type=j:=by
  have c:=O;rw[<-C,Ub]at c;cases q:F.toList[f]? with
  |none=>simp[q]at c
  |some g=>rw[q]at c;simp at c;exact⟨g,by rw[<-Array.getElem?_toList];exact q,c.1,c.2⟩
 obtain⟨g,v,A,p⟩:=J;generalize N:a.eval x=y at B;cases B with|eptr _ _ _ _ b cap hh=>
 refine⟨.pointer (some ⟨b,e+m,none⟩),fun w=>?_,.eptr l k n _ b cap hh⟩;simp[execOp,ho,N,Instr.fieldAt,run_underlying G.und,v,Instr.sureAddr,fieldPlace,p,ZA u,M,ZC,A]
end ops
section
variable {P:Program} {T:TT} {o:Oper} {ρ:Operand->AV}
def Zjm{t:TypeId}{x:Operand}{r:Zp}(g:TOK P T)(ho:o.op= .makeInterface t x)(j:T t=some r)(f:r.td≠ .iface):YQ P o ρ (.ifc t (ρ x)):=fun E a h=>by
 obtain⟨d,i,z,c⟩:=Zd (g t r j);have l:=h x sO;refine⟨.iface t (a.eval x),fun w=>?_,.ifc t _ _ l⟩;have k:P.underlying t=some d:=c.und;have b:=c.fits;simp only[execOp,ho,Instr.makeInterface,Sem.run_bind,run_underlying k,Result.andThen_ok];cases d<;>first|(simp[Sem.run_pure];done)|skip
 all_goals(cases e:r.td<;>rw[e]at b<;>first|(simp[TD.fits]at b;done)|exact absurd e f)
def Zhx{x:Operand}{p t:TypeId}{r:Zp}{v:AV}(l:TOK P T)(ho:o.op= .typeAssert x p t true)(m:T t=some r)(k:r.td≠ .iface)(q:ρ x= .ifc t v):YQ P o ρ (.tup [v,.bool true]):=fun E a h=>by
 obtain⟨d,i,z,f⟩:=Zd (l t r m);have c:=h x sO;rw[q]at c;cases g:a.eval x<;>rw[g]at c<;>cases c;rename_i u n;refine⟨.tuple #[u,.bool true],fun w=>?_,?_⟩
 ·have e:P.underlying t=some d:=f.und;have b:=f.fits;simp only[execOp,ho,g,Instr.typeAssert,Sem.run_bind,run_underlying e,Result.andThen_ok];cases d<;>first|(simp[Sem.run_pure];done)|skip
  all_goals(cases j:r.td<;>rw[j]at b<;>first|(simp[TD.fits]at b;done)|exact absurd j k)
 ·exact .tup [v,.bool true] [u,.bool true] rfl (VRs.cons n (VRs.cons (.bool true) (VRs.nil E))).2
def Zfv{x:Operand}{p t:TypeId}{r:Zp}{v:AV}(l:TOK P T)(ho:o.op= .typeAssert x p t false)(m:T t=some r)(k:r.td≠ .iface)(q:ρ x= .ifc t v):YQ P o ρ v:=fun E a h=>by
 obtain⟨d,i,z,f⟩:=Zd (l t r m);have c:=h x sO;rw[q]at c;cases g:a.eval x<;>rw[g]at c<;>cases c;rename_i u n;refine⟨u,fun w=>?_,n⟩;have e:P.underlying t=some d:=f.und;have b:=f.fits;simp only[execOp,ho,g,Instr.typeAssert,Sem.run_bind,run_underlying e,Result.andThen_ok];cases d<;>first|(simp[Sem.run_pure];done)|skip
 all_goals(cases j:r.td<;>rw[j]at b<;>first|(simp[TD.fits]at b;done)|exact absurd j k)
def Zji{x:Operand}{q t k:TypeId}{r:Zp}{v:AV}(m:TOK P T)(ho:o.op= .typeAssert x q t true)(n:T t=some r)(l:r.td≠ .iface)(s:k≠t)(p:r.isAgg=false->r.size=1)(u:ρ x= .ifc k v):YQ P o ρ (.tup [XI r,.bool false]):=fun E a h=>by
 obtain⟨d,i,z,c⟩:=Zd (m t r n);have e:=h x sO;rw[u]at e;cases g:a.eval x<;>rw[g]at e<;>cases e;refine⟨.tuple #[z,.bool false],fun w=>?_,?_⟩
 ·have f:P.underlying t=some d:=c.und;have b:=c.fits;simp only[execOp,ho,g,Instr.typeAssert,Sem.run_bind,run_underlying f,Result.andThen_ok];cases d<;>first|(simp[Sem.run_pure,s,Yg c];done)|skip
  all_goals(cases j:r.td<;>rw[j]at b<;>first|(simp[TD.fits]at b;done)|exact absurd j l)
 ·exact .tup _ [z,.bool false] rfl (VRs.cons (Zce c p) (VRs.cons (.bool false) (VRs.nil E))).2
def Zhw{x:Operand}{p t:TypeId}{r:Zp}(l:TOK P T)(ho:o.op= .typeAssert x p t true)(m:T t=some r)(k:r.td≠ .iface)(n:r.isAgg=false->r.size=1)(q:ρ x= .nili):YQ P o ρ (.tup [XI r,.bool false]):=fun E a h=>by
 obtain⟨d,i,z,c⟩:=Zd (l t r m);have e:=h x sO;rw[q]at e;cases g:a.eval x<;>rw[g]at e<;>cases e;refine⟨.tuple #[z,.bool false],fun w=>?_,?_⟩
 ·have f:P.underlying t=some d:=c.und;have b:=c.fits;simp only[execOp,ho,g,Instr.typeAssert,Sem.run_bind,run_underlying f,Result.andThen_ok];cases d<;>first|(simp[Sem.run_pure,Yg c];done)|skip
  all_goals(cases j:r.td<;>rw[j]at b<;>first|(simp[TD.fits]at b;done)|exact absurd j k)
 ·exact .tup _ [z,.bool false] rfl (VRs.cons (Zce c n) (VRs.cons (.bool false) (VRs.nil E))).2
def Zqr(y:Operand)(v:AV):Option Bool:=match y with
 | .const (.slice none 0 0)=>(match v with
  | .Xd=>some true
  | .sl _ (_::_) _=>some false
  | .sln _=>some false
  | .msl _ _ _ (_+1)=>some false
  |_=>none)
 |_=>none
def Zsg{m:BinOp}{t u:TypeId}{x y:Operand}{r:Zp}{e:TypeId}{b:Bool}(q:TOK P T)(ho:o.op= .binOp m t x y u)(s:T t=some r)(p:r.td= .slice e)(c:Zqr y (ρ x)=some b)(f:m= .eql\/m= .neq):YQ P o ρ (.bool (if m= .eql then b else !b)):=fun E a h=>by
 have g:=h x sO;obtain⟨d,v,z,i⟩:=Zd (q t r s);unfold Zqr at c;split at c
 ·have n:VR E .Xd (a.eval (.const (.slice none 0 0))):=.Xd;split at c
  ·rename_i l;cases c;rw[l]at g;obtain⟨k,j⟩:=JE (P:=P) i.und (p▸i.fits) g n (.ss e) f;exact⟨_,Yr ho rfl rfl j k,.bool _⟩
  ·rename_i l;cases c;rw[l]at g;obtain⟨k,j⟩:=JE (P:=P) i.und (p▸i.fits) g n (.sn e _ _ _ _) f;exact⟨_,Yr ho rfl rfl j k,.bool _⟩
  ·rename_i l;cases c;rw[l]at g;obtain⟨k,j⟩:=JE (P:=P) i.und (p▸i.fits) g n (.sx e _) f;exact⟨_,Yr ho rfl rfl j k,.bool _⟩
  ·rename_i l;cases c;rw[l]at g;obtain⟨k,j⟩:=JE (P:=P) i.und (p▸i.fits) g n (.sm e _ _ _ _) f;exact⟨_,Yr ho rfl rfl j k,.bool _⟩
  ·cases c
 ·cases c
end
section
variable {P:Program} {T:TT} {o:Oper} {ρ:Operand->AV}
def Zgc{n:Nat}{e:TypeId}{d:TypeDesc}(h:(TD.array n e).fits d=true):d= .array n e:=by
 cases d<;>simp[TD.fits]at h;obtain⟨rfl,rfl⟩:=h;rfl
def Zjj{t:TypeId}{b:Array (Nat×Operand)}{r j:Zp}{n:Nat}{e:TypeId}{g:LA}(D:TOK P T)(F:o.op= .build t b)(s:T t=some r)(B:r.td= .array n e)(K:T e=some j)
  (J:Zbq (fun i=>some (i*j.size,j.size)) r.zero (YN ρ b.toList)=some g) (m:∀p∈YN ρ b.toList,∀c∈p.2.cells,c.one=true):YQ P o ρ (.agg g):=fun E a h=>by
 obtain⟨d,H,z,u⟩:=Zd (D t r s);obtain⟨R,C,O,y⟩:=Zd (D e j K);have G:=Zgc (B▸u.fits);subst G;have I:VRs E r.zero z.cells.toList:=Y5 u.zfits;have f:∀i (h:i<(YN ρ b.toList).length) (Q:i<(b.toList.map fun p=>(p.1,a.eval p.2)).length),
   (YN ρ b.toList)[i].1=(b.toList.map fun p=>(p.1,a.eval p.2))[i].1/\VR E (YN ρ b.toList)[i].2 (b.toList.map fun p=>(p.1,a.eval p.2))[i].2/\(∀c∈(YN ρ b.toList)[i].2.cells,c.one=true):=by
  intro i s B;refine⟨by simp[YN],?_,fun c N=>m _ (Qa s) c N⟩;simp only[YN,QZ];have S:i<b.toList.length:=by simpa[YN]using s
  exact h _ (by rw[F];simp only[Op.operands];simp only[QaM,Qg];exact⟨b.toList[i],sm,rfl⟩)
 obtain⟨q,A,l⟩:=Zgu J I (by simp[YN]) f;refine⟨.agg q,fun w=>?_,?_⟩
 ·have M:execOp a.eval o=(do let v<-Instr.build t (b.map fun(i,x)=>(i,a.eval x));pure (Next.value v)):=by simp only[execOp,F]
  have L:(b.map fun(i,x)=>(i,a.eval x)).toList=b.toList.map fun p=>(p.1,a.eval p.2):=sm
  rw[M];have k:Instr.fill (fun i=>some (i*j.size,j.size)) z.cells (b.toList.map fun p=>(p.1,a.eval p.2))=some q:=A;simp only[Instr.build,Sem.run_bind,Yg u,Result.andThen_ok,run_underlying u.und,ZA y,L,k];rfl
 ·have:q=q.toList.toArray:=sm;rw[this];exact .agg g q.toList l.1 l.2
def ZeL{t:TypeId}{x m:Operand}{r j:Zp}{e:TypeId}{N l k f:Nat}{C:IntKind}{i:Int}(u:TOK P T)(ho:o.op= .indexAddr t x m)
  (D:T t=some r) (B:r.td= .array N e) (H:T e=some j) (J:ρ x= .ptr l k f) (I:ρ m= .int C i) (s:0<=i) (p:i<N):
  YQ P o ρ (.ptr l k (f+i.toNat*j.size)):=fun E a h=>by
 have q:=h x sO;have c:=h m sO;rw[J]at q;rw[I]at c;obtain⟨d,F,z,v⟩:=Zd (u t r D);obtain⟨L,M,K,n⟩:=Zd (u e j H);have A:=Zgc (B▸v.fits);subst A;cases g:a.eval m<;>rw[g]at c<;>cases c;generalize G:a.eval x=y at q;cases q with
 |ptr _ _ _ b hm=>
  refine⟨.pointer (some ⟨b,f+i.toNat*j.size,none⟩),fun w=>?_,.ptr l k _ b hm⟩;simp[execOp,ho,G,g,Instr.indexAt,asIntOf,run_underlying v.und,s,p,ZA n,ZC,Instr.sureAddr]
def Zd2{t:TypeId}{x l:Operand}{r g:Zp}{e:TypeId}{N:Nat}{v:LA}{D:IntKind}{i:Int}(u:TOK P T)(ho:o.op= .indexAddr t x l)
  (F:T t=some r) (C:r.td= .array N e) (I:T e=some g) (K:ρ x= .iptr v) (J:ρ l= .int D i) (q:0<=i) (n:i<N):
  YQ P o ρ (.iptr (v.drop (i.toNat*g.size))):=fun E a h=>by
 have p:=h x sO;have f:=h l sO;rw[K]at p;rw[J]at f;obtain⟨d,G,z,A⟩:=Zd (u t r F);obtain⟨M,O,L,m⟩:=Zd (u e g I);have B:=Zgc (C▸A.fits);subst B;cases k:a.eval l<;>rw[k]at f<;>cases f;generalize H:a.eval x=y at p;cases p with
 |iptr _ b off c hc hv'=>
  refine⟨.pointer (some ⟨b,off+i.toNat*g.size,none⟩),fun w=>?_,?_⟩
  ·simp[execOp,ho,H,k,Instr.indexAt,asIntOf,run_underlying A.und,q,n,ZA m,ZC,Instr.sureAddr]
  ·refine .iptr _ b _ (fun j=>c (i.toNat*g.size+j)) (fun j s=>?_) (fun j s=>?_)
   ·simp only[QL]at s;have:=hc (i.toNat*g.size+j) om;rw[MS];exact this
   ·simp only[QL]at s;have:=hv' (i.toNat*g.size+j) om;simpa[Qak]using this
end
section ops
variable {P:Program} {T:TT} {o:Oper} {ρ:Operand->AV}
def ZbJ{m:Nat}{H:Za}{E:Env}{w:World}(I:Zo m H E w){k:Nat}{a:LA}{L:Own}{B:Value}(G:VR E (.sl k a L) B)(r:a≠[])(o:∀y∈a,∀c∈y.cells,c.one=true):
  ∃b l t p,B= .slice (some ⟨b,l,none⟩) a.length t/\(∀y∈a,y.cells.length=k)/\VRs E (flat a) p/\p.length=a.length*k/\(∀j v,p[j]? =some v->w.cell? ⟨b,l+j,none⟩=some v)/\(∀u∈p,u.oneCell'=true):=by
 rcases G.Vl with⟨_,x,_⟩|⟨K,n,h,q,x,f,d,A,_,_,_⟩
 ·exact absurd x r
 refine⟨K,n,h,q,x,f,d,by rw[d.1,flat_length f],fun j v M=>I.F _ _ _ (A j v M),fun u J=>?_⟩;obtain⟨i,C,rfl⟩:=QK J;have g:i<(flat a).length:=by rw[<-d.1];exact C
 refine(d.2 i g C).one ?_;have e:(flat a)[i]∈flat a:=Qa g;simp only[flat,QI]at e;obtain⟨D,z,s⟩:=e;exact o D z _ s
def Zft{m:Nat}{H:Za}{k h e:TypeId}{x:Operand}{F C I:Zp}{b:Int}{ow:Own}(D:TOK P T)(ho:o.op= .convert k h x)(Y:T k=some F)(U:F.td= .slice e)(h3:T e=some I)(X:I.td= .int .u8)
  (Z:T h=some C) (h6:C.td= .str) (hx:ρ x= .sl 1 [.int .u8 b] ow):Z5 P m o ρ H (.str [UInt8.ofNat b.toNat]) H:=fun E w a Q l=>by
 have p:=l x sO;rw[hx]at p;obtain⟨d,i,z,N⟩:=Zd (D k F Y);obtain⟨d',i',z',n⟩:=Zd (D e I h3);obtain⟨d2,i2,z2,q⟩:=Zd (D h C Z);have S:=ZE (U▸N.fits);subst S;have M:=ZaE (X▸n.fits);subst M;have A:=V7 (h6▸q.fits);subst A;obtain⟨t,f,g,B,e2,V,s,W,K,R⟩:=ZbJ Q p sm (fun y O c u=>by simp only[Qo]at O;subst O;simp only[AV.cells,Qo]at u;subst u;rfl);have J:B=[.int .u8 b]:=by
  have G:flat [AV.int .u8 b]=[.int .u8 b]:=rfl;rw[G]at s;obtain⟨v,r,rfl,hv,hn⟩:=s.Yw;cases hv;rw[hn.of_nil]
 subst J;have L:(loadCells (⟨t,f,none⟩:Addr) 1).run P w= .ok ([b].map (Value.int .u8)).toArray w:=by
  have:=run_firstCells_some (P:=P) w 1 1 ⟨t,f,none⟩ 1 g [.int .u8 b] sm (fun j v hj=>by rw[ZC];exact K j v hj);simpa[Builtin.firstCells]using this
 refine⟨.string ⟨#[UInt8.ofNat b.toNat]⟩,E,w,.inl ?_,.str _,Q,.refl m E w⟩;have u:=(run_convert_bytes_string (P:=P) w k h e (some ⟨t,f,none⟩) 1 g N.und n.und q.und).trans (run_bytesToString w ⟨t,f,none⟩ 1 g [b] L);simp only[execOp,ho,e2,Qai,Sem.run_bind];rw[u];rfl
end ops
structure Cx where
 P:Program
 T:TT
 φ:Fm
 n:Nat
 N:Nat
def ones(v:AV):Bool:=v.cells.all AV.one
def Zc.put(s:Zc)(d:Option Nat)(v:AV):Zc:=⟨Yf s.tmps d v,s.L,s.H⟩
def setb:List (Nat×Ze)->Nat->Ze->List (Nat×Ze)
 |[],k,b=>[(k,b)]
 |(i,v)::r,k,b=>if i=k then(k,b)::r else(i,v)::setb r k b
def lkb_setb:∀(L:List (Nat×Ze)) (k:Nat) (b:Ze) (t:Nat),lkb (setb L k b) t=if t=k then some b else lkb L t
 |[],k,b,t=>by
  simp only[setb,lkb];by_cases h:k=t
  ·subst h;simp
  ·rw[if_neg h,if_neg (fun e=>h e.symm)]
 |(i,v)::r,k,b,t=>by
  simp only[setb];by_cases a:i=k
  ·subst a;simp only[if_true,lkb];by_cases h:i=t
   ·subst h;simp
   ·simp[h,Ne.symm h]
  ·simp only[if_neg a,lkb,lkb_setb r k b t];by_cases h:i=t
   ·subst h;simp[a]
   ·simp[h]
def setb_setb:∀(L:List (Nat×Ze)) (k:Nat) (b a:Ze),setb (setb L k b) k a=setb L k a
 |[],k,b,a=>by simp[setb]
 |(i,v)::r,k,b,a=>by
  simp only[setb];split
  ·simp[setb]
  ·rename_i h;simp only[setb,if_neg h,setb_setb r k b a]
def Zm(n:Nat)(L:List (Nat×Ze))(H:Za)(k:Nat)(b:Ze):full n (setb L k b) H=(full n L H).upd n k b:=by
 funext l j;simp only[full,Za.upd,lkb_setb];by_cases h:l=n
 ·subst h;simp
 ·simp[h]
def Yj(n:Nat)(L:List (Nat×Ze))(H:Za)(l k:Nat)(b:Ze)(h:l≠n):full n L (H.upd l k b)=(full n L H).upd l k b:=by
 funext d j;simp only[full,Za.upd];by_cases a:d=n
 ·subst a;have:¬(d=l/\j=k):=fun c=>h c.1.symm
  simp[this]
 ·simp[a]
def ZaX(T:TT)(t:TypeId)(f:Nat):Option (Nat×Zp):=
 match T t with
 |some r=>match r.td with
  | .struct fs=>match fs[f]? with
   |some (fo,ft)=>(T ft).map fun a=>(fo,a)
   |none=>none
  |_=>none
 |none=>none
section
variable {t:Nat} {T:TT}
def ZdE{f:Nat}{d:Nat}{e:Zp}(h:ZaX T t f=some (d,e)):∃r b a,T t=some r/\r.td= .struct b/\b[f]? =some (d,a)/\T a=some e:=by
 unfold ZaX at h;split at h
 ·rename_i r l;split at h
  ·rename_i b c;split at h
   ·rename_i j a i;simp only[Ur]at h;obtain⟨g,m,k⟩:=h;cases k;exact⟨r,b,a,l,c,i,m⟩
   ·cases h
  ·cases h
 ·cases h
def sliceOf(T:TT)(t:TypeId):Option (TypeId×Zp):=
 match T t with
 |some r=>match r.td with
  | .slice e=>(T e).map fun re=>(e,re)
  |_=>none
 |none=>none
variable {re:Zp}
def ZQ{e:Nat}(h:sliceOf T t=some (e,re)):∃r,T t=some r/\r.td= .slice e/\T e=some re:=by
 unfold sliceOf at h;split at h
 ·rename_i r c;split at h
  ·rename_i g a;simp only[Ur]at h;obtain⟨f,d,b⟩:=h;cases b;exact⟨r,c,a,d⟩
  ·cases h
 ·cases h
def ZjO(T:TT)(t:TypeId):Option (Nat×Zp):=
 match T t with
 |some r=>match r.td with
  | .array n e=>(T e).map fun re=>(n,re)
  |_=>none
 |none=>none
def Zgb{n:Nat}(h:ZjO T t=some (n,re)):∃r e,T t=some r/\r.td= .array n e/\T e=some re:=by
 unfold ZjO at h;split at h
 ·rename_i r c;split at h
  ·rename_i g e a;simp only[Ur]at h;obtain⟨f,d,b⟩:=h;cases b;exact⟨r,e,c,a,d⟩
  ·cases h
 ·cases h
def Wx(T:TT)(t:TypeId):Option TD:=(T t).map (·.td)
def YB{d:TD}(h:Wx T t=some d):∃r,T t=some r/\r.td=d:=by
 simp only[Wx,Ur]at h;exact h
def ldA(r:Zp)(a:LA):AV:=if r.isAgg then .agg (a.take r.size)else a.getD 0 .dead
def isEq:BinOp->Bool
 | .eql=>true
 | .neq=>true
 |_=>false
def eqB:BinOp->Bool->Bool
 | .eql,b=>b
 |_,b=>!b
variable {op:BinOp}
def Zcq(h:isEq op=true):op= .eql\/op= .neq:=by
 cases op<;>first|exact .inl rfl|exact .inr rfl|cases h
def Zgq(b:Bool)(h:isEq op=true):eqB op b=if op= .eql then b else !b:=by
 cases op<;>first|rfl|cases h
def Zr5(b:Builtin)(x y:Int):Option Int:=
 match b with
 | .max=>some (if y>x then y else x)
 | .min=>some (if y<x then y else x)
 |_=>none
variable {o:Oper}
def Zvb{P:Program}{ρ:Operand->AV}{b:Builtin}{x y:Operand}{i:Array TypeId}{k l:IntKind}{m n v:Int}(ho:o.op= .call {callee:=.builtin b,args:=#[x,y],argTypes:=i})
  (p:ρ x= .int k m) (j:ρ y= .int l n) (g:Zr5 b m n=some v):YQ P o ρ (.int k v):=fun E a h=>by
 have e:=h x sC;have c:=h y sC;rw[p]at e;rw[j]at c;cases d:a.eval x<;>rw[d]at e<;>cases e;cases f:a.eval y<;>rw[f]at c<;>cases c;refine⟨.int k v,fun w=>?_,.int _ _⟩;cases b<;>simp only[Zr5,Qp,reduceCtorEq]at g<;>subst g
 ·simp[execOp,ho,d,f,resolve,invoke,builtin,Builtin.max_,Builtin.max2]
 ·simp[execOp,ho,d,f,resolve,invoke,builtin,Builtin.min_,Builtin.min2]
def fullOwn:LA->Own->Own
 |_,.any=>.any
 |_,.buf _ _=>.any
 |[],.full=>.full
 |_::_,.full=>.any
def Zmu{P:Program}{T:TT}{o:Oper}{ρ:Operand->AV}{t:TypeId}{x:Operand}{r:Zp}{e:TypeId}{k:Nat}(n:TOK P T)(ho:o.op= .call {callee:=.builtin .cap,args:=#[x],argTypes:=#[t]})
  (p:T t=some r) (m:r.td= .slice e) (i:ρ x= .sl k [] .full):YQ P o ρ (.int .i64 0):=fun E a h=>by
 have g:=h x sC;rw[i]at g;obtain⟨d,q,z,f⟩:=Zd (n t r p);have l:=ZE (m▸f.fits);subst l;generalize j:a.eval x=y at g;cases g with
 |slnil=>exact⟨_,fun w=>by simp[execOp,ho,j,resolve,invoke,builtin,Builtin.cap_,run_underlying f.und,goInt],.int _ _⟩
 |sl _ _ _ b off cap c hk hc i hcap hm ho'=>
  have:cap=0:=ho';subst this;exact⟨_,fun w=>by simp[execOp,ho,j,resolve,invoke,builtin,Builtin.cap_,run_underlying f.und,goInt],.int _ _⟩
variable {x:Operand} {ρ:Operand->AV} {P:Program}
def Zjn{t:TypeId}{m l:Option Operand}{r:Zp}{e:TypeId}{k:Nat}(u:TOK P T)(ho:o.op= .slice t x m l none)(G:T t=some r)(D:r.td= .slice e)
  (p:T e=some re) (B:ρ x= .sl k [] .full) (I:bnd ρ m 0=some 0) (K:bnd ρ l 0=some 0):YQ P o ρ (.sl k [] .full):=fun E a h=>by
 have i:=h x sO;have F:∀y,m=some y\/l=some y->VR E (ρ y) (a.eval y):=fun y J=>h y (by rcases J with rfl|rfl<;>simp[ho,Op.operands])
 rw[B]at i;obtain⟨d,H,z,A⟩:=Zd (u t r G);obtain⟨N,O,M,n⟩:=Zd (u e re p);have C:=ZE (D▸A.fits);subst C;have L:execOp a.eval o=(do let v<-Instr.sliceAt t (a.eval x) (m.map a.eval) (l.map a.eval) none;pure (Next.value v)):=by simp only[execOp,ho];rfl
 have f:∃j,a.eval x= .slice j 0 0:=by
  generalize a.eval x=q at i;cases i with
  |slnil _ _ a ho ha=>exact⟨a,rfl⟩
  |sl _ _ _ b off cap c hk hc B hcap hm ho=>
   have:cap=0:=ho;subst this;exact⟨_,rfl⟩
 obtain⟨j,f⟩:=f;have g:=fun w=>WJ (P:=P) (s:=true) (len:=0) (cap:=0) F I K (QaT 0) (QaT 0) sm w
 refine⟨.slice j 0 0,fun w=>?_,by rw[f]at i;exact i⟩;have g:=g w;rw[L,f];simp at g;cases j<;>simp[Instr.sliceAt,Instr.slice,run_underlying A.und,g,ZA n]
def evP(T:TT)(o:Op)(g:TypeId)(ρ:Operand->AV):Prop×AV:=
 match o with
 | .move x=>(True,mv T g x (ρ x))
 | .assign x=>(True,mv T g x (ρ x))
 | .pick c x y=>match ρ c with
  | .bool true=>(True,mv T g x (ρ x))
  | .bool false=>(True,mv T g y (ρ y))
  |_=>(False,.dead)
 | .nilCheck x=>match ρ x with
  | .ptr l k off=>(True,.ptr l k off)
  | .iptr cs=>(True,.iptr cs)
  | .eptr l k n off=>(True,.eptr l k n off)
  | .fn (.func f) c=>(True,.fn (.func f) c)
  | .fn (.yield f) c=>(True,.fn (.yield f) c)
  |_=>(False,.dead)
 | .fieldAddr t x f=>match ZaX T t f with
  |some (fo,rf)=>match ρ x with
   | .ptr l k off=>(rf.size≠0,.ptr l k (off+fo))
   | .iptr cs=>(rf.size≠0,.iptr (cs.drop fo))
   | .eptr l k n off=>(rf.size≠0,.eptr l k n (off+fo))
   |_=>(False,.dead)
  |none=>(False,.dead)
 | .indexAddr t x ix=>match sliceOf T t with
  |some (_,re)=>match ρ x,ρ ix with
   | .sl k xs _,.int _ i=>(k=re.size/\0<=i/\i<xs.length,.iptr (xs.getD i.toNat .dead).cells)
   | .msl _ l k n,.int _ i=>(0<=i/\i<n,.eptr l k n (i.toNat*re.size))
   | .sub sz l k n off m,.int _ i=>(sz=re.size/\0<=i/\i<m,.eptr l k n ((off+i.toNat)*re.size))
   |_,_=>(False,.dead)
  |none=>match ZjO T t with
   |some (N,re)=>match ρ x,ρ ix with
    | .ptr l k off,.int _ i=>(0<=i/\i<N,.ptr l k (off+i.toNat*re.size))
    | .iptr cs,.int _ i=>(0<=i/\i<N,.iptr (cs.drop (i.toNat*re.size)))
    |_,_=>(False,.dead)
   |none=>(False,.dead)
 | .field t x f=>match ZaX T t f with
  |some (fo,rf)=>match ρ x with
   | .agg cs=>(rf.isAgg=false->fo<cs.length,if rf.isAgg then .agg ((cs.drop fo).take rf.size)else cs.getD fo .dead)
   |_=>(False,.dead)
  |none=>(False,.dead)
 | .extract x i=>match ρ x with
  | .tup vs=>(i<vs.length,vs.getD i .dead)
  |_=>(False,.dead)
 | .build t ps=>match T t with
  |some r=>match r.td with
   | .struct fs=>match Zbq (fun i=>(VN T fs)[i]?.join) r.zero (YN ρ ps.toList)with
    |some out=>((∀f∈fs,T f.2≠none)/\(∀p∈YN ρ ps.toList,ones p.2=true),.agg out)
    |none=>(False,.dead)
   |_=>match ZjO T t with
    |some (_,re)=>match Zbq (fun i=>some (i*re.size,re.size)) r.zero (YN ρ ps.toList)with
     |some out=>((∀p∈YN ρ ps.toList,ones p.2=true),.agg out)
     |none=>(False,.dead)
    |none=>(False,.dead)
  |none=>(False,.dead)
 | .makeFunc f fs cs=>match fs.toList with
  |[]=>(True,.fn f (cs.toList.map ρ))
  |x::r=>(cs= #[],.bfn f ((x::r).map ρ))
 | .unOp op _ x=>match op,ρ x with
  | .not,.bool b=>(True,.bool (!b))
  | .neg,.int k n=>(True,.int k (k.wrap (0 - n)))
  |_,_=>(False,.dead)
 | .convert s d x=>match Wx T s,Wx T d,ρ x with
  |some (.int _),some (.int k),.int _ n=>(True,.int k (k.wrap n))
  |some .str,some .str,.str s=>(True,.str s)
  |some (.slice e),some .str,.sl 1 [.int .u8 b] _=>(Wx T e=some (.int .u8),.str [UInt8.ofNat b.toNat])
  |_,_,_=>(False,.dead)
 | .makeInterface t x=>match Wx T t with
  |some .iface=>(False,.dead)
  |some _=>(True,.ifc t (ρ x))
  |none=>(False,.dead)
 | .typeAssert x _ t ok=>match T t,ρ x with
  |some r,.ifc t' v=>if t'=t then(r.td≠ .iface,if ok then .tup [v,.bool true]else v)else(ok=true/\r.td≠ .iface/\(r.isAgg=false->r.size=1),.tup [XI r,.bool false])
  |some r,.nili=>(ok=true/\r.td≠ .iface/\(r.isAgg=false->r.size=1),.tup [XI r,.bool false])
  |_,_=>(False,.dead)
 | .binOp op t x y _=>match Zqr y (ρ x)with
  |some b=>((∃e,Wx T t=some (.slice e))/\isEq op=true,.bool (eqB op b))
  |none=>match ρ x,ρ y with
  | .int k a,.int k' b=>match op with
   | .quo=>(k=k'/\b≠0,.int k (k.wrap (a.tdiv b)))
   | .rem=>(k=k'/\b≠0,.int k (a.tmod b))
   | .shr=>(0<=b,.int k (a.fdiv (2^(min b.toNat k.bits))))
   |op=>match Zkk op k a b with
    |some v=>(k=k',v)
    |none=>(False,.dead)
  | .str a,.str b=>match op with
   | .add=>(a.length+b.length<=9223372036854775807,.str (a++b))
   |op=>match Zli op a b with
    |some v=>(True,v)
    |none=>(False,.dead)
  | .bool a,.bool b=>(Wx T t=some .bool/\isEq op=true,.bool (if op= .eql then a==b else !(a==b)))
  | .nilp,.nilp=>(Wx T t=some .ptr/\isEq op=true,.bool (eqB op true))
  | .ptr _ _ _,.nilp=>(Wx T t=some .ptr/\isEq op=true,.bool (eqB op false))
  | .iptr _,.nilp=>(Wx T t=some .ptr/\isEq op=true,.bool (eqB op false))
  | .nilf,.nilf=>(Wx T t=some .func/\isEq op=true,.bool (eqB op true))
  | .fn _ _,.nilf=>(Wx T t=some .func/\isEq op=true,.bool (eqB op false))
  | .nilm,.nilm=>((∃k e,Wx T t=some (.map k e))/\isEq op=true,.bool (eqB op true))
  | .map _ _,.nilm=>((∃k e,Wx T t=some (.map k e))/\isEq op=true,.bool (eqB op false))
  | .agg az,.agg bs=>match T t,klAll az,klAll bs with
   |some r,some la,some lb=>(r.isAgg=true/\Z4 T 100 t la=true/\Z4 T 100 t lb=true/\isEq op=true,.bool (eqB op (la==lb)))
   |_,_,_=>(False,.dead)
  |_,_=>(False,.dead)
 | .lookup t x y ok=>match mapOf T t,ρ x with
  |some (kt,_,re),.nilm=>((re.isAgg=false->re.size=1)/\Yv T kt (ρ y)=true,lookA re (ρ y) [] ok)
  |_,_=>(False,.dead)
 | .index t x ix=>match Wx T t,ρ x,ρ ix with
  |some .str,.str s,.int _ i=>(0<=i/\i<s.length,.int .u8 (s.getD i.toNat 0).toNat)
  |_,_,_=>(False,.dead)
 | .slice t x lo hi mx=>match mx,ρ x with
  |none,.str s=>match bnd ρ lo 0,bnd ρ hi s.length with
   |some l,some h=>(Wx T t=some .str/\0<=l/\l<=h/\h<=s.length,.str ((s.take h.toNat).drop l.toNat))
   |_,_=>(False,.dead)
  |none,.sl k xs ow=>match sliceOf T t,bnd ρ lo 0,bnd ρ hi xs.length with
   |some (_,re),some l,some h=>(k=re.size/\0<=l/\l<=h/\h<=xs.length,.sl k ((xs.take h.toNat).drop l.toNat) (fullOwn xs ow))
   |_,_,_=>(False,.dead)
  |_,_=>(False,.dead)
 | .buildSlice t n ps=>match sliceOf T t with
  |some (_,re)=>(inOrder 0 ps.toList=true/\n=ps.size/\0<re.size/\n*re.size<=2^24/\(∀x∈ps.toList.map (fun p=>ρ p.2),x.cells.length=re.size/\ones x=true),.sl re.size (ps.toList.map fun p=>ρ p.2) .full)
  |none=>(False,.dead)
 | .call c=>match c.callee,c.args.toList,c.argTypes.toList with
  | .builtin .len,[x],[t]=>match ρ x with
   | .sl _ xs _=>(∃q,sliceOf T t=some q,.int .i64 xs.length)
   | .msl _ _ _ n=>(∃q,sliceOf T t=some q,.int .i64 n)
   | .sub _ _ _ _ _ m=>(∃q,sliceOf T t=some q,.int .i64 m)
   | .str s=>(Wx T t=some .str,.int .i64 s.length)
   |_=>(False,.dead)
  | .builtin .cap,[x],[t]=>match ρ x with
   | .sl _ [] .full=>(∃q,sliceOf T t=some q,.int .i64 0)
   |_=>(False,.dead)
  | .builtin .append,[x,y],[t,t']=>match sliceOf T t,mv T t x (ρ x),mv T t y (ρ y)with
   |some (_,re),.sl k xs .full,.sl k' ys _=>(t'=t/\0<re.size/\(xs=[]\/k=re.size)/\(ys=[]\/k'=re.size)/\xs.length+ys.length<=maxLen/\(xs.length+ys.length)*re.bytes<=140737488355328,.sl re.size (xs++ys) .any)
   |_,_,_=>(False,.dead)
  | .builtin b,[x,y],_=>match ρ x,ρ y with
   | .int k m,.int _ n=>match Zr5 b m n with
    |some v=>(True,.int k v)
    |none=>(False,.dead)
   |_,_=>(False,.dead)
  |_,_,_=>(False,.dead)
 |_=>(False,.dead)
variable {v:AV}
def Yi(h:ones v=true):∀c∈v.cells,c.one=true:=by
 simpa[ones,Qw]using h
def Zpk(P:Program)(o:Oper)(ρ:Operand->AV)(v:AV):Prop:=∀m G,Xh P m o ρ G v G
def YQ.YL(h:YQ P o ρ v):Zpk P o ρ v:=fun m G=>(h.run m G).sem
def Zc4{t i:TypeId}{y:Operand}{u:AV}{b:Bool}{d:TD}(h:TOK P T)(f:o.op= .binOp op t x y i)(k:ρ x=u)(g:ρ y=v)
  (a:Wx T t=some d/\isEq op=true) (c:NilK d u v b):Zpk P o ρ (.bool (eqB op b)):=by
 obtain⟨r,e,j⟩:=YB a.1;subst j;rw[Zgq b a.2];exact(ZoZ h f e k g c (Zcq a.2)).YL
def Wj{m:Nat}{H H':Za}(t:TypeId)(h:Z5 P m o (fun z=>mv T t z (ρ z)) H v H'):Z5 P m o ρ H v H':=
 fun E w a hr b=>h E w a hr (fun z c=>Zf4 (b z c))
def ZhP(g:TOK P T):∀p,evP T o.op o.type ρ=p->p.1->Zpk P o ρ p.2:=by
 intro p a h;unfold evP at a;split at a
 ·rename_i x ho;subst a;exact(Zsf ho).YL
 ·rename_i x ho;subst a;exact(ZoW ho).YL
 ·rename_i c x y ho;split at a
  ·rename_i hc;subst a;exact(ZnK (t:=true) ho hc).YL
  ·rename_i hc;subst a;exact(ZnK (t:=false) ho hc).YL
  ·subst a;exact h.elim
 ·rename_i x ho;split at a
  ·rename_i hx;subst a;exact(V5 ho hx rfl).YL
  ·rename_i hx;subst a;exact(V5 ho hx rfl).YL
  ·rename_i hx;subst a;exact(V5 ho hx rfl).YL
  ·rename_i hx;subst a;exact(V5 ho hx rfl).YL
  ·rename_i hx;subst a;exact(V5 ho hx rfl).YL
  ·subst a;exact h.elim
 ·rename_i t x f ho;split at a
  ·rename_i fo rf O;obtain⟨r,fs,ft,j,z,D,S⟩:=ZdE O;split at a
   ·rename_i hx;subst a;exact(ZeK g ho j z D S h hx).YL
   ·rename_i hx;subst a;exact(Zd1 g ho j z D S h hx).YL
   ·rename_i hx;subst a;exact(Zd0 g ho j z D S h hx).YL
   ·subst a;exact h.elim
  ·subst a;exact h.elim
 ·rename_i t x ix ho;split at a
  ·rename_i e re hs;obtain⟨r,j,z,D⟩:=ZQ hs;split at a
   ·rename_i hx E;subst a;obtain⟨V,M,U⟩:=h;exact(Zfw g ho j z D V hx E M U).YL
   ·rename_i hx E;subst a;obtain⟨M,U⟩:=h;exact(ZeM g ho j z D hx E M U).YL
   ·rename_i hx E;subst a;obtain⟨V,M,U⟩:=h;exact(ZeN g ho j z D V hx E M U).YL
   ·subst a;exact h.elim
  ·split at a
   ·rename_i N re hs;obtain⟨r,e,j,z,D⟩:=Zgb hs;split at a
    ·rename_i hx E;subst a;exact(ZeL g ho j z D hx E h.1 h.2).YL
    ·rename_i hx E;subst a;exact(Zd2 g ho j z D hx E h.1 h.2).YL
    ·subst a;exact h.elim
   ·subst a;exact h.elim
 ·rename_i t x f ho;split at a
  ·rename_i fo rf O;obtain⟨r,fs,ft,j,z,D,S⟩:=ZdE O;split at a
   ·rename_i hx;subst a;exact(ZqC g ho j z D S hx h).YL
   ·subst a;exact h.elim
  ·subst a;exact h.elim
 ·rename_i x i ho;split at a
  ·rename_i hx;subst a;exact(Zmv ho hx h).YL
  ·subst a;exact h.elim
 ·rename_i t ps ho;split at a
  ·rename_i r hr;split at a
   ·rename_i fs F;split at a
    ·rename_i out I;subst a;obtain⟨V,M⟩:=h;exact(ZqB g ho hr F V I (fun p a=>Yi (M p a))).YL
    ·subst a;exact h.elim
   ·split at a
    ·rename_i N re hs;obtain⟨r',e,j,z,D⟩:=Zgb hs;split at a
     ·rename_i out I;subst a;rw[hr]at j;cases j;exact(Zjj g ho hr z D I (fun p a=>Yi (h p a))).YL
     ·subst a;exact h.elim
    ·subst a;exact h.elim
  ·subst a;exact h.elim
 ·rename_i f fs cs ho;split at a
  ·rename_i F;subst a;have e:fs= #[]:=by
    apply Qaa.1;rw[F]
   subst e;exact(ZkV ho).YL
  ·rename_i x r F;subst a;have h:cs= #[]:=h;subst h;simp only;rw[<-F];exact(Zjl ho).YL
 ·rename_i op t x ho;split at a
  ·rename_i hx;subst a;exact(ZtH ho hx).YL
  ·rename_i hx;subst a;exact(ZtG ho hx).YL
  ·subst a;exact h.elim
 ·rename_i s d x ho;split at a
  ·rename_i j z hx;subst a;obtain⟨rs,u,w⟩:=YB j;obtain⟨rd,B,C⟩:=YB z;exact(Zg2 g ho u w B C hx).YL
  ·rename_i j z hx;subst a;obtain⟨rs,u,w⟩:=YB j;obtain⟨rd,B,C⟩:=YB z;exact(Zg3 g ho u w B C hx).YL
  ·rename_i j z hx;subst a;obtain⟨rs,u,w⟩:=YB j;obtain⟨rd,B,C⟩:=YB z;obtain⟨re,d1,d2⟩:=YB h;exact fun m G=>(Zft g ho u w d1 d2 B C hx).sem
  ·subst a;exact h.elim
 ·rename_i t x ho;split at a
  ·subst a;exact h.elim
  ·rename_i d hd Y;subst a;obtain⟨r,u,w⟩:=YB Y;exact(Zjm g ho u (fun e=>hd (w▸e▸rfl))).YL
  ·subst a;exact h.elim
 ·rename_i x xt t ok ho;split at a
  ·rename_i r t' v hr hx;split at a
   ·rename_i e;subst a;subst e;cases ok with
    |true=>exact(Zhx g ho hr h hx).YL
    |false=>exact(Zfv g ho hr h hx).YL
   ·rename_i e;subst a;obtain⟨rfl,B,C⟩:=h;exact(Zji g ho hr B e C hx).YL
  ·rename_i r hr hx;subst a;obtain⟨rfl,B,C⟩:=h;exact(Zhw g ho hr B C hx).YL
  ·subst a;exact h.elim
 ·rename_i op t x y yt ho;split at a
  ·rename_i b K;subst a;obtain⟨⟨e,j⟩,z⟩:=h;obtain⟨r,u,w⟩:=YB j;simp only;rw[Zgq b z];exact(Zsg g ho u w K (Zcq z)).YL
  split at a
  ·rename_i hx A;split at a
   ·subst a;obtain⟨rfl,h⟩:=h;exact(ZtF ho hx A rfl h).YL
   ·subst a;obtain⟨rfl,h⟩:=h;exact(ZtI ho hx A rfl h).YL
   ·subst a;exact(ZtJ ho hx A rfl h).YL
   ·split at a
    ·rename_i v hv;subst a;have h:_=_:=h;subst h;exact(Zms ho hx A hv).YL
    ·subst a;exact h.elim
  ·rename_i hx A;split at a
   ·subst a;exact(ZoX ho hx A rfl h).YL
   ·split at a
    ·rename_i v hv;subst a;exact(Zmt ho hx A hv).YL
    ·subst a;exact h.elim
  ·rename_i hx A;subst a;obtain⟨j,z⟩:=h;obtain⟨r,u,w⟩:=YB j;exact(ZkU g ho u w hx A (Zcq z)).YL
  ·rename_i hx A;subst a;exact Zc4 g ho hx A h .pp
  ·rename_i hx A;subst a;exact Zc4 g ho hx A h (.pq _ _ _)
  ·rename_i hx A;subst a;exact Zc4 g ho hx A h (.pi _)
  ·rename_i hx A;subst a;exact Zc4 g ho hx A h .ff
  ·rename_i hx A;subst a;exact Zc4 g ho hx A h (.fg _ _)
  ·rename_i hx A;subst a;obtain⟨⟨k,e,j⟩,z⟩:=h;exact Zc4 g ho hx A ⟨j,z⟩ (.mm _ _)
  ·rename_i hx A;subst a;obtain⟨⟨k,e,j⟩,z⟩:=h;exact Zc4 g ho hx A ⟨j,z⟩ (.mn _ _ _ _)
  ·rename_i hx A;split at a
   ·rename_i r la lb j z D;subst a;obtain⟨B,C,H,R⟩:=h;simp only;rw[Zgq _ R];exact(ZoY g ho j B hx A z D C H (Zcq R)).YL
   ·subst a;exact h.elim
  ·subst a;exact h.elim
 ·rename_i t x y ok ho;split at a
  ·rename_i kt e re hm hx;subst a;exact(ZcQ g ho hm h.1 hx rfl h.2).YL
  ·subst a;exact h.elim
 ·rename_i t x ix ho;split at a
  ·rename_i j hx E;subst a;obtain⟨r,u,w⟩:=YB j;exact(Zjk g ho u w hx E h.1 h.2).YL
  ·subst a;exact h.elim
 ·rename_i t x lo E mx ho;split at a
  ·rename_i hx;split at a
   ·rename_i l h' hl W;subst a;obtain⟨j,B,C,H⟩:=h;obtain⟨r,u,w⟩:=YB j;exact(Zjo g ho u w hx hl W B C H).YL
   ·subst a;exact h.elim
  ·rename_i k xs ow hx;split at a
   ·rename_i e re l h' Z hl W;subst a;obtain⟨r,u,w,J⟩:=ZQ Z;obtain⟨c0,B,C,H⟩:=h;have hs:=ZkW g ho u w J c0 hx hl W B C H;cases ow with
    |any=>exact hs.YL
    |buf=>exact hs.YL
    |full=>
     cases xs with
     |cons y ys=>exact hs.YL
     |nil=>
      have e1:l=0:=by simp at H;omega
      have e2:h'=0:=by simp at H;omega
      subst e1 e2;exact(Zjn g ho u w J hx hl W).YL
   ·subst a;exact h.elim
  ·subst a;exact h.elim
 ·rename_i t n ps ho;split at a
  ·rename_i e re hs;subst a;obtain⟨r,u,w,J⟩:=ZQ hs;obtain⟨B,C,H,R,X⟩:=h;exact fun m G=>(Zht g ho u w J B C H R (fun x hx=>⟨(X x hx).1,Yi (X x hx).2⟩)).sem
  ·subst a;exact h.elim
 ·rename_i c ho;obtain⟨ax,args,Q⟩:=c;simp only at a;split at a
  ·rename_i ha L;obtain⟨args⟩:=args;obtain⟨Q⟩:=Q;simp only at ha L;subst ha L;split at a
   ·rename_i hx;subst a;obtain⟨q,K⟩:=h;obtain⟨r,u,w,J⟩:=ZQ K;exact(Zo0 g ho u w hx).YL
   ·rename_i hx;subst a;obtain⟨q,K⟩:=h;obtain⟨r,u,w,J⟩:=ZQ K;exact(Zmw g ho u w hx).YL
   ·rename_i hx;subst a;obtain⟨q,K⟩:=h;obtain⟨r,u,w,J⟩:=ZQ K;exact(Zmy g ho u w hx).YL
   ·rename_i hx;subst a;obtain⟨r,u,w⟩:=YB h;exact(Zmx g ho u w hx).YL
   ·subst a;exact h.elim
  ·rename_i ha L;obtain⟨args⟩:=args;obtain⟨Q⟩:=Q;simp only at ha L;subst ha L;split at a
   ·rename_i hx;subst a;obtain⟨q,K⟩:=h;obtain⟨r,u,w,J⟩:=ZQ K;exact(Zmu g ho u w hx).YL
   ·subst a;exact h.elim
  ·rename_i ha L;obtain⟨args⟩:=args;obtain⟨Q⟩:=Q;simp only at ha L;subst ha L;split at a
   ·rename_i e re k xs k' ys ow hs hx A;subst a;obtain⟨r,u,w,J⟩:=ZQ hs;obtain⟨c0,B,C,H,R,X⟩:=h;subst c0;exact fun m G=>(Wj (T:=T) _ (or_append g ho u w J B hx A C H R X)).sem
   ·subst a;exact h.elim
  ·rename_i ha _;obtain⟨args⟩:=args;simp only at ha;subst ha;split at a
   ·rename_i hx A;split at a
    ·rename_i v hv;subst a;exact(Zvb ho hx A hv).YL
    ·subst a;exact h.elim
   ·subst a;exact h.elim
  ·subst a;exact h.elim
 ·subst a;exact h.elim
end
def Env.Zr(E:Env)(l j n:Nat)(v:Value)(g:Nat)(c:List Value):Env where
 F:=fun b o=>if b=g then c[o]? else E.F b o
 m:=E.m
 hist:=fun d a e=>if d=l/\a=j/\e=n then some v else E.hist d a e
 g:=fun d a=>if d=l/\a=j then some g else E.g d a
 qd:=E.qd
section
variable {l j n m:Nat} {w:World} {E:Env} {H:Za}
def Zo.ZjR{w':World}(h:Zo m H E w){g':Nat}{v:Value}{nb:Ze}(hl:l<m)(U:E.hist l j n=none)(O:nb.isBuf=true)(c:List Value)
  (size:w.heap.size<=w'.heap.size) (s:∀b,b<w.heap.size->b≠g'->w'.heap[b]? =w.heap[b]?) (y:∀l' k' b,E.m l' k'=some b->b≠g') (t:∀l' k' b,E.g l' k'=some b-> ¬(l'=l/\k'=j)->b≠g')
  (J:g'<w'.heap.size) (x:∀o u,c[o]? =some u->w'.cell? ⟨g',o,none⟩=some u) (S:∀o v,E.F g' o=some v->c[o]? =some v)
  (G:Zee (E.Zr l j n v g' c) w' l j nb):
  Zo m (H.upd l j nb) (E.Zr l j n v g' c) w'/\E.le m (E.Zr l j n v g' c):=by
 have B:∀l' k' b,E.m l' k'=some b->b<w.heap.size:=fun l' k' b hm=>h.lt b (.inl ⟨l',k',hm⟩)
 have C:∀l' k' b,E.g l' k'=some b->b<w.heap.size:=fun l' k' b hm=>h.lt b (.inr ⟨l',k',hm⟩)
 have D:E.le m (E.Zr l j n v g' c):=by
  refine⟨fun b o v hf=>?_,fun _ _ _ _ hm=>hm,fun l' k' i u _ K=>?_,rfl⟩
  ·simp only[Env.Zr];by_cases hb:b=g'
   ·subst hb;rw[if_pos rfl];exact S o v hf
   ·rw[if_neg hb];exact hf
  ·simp only[Env.Zr];rw[if_neg (fun hc=>by rw[hc.1,hc.2.1,hc.2.2,U]at K;cases K)];exact K
 refine⟨{norm:=?_,F:=?_,blk:=?_,dom:=?_,nobuf:=?_,inj:=h.inj,injg:=?_,mg:=?_,mF:=?_,lt:=?_},D⟩
 ·refine⟨h.norm.m,fun l' k' f=>?_,fun l' k' i f=>?_⟩
  ·simp only[Env.Zr];rw[if_neg (fun hc=>by omega)];exact h.norm.g l' k' f
  ·simp only[Env.Zr];rw[if_neg (fun hc=>by omega)];exact h.norm.hist l' k' i f
 ·intro b o u hf;simp only[Env.Zr]at hf;by_cases hb:b=g'
  ·subst hb;rw[if_pos rfl]at hf;exact x o u hf
  ·rw[if_neg hb]at hf;have A:=h.ZbC hf;have hc:=h.F b o u hf;simp only[World.cell?,s b A hb]at hc⊢;exact hc
 ·intro l' k' R f e;by_cases d:l'=l/\k'=j
  ·obtain⟨rfl,rfl⟩:=d;rw[Za.upd_same,Qp]at e;subst e;exact G
  ·rw[Za.upd_ne H _ d]at e;refine(h.blk l' k' R f e).keep rfl (by simp only[Env.Zr];rw[if_neg d]) (fun i=>by simp only[Env.Zr];rw[if_neg (fun hc=>d ⟨hc.1,hc.2.1⟩)]) (fun _ _ _ h=>h) (fun r hr=>?_) (fun g o hg hf=>?_) (fun a _ v hv=>hv.mono h.norm D)
   ·rcases hr with hr|hr
    ·exact s r (B _ _ _ hr) (y _ _ _ hr)
    ·exact s r (C _ _ _ hr) (t _ _ _ hr d)
   ·simp only[Env.Zr];rw[if_neg (t _ _ _ hg d)];exact hf
 ·intro l' k' f e;by_cases d:l'=l/\k'=j
  ·obtain⟨rfl,rfl⟩:=d;rw[Za.upd_same]at e;cases e
  ·rw[Za.upd_ne H _ d]at e;obtain⟨d1,P,Q⟩:=h.dom l' k' f e;exact⟨d1,by simp only[Env.Zr];rw[if_neg d];exact P,fun i=>by simp only[Env.Zr];rw[if_neg (fun hc=>d ⟨hc.1,hc.2.1⟩)];exact Q i⟩
 ·intro l' k' hg;by_cases d:l'=l/\k'=j
  ·obtain⟨rfl,rfl⟩:=d;exact⟨nb,Za.upd_same H _ _ _,O⟩
  ·rw[Za.upd_ne H _ d];simp only[Env.Zr,if_neg d]at hg;exact h.nobuf l' k' hg
 ·intro M I N L b p k;simp only[Env.Zr]at p k;by_cases z:M=l/\I=j<;>by_cases q:N=l/\L=j
  ·exact⟨z.1.trans q.1.symm,z.2.trans q.2.symm⟩
  ·rw[if_pos z,Qp]at p;rw[if_neg q]at k;exact absurd p.symm (t _ _ _ k q)
  ·rw[if_neg z]at p;rw[if_pos q,Qp]at k;exact absurd k.symm (t _ _ _ p z)
  ·rw[if_neg z]at p;rw[if_neg q]at k;exact h.injg _ _ _ _ _ p k
 ·intro M I N L b p k;simp only[Env.Zr]at k;by_cases q:N=l/\L=j
  ·rw[if_pos q,Qp]at k;exact y _ _ _ p k.symm
  ·rw[if_neg q]at k;exact h.mg _ _ _ _ _ p k
 ·intro M I b o p;simp only[Env.Zr];rw[if_neg (y _ _ _ p)];exact h.mF _ _ _ _ p
 ·intro b hb;rcases hb with⟨l',k',hm⟩|⟨l',k',hg⟩
  ·have:=B _ _ _ hm;omega
  ·simp only[Env.Zr]at hg;by_cases q:l'=l/\k'=j
   ·rw[if_pos q,Qp]at hg;omega
   ·rw[if_neg q]at hg;have:=C _ _ _ hg;omega
def Zo.Zdw{w':World}(h:Zo m H E w){g':Nat}{v:Value}{nb:Ze}(hl:l<m)(A:E.m l j=none)(x:E.hist l j n=none)(q:nb.isBuf=true)(c:List Value)
  (os:w'.os=w.os) (tape:w'.tape=w.tape) (output:w'.output=w.output) (drawn:E.qd=true->w.drawn<=w'.drawn) (size:w.heap.size<=w'.heap.size) (a:∀b,b<w.heap.size->b≠g'->w'.heap[b]? =w.heap[b]?)
  (hg':E.g l j=some g'\/w.heap.size<=g') (d:g'<w'.heap.size) (e:∀o u,c[o]? =some u->w'.cell? ⟨g',o,none⟩=some u) (y:∀o v,E.F g' o=some v->c[o]? =some v)
  (f:Zee (E.Zr l j n v g' c) w' l j nb):
  Zo m (H.upd l j nb) (E.Zr l j n v g' c) w'/\Ext m E w (E.Zr l j n v g' c) w':=by
 have s:∀l' k' b,E.m l' k'=some b->b≠g':=fun l' k' b hm i=>by
  subst i;rcases hg' with hg'|hg'
  ·exact h.mg _ _ _ _ _ hm hg'
  ·have:=h.lt b (.inl ⟨l',k',hm⟩);omega
 have r:∀l' k' b,E.g l' k'=some b-> ¬(l'=l/\k'=j)->b≠g':=fun l' k' b hm k i=>by
  subst i;rcases hg' with hg'|hg'
  ·exact k (h.injg _ _ _ _ _ hm hg')
  ·have:=h.lt b (.inr ⟨l',k',hm⟩);omega
 obtain⟨z,p⟩:=h.ZjR hl x q c size a s r d e y f;refine⟨z,p,os,tape,output,drawn,size,fun b hb ho=>?_,fun b hb ho=>?_⟩
 ·refine a b hb (fun i=>ho ?_);subst i;rcases hg' with hg'|hg'
  ·exact .inr ⟨l,j,hg'⟩
  ·omega
 ·rcases ho with⟨l',k',hm⟩|⟨l',k',hg⟩
  ·exact .inl ⟨l',k',hm⟩
  ·simp only[Env.Zr]at hg;by_cases t:l'=l/\k'=j
   ·rw[if_pos t,Qp]at hg;subst hg;rcases hg' with hg'|hg'
    ·exact .inr ⟨l,j,hg'⟩
    ·omega
   ·rw[if_neg t]at hg;exact .inr ⟨l',k',hg⟩
def Env.Yn(E:Env)(l j:Nat)(v:Value):Env:={E with hist:=fun c a b=>if c=l/\a=j/\b=0 then some v else E.hist c a b}
def Zo.adopt(h:Zo m H E w)(G:l<m)(p:H l j=none)(n:Option Addr)(e k:Nat)(z:Bool):
  Zo m (H.upd l j (if z then .Zg e k [] 0 else .buf e k 0)) (E.Yn l j (.slice n 0 0)) w/\Ext m E w (E.Yn l j (.slice n 0 0)) w:=by
 obtain⟨B,s,t⟩:=h.dom l j G p;have q:E.le m (E.Yn l j (.slice n 0 0)):=⟨fun _ _ _ h=>h,fun _ _ _ _ h=>h,fun c b i u _ r=>by
  simp only[Env.Yn];rw[if_neg (fun d=>by rw[d.1,d.2.1,t]at r;cases r)];exact r,rfl⟩
 refine⟨{norm:=⟨h.norm.m,h.norm.g,fun c b i f=>?_⟩,F:=h.F,blk:=?_,dom:=?_,nobuf:=?_,inj:=h.inj,injg:=h.injg,mg:=h.mg,mF:=h.mF,lt:=h.lt},⟨q,rfl,rfl,rfl,fun _=>Qi _,Qi _,fun _ _ _=>rfl,fun _ _ h=>h⟩⟩
 ·simp only[Env.Yn];rw[if_neg (fun d=>by omega)];exact h.norm.hist c b i f
 ·intro c b C f o;by_cases d:c=l/\b=j
  ·obtain⟨rfl,rfl⟩:=d;rw[Za.upd_same,Qp]at o;subst o;have x:(E.Yn c b (.slice n 0 0)).hist c b 0=some (.slice n 0 0):=by simp[Env.Yn]
   have A:∀i,0<i->(E.Yn c b (.slice n 0 0)).hist c b i=none:=fun i r=>by simp only[Env.Yn];rw[if_neg (fun d=>by omega)];exact t i
   cases z with
   |false=>exact⟨⟨.slice n 0 0,x,A,.inl ⟨n,rfl,rfl,s⟩⟩,B⟩
   |true=>exact⟨⟨sm,.slice n 0 0,x,A,.inl ⟨n,rfl,rfl,s⟩⟩,B⟩
  ·rw[Za.upd_ne _ _ d]at o;exact(h.blk c b C f o).keep rfl rfl (fun i=>by simp only[Env.Yn];rw[if_neg (fun h=>d ⟨h.1,h.2.1⟩)]) (fun _ _ _ h=>h) (fun _ _=>rfl) (fun _ _ _ h=>h) (fun a _ v K=>K.mono h.norm q)
 ·intro c b f o;by_cases d:c=l/\b=j
  ·obtain⟨rfl,rfl⟩:=d;rw[Za.upd_same]at o;cases o
  ·rw[Za.upd_ne _ _ d]at o;obtain⟨I,D,J⟩:=h.dom c b f o;exact⟨I,D,fun i=>by simp only[Env.Yn];rw[if_neg (fun h=>d ⟨h.1,h.2.1⟩)];exact J i⟩
 ·intro c b y;by_cases d:c=l/\b=j
  ·obtain⟨rfl,rfl⟩:=d;exact absurd s y
  ·rw[Za.upd_ne _ _ d];exact h.nobuf c b y
def Z7{b:Ze}(h:H l j=some b):H.upd l j b=H:=by
 funext d c;simp only[Za.upd];split
 ·rename_i a;rw[a.1,a.2,h]
 ·rfl
def ZjG(w:World)(e f n:Nat)(h:Value)(d:List Value):Prop:=
 (n=0/\d=[]/\ ∃a,h= .slice a 0 0)\/
 ∃g b c,h= .slice (some ⟨g,0,none⟩) n b/\w.heap[g]? =some (.cells c e (0,0))/\n<=b/\b<=maxLen/\c.size=b*f/\c.toList.take (n*f)=d
def Zb8{P:Program}{T:TT}(W:TOK P T){t ty e:TypeId}{r re:Zp}(Y:T t=some r)(X:r.td= .slice e)(h3:T e=some re){c G f m:Nat}{O:Value}{k cs2:List Value}
  (I:ZjG w e re.size n O k) (hc:0<c) (i:cs2.length=c*re.size) (S:∀j v,cs2[j]? =some v->w.cell? ⟨G,f+j,none⟩=some v) (J:∀u∈cs2,u.oneCell'=true)
  (x:n+c<=maxLen) (F:(n+c)*re.bytes<=140737488355328):
  ∃g' cap cur w',(Builtin.append_ #[t,t] ty #[O,.slice (some ⟨G,f,none⟩) c m]).run P w= .ok (.slice (some ⟨g',0,none⟩) (n+c) cap) w'/\w'.os=w.os/\w'.tape=w.tape/\w'.output=w.output/\w.drawn<=w'.drawn/\w.heap.size<=w'.heap.size/\
   (∀b,b<w.heap.size->b≠g'->w'.heap[b]? =w.heap[b]?)/\((∃C,O= .slice (some ⟨g',0,none⟩) n C/\0<C)\/w.heap.size<=g')/\w'.heap[g']? =some (.cells cur e (0,0))/\n+c<=cap/\cap<=maxLen/\cur.size=cap*re.size/\
   k++cs2=cur.toList.take ((n+c)*re.size):=by
 obtain⟨d,Z,z,hf⟩:=Zd (W t r Y);obtain⟨d',E,A,a⟩:=Zd (W e re h3);have hd:=ZE (X▸hf.fits);subst hd;have L:P.underlying t=some (.slice e):=hf.und;have Q:n+c<=9223372036854775807:=by unfold maxLen at x;omega
 have q:cs2.length=c*E.size:=by rw[a.size];exact i
 have p:∀j v,cs2[j]? =some v->w.cell? ((⟨G,f,none⟩:Addr).add j)=some v:=fun j v H=>by rw[ZC];exact S j v H
 rcases I with⟨rfl,rfl,R,rfl⟩|⟨g,cap,cur,rfl,K,q4,q5,U,M⟩
 ·simp only[Qy]at Q x F⊢;have y:=grownCap_ge w c 0 e;cases R with
  |none=>
   have l:=run_append_nil (P:=P) w t ty e E A L a.info a.zero ⟨G,f,none⟩ c m cs2 q p hc om (by rw[a.bytes];omega);refine⟨w.heap.size,grownCap w c 0 e,cs2.toArray++Builtin.zeroCells A.cells (grownCap w c 0 e - c),w.drew.alloc (.cells (cs2.toArray++Builtin.zeroCells A.cells (grownCap w c 0 e - c)) e),l,rfl,rfl,rfl,Uc _,sm,fun b hb _=>heap_alloc_old w.drew _ hb,.inr (Qi _),heap_alloc_new w.drew _,y,grownCap_le_maxLen w _ _ _ x,?_,?_⟩
   ·simp only[Gj,UZ,size_zeroCells,i,a.zsize,<-Nat.add_mul];congr 1;omega
   ·simp only[QG,MQ];rw[<-i];simp
  |some R=>
   have s:Builtin.nextslicecap (0+c) 0*E.bytes<=281474976710656:=growslice_fits om (by rw[a.bytes,Qy];exact F);have l:=run_append_grow (P:=P) w t ty e E A L a.info a.zero R 0 0 [] sm sm ⟨G,f,none⟩ c m cs2 q p om om s;simp only[Qy]at l;refine⟨w.heap.size,grownCap w c 0 e,#[]++cs2.toArray++Builtin.zeroCells A.cells (grownCap w c 0 e - c),w.drew.alloc (.cells (#[]++cs2.toArray++Builtin.zeroCells A.cells (grownCap w c 0 e - c)) e),l,rfl,rfl,rfl,Uc _,sm,fun b hb _=>heap_alloc_old w.drew _ hb,.inr (Qi _),heap_alloc_new w.drew _,y,grownCap_le_maxLen w _ _ _ x,?_,?_⟩
   ·simp only[Gj,UZ,size_zeroCells,i,a.zsize,Qz,Qy,<-Nat.add_mul];congr 1;omega
   ·simp only[QG,MQ,U3];rw[<-i];simp
 ·have ax:n*re.size<=cap*re.size:=QF _ q4;have B:k.length=n*re.size:=by rw[<-M,QJ];simp;omega
  have N:∀j v,k[j]? =some v->w.cell? ((⟨g,0,none⟩:Addr).add j)=some v:=fun j v H=>by
   rw[ZC];simp only[World.cell?,K,Qy];rw[<-M]at H;rcases Qd j (n*re.size)with h|h
   ·rw[QT h]at H;simpa using H
   ·rw[UL,if_neg om]at H;cases H
  have V:g<w.heap.size:=(QO.1 K).1;by_cases o:n+c<=cap
  ·have D:n*E.size+cs2.length<=cur.size:=by rw[i,U,a.size,<-Q9];exact QF _ o
   have l:=run_append_room (P:=P) w t ty e E L a.info g n cap cur K ⟨G,f,none⟩ c m cs2 q p J o D;rw[a.size]at l D;refine⟨g,cap,_,_,l,rfl,rfl,rfl,Qi _,by simp[World.setRow],fun b _ hb=>setRow_other w g b _ hb,.inl ⟨cap,rfl,om⟩,setRow_heap w g cur _ e (0,0) K,o,q5,?_,?_⟩
   ·simp only[UZ,Qh,QJ,QL,Uh];rw[<-U];omega
   ·rw[U3,M];rw[show(n+c)*re.size=(k++cs2).length by rw[Qh,B,i,Q9],Gn]
  ·have s:Builtin.nextslicecap (n+c) cap*E.bytes<=281474976710656:=growslice_fits om (by rw[a.bytes];exact F);have y:=grownCap_ge w (n+c) cap e;have l:=run_append_grow (P:=P) w t ty e E A L a.info a.zero ⟨g,0,none⟩ n cap k (by rw[a.size];exact B) N ⟨G,f,none⟩ c m cs2 q p om om s;refine⟨w.heap.size,grownCap w (n+c) cap e,k.toArray++cs2.toArray++Builtin.zeroCells A.cells (grownCap w (n+c) cap e - (n+c)),w.drew.alloc (.cells (k.toArray++cs2.toArray++Builtin.zeroCells A.cells (grownCap w (n+c) cap e - (n+c))) e),l,rfl,rfl,rfl,Uc _,sm,fun b hb _=>heap_alloc_old w.drew _ hb,.inr (Qi _),heap_alloc_new w.drew _,y,grownCap_le_maxLen w _ _ _ x,?_,?_⟩
   ·simp only[Gj,UZ,size_zeroCells,B,i,a.zsize,<-Nat.add_mul];congr 1;omega
   ·simp only[MQ,U3];rw[show(n+c)*re.size=(k++cs2).length by rw[Qh,B,i,Q9],Gn]
def WB{P:Program}{T:TT}(j:TOK P T){t y e:TypeId}{r l:Zp}(q:T t=some r)(p:r.td= .slice e)(x:T e=some l){u:Nat}{A:Own}{f i:Value}{c:Nat}{g:Option Addr}(h:f= .slice g n c)(b:n<=c)(v:VR E (.sl u [] A) i):
  (Builtin.append_ #[t,t] y #[f,i]).run P w= .ok f w:=by
 obtain⟨d,s,z,k⟩:=Zd (j t r q);obtain⟨C,D,B,a⟩:=Zd (j e l x);have o:=ZE (p▸k.fits);subst o;subst h;have m:P.underlying t=some (.slice e):=k.und;rcases v.Vl with⟨⟨a2,e2,_⟩,_,_⟩|⟨b2,off2,cap2,cs2,e2,_,_,_,hc2,_,_⟩<;>rw[e2]
 ·cases g<;>cases a2<;>simp[Builtin.append_,run_underlying m,sizeOf,typeInfo,a.info,Builtin.lenOf,Builtin.firstCells,loadCells,loadCellsFrom,storeCells,b]
 ·cases g<;>simp[Builtin.append_,run_underlying m,sizeOf,typeInfo,a.info,Builtin.lenOf,Builtin.firstCells,loadCells,loadCellsFrom,storeCells,b]
section ops
variable {P:Program} {T:TT} {o:Oper} {ρ:Operand->AV}
def YI{a:Act}{t b:TypeId}{x y:Operand}{w d:World}{v:Value}(e:o.op= .call {callee:=.builtin .append,args:=#[x,y],argTypes:=#[t,b]})
  (h:(Builtin.append_ #[t,b] o.type #[a.eval x,a.eval y]).run P w= .ok v d):(execOp a.eval o).run P w= .ok (.value v) d:=by
 have f:(execOp a.eval o).run P w=((Builtin.append_ #[t,b] o.type #[a.eval x,a.eval y]).run P w).andThen fun v c=>.ok (.value v) c:=by
  simp[execOp,e,resolve,invoke,builtin]
 rw[f,h];rfl
def ZeZ{P:Program}{m:Nat}{H:Za}{E:Env}{w:World}{S:Sem Value}{K:Value}{e:TypeId}{sz k l j:Nat}{xs ys:LA}{cs2:List Value}
  (hr:Zo m H E w) (hx:VR E (.sl k xs (.buf l j)) K) (hl:l<m) (hH:H l j=some (.buf e sz xs.length)) (hk:k=sz) (O:∀y∈ys,y.cells.length=sz) (aw:VRs E (flat ys) cs2) (av:0<ys.length) (a5:xs.length+ys.length<=maxLen)
  (G:∀a,ZjG w e sz xs.length K a-> ∃g' cap cur w',S.run P w= .ok (.slice (some ⟨g',0,none⟩) (xs.length+ys.length) cap) w'/\w'.os=w.os/\w'.tape=w.tape/\w'.output=w.output/\w.drawn<=w'.drawn/\w.heap.size<=w'.heap.size/\
   (∀b,b<w.heap.size->b≠g'->w'.heap[b]? =w.heap[b]?)/\((∃s,K= .slice (some ⟨g',0,none⟩) xs.length s/\0<s)\/w.heap.size<=g')/\w'.heap[g']? =some (.cells cur e (0,0))/\xs.length+ys.length<=cap/\cap<=maxLen/\cur.size=cap*sz/\
   a++cs2=cur.toList.take ((xs.length+ys.length)*sz)):
  ∃cv E' w',S.run P w= .ok cv w'/\VR E' (.sl k (xs++ys) (.buf l j)) cv/\Zo m (H.upd l j (.buf e sz (xs.length+ys.length))) E' w'/\Ext m E w E' w':=by
 subst hk;have a2:cs2.length=ys.length*k:=by rw[aw.1,flat_length O]
 obtain⟨⟨v0,C,az,ax⟩,X⟩:=hr.buf l j e k xs.length hl hH;have U:=hx.Vl;have a4:K=v0:=by
  rcases U with⟨⟨a1,L,_⟩,ex,A⟩|⟨_,_,_,_,_,_,_,_,_,_,A⟩
  ·subst ex;have:E.hist l j 0=some _:=A;simp only[Qz]at C;rw[C]at this;rw[L]at*;exact(Uu this).symm
  ·have:E.hist l j xs.length=some K:=A;rw[C]at this;exact(Uu this).symm
 subst a4;have f:∃a,ZjG w e k xs.length K a/\VRs E (flat xs) a/\(∀x∈xs,x.cells.length=k):=by
  rcases ax with⟨a0,c,q2,Y⟩|⟨g,cap,cur,c,q2,Y,q4,q5,q6,q7⟩
  ·have ex:xs=[]:=Ua q2;subst ex;exact⟨[],.inl ⟨rfl,rfl,a0,c⟩,VRs.nil E,sm⟩
  ·rcases U with⟨⟨a1,L,a3⟩,_,_⟩|⟨b1,bw,V,a,L,r,q,a9,b0,bu,A⟩
   ·obtain rfl:=a3 sm;rw[L]at c;cases c
   ·rw[L]at c;simp only[Value.slice.injEq,Qp,Addr.mk.injEq,true_and,and_true]at c;obtain⟨⟨rfl,rfl⟩,rfl⟩:=c;refine⟨a,.inr ⟨b1,V,cur,L,Y,q4,q5,q6,?_⟩,q,r⟩;have bq:a.length=xs.length*k:=by rw[q.1,flat_length r]
    apply Qbf;intro i;rcases Qd i (xs.length*k)with hi|hi
    ·rw[QT hi];have M:i<a.length:=om;have:=hr.F _ _ _ (a9 i _ (Qe M));simp only[World.cell?,Y,Qy]at this;rw[Qe M,<-this];simp
    ·rw[UL,if_neg om,Uw om]
 obtain⟨a,f,q,r⟩:=f;obtain⟨g',cap,cur,w',Z,os,tp,out,a7,size,W,hg',t,hcap,R,a6,aq⟩:=G a f;have p:w.heap.size<=g'\/(E.g l j=some g'/\(∀o,xs.length*k<=o->E.F g' o=none)/\ ∃c0,w.heap[g']? =some (.cells c0 e (0,0))/\c0.toList.take (xs.length*k)=a):=by
  rcases hg' with⟨s,I,bv⟩|hg'
  ·refine .inr ?_;rcases ax with⟨a0,c,q2,Y⟩|⟨g,cap,cur,c,q2,Y,q4,q5,q6,q7⟩
   ·rw[I]at c;simp only[Value.slice.injEq]at c;omega
   ·rcases f with⟨_,_,a0,J⟩|⟨g0,a8,Q,J,p3,p4,p5,p6,p7⟩
    ·rw[I]at J;simp only[Value.slice.injEq]at J;omega
    ·rw[I]at c J;simp only[Value.slice.injEq,Qp,Addr.mk.injEq,true_and,and_true]at c J;obtain⟨rfl,rfl⟩:=c;obtain⟨rfl,rfl⟩:=J;exact⟨q2,q7,Q,p3,p7⟩
  ·exact .inl hg'
 have B:E.hist l j (xs.length+ys.length)=none:=az _ om;have d:(xs++ys).length=xs.length+ys.length:=Qh;have au:∀o u,(a++cs2)[o]? =some u->w'.cell? ⟨g',o,none⟩=some u:=fun o u z=>by
  rw[aq]at z;simp only[World.cell?,t];rcases Qd o ((xs.length+ys.length)*k)with h|h
  ·rw[QT h]at z;simpa using z
  ·rw[UL,if_neg om]at z;cases z
 have bz:(a++cs2).length=(xs.length+ys.length)*k:=by
  rw[Qh,q.1,flat_length r,a2,Q9]
 obtain⟨hh,ay⟩:=hr.Zdw (n:=xs.length+ys.length) (v:=.slice (some ⟨g',0,none⟩) (xs.length+ys.length) cap) (nb:=.buf e k (xs.length+ys.length)) (g':=g') hl X B rfl (a++cs2) os tp out (fun _=>a7) size W
  (p.elim .inr (fun h=>.inl h.1)) (QO.1 t).1 au (fun o u z=>by
   rcases p with hn|⟨_,q7,c0,p3,p7⟩
   ·have:=hr.ZbC z;omega
   ·have N:o<xs.length*k:=by
     rcases Qd o (xs.length*k)with h|h
     ·exact h
     ·rw[q7 o h]at z;cases z
    have hc:=hr.F _ _ _ z;simp only[World.cell?,p3]at hc;rw[UF (by rw[q.1,flat_length r];exact N),<-p7,QT N];simpa using hc)
  ⟨⟨_,by simp[Env.Zr],fun i hi=>by simp only[Env.Zr];rw[if_neg (fun h=>by omega)];exact az i om,.inr ⟨g',cap,cur,rfl,by simp[Env.Zr],t,hcap,R,a6,fun o ho=>by
   simp only[Env.Zr,if_true];exact Uw om⟩⟩,X⟩
 refine⟨_,_,w',Z,?_,hh,ay⟩;have D:∀x∈xs++ys,x.cells.length=k:=fun x hx=>by
  rcases Qr.1 hx with h|h
  ·exact r x h
  ·exact O x h
 have bx:VRs E (flat (xs++ys)) (a++cs2):=by rw[YJ];exact q.append aw
 have:=VR.Vm (E:=E.Zr l j (xs.length+ys.length) (.slice (some ⟨g',0,none⟩) (xs.length+ys.length) cap) g' (a++cs2)) (k:=k) (xs:=xs++ys) (o:=.buf l j) (b:=g') (off:=0) (cap:=cap) (cs:=a++cs2) D
  (bx.mono hr.norm ay.le) (fun i u hi=>by simp only[Env.Zr,if_true,Qy];exact hi) (by rw[d];exact hcap) (by rw[d];exact a5) (by rw[d];simp[Zam,Env.Zr])
 rwa [d]at this
def Zga{m:Nat}{H:Za}{E:Env}{w:World}{o M:Value}{t ty e:TypeId}{r re:Zp}{k k' l j:Nat}{xs ys:LA}{W:Own}(A:TOK P T)
  (B:T t=some r) (v:r.td= .slice e) (I:T e=some re) (S:0<re.size) (hr:Zo m H E w) (hx:VR E (.sl k xs (.buf l j)) o) (F:VR E (.sl k' ys W) M) (hl:l<m) (G:H l j=some (.buf e re.size xs.length)) (hk:k=re.size) (g:ys=[]\/k'=re.size)
  (q:∀y∈ys,∀c∈y.cells,c.one=true) (s:xs.length+ys.length<=maxLen) (D:(xs.length+ys.length)*re.bytes<=140737488355328):
  ∃L E' w',(Builtin.append_ #[t,t] ty #[o,M]).run P w= .ok L w'/\VR E' (.sl k (xs++ys) (.buf l j)) L/\Zo m (H.upd l j (.buf e re.size (xs.length+ys.length))) E' w'/\Ext m E w E' w':=by
 subst hk;obtain⟨⟨Z,h,X,U⟩,Q⟩:=hr.buf l j e re.size xs.length hl G;have n:=hx.Vl;have C:o=Z:=by
  rcases n with⟨⟨Y,u,_⟩,ex,i⟩|⟨_,_,_,_,_,_,_,_,_,_,i⟩
  ·subst ex;have:E.hist l j 0=some _:=i;simp only[Qz]at h;rw[h]at this;rw[u]at*;exact(Uu this).symm
  ·have:E.hist l j xs.length=some o:=i;rw[h]at this;exact(Uu this).symm
 subst C;by_cases d:ys=[]
 ·subst d;refine⟨o,E,w,?_,by rw[Qu];exact hx,by rw[Qz,UC,Z7 G];exact hr,.refl m E w⟩;rcases n with⟨⟨Y,u,_⟩,_,_⟩|⟨b,off,cap,cs,u,_,_,_,hc,_,_⟩
  ·exact WB A B v I u (Qi _) F
  ·exact WB A B v I u hc F
 ·have g:k'=re.size:=g.resolve_left d;subst g;obtain⟨b2,O,N,cs2,R,x,K,z,J,f⟩:=ZbJ hr F d q;have a:0<ys.length:=G9.2 d;subst R;exact ZeZ hr hx hl G rfl x K a s fun V p=>Zb8 A (ty:=ty) B v I p a z J f s D
theorem Ze0{m:Nat}{H:Za}{E:Env}{w:World}{J yv:Value}{t ty e:TypeId}{r re:Zp}{sz k' l j n:Nat}{cs:LA}{ys:LA}{ow:Own}(hT:TOK P T)
  (h1:T t=some r) (h2:r.td= .slice e) (h3:T e=some re) (bz:0<re.size) (hr:Zo m H E w) (hx:VR E (.msl sz l j n) J) (hy:VR E (.sl k' ys ow) yv) (hl:l<m) (hH:H l j=some (.Zg e re.size cs n)) (B:ys=[]\/k'=re.size)
  (U:∀y∈ys,∀c∈y.cells,c.one=true) (a1:n+ys.length<=maxLen) (au:(n+ys.length)*re.bytes<=140737488355328):
  ∃cv E' w',(Builtin.append_ #[t,t] ty #[J,yv]).run P w= .ok cv w'/\VR E' (.msl sz l j (n+ys.length)) cv/\Zo m (H.upd l j (.Zg e re.size (cs++flat ys) (n+ys.length))) E' w'/\Ext m E w E' w':=by
 obtain⟨⟨h0,v0,R,V,C⟩,Q⟩:=hr.Zg l j e re.size cs n hl hH;have av:J=v0/\ ∃ad c,J= .slice ad n c:=by
  cases hx with
  |mnil _ _ _ a D _=>rw[R]at D;cases D;exact⟨rfl,_,_,rfl⟩
  |msl _ _ _ _ g cap D=>rw[R]at D;cases D;exact⟨rfl,_,_,rfl⟩
 obtain⟨rfl,ad,c0,M⟩:=av;by_cases q:ys=[]
 ·subst q;refine⟨J,E,w,WB hT h1 h2 h3 M ?_ hy,by simpa using hx,by simpa[flat,Z7 hH]using hr,.refl m E w⟩;rcases C with⟨a0,d,x,K⟩|⟨g,cap,cur,d,x,K,Y,_⟩
  ·omega
  ·rw[M]at d;cases d;exact Y
 ·have B:k'=re.size:=B.resolve_left q;subst B;obtain⟨b2,bx,a9,cs2,e2,ax,a6,az,a3,A⟩:=ZbJ hr hy q U;have z:0<ys.length:=G9.2 q;have p:∃G,ZjG w e re.size n J G/\VRs E cs G:=by
   rcases C with⟨a0,d,x,K⟩|⟨g,cap,cur,d,x,K,Y,q5,q6,X,q8⟩
   ·have:cs=[]:=Ua (by rw[h0,x];simp);subst this;exact⟨[],.inl ⟨x,rfl,a0,d⟩,VRs.nil E⟩
   ·exact⟨_,.inr ⟨g,cap,cur,d,K,Y,q5,q6,rfl⟩,q8⟩
  obtain⟨G,p,aw⟩:=p;subst e2;obtain⟨g',cap,cur,w',S,os,tp,out,a4,size,O,hg',s,hcap,L,a2,ay⟩:=Zb8 hT (ty:=ty) h1 h2 h3 p z az a3 A a1 au;have f:w.heap.size<=g'\/(E.g l j=some g'/\ ∀o,E.F g' o=none):=by
   rcases hg' with⟨a7,W,a8⟩|hg'
   ·refine .inr ?_;rcases C with⟨a0,d,x,K⟩|⟨g,cap,cur,d,x,K,Y,q5,q6,X,q8⟩
    ·rw[W]at d;simp only[Value.slice.injEq]at d;omega
    ·rw[W]at d;simp only[Value.slice.injEq,Qp,Addr.mk.injEq,true_and,and_true]at d;obtain⟨rfl,rfl⟩:=d;exact⟨x,X⟩
   ·exact .inl hg'
  have N:∀o,E.F g' o=none:=by
   rcases f with hn|⟨_,X⟩
   ·intro o;cases hf:E.F g' o with
    |none=>rfl
    |some u=>have:=hr.ZbC hf;omega
   ·exact X
  have k:E.hist l j (n+ys.length)=none:=V _ om;have a5:E.le m (E.Zr l j (n+ys.length) (.slice (some ⟨g',0,none⟩) (n+ys.length) cap) g' []):=by
   refine⟨fun b o v hf=>?_,fun _ _ _ _ hm=>hm,fun l' k' i u _ hi=>?_,rfl⟩
   ·simp only[Env.Zr];by_cases hb:b=g'
    ·subst hb;rw[N o]at hf;cases hf
    ·rw[if_neg hb];exact hf
   ·simp only[Env.Zr];rw[if_neg (fun hc=>by rw[hc.1,hc.2.1,hc.2.2,k]at hi;cases hi)];exact hi
  have I:(flat ys).length=ys.length*re.size:=flat_length ax;obtain⟨D,aq⟩:=hr.Zdw (n:=n+ys.length) (v:=.slice (some ⟨g',0,none⟩) (n+ys.length) cap) (nb:=.Zg e re.size (cs++flat ys) (n+ys.length)) (g':=g') hl Q k rfl [] os tp out (fun _=>a4) size O
   (f.elim .inr (fun h=>.inl h.1)) (QO.1 s).1 (fun o u Z=>by simp at Z) (fun o u Z=>by rw[N o]at Z;cases Z)
   ⟨⟨by rw[Qh,h0,I,Q9],_,by simp[Env.Zr],fun i hi=>by simp only[Env.Zr];rw[if_neg (fun h=>by omega)];exact V i om,.inr ⟨g',cap,cur,rfl,by simp[Env.Zr],s,hcap,L,a2,fun o=>by simp[Env.Zr],by
    rw[<-ay];exact(aw.append a6).mono hr.norm a5⟩⟩,Q⟩
  exact⟨_,_,w',S,.msl sz l j _ g' cap (by simp[Env.Zr]),D,aq⟩
def Zar{m:Nat}{H:Za}{t:TypeId}{x y:Operand}{r re:Zp}{e:TypeId}{k k' l j:Nat}{xs ys:LA}{F:Own}(u:TOK P T)
  (ho:o.op= .call {callee:=.builtin .append,args:=#[x,y],argTypes:=#[t,t]}) (v:T t=some r) (q:r.td= .slice e) (D:T e=some re) (i:0<re.size)
  (hx:ρ x= .sl k xs (.buf l j)) (B:ρ y= .sl k' ys F) (hl:l<m) (C:H l j=some (.buf e re.size xs.length)) (hk:k=re.size) (h:ys=[]\/k'=re.size) (g:∀y∈ys,∀c∈y.cells,c.one=true)
  (p:xs.length+ys.length<=maxLen) (n:(xs.length+ys.length)*re.bytes<=140737488355328):
  Z5 P m o ρ H (.sl k (xs++ys) (.buf l j)) (H.upd l j (.buf e re.size (xs.length+ys.length))):=fun E w a hr b=>by
 have f:=b x sC;have d:=b y sC;rw[hx]at f;rw[B]at d;obtain⟨s,E',w',G,I,z,A⟩:=Zga u (ty:=o.type) v q D i hr f d hl C hk h g p n;exact⟨s,E',w',.inl (YI ho G),I,z,A⟩
def JV{m:Nat}{H:Za}{t:TypeId}{x y:Operand}{r re:Zp}{e:TypeId}{sz k' l j n:Nat}{cs ys:LA}{F:Own}(u:TOK P T)
  (ho:o.op= .call {callee:=.builtin .append,args:=#[x,y],argTypes:=#[t,t]}) (v:T t=some r) (q:r.td= .slice e) (D:T e=some re) (i:0<re.size)
  (hx:ρ x= .msl sz l j n) (B:ρ y= .sl k' ys F) (hl:l<m) (C:H l j=some (.Zg e re.size cs n)) (h:ys=[]\/k'=re.size) (g:∀y∈ys,∀c∈y.cells,c.one=true)
  (p:n+ys.length<=maxLen) (k:(n+ys.length)*re.bytes<=140737488355328):
  Z5 P m o ρ H (.msl sz l j (n+ys.length)) (H.upd l j (.Zg e re.size (cs++flat ys) (n+ys.length))):=fun E w a hr b=>by
 have f:=b x sC;have d:=b y sC;rw[hx]at f;rw[B]at d;obtain⟨s,E',w',G,I,z,A⟩:=Ze0 u (ty:=o.type) v q D i hr f d hl C h g p k;exact⟨s,E',w',.inl (YI ho G),I,z,A⟩
def Jc{m:Nat}{H:Za}{t:TypeId}{x y:Operand}{r re:Zp}{e:TypeId}{k k' l j:Nat}{ys:LA}{W:Own}(Q:TOK P T)
  (ho:o.op= .call {callee:=.builtin .append,args:=#[x,y],argTypes:=#[t,t]}) (R:T t=some r) (O:r.td= .slice e) (V:T e=some re) (D:0<re.size)
  (hx:ρ x= .sl k [] .full) (S:ρ y= .sl k' ys W) (hl:l<m) (U:H l j=none) (B:ys=[]\/k'=re.size) (v:∀y∈ys,∀c∈y.cells,c.one=true)
  (I:ys.length<=maxLen) (F:ys.length*re.bytes<=140737488355328):
  Z5 P m o ρ H (.sl re.size ys (.buf l j)) (H.upd l j (.buf e re.size ys.length))/\Z5 P m o ρ H (.msl re.size l j ys.length) (H.upd l j (.Zg e re.size (flat ys) ys.length)):=by
 have C:∀a b,(H.upd l j a).upd l j b=H.upd l j b:=fun a b=>by
  funext l' X;simp only[Za.upd];split<;>rfl
 constructor
 ·intro E w a hr g;have f:=g x sC;have p:=g y sC;rw[hx]at f;rw[S]at p;have d:∃u,a.eval x= .slice u 0 0:=by
   generalize a.eval x=q at f;cases f with
   |slnil _ _ a ho ha=>exact⟨a,rfl⟩
   |sl _ _ _ b off cap c hk hc hv hcap hm ho=>
    have:cap=0:=ho;subst this;exact⟨_,rfl⟩
  obtain⟨u,d⟩:=d;obtain⟨G,s⟩:=hr.adopt hl U u e re.size false;simp only[QE,if_false]at G;have z:VR (E.Yn l j (.slice u 0 0)) (.sl re.size [] (.buf l j)) (a.eval x):=by
   rw[d]at f⊢;cases f with
   |slnil _ _ _ ho ha=>exact .slnil _ _ _ (by simp[Zam,Env.Yn]) (fun _=>ha sm)
   |sl _ _ _ b off cap c hk hc hv hcap hm ho=>exact .sl _ [] _ b off 0 c (fun i h=>absurd h (Qj _)) (fun i j h=>absurd h (Qj _)) (fun i h=>absurd h (Qj _)) (Qi _) hm (by simp[Zam,Env.Yn])
  obtain⟨K,E',w',N,J,A,L⟩:=Zga Q (ty:=o.type) (xs:=[]) R O V D G z (p.mono hr.norm s.le) hl (Za.upd_same _ _ _ _) rfl B v (by simpa using I) (by simpa using F);rw[C]at A;simp only[Qz,Qy,QG]at J A;exact⟨K,E',w',.inl (YI ho N),J,A,s.trans L⟩
 ·intro E w a hr g;have f:=g x sC;have p:=g y sC;rw[hx]at f;rw[S]at p;have d:∃u,a.eval x= .slice u 0 0/\ ∀x,u=some x->x.spot=none:=by
   generalize a.eval x=q at f;cases f with
   |slnil _ _ a ho ha=>obtain rfl:=ha sm;exact⟨none,rfl,fun _ e=>by cases e⟩
   |sl _ _ _ b off cap c hk hc hv hcap hm ho=>
    have:cap=0:=ho;subst this;exact⟨_,rfl,fun _ e=>by cases e;rfl⟩
  obtain⟨u,d,M⟩:=d;obtain⟨G,s⟩:=hr.adopt hl U u e re.size true;simp only[if_true]at G;have z:VR (E.Yn l j (.slice u 0 0)) (.msl re.size l j 0) (a.eval x):=by
   rw[d];exact .mnil _ _ _ _ (by simp[Env.Yn]) M
  obtain⟨K,E',w',N,J,A,L⟩:=Ze0 Q (ty:=o.type) (n:=0) (cs:=[]) R O V D G z (p.mono hr.norm s.le) hl (Za.upd_same _ _ _ _) B v (by simpa using I) (by simpa using F);rw[C]at A;simp only[Qy,QG]at J A;exact⟨K,E',w',.inl (YI ho N),J,A,s.trans L⟩
end ops
theorem ZdW{P:Program}{T:TT}{o:Oper}{ρ:Operand->AV}{m:Nat}{H:Za}{t:TypeId}{n l j:Nat}{ps:Array (Nat×Operand)}{r re:Zp}{e:TypeId}(Z:TOK P T)(ho:o.op= .buildSlice t n ps)(h1:T t=some r)(h2:r.td= .slice e)(h3:T e=some re)
  (S:inOrder 0 ps.toList=true) (hn:n=ps.size) (X:0<n) (I:0<re.size) (K:n*re.size<=2^24) (hk:∀x∈ps.toList.map (fun p=>ρ p.2),x.cells.length=re.size/\ ∀c∈x.cells,c.one=true) (hl:l<m) (hH:H l j=none):
  Z5 P m o ρ H (.msl re.size l j n) (H.upd l j (.Zg e re.size (flat (ps.toList.map fun p=>ρ p.2)) n)):=fun E w a hr y=>by
 obtain⟨d,ax,z,hf⟩:=Zd (Z t r h1);obtain⟨d',i',L,D⟩:=Zd (Z e re h3);have hd:=ZE (h2▸hf.fits);subst hd;have he:execOp a.eval o=(do let v<-Instr.buildSlice t n (ps.map fun(i,x)=>(i,a.eval x));pure (Next.value v)):=by simp only[execOp,ho]
 have hm:(ps.map fun(i,x)=>(i,a.eval x)).toList=ps.toList.map fun p=>(p.1,a.eval p.2):=sm
 have g:∀i (h:i<ps.toList.length) (h':i<(ps.toList.map fun p=>(p.1,a.eval p.2)).length) (R:i<(ps.toList.map fun p=>ρ p.2).length),
   (ps.toList.map fun p=>(p.1,a.eval p.2))[i].1=ps.toList[i].1/\VR E (ps.toList.map fun p=>ρ p.2)[i] (ps.toList.map fun p=>(p.1,a.eval p.2))[i].2:=by
  intro i h h' R;refine⟨sm,?_⟩;simp only[QZ];exact y _ (by rw[ho];simp only[Op.operands,QaM,Qg];exact⟨ps.toList[i],sm,rfl⟩)
 have s:∀(cells:List Value),cells.length=n*re.size-> ∃us:List Value,Instr.fill (fun i=>some (i*re.size,re.size)) cells.toArray (ps.toList.map fun p=>(p.1,a.eval p.2))=some us.toArray/\
   VRs E (flat (ps.toList.map fun p=>ρ p.2)) us:=by
  intro cells hc;have:=ZaY (E:=E) (k:=re.size) (n:=0) (ps:=ps.toList) (xs:=ps.toList.map fun p=>ρ p.2) (vals:=ps.toList.map fun p=>(p.1,a.eval p.2)) (pre:=[]) (post:=cells) S sm sm sm (by rw[hc,hn];simp) g hk;simpa using this
 have q:(ps.toList.map fun p=>ρ p.2).length=n:=by simp[hn]
 have f:=flat_length (k:=re.size) (xs:=ps.toList.map fun p=>ρ p.2) (fun x hx=>(hk x hx).1);have U:¬n*re.size>2^24:=om;have W:n<=maxLen:=by
  have:n<=n*re.size:=Qbn n I;unfold maxLen;omega
 have h0:¬n*re.size=0:=QbI (Nat.mul_pos X I);obtain⟨us,Q,A⟩:=s ((Array.range (n*re.size)).map (L.cells[· % L.cells.size]!)).toList sm;have B:us.length=n*re.size:=by rw[A.1,f,q]
 have J:(execOp a.eval o).run P w= .ok (.value (.slice (some ⟨w.heap.size,0,none⟩) n n)) (w.alloc (.cells us.toArray e)):=by
  rw[he];have:Instr.fill (fun i=>some (i*re.size,re.size)) ((Array.range (n*re.size)).map (L.cells[· % L.cells.size]!)) (ps.toList.map fun p=>(p.1,a.eval p.2))=some us.toArray:=by
   rw[<-Q]
  simp only[Instr.buildSlice,Sem.run_bind,run_underlying hf.und,Result.andThen_ok,ZA D,if_neg U,Sem.run_pure,if_neg h0,Yg D,hm,this];simp[newRow,newObj,Sem.run]
 obtain⟨d1,d2,O⟩:=hr.dom l j hl hH;have C:∀o,E.F w.heap.size o=none:=fun o=>by
  cases hq:E.F w.heap.size o with
  |none=>rfl
  |some u=>exact absurd (hr.ZbC hq) (Un _)
 have Y:E.le m (E.Zr l j n (.slice (some ⟨w.heap.size,0,none⟩) n n) w.heap.size []):=by
  refine⟨fun b o v hf=>?_,fun _ _ _ _ hm=>hm,fun l' k' i u _ N=>?_,rfl⟩
  ·simp only[Env.Zr];by_cases hb:b=w.heap.size
   ·subst hb;rw[C o]at hf;cases hf
   ·rw[if_neg hb];exact hf
  ·simp only[Env.Zr];rw[if_neg (fun hc=>by rw[hc.1,hc.2.1,hc.2.2,O]at N;cases N)];exact N
 have G:(w.alloc (.cells us.toArray e)).heap[w.heap.size]? =some (.cells us.toArray e (0,0)):=by simp only[World.alloc,Array.getElem?_push_size]
 obtain⟨hh,V⟩:=hr.Zdw (n:=n) (v:=.slice (some ⟨w.heap.size,0,none⟩) n n) (nb:=.Zg e re.size (flat (ps.toList.map fun p=>ρ p.2)) n) (g':=w.heap.size) (w':=w.alloc (.cells us.toArray e)) hl d1 (O n) rfl [] rfl rfl rfl (fun _=>Qi _)
  (by simp only[World.alloc,Array.size_push];omega) (fun b hb _=>by simp only[World.alloc,MB];rw[if_neg om]) (.inr (Qi _)) (by simp only[World.alloc,Array.size_push];omega) (fun o u M=>by simp at M) (fun o u M=>by rw[C o]at M;cases M)
  ⟨⟨by rw[f,q],_,by simp[Env.Zr],fun i N=>by simp only[Env.Zr];rw[if_neg (fun h=>by omega)];exact O i,.inr ⟨w.heap.size,n,us.toArray,rfl,by simp[Env.Zr],G,Qi _,W,by simp[B],fun o=>by simp[Env.Zr],by
   have:us.toArray.toList.take (n*re.size)=us:=by rw[Ud (by simp[B])]
   rw[this];exact A.mono hr.norm Y⟩⟩,d1⟩
 exact⟨_,_,_,.inl J,.msl re.size l j _ w.heap.size n (by simp[Env.Zr]),hh,V⟩
end
def zeroV(r:Zp):AV:=if r.isAgg then .agg r.zero else r.zero.getD 0 .dead
section
variable {P:Program}
def ZeQ(w:World)(t p ty e:TypeId)(i:TypeInfo)(z:Value)(o:P.underlying t=some (.slice e))(hx:P.underlying p=some (.int .i64))(q:P.info? e=some i)(r:i.zero=some z)
  (g a c:Nat) (cur:Array Value) (hg:w.heap[g]? =some (.cells cur e (0,0))) (m:Nat) (n:0<m) (l:0<i.size) (hm:(m:Int)<=9223372036854775807) (s:(m:Int)*i.bytes<=281474976710656) (b:List Value) (hn:b=(Builtin.zeroCells z.cells m).toList)
  (v:∀u∈b,u.oneCell'=true) (d:a+m<=c) (h:a*i.size+b.length<=cur.size):
  (Builtin.append_ #[t,p] ty #[.slice (some ⟨g,0,none⟩) a c,.int .i64 m]).run P w=
   .ok (.slice (some ⟨g,0,none⟩) (a+m) c) (w.setRow g (cur.toList.take (a*i.size)++b++cur.toList.drop (a*i.size+b.length)).toArray):=by
 have f:=run_storeCells_at P g (a*i.size) e b 0 cur w hg (by simpa using h) v;simp only[UC]at f;have hw:IntKind.i64.wrap (m:Int)=m:=IntWalk.i64_in _ om;have k:¬((m:Int)<0):=om;have hb:¬(281474976710656<(m:Int)*i.bytes):=om;have j:¬(m*i.size=0):=QbI (Nat.mul_pos n l);subst hn;simp only[Builtin.append_,run_underlying o,run_underlying hx,asInt,asIntOf,sizeOf,typeInfo,zeroValue,q,r,hw,k,hb,d,j,Addr.add_lit,f,Sem.run_bind,Sem.run_pure,Result.andThen_ok,if_true,if_false];simp[q,r,hw,k,hb,d,Addr.add_lit,run_underlying o,run_underlying hx,typeInfo];rw[if_neg (by simpa[Nat.mul_eq_zero]using j)];rw[f];simp
def VF(w:World)(t s ty e:TypeId)(i:TypeInfo)(z:Value)(v:P.underlying t=some (.slice e))(hx:P.underlying s=some (.int .i64))(A:P.info? e=some i)(y:i.zero=some z)
  (d:Option Addr) (a b:Nat) (c:List Value) (g:(Builtin.firstCells i.size a (.slice d a b)).run P w.drew= .ok c.toArray w.drew)
  (m:Nat) (p:0<m) (o:0<i.size) (hm:(m:Int)<=9223372036854775807) (u:(m:Int)*i.bytes<=281474976710656) (f:List Value) (hn:f=(Builtin.zeroCells z.cells m).toList)
  (hg:b<a+m) (x:((a+m:Nat):Int)<=9223372036854775807) (r:Builtin.nextslicecap (a+m) b*i.bytes<=281474976710656):
  (Builtin.append_ #[t,s] ty #[.slice d a b,.int .i64 m]).run P w=
   .ok (.slice (some ⟨w.heap.size,0,none⟩) (a+m) (grownCap w (a+m) b e))
    (w.drew.alloc (.cells ((c++f).toArray++Builtin.zeroCells z.cells (grownCap w (a+m) b e - (a+m))) e)):=by
 have hw:IntKind.i64.wrap (m:Int)=m:=IntWalk.i64_in _ om;have n:¬((m:Int)<0):=om;have hb:¬(281474976710656<(m:Int)*i.bytes):=om;have l:¬(m*i.size=0):=QbI (Nat.mul_pos p o);have k:¬(m=0\/i.size=0):=om;have q:¬(a+m<=b):=om;have h:¬(9223372036854775807<((a:Int)+(m:Int))):=om;have j:¬(281474976710656<Builtin.nextslicecap (a+m) b*i.bytes):=om;subst hn;simp[Builtin.append_,run_underlying v,run_underlying hx,asInt,asIntOf,sizeOf,typeInfo,zeroValue,A,y,hw,n,hb,q,k,h,j,Question.forced,g,newRow,grownCap];rw[if_neg l];congr 3
 apply QaA;simp[Q5]
def Zhi(z:Array Value)(n:Nat)(h:0<z.size):(Builtin.zeroCells z (n+1)).toList=z.toList++(Builtin.zeroCells z n).toList:=by
 apply Gv
 ·simp[Builtin.zeroCells,Q9];omega
 intro i b c;simp only[Builtin.zeroCells,MX,Array.toList_range,QZ,MK,List.getElem_append,Uh];split
 ·rename_i a;rw[Qbo a];simp[a]
 ·rename_i a;rw[Nat.mod_eq_sub_mod om]
def ZcH(v:AV)(n:Nat):flat (List.replicate (n+1) v)=v.cells++flat (List.replicate n v):=by rw[List.replicate_succ,Yc]
def ZbD{E:Env}{v:AV}{z:Array Value}(h:VRs E v.cells z.toList)(a:0<z.size):∀n,VRs E (flat (List.replicate n v)) (Builtin.zeroCells z n).toList
 |0=>by simp[Builtin.zeroCells,flat];exact VRs.nil E
 |n+1=>by rw[ZcH,Zhi z n a];exact h.append (ZbD h a n)
def Zfx{T:TT}(hT:TOK P T){w:World}{t L V e:TypeId}{r l rx:Zp}(h1:T t=some r)(h2:r.td= .slice e)(h3:T e=some l)(h4:T L=some rx)(h5:rx.td= .int .i64)(az:0<l.size){n c:Nat}{Z:Value}{k:List Value}
  (O:ZjG w e l.size n Z k) (hc:0<c) (A:n+c<=maxLen) (K:(n+c)*l.bytes<=140737488355328) (z:Value) (hz:∀d i s,VP P e l d i s->s=z) (Q:∀u∈(Builtin.zeroCells z.cells c).toList,u.oneCell'=true):
  ∃N f o D,(Builtin.append_ #[t,L] V #[Z,.int .i64 c]).run P w= .ok (.slice (some ⟨N,0,none⟩) (n+c) f) D/\D.os=w.os/\D.tape=w.tape/\D.output=w.output/\w.drawn<=D.drawn/\w.heap.size<=D.heap.size/\
   (∀b,b<w.heap.size->b≠N->D.heap[b]? =w.heap[b]?)/\((∃E,Z= .slice (some ⟨N,0,none⟩) n E/\0<E)\/w.heap.size<=N)/\D.heap[N]? =some (.cells o e (0,0))/\n+c<=f/\f<=maxLen/\o.size=f*l.size/\
   k++(Builtin.zeroCells z.cells c).toList=o.toList.take ((n+c)*l.size):=by
 obtain⟨d,av,z0,hf⟩:=Zd (hT t r h1);obtain⟨d',C,s,a⟩:=Zd (hT e l h3);obtain⟨dx,ix,zx,R⟩:=Zd (hT L rx h4);obtain rfl:=hz _ _ _ a;have hd:=ZE (h2▸hf.fits);subst hd;have X:=ZaE (h5▸R.fits);subst X;have hu:P.underlying t=some (.slice e):=hf.und;have I:P.underlying L=some (.int .i64):=R.und;have ay:n+c<=9223372036854775807:=by unfold maxLen at A;omega
 have J:0<C.size:=by rw[a.size];exact az
 have H:(c:Int)*C.bytes<=281474976710656:=by
  have:c*l.bytes<=(n+c)*l.bytes:=QF _ om;rw[a.bytes];have h:((c*l.bytes:Nat):Int)<=140737488355328:=om;rw[Qay]at h;omega
 have q:(Builtin.zeroCells s.cells c).toList.length=c*l.size:=by rw[Uh,size_zeroCells,a.zsize]
 generalize y:(Builtin.zeroCells s.cells c).toList=cs2 at*;rcases O with⟨rfl,rfl,ad,rfl⟩|⟨g,f,o,rfl,U,q4,q5,q6,W⟩
 ·simp only[Qy]at ay A K⊢;have G:=grownCap_ge w c 0 e;have x:Builtin.nextslicecap (0+c) 0*C.bytes<=281474976710656:=growslice_fits om (by rw[a.bytes,Qy];exact K);have p:=VF (P:=P) w t L V e C s hu I a.info a.zero ad 0 0 [] (by cases ad<;>simp[Builtin.firstCells,loadCells,loadCellsFrom]) c hc J om H cs2 y.symm om om x;simp only[Qy,QG]at p;refine⟨w.heap.size,grownCap w c 0 e,cs2.toArray++Builtin.zeroCells s.cells (grownCap w c 0 e - c),w.drew.alloc (.cells (cs2.toArray++Builtin.zeroCells s.cells (grownCap w c 0 e - c)) e),p,rfl,rfl,rfl,Uc _,sm,fun b M _=>heap_alloc_old w.drew _ M,.inr (Qi _),heap_alloc_new w.drew _,G,grownCap_le_maxLen w _ _ _ A,?_,?_⟩
  ·simp only[Gj,UZ,size_zeroCells,q,a.zsize,<-Nat.add_mul];congr 1;omega
  ·simp only[QG,MQ];rw[<-q];simp
 ·have au:n*l.size<=f*l.size:=QF _ q4;have B:k.length=n*l.size:=by rw[<-W,QJ];simp;omega
  have Y:∀j v,k[j]? =some v->w.cell? ((⟨g,0,none⟩:Addr).add j)=some v:=fun j v S=>by
   rw[ZC];simp only[World.cell?,U,Qy];rw[<-W]at S;rcases Qd j (n*l.size)with h|h
   ·rw[QT h]at S;simpa using S
   ·rw[UL,if_neg om]at S;cases S
  have aw:g<w.heap.size:=(QO.1 U).1;by_cases m:n+c<=f
  ·have F:n*C.size+cs2.length<=o.size:=by rw[q,q6,a.size,<-Q9];exact QF _ m
   have p:=ZeQ (P:=P) w t L V e C s hu I a.info a.zero g n f o U c hc J om H cs2 y.symm Q m F;rw[a.size]at p F;refine⟨g,f,_,_,p,rfl,rfl,rfl,Qi _,by simp[World.setRow],fun b _ M=>setRow_other w g b _ M,.inl ⟨f,rfl,om⟩,setRow_heap w g o _ e (0,0) U,m,q5,?_,?_⟩
   ·simp only[UZ,Qh,QJ,QL,Uh];rw[<-q6];omega
   ·rw[U3,W];rw[show(n+c)*l.size=(k++cs2).length by rw[Qh,B,q,Q9],Gn]
  ·have x:Builtin.nextslicecap (n+c) f*C.bytes<=281474976710656:=growslice_fits om (by rw[a.bytes];exact K);have G:=grownCap_ge w (n+c) f e;have ax:=run_firstCells_some (P:=P) w.drew C.size n ⟨g,0,none⟩ n f k (by rw[a.size];exact B) (by simpa using Y);have p:=VF (P:=P) w t L V e C s hu I a.info a.zero (some ⟨g,0,none⟩) n f k ax c hc J om H cs2 y.symm om om x;refine⟨w.heap.size,grownCap w (n+c) f e,(k++cs2).toArray++Builtin.zeroCells s.cells (grownCap w (n+c) f e - (n+c)),w.drew.alloc (.cells ((k++cs2).toArray++Builtin.zeroCells s.cells (grownCap w (n+c) f e - (n+c))) e),p,rfl,rfl,rfl,Uc _,sm,fun b M _=>heap_alloc_old w.drew _ M,.inr (Qi _),heap_alloc_new w.drew _,G,grownCap_le_maxLen w _ _ _ A,?_,?_⟩
   ·simp only[Gj,UZ,size_zeroCells,B,q,a.zsize,<-Nat.add_mul,Qh];congr 1;omega
   ·simp only[MQ,U3];rw[show(n+c)*l.size=(k++cs2).length by rw[Qh,B,q,Q9],Gn]
end
section ops
variable {P:Program} {T:TT} {o:Oper} {ρ:Operand->AV}
def ZgT{m:Nat}{H:Za}{t N:TypeId}{x y:Operand}{r re Y:Zp}{e:TypeId}{k l j c:Nat}{xs:LA}(O:TOK P T)
  (ho:o.op= .call {callee:=.builtin .append,args:=#[x,y],argTypes:=#[t,N]}) (h1:T t=some r) (h2:r.td= .slice e) (h3:T e=some re) (h4:T N=some Y) (h5:Y.td= .int .i64) (C:0<re.size)
  (hx:ρ x= .sl k xs (.buf l j)) (X:ρ y= .int .i64 c) (hl:l<m) (hH:H l j=some (.buf e re.size xs.length)) (hk:k=re.size) (G:(zeroV re).cells=re.zero)
  (J:xs.length+c<=maxLen) (W:(xs.length+c)*re.bytes<=140737488355328):
  Z5 P m o ρ H (.sl k (xs++List.replicate c (zeroV re)) (.buf l j)) (H.upd l j (.buf e re.size (xs.length+c))):=fun E w a hr p=>by
 have h:=p x sC;have g:=p y sC;rw[hx]at h;rw[X]at g;have g:a.eval y= .int .i64 c:=by
  generalize a.eval y=q at g;cases g;rfl
 obtain⟨d',i',V,f⟩:=Zd (O e re h3);rcases MW c with rfl|hc
 ·refine⟨a.eval x,E,w,.inl (YI ho ?_),by simpa using h,by rw[UC,Z7 hH];exact hr,.refl m E w⟩;rw[g];obtain⟨d,ay,z0,hf⟩:=Zd (O t r h1);obtain⟨dx,ix,zx,K⟩:=Zd (O N Y h4);have hd:=ZE (h2▸hf.fits);subst hd;have U:=ZaE (h5▸K.fits);subst U;have Q:P.underlying t=some (.slice e):=hf.und;have z:P.underlying N=some (.int .i64):=K.und;have M:IntKind.i64.wrap 0=0:=rfl;rcases h.Vl with⟨⟨ad,R,_⟩,_,_⟩|⟨b,off,cap,cs,R,_,_,_,hcc,_,_⟩<;>rw[R]
  ·cases ad<;>simp[Builtin.append_,run_underlying Q,run_underlying z,asInt,asIntOf,sizeOf,typeInfo,f.info,storeCells,M]
  ·simp[Builtin.append_,run_underlying Q,run_underlying z,asInt,asIntOf,sizeOf,typeInfo,f.info,storeCells,M,hcc]
 ·have D:VRs E (zeroV re).cells V.cells.toList:=by rw[G];exact Y5 f.zfits
  have v:=ZbD D (by rw[f.zsize];exact C) c;have ax:(zeroV re).cells.length=re.size:=by rw[D.1.symm,Uh,f.zsize]
  have I:∀u∈(Builtin.zeroCells V.cells c).toList,u.oneCell'=true:=fun u Q=>by
   obtain⟨i,hi,rfl⟩:=QK Q;have A:i<(flat (List.replicate c (zeroV re))).length:=by rw[<-v.1];exact hi
   refine(v.2 i A hi).one ?_;have s:(flat (List.replicate c (zeroV re)))[i]∈flat (List.replicate c (zeroV re)):=Qa A;simp only[flat,QI]at s;obtain⟨y',Z,B⟩:=s;rw[(Ue.1 Z).2,G]at B;exact fitsAll_one f.zfits _ B
  have n:(List.replicate c (zeroV re)).length=c:=GX;obtain⟨cv,E',w',a1,a2,a3,a4⟩:=ZeZ (P:=P) (S:=Builtin.append_ #[t,N] o.type #[a.eval x,.int .i64 c]) (ys:=List.replicate c (zeroV re)) hr h hl hH hk (fun y X=>by rw[(Ue.1 X).2];exact ax) v (by rw[n];exact hc) (by rw[n];exact J)
   (fun az F=>by
    rw[n];exact Zfx O h1 h2 h3 h4 h5 C F hc J W V (fun d1 i1 z1 L=>by have R:=L.info.symm.trans f.info;cases R;have e2:=L.zero.symm.trans f.zero;cases e2;rfl) I)
  rw[n]at a3;exact⟨cv,E',w',.inl (YI ho (by rw[g];exact a1)),a2,a3,a4⟩
end ops
end Go.Abs
