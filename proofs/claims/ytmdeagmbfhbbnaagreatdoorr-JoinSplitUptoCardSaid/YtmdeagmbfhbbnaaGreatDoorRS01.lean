/- Abstract values, the ghost environment, and the relation of abstract values to the model's values. No program, no condition. -/
import Derived.WalkKit
import Derived.RangeFuncLeaves
import Derived.RangeFuncRecord
import Derived.OrdersIn
import Derived.TacticsIn
import Derived.Orders
set_option linter.all false
set_option maxRecDepth 100000
theorem sS{p:Prop}(h:p:=by simp only[go_sem,simprocAttr]):p:=h
theorem ck{α:Type _}{a b:α}(h:a=b:=by kernel_rfl):some a=some b:=congrArg some h
theorem sF{p:Prop}(h:p:=by simp only[go_sem,simprocAttr,full]):p:=h
theorem sO{p:Prop}(h:p:=by simp[ho,Go.Op.operands]):p:=h
theorem sC{p:Prop}(h:p:=by simp[ho,Go.Op.operands,Go.Call.operands]):p:=h
abbrev Qa:=@List.getElem_mem
abbrev Qb:=@List.getElem?_eq_getElem
abbrev Qd:=@List.length_append
abbrev Qe:=@Nat.le_refl
abbrev Qg:=@List.mem_append
abbrev Qh:=@Bool.and_eq_true
abbrev Qi:=@List.mem_map
abbrev Qj:=@Nat.lt_or_ge
abbrev Qk:=@List.mem_cons
abbrev Ql:=@List.mem_singleton
abbrev Qm:=@Nat.not_lt_zero
abbrev Qn:=@List.take_succ_eq_append_getElem
abbrev Qo:=@List.length_cons
abbrev Qp:=@List.getD_eq_getElem?_getD
abbrev Qq:=@Nat.lt_succ_self
abbrev Qr:=@Option.some.injEq
abbrev Qs:=@List.append_nil
abbrev Qu:=@List.map_cons
abbrev Qv:=@List.length_map
abbrev Qw:=@List.mem_flatMap
abbrev Qx:=@List.mem_append_left
abbrev Qy:=@List.mem_cons_of_mem
abbrev Qz:=@List.drop_eq_getElem_cons
abbrev QA:=@List.all_eq_true
abbrev QB:=@List.mem_append_right
abbrev QC:=@List.length_nil
abbrev QD:=@List.not_mem_nil
abbrev QE:=@Nat.mul_le_mul_right
abbrev QF:=@Array.getD_eq_getD_getElem?
abbrev QG:=@Nat.zero_add
abbrev QI:=@Nat.not_lt
abbrev QJ:=@List.getElem_of_mem
abbrev QK:=@List.length_take
abbrev QL:=@List.map_append
abbrev QM:=@List.flatMap_cons
abbrev QN:=@List.take_length
abbrev QO:=@List.length_drop
abbrev QS:=@Bool.false_eq_true
abbrev QT:=@Nat.succ_pos
abbrev QU:=@Array.getElem?_eq_some_iff
abbrev QV:=@List.getElem_map
abbrev QW:=@List.sizeOf_lt_of_mem
abbrev QX:=@List.getElem?_take_of_lt
abbrev QY:=@Nat.add_mul
abbrev QZ:=@List.take_append_drop
abbrev Q5:=@List.nil_append
abbrev Q7:=@List.take_of_length_le
abbrev Q8:=@List.getElem?_map
abbrev Q9:=@List.cons_append
abbrev Ua:=@List.append_assoc
abbrev Ub:=@List.getElem?_eq_some_iff
abbrev Uc:=@List.flatMap_append
abbrev Ud:=@List.eq_nil_of_length_eq_zero
abbrev Ue:=@List.getElem_cons_zero
abbrev Uf:=@List.cons.injEq
abbrev Ug:=@Array.length_toList
abbrev Uh:=@List.mem_replicate
abbrev Ui:=@Nat.lt_irrefl
abbrev Uj:=@Nat.le_succ
abbrev Uk:=@Option.getD_some
abbrev Ul:=@Nat.lt_of_lt_of_le
abbrev Um:=@Option.map_eq_some_iff
abbrev Un:=@Option.map_some
abbrev Uo:=@Nat.zero_le
abbrev Ur:=@List.getElem?_eq_none
abbrev Us:=@List.drop_eq_nil_of_le
abbrev Ut:=@List.length_take_of_le
abbrev Uu:=@List.foldl_cons
abbrev Uw:=@List.getElem?_append_left
abbrev Ux:=@Nat.le_trans
abbrev Uy:=@Array.getElem?_eq_getElem
abbrev Uz:=@Nat.add_zero
abbrev UA:=@List.pairwise_cons
abbrev UC:=@List.drop_of_length_le
abbrev UD:=@List.map_nil
abbrev UE:=@List.getElem?_drop
abbrev UF:=@List.contains_cons
abbrev UG:=@Array.getElem?_setIfInBounds_ne
abbrev UH:=@Option.bind_some
abbrev UJ:=@List.getElem?_take
abbrev UK:=@List.drop_drop
abbrev UL:=@List.length_filter_le
abbrev UM:=@Array.getElem?_toList
abbrev UN:=@Option.bind_eq_some_iff
abbrev UO:=@List.getElem?_cons_succ
abbrev UQ:=@List.mem_of_mem_take
abbrev UR:=@List.set_cons_zero
abbrev UU:=@Option.some.inj
abbrev UW:=@Bool.eq_iff_iff
abbrev UY:=@Array.eq_empty_of_size_eq_zero
abbrev UZ:=@Bool.true_and
abbrev U0:=@List.getElem_cons_succ
abbrev U1:=@Bool.or_false
abbrev U2:=@List.getD_cons_zero
abbrev U3:=@Array.getElem?_push
abbrev U4:=@List.map_congr_left
abbrev U5:=@List.toList_toArray
abbrev U6:=@List.size_toArray
abbrev U7:=@List.foldl_append
abbrev U8:=@Bool.or_self
abbrev U9:=@Array.getElem_toList
abbrev Mc:=@List.set_cons_succ
abbrev Md:=@List.mem_of_mem_drop
abbrev Me:=@List.length_set
abbrev MB:=@List.mem_filter
abbrev MF:=@Nat.le_of_lt
abbrev MG:=@List.foldlM_cons
abbrev MH:=@Nat.lt_succ_of_lt
abbrev MI:=@List.take_append_of_le_length
abbrev MJ:=@List.getElem_append_left
abbrev MK:=@List.mem_range
abbrev ML:=@Nat.sub_zero
abbrev MN:=@List.getElem_range
abbrev MO:=@Nat.eq_zero_or_pos
abbrev MP:=@Array.toList_map
abbrev MQ:=@Bool.not_eq_true
abbrev MR:=@Bool.false_or
abbrev MS:=@Nat.add_assoc
abbrev MV:=@List.length_range
abbrev MW:=@Array.getElem?_append_left
abbrev MX:=@List.getElem?_append_right
abbrev MZ:=@List.nodup_cons
abbrev Gf:=@List.take_left'
abbrev Gg:=@List.pairwise_iff_getElem
abbrev Gh:=@Array.getElem?_modify
abbrev Gj:=@List.getElem_set
abbrev Gl:=@List.ext_getElem
abbrev Gm:=@List.mem_of_getElem?
abbrev Gn:=@List.nodup_append
abbrev Gp:=@List.getElem_take
abbrev Gq:=@List.length_eq_zero_iff
abbrev Gs:=@List.getElem?_cons_zero
abbrev Gt:=@Bool.or_eq_true
abbrev Gu:=@Array.toList_append
abbrev Gv:=@Nat.zero_mul
abbrev Gw:=@Nat.mul_comm
abbrev Gx:=@Nat.le_add_right
abbrev Gy:=@List.any_eq_true
abbrev Gz:=@List.nodup_nil
abbrev GH:=@Bool.false_ne_true
abbrev GI:=@List.take_left
abbrev GK:=@List.length_replicate
abbrev GL:=@Nat.div_lt_of_lt_mul
abbrev GN:=@Int.le_refl
abbrev GR:=@Array.size_append
abbrev GU:=@Bool.not_eq_true'
abbrev GV:=@Nat.mul_le_mul_left
abbrev GX:=@List.length_pos_iff
abbrev GY:=@List.filterMap_cons
abbrev GZ:=@List.drop_zero
abbrev G5:=@List.drop_length
abbrev G6:=@Bool.false_and
abbrev G7:=@Bool.true_or
abbrev G8:=@Array.getElem?_eq_none
abbrev G9:=@Option.isSome_none
abbrev Qaa:=@Option.isSome_some
abbrev Qab:=@Nat.succ_mul
abbrev Qac:=@List.mem_zipIdx_iff_getElem?
abbrev Qad:=@Classical.choose_spec
abbrev Qae:=@List.length_singleton
abbrev Qaf:=@List.getElem_drop
abbrev Qag:=@Nat.mul_one
abbrev Qah:=@Nat.mod_eq_of_lt
abbrev Qai:=@List.take_append
abbrev Qaj:=@Array.toList_inj
abbrev Qak:=@List.mem_or_eq_of_mem_set
abbrev Qal:=@Array.mapM_eq_mapM_toList
abbrev Qam:=@List.take_succ_cons
abbrev Qao:=@List.drop_left'
abbrev Qap:=@Int.natCast_mul
abbrev Qaq:=@List.foldlM_append
abbrev Qar:=@List.mem_filterMap
abbrev Qas:=@Array.ext'
abbrev Qau:=@List.any_eq_false
abbrev Qav:=@Nat.ne_of_lt
abbrev Qaw:=@Nat.mul_le_mul
abbrev Qax:=@List.take_take
abbrev Qay:=@Int.lt_or_le
abbrev Qaz:=@List.take_zero
abbrev QaA:=@List.countP_cons
abbrev QaB:=@List.mem_toArray
abbrev QaC:=@List.nodup_range
abbrev QaD:=@List.sum_cons
abbrev QaF:=@List.getElem?_set_ne
abbrev QaG:=@Array.getElem_modify
abbrev QaH:=@Bool.and_eq_true_iff
abbrev QaI:=@Bool.or_eq_false_iff
abbrev QaJ:=@Array.getElem_mapIdx
abbrev QaK:=@Nat.one_mul
abbrev QaL:=@Nat.min_eq_left
abbrev QaM:=@List.beq_nil_eq
abbrev QaN:=@List.getD_cons_succ
abbrev QaO:=@List.map_id'
abbrev QaP:=@List.append_cancel_right_eq
abbrev QaQ:=@And.intro
abbrev QaR:=@List.drop_left
abbrev QaS:=@List.mem_cons_self
abbrev QaT:=@List.filter_append
abbrev QaU:=@Array.toList_setIfInBounds
abbrev QaV:=@Prod.ext
abbrev QaW:=@Nat.lt_or_eq_of_le
abbrev QaX:=@Nat.mod_eq_sub_mod
abbrev QaY:=@List.perm_ext_iff_of_nodup
abbrev QaZ:=@List.drop_take
abbrev Qa0:=@Nat.mod_lt
abbrev Qa1:=@List.getElem_concat_length
abbrev Qa2:=@Array.filter_eq_empty_iff
abbrev Qa3:=@Classical.byContradiction
abbrev Qa4:=@List.extract_eq_take_drop
abbrev Qa5:=@List.getElem_append_right
abbrev Qa6:=@Nat.le_succ_of_le
abbrev Qa7:=@List.pairwise_map
abbrev Qa8:=@List.ext_getElem?
abbrev Qa9:=@Prod.mk.injEq
abbrev Qba:=@List.Pairwise.imp_of_mem
abbrev Qbb:=@List.length_filterMap_le
abbrev Qbc:=@Bool.not_true
abbrev Qbd:=@List.all_cons
abbrev Qbe:=@Option.isSome_iff_exists
abbrev Qbf:=@Nat.div_eq_of_lt
abbrev Qbg:=@Nat.le_mul_of_pos_right
abbrev Qbh:=@List.drop_append
abbrev Qbi:=@Option.getD_none
abbrev Qbj:=@Option.bind_none
abbrev Qbk:=@List.not_of_lt_findIdx
abbrev Qbl:=@Nat.lt_trans
abbrev Qbm:=@List.filter_eq_nil_iff
abbrev Qbn:=@Option.map_none
abbrev Qbo:=@Nat.div_add_mod
abbrev Qbp:=@Array.getElem?_append
abbrev Qbq:=@List.set_getElem_self
abbrev Qbr:=@List.countP_le_length
abbrev Qbs:=@Array.getElem_push_eq
abbrev Qbt:=@Option.or_eq_none_iff
abbrev Qbu:=@List.contains_iff_mem
abbrev Qbv:=@Array.getElem_push_lt
abbrev Qbw:=@List.foldl_nil
abbrev Qbx:=@Bool.and_false
abbrev Qby:=@List.map_id
abbrev Qbz:=@List.mapM_cons
abbrev QbA:=@Bool.and_true
abbrev QbB:=@List.any_cons
abbrev QbC:=@Nat.not_le
abbrev QbD:=@List.map_map
abbrev QbE:=@Nat.ne_of_gt
abbrev QbF:=@Bool.or_true
def om{p:Prop}(h:p:=by omega):p:=h
def sm{p:Prop}(h:p:=by simp):p:=h
def dc{p:Prop}(h:p:=by decide):p:=h
namespace Go.Abs
inductive Own where
 |any
 |full
 |buf (l k:Nat)
inductive AV where
 |int (k:IntKind) (n:Int)
 |bool (b:Bool)
 |str (s:List UInt8)
 |nilp
 |ptr (l k off:Nat)
 |iptr (cs:List AV)
 |sl (k:Nat) (xs:List AV) (o:Own)
 |nilf
 |fn (f:Fn) (caps:List AV)
 |bfn (f:Fn) (caps:List AV)
 |nilm
 |map (l k:Nat)
 |msl (sz l k n:Nat)
 |eptr (l k n off:Nat)
 |ssl (k:Nat) (xs ys:List AV)
 |nili
 |ifc (t:TypeId) (v:AV)
 |Xg
 |sln (k:Nat)
 |sub (sz l k n off m:Nat)
 |agg (cs:List AV)
 |tup (vs:List AV)
 |dead
def AV.cells:AV→List AV
 | .agg cs=>cs
 |v=>[v]
def AV.one:AV→Bool
 | .agg _| .tup _| .dead=>false
 |_=>true
structure Env where
 F:Nat→Nat→Option Value
 m:Nat→Nat→Option Nat
 hist:Nat→Nat→Nat→Option Value
 g:Nat→Nat→Option Nat
 qd:Bool
def Zag(E:Env)(n:Nat)(v:Value)(cap:Nat):Own→Prop
 | .any=>True
 | .full=>cap=n
 | .buf l k=>E.hist l k n=some v
inductive VR (E:Env):AV→Value→Prop
 |int (k:IntKind) (n:Int):VR E (.int k n) (.int k n)
 |bool (b:Bool):VR E (.bool b) (.bool b)
 |str (l:List UInt8):VR E (.str l) (.string ⟨l.toArray⟩)
 |nilp:VR E .nilp (.pointer none)
 |ptr (l k off b:Nat) (h:E.m l k=some b):VR E (.ptr l k off) (.pointer (some ⟨b,off,none⟩))
 |iptr (cs:List AV) (b off:Nat) (c:Nat→Value) (hc:∀j,j<cs.length→E.F b (off+j)=some (c j))
   (hv:∀j (h:j<cs.length),VR E cs[j] (c j)):VR E (.iptr cs) (.pointer (some ⟨b,off,none⟩))
 |slnil (k:Nat) (o:Own) (a:Option Addr) (ho:Zag E 0 (.slice a 0 0) 0 o) (ha:o≠ .any→a=none):VR E (.sl k [] o) (.slice a 0 0)
 |sl (k:Nat) (xs:List AV) (o:Own) (b off cap:Nat) (c:Nat→Nat→Value) (hk:∀i (h:i<xs.length),xs[i].cells.length=k)
   (hc:∀i j,i<xs.length→j<k→E.F b (off+(i*k+j))=some (c i j))
   (hv:∀i (h:i<xs.length) j (h':j<xs[i].cells.length),VR E xs[i].cells[j] (c i j))
   (hcap:xs.length≤cap) (hm:xs.length≤maxLen) (ho:Zag E xs.length (.slice (some ⟨b,off,none⟩) xs.length cap) cap o):
   VR E (.sl k xs o) (.slice (some ⟨b,off,none⟩) xs.length cap)
 |nilf:VR E .nilf .nilFunc
 |fn (f:Fn) (caps:List AV) (vs:List Value) (hl:vs.length=caps.length) (hv:∀i (h:i<caps.length) (h':i<vs.length),VR E caps[i] vs[i]):VR E (.fn f caps) (.func f #[] vs.toArray)
 |bfn (f:Fn) (caps:List AV) (vs:List Value) (hl:vs.length=caps.length) (hv:∀i (h:i<caps.length) (h':i<vs.length),VR E caps[i] vs[i]):VR E (.bfn f caps) (.func f vs.toArray #[])
 |nilm:VR E .nilm (.map none)
 |map (l k b:Nat) (h:E.m l k=some b):VR E (.map l k) (.map (some b))
 |mnil (sz l k:Nat) (a:Option Addr) (h:E.hist l k 0=some (.slice a 0 0)) (ha:∀x,a=some x→x.spot=none):VR E (.msl sz l k 0) (.slice a 0 0)
 |msl (sz l k n g cap:Nat) (h:E.hist l k n=some (.slice (some ⟨g,0,none⟩) n cap)):VR E (.msl sz l k n) (.slice (some ⟨g,0,none⟩) n cap)
 |eptr (l k n off g cap:Nat) (h:E.hist l k n=some (.slice (some ⟨g,0,none⟩) n cap)):VR E (.eptr l k n off) (.pointer (some ⟨g,off,none⟩))
 |ssl (k:Nat) (xs ys:List AV) (b off cap:Nat) (c:Nat→Nat→Value) (hk:∀i (h:i<(xs++ys).length),(xs++ys)[i].cells.length=k)
   (hc:∀i j,i<(xs++ys).length→j<k→E.F b (off+(i*k+j))=some (c i j))
   (hv:∀i (h:i<(xs++ys).length) j (h':j<(xs++ys)[i].cells.length),VR E (xs++ys)[i].cells[j] (c i j))
   (hcap:(xs++ys).length≤cap) (hm:(xs++ys).length≤maxLen):VR E (.ssl k xs ys) (.slice (some ⟨b,off,none⟩) xs.length cap)
 |nili:VR E .nili .nilIface
 |Xg:VR E .Xg (.slice none 0 0)
 |sln (k:Nat) (a:Addr) (cap:Nat) (h:cap=0∨a.spot=none):VR E (.sln k) (.slice (some a) 0 cap)
 |sub (sz l k n off m g cap:Nat) (h:E.hist l k n=some (.slice (some ⟨g,0,none⟩) n cap)) (hm:off+m≤n):VR E (.sub sz l k n off m) (.slice (some ⟨g,off*sz,none⟩) m (cap - off))
 |ifc (t:TypeId) (a:AV) (v:Value) (h:VR E a v):VR E (.ifc t a) (.iface t v)
 |agg (cs:List AV) (vs:List Value) (hl:vs.length=cs.length) (hv:∀i (h:i<cs.length) (h':i<vs.length),VR E cs[i] vs[i]):VR E (.agg cs) (.agg vs.toArray)
 |tup (cs:List AV) (vs:List Value) (hl:vs.length=cs.length) (hv:∀i (h:i<cs.length) (h':i<vs.length),VR E cs[i] vs[i]):VR E (.tup cs) (.tuple vs.toArray)
 |dead (v:Value):VR E .dead v
def VRs(E:Env)(az:List AV)(vs:List Value):Prop:=vs.length=az.length∧ ∀i (h:i<az.length) (h':i<vs.length),VR E az[i] vs[i]
def VRs.nil(E:Env):VRs E [] []:=⟨rfl,fun _ h=>absurd h (Qm _)⟩
section
variable {vs:List Value} {az:List AV} {v:Value} {a:AV} {E:Env}
def VRs.cons(h:VR E a v)(hs:VRs E az vs):VRs E (a::az) (v::vs):=by
 refine⟨by simp[hs.1],fun i h1 h2=>?_⟩;cases i with
 |zero=>exact h
 |succ i=>exact hs.2 i (by simpa using h1) (by simpa using h2)
def VRs.YS(h:VRs E (a::az) vs):∃v r,vs=v::r∧VR E a v∧VRs E az r:=by
 obtain⟨hl,hv⟩:=h;cases vs with
 |nil=>simp at hl
 |cons v r=>
  refine⟨v,r,rfl,hv 0 sm sm,by simpa using hl,fun i h1 h2=>?_⟩;exact hv (i+1) (by simpa using h1) (by simpa using h2)
def VRs.of_nil(h:VRs E [] vs):vs=[]:=by
 have:=h.1;simpa using this
def VRs.append{bs:List AV}{us:List Value}(h:VRs E az vs)(h':VRs E bs us):VRs E (az++bs) (vs++us):=by
 induction az generalizing vs with
 |nil=>rw[h.of_nil];exact h'
 |cons a az ih=>obtain⟨v,r,rfl,hv,hr⟩:=h.YS;exact VRs.cons hv (ih hr)
def VRs.get(h:VRs E az vs)(i:Nat)(hi:i<az.length):∃v,vs[i]? =some v∧VR E az[i] v:=
 ⟨vs[i]'(by rw[h.1];exact hi),by simp[h.1,hi],h.2 i hi (by rw[h.1];exact hi)⟩
structure Env.le (n:Nat) (E E':Env):Prop where
 F:∀b o v,E.F b o=some v→E'.F b o=some v
 m:∀l k b,l<n→E.m l k=some b→E'.m l k=some b
 hist:∀l k j v,l<n→E.hist l k j=some v→E'.hist l k j=some v
 qd:E'.qd=E.qd
def Env.le.refl(n:Nat)(E:Env):E.le n E:=⟨fun _ _ _ h=>h,fun _ _ _ _ h=>h,fun _ _ _ _ _ h=>h,rfl⟩
def Env.le.trans{n:Nat}{A B C:Env}(h:A.le n B)(h':B.le n C):A.le n C:=
 ⟨fun b o v x=>h'.F _ _ _ (h.F b o v x),fun l k b hl x=>h'.m _ _ _ hl (h.m l k b hl x),fun l k j v hl x=>h'.hist _ _ _ _ hl (h.hist l k j v hl x),h'.qd.trans h.qd⟩
variable {n n':Nat}
def Env.le.mono{A B:Env}(h:A.le n B)(hn:n'≤n):A.le n' B:=
 ⟨h.F,fun l k b hl=>h.m l k b (Ul hl hn),fun l k j v hl=>h.hist l k j v (Ul hl hn),h.qd⟩
structure Env.norm (n:Nat) (E:Env):Prop where
 m:∀l k,n≤l→E.m l k=none
 g:∀l k,n≤l→E.g l k=none
 hist:∀l k j,n≤l→E.hist l k j=none
variable {l k:Nat}
def Env.norm.Zaa(h:E.norm n){b:Nat}(hm:E.m l k=some b):l<n:=by
 rcases Qj l n with hl|hl
 ·exact hl
 ·rw[h.m l k hl]at hm;cases hm
def Env.norm.Xu(h:E.norm n){j:Nat}(hm:E.hist l k j=some v):l<n:=by
 rcases Qj l n with hl|hl
 ·exact hl
 ·rw[h.hist l k j hl]at hm;cases hm
def Env.norm.Ztd(h:E.norm n){b:Nat}(hm:E.g l k=some b):l<n:=by
 rcases Qj l n with hl|hl
 ·exact hl
 ·rw[h.g l k hl]at hm;cases hm
def Env.norm.mono(h:E.norm n)(hn:n≤n'):E.norm n':=
 ⟨fun l k hl=>h.m l k (Ux hn hl),fun l k hl=>h.g l k (Ux hn hl),fun l k j hl=>h.hist l k j (Ux hn hl)⟩
def Zag.mono{N:Nat}{E':Env}{c:Nat}{o:Own}(hn:E.norm n)(h:E.le n E')(ho:Zag E N v c o):Zag E' N v c o:=by
 cases o with
 |any=>exact ho
 |full=>exact ho
 |buf l k=>exact h.hist l k N v (hn.Xu ho) ho
def VR.mono{n:Nat}{E E':Env}(hn:E.norm n)(h:E.le n E'){a:AV}{v:Value}(hv:VR E a v):VR E' a v:=by
 induction hv with
 |int k n=>exact .int k n
 |bool b=>exact .bool b
 |str l=>exact .str l
 |nilp=>exact .nilp
 |ptr l k off b hm=>exact .ptr l k off b (h.m l k b (hn.Zaa hm) hm)
 |iptr cs b off c hc _ ih=>exact .iptr cs b off c (fun j hj=>h.F _ _ _ (hc j hj)) ih
 |slnil k o a ho ha=>exact .slnil k o a (ho.mono hn h) ha
 |sl k xs o b off cap c hk hc _ hcap hm ho ih=>exact .sl k xs o b off cap c hk (fun i j hi hj=>h.F _ _ _ (hc i j hi hj)) ih hcap hm (ho.mono hn h)
 |nilf=>exact .nilf
 |fn f caps vs hl _ ih=>exact .fn f caps vs hl ih
 |bfn f caps vs hl _ ih=>exact .bfn f caps vs hl ih
 |nilm=>exact .nilm
 |map l k b hm=>exact .map l k b (h.m l k b (hn.Zaa hm) hm)
 |mnil sz l k a hh ha=>exact .mnil sz l k a (h.hist _ _ _ _ (hn.Xu hh) hh) ha
 |msl sz l k n g cap hh=>exact .msl sz l k n g cap (h.hist _ _ _ _ (hn.Xu hh) hh)
 |eptr l k n off g cap hh=>exact .eptr l k n off g cap (h.hist _ _ _ _ (hn.Xu hh) hh)
 |ssl k xs ys b off cap c hk hc _ hcap hm ih=>exact .ssl k xs ys b off cap c hk (fun i j hi hj=>h.F _ _ _ (hc i j hi hj)) ih hcap hm
 |nili=>exact .nili
 |Xg=>exact .Xg
 |sln k a cap hc=>exact .sln k a cap hc
 |sub sz l k n off m g cap hh hm=>exact .sub sz l k n off m g cap (h.hist _ _ _ _ (hn.Xu hh) hh) hm
 |ifc t a v _ ih=>exact .ifc t a v ih
 |agg cs vs hl _ ih=>exact .agg cs vs hl ih
 |tup cs vs hl _ ih=>exact .tup cs vs hl ih
 |dead v=>exact .dead v
def VRs.mono{n:Nat}{E E':Env}(hn:E.norm n)(h:E.le n E'){az:List AV}{vs:List Value}(hv:VRs E az vs):VRs E' az vs:=
 ⟨hv.1,fun i h1 h2=>(hv.2 i h1 h2).mono hn h⟩
inductive Below (n:Nat):AV→Prop
 |int (k:IntKind) (i:Int):Below n (.int k i)
 |bool (b:Bool):Below n (.bool b)
 |str (l:List UInt8):Below n (.str l)
 |nilp:Below n .nilp
 |ptr (l k off:Nat) (h:l<n):Below n (.ptr l k off)
 |iptr (cs:List AV) (hv:∀j (h:j<cs.length),Below n cs[j]):Below n (.iptr cs)
 |sl (k:Nat) (xs:List AV) (o:Own) (hv:∀i (h:i<xs.length) j (h':j<xs[i].cells.length),Below n xs[i].cells[j])
   (ho:∀l j,o= .buf l j→l<n):Below n (.sl k xs o)
 |nilf:Below n .nilf
 |fn (f:Fn) (caps:List AV) (hv:∀i (h:i<caps.length),Below n caps[i]):Below n (.fn f caps)
 |bfn (f:Fn) (caps:List AV) (hv:∀i (h:i<caps.length),Below n caps[i]):Below n (.bfn f caps)
 |nilm:Below n .nilm
 |map (l k:Nat) (h:l<n):Below n (.map l k)
 |msl (sz l k i:Nat) (h:l<n):Below n (.msl sz l k i)
 |eptr (l k i off:Nat) (h:l<n):Below n (.eptr l k i off)
 |ssl (k:Nat) (xs ys:List AV) (hv:∀i (h:i<(xs++ys).length) j (h':j<(xs++ys)[i].cells.length),Below n (xs++ys)[i].cells[j]):Below n (.ssl k xs ys)
 |nili:Below n .nili
 |Xg:Below n .Xg
 |sln (k:Nat):Below n (.sln k)
 |sub (sz l k i off m:Nat) (h:l<n):Below n (.sub sz l k i off m)
 |ifc (t:TypeId) (a:AV) (h:Below n a):Below n (.ifc t a)
 |agg (cs:List AV) (hv:∀i (h:i<cs.length),Below n cs[i]):Below n (.agg cs)
 |tup (cs:List AV) (hv:∀i (h:i<cs.length),Below n cs[i]):Below n (.tup cs)
 |dead:Below n .dead
def Below.mono(hn:n≤n')(h:Below n a):Below n' a:=by
 induction h with
 |int k i=>exact .int k i
 |bool b=>exact .bool b
 |str l=>exact .str l
 |nilp=>exact .nilp
 |ptr l k off h=>exact .ptr l k off (Ul h hn)
 |iptr cs _ ih=>exact .iptr cs ih
 |sl k xs o _ ho ih=>exact .sl k xs o ih (fun l j e=>Ul (ho l j e) hn)
 |nilf=>exact .nilf
 |fn f caps _ ih=>exact .fn f caps ih
 |bfn f caps _ ih=>exact .bfn f caps ih
 |nilm=>exact .nilm
 |map l k h=>exact .map l k (Ul h hn)
 |msl sz l k i h=>exact .msl sz l k i (Ul h hn)
 |eptr l k i off h=>exact .eptr l k i off (Ul h hn)
 |ssl k xs ys _ ih=>exact .ssl k xs ys ih
 |nili=>exact .nili
 |Xg=>exact .Xg
 |sln k=>exact .sln k
 |sub sz l k i off m h=>exact .sub sz l k i off m (Ul h hn)
 |ifc t a _ ih=>exact .ifc t a ih
 |agg cs _ ih=>exact .agg cs ih
 |tup cs _ ih=>exact .tup cs ih
 |dead=>exact .dead
def VR.lvl(hn:E.norm n)(hv:VR E a v):Below n a:=by
 induction hv with
 |int k n=>exact .int k n
 |bool b=>exact .bool b
 |str l=>exact .str l
 |nilp=>exact .nilp
 |ptr l k off b hm=>exact .ptr l k off (hn.Zaa hm)
 |iptr cs b off c hc _ ih=>exact .iptr cs ih
 |slnil k o a ho ha=>exact .sl k [] o (fun i h=>absurd h (Qm _)) (fun l j e=>by subst e;exact hn.Xu ho)
 |sl k xs o b off cap c hk hc _ hcap hm ho ih=>exact .sl k xs o ih (fun l j e=>by subst e;exact hn.Xu ho)
 |nilf=>exact .nilf
 |fn f caps vs hl _ ih=>exact .fn f caps (fun i h=>ih i h om)
 |bfn f caps vs hl _ ih=>exact .bfn f caps (fun i h=>ih i h om)
 |nilm=>exact .nilm
 |map l k b hm=>exact .map l k (hn.Zaa hm)
 |mnil sz l k a hh ha=>exact .msl _ _ _ _ (hn.Xu hh)
 |msl sz l k n g cap hh=>exact .msl _ _ _ _ (hn.Xu hh)
 |eptr l k n off g cap hh=>exact .eptr _ _ _ _ (hn.Xu hh)
 |ssl k xs ys b off cap c hk hc _ hcap hm ih=>exact .ssl k xs ys ih
 |nili=>exact .nili
 |Xg=>exact .Xg
 |sln k a cap hc=>exact .sln k
 |sub sz l k n off m g cap hh hm=>exact .sub _ _ _ _ _ _ (hn.Xu hh)
 |ifc t a v _ ih=>exact .ifc t a ih
 |agg cs vs hl _ ih=>exact .agg cs (fun i h=>ih i h om)
 |tup cs vs hl _ ih=>exact .tup cs (fun i h=>ih i h om)
 |dead v=>exact .dead
def Env.cut(n:Nat)(E:Env):Env:=
 {F:=E.F,m:=fun l k=>if l<n then E.m l k else none,hist:=fun l k j=>if l<n then E.hist l k j else none,g:=fun l k=>if l<n then E.g l k else none,qd:=E.qd}
def Env.Zf1(n:Nat)(E:Env):(E.cut n).norm n:=
 ⟨fun l k h=>if_neg om,fun l k h=>if_neg om,fun l k j h=>if_neg om⟩
def Env.ZiS{E':Env}(h:E.le n E'):E.le n (E'.cut n):=
 ⟨h.F,fun l k b hl hm=>by simp only[Env.cut,if_pos hl];exact h.m l k b hl hm,fun l k j v hl hm=>by simp only[Env.cut,if_pos hl];exact h.hist l k j v hl hm,h.qd⟩
def VR.cut{n:Nat}{E:Env}{a:AV}{v:Value}(hv:VR E a v)(hb:Below n a):VR (E.cut n) a v:=by
 induction hv with
 |int k n=>exact .int k n
 |bool b=>exact .bool b
 |str l=>exact .str l
 |nilp=>exact .nilp
 |ptr l k off b hm=>cases hb with|ptr _ _ _ hl=>exact .ptr l k off b (by simp only[Env.cut,if_pos hl];exact hm)
 |iptr cs b off c hc _ ih=>cases hb with|iptr _ hb=>exact .iptr cs b off c hc (fun j h=>ih j h (hb j h))
 |slnil k o a ho ha=>
  cases hb with
  |sl _ _ _ _ hb=>
   refine .slnil k o a ?_ ha;cases o with
   |any=>trivial
   |full=>exact ho
   |buf l j=>simp only[Zag,Env.cut,if_pos (hb l j rfl)];exact ho
 |sl k xs o b off cap c hk hc _ hcap hm ho ih=>
  cases hb with
  |sl _ _ _ hx hb=>
   refine .sl k xs o b off cap c hk hc (fun i h j h'=>ih i h j h' (hx i h j h')) hcap hm ?_;cases o with
   |any=>trivial
   |full=>exact ho
   |buf l j=>simp only[Zag,Env.cut,if_pos (hb l j rfl)];exact ho
 |nilf=>exact .nilf
 |fn f caps vs hl _ ih=>cases hb with|fn _ _ hb=>exact .fn f caps vs hl (fun i h h'=>ih i h h' (hb i h))
 |bfn f caps vs hl _ ih=>cases hb with|bfn _ _ hb=>exact .bfn f caps vs hl (fun i h h'=>ih i h h' (hb i h))
 |nilm=>exact .nilm
 |map l k b hm=>cases hb with|map _ _ hl=>exact .map l k b (by simp only[Env.cut,if_pos hl];exact hm)
 |mnil sz l k a hh ha=>cases hb with|msl _ _ _ _ hl=>exact .mnil _ _ _ _ (by simp only[Env.cut,if_pos hl];exact hh) ha
 |msl sz l k n g cap hh=>cases hb with|msl _ _ _ _ hl=>exact .msl _ _ _ _ _ _ (by simp only[Env.cut,if_pos hl];exact hh)
 |eptr l k n off g cap hh=>cases hb with|eptr _ _ _ _ hl=>exact .eptr _ _ _ _ _ _ (by simp only[Env.cut,if_pos hl];exact hh)
 |ssl k xs ys b off cap c hk hc _ hcap hm ih=>cases hb with|ssl _ _ _ hx=>exact .ssl k xs ys b off cap c hk hc (fun i h j h'=>ih i h j h' (hx i h j h')) hcap hm
 |nili=>exact .nili
 |Xg=>exact .Xg
 |sln k a cap hc=>exact .sln k a cap hc
 |sub sz l k n off m g cap hh hm=>cases hb with|sub _ _ _ _ _ _ hl=>exact .sub _ _ _ _ _ _ _ _ (by simp only[Env.cut,if_pos hl];exact hh) hm
 |ifc t a v _ ih=>cases hb with|ifc _ _ hb=>exact .ifc t a v (ih hb)
 |agg cs vs hl _ ih=>cases hb with|agg _ hb=>exact .agg cs vs hl (fun i h h'=>ih i h h' (hb i h))
 |tup cs vs hl _ ih=>cases hb with|tup _ hb=>exact .tup cs vs hl (fun i h h'=>ih i h h' (hb i h))
 |dead v=>exact .dead v
def VR.any{E:Env}{k:Nat}{xs:List AV}{o:Own}{v:Value}(h:VR E (.sl k xs o) v):VR E (.sl k xs .any) v:=by
 cases h with
 |slnil _ _ a ho ha=>exact .slnil k .any a trivial (fun h=>absurd rfl h)
 |sl _ _ _ b off cap c hk hc hv hcap hm ho=>exact .sl k xs .any b off cap c hk hc hv hcap hm trivial
def VR.ZiN{o:Own}(h:VR E (.sl k [] o) v):VR E .Xg v∨VR E (.sln k) v:=by
 cases h with
 |slnil _ _ a ho ha=>cases a with
  |none=>exact .inl .Xg
  |some a=>exact .inr (.sln k a 0 (.inl rfl))
 |sl _ _ _ b off cap c hk hc hv hcap hm ho=>exact .inr (.sln k _ cap (.inr rfl))
def VR.ZiU(h:VR E .Xg v):VR E (.sl k [] .full) v:=by
 cases h;exact .slnil k .full none rfl (fun _=>rfl)
def VR.Zse(h:VR E (.sln k) v):VR E (.sl k [] .any) v:=by
 cases h with|sln _ a cap h=>
 rcases h with rfl|h
 ·exact .slnil k .any _ trivial (fun h=>absurd rfl h)
 ·obtain⟨b,off,sp⟩:=a;cases h;exact .sl k [] .any b off cap (fun _ _=>undef) (fun i h=>absurd h (Qm _)) (fun i j h=>absurd h (Qm _)) (fun i h=>absurd h (Qm _)) (Uo _) (Uo _) trivial
def VR.one{E:Env}{a:AV}{v:Value}(h:VR E a v)(ha:a.one=true):v.oneCell'=true:=by
 cases h<;>first|rfl|(simp[AV.one]at ha)
def VR.cells{E:Env}{a:AV}{v:Value}(h:VR E a v)(ha:∀c∈a.cells,c.one=true):VRs E a.cells v.cells.toList:=by
 cases h with
 |agg cs vs hl hv=>exact⟨by simpa[Value.cells,AV.cells]using hl,by simpa[Value.cells,AV.cells]using hv⟩
 |tup cs vs hl hv=>simp[AV.cells,AV.one]at ha
 |dead v=>simp[AV.cells,AV.one]at ha
 |_=>exact VRs.cons (by constructor<;>assumption) (VRs.nil E)
end
end Go.Abs

namespace Go.Abs
inductive Ze where
 |box (cs:List AV)
 |map (es:List (AV×AV))
 |buf (e sz fr:Nat)
 |Zg (e sz:Nat) (cs:List AV) (n:Nat)
 |iter (l k since:Nat) (seen:List Nat)
 |var (b:Nat) (t:TypeId) (cs:List AV)
 |lrec (l N fo:Nat) (tm:List (Nat×AV)) (ps:Array Tmp) (ca cb:Code) (st:LoopState) (pend:Option Code)
def lkv:List (Nat×AV)→Nat→AV
 |[],_=>.dead
 |(i,v)::r,t=>if i=t then v else lkv r t
def Ze.avs:Ze→List AV
 | .box cs=>cs
 | .map es=>es.map (·.1)++es.map (·.2)
 | .Zg _ _ cs _=>cs
 | .var _ _ cs=>cs
 | .lrec _ _ _ tm _ _ _ _ _=>tm.map fun p=>lkv tm p.1
 |_=>[]
def Ze.at_:Ze→List (Nat×Nat)
 | .iter l k _ _=>[(l,k)]
 |_=>[]
def Ze.isRec:Ze→Bool
 | .lrec _ _ _ _ _ _ _ _ _=>true
 |_=>false
def Ze.isBuf:Ze→Bool
 | .buf _ _ _=>true
 | .Zg _ _ _ _=>true
 |_=>false
def Ze.Below(n:Nat)(b:Ze):Prop:=(∀a∈b.avs,Abs.Below n a)∧ ∀p∈b.at_,p.1<n
abbrev Za:=Nat→Nat→Option Ze
def Za.upd(H:Za)(l k:Nat)(b:Ze):Za:=fun l' k'=>if l'=l∧k'=k then some b else H l' k'
def Env.own(E:Env)(b:Nat):Prop:=(∃l k,E.m l k=some b)∨(∃l k,E.g l k=some b)
def Zuf(E:Env)(w:World)(cs:List AV)(b:Nat):Prop:=∃c t,w.heap[b]? =some (.cells c t (0,0))∧VRs E cs c.toList
def Ztm(E:Env)(w:World)(es:List (AV×AV))(b:Nat):Prop:=
 ∃ent:Array MapEntry,w.heap[b]? =some (.map ent es.length)∧ent.size=es.length∧
  ∀i (h:i<es.length) (h':i<ent.size),VR E es[i].1 ent[i].key∧VR E es[i].2 ent[i].val∧ent[i].born=i
def Zuc(E:Env)(w:World)(l k e sz fr:Nat):Prop:=
 ∃v,E.hist l k fr=some v∧(∀j,fr<j→E.hist l k j=none)∧
  ((∃a,v= .slice a 0 0∧fr=0∧E.g l k=none)∨
   ∃g cap cur,v= .slice (some ⟨g,0,none⟩) fr cap∧E.g l k=some g∧w.heap[g]? =some (.cells cur e (0,0))∧fr≤cap∧cap≤maxLen∧cur.size=cap*sz∧
    ∀o,fr*sz≤o→E.F g o=none)
def ZrG(E:Env)(w:World)(l k e sz:Nat)(cs:List AV)(n:Nat):Prop:=
 cs.length=n*sz∧ ∃v,E.hist l k n=some v∧(∀j,n<j→E.hist l k j=none)∧
  ((∃a,v= .slice a 0 0∧n=0∧E.g l k=none)∨
   ∃g cap cur,v= .slice (some ⟨g,0,none⟩) n cap∧E.g l k=some g∧w.heap[g]? =some (.cells cur e (0,0))∧n≤cap∧cap≤maxLen∧cur.size=cap*sz∧
    (∀o,E.F g o=none)∧VRs E cs (cur.toList.take (n*sz)))
def lkv_mem:∀{tm:List (Nat×AV)} {t:Nat},lkv tm t= .dead∨(t,lkv tm t)∈tm
 |[],t=>.inl rfl
 |(i,v)::r,t=>by
  simp only[lkv];split
  ·rename_i h;subst h;exact .inr sm
  ·rcases lkv_mem (tm:=r) (t:=t)with h|h
   ·exact .inl h
   ·exact .inr (Qy _ h)
def ZtO(E:Env)(w:World)(b N fo:Nat)(tm:List (Nat×AV))(ps:Array Tmp)(ca cb:Code)(st:LoopState)(pend:Option Code):Prop:=
 ∃rc:Loop,w.heap[b]? =some (.loop rc)∧rc.params=ps∧rc.assign=ca∧rc.body=cb∧rc.state=st∧rc.pending=pend∧rc.tmps.size=N∧(∀t,VR E (lkv tm t) (rc.tmps.getD t undef))∧(fo≠0→rc.fn+1=fo)
def Zd2(E:Env)(w:World)(l k:Nat):Ze→Prop
 | .box cs=>∃b,E.m l k=some b∧Zuf E w cs b
 | .map es=>∃b,E.m l k=some b∧Ztm E w es b
 | .buf e sz fr=>Zuc E w l k e sz fr∧E.m l k=none
 | .Zg e sz cs n=>ZrG E w l k e sz cs n∧E.m l k=none
 | .iter l' k' since seen=>∃b b',E.m l k=some b∧E.m l' k'=some b'∧w.heap[b]? =some (.mapIter (some b') since seen.toArray since)
 | .var b t cs=>E.qd=false∧E.m l k=some b∧ ∃c,w.heap[b]? =some (.cells c t (0,0))∧VRs E cs c.toList
 | .lrec b N fo tm ps ca cb st pend=>E.m l k=some b∧ZtO E w b N fo tm ps ca cb st pend
section
variable {w:World} {E E':Env}
def Zd2.keep{w':World}{l k:Nat}{b:Ze}(h:Zd2 E w l k b)(hm:E'.m l k=E.m l k)(hg:E'.g l k=E.g l k)(hh:∀j,E'.hist l k j=E.hist l k j)
  (hi:∀p∈b.at_,∀r,E.m p.1 p.2=some r→E'.m p.1 p.2=some r) (hb:∀r,E.m l k=some r∨E.g l k=some r→w'.heap[r]? =w.heap[r]?)
  (hF:∀g o,E.g l k=some g→E.F g o=none→E'.F g o=none) (hv:∀a∈b.avs,∀v,VR E a v→VR E' a v) (hqd:E'.qd=E.qd:=by rfl):Zd2 E' w' l k b:=by
 cases b with
 |box cs=>
  obtain⟨r,h1,c,t,h2,h3⟩:=h;exact⟨r,hm.trans h1,c,t,by rw[hb r (.inl h1)];exact h2,h3.1,fun i x y=>hv _ (by simpa[Ze.avs]using Qa x) _ (h3.2 i x y)⟩
 |map es=>
  obtain⟨r,h1,ent,h2,h3,h4⟩:=h;refine⟨r,hm.trans h1,ent,by rw[hb r (.inl h1)];exact h2,h3,fun i x y=>?_⟩;obtain⟨q1,q2,q3⟩:=h4 i x y;exact⟨hv _ (Qx _ (Qi.2 ⟨_,Qa x,rfl⟩)) _ q1,hv _ (QB _ (Qi.2 ⟨_,Qa x,rfl⟩)) _ q2,q3⟩
 |buf e sz fr=>
  obtain⟨⟨v,h1,h2,h3⟩,h4⟩:=h;refine⟨⟨v,(hh fr).trans h1,fun j hj=>(hh j).trans (h2 j hj),?_⟩,hm.trans h4⟩;rcases h3 with⟨a,q1,q2,q3⟩|⟨g,cap,cur,q1,q2,q3,q4,q5,q6,q7⟩
  ·exact .inl ⟨a,q1,q2,hg.trans q3⟩
  ·exact .inr ⟨g,cap,cur,q1,hg.trans q2,by rw[hb g (.inr q2)];exact q3,q4,q5,q6,fun o ho=>hF g o q2 (q7 o ho)⟩
 |Zg e sz cs n=>
  obtain⟨⟨h0,v,h1,h2,h3⟩,h4⟩:=h;refine⟨⟨h0,v,(hh n).trans h1,fun j hj=>(hh j).trans (h2 j hj),?_⟩,hm.trans h4⟩;rcases h3 with⟨a,q1,q2,q3⟩|⟨g,cap,cur,q1,q2,q3,q4,q5,q6,q7,q8⟩
  ·exact .inl ⟨a,q1,q2,hg.trans q3⟩
  ·exact .inr ⟨g,cap,cur,q1,hg.trans q2,by rw[hb g (.inr q2)];exact q3,q4,q5,q6,fun o=>hF g o q2 (q7 o),q8.1,fun i x y=>hv _ (by simpa[Ze.avs]using Qa x) _ (q8.2 i x y)⟩
 |iter l' k' since seen=>
  obtain⟨r,r',h1,h2,h3⟩:=h;exact⟨r,r',hm.trans h1,hi (l',k') (by simp[Ze.at_]) r' h2,by rw[hb r (.inl h1)];exact h3⟩
 |var b t cs=>
  obtain⟨h0,h1,c,h2,h3⟩:=h;exact⟨hqd.trans h0,hm.trans h1,c,by rw[hb b (.inl h1)];exact h2,h3.1,fun i x y=>hv _ (by simpa[Ze.avs]using Qa x) _ (h3.2 i x y)⟩
 |lrec b N fo tm ps ca cb st pend=>
  obtain⟨h1,rc,h2,h3,h4,h5,h6,h7,h8,h9,h10⟩:=h;refine⟨hm.trans h1,rc,by rw[hb b (.inl h1)];exact h2,h3,h4,h5,h6,h7,h8,fun t=>?_,h10⟩;rcases lkv_mem (tm:=tm) (t:=t)with hd|hd
  ·rw[hd];exact .dead _
  ·exact hv _ (by simp only[Ze.avs];exact Qi.2 ⟨_,hd,rfl⟩) _ (h9 t)
structure Zq (n:Nat) (H:Za) (E:Env) (w:World):Prop where
 norm:E.norm n
 F:∀b o v,E.F b o=some v→w.cell? ⟨b,o,none⟩=some v
 blk:∀l k b,l<n→H l k=some b→Zd2 E w l k b
 dom:∀l k,l<n→H l k=none→E.m l k=none∧E.g l k=none∧ ∀j,E.hist l k j=none
 nobuf:∀l k,E.g l k≠none→ ∃b,H l k=some b∧b.isBuf=true
 inj:∀l k l' k' b,E.m l k=some b→E.m l' k'=some b→l=l'∧k=k'
 injg:∀l k l' k' b,E.g l k=some b→E.g l' k'=some b→l=l'∧k=k'
 mg:∀l k l' k' b,E.m l k=some b→E.g l' k'=some b→False
 mF:∀l k b o,E.m l k=some b→E.F b o=none
 lt:∀b,E.own b→b<w.heap.size
def Zq.box{n:Nat}{H:Za}{E:Env}{w:World}(h:Zq n H E w)(l k:Nat)(cs:List AV)(hl:l<n)(hb:H l k=some (.box cs)):∃b,E.m l k=some b∧Zuf E w cs b:=h.blk l k _ hl hb
def Zq.map{n:Nat}{H:Za}{E:Env}{w:World}(h:Zq n H E w)(l k:Nat)(es:List (AV×AV))(hl:l<n)(hb:H l k=some (.map es)):∃b,E.m l k=some b∧Ztm E w es b:=h.blk l k _ hl hb
def Zq.buf{n:Nat}{H:Za}{E:Env}{w:World}(h:Zq n H E w)(l k e sz fr:Nat)(hl:l<n)(hb:H l k=some (.buf e sz fr)):Zuc E w l k e sz fr∧E.m l k=none:=h.blk l k _ hl hb
def Zq.Zg{n:Nat}{H:Za}{E:Env}{w:World}(h:Zq n H E w)(l k e sz:Nat)(cs:List AV)(i:Nat)(hl:l<n)(hb:H l k=some (.Zg e sz cs i)):ZrG E w l k e sz cs i∧E.m l k=none:=h.blk l k _ hl hb
structure Ext (n:Nat) (E:Env) (w:World) (E':Env) (w':World):Prop where
 le:E.le n E'
 os:w'.os=w.os
 tape:w'.tape=w.tape
 output:w'.output=w.output
 drawn:E.qd=true→w.drawn≤w'.drawn
 size:w.heap.size≤w'.heap.size
 block:∀b,b<w.heap.size→ ¬E.own b→w'.heap[b]? =w.heap[b]?
 own:∀b,b<w.heap.size→E'.own b→E.own b
def Ext.refl(n:Nat)(E:Env)(w:World):Ext n E w E w:=⟨.refl n E,rfl,rfl,rfl,fun _=>Qe _,Qe _,fun _ _ _=>rfl,fun _ _ h=>h⟩
def Ext.trans{n:Nat}{A B C:Env}{u v w:World}(h:Ext n A u B v)(h':Ext n B v C w):Ext n A u C w:=
 ⟨h.le.trans h'.le,h'.os.trans h.os,h'.tape.trans h.tape,h'.output.trans h.output,fun hq=>Ux (h.drawn hq) (h'.drawn (h.le.qd.trans hq)),Ux h.size h'.size,
  fun b hb ho=>(h'.block b (Ul hb h.size) (fun x=>ho (h.own b hb x))).trans (h.block b hb ho),
  fun b hb ho=>h.own b hb (h'.own b (Ul hb h.size) ho)⟩
def Ext.mono{n n':Nat}{A B:Env}{u v:World}(h:Ext n A u B v)(hn:n'≤n):Ext n' A u B v:=
 ⟨h.le.mono hn,h.os,h.tape,h.output,h.drawn,h.size,h.block,h.own⟩
variable {n:Nat}
def Zq.congr{H H':Za}(h:Zq n H E w)(he:∀l k,l<n→H' l k=H l k):Zq n H' E w where
 norm:=h.norm
 F:=h.F
 blk l k b hl hH:=h.blk l k b hl (by rw[←he l k hl];exact hH)
 dom l k hl hH:=h.dom l k hl (by rw[←he l k hl];exact hH)
 nobuf l k hg:=by
  have hl:l<n:=by
   cases hx:E.g l k with
   |none=>exact absurd hx hg
   |some b=>exact h.norm.Ztd hx
  rw[he l k hl];exact h.nobuf l k hg
 inj:=h.inj
 injg:=h.injg
 mg:=h.mg
 mF:=h.mF
 lt:=h.lt
def Zd2.lvl{n:Nat}{E:Env}{w:World}{l k:Nat}{b:Ze}(hn:E.norm n)(h:Zd2 E w l k b):b.Below n:=by
 cases b with
 |box cs=>
  obtain⟨r,_,c,t,_,hv⟩:=h;refine⟨fun a ha=>?_,by simp[Ze.at_]⟩;obtain⟨i,hi,rfl⟩:=QJ ha;exact(hv.2 i hi (by rw[hv.1];exact hi)).lvl hn
 |map es=>
  obtain⟨r,_,ent,_,hs,hv⟩:=h;refine⟨fun a ha=>?_,by simp[Ze.at_]⟩;rcases Qg.1 ha with ha|ha<;>obtain⟨x,hx,rfl⟩:=Qi.1 ha<;>obtain⟨i,hi,rfl⟩:=QJ hx
  ·exact(hv i hi om).1.lvl hn
  ·exact(hv i hi om).2.1.lvl hn
 |buf e sz fr=>exact⟨by simp[Ze.avs],by simp[Ze.at_]⟩
 |Zg e sz cs i=>
  obtain⟨⟨h0,v,_,_,h3⟩,_⟩:=h;refine⟨fun a ha=>?_,by simp[Ze.at_]⟩;obtain⟨j,hj,rfl⟩:=QJ ha;rcases h3 with⟨a,_,q2,_⟩|⟨g,cap,cur,_,_,_,_,_,_,_,q8⟩
  ·simp only[Ze.avs]at hj;subst q2;simp at h0;simp[h0]at hj
  ·exact(q8.2 j hj (by rw[q8.1];exact hj)).lvl hn
 |iter l' k' since seen=>
  obtain⟨r,r',_,h2,_⟩:=h;exact⟨by simp[Ze.avs],fun p hp=>by simp[Ze.at_]at hp;subst hp;exact hn.Zaa h2⟩
 |var b t cs=>
  obtain⟨_,r,c,_,hv⟩:=h;refine⟨fun a ha=>?_,by simp[Ze.at_]⟩;obtain⟨i,hi,rfl⟩:=QJ ha;exact(hv.2 i hi (by rw[hv.1];exact hi)).lvl hn
 |lrec b N fo tm ps ca cb st pend=>
  obtain⟨_,rc,_,_,_,_,_,_,_,h9,_⟩:=h;refine⟨fun a ha=>?_,by simp[Ze.at_]⟩;simp only[Ze.avs]at ha;obtain⟨p,hp,rfl⟩:=Qi.1 ha;exact(h9 p.1).lvl hn
def Zq.out{H:Za}(h:Zq n H E w){l k:Nat}{b:Ze}(hl:l<n)(hb:H l k=some b):b.Below n:=(h.blk l k b hl hb).lvl h.norm
structure Zb where
 tmps:List (Nat×AV)
 L:List (Nat×Ze)
 H:Za
def lkb:List (Nat×Ze)→Nat→Option Ze
 |[],_=>none
 |(i,v)::r,t=>if i=t then some v else lkb r t
def full(n:Nat)(L:List (Nat×Ze))(H:Za):Za:=fun l k=>if l=n then lkb L k else H l k
structure Base where
 lo:Nat
 ds:List Deferred
structure Fm where
 ro:Option Nat
 B:Base
def fr(ro:Option Nat):Fence:={fn:=fun _=>True,depth:=none,alive:=false,round:=ro}
def mark(D:Nat):Deferred:={target:=.collected D,args:=#[]}
def Zcg(B:Base)(E:Env)(ds:List Deferred)(w:World):Prop:=
 B.lo≤w.heap.size∧ ∃l:List Nat,ds=l.map mark++B.ds∧l.Nodup∧ ∀D∈l,B.lo≤D∧w.heap[D]? =some (.deferred (some []))∧ ¬E.own D
def Zcg.nil{B:Nat}(E:Env)(h:B≤w.heap.size):Zcg ⟨B,[]⟩ E [] w:=⟨h,[],rfl,Gz,fun _ h=>by cases h⟩
variable {ds:List Deferred}
def Zcg.ext{B:Base}{w':World}(h:Zcg B E ds w)(hx:Ext n E w E' w'):Zcg B E' ds w':=by
 obtain⟨h0,l,h1,h2,h3⟩:=h;refine⟨Ux h0 hx.size,l,h1,h2,fun D hD=>?_⟩;obtain⟨a1,a2,a3⟩:=h3 D hD;have hlt:D<w.heap.size:=(QU.1 a2).1;exact⟨a1,(hx.block D hlt a3).trans a2,fun ho=>a3 (hx.own D hlt ho)⟩
def Zcg.sub{B:Base}(h:Zcg B E ds w)(ho:∀b,E'.own b→E.own b):Zcg B E' ds w:=by
 obtain⟨h0,l,h1,h2,h3⟩:=h;exact⟨h0,l,h1,h2,fun D hD=>⟨(h3 D hD).1,(h3 D hD).2.1,fun h=>(h3 D hD).2.2 (ho D h)⟩⟩
structure Yp (B:Base) (n N:Nat) (s:Zb) (E:Env) (a:Act) (w:World):Prop where
 size:a.tmps.size=N
 defs:Zcg B E a.defers w
 tmps:∀t,VR E (lkv s.tmps t) (a.tmps.getD t undef)
 heap:Zq (n+1) (full n s.L s.H) E w
 out:∀l k b,l<n→s.H l k=some b→b.Below n
def AC(P:Program)(φ:Fm)(n N:Nat)(c:Code)(Q:Exit→Zb→Prop)(s:Zb):Prop:=
 ∀E w a,Yp φ.B n N s E a w→c.wpIn (fr φ.ro) 0 P (fun e a' w'=>∃s' E',Q e s'∧Yp φ.B n N s' E' a' w'∧Ext n E w E' w') a w
def Zh(P:Program)(n:Nat)(f:FuncId)(args:List AV)(H:Za)(Q:AV→Za→Prop):Prop:=
 ∀E w vs,Zq n H E w→VRs E args vs→
  Calls P f vs.toArray w fun e w'=>∃r v H' E',e= .returned v∧Q r H'∧VR E' r v∧Zq n H' E' w'∧Ext n E w E' w'
def PC(P:Program)(n:Nat)(f:FuncId)(args:List AV)(H:Za)(r:AV):Prop:=Zh P n f args H fun r' H'=>r'=r∧H'=H
def Pure(P:Program)(f:FuncId)(args:List AV)(r:AV):Prop:=∀n H,PC P n f args H r
def Zh.mono{P:Program}{n:Nat}{f:FuncId}{args:List AV}{H:Za}{Q Q':AV→Za→Prop}(h:Zh P n f args H Q)
  (hq:∀r H',Q r H'→Q' r H'):Zh P n f args H Q':=fun E w vs hr hv=>
 (h E w vs hr hv).mono fun e w' ⟨r,v,H',E',he,hQ,rest⟩=>⟨r,v,H',E',he,hq _ _ hQ,rest⟩
variable {s:Zb} {Q:Exit→Zb→Prop} {c:Code} {N:Nat} {φ:Fm} {P:Program}
def AC.mono{Q':Exit→Zb→Prop}(h:AC P φ n N c Q s)(hq:∀e s',Q e s'→Q' e s'):AC P φ n N c Q' s:=
 fun E w a hs=>wpIn_mono (h E w a hs) fun e a' w' ⟨s',E',hQ,rest⟩=>⟨s',E',hq _ _ hQ,rest⟩
def AC.run(h:AC P φ n N c Q s){E0:Env}{w0:World}{a:Act}
  (hs:Yp φ.B n N s E a w) (hx:Ext n E0 w0 E w):c.wpIn (fr φ.ro) 0 P (fun e a' w'=>∃s' E',Q e s'∧Yp φ.B n N s' E' a' w'∧Ext n E0 w0 E' w') a w:=
 wpIn_mono (h E w a hs) fun e a' w' ⟨s',E',hQ,hr,he⟩=>⟨s',E',hQ,hr,hx.trans he⟩
def AC.seq{P:Program}{φ:Fm}{n N:Nat}{x y:Code}{Q:Exit→Zb→Prop}{s:Zb}
  (h:AC P φ n N x (fun e s'=>match e with| .normal=>AC P φ n N y Q s'|e=>Q e s') s):AC P φ n N (.seq x y) Q s:=fun E w a hs=>by
 refine wpIn_seq (wpIn_mono (h E w a hs) ?_);rintro e a' w' ⟨s',E',hQ,hr,he⟩;cases e with
 |normal=>exact AC.run hQ hr he
 |_=>exact⟨s',E',hQ,hr,he⟩
def AC.block{P:Program}{φ:Fm}{n N:Nat}{id:Nat}{c:Code}{Q:Exit→Zb→Prop}{s:Zb}
  (h:AC P φ n N c (fun e s'=>match e with| .exit id'=>if id'=id then Q .normal s' else Q (.exit id') s'|e=>Q e s') s):AC P φ n N (.block id c) Q s:=fun E w a hs=>by
 refine wpIn_block (wpIn_mono (h E w a hs) ?_);rintro e a' w' ⟨s',E',hQ,hr,he⟩;cases e with
 |exit id'=>
  simp only[Exit.inBlock];by_cases hid:id'=id
  ·simp only[hid,if_true]at hQ⊢;exact⟨s',E',hQ,hr,he⟩
  ·simp only[hid,if_false]at hQ⊢;exact⟨s',E',hQ,hr,he⟩
 |_=>exact⟨s',E',hQ,hr,he⟩
def AC.skip{P:Program}{φ:Fm}{n N:Nat}{Q:Exit→Zb→Prop}{s:Zb}(h:Q .normal s):AC P φ n N .skip Q s:=
 fun E w _ hs=>wpIn_skip ⟨s,E,h,hs,.refl n E w⟩
def AC.exit{P:Program}{φ:Fm}{n N id:Nat}{Q:Exit→Zb→Prop}{s:Zb}(h:Q (.exit id) s):AC P φ n N (.exit id) Q s:=
 fun E w _ hs=>wpIn_exit ⟨s,E,h,hs,.refl n E w⟩
def AC.ret{P:Program}{φ:Fm}{n N:Nat}{Q:Exit→Zb→Prop}{s:Zb}(h:Q .ret s):AC P φ n N .ret Q s:=
 fun E w _ hs=>wpIn_ret ⟨s,E,h,hs,.refl n E w⟩
inductive Itm where
 |code (c:Code)
 |blk (id:Nat)
def AX(P:Program)(φ:Fm)(n N:Nat)(Q:Exit→Zb→Prop):List Itm→Exit→Zb→Prop
 |[],e,s=>Q e s
 | .code d::k,e,s=>match e with
  | .normal=>AC P φ n N d (AX P φ n N Q k) s
  |e=>AX P φ n N Q k e s
 | .blk id::k,e,s=>match e with
  | .exit id'=>if id'=id then AX P φ n N Q k .normal s else AX P φ n N Q k (.exit id') s
  |e=>AX P φ n N Q k e s
def AK(P:Program)(φ:Fm)(n N:Nat)(k:List Itm)(Q:Exit→Zb→Prop)(s:Zb):Prop:=AX P φ n N Q k .normal s
def VU(id:Nat):List Itm→Option (List Itm)
 |[]=>none
 | .blk j::k=>if id=j then some k else VU id k
 | .code _::k=>VU id k
section
variable {P:Program} {φ:Fm} {n N:Nat} {Q:Exit→Zb→Prop} {s:Zb} {k k':List Itm}
def Zgk(h:Q .ret s):∀k,AX P φ n N Q k .ret s
 |[]=>h
 | .code _::k=>Zgk h k
 | .blk _::k=>Zgk h k
def Zfe{id:Nat}:∀{k:List Itm},VU id k=some k'→AK P φ n N k' Q s→AX P φ n N Q k (.exit id) s
 |[],h,_=>by simp[VU]at h
 | .code _::k,h,hk=>Zfe (k:=k) h hk
 | .blk j::k,h,hk=>by
  simp only[VU]at h;by_cases hj:id=j
  ·simp only[hj,if_true,Qr]at h;subst h;simp only[AX,hj,if_true];exact hk
  ·simp only[hj,if_false]at h;simp only[AX,hj,if_false];exact Zfe (k:=k) h hk
def Zh0(h:Q .normal s):AK P φ n N [] Q s:=h
def Zsr{a b:Code}(h:AK P φ n N (.code a:: .code b::k) Q s):AK P φ n N (.code (.seq a b)::k) Q s:=
 AC.seq (AC.mono h fun e s' hq=>by cases e<;>exact hq)
def ZoX{id:Nat}{c:Code}(h:AK P φ n N (.code c:: .blk id::k) Q s):AK P φ n N (.code (.block id c)::k) Q s:=
 AC.block (AC.mono h fun e s' hq=>by cases e<;>exact hq)
def Zq4(h:AK P φ n N k Q s):AK P φ n N (.code .skip::k) Q s:=AC.skip h
def Zsg{id:Nat}(h:AK P φ n N k Q s):AK P φ n N (.blk id::k) Q s:=h
def Zq8{id:Nat}(hp:VU id k=some k')(h:AK P φ n N k' Q s):AK P φ n N (.code (.exit id)::k) Q s:=AC.exit (Zfe hp h)
def Zpc(h:Q .ret s):AK P φ n N (.code .ret::k) Q s:=AC.ret (Zgk h k)
def J8{Q':Exit→Zb→Prop}(hq:∀e s',Q e s'→Q' e s'):∀{k:List Itm} {e:Exit} {s:Zb},AX P φ n N Q k e s→AX P φ n N Q' k e s
 |[],_,_,h=>hq _ _ h
 | .code _::k,e,s,h=>by
  cases e with
  |normal=>exact AC.mono h fun e s'=>J8 hq (k:=k)
  |_=>exact J8 hq (k:=k) h
 | .blk id::k,e,s,h=>by
  cases e with
  |exit id'=>
   simp only[AX]at h⊢;split at h
   ·rename_i he;simp only[he,if_true];exact J8 hq (k:=k) h
   ·rename_i he;simp only[he,if_false];exact J8 hq (k:=k) h
  |_=>exact J8 hq (k:=k) h
end
def AV.ofCell:Value→AV
 | .int k n=>.int k n
 | .bool b=>.bool b
 | .string s=>.str s.data.toList
 | .pointer none=>.nilp
 | .slice none n c=>if n=0∧c=0 then .sl 0 [] .full else .dead
 | .nilFunc=>.nilf
 | .map none=>.nilm
 | .func f a b=>if a.size=0∧b.size=0 then .fn f []else .dead
 |_=>.dead
def Znl(E:Env)(v:Value):VR E (.ofCell v) v:=by
 cases v with
 |int k n=>exact .int _ _
 |bool b=>exact .bool _
 |string s=>
  have:s=⟨s.data.toList.toArray⟩:=sm;simp only[AV.ofCell];rw[this];exact .str _
 |pointer a=>cases a with
  |none=>exact .nilp
  |some a=>exact .dead _
 |slice a n c=>cases a with
  |none=>
   simp only[AV.ofCell];split
   ·rename_i h;obtain⟨rfl,rfl⟩:=h;exact .slnil 0 .full none rfl (fun _=>rfl)
   ·exact .dead _
  |some a=>exact .dead _
 |nilFunc=>exact .nilf
 |map r=>cases r with
  |none=>exact .nilm
  |some r=>exact .dead _
 |func f a b=>
  simp only[AV.ofCell];split
  ·rename_i h;obtain⟨h1,h2⟩:=h;have e1:a= #[]:=UY h1;have e2:b= #[]:=UY h2;subst e1 e2;exact VR.fn _ [] [] rfl (fun i h=>absurd h (Qm _))
  ·exact .dead _
 |_=>exact .dead _
def AV.ofValue:Value→AV
 | .int k n=>.int k n
 | .bool b=>.bool b
 | .string s=>.str s.data.toList
 | .pointer none=>.nilp
 | .slice none n c=>if n=0∧c=0 then .sl 0 [] .full else .dead
 | .nilFunc=>.nilf
 | .map none=>.nilm
 | .func f a b=>if a.size=0∧b.size=0 then .fn f []else .dead
 | .agg vs=>.agg (vs.toList.map .ofCell)
 |_=>.dead
def ZgG(E:Env)(v:Value):VR E (.ofValue v) v:=by
 cases v with
 |int k n=>exact .int _ _
 |bool b=>exact .bool _
 |string s=>
  have:s=⟨s.data.toList.toArray⟩:=sm;simp only[AV.ofValue];rw[this];exact .str _
 |pointer a=>cases a with
  |none=>exact .nilp
  |some a=>exact .dead _
 |slice a n c=>cases a with
  |none=>
   simp only[AV.ofValue];split
   ·rename_i h;obtain⟨rfl,rfl⟩:=h;exact .slnil 0 .full none rfl (fun _=>rfl)
   ·exact .dead _
  |some a=>exact .dead _
 |nilFunc=>exact .nilf
 |map r=>cases r with
  |none=>exact .nilm
  |some r=>exact .dead _
 |func f a b=>
  simp only[AV.ofValue];split
  ·rename_i h;obtain⟨h1,h2⟩:=h;have e1:a= #[]:=UY h1;have e2:b= #[]:=UY h2;subst e1 e2;exact VR.fn _ [] [] rfl (fun i h=>absurd h (Qm _))
  ·exact .dead _
 |agg vs=>
  have e:vs=vs.toList.toArray:=sm;simp only[AV.ofValue]
  conv=>arg 3;rw[e]
  exact .agg _ _ sm fun i h h'=>by rw[QV];exact Znl E _
 |_=>exact .dead _
def Zb.ev(s:Zb):Operand→AV
 | .tmp t=>lkv s.tmps t
 | .const v=>.ofValue v
 | .global _=>.dead
 | .func f=>.fn (.func f) []
def evT(tm:List (Nat×AV)):Operand→AV
 | .tmp t=>lkv tm t
 | .const v=>.ofValue v
 | .global _=>.dead
 | .func f=>.fn (.func f) []
def Zc4{tm:List (Nat×AV)}{a:Act}(h:∀t,VR E (lkv tm t) (a.tmps.getD t undef))(x:Operand):VR E (evT tm x) (a.eval x):=by
 cases x with
 |tmp t=>exact h t
 |const v=>exact ZgG E v
 |global g=>exact .dead _
 |func f=>exact VR.fn _ [] [] rfl (fun i h=>absurd h (Qm _))
def ZmA{k:List Itm}{c:Operand}{x y:Code}{t:Bool}(hc:evT s.tmps c= .bool t)
  (ht:t=true→AK P φ n N (.code x::k) Q s) (hf:t=false→AK P φ n N (.code y::k) Q s):AK P φ n N (.code (.cond c x y)::k) Q s:=fun E w a hs=>by
 have hv:=Zc4 hs.tmps c;rw[hc]at hv;cases hb:a.eval c<;>rw[hb]at hv<;>cases hv;exact wpIn_cond_split hb (fun h=>ht h E w a hs) (fun h=>hf h E w a hs)
def AWk(n N:Nat)(s s':Zb):Prop:=∀B E w a,Yp B n N s E a w→ ∃E',Yp B n N s' E' a w∧Ext n E w E' w
def ZqL{s':Zb}
  (hw:AWk n N s s') (h:AC P φ n N c Q s'):AC P φ n N c Q s:=fun E w a hs=>by
 obtain⟨E',hs',hx⟩:=hw _ E w a hs;exact AC.run h hs' hx
end
def XE(P:Program)(m:Nat)(o:Oper)(ρ:Operand→AV)(H:Za)(v:AV)(H':Za):Prop:=
 ∀E w (a:Act) (Q:Exit→Act→World→Prop) (K:Act→World→Prop),Zq m H E w→(∀x∈o.op.operands,VR E (ρ x) (a.eval x))→
  (∀E' w' cv,VR E' v cv→Zq m H' E' w'→Ext m E w E' w'→K (a.put o.dst cv) w')→ ∀ro,o.wpIn (fr ro) 0 P a w K Q
def Yq(ops:List Oper)(tm:List (Nat×AV))(o:Oper):Option Bool:=
 match o.guard with
 |none=>some true
 |some (j,want)=>match (ops[j]?).bind (·.dst)with
  |none=>some false
  |some d=>match lkv tm d with
   | .bool b=>some (b==want)
   | .tup []=>some false
   |_=>none
def Yl(tm:List (Nat×AV))(d:Option Nat)(v:AV):List (Nat×AV):=
 match d with
 |none=>tm
 |some d=>(d,v)::tm
def JD(tm:List (Nat×AV))(d:Option Nat)(v:AV)(t:Nat):lkv (Yl tm d v) t=if d=some t then v else lkv tm t:=by
 cases d with
 |none=>simp[Yl]
 |some d=>simp only[Yl,lkv,Qr]
section
variable {cv:Value} {d:Option Nat} {a:Act}
def VW{N t:Nat}(hs:a.tmps.size=N)(hd:∀x,d=some x→x<N):
  (a.put d cv).tmps.getD t undef=if d=some t then cv else a.tmps.getD t undef:=by
 cases d with
 |none=>simp[Act.put]
 |some d=>
  have hlt:=hd d rfl;simp only[Act.put,Qr,QF];by_cases h:d=t
  ·subst h;simp[hs,hlt]
  ·simp[h,UG h]
def size_put:(a.put d cv).tmps.size=a.tmps.size:=by
 cases d<;>simp[Act.put]
def X3:(a.put d cv).defers=a.defers:=by
 cases d<;>rfl
variable {tm:List (Nat×AV)}
def Xb{E:Env}{ops:Array Oper}{o:Oper}{g:Bool}
  (hv:∀j w d,o.guard=some (j,w)→(ops[j]?).bind (·.dst)=some d→VR E (lkv tm d) (a.tmps.getD d undef)) (hg:Yq ops.toList tm o=some g):
  Region.wanted o (yielded ops a.tmps)=g:=by
 unfold Yq at hg;unfold Region.wanted;cases hgd:o.guard with
 |none=>simp only[hgd,Qr]at hg;simpa using hg
 |some jw=>
  obtain⟨j,want⟩:=jw;simp only[hgd,UM]at hg;simp only[yielded];cases hd:(ops[j]?).bind (·.dst)with
  |none=>simp only[hd,Qr]at hg;subst hg;simp
  |some d=>
   simp only[hd]at hg;have h1:=hv j want d hgd hd;simp only[UH];rw[QF]at h1;cases hx:a.tmps[d]? with
   |none=>
    rw[hx]at h1;simp only[Qbi,undef]at h1;split at hg
    ·rename_i b hb;rw[hb]at h1;cases h1
    ·simp only[Qr]at hg;subst hg;simp
    ·cases hg
   |some x=>
    rw[hx]at h1;simp only[Uk]at h1;split at hg
    ·rename_i b hb;rw[hb]at h1;cases h1;simp only[Qr]at hg;subst hg;cases b<;>cases want<;>rfl
    ·rename_i hb;rw[hb]at h1;simp only[Qr]at hg;subst hg;cases h1 with
     |tup _ vs hl _=>
      have:vs=[]:=by simpa using hl
      subst this;rfl
    ·cases hg
def VQ(E:Env):VR E (.tup []) undef:=VR.tup [] [] rfl (fun i h=>absurd h (Qm _))
inductive Kd where
 |p|t|w
 |a (d:Nat)
 |b (l d:Nat)
 deriving DecidableEq
def Kd.touches(n:Nat):Kd→Nat→Nat→Bool
 | .w,_,_=>true
 | .a d,l,s=>l==n&&s==d
 | .b l' d,l,s=>l==l'&&s==d
 |_,_,_=>false
def Jz(n:Nat)(A:Nat→Bool)(G H:Za):Prop:=∀l s,(l=n→A s=false)→G l s=H l s
def Kd.sem(P:Program)(m n:Nat)(A:Nat→Bool)(o:Oper)(ρ:Operand→AV)(H:Za)(v:AV)(H':Za):Kd→Prop
 | .p=>(∀G,XE P m o ρ G v G)∧H'=H
 | .t=>(∀G,Jz n A G H→XE P m o ρ G v G)∧H'=H
 | .w=>XE P m o ρ H v H'
 | .a d=>∃b,(∀G,G n d=H n d→XE P m o ρ G v (G.upd n d b))∧H'=H.upd n d b
 | .b l d=>∃b,(∀G,G l d=H l d→XE P m o ρ G v (G.upd l d b))∧H'=H.upd l d b
def Zeu(len:Nat)(kd:Nat→Kd)(s:Nat):Bool:=(List.range len).any fun i=>kd i== .a s
inductive J5 (P:Program) (m n:Nat) (A:Nat→Bool) (all:List Oper) (kd:Nat→Kd):Nat→List Oper→List (Nat×AV)→Za→List (Nat×AV)→Za→Prop
 |nil (i:Nat) (tm:List (Nat×AV)) (H:Za):J5 P m n A all kd i [] tm H tm H
 |run (i:Nat) (o:Oper) (r:List Oper) (tm tm':List (Nat×AV)) (H H1 H':Za) (v:AV) (hg:Yq all tm o=some true) (h:(kd i).sem P m n A o (evT tm) H v H1)
   (hr:J5 P m n A all kd (i+1) r (Yl tm o.dst v) H1 tm' H'):J5 P m n A all kd i (o::r) tm H tm' H'
 |pass (i:Nat) (o:Oper) (r:List Oper) (tm tm':List (Nat×AV)) (H H':Za) (hg:Yq all tm o=some false)
   (hr:J5 P m n A all kd (i+1) r (Yl tm o.dst (.tup [])) H tm' H'):J5 P m n A all kd i (o::r) tm H tm' H'
structure Zfr (P:Program) (m n:Nat) (A:Nat→Bool) (all:List Oper) (kd:Nat→Kd) (tm:Nat→List (Nat×AV)) (H:Nat→Za) (val:Nat→AV) (i0:Nat) (l:List Oper):Prop where
 step:∀j o,l[j]? =some o→tm (j+1)=Yl (tm j) o.dst (val j)∧
  ((Yq all (tm j) o=some true∧(kd (i0+j)).sem P m n A o (evT (tm j)) (H j) (val j) (H (j+1)))∨
   (Yq all (tm j) o=some false∧val j= .tup []∧H (j+1)=H j))
variable {kd:Nat→Kd} {n:Nat}
def J5.course{P:Program}{m:Nat}{A:Nat→Bool}{all:List Oper}{i:Nat}{l:List Oper}{tm':List (Nat×AV)}{H H':Za}
  (h:J5 P m n A all kd i l tm H tm' H'):∃T G V,T 0=tm∧G 0=H∧T l.length=tm'∧G l.length=H'∧Zfr P m n A all kd T G V i l:=by
 induction h with
 |nil i tm H=>exact⟨fun _=>tm,fun _=>H,fun _=>.dead,rfl,rfl,rfl,rfl,⟨fun j o h=>by simp at h⟩⟩
 |run i o r tm tm' H H1 H' v hg h _ ih=>
  obtain⟨T,G,V,t0,g0,t1,g1,hc⟩:=ih;refine⟨fun j=>match j with|0=>tm|j+1=>T j,fun j=>match j with|0=>H|j+1=>G j,fun j=>match j with|0=>v|j+1=>V j,rfl,rfl,t1,g1,⟨?_⟩⟩;intro j o' hj;cases j with
  |zero=>
   simp only[Gs,Qr]at hj;subst hj;exact⟨t0,.inl ⟨hg,by simp only[g0];exact h⟩⟩
  |succ j=>
   simp only[UO]at hj;have:=hc.step j o' hj;rw[show i+1+j=i+(j+1) by omega]at this;exact this
 |pass i o r tm tm' H H' hg _ ih=>
  obtain⟨T,G,V,t0,g0,t1,g1,hc⟩:=ih;refine⟨fun j=>match j with|0=>tm|j+1=>T j,fun j=>match j with|0=>H|j+1=>G j,fun j=>match j with|0=>.tup []|j+1=>V j,rfl,rfl,t1,g1,⟨?_⟩⟩;intro j o' hj;cases j with
  |zero=>
   simp only[Gs,Qr]at hj;subst hj;exact⟨t0,.inr ⟨hg,rfl,g0⟩⟩
  |succ j=>
   simp only[UO]at hj;have:=hc.step j o' hj;rw[show i+1+j=i+(j+1) by omega]at this;exact this
def Zic(o:Oper)(acc:List Nat):Nat:=
 o.after.toList.foldl (fun m e=>if Region.binds .any e then(m|||(2^e.on))|||(acc.getD e.on 0)else m) 0
def ancL:List Oper→List Nat→List Nat
 |[],acc=>acc
 |o::r,acc=>ancL r (acc++[Zic o acc])
def Closed(ops:List Oper)(D:Nat→Prop):Prop:=∀i o,ops[i]? =some o→D i→ ∀e∈o.after.toList,Region.binds .any e=true→D e.on
variable {D:Nat→Prop}
def ZiI{o:Oper}{acc:List Nat}(hacc:∀i,D i→ ∀j,(acc.getD i 0).testBit j=true→D j)
  (ho:∀e∈o.after.toList,Region.binds .any e=true→D e.on) (j:Nat) (hj:(Zic o acc).testBit j=true):D j:=by
 have key:∀(l:List Edge) (m:Nat),(∀j,m.testBit j=true→D j)→(∀e∈l,Region.binds .any e=true→D e.on)→
   ∀j,(l.foldl (fun m e=>if Region.binds .any e then(m|||(2^e.on))|||(acc.getD e.on 0)else m) m).testBit j=true→D j:=by
  intro l;induction l with
  |nil=>intro m hm _ j hj;exact hm j hj
  |cons e l ih=>
   intro m hm hl j hj;simp only[Uu]at hj;refine ih _ ?_ (fun e' he'=>hl e' (Qy _ he')) j hj;intro j hj;split at hj
   ·rename_i hb;have hd:=hl e sm hb;simp only[Nat.testBit_or,Gt]at hj;rcases hj with(h|h)|h
    ·exact hm j h
    ·rw[Nat.testBit_two_pow]at h;have:e.on=j:=by simpa using h
     exact this▸hd
    ·exact hacc _ hd j h
   ·exact hm j hj
 exact key _ 0 (fun j h=>by simp at h) ho j hj
variable {ops:List Oper}
def ZgA(hD:Closed ops D):∀(r:List Oper) (acc:List Nat),ops.drop acc.length=r→
  (∀i,D i→ ∀j,(acc.getD i 0).testBit j=true→D j)→ ∀i,D i→ ∀j,((ancL r acc).getD i 0).testBit j=true→D j:=by
 intro r;induction r with
 |nil=>intro acc _ h;exact h
 |cons o r ih=>
  intro acc hr h;refine ih (acc++[Zic o acc]) (by rw[Qd,←UK,hr];rfl) ?_;intro i hi j hj;rcases Nat.lt_trichotomy i acc.length with hlt|heq|hgt
  ·rw[Qp,Uw hlt,←Qp]at hj;exact h i hi j hj
  ·subst heq;rw[Qp,MX (Qe _)]at hj;simp at hj;have ho:ops[acc.length]? =some o:=by
    have:=congrArg (·[0]?) hr;simpa[UE]using this
   exact ZiI h (fun e he hb=>hD _ _ ho hi e he hb) j hj
  ·rw[Qp,Ur (by simp;omega)]at hj;simp at hj
def looks(ops:List Oper)(o:Oper):List Nat:=
 (o.op.operands.toList.filterMap fun| .tmp t=>some t|_=>none)++(match o.guard with|some (g,_)=>((ops[g]?).bind (·.dst)).toList|none=>[])
def Kd.clash:Kd→Kd→Bool
 | .w,.p=>false
 | .w,_=>true
 | .p,.w=>false
 |_,.w=>true
 | .a d,.a d'=>d==d'
 | .b _ d,.b _ d'=>d==d'
 | .a d,.b _ d'=>d==d'
 | .b _ d,.a d'=>d==d'
 | .b _ _,.t=>true
 | .t,.b _ _=>true
 |_,_=>false
def clash(ops:List Oper)(kd:Nat→Kd)(i j:Nat)(x y:Oper):Bool:=
 (match x.dst with|some d=>(looks ops y).contains d||y.dst==some d|none=>false)||
 (match y.dst with|some d=>(looks ops x).contains d|none=>false)||
 (kd i).clash (kd j)
def Xe{i j:Nat}{x y:Oper}(h:(kd i).clash (kd j)=true):clash ops kd i j x y=true:=by
 unfold clash;rw[h];simp
variable {κ:Kd}
def Kd.ZiV(h:κ≠ .p):Kd.clash .w κ=true∧Kd.clash κ .w=true:=by
 cases κ<;>first|exact absurd rfl h|exact⟨rfl,rfl⟩
def Kd.Zr7{l s:Nat}(h:κ.touches n l s=true):κ≠ .p:=by
 intro e;subst e;cases h
theorem Kd.VL{κ':Kd}{l s:Nat}(h:κ.touches n l s=true)(h':κ'.touches n l s=true):κ.clash κ'=true:=by
 cases κ with
 |p=>cases h
 |t=>cases h
 |w=>exact(Kd.ZiV (Kd.Zr7 h')).1
 |a d=>cases κ' with
  |p=>cases h'
  |t=>cases h'
  |w=>rfl
  |a d'=>
   simp only[Kd.touches,Qh,beq_iff_eq]at h h';simp[Kd.clash,←h.2,←h'.2]
  |b l' d'=>
   simp only[Kd.touches,Qh,beq_iff_eq]at h h';simp[Kd.clash,←h.2,←h'.2]
 |b l0 d=>cases κ' with
  |p=>cases h'
  |t=>cases h'
  |w=>rfl
  |a d'=>
   simp only[Kd.touches,Qh,beq_iff_eq]at h h';simp[Kd.clash,←h.2,←h'.2]
  |b l' d'=>
   simp only[Kd.touches,Qh,beq_iff_eq]at h h';simp[Kd.clash,←h.2,←h'.2]
def ZpT{β:Type}(x:Nat)(f:Nat→β):β:=match x with
 |0=>f 0
 |n+1=>f (n+1)
def Znx{β:Type}(x:Nat)(f:Nat→β):ZpT x f=f x:=by cases x<;>rfl
def ancK:List Oper→List Nat→(List Nat→Bool)→Bool
 |[],acc,k=>k acc
 |o::r,acc,k=>ZpT (Zic o acc) fun m=>ancK r (acc++[m]) k
theorem ancK_eq:∀(ops:List Oper) (acc:List Nat) (k:List Nat→Bool),ancK ops acc k=k (ancL ops acc)
 |[],acc,k=>rfl
 |o::r,acc,k=>by rw[ancK,Znx,ancK_eq r,ancL]
def VE(ops:List Oper)(kd:Nat→Kd):Bool:=
 ancK ops [] fun ms=>ops.zipIdx.all fun(y,j)=>y.after.toList.all (fun e=>!Region.binds .any e||e.on<j)&&
  ops.zipIdx.all fun(x,i)=>!(i<j)|| !clash ops kd i j x y||(ms.getD j 0).testBit i
structure Ordered (ops:List Oper) (kd:Nat→Kd):Prop where
 back:∀j y,ops[j]? =some y→ ∀e∈y.after.toList,Region.binds .any e=true→e.on<j
 cmp:∀i j x y,i<j→ops[i]? =some x→ops[j]? =some y→clash ops kd i j x y=true→ ∀D,Closed ops D→D j→D i
def Zcs(h:VE ops kd=true):Ordered ops kd:=by
 simp only[VE,ancK_eq,QA,Qh]at h;have hz:∀j y,ops[j]? =some y→(y,j)∈ops.zipIdx:=fun j y hy=>by
  rw[Qac];exact hy
 constructor
 ·intro j y hy e he hb;have:=(h (y,j) (hz j y hy)).1 e he;simpa[hb]using this
 ·intro i j x y hij hx hy hc D hD hDj;have:=(h (y,j) (hz j y hy)).2 (x,i) (hz i x hx);simp only[hc,hij,decide_true,Qbc,MR]at this;exact ZgA hD ops [] rfl (fun i _ j hj=>by simp at hj) j hDj i this
end
def Zc7(ops:List Oper)(k:Nat):Option Nat:=(ops[k]?).bind (·.dst)
def va(ops:List Oper)(t0:Nat→AV)(V:Nat→AV)(L:Nat→Bool):Nat→Nat→AV
 |0,t=>t0 t
 |k+1,t=>if L k=true∧Zc7 ops k=some t then V k else va ops t0 V L k t
def hv(n:Nat)(kd:Nat→Kd)(G:Nat→Za)(L:Nat→Bool):Nat→Za
 |0=>G 0
 |k+1=>fun l s=>if L k=true∧(kd k).touches n l s=true then G (k+1) l s else hv n kd G L k l s
theorem Zcb(n:Nat)(kd:Nat→Kd)(G:Nat→Za)(L:Nat→Bool)(k l s:Nat):
  hv n kd G L (k+1) l s=if L k=true∧(kd k).touches n l s=true then G (k+1) l s else hv n kd G L k l s:=rfl
section
variable {P:Program} {m nl:Nat} {A:Nat→Bool} {ops:List Oper} {kd:Nat→Kd} {T:Nat→List (Nat×AV)} {G:Nat→Za} {V:Nat→AV}
def Zh8{l0 post:List Oper}(hp:ops=l0++post)(hc:Zfr P m nl A ops kd T G V 0 l0){L:Nat→Bool}{t:Nat}:∀{i:Nat},i≤l0.length→(∀k,k<i→Zc7 ops k=some t→L k=true)→
  va ops (lkv (T 0)) V L i t=lkv (T i) t:=by
 intro i;induction i with
 |zero=>intro _ _;rfl
 |succ i ih=>
  intro hi h;have ho:l0[i]? =some l0[i]:=Qb om;have ho':ops[i]? =some l0[i]:=by rw[hp,Uw om];exact ho
  rw[(hc.step i _ ho).1,JD,va,ih om (fun k hk=>h k om)];have hd:Zc7 ops i=l0[i].dst:=by simp[Zc7,ho']
  by_cases hx:l0[i].dst=some t
  ·rw[if_pos ⟨h i om (hd.trans hx),hd.trans hx⟩,if_pos hx]
  ·rw[if_neg (fun c=>hx (hd▸c.2)),if_neg hx]
def ZiG{L:Nat→Bool}{t i:Nat}{t0:Nat→AV}:∀{n:Nat},i≤n→(∀k,i≤k→k<n→Zc7 ops k=some t→L k=false)→
  va ops t0 V L n t=va ops t0 V L i t:=by
 intro n;induction n with
 |zero=>
  intro hi _;have:i=0:=om;subst this;rfl
 |succ n ih=>
  intro hi h;rcases Qj n i with hlt|hge
  ·have:i=n+1:=om;subst this;rfl
  ·rw[va,if_neg,ih hge (fun k h1 h2=>h k h1 om)];rintro⟨h1,h2⟩;rw[h n hge om h2]at h1;cases h1
def Zpf{L L':Nat→Bool}{t:Nat}{t0:Nat→AV}:∀{n:Nat},(∀k,k<n→Zc7 ops k=some t→L k=L' k)→va ops t0 V L n t=va ops t0 V L' n t:=by
 intro n;induction n with
 |zero=>intro _;rfl
 |succ n ih=>
  intro h;simp only[va];rw[ih (fun k hk=>h k om)];by_cases hd:Zc7 ops n=some t
  ·rw[h n om hd]
  ·simp[hd]
def Zq9{o:Oper}{ρ:Operand→AV}{H H':Za}{v:AV}{κ:Kd}(h:κ.sem P m nl A o ρ H v H'){l s:Nat}(ht:κ.touches nl l s=false):H' l s=H l s:=by
 cases κ with
 |p=>exact congrFun (congrFun h.2 l) s
 |t=>exact congrFun (congrFun h.2 l) s
 |w=>cases ht
 |a d=>
  obtain⟨b,_,rfl⟩:=h;simp only[Za.upd];rw[if_neg];rintro⟨rfl,rfl⟩;simp[Kd.touches]at ht
 |b l0 d=>
  obtain⟨b,_,rfl⟩:=h;simp only[Za.upd];rw[if_neg];rintro⟨rfl,rfl⟩;simp[Kd.touches]at ht
def Zh2{l0:List Oper}(hc:Zfr P m nl A ops kd T G V 0 l0){L:Nat→Bool}{l s:Nat}:∀{i:Nat},i≤l0.length→(∀k,k<i→(kd k).touches nl l s=true→L k=true)→hv nl kd G L i l s=G i l s:=by
 intro i;induction i with
 |zero=>intro _ _;rfl
 |succ i ih=>
  intro hi h;have ho:l0[i]? =some l0[i]:=Qb om;have hs:=(hc.step i _ ho).2;rw[Zcb,ih om (fun k hk=>h k om)];by_cases hw:(kd i).touches nl l s=true
  ·rw[if_pos ⟨h i om hw,hw⟩]
  ·rw[if_neg (fun c=>hw c.2)];rcases hs with⟨_,hs⟩|⟨_,_,hs⟩
   ·rw[QG]at hs;exact(Zq9 hs (by simpa using hw)).symm
   ·exact(congrFun (congrFun hs l) s).symm
def Ziw{L:Nat→Bool}{i l s:Nat}:∀{n:Nat},i≤n→(∀k,i≤k→k<n→(kd k).touches nl l s=true→L k=false)→hv nl kd G L n l s=hv nl kd G L i l s:=by
 intro n;induction n with
 |zero=>
  intro hi _;have:i=0:=om;subst this;rfl
 |succ n ih=>
  intro hi h;rcases Qj n i with hlt|hge
  ·have:i=n+1:=om;subst this;rfl
  ·rw[Zcb,if_neg,ih hge (fun k h1 h2=>h k h1 om)];rintro⟨h1,h2⟩;rw[h n hge om h2]at h1;cases h1
def Zo6{L L':Nat→Bool}{l s:Nat}:∀{n:Nat},(∀k,k<n→(kd k).touches nl l s=true→L k=L' k)→hv nl kd G L n l s=hv nl kd G L' n l s:=by
 intro n;induction n with
 |zero=>intro _;rfl
 |succ n ih=>
  intro h;simp only[Zcb];rw[ih (fun k hk=>h k om)];by_cases hd:(kd n).touches nl l s=true
  ·rw[h n om hd]
  ·simp[hd]
end
def unl(l:Array Bool):Nat:=l.toList.countP (· ==false)
section
variable {l:Array Bool}
def Zqv{i:Nat}(h:i<l.size)(hf:l.getD i true=false):unl (l.setIfInBounds i true)+1=unl l:=by
 have hx:l.toList[i]'(by simpa using h)=false:=by simpa[QF,h]using hf
 unfold unl;rw[QaU];have key:∀(l:List Bool) (i:Nat) (h:i<l.length),l[i]=false→(l.set i true).countP (· ==false)+1=l.countP (· ==false):=by
  intro l;induction l with
  |nil=>intro i h;simp at h
  |cons a l ih=>
   intro i h hx;cases i with
   |zero=>
    have ha:a=false:=by simpa using hx
    subst ha;rw[UR,QaA,QaA];rfl
   |succ i=>
    have:=ih i (by simpa using h) (by simpa using hx);rw[Mc,QaA,QaA];omega
 exact key _ _ _ hx
def Zj1(h:unl l=0)(i:Nat)(hi:i<l.size):l.getD i true=true:=by
 unfold unl at h;rw[List.countP_eq_zero]at h;have:=h (l.toList[i]'(by simpa using hi)) (Qa _);simpa[QF,hi]using this
variable {V:Nat→AV} {G:Nat→Za} {T:Nat→List (Nat×AV)} {kd:Nat→Kd} {Q:Exit→Act→World→Prop} {ops:Array Oper}
theorem Zcm{P:Program}(ro:Option Nat)(ds:List Deferred){m nl N:Nat}{l0 post:List Oper}(hp:ops.toList=l0++post)
  (hd:∀o∈ops.toList,∀x,o.dst=some x→x<N) (hc:Zfr P m nl (Zeu ops.toList.length kd) ops.toList kd T G V 0 l0) (hO:Ordered ops.toList kd) (E0:Env) (w0:World)
  (hpv:post≠[]→ ∀i,i<ops.size→ ∀D,Closed ops.toList D→(i<l0.length→D l0.length→D i)∧(l0.length<i→D i→D l0.length))
  (hX:∀o,ops[l0.length]? =some o→ ∀E' w' a' K,a'.tmps.size=N→a'.defers=ds→(∀t,VR E' (lkv (T l0.length) t) (a'.tmps.getD t undef))→Zq m (G l0.length) E' w'→Ext m E0 w0 E' w'→wpOpIn (fr ro) 0 P ops Q l0.length K a' w')
  (hQ:post=[]→ ∀E' w' a',a'.tmps.size=N→a'.defers=ds→(∀t,VR E' (lkv (T ops.size) t) (a'.tmps.getD t undef))→Zq m (G ops.size) E' w'→Ext m E0 w0 E' w'→Q .normal a' w'):
  ∀(fuel:Nat) (listed:Array Bool) (E:Env) (w:World) (a:Act),unl listed≤fuel→listed.size=ops.size→Closed ops.toList (fun i=>listed.getD i false=true)→
   listed.getD l0.length false=false→a.tmps.size=N→a.defers=ds→(∀t,VR E (va ops.toList (lkv (T 0)) V (listed.getD · false) ops.size t) (a.tmps.getD t undef))→
   Zq m (hv nl kd G (listed.getD · false) ops.size) E w→Ext m E0 w0 E w→wpAnyIn (fr ro) 0 P .any ops Q fuel listed a w:=by
 have hpl:ops.size=l0.length+post.length:=by
  have:=congrArg List.length hp;simpa using this
 have hpn:post≠[]→l0.length<ops.size:=fun h=>by
  have:=GX.2 h;omega
 intro fuel;induction fuel with
 |zero=>
  intro listed E w a hu hsz hcl hlp h1 h2 h3 h4 h5;have hall:∀i,i<ops.size→listed.getD i false=true:=fun i hi=>by
   have:=Zj1 (Nat.le_zero.1 hu) i om;simpa[QF,hsz,hi]using this
  have hpe:post=[]:=Qa3 fun h=>by
   have:=hall _ (hpn h);rw[hlp]at this;cases this
  subst hpe;rw[Qs]at hp;have hp':ops.toList=l0++[]:=by rw[hp,Qs]
  rw[QC,Uz]at hpl;refine⟨?_,hQ rfl E w a h1 h2 (fun t=>?_) ?_ h5⟩
  ·simp only[Region.ready];rw[Qbm];intro i hi;have hi':i<ops.size:=by simpa using hi
   have:=Zj1 (Nat.le_zero.1 hu) i om;simp[this]
  ·have:=h3 t
   rwa [hpl,Zh8 hp' hc (Qe _) (fun k hk _=>hall k om),←hpl]at this
  ·rwa [show hv nl kd G (listed.getD · false) ops.size=G ops.size from funext fun l=>funext fun s=>by
    rw[hpl];exact Zh2 hc (Qe _) (fun k hk _=>hall k om)]at h4
 |succ fuel ih=>
  intro listed E w a hu hsz hcl hlp h1 h2 h3 h4 h5;refine⟨fun hnil=>?_,fun i hi=>?_⟩
  ·-- nothing is ready:all are done
   have hall:∀i,i<ops.size→listed.getD i false=true:=by
    intro i;induction i using Nat.strongRecOn with
    |_ i hi=>
     intro hlt;cases hli:listed.getD i false with
     |true=>rfl
     |false=>
      exfalso
      simp only[Region.ready]at hnil;rw[Qbm]at hnil;refine hnil i (by simpa using hlt) ?_;have ho:ops[i]? =some ops[i]:=Uy hlt;have hlt':listed.getD i true=false:=by simpa[QF,hsz,hlt]using hli
      simp only[hlt',Bool.not_false,UZ,ho,Un,Uk];rw[←Array.all_toList,QA];intro e he;cases hb:Region.binds .any e with
      |false=>rfl
      |true=>
       have hlt2:=hO.back i ops[i] (by rw[UM];exact ho) e he hb;simp[hi e.on hlt2 om]
   have hpe:post=[]:=Qa3 fun h=>by
    have:=hall _ (hpn h);rw[hlp]at this;cases this
   subst hpe;rw[Qs]at hp;have hp':ops.toList=l0++[]:=by rw[hp,Qs]
   rw[QC,Uz]at hpl;refine hQ rfl E w a h1 h2 (fun t=>?_) ?_ h5
   ·have:=h3 t
    rwa [hpl,Zh8 hp' hc (Qe _) (fun k hk _=>hall k om),←hpl]at this
   ·rwa [show hv nl kd G (listed.getD · false) ops.size=G ops.size from funext fun l=>funext fun s=>by
     rw[hpl];exact Zh2 hc (Qe _) (fun k hk _=>hall k om)]at h4
  ·-- one that is ready
   simp only[Region.ready,MB,MK,Qh,GU]at hi;obtain⟨hlt,hun,haft⟩:=hi;have ho:ops[i]? =some ops[i]:=Uy hlt;generalize hoi:ops[i]=o at ho;have hol:ops.toList[i]? =some o:=by rw[UM];exact ho
   have hmem:o∈ops.toList:=Gm hol;simp only[ho,Un,Uk]at haft;rw[←Array.all_toList,QA]at haft;have hLi:listed.getD i false=false:=by
    have:=hun;simpa[QF,hsz,hlt]using this
   have hcl':Closed ops.toList (fun j=>listed.getD j false=true∨j=i):=by
    intro j o' hj hjD e he hb;rcases hjD with hjD|rfl
    ·exact .inl (hcl j o' hj hjD e he hb)
    ·rw[hol]at hj;cases hj;have:=haft e he;simp only[hb,Qbc,MR]at this;exact .inl this
   rcases Nat.lt_trichotomy i l0.length with hi0|hi0|hi0
   rotate_left
   ·have hne:post≠[]:=fun h=>by rw[h,QC]at hpl;omega
    have hlo:∀k,k<l0.length→listed.getD k false=true:=fun k hk=>by
     rcases(hpv hne k om _ hcl').1 hk (.inr hi0.symm)with h|h
     ·exact h
     ·omega
    have hhi:∀k,l0.length≤k→k<ops.size→listed.getD k false=false:=fun k hk hks=>by
     rcases QaW hk with hk|rfl
     ·cases hlk:listed.getD k false with
      |false=>rfl
      |true=>exact absurd ((hpv hne k hks _ hcl).2 hk hlk) (by rw[hlp];simp)
     ·exact hlp
    subst hi0;refine hX o ho E w a _ h1 h2 (fun t=>?_) ?_ h5
    ·have:=h3 t
     rwa [ZiG (i:=l0.length) om (fun k hk hkn _=>hhi k hk hkn),Zh8 hp hc (Qe _) (fun k hk _=>hlo k hk)]at this
    ·rwa [show hv nl kd G (listed.getD · false) ops.size=G l0.length from funext fun l=>funext fun s=>by
      rw[Ziw (i:=l0.length) om (fun k hk hkn _=>hhi k hk hkn)];exact Zh2 hc (Qe _) (fun k hk _=>hlo k hk)]at h4
   ·have hne:post≠[]:=fun h=>by rw[h,QC]at hpl;omega
    rcases(hpv hne i hlt _ hcl').2 hi0 (.inr rfl)with h|h
    ·rw[hlp]at h;cases h
    ·omega
   have hol0:l0[i]? =some o:=by
    rw[hp,Uw hi0]at hol;exact hol
   have hbefore:∀j x,j<i→ops.toList[j]? =some x→clash ops.toList kd j i x o=true→listed.getD j false=true:=by
    intro j x hji hx hcl2;rcases hO.cmp j i x o hji hx hol hcl2 _ hcl' (.inr rfl)with h|h
    ·exact h
    ·omega
   have hafter:∀j y,i<j→ops.toList[j]? =some y→clash ops.toList kd i j o y=true→listed.getD j false=false:=by
    intro j y hij hy hcl2;cases hlj:listed.getD j false with
    |false=>rfl
    |true=>
     have:=hO.cmp i j o y hij hol hy hcl2 _ hcl hlj;rw[hLi]at this;cases this
   have hlen:ops.toList.length=ops.size:=by simp
   have hlook:∀t,t∈looks ops.toList o→va ops.toList (lkv (T 0)) V (listed.getD · false) ops.size t=lkv (T i) t:=by
    intro t ht;rw[ZiG (i:=i) om,Zh8 hp hc om]
    ·intro k hk hdk;obtain⟨x,hx,hxd⟩:=UN.1 hdk;refine hbefore k x hk hx ?_;simp[clash,hxd,ht]
    ·intro k hk hkn hdk;obtain⟨x,hx,hxd⟩:=UN.1 hdk;rcases QaW hk with hk|rfl
     ·refine hafter k x hk hx ?_;simp[clash,hxd,ht]
     ·exact hLi
   have hslot:∀l s,(∀k x,ops.toList[k]? =some x→k≠i→(kd k).touches nl l s=true→clash ops.toList kd k i x o=true∧clash ops.toList kd i k o x=true)→hv nl kd G (listed.getD · false) ops.size l s=G i l s:=by
    intro l s hcl3;rw[Ziw (i:=i) om,Zh2 hc om]
    ·intro k hk hkw;have hx:ops.toList[k]? =some ops.toList[k]:=Qb om;exact hbefore k _ hk hx (hcl3 k _ hx om hkw).1
    ·intro k hk hkn hkw;rcases QaW hk with hk|rfl
     ·have hx:ops.toList[k]? =some ops.toList[k]:=Qb om;exact hafter k _ hk hx (hcl3 k _ hx om hkw).2
     ·exact hLi
   have hoff:kd i= .t→Jz nl (Zeu ops.toList.length kd) (hv nl kd G (listed.getD · false) ops.size) (G i):=by
    intro hp l s hA;refine hslot l s (fun k x hx hki hkt=>?_);cases hkk:kd k with
    |p=>rw[hkk]at hkt;cases hkt
    |t=>rw[hkk]at hkt;cases hkt
    |w=>exact⟨Xe (by rw[hkk,hp];rfl),Xe (by rw[hkk,hp];rfl)⟩
    |b l0 d=>exact⟨Xe (by rw[hkk,hp];rfl),Xe (by rw[hkk,hp];rfl)⟩
    |a d=>
     rw[hkk]at hkt;simp only[Kd.touches,Qh,beq_iff_eq]at hkt;have hlt2:k<ops.toList.length:=by
      rcases Qj k ops.toList.length with h|h
      ·exact h
      ·rw[Ur h]at hx;cases hx
     have:=hA hkt.1;simp only[Zeu,Qau,MK,beq_iff_eq]at this;exact absurd (by rw[hkk,hkt.2]) (this k hlt2)
   have hall2:kd i= .w→hv nl kd G (listed.getD · false) ops.size=G i:=by
    intro hw;funext l s;refine hslot l s (fun k x hx hki hkt=>?_);exact⟨Xe (by rw[hw];exact(Kd.ZiV (Kd.Zr7 hkt)).2),Xe (by rw[hw];exact(Kd.ZiV (Kd.Zr7 hkt)).1)⟩
   have hown:∀d,kd i= .a d→hv nl kd G (listed.getD · false) ops.size nl d=G i nl d:=by
    intro d hd';refine hslot nl d (fun k x hx hki hkt=>?_);have h0:(kd i).touches nl nl d=true:=by rw[hd'];simp[Kd.touches]
    exact⟨Xe (Kd.VL hkt h0),Xe (Kd.VL h0 hkt)⟩
   have hownb:∀l' d,kd i= .b l' d→hv nl kd G (listed.getD · false) ops.size l' d=G i l' d:=by
    intro l' d hd';refine hslot l' d (fun k x hx hki hkt=>?_);have h0:(kd i).touches nl l' d=true:=by rw[hd'];simp[Kd.touches]
    exact⟨Xe (Kd.VL hkt h0),Xe (Kd.VL h0 hkt)⟩
   have hset:∀k,(listed.setIfInBounds i true).getD k false=if k=i then true else listed.getD k false:=by
    intro k;rw[QF,QF];by_cases hk:i=k
    ·subst hk;simp[hsz,hlt]
    ·rw[UG hk,if_neg (fun e=>hk e.symm)]
   have hcl2:Closed ops.toList (fun j=>(listed.setIfInBounds i true).getD j false=true):=by
    intro j o' hj hjD e he hb;rw[hset]at hjD⊢;have:=hcl' j o' hj (by split at hjD<;>first|exact .inr ‹_›|exact .inl hjD) e he hb;split
    ·rfl
    ·rcases this with h|h
     ·exact h
     ·rename_i hne;exact absurd h hne
   have hu2:unl (listed.setIfInBounds i true)≤fuel:=by
    have:=Zqv (l:=listed) (i:=i) om hun;omega
   obtain⟨hT,hstep⟩:=hc.step i o hol0;rw[QG]at hstep
   have htm:∀t,va ops.toList (lkv (T 0)) V ((listed.setIfInBounds i true).getD · false) ops.size t=
     if o.dst=some t then V i else va ops.toList (lkv (T 0)) V (listed.getD · false) ops.size t:=by
    intro t;have hdi:Zc7 ops.toList i=o.dst:=by simp[Zc7,hol]
    by_cases hdt:o.dst=some t
    ·rw[if_pos hdt,ZiG (i:=i+1) om]
     ·rw[va,if_pos ⟨by rw[hset,if_pos rfl],hdi.trans hdt⟩]
     ·intro k hk hkn hdk;obtain⟨x,hx,hxd⟩:=UN.1 hdk;rw[hset,if_neg om];refine hafter k x om hx ?_;simp[clash,hdt,hxd]
    ·rw[if_neg hdt];refine Zpf (fun k _ hdk=>?_);rw[hset,if_neg];rintro rfl;exact hdt (hdi▸hdk)
   have hhp:hv nl kd G ((listed.setIfInBounds i true).getD · false) ops.size=fun l s=>if(kd i).touches nl l s=true then G (i+1) l s else hv nl kd G (listed.getD · false) ops.size l s:=by
    funext l s;by_cases hw:(kd i).touches nl l s=true
    ·rw[if_pos hw,Ziw (i:=i+1) om]
     ·rw[Zcb,if_pos ⟨by rw[hset,if_pos rfl],hw⟩]
     ·intro k hk hkn hkw;have hx:ops.toList[k]? =some ops.toList[k]:=Qb om;rw[hset,if_neg om];exact hafter k _ om hx (Xe (Kd.VL hw hkw))
    ·rw[if_neg hw];refine Zo6 (fun k _ hkw=>?_);rw[hset,if_neg];rintro rfl;exact hw hkw
   simp only[wpOpIn,ho];have hguard:∀j w d,o.guard=some (j,w)→(ops[j]?).bind (·.dst)=some d→VR E (lkv (T i) d) (a.tmps.getD d undef):=by
    intro j w' d hg hdj;have hin:d∈looks ops.toList o:=by
     simp only[looks,hg,UM,hdj,Qg];exact .inr sm
    rw[←hlook d hin];exact h3 d
   rcases hstep with⟨hg,hs⟩|⟨hg,hV,hGi⟩
   ·rw[Xb hguard hg];simp only[if_true];have hops:∀x∈o.op.operands,VR E (evT (T i) x) (a.eval x):=by
     intro x hx;cases x with
     |tmp t=>
      have hin:t∈looks ops.toList o:=by
       simp only[looks,Qg,Qar];exact .inl ⟨.tmp t,by simpa using hx,rfl⟩
      simp only[evT];rw[←hlook t hin];exact h3 t
     |const v=>exact ZgG E v
     |global g=>exact .dead _
     |func f=>exact VR.fn _ [] [] rfl (fun i h=>absurd h (Qm _))
    have fin:∀(H':Za),hv nl kd G ((listed.setIfInBounds i true).getD · false) ops.size=H'→ ∀E' w' cv,VR E' (V i) cv→Zq m H' E' w'→Ext m E w E' w'→
      wpAnyIn (fr ro) 0 P .any ops Q fuel (listed.setIfInBounds i true) (a.put o.dst cv) w':=by
     intro H' hH E' w' cv hcv hh hx;refine ih (listed.setIfInBounds i true) E' w' (a.put o.dst cv) hu2 (by simp[hsz]) hcl2 (by rw[hset,if_neg om];exact hlp) (by rw[size_put];exact h1) (by rw[X3];exact h2) ?_ (hH▸hh) (h5.trans hx);intro t;rw[htm,VW h1 (hd o hmem)];split
     ·exact hcv
     ·exact(h3 t).mono h4.norm hx.le
    cases hk:kd i with
    |p=>
     rw[hk]at hs;refine hs.1 _ E w a Q _ h4 hops (fin _ ?_) ro;rw[hhp,hk];funext l s;simp[Kd.touches]
    |t=>
     rw[hk]at hs;refine hs.1 _ (hoff hk) E w a Q _ h4 hops (fin _ ?_) ro;rw[hhp,hk];funext l s;simp[Kd.touches]
    |w=>
     rw[hk]at hs;rw[hall2 hk]at h4;refine hs E w a Q _ h4 hops (fin _ ?_) ro;rw[hhp,hk];funext l s;simp[Kd.touches]
    |a d=>
     rw[hk]at hs;obtain⟨b,hb1,hb3⟩:=hs;refine hb1 _ (hown d hk) E w a Q _ h4 hops (fin _ ?_) ro;rw[hhp,hk,hb3];funext l s;simp only[Kd.touches,Za.upd,Qh,beq_iff_eq];by_cases hc':l=nl∧s=d
     ·simp[hc']
     ·simp[hc']
    |b l0 d=>
     rw[hk]at hs;obtain⟨b,hb1,hb3⟩:=hs;refine hb1 _ (hownb l0 d hk) E w a Q _ h4 hops (fin _ ?_) ro;rw[hhp,hk,hb3];funext l s;simp only[Kd.touches,Za.upd,Qh,beq_iff_eq];by_cases hc':l=l0∧s=d
     ·simp[hc']
     ·simp[hc']
   ·rw[Xb hguard hg];simp only[QS,if_false];refine⟨fun _ _=>trivial,?_⟩;refine ih (listed.setIfInBounds i true) E w (a.put o.dst undef) hu2 (by simp[hsz]) hcl2 (by rw[hset,if_neg om];exact hlp) (by rw[size_put];exact h1) (by rw[X3];exact h2) ?_ ?_ h5
    ·intro t;rw[htm,VW h1 (hd o hmem)];split
     ·rw[hV];exact VQ E
     ·exact h3 t
    ·have:hv nl kd G ((listed.setIfInBounds i true).getD · false) ops.size=hv nl kd G (listed.getD · false) ops.size:=by
      rw[hhp];funext l s;split
      ·rename_i hw;rw[hGi];cases hk:kd i with
       |p=>rw[hk]at hw;cases hw
       |t=>rw[hk]at hw;cases hw
       |w=>rw[hall2 hk]
       |a d=>
        rw[hk]at hw;simp only[Kd.touches,Qh,beq_iff_eq]at hw;obtain⟨rfl,rfl⟩:=hw;exact(hown _ hk).symm
       |b l0 d=>
        rw[hk]at hw;simp only[Kd.touches,Qh,beq_iff_eq]at hw;obtain⟨rfl,rfl⟩:=hw;exact(hownb _ _ hk).symm
      ·rfl
     rw[this];exact h4
def Zh3{P:Program}(ro:Option Nat)(ds:List Deferred){m nl N:Nat} 
  (hd:∀o∈ops.toList,∀x,o.dst=some x→x<N) (hc:Zfr P m nl (Zeu ops.toList.length kd) ops.toList kd T G V 0 ops.toList) (hO:Ordered ops.toList kd) (E0:Env) (w0:World)
  (hQ:∀E' w' a',a'.tmps.size=N→a'.defers=ds→(∀t,VR E' (lkv (T ops.size) t) (a'.tmps.getD t undef))→Zq m (G ops.size) E' w'→Ext m E0 w0 E' w'→Q .normal a' w'):
  ∀(fuel:Nat) (listed:Array Bool) (E:Env) (w:World) (a:Act),unl listed≤fuel→listed.size=ops.size→Closed ops.toList (fun i=>listed.getD i false=true)→
   a.tmps.size=N→a.defers=ds→(∀t,VR E (va ops.toList (lkv (T 0)) V (listed.getD · false) ops.size t) (a.tmps.getD t undef))→
   Zq m (hv nl kd G (listed.getD · false) ops.size) E w→Ext m E0 w0 E w→wpAnyIn (fr ro) 0 P .any ops Q fuel listed a w:=fun fuel listed E w a hu hsz hcl=>
 Zcm ro ds (l0:=ops.toList) (post:=[]) (Qs _).symm hd hc hO E0 w0 (fun h=>absurd rfl h) (fun o ho=>by simp at ho) (fun _=>hQ) fuel listed E w a hu hsz hcl (by
  rw[QF,G8 (by simp[hsz])];rfl)
def Env.ZaS(n:Nat)(E:Env)(w:World):Ext n E w E {w with drawn:=w.drawn+1}:=
 ⟨.refl n E,rfl,rfl,rfl,fun _=>Uj _,Qe _,fun _ _ _=>rfl,fun _ _ h=>h⟩
def Zq.drew{n:Nat}{H:Za}{E:Env}{w:World}(h:Zq n H E w):Zq n H E {w with drawn:=w.drawn+1}:=
 {norm:=h.norm,F:=h.F,blk:=fun l k b hl hb=>(h.blk l k b hl hb).keep rfl rfl (fun _=>rfl) (fun _ _ _ h=>h) (fun _ _=>rfl) (fun _ _ _ h=>h) (fun _ _ _ h=>h),dom:=h.dom,nobuf:=h.nobuf,inj:=h.inj,injg:=h.injg,mg:=h.mg,mF:=h.mF,lt:=h.lt}
end
inductive TD where
 |int (k:IntKind)
 |bool
 |str
 |ptr
 |slice (e:TypeId)
 |array (n:Nat) (e:TypeId)
 |map (k e:TypeId)
 |struct (fs:List (Nat×TypeId))
 |func
 |tuple
 |iface
 deriving DecidableEq
def TD.fits:TD→TypeDesc→Bool
 | .int k,.int k'=>k==k'
 | .bool,.bool=>true
 | .str,.string=>true
 | .ptr,.pointer _=>true
 | .slice e,.slice e'=>e==e'
 | .array n e,.array n' e'=>n==n'&&e==e'
 | .map k e,.map k' e'=>k==k'&&e==e'
 | .struct fs, .struct gs => gs.toList.map (fun g => (g.offset, g.type)) == fs && gs.toList.all (fun g => g.name != "_")
 | .func,.func ..=>true
 | .tuple,.tuple _=>true
 | .iface,.interface _=>true
 |_,_=>false
structure Zu where
 td:TD
 size:Nat
 bytes:Nat
 zero:List AV
def Zu.isAgg(r:Zu):Bool:=match r.td with| .struct _| .array _ _=>true|_=>false
def fitsConst:AV→Value→Bool
 | .int k n,.int k' n'=>k==k'&&n==n'
 | .bool b,.bool b'=>b==b'
 | .str l,.string s=>l==s.data.toList
 | .nilp,.pointer none=>true
 | .sl _ [] .full,.slice none 0 0=>true
 | .nilf,.nilFunc=>true
 | .nilm,.map none=>true
 | .nili,.nilIface=>true
 |_,_=>false
def ZiZ{E:Env}{a:AV}{v:Value}(h:fitsConst a v=true):VR E a v:=by
 unfold fitsConst at h;split at h<;>try(cases h;done)
 ·simp only[Qh,beq_iff_eq]at h;obtain⟨rfl,rfl⟩:=h;exact .int _ _
 ·simp only[beq_iff_eq]at h;subst h;exact .bool _
 ·rename_i l s;simp only[beq_iff_eq]at h;subst h;have:s=⟨s.data.toList.toArray⟩:=sm;rw[this];exact .str _
 ·exact .nilp
 ·exact .slnil _ _ none rfl (fun _=>rfl)
 ·exact .nilf
 ·exact .nilm
 ·exact .nili
def Zg0{a:AV}{v:Value}(h:fitsConst a v=true):a.one=true:=by
 unfold fitsConst at h;split at h<;>first|rfl|(cases h;done)
def fitsAll:List AV→List Value→Bool
 |[],[]=>true
 |a::az,v::vs=>fitsConst a v&&fitsAll az vs
 |_,_=>false
def Xr{E:Env}:∀{az:List AV} {vs:List Value},fitsAll az vs=true→VRs E az vs
 |[],[],_=>VRs.nil E
 |a::az,v::vs,h=>by
  simp only[fitsAll,Qh]at h;exact VRs.cons (ZiZ h.1) (Xr h.2)
 |[],_::_,h=>by simp[fitsAll]at h
 |_::_,[],h=>by simp[fitsAll]at h
def fitsAll_one:∀{az:List AV} {vs:List Value},fitsAll az vs=true→ ∀a∈az,a.one=true
 |[],_,_=>by simp
 |a::az,v::vs,h=>by
  simp only[fitsAll,Qh]at h;intro x hx;rcases Qk.1 hx with rfl|hx
  ·exact Zg0 h.1
  ·exact fitsAll_one h.2 x hx
 |_::_,[],h=>by simp[fitsAll]at h
def isAggV:Value→Bool
 | .agg _=>true
 |_=>false
def ZmP(P:Program)(t:TypeId)(r:Zu):Bool:=
 match P.underlying t,P.info? t with
 |some d,some i=>r.td.fits d&&i.size==r.size&&i.bytes==r.bytes&&(match i.zero with|some z=>fitsAll r.zero z.cells.toList&&z.cells.size==r.size&&(r.isAgg==isAggV z)|none=>false)&&(match r.td with| .struct _=>!P.stoodInHeld t&& !P.eqGuardType P.depth t|_=>true)
 |_,_=>false
abbrev TT:=TypeId→Option Zu
def TOK(P:Program)(T:TT):Prop:=∀t r,T t=some r→ZmP P t r=true
structure VF (P:Program) (t:TypeId) (r:Zu) (d:TypeDesc) (i:TypeInfo) (z:Value):Prop where
 und:P.underlying t=some d
 info:P.info? t=some i
 fits:r.td.fits d=true
 size:i.size=r.size
 bytes:i.bytes=r.bytes
 zero:i.zero=some z
 zfits:fitsAll r.zero z.cells.toList=true
 zsize:z.cells.size=r.size
 zagg:r.isAgg=isAggV z
 stood:∀fs,r.td= .struct fs→P.stoodInHeld t=false∧P.eqGuardType P.depth t=false
def Zd{P:Program}{t:TypeId}{r:Zu}(h:ZmP P t r=true):∃d i z,VF P t r d i z:=by
 unfold ZmP at h;split at h
 ·rename_i d i hd hi;split at h
  ·rename_i z hz;simp only[Qh,beq_iff_eq]at h;obtain⟨⟨h,h2⟩,h3⟩:=h;refine⟨d,i,z,hd,hi,h.1.1,h.1.2,h.2,hz,h2.1.1,h2.1.2,h2.2,fun fs hfs=>?_⟩;rw[hfs]at h3;simpa using h3
  ·simp at h
 ·simp at h
def Zh7{P:Program}{l:List (TypeId×Zu)}(h:l.all (fun x=>ZmP P x.1 x.2)=true):TOK P (fun t=>(l.find? (·.1==t)).map (·.2)):=by
 intro t r hr;simp only[Um]at hr;obtain⟨x,hx,rfl⟩:=hr;have h1:=List.find?_some hx;have h2:=List.mem_of_find?_eq_some hx;have h3:=(QA.1 h) x h2;have:x.1=t:=by simpa using h1
 exact this▸h3
def isAggD:TypeDesc→Bool
 | .struct _| .array _ _=>true
 |_=>false
def TD.ZoE{r:Zu}{d:TypeDesc}(h:r.td.fits d=true):isAggD d=r.isAgg:=by
 obtain⟨td,s,b,z⟩:=r;cases td<;>cases d<;>first|rfl|(simp[TD.fits]at h;done)
section runs
variable {P:Program}
def JC{t:TypeId}{r:Zu}{d:TypeDesc}{i:TypeInfo}{z:Value}(h:VF P t r d i z)(w:World):(isAgg t).run P w= .ok r.isAgg w:=by
 rw[←TD.ZoE h.fits];unfold isAgg;rw[Sem.run_bind,run_underlying h.und,Result.andThen_ok];cases d<;>rfl
def ZB{t:TypeId}{r:Zu}{d:TypeDesc}{i:TypeInfo}{z:Value}(h:VF P t r d i z)(w:World):(sizeOf t).run P w= .ok r.size w:=by
 simp[sizeOf,typeInfo,h.info,h.size]
def Yj{t:TypeId}{r:Zu}{d:TypeDesc}{i:TypeInfo}{z:Value}(h:VF P t r d i z)(w:World):(zeroValue t).run P w= .ok z w:=by
 simp[zeroValue,typeInfo,h.info,h.zero]
end runs
section
variable {w:World} {E:Env} {H:Za} {m:Nat}
def Zq.grow{w':World}{F':Nat→Nat→Option Value}(h:Zq m H E w)(os:w'.os=w.os)(tape:w'.tape=w.tape)(output:w'.output=w.output)
  (drawn:E.qd=true→w.drawn≤w'.drawn) (size:w.heap.size≤w'.heap.size) (hb:∀b,b<w.heap.size→w'.heap[b]? =w.heap[b]?) (hF:∀b o v,E.F b o=some v→F' b o=some v)
  (hF':∀b o v,F' b o=some v→w'.cell? ⟨b,o,none⟩=some v) (hnew:∀b o,b<w.heap.size→F' b o=E.F b o):
  Zq m H {E with F:=F'} w'∧Ext m E w {E with F:=F'} w':=by
 have hle:E.le m {E with F:=F'}:=⟨hF,fun _ _ _ _ h=>h,fun _ _ _ _ _ h=>h,rfl⟩
 have hlt:∀l k b,E.m l k=some b→b<w.heap.size:=fun l k b hm=>h.lt b (.inl ⟨l,k,hm⟩)
 have hgt:∀l k b,E.g l k=some b→b<w.heap.size:=fun l k b hm=>h.lt b (.inr ⟨l,k,hm⟩)
 refine⟨{norm:=⟨h.norm.m,h.norm.g,h.norm.hist⟩,F:=hF',blk:=?_,dom:=h.dom,nobuf:=h.nobuf,inj:=h.inj,injg:=h.injg,mg:=h.mg,mF:=?_,lt:=?_},⟨hle,os,tape,output,drawn,size,fun b hb' _=>hb b hb',fun b _ ho=>ho⟩⟩
 ·intro l k b hl hH;exact(h.blk l k b hl hH).keep rfl rfl (fun _=>rfl) (fun _ _ _ h=>h) (fun r hr=>hb r (hr.elim (hlt _ _ _) (hgt _ _ _))) (fun g o hg hf=>(hnew g o (hgt _ _ _ hg)).trans hf) (fun a _ v hv=>hv.mono h.norm hle)
 ·intro l k b o hm;exact(hnew b o (hlt l k b hm)).trans (h.mF l k b o hm)
 ·intro b ho;exact Ul (h.lt b ho) size
def Zq.Zcj(h:Zq m H E w){b o:Nat}{v:Value}(hf:E.F b o=some v):b<w.heap.size:=
 World.block_lt_of_cell? w _ (h.F b o v hf)
def Env.addRow(E:Env)(b:Nat)(vs:Array Value):Env:={E with F:=fun b' o=>if b'=b then vs[o]? else E.F b' o}
def Zq.newRow{w1:World}(h:Zq m H E w)(vs:Array Value)(e:TypeId)(os:w1.os=w.os)(tape:w1.tape=w.tape)(output:w1.output=w.output)
  (drawn:E.qd=true→w.drawn≤w1.drawn) (hh:w1.heap=w.heap):
  Zq m H (E.addRow w.heap.size vs) (w1.alloc (.cells vs e))∧Ext m E w (E.addRow w.heap.size vs) (w1.alloc (.cells vs e)):=by
 refine h.grow os tape output drawn (by simp[World.alloc,hh]) ?_ ?_ ?_ ?_
 ·intro b hb;simp only[World.alloc,hh,U3];rw[if_neg om]
 ·intro b o v hf;have:=h.Zcj hf;rw[if_neg om];exact hf
 ·intro b o v hf;split at hf
  ·rename_i hbe;subst hbe;simp only[World.cell?,World.alloc,hh,U3];simpa using hf
  ·have:=h.Zcj hf;have hc:=h.F b o v hf;simp only[World.cell?,World.alloc,hh,U3]at hc⊢;rw[if_neg om];exact hc
 ·intro b o hb;rw[if_neg om]
def Yr(P:Program)(m:Nat)(o:Oper)(ρ:Operand→AV)(H:Za)(v:AV)(H':Za):Prop:=
 ∀E w (a:Act),Zq m H E w→(∀x∈o.op.operands,VR E (ρ x) (a.eval x))→
  ∃cv E' w',((execOp a.eval o).run P w= .ok (.value cv) w'∨((execOp a.eval o).run P w= .ok .skip w'∧cv=undef))∧VR E' v cv∧Zq m H' E' w'∧Ext m E w E' w'
variable {o:Oper} {ro:Option Nat}
theorem ZoY{ρ:Operand→Value}(h:∀c,o.op≠ .defer c):o.semAt ro ρ=execOp ρ o:=by
 cases ro with
 |none=>rfl
 |some l=>unfold Oper.semAt;split<;>first|rfl|(rename_i h';exact absurd h' (h _))
def Zok{P:Program}{o:Oper}{ρ:Operand→Value}{w w':World}{x:Next}(h:(execOp ρ o).run P w= .ok x w')(hx:∀d,x≠ .defer d):∀c,o.op≠ .defer c:=fun c hc=>by
 simp only[execOp,hc,Sem.run_bind]at h;cases hr:(resolve ρ c o.type).run P w with
 |ok d w2=>rw[hr]at h;simp only[Result.andThen,Sem.run_pure,Result.ok.injEq]at h;exact hx _ h.1.symm
 |halt u w2=>rw[hr]at h;cases h
variable {P:Program}
def Y7{a:Act}{w':World}{K:Act→World→Prop}{Q:Exit→Act→World→Prop}{x:Next}(hrun:(execOp a.eval o).run P w= .ok x w')(hx:∀d,x≠ .defer d)
  (h:o.uponIn (fr ro) 0 P a K Q (.ok x w')):o.wpIn (fr ro) 0 P a w K Q:=
 ⟨fun _ _=>trivial,by rw[ZoY (Zok hrun hx),hrun];exact h⟩
variable {v:AV} {ρ:Operand→AV}
def Yr.sem{H':Za}(h:Yr P m o ρ H v H'):XE P m o ρ H v H':=by
 intro E w a Q K hr ho hk ro;obtain⟨cv,E',w',hrun,hv,hh,hx⟩:=h E w a hr ho;rcases hrun with hrun|⟨hrun,rfl⟩
 ·exact Y7 hrun (fun _ e=>by cases e) (hk E' w' cv hv hh hx)
 ·exact Y7 hrun (fun _ e=>by cases e) (hk E' w' undef hv hh hx)
def YT(P:Program)(o:Oper)(ρ:Operand→AV)(v:AV):Prop:=
 ∀E (a:Act),(∀x∈o.op.operands,VR E (ρ x) (a.eval x))→ ∃cv,(∀w,(execOp a.eval o).run P w= .ok (.value cv) w)∧VR E v cv
def YT.run(h:YT P o ρ v)(m:Nat)(H:Za):Yr P m o ρ H v H:=by
 intro E w a hr ho;obtain⟨cv,h1,h2⟩:=h E a ho;exact⟨cv,E,w,.inl (h1 w),h2,hr,.refl m E w⟩
def Zf2(T:TT)(ty:TypeId)(v:AV):AV:=
 match v with
 | .sl k [] o=>match T ty with
  |some r=>match r.td with
   | .slice e=>match T e with
    |some q=>.sl q.size [] o
    |none=>.sl k [] o
   |_=>.sl k [] o
  |none=>.sl k [] o
 |v=>v
def ZaI{k k':Nat}{o:Own}{v:Value}(h:VR E (.sl k [] o) v):VR E (.sl k' [] o) v:=by
 cases h with
 |slnil _ _ a ho ha=>exact .slnil k' o a ho ha
 |sl _ _ _ b off cap c hk hc hv hcap hm ho=>exact .sl k' [] o b off cap c (fun i h=>absurd h (Qm _)) (fun i j h=>absurd h (Qm _)) (fun i h=>absurd h (Qm _)) hcap hm ho
def Zpm{T:TT}{ty:TypeId}{x:Value}(h:VR E v x):VR E (Zf2 T ty v) x:=by
 unfold Zf2;split
 ·split
  ·split
   ·split
    ·exact ZaI h
    ·exact h
   ·exact h
  ·exact h
 ·exact h
def mv(T:TT)(ty:TypeId)(x:Operand)(v:AV):AV:=
 match x with
 | .const _=>Zf2 T ty v
 |_=>v
def Zhl{T:TT}{ty:TypeId}{x:Operand}{y:Value}(h:VR E v y):VR E (mv T ty x v) y:=by
 unfold mv;split
 ·exact Zpm h
 ·exact h
section ops
variable {P:Program} {T:TT} {o:Oper} {ρ:Operand→AV}
def Zq6{x:Operand}(ho:o.op= .move x):YT P o ρ (mv T o.type x (ρ x)):=fun E a h=>
 ⟨a.eval x,fun w=>by simp[execOp,ho],Zhl (h x sO)⟩
def ZnE{x:Operand}(ho:o.op= .assign x):YT P o ρ (mv T o.type x (ρ x)):=fun E a h=>
 ⟨a.eval x,fun w=>by simp[execOp,ho],Zhl (h x sO)⟩
def Zmf{c x y:Operand}{t:Bool}(ho:o.op= .pick c x y)(hc:ρ c= .bool t):YT P o ρ (if t then mv T o.type x (ρ x)else mv T o.type y (ρ y)):=fun E a h=>by
 have h1:=h c sO;rw[hc]at h1;cases hb:a.eval c<;>rw[hb]at h1<;>cases h1;refine⟨if t then a.eval x else a.eval y,fun w=>by simp[execOp,ho,hb,asBool],?_⟩;cases t
 ·exact Zhl (h y sO)
 ·exact Zhl (h x sO)
theorem VD{x:Operand}{v:AV}(ho:o.op= .nilCheck x)(hv:ρ x=v)(hk:(match v with| .ptr ..=>true| .iptr _=>true| .eptr ..=>true| .fn (.func _) _=>true| .fn (.yield _) _=>true|_=>false)=true):YT P o ρ v:=fun E a h=>by
 have h1:=h x sO;rw[hv]at h1;refine⟨a.eval x,fun w=>?_,h1⟩;have hex:execOp a.eval o=match a.eval x with
  | .pointer none| .nilIface| .nilFunc=>runtimePanic .nilDeref
  | .func (.method name) first captured=>
   match (first[0]?:Option Value)with
   |some .nilIface=>runtimePanic .nilDeref
   |some (.iface t w)=>do
    if(←nilAhead ((←program).types.size+Made.depth) t w name) !=some false then
     unsupported (.noEntry "op/nilCheck.the method's receiver behind this interface value is a nil pointer, or cannot be seen to be none, and the arguments act or may panic (ledger 612)")
    pure (.value (.func (.method name) first captured))
   |_=>pure (.value (.func (.method name) first captured))
  |x=>pure (.value x):=by simp only[execOp,ho];rfl
 rw[hex];clear hex;generalize a.eval x=y at*;cases h1 with
 |ptr l k off b hm=>rfl
 |iptr cs b off c hc hv=>rfl
 |eptr l k n off g cap hh=>rfl
 |fn f caps vs hl hvs=>cases f<;>first|rfl|(simp at hk;done)
 |_=>simp at hk
def ZI(b off n:Nat):(⟨b,off,none⟩:Addr).add n=⟨b,off+n,none⟩:=by
 unfold Addr.add;split
 ·rename_i h;subst h;rfl
 ·rfl
def Zef{t:TypeId}{x:Operand}{f:Nat}{r rf:Zu}{fs:List (Nat×TypeId)}{fo ft l k off:Nat}(hT:TOK P T)(ho:o.op= .fieldAddr t x f)(h1:T t=some r)(h2:r.td= .struct fs)
  (h3:fs[f]? =some (fo,ft)) (h4:T ft=some rf) (h5:rf.size≠0) (hv:ρ x= .ptr l k off):YT P o ρ (.ptr l k (off+fo)):=fun E a h=>by
 have hx:=h x sO;rw[hv]at hx;obtain⟨d,i,z,hf⟩:=Zd (hT t r h1);obtain⟨d',i',z',hf'⟩:=Zd (hT ft rf h4);have hfit:=hf.fits;rw[h2]at hfit;cases d<;>try(simp[TD.fits]at hfit;done)
 rename_i gs;simp only[TD.fits,Qh,beq_iff_eq]at hfit;have hg:∃g,gs[f]? =some g∧g.offset=fo∧g.type=ft:=by
  have h3':=h3;rw[←hfit.1,Q8]at h3';cases hq:gs.toList[f]? with
  |none=>simp[hq]at h3'
  |some g=>rw[hq]at h3';simp at h3';exact⟨g,by rw[←Array.getElem?_toList];exact hq,h3'.1,h3'.2⟩
 obtain⟨g,hg1,hg2,hg3⟩:=hg;cases hy:a.eval x<;>rw[hy]at hx<;>cases hx;rename_i b hm;refine⟨.pointer (some ⟨b,off+fo,none⟩),fun w=>?_,.ptr l k _ b hm⟩;simp[execOp,ho,hy,Instr.fieldAt,run_underlying hf.und,hg1,Instr.sureAddr,fieldPlace,hg3,ZB hf',h5,ZI,hg2]
def ZdK{t:TypeId}{x:Operand}{f:Nat}{r rf:Zu}{fs:List (Nat×TypeId)}{fo ft:Nat}{cs:List AV}(hT:TOK P T)(ho:o.op= .fieldAddr t x f)(h1:T t=some r)(h2:r.td= .struct fs)
  (h3:fs[f]? =some (fo,ft)) (h4:T ft=some rf) (h5:rf.size≠0) (hv:ρ x= .iptr cs):YT P o ρ (.iptr (cs.drop fo)):=fun E a h=>by
 have hx:=h x sO;rw[hv]at hx;obtain⟨d,i,z,hf⟩:=Zd (hT t r h1);obtain⟨d',i',z',hf'⟩:=Zd (hT ft rf h4);have hfit:=hf.fits;rw[h2]at hfit;cases d<;>try(simp[TD.fits]at hfit;done)
 rename_i gs;simp only[TD.fits,Qh,beq_iff_eq]at hfit;have hg:∃g,gs[f]? =some g∧g.offset=fo∧g.type=ft:=by
  have h3':=h3;rw[←hfit.1,Q8]at h3';cases hq:gs.toList[f]? with
  |none=>simp[hq]at h3'
  |some g=>rw[hq]at h3';simp at h3';exact⟨g,by rw[←Array.getElem?_toList];exact hq,h3'.1,h3'.2⟩
 obtain⟨g,hg1,hg2,hg3⟩:=hg;generalize hy:a.eval x=y at hx;cases hx with|iptr _ b off c hc hv=>
 refine⟨.pointer (some ⟨b,off+fo,none⟩),fun w=>?_,?_⟩
 ·simp[execOp,ho,hy,Instr.fieldAt,run_underlying hf.und,hg1,Instr.sureAddr,fieldPlace,hg3,ZB hf',h5,ZI,hg2]
 ·refine .iptr _ b (off+fo) (fun j=>c (fo+j)) (fun j hj=>?_) (fun j hj=>?_)
  ·rw[QO]at hj;rw[MS];exact hc (fo+j) om
  ·rw[QO]at hj;have:=hv (fo+j) om;simpa using this
def ZG{d:TypeDesc}{e:TypeId}(h:(TD.slice e).fits d=true):d= .slice e:=by
 cases d<;>simp[TD.fits]at h;subst h;rfl
def Ze4{t:TypeId}{x ix:Operand}{r re:Zu}{e:TypeId}{k:Nat}{xs:List AV}{ow:Own}{kk:IntKind}{i:Int}(hT:TOK P T)(ho:o.op= .indexAddr t x ix)
  (h1:T t=some r) (h2:r.td= .slice e) (h3:T e=some re) (hk:k=re.size) (hv:ρ x= .sl k xs ow) (hi:ρ ix= .int kk i) (hlo:0≤i) (hhi:i<xs.length):
  YT P o ρ (.iptr (xs.getD i.toNat .dead).cells):=fun E a h=>by
 have hx:=h x sO;have hix:=h ix sO;rw[hv]at hx;rw[hi]at hix;obtain⟨d,inf,z,hf⟩:=Zd (hT t r h1);obtain⟨d',i',z',hf'⟩:=Zd (hT e re h3);have hd:=ZG (h2▸hf.fits);subst hd;cases hyi:a.eval ix<;>rw[hyi]at hix<;>cases hix;have hlt:i.toNat<xs.length:=om;have hg:xs.getD i.toNat .dead=xs[i.toNat]:=by simp[Qp,Qb hlt]
 generalize hy:a.eval x=y at hx;cases hx with
 |slnil _ _ _ ho' _=>simp at hhi;omega
 |sl _ _ _ b off cap c hkk hc hvv hcap hm how=>
  refine⟨.pointer (some ⟨b,off+i.toNat*re.size,none⟩),fun w=>?_,?_⟩
  ·simp[execOp,ho,hy,hyi,Instr.indexAt,asIntOf,run_underlying hf.und,hlo,hhi,ZB hf',ZI]
  ·rw[hg];refine .iptr _ b _ (fun j=>c i.toNat j) (fun j hj=>?_) (fun j hj=>hvv i.toNat hlt j hj);have:=hc i.toNat j hlt (by rw[←hkk i.toNat hlt];exact hj);rw[←hk,MS];exact this
def Zny{t:TypeId}{x:Operand}{r:Zu}{e:TypeId}{k:Nat}{xs:List AV}{ow:Own}(hT:TOK P T)(ho:o.op= .call {callee:=.builtin .len,args:=#[x],argTypes:=#[t]})
  (h1:T t=some r) (h2:r.td= .slice e) (hv:ρ x= .sl k xs ow):YT P o ρ (.int .i64 xs.length):=fun E a h=>by
 have hx:=h x sC;rw[hv]at hx;obtain⟨d,inf,z,hf⟩:=Zd (hT t r h1);have hd:=ZG (h2▸hf.fits);subst hd;cases hy:a.eval x<;>rw[hy]at hx<;>cases hx
 ·exact⟨_,fun w=>by simp[execOp,ho,hy,resolve,invoke,builtin,Builtin.len_,run_underlying hf.und,goInt],.int _ _⟩
 ·exact⟨_,fun w=>by simp[execOp,ho,hy,resolve,invoke,builtin,Builtin.len_,run_underlying hf.und,goInt],.int _ _⟩
def VB{d:TypeDesc}(h:TD.str.fits d=true):d= .string:=by
 cases d<;>simp[TD.fits]at h;rfl
def Zlv{t:TypeId}{x:Operand}{r:Zu}{s:List UInt8}(hT:TOK P T)(ho:o.op= .call {callee:=.builtin .len,args:=#[x],argTypes:=#[t]})
  (h1:T t=some r) (h2:r.td= .str) (hv:ρ x= .str s):YT P o ρ (.int .i64 s.length):=fun E a h=>by
 have hx:=h x sC;rw[hv]at hx;obtain⟨d,inf,z,hf⟩:=Zd (hT t r h1);have hd:=VB (h2▸hf.fits);subst hd;cases hy:a.eval x<;>rw[hy]at hx<;>cases hx;have hsz:(⟨s.toArray⟩:ByteArray).size=s.length:=by show s.toArray.size=s.length;simp
 exact⟨.int .i64 s.length,fun w=>by simp[execOp,ho,hy,resolve,invoke,builtin,Builtin.len_,run_underlying hf.und,goInt,hsz],.int _ _⟩
def Zis{t:TypeId}{x ix:Operand}{r:Zu}{s:List UInt8}{kk:IntKind}{i:Int}(hT:TOK P T)(ho:o.op= .index t x ix)
  (h1:T t=some r) (h2:r.td= .str) (hv:ρ x= .str s) (hi:ρ ix= .int kk i) (hlo:0≤i) (hhi:i<s.length):YT P o ρ (.int .u8 (s.getD i.toNat 0).toNat):=fun E a h=>by
 have hx:=h x sO;have hix:=h ix sO;rw[hv]at hx;rw[hi]at hix;obtain⟨d,inf,z,hf⟩:=Zd (hT t r h1);have hd:=VB (h2▸hf.fits);subst hd;have hlt:i.toNat<s.length:=om;cases hyi:a.eval ix<;>rw[hyi]at hix<;>cases hix;cases hy:a.eval x<;>rw[hy]at hx<;>cases hx;refine⟨.int .u8 (s.getD i.toNat 0).toNat,fun w=>?_,.int _ _⟩;have hget:(⟨s.toArray⟩:ByteArray)[i.toNat]? =some s[i.toNat]:=by
  rw[getElem?_pos (⟨s.toArray⟩:ByteArray) i.toNat (by show i.toNat<s.toArray.size;simpa using hlt)];rfl
 simp[execOp,ho,hy,hyi,Instr.index,asIntOf,run_underlying hf.und,hlo,hget,Qp,Qb hlt]
def ZlN{x:Operand}{i:Nat}{vs:List AV}(ho:o.op= .extract x i)(hv:ρ x= .tup vs)(hi:i<vs.length):YT P o ρ (vs.getD i .dead):=fun E a h=>by
 have hx:=h x sO;rw[hv]at hx;generalize hy:a.eval x=y at hx;cases hx with|tup _ us hl hvs=>
 refine⟨us[i]'om,fun w=>?_,?_⟩
 ·simp[execOp,ho,hy,Instr.extract,Qb (show i<us.length by omega)]
 ·have:=hvs i hi om;simpa[Qp,Qb hi]using this
def ZsN{x:Operand}{t:TypeId}{b:Bool}(ho:o.op= .unOp .not t x)(hv:ρ x= .bool b):YT P o ρ (.bool (!b)):=fun E a h=>by
 have hx:=h x sO;rw[hv]at hx;cases hy:a.eval x<;>rw[hy]at hx<;>cases hx;exact⟨.bool (!b),fun w=>by simp[execOp,ho,hy,Op.unary],.bool _⟩
def Zsz{x:Operand}{t:TypeId}{k:IntKind}{n:Int}(ho:o.op= .unOp .neg t x)(hv:ρ x= .int k n):YT P o ρ (.int k (k.wrap (0 - n))):=fun E a h=>by
 have hx:=h x sO;rw[hv]at hx;cases hy:a.eval x<;>rw[hy]at hx<;>cases hx;exact⟨.int k (k.wrap (0 - n)),fun w=>by simp[execOp,ho,hy,Op.unary,Op.intArith],.int _ _⟩
def Zak{d:TypeDesc}{k:IntKind}(h:(TD.int k).fits d=true):d= .int k:=by
 cases d<;>simp[TD.fits]at h;subst h;rfl
def Zf6{src dst:TypeId}{x:Operand}{rs r:Zu}{k0 k k':IntKind}{n:Int}(hT:TOK P T)(ho:o.op= .convert src dst x)(h0:T src=some rs)(h0':rs.td= .int k0)(h1:T dst=some r)(h2:r.td= .int k)(hv:ρ x= .int k' n):
  YT P o ρ (.int k (k.wrap n)):=fun E a h=>by
 have hx:=h x sO;rw[hv]at hx;obtain⟨d,inf,z,hf⟩:=Zd (hT dst r h1);have hd:=Zak (h2▸hf.fits);subst hd;obtain⟨d0,inf0,z0,hf0⟩:=Zd (hT src rs h0);have hd0:=Zak (h0'▸hf0.fits);subst hd0;cases hy:a.eval x<;>rw[hy]at hx<;>cases hx;exact⟨.int k (k.wrap n),fun w=>by simp[execOp,ho,hy,convert,run_underlying hf.und,run_underlying hf0.und,Conv.intToInt],.int _ _⟩
def ZfT{src dst:TypeId}{x:Operand}{rs r:Zu}{s:List UInt8}(hT:TOK P T)(ho:o.op= .convert src dst x)(h0:T src=some rs)(h0':rs.td= .str)(h1:T dst=some r)(h2:r.td= .str)(hv:ρ x= .str s):
  YT P o ρ (.str s):=fun E a h=>by
 have hx:=h x sO;rw[hv]at hx;obtain⟨d,inf,z,hf⟩:=Zd (hT dst r h1);have hd:=VB (h2▸hf.fits);subst hd;obtain⟨d0,inf0,z0,hf0⟩:=Zd (hT src rs h0);have hd0:=VB (h0'▸hf0.fits);subst hd0;cases hy:a.eval x<;>rw[hy]at hx<;>cases hx;exact⟨.string ⟨s.toArray⟩,fun w=>by simp[execOp,ho,hy,convert,run_underlying hf.und,run_underlying hf0.und],.str _⟩
def Zkw{f:Fn}{cs:Array Operand}(ho:o.op= .makeFunc f #[] cs):YT P o ρ (.fn f (cs.toList.map ρ)):=fun E a h=>by
 refine⟨.func f #[] (cs.toList.map a.eval).toArray,fun w=>?_,?_⟩
 ·have:execOp a.eval o=(do let v←Instr.makeFunc f (#[].map a.eval) (cs.map a.eval);pure (Next.value v)):=by simp only[execOp,ho]
  rw[this];simp[Instr.makeFunc];rw[←Array.toList_map]
 ·refine .fn f (cs.toList.map ρ) (cs.toList.map a.eval) (by rw[Qv,Qv]) (fun i h1 h2=>?_);rw[QV,QV];have hm:cs.toList[i]'(by simpa using h1)∈o.op.operands:=by
   rw[ho];simp only[Op.operands];simp
  exact h _ hm
def Zin{f:Fn}{fs:Array Operand}(ho:o.op= .makeFunc f fs #[]):YT P o ρ (.bfn f (fs.toList.map ρ)):=fun E a h=>by
 refine⟨.func f (fs.toList.map a.eval).toArray #[],fun w=>?_,?_⟩
 ·have:execOp a.eval o=(do let v←Instr.makeFunc f (fs.map a.eval) (#[].map a.eval);pure (Next.value v)):=by simp only[execOp,ho]
  rw[this];simp[Instr.makeFunc];rw[←Array.toList_map]
 ·refine .bfn f (fs.toList.map ρ) (fs.toList.map a.eval) (by rw[Qv,Qv]) (fun i h1 h2=>?_);rw[QV,QV];have hm:fs.toList[i]'(by simpa using h1)∈o.op.operands:=by
   rw[ho];simp only[Op.operands];simp
  exact h _ hm
end ops
end
def Zm7(op:BinOp)(k:IntKind)(x y:Int):Option AV:=
 match op with
 | .add=>some (.int k (k.wrap (x+y)))
 | .sub=>some (.int k (k.wrap (x - y)))
 | .mul=>some (.int k (k.wrap (x*y)))
 | .eql=>some (.bool (x==y))
 | .neq=>some (.bool (x !=y))
 | .lss=>some (.bool (decide (x<y)))
 | .leq=>some (.bool (decide (x≤y)))
 | .gtr=>some (.bool (decide (x>y)))
 | .geq=>some (.bool (decide (x ≥ y)))
 |_=>none
def ZmH(op:BinOp)(x y:List UInt8):Option AV:=
 match op with
 | .eql=>some (.bool (x==y))
 | .neq=>some (.bool (!(x==y)))
 | .lss=>some (.bool (Op.bytesLess x y))
 | .leq=>some (.bool (Op.bytesLess x y||x==y))
 | .gtr=>some (.bool (!(Op.bytesLess x y||x==y)))
 | .geq=>some (.bool (!(Op.bytesLess x y)))
 |_=>none
section ops
variable {P:Program} {T:TT} {o:Oper} {ρ:Operand→AV}
def guardy:Value→Value→Bool
 | .nilIface,.nilIface=>true
 | .agg _,.agg _=>true
 |_,_=>false
def ZiD{op:BinOp}{t:TypeId}{x y:Operand}{a b:Value}(w:World)(h:guardy a b=false):
  (eqGuard op t x y a b).run P w= .ok () w:=by
 unfold eqGuard;cases op<;>simp only[]<;>first|rfl|(cases a<;>cases b<;>first|rfl|(cases h;done))
def Yt{op:BinOp}{t yt:TypeId}{x y:Operand}{a:Act}{u v r:Value}(ho:o.op= .binOp op t x y yt)(hx:a.eval x=u)(hy:a.eval y=v)
  (h:guardy u v=false) (hr:∀w,(binOp op t u v).run P w= .ok r w) (w:World):
  (execOp a.eval o).run P w= .ok (.value r) w:=by
 have he:execOp a.eval o=(do let v←(do eqGuard op t x y (a.eval x) (a.eval y);binOp op t (a.eval x) (a.eval y));pure (Next.value v)):=by simp only[execOp,ho]
 rw[he,hx,hy];simp only[Sem.run_bind,ZiD (P:=P) w h,Result.andThen_ok,hr w,Sem.run_pure]
def ZlX{op:BinOp}{t yt:TypeId}{x y:Operand}{k:IntKind}{m n:Int}{v:AV}(ho:o.op= .binOp op t x y yt)(hx:ρ x= .int k m)(hy:ρ y= .int k n)(hv:Zm7 op k m n=some v):YT P o ρ v:=fun E a h=>by
 have h1:=h x sO;have h2:=h y sO;rw[hx]at h1;rw[hy]at h2;cases ha:a.eval x<;>rw[ha]at h1<;>cases h1;cases hb:a.eval y<;>rw[hb]at h2<;>cases h2;cases op<;>simp only[Zm7,Qr,reduceCtorEq]at hv<;>subst hv
 ·exact⟨.int k (k.wrap (m+n)),Yt ho ha hb rfl (fun w=>by simp[binOp,Op.intArith]),.int _ _⟩
 ·exact⟨.int k (k.wrap (m - n)),Yt ho ha hb rfl (fun w=>by simp[binOp,Op.intArith]),.int _ _⟩
 ·exact⟨.int k (k.wrap (m*n)),Yt ho ha hb rfl (fun w=>by simp[binOp,Op.intArith]),.int _ _⟩
 ·exact⟨.bool (m==n),Yt ho ha hb rfl (fun w=>by simp[binOp,Op.intCmp]),.bool _⟩
 ·exact⟨.bool (m !=n),Yt ho ha hb rfl (fun w=>by simp[binOp,Op.intCmp]),.bool _⟩
 ·exact⟨.bool (decide (m<n)),Yt ho ha hb rfl (fun w=>by simp[binOp,Op.intCmp]),.bool _⟩
 ·exact⟨.bool (decide (m≤n)),Yt ho ha hb rfl (fun w=>by simp[binOp,Op.intCmp]),.bool _⟩
 ·exact⟨.bool (decide (m>n)),Yt ho ha hb rfl (fun w=>by simp[binOp,Op.intCmp]),.bool _⟩
 ·exact⟨.bool (decide (m ≥ n)),Yt ho ha hb rfl (fun w=>by simp[binOp,Op.intCmp]),.bool _⟩
def ZsG{op:BinOp}{t yt:TypeId}{x y:Operand}{k:IntKind}{m n:Int}(ho:o.op= .binOp op t x y yt)(hx:ρ x= .int k m)(hy:ρ y= .int k n)(hop:op= .quo)(hn:n≠0):YT P o ρ (.int k (k.wrap (m.tdiv n))):=fun E a h=>by
 have h1:=h x sO;have h2:=h y sO;rw[hx]at h1;rw[hy]at h2;cases ha:a.eval x<;>rw[ha]at h1<;>cases h1;cases hb:a.eval y<;>rw[hb]at h2<;>cases h2;subst hop;exact⟨.int k (k.wrap (m.tdiv n)),Yt ho ha hb rfl (fun w=>by simp[binOp,Op.intDiv,hn]),.int _ _⟩
def Zsf{op:BinOp}{t yt:TypeId}{x y:Operand}{k:IntKind}{m n:Int}(ho:o.op= .binOp op t x y yt)(hx:ρ x= .int k m)(hy:ρ y= .int k n)(hop:op= .rem)(hn:n≠0):YT P o ρ (.int k (m.tmod n)):=fun E a h=>by
 have h1:=h x sO;have h2:=h y sO;rw[hx]at h1;rw[hy]at h2;cases ha:a.eval x<;>rw[ha]at h1<;>cases h1;cases hb:a.eval y<;>rw[hb]at h2<;>cases h2;subst hop;exact⟨.int k (m.tmod n),Yt ho ha hb rfl (fun w=>by simp[binOp,Op.intDiv,hn]),.int _ _⟩
def ZsQ{op:BinOp}{t yt:TypeId}{x y:Operand}{k k':IntKind}{m n:Int}(ho:o.op= .binOp op t x y yt)(hx:ρ x= .int k m)(hy:ρ y= .int k' n)(hop:op= .shr)(hn:0≤n):YT P o ρ (.int k (m.fdiv (2^(min n.toNat k.bits)))):=fun E a h=>by
 have h1:=h x sO;have h2:=h y sO;rw[hx]at h1;rw[hy]at h2;cases ha:a.eval x<;>rw[ha]at h1<;>cases h1;cases hb:a.eval y<;>rw[hb]at h2<;>cases h2;subst hop;exact⟨.int k (m.fdiv (2^(min n.toNat k.bits))),Yt ho ha hb rfl (fun w=>by simp[binOp,Op.shift,Int.not_lt.2 hn]),.int _ _⟩
def ZkY{op:BinOp}{t yt:TypeId}{x y:Operand}{m n:List UInt8}{v:AV}(ho:o.op= .binOp op t x y yt)(hx:ρ x= .str m)(hy:ρ y= .str n)(hv:ZmH op m n=some v):YT P o ρ v:=fun E a h=>by
 have h1:=h x sO;have h2:=h y sO;rw[hx]at h1;rw[hy]at h2;cases ha:a.eval x<;>rw[ha]at h1<;>cases h1;cases hb:a.eval y<;>rw[hb]at h2<;>cases h2;cases op<;>simp only[ZmH,Qr,reduceCtorEq]at hv<;>subst hv
 ·exact⟨.bool (m==n),Yt ho ha hb rfl (fun w=>by simp only[binOp,Op.stringOp,ByteArray.toList_mk,Sem.run_pure]),.bool _⟩
 ·exact⟨.bool (!(m==n)),Yt ho ha hb rfl (fun w=>by simp only[binOp,Op.stringOp,ByteArray.toList_mk,Sem.run_pure]),.bool _⟩
 ·exact⟨.bool (Op.bytesLess m n),Yt ho ha hb rfl (fun w=>by simp only[binOp,Op.stringOp,ByteArray.toList_mk,Sem.run_pure]),.bool _⟩
 ·exact⟨.bool (Op.bytesLess m n||m==n),Yt ho ha hb rfl (fun w=>by simp only[binOp,Op.stringOp,ByteArray.toList_mk,Sem.run_pure]),.bool _⟩
 ·exact⟨.bool (!(Op.bytesLess m n||m==n)),Yt ho ha hb rfl (fun w=>by simp only[binOp,Op.stringOp,ByteArray.toList_mk,Sem.run_pure]),.bool _⟩
 ·exact⟨.bool (!(Op.bytesLess m n)),Yt ho ha hb rfl (fun w=>by simp only[binOp,Op.stringOp,ByteArray.toList_mk,Sem.run_pure]),.bool _⟩
def Zom{op:BinOp}{t yt:TypeId}{x y:Operand}{m n:List UInt8}(ho:o.op= .binOp op t x y yt)(hx:ρ x= .str m)(hy:ρ y= .str n)(hop:op= .add)(hl:m.length+n.length≤9223372036854775807):YT P o ρ (.str (m++n)):=fun E a h=>by
 have h1:=h x sO;have h2:=h y sO;rw[hx]at h1;rw[hy]at h2;cases ha:a.eval x<;>rw[ha]at h1<;>cases h1;cases hb:a.eval y<;>rw[hb]at h2<;>cases h2;subst hop;refine⟨.string ⟨(m++n).toArray⟩,Yt ho ha hb rfl (fun w=>?_),.str _⟩;have hs1:(⟨m.toArray⟩:ByteArray).size=m.length:=by show m.toArray.size=_;simp
 have hs2:(⟨n.toArray⟩:ByteArray).size=n.length:=by show n.toArray.size=_;simp
 have hmx:IntKind.i64.max=9223372036854775807:=dc;have hs:¬(((⟨m.toArray⟩:ByteArray).size+(⟨n.toArray⟩:ByteArray).size:Nat):Int)>IntKind.i64.max:=by rw[hs1,hs2,hmx];omega
 have happ:(⟨m.toArray⟩:ByteArray)++⟨n.toArray⟩=⟨(m++n).toArray⟩:=by
  apply ByteArray.ext;rw[ByteArray.data_append];simp
 simp only[binOp,Op.stringOp,if_neg hs,happ,Sem.run_pure]
def Zod{d:TypeDesc}(h:TD.bool.fits d=true):d= .bool:=by
 cases d<;>simp[TD.fits]at h;rfl
def Zii(d:Nat){t:TypeId}{m n:Bool}(hd:P.underlying t=some .bool)(w:World):(Op.equalIn (d+1) t (.bool m) (.bool n)).run P w= .ok (m==n) w:=by
 simp[Op.equalIn,run_underlying hd]
def Zj9{op:BinOp}{t yt:TypeId}{x y:Operand}{r:Zu}{m n:Bool}(hT:TOK P T)(ho:o.op= .binOp op t x y yt)(h1:T t=some r)(h2:r.td= .bool)(hx:ρ x= .bool m)(hy:ρ y= .bool n)
  (hop:op= .eql∨op= .neq):YT P o ρ (.bool (if op= .eql then m==n else !(m==n))):=fun E a h=>by
 have k1:=h x sO;have k2:=h y sO;obtain⟨d,inf,z,hf⟩:=Zd (hT t r h1);have hd:=Zod (h2▸hf.fits);subst hd;rw[hx]at k1;rw[hy]at k2;cases ha:a.eval x<;>rw[ha]at k1<;>cases k1;cases hb:a.eval y<;>rw[hb]at k2<;>cases k2;have he:∀w,(Op.equal t (.bool m) (.bool n)).run P w= .ok (m==n) w:=fun w=>Zii 9999 hf.und w
 rcases hop with rfl|rfl
 ·exact⟨.bool (m==n),Yt ho ha hb rfl (fun w=>by simp[binOp,he w]),.bool _⟩
 ·exact⟨.bool (!(m==n)),Yt ho ha hb rfl (fun w=>by simp[binOp,he w]),.bool _⟩
inductive NilK:TD→AV→AV→Bool→Prop
 |pp:NilK .ptr .nilp .nilp true
 |pq (l k o:Nat):NilK .ptr (.ptr l k o) .nilp false
 |pi (cs:List AV):NilK .ptr (.iptr cs) .nilp false
 |ff:NilK .func .nilf .nilf true
 |fg (f:Fn) (c:List AV):NilK .func (.fn f c) .nilf false
 |mm (k e:Nat):NilK (.map k e) .nilm .nilm true
 |mn (k e l i:Nat):NilK (.map k e) (.map l i) .nilm false
 |ss (e:Nat):NilK (.slice e) .Xg .Xg true
 |sx (e k:Nat):NilK (.slice e) (.sln k) .Xg false
 |sn (e k:Nat) (x:AV) (xs:List AV) (o:Own):NilK (.slice e) (.sl k (x::xs) o) .Xg false
 |sm (e sz l k n:Nat):NilK (.slice e) (.msl sz l k (n+1)) .Xg false
def ZjC(n:Nat){t:TypeId}{d:TypeDesc}{td:TD}{E:Env}{u v:AV}{b:Bool}{p q:Value}(hd:P.underlying t=some d)(hfit:td.fits d=true)(k1:VR E u p)(k2:VR E v q)
  (hk:NilK td u v b) (w:World):(Op.equalIn (n+1) t p q).run P w= .ok b w:=by
 cases hk<;>cases k1<;>cases k2<;>cases d<;>(try(cases hfit;done))<;>simp[Op.equalIn,run_underlying hd]
def JH{t:TypeId}{d:TypeDesc}{td:TD}{E:Env}{u v:AV}{b:Bool}{p q:Value}{op:BinOp}(hd:P.underlying t=some d)(hfit:td.fits d=true)(k1:VR E u p)(k2:VR E v q)
  (hk:NilK td u v b) (hop:op= .eql∨op= .neq):(∀w,(binOp op t p q).run P w= .ok (.bool (if op= .eql then b else !b)) w)∧guardy p q=false:=by
 have he:∀w,(Op.equal t p q).run P w= .ok b w:=fun w=>ZjC 9999 hd hfit k1 k2 hk w
 cases hk<;>cases k1<;>cases k2<;>refine⟨fun w=>?_,rfl⟩<;>rcases hop with rfl|rfl<;>first|(simp[binOp,he w];done)|(have h:=he w;simp only[Qo]at h;simp[binOp,h])
def ZnK{op:BinOp}{t yt:TypeId}{x y:Operand}{r:Zu}{u v:AV}{b:Bool}(hT:TOK P T)(ho:o.op= .binOp op t x y yt)(h1:T t=some r)(hx:ρ x=u)(hy:ρ y=v)
  (hk:NilK r.td u v b) (hop:op= .eql∨op= .neq):YT P o ρ (.bool (if op= .eql then b else !b)):=fun E a h=>by
 have k1:=h x sO;have k2:=h y sO;obtain⟨d,inf,z,hf⟩:=Zd (hT t r h1);rw[hx]at k1;rw[hy]at k2;obtain⟨h3,h4⟩:=JH (P:=P) hf.und hf.fits k1 k2 hk hop;exact⟨_,Yt ho rfl rfl h4 h3,.bool _⟩
end ops
def flat(xs:List AV):List AV:=xs.flatMap AV.cells
theorem flat_nil:flat []=[]:=rfl
def Yu(x:AV)(xs:List AV):flat (x::xs)=x.cells++flat xs:=by simp[flat]
def YQ(xs ys:List AV):flat (xs++ys)=flat xs++flat ys:=by simp[flat]
def flat_length{k:Nat}:∀{xs:List AV},(∀x∈xs,x.cells.length=k)→(flat xs).length=xs.length*k
 |[],_=>by simp[flat]
 |x::xs,h=>by
  rw[Yu,Qd,flat_length (fun y hy=>h y (Qy _ hy)),h x sm,Qo,Qab,Nat.add_comm]
def flat_get{k:Nat}:∀{xs:List AV},(∀x∈xs,x.cells.length=k)→ ∀i (h:i<xs.length) j,j<k→(flat xs)[i*k+j]? =xs[i].cells[j]?
 |x::xs,h,0,hi,j,hj=>by
  rw[Yu,Gv,QG,Uw (by rw[h x sm];exact hj)];rfl
 |x::xs,h,i+1,hi,j,hj=>by
  have hx:=h x sm;rw[Yu,MX (by rw[hx,Qab];omega),hx];rw[show(i+1)*k+j - k=i*k+j by rw[Qab];omega];exact flat_get (fun y hy=>h y (Qy _ hy)) i (by simpa using hi) j hj
section
variable {xs:List AV}
def VR.WS{E:Env}{k:Nat}{o:Own}{v:Value}(h:VR E (.sl k xs o) v):
  ((∃a,v= .slice a 0 0∧(o≠ .any→a=none))∧xs=[]∧Zag E 0 v 0 o)∨
  ∃b off cap cs,v= .slice (some ⟨b,off,none⟩) xs.length cap∧(∀x∈xs,x.cells.length=k)∧VRs E (flat xs) cs∧(∀j u,cs[j]? =some u→E.F b (off+j)=some u)∧
   xs.length≤cap∧xs.length≤maxLen∧Zag E xs.length v cap o:=by
 cases h with
 |slnil _ _ a ho ha=>exact .inl ⟨⟨a,rfl,ha⟩,rfl,ho⟩
 |sl _ _ _ b off cap c hk hc hv hcap hm ho=>
  have hk':∀x∈xs,x.cells.length=k:=fun x hx=>by
   obtain⟨i,hi,rfl⟩:=QJ hx;exact hk i hi
  have hlen:=flat_length hk';refine .inr ⟨b,off,cap,(List.range (xs.length*k)).map (fun q=>c (q / k) (q % k)),rfl,hk',⟨by simp[hlen],fun q h1 h2=>?_⟩,fun q u hq=>?_,hcap,hm,ho⟩
  ·rw[hlen]at h1;have hk0:0<k:=by
    rcases MO k with h0|h0
    ·subst h0;simp at h1
    ·exact h0
   have hi:q / k<xs.length:=GL (by rwa [Gw]at h1);have hj:q % k<k:=Qa0 _ hk0;have hq:q / k*k+q % k=q:=by rw[Gw];exact Qbo q k
   have hg:=flat_get hk' (q / k) hi (q % k) hj;rw[hq]at hg;have hjl:q % k<xs[q / k].cells.length:=by rw[hk (q / k) hi];exact hj
   rw[Qb hjl,Qb (by rw[hlen];exact h1),Qr]at hg;rw[hg];simpa using hv (q / k) hi (q % k) hjl
  ·rw[Q8]at hq;cases hr:(List.range (xs.length*k))[q]? with
   |none=>simp[hr]at hq
   |some q'=>
    rw[hr]at hq;obtain⟨hlt,hqq⟩:=Ub.1 hr;simp only[MN]at hqq;subst hqq;simp only[MV]at hlt;simp only[Un,Qr]at hq;subst hq;have hk0:0<k:=by
     rcases MO k with h0|h0
     ·subst h0;simp at hlt
     ·exact h0
    have hi:q / k<xs.length:=GL (by rwa [Gw]at hlt);have hq2:q / k*k+q % k=q:=by rw[Gw];exact Qbo q k
    have:=hc (q / k) (q % k) hi (Qa0 _ hk0)
    rwa [hq2]at this
def VR.Va{E:Env}{k:Nat}{o:Own}{b off cap:Nat}{cs:List Value}(hk:∀x∈xs,x.cells.length=k)(hv:VRs E (flat xs) cs)
  (hF:∀j u,cs[j]? =some u→E.F b (off+j)=some u) (hcap:xs.length≤cap) (hm:xs.length≤maxLen) (ho:Zag E xs.length (.slice (some ⟨b,off,none⟩) xs.length cap) cap o):
  VR E (.sl k xs o) (.slice (some ⟨b,off,none⟩) xs.length cap):=by
 have hlen:=flat_length hk;have key:∀i j (hi:i<xs.length),j<k→i*k+j<xs.length*k:=fun i j hi hj=>by
  have:(i+1)*k≤xs.length*k:=QE k hi;rw[Qab]at this;omega
 refine .sl k xs o b off cap (fun i j=>cs.getD (i*k+j) undef) (fun i hi=>hk _ (Qa hi)) (fun i j hi hj=>?_) (fun i hi j hj=>?_) hcap hm ho
 ·have hlt:=key i j hi hj;have:cs[i*k+j]? =some (cs.getD (i*k+j) undef):=by
   rw[Qp,Qb (by rw[hv.1,hlen];exact hlt)];rfl
  exact hF _ _ this
 ·rw[hk _ (Qa hi)]at hj;have hlt:=key i j hi hj;have h1:i*k+j<(flat xs).length:=by rw[hlen];exact hlt
  have h2:i*k+j<cs.length:=by rw[hv.1];exact h1
  have hg:=flat_get hk i hi j hj;rw[Qb h1,Qb (by rw[hk _ (Qa hi)];exact hj),Qr]at hg;have:=hv.2 _ h1 h2;rw[hg]at this;simpa[Qp,Qb h2]using this
def VRs.take{E:Env}{az:List AV}{vs:List Value}(h:VRs E az vs)(n:Nat):VRs E (az.take n) (vs.take n):=
 ⟨by simp[h.1],fun i h1 h2=>by simp only[Gp];exact h.2 i _ _⟩
def VRs.drop{E:Env}{az:List AV}{vs:List Value}(h:VRs E az vs)(n:Nat):VRs E (az.drop n) (vs.drop n):=
 ⟨by simp[h.1],fun i h1 h2=>by simp only[Qaf];exact h.2 (n+i) _ _⟩
def Zej{k:Nat}:∀{xs:List AV},(∀x∈xs,x.cells.length=k)→ ∀n,flat (xs.take n)=(flat xs).take (n*k)
 |[],_,n=>by simp[flat]
 |x::xs,h,0=>by simp[flat]
 |x::xs,h,n+1=>by
  have hx:=h x sm;rw[Qam,Yu,Yu,Zej (fun y hy=>h y (Qy _ hy)) n,Qai,hx,Qab,Q7 (l:=x.cells) om,show n*k+k - k=n*k by omega]
def ZbT{k:Nat}:∀{xs:List AV},(∀x∈xs,x.cells.length=k)→ ∀n,flat (xs.drop n)=(flat xs).drop (n*k)
 |[],_,n=>by simp[flat]
 |x::xs,h,0=>by simp
 |x::xs,h,n+1=>by
  have hx:=h x sm;rw[List.drop_succ_cons,Yu,ZbT (fun y hy=>h y (Qy _ hy)) n,Qbh,hx,Qab,UC (l:=x.cells) om,Q5,show n*k+k - k=n*k by omega]
def bnd(ρ:Operand→AV):Option Operand→Int→Option Int
 |none,d=>some d
 |some x,_=>match ρ x with
  | .int _ i=>some i
  |_=>none
section ops
variable {P:Program} {T:TT} {o:Oper} {ρ:Operand→AV}
def Zeo{E:Env}{a:Act}{x:Operand}{i:Int}{y:Nat}{c:BoundsCode}(h:VR E (ρ x) (a.eval x))(hi:(match ρ x with| .int _ i=>some i|_=>none)=some i)(h0:0≤i)(h1:i≤y)(w:World):
  (Instr.sliceBound (a.eval x) y c).run P w= .ok i.toNat w:=by
 generalize ρ x=v at*;generalize a.eval x=y' at*;cases h<;>simp only[reduceCtorEq,Qr]at hi;subst hi;simp[Instr.sliceBound,asIntOf,h0,h1]
def WG{E:Env}{a:Act}{lo hi:Option Operand}{l h:Int}{len cap:Nat}{s:Bool}(hv:∀x,lo=some x∨hi=some x→VR E (ρ x) (a.eval x))(hl:bnd ρ lo 0=some l)(hh:bnd ρ hi len=some h)
  (h0:0≤l) (h1:l≤h) (h2:h≤cap) (w:World):(Instr.sliceBounds s len cap (lo.map a.eval) (hi.map a.eval) none).run P w= .ok (l.toNat,h.toNat,cap) w:=by
 cases hi with
 |none=>
  simp only[bnd,Qr]at hh;subst hh;cases lo with
  |none=>
   simp only[bnd,Qr]at hl;subst hl;simp[Instr.sliceBounds]
  |some x=>
   have:=Zeo (P:=P) (c:=.sliceB) (y:=len) (hv x (.inl rfl)) hl h0 h1 w;simp[Instr.sliceBounds,this]
 |some y=>
  have hy:=Zeo (P:=P) (c:=if s then .sliceAcap else .sliceAlen) (y:=cap) (hv y (.inr rfl)) hh om h2 w;cases lo with
  |none=>
   simp only[bnd,Qr]at hl;subst hl;cases s<;>simp[Instr.sliceBounds]at hy⊢ <;>simp[hy]
  |some x=>
   have:=Zeo (P:=P) (c:=.sliceB) (y:=h.toNat) (hv x (.inl rfl)) hl h0 om w;cases s<;>simp[Instr.sliceBounds]at hy⊢ <;>simp[hy,this]
def ZhY{t:TypeId}{x:Operand}{lo hi:Option Operand}{r:Zu}{s:List UInt8}{l h:Int}(hT:TOK P T)(ho:o.op= .slice t x lo hi none)(h1:T t=some r)(h2:r.td= .str)(hv:ρ x= .str s)
  (hl:bnd ρ lo 0=some l) (hh:bnd ρ hi s.length=some h) (h3:0≤l) (h4:l≤h) (h5:h≤s.length):YT P o ρ (.str ((s.take h.toNat).drop l.toNat)):=fun E a hops=>by
 have hx:=hops x sO;have hb:∀y,lo=some y∨hi=some y→VR E (ρ y) (a.eval y):=fun y hy=>hops y (by rcases hy with rfl|rfl<;>simp[ho,Op.operands])
 rw[hv]at hx;obtain⟨d,inf,z,hf⟩:=Zd (hT t r h1);have hd:=VB (h2▸hf.fits);subst hd;generalize hy:a.eval x=y at hx;cases hx with|str _=>
 have hsz:(⟨s.toArray⟩:ByteArray).size=s.length:=by show s.toArray.size=s.length;simp
 refine⟨.string ⟨((s.take h.toNat).drop l.toNat).toArray⟩,fun w=>?_,.str _⟩;have hrun:=WG (P:=P) (s:=false) hb hl hh h3 h4 h5 w;have he:execOp a.eval o=(do let v←Instr.sliceAt t (a.eval x) (lo.map a.eval) (hi.map a.eval) none;pure (Next.value v)):=by simp only[execOp,ho];rfl
 rw[he,hy];have hex:(⟨s.toArray⟩:ByteArray).extract l.toNat h.toNat=⟨((s.take h.toNat).drop l.toNat).toArray⟩:=by
  apply ByteArray.ext;rw[ByteArray.data_extract];simp[Qa4,QaZ]
 simp[Instr.sliceAt,Instr.slice,run_underlying hf.und,hsz,hrun,hex]
def Zjk{t:TypeId}{x:Operand}{lo hi:Option Operand}{r re:Zu}{e:TypeId}{k:Nat}{xs:List AV}{ow:Own}{l h:Int}(hT:TOK P T)(ho:o.op= .slice t x lo hi none)(h1:T t=some r)(h2:r.td= .slice e)
  (h2':T e=some re) (hk:k=re.size) (hv:ρ x= .sl k xs ow)
  (hl:bnd ρ lo 0=some l) (hh:bnd ρ hi xs.length=some h) (h3:0≤l) (h4:l≤h) (h5:h≤xs.length):YT P o ρ (.sl k ((xs.take h.toNat).drop l.toNat) .any):=fun E a hops=>by
 have hx:=hops x sO;have hb:∀y,lo=some y∨hi=some y→VR E (ρ y) (a.eval y):=fun y hy=>hops y (by rcases hy with rfl|rfl<;>simp[ho,Op.operands])
 rw[hv]at hx;obtain⟨d,inf,z,hf⟩:=Zd (hT t r h1);obtain⟨d',i',z',hf'⟩:=Zd (hT e re h2');have hd:=ZG (h2▸hf.fits);subst hd;have he:execOp a.eval o=(do let v←Instr.sliceAt t (a.eval x) (lo.map a.eval) (hi.map a.eval) none;pure (Next.value v)):=by simp only[execOp,ho];rfl
 have hlen:((xs.take h.toNat).drop l.toNat).length=h.toNat - l.toNat:=by simp;omega
 rcases hx.WS with⟨⟨ad,hy,_⟩,rfl,_⟩|⟨b,off,cap,cs,hy,hkk,hvs,hF,hcap,hm,_⟩
 ·have hl0:l=0:=by simp at h5;omega
  have hh0:h=0:=by simp at h5;omega
  subst hl0 hh0;have hrun:=fun w=>WG (P:=P) (s:=true) (cap:=0) hb hl hh h3 h4 sm w
  refine⟨.slice ad 0 0,fun w=>?_,.slnil _ _ _ trivial (fun h=>absurd rfl h)⟩;have hrun:=hrun w;rw[he,hy];simp at hrun;cases ad<;>simp[Instr.sliceAt,Instr.slice,run_underlying hf.und,hrun,ZB hf']
 ·have hrun:=fun w=>WG (P:=P) (s:=true) (cap:=cap) hb hl hh h3 h4 om w
  have hsub:∀y∈(xs.take h.toNat).drop l.toNat,y.cells.length=k:=fun y hy=>hkk y (UQ (Md hy))
  have hflat:flat ((xs.take h.toNat).drop l.toNat)=((flat xs).take (h.toNat*k)).drop (l.toNat*k):=by
   rw[ZbT (fun y hy=>hkk y (UQ hy)),Zej hkk]
  by_cases hml:cap=l.toNat
  ·refine⟨.slice (some ⟨b,off,none⟩) (h.toNat - l.toNat) (cap - l.toNat),fun w=>?_,?_⟩
   ·have hr:=hrun w;rw[he,hy];simp only[Instr.sliceAt,Instr.slice,run_underlying hf.und,Sem.run_bind,Result.andThen_ok,hr,ZB hf',if_pos hml,Sem.run_pure]
   ·have h0:h.toNat - l.toNat=0:=om;have hnil:(xs.take h.toNat).drop l.toNat=[]:=Ud om;rw[hnil,h0];exact VR.Va (cs:=[]) sm (VRs.nil E) sm sm sm trivial
  ·refine⟨.slice (some ⟨b,off+l.toNat*k,none⟩) (h.toNat - l.toNat) (cap - l.toNat),fun w=>?_,?_⟩
   ·have hr:=hrun w;rw[he,hy];simp only[Instr.sliceAt,Instr.slice,run_underlying hf.und,Sem.run_bind,Result.andThen_ok,hr,ZB hf',if_neg hml,Sem.run_pure,Un,ZI,hk]
   ·have:=VR.Va (E:=E) (k:=k) (xs:=(xs.take h.toNat).drop l.toNat) (o:=.any) (b:=b) (off:=off+l.toNat*k) (cap:=cap - l.toNat) (cs:=(cs.take (h.toNat*k)).drop (l.toNat*k)) hsub
     (by rw[hflat];exact(hvs.take _).drop _) ?_ om om trivial
    ·rwa [hlen]at this
    ·intro j u hj;rw[UE]at hj;have hj2:cs[l.toNat*k+j]? =some u:=by
      rcases Qj (l.toNat*k+j) (h.toNat*k)with hlt|hge
      ·rwa [QX hlt]at hj
      ·rw[UJ,if_neg om]at hj;cases hj
     have:=hF _ _ hj2
     rwa [←MS]at this
end ops
end
def splice(cells:List AV)(off:Nat)(cs:List AV):List AV:=cells.take off++(cs++cells.drop (off+cs.length))
def ZdE(place:Nat→Option (Nat×Nat))(cells:List AV):List (Nat×AV)→Option (List AV)
 |[]=>some cells
 |(i,v)::rest=>
  match place i with
  |none=>none
  |some (off,size)=>if v.cells.length=size∧off+size≤cells.length then ZdE place (splice cells off v.cells) rest else none
def foldl_set{us:List Value}:∀(off j:Nat) (cells:Array Value),off+(j+us.length)≤cells.size→
  ((us.zipIdx j).foldl (fun cs (c:Value×Nat)=>cs.setIfInBounds (off+c.2) c.1) cells).toList=cells.toList.take (off+j)++(us++cells.toList.drop (off+j+us.length)):=by
 induction us with
 |nil=>intro off j cells h;simp
 |cons u us ih=>
  intro off j cells h;simp only[Qo]at h;rw[List.zipIdx_cons,Uu,ih off (j+1) _ (by simp;omega),QaU];have hlt:off+j<cells.toList.length:=by simp;omega
  rw[show off+(j+1)=off+j+1 by omega,Qn (by simpa using hlt),List.getElem_set_self,List.take_set_of_le om,
   show off+j+1+us.length=off+j+(us.length+1) by omega,List.drop_set_of_lt om,Qo,Ua]
  rfl
def ZfW{E:Env}{place:Nat→Option (Nat×Nat)}:∀{parts:List (Nat×AV)} {vals:List (Nat×Value)} {cells out:List AV} {vs:Array Value},
  ZdE place cells parts=some out→VRs E cells vs.toList→vals.length=parts.length→
  (∀i (h:i<parts.length) (h':i<vals.length),parts[i].1=vals[i].1∧VR E parts[i].2 vals[i].2∧(∀c∈parts[i].2.cells,c.one=true))→
  ∃us,Instr.fill place vs vals=some us∧VRs E out us.toList
 |[],vals,cells,out,vs,hf,hv,hl,_=>by
  have:vals=[]:=by simpa using hl
  subst this;simp only[ZdE,Qr]at hf;subst hf;exact⟨vs,rfl,hv⟩
 |(i,v)::rest,vals,cells,out,vs,hf,hv,hl,hp=>by
  cases vals with
  |nil=>simp at hl
  |cons iv vals=>
   obtain⟨i',u⟩:=iv;obtain⟨h1,h2,h3⟩:=hp 0 sm sm;simp only[Ue]at h1 h2 h3;subst h1;simp only[ZdE]at hf;simp only[Instr.fill];cases hpl:place i with
   |none=>simp[hpl]at hf
   |some os=>
    obtain⟨off,size⟩:=os;simp only[hpl]at hf⊢;split at hf
    ·rename_i hc;have hcv:=h2.cells h3;have hus:u.cells.size=size:=by have:=hcv.1;simp at this;omega
     have hcs:vs.size=cells.length:=by have:=hv.1;simpa using this
     rw[if_neg (by simp[hus,hcs];omega)];refine ZfW hf ?_ (by simpa using hl) (fun j hj hj'=>?_)
     ·have:=foldl_set (us:=u.cells.toList) off 0 vs (by simp[hus];omega);rw[←Array.foldl_toList,Array.toList_zipIdx,this];simp only[Uz];have hlen:u.cells.toList.length=v.cells.length:=hcv.1;unfold splice;rw[hlen];exact(hv.take _).append (hcv.append (hv.drop _))
     ·have:=hp (j+1) (by simpa using hj) (by simpa using hj');simpa using this
    ·cases hf
def YX(ρ:Operand→AV)(ps:List (Nat×Operand)):List (Nat×AV):=ps.map fun p=>(p.1,ρ p.2)
section ops
variable {P:Program} {T:TT} {o:Oper} {ρ:Operand→AV}
def V8(T:TT)(fs:List (Nat×TypeId)):List (Option (Nat×Nat)):=fs.map fun f=>(T f.2).map fun r=>(f.1,r.size)
def Zjs{gs:Array Field}{fs:List (Nat×TypeId)}(hT:TOK P T)(hfit:gs.toList.map (fun g=>(g.offset,g.type))=fs)(hall:∀f∈fs,T f.2≠none)(w:World):
  ∃ps:Array (Nat×Nat),(gs.mapM (m:=Sem) fun f=>do pure (f.offset,←sizeOf f.type)).run P w= .ok ps w∧ ∀i:Nat,ps[i]? =(V8 T fs)[i]?.join:=by
 have key:∀(gs:List Field) (fs:List (Nat×TypeId)),gs.map (fun g=>(g.offset,g.type))=fs→(∀f∈fs,T f.2≠none)→
   ∃ps:List (Nat×Nat),(gs.mapM (m:=Sem) fun f=>do pure (f.offset,←sizeOf f.type)).run P w= .ok ps w∧ ∀i:Nat,ps[i]? =(V8 T fs)[i]?.join:=by
  intro gs;induction gs with
  |nil=>intro fs h _;subst h;exact⟨[],sm,by simp[V8]⟩
  |cons g gs ih=>
   intro fs h hall;subst h;obtain⟨ps,h1,h2⟩:=ih _ rfl (fun f hf=>hall f (Qy _ hf));have hg:=hall (g.offset,g.type) sm;cases hr:T g.type with
   |none=>exact absurd hr hg
   |some r=>
    obtain⟨d,i,z,hf⟩:=Zd (hT g.type r hr);refine⟨(g.offset,r.size)::ps,?_,?_⟩
    ·rw[Qbz];simp only[Sem.run_bind,ZB hf,Result.andThen_ok,Sem.run_pure,h1]
    ·intro i;cases i with
     |zero=>simp[V8,hr]
     |succ i=>simpa[V8]using h2 i
 obtain⟨ps,h1,h2⟩:=key gs.toList fs hfit hall;refine⟨ps.toArray,?_,by simpa using h2⟩;rw[Qal,Sem.run_map,h1];rfl
def Zo5{t:TypeId}{ps:Array (Nat×Operand)}{r:Zu}{fs:List (Nat×TypeId)}{out:List AV}(hT:TOK P T)(ho:o.op= .build t ps)(h1:T t=some r)(h2:r.td= .struct fs)(hall:∀f∈fs,T f.2≠none)
  (hf:ZdE (fun i=>(V8 T fs)[i]?.join) r.zero (YX ρ ps.toList)=some out) (hone:∀p∈YX ρ ps.toList,∀c∈p.2.cells,c.one=true):YT P o ρ (.agg out):=fun E a h=>by
 obtain⟨d,inf,z,hr⟩:=Zd (hT t r h1);have hfit:=hr.fits;rw[h2]at hfit;cases d<;>try(simp[TD.fits]at hfit;done)
 rename_i gs;simp only[TD.fits,Qh,beq_iff_eq]at hfit;have hz:VRs E r.zero z.cells.toList:=Xr hr.zfits;have hparts:∀i (h:i<(YX ρ ps.toList).length) (h':i<(ps.toList.map fun p=>(p.1,a.eval p.2)).length),
   (YX ρ ps.toList)[i].1=(ps.toList.map fun p=>(p.1,a.eval p.2))[i].1∧VR E (YX ρ ps.toList)[i].2 (ps.toList.map fun p=>(p.1,a.eval p.2))[i].2∧(∀c∈(YX ρ ps.toList)[i].2.cells,c.one=true):=by
  intro i h1 h2;refine⟨by simp[YX],?_,fun c hc=>hone _ (Qa h1) c hc⟩;simp only[YX,QV];have hi:i<ps.toList.length:=by simpa[YX]using h1
  exact h _ (by rw[ho];simp only[Op.operands];simp only[QaB,Qi];exact⟨ps.toList[i],sm,rfl⟩)
 obtain⟨us,hu1,hu2⟩:=ZfW hf hz (by simp[YX]) hparts;refine⟨.agg us,fun w=>?_,?_⟩
 ·obtain⟨pl,hp1,hp2⟩:=Zjs (P:=P) (T:=T) (gs:=gs) hT hfit.1 hall w;have he:execOp a.eval o=(do let v←Instr.build t (ps.map fun(i,x)=>(i,a.eval x));pure (Next.value v)):=by simp only[execOp,ho]
  have hpl:(fun i=>pl[i]?)=(fun i=>(V8 T fs)[i]?.join):=funext hp2;have hm:(ps.map fun(i,x)=>(i,a.eval x)).toList=ps.toList.map fun p=>(p.1,a.eval p.2):=sm
  rw[he];simp only[Instr.build,Sem.run_bind,Yj hr,Result.andThen_ok,run_underlying hr.und,hp1,hm];have hu1':Instr.fill (fun x=>pl[x]?) z.cells (ps.toList.map fun p=>(p.1,a.eval p.2))=some us:=by rw[hpl];exact hu1
  rw[hu1'];rfl
 ·have:us=us.toList.toArray:=sm;rw[this];exact .agg out us.toList hu2.1 hu2.2
def ZpS{t:TypeId}{x:Operand}{f:Nat}{r rf:Zu}{fs:List (Nat×TypeId)}{fo ft:Nat}{cs:List AV}(hT:TOK P T)(ho:o.op= .field t x f)(h1:T t=some r)(h2:r.td= .struct fs)
  (h3:fs[f]? =some (fo,ft)) (h4:T ft=some rf) (hv:ρ x= .agg cs) (hn:rf.isAgg=false→fo<cs.length):
  YT P o ρ (if rf.isAgg then .agg ((cs.drop fo).take rf.size)else cs.getD fo .dead):=fun E a h=>by
 have hx:=h x sO;rw[hv]at hx;obtain⟨d,i,z,hf⟩:=Zd (hT t r h1);obtain⟨d',i',z',hf'⟩:=Zd (hT ft rf h4);have hfit:=hf.fits;rw[h2]at hfit;cases d<;>try(simp[TD.fits]at hfit;done)
 rename_i gs;simp only[TD.fits,Qh,beq_iff_eq]at hfit;have hg:∃g,gs[f]? =some g∧g.offset=fo∧g.type=ft:=by
  have h3':=h3;rw[←hfit.1,Q8]at h3';cases hq:gs.toList[f]? with
  |none=>simp[hq]at h3'
  |some g=>rw[hq]at h3';simp at h3';exact⟨g,by rw[←Array.getElem?_toList];exact hq,h3'.1,h3'.2⟩
 obtain⟨g,hg1,hg2,hg3⟩:=hg;generalize hy:a.eval x=y at hx;cases hx with|agg _ vs hl hvs=>
 have he:execOp a.eval o=(do let v←Instr.field t (a.eval x) f;pure (Next.value v)):=by simp only[execOp,ho]
 have hvv:VRs E cs vs:=⟨hl,hvs⟩
 cases hag:rf.isAgg with
 |true=>
  refine⟨.agg ((vs.drop fo).take rf.size).toArray,fun w=>?_,?_⟩
  ·rw[he,hy];have hpt:(part g.type vs.toArray g.offset).run P w= .ok (.agg ((vs.drop fo).take rf.size).toArray) w:=by
    unfold part;rw[hg3,hg2];simp only[Sem.run_bind,JC hf',hag,Result.andThen_ok,if_true,ZB hf',Sem.run_pure,List.extract_toArray,Qa4];congr 4;omega
   simp only[Instr.field,Sem.run_bind,run_underlying hf.und,Result.andThen_ok,hg1,asAgg,Sem.run_pure,hpt]
  ·have:=(hvv.drop fo).take rf.size;simp only[if_true];exact .agg _ _ this.1 this.2
 |false=>
  have hlt:=hn hag;refine⟨vs[fo]'om,fun w=>?_,?_⟩
  ·rw[he,hy];have hpt:(part g.type vs.toArray g.offset).run P w= .ok (vs[fo]'om) w:=by
    unfold part;rw[hg3,hg2];simp[JC hf',hag,Qb (show fo<vs.length by omega)]
   simp only[Instr.field,Sem.run_bind,run_underlying hf.und,Result.andThen_ok,hg1,asAgg,Sem.run_pure,hpt]
  ·simp only[QS,if_false];have:=hvs fo hlt om;simpa[Qp,Qb hlt]using this
end ops
end Go.Abs
