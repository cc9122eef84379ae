/- The text of a value. -/
import Derived.Test.YthgbkalgmicniaaGreatDoorM10
import Derived.Lib.ItoaLen
import Derived.Test.YthgbkalgmicniaaGreatDoorM09
import Derived.Test.YthgbkalgmicniaaGreatDoorM08
set_option linter.all false
namespace Go.Proofs.YthgbkalgmicniaaGreatDoor
open Go.Abs
set_option maxRecDepth 100000
def txt:Tm → List UInt8
 | .mk k n s l=>if k = 1 then Lib.itoa n else if k = 4 then ((s ++ [40]) ++ Lib.join (txts l) [44]) ++ [41] else s
where txts:List Tm → List (List UInt8)
 | []=>[]
 | t :: r=>txt t :: txts r
theorem txts_eq:∀ l:List Tm,txt.txts l = l.map txt
 | []=>rfl
 | t :: r=>by rw [txt.txts,txts_eq r]; rfl
theorem txt_eq (t:Tm):txt t = if t.kind = 1 then Lib.itoa t.num else if t.kind = 4 then ((t.name ++ [40]) ++ Lib.join (t.args.map txt) [44]) ++ [41] else t.name:=by
 cases t; rw [txt,txts_eq]; rfl
def okv (t:Tm):Bool:=plain t && shape t
theorem all_and (p q:Tm → Bool):∀ t:Tm,t.all (fun u=>p u && q u) = (t.all p && t.all q)
 | .mk k n s l=>by
  have hl:∀ r:List Tm,(∀ u ∈ r,u ∈ l) → Tm.all.alls (fun u=>p u && q u) r = (Tm.all.alls p r && Tm.all.alls q r):=by
   intro r
   induction r with
   | nil=>intro _; rfl
   | cons t r ih =>
    intro hr
    have ht:=all_and p q t
    simp only [Tm.all.alls,ht,ih (fun u hu=>hr u (List.mem_cons_of_mem _ hu))]
    cases t.all p <;> cases t.all q <;> simp
  simp only [Tm.all,hl l (fun u h=>h)]
  cases p (.mk k n s l) <;> cases q (.mk k n s l) <;> simp
termination_by t=>SizeOf.sizeOf t
decreasing_by
 have:=List.sizeOf_lt_of_mem (hr t (by simp))
 simp only [Tm.mk.sizeOf_spec]; omega
theorem all_here {p:Tm → Bool} {t:Tm} (h:t.all p = true):p t = true:=by
 rw [Tm.all_eq,Bool.and_eq_true] at h; exact h.1
theorem all_arg {p:Tm → Bool} {t u:Tm} (h:t.all p = true) (hu:u ∈ t.args):u.all p = true:=by
 rw [Tm.all_eq,Bool.and_eq_true,Tm.alls_iff,List.all_eq_true] at h; exact h.2 u hu
theorem sym_len {s:List UInt8} (h:sym s = true):s.length ≤ 32:=by
 simp only [sym,wd,Bool.and_eq_true,decide_eq_true_eq] at h
 exact h.1.2.2
theorem okv_cases {t:Tm} (h:okv t = true):(t.kind = 1 ∧ -2147483647 ≤ t.num ∧ t.num ≤ 2147483647 ∧ t.name = [] ∧ t.args = []) ∨
  (t.kind = 2 ∧ t.num = 0 ∧ sym t.name = true ∧ t.args = []) ∨ (t.kind = 4 ∧ t.num = 0 ∧ sym t.name = true ∧ 1 ≤ t.args.length ∧ t.args.length ≤ 8):=by
 simp only [okv,plain,Bool.and_eq_true,Bool.or_eq_true,beq_iff_eq] at h
 obtain ⟨(h1 | h1) | h1,h2⟩:=h
 ·refine .inl ⟨h1,?_⟩
  simp [shape,h1,nargs] at h2
  exact ⟨h2.1.1.1,h2.1.1.2,h2.1.2,h2.2⟩
 ·refine .inr (.inl ⟨h1,?_⟩)
  simp [shape,h1,nargs,named] at h2
  exact ⟨h2.1.1.1,h2.1.2,h2.2⟩
 ·refine .inr (.inr ⟨h1,?_⟩)
  simp [shape,h1,nargs,named] at h2
  refine ⟨h2.1.1.1,h2.1.2,?_,?_⟩ <;> omega
theorem txt_len:∀ t:Tm,t.all okv = true → (txt t).length ≤ 60 * t.sz
 | .mk k n s l=>fun h=>by
  have hl:∀ r:List Tm,(∀ u ∈ r,u ∈ l) → Lib.lens (r.map txt) ≤ 60 * Tm.sz.szs r:=by
   intro r
   induction r with
   | nil=>intro _; simp [Lib.lens]
   | cons t r ih =>
    intro hr
    have:=txt_len t (all_arg (t:=.mk k n s l) h (hr t (by simp)))
    have:=ih (fun u hu=>hr u (List.mem_cons_of_mem _ hu))
    simp only [List.map_cons,Lib.lens,Tm.sz.szs,List.sum_cons] at *
    omega
  rw [txt_eq]
  rcases okv_cases (all_here h) with ⟨h1,h2,h3,h4,h5⟩ | ⟨h1,h2,h3,h4⟩ | ⟨h1,h2,h3,h4,h5⟩
  ·rw [if_pos h1]
   have:=Lib.itoa_length_le (Tm.mk k n s l).num (by omega) (by omega)
   have:=(Tm.mk k n s l).sz_pos
   omega
  ·rw [if_neg (by omega),if_neg (by omega)]
   have:=sym_len h3
   have:=(Tm.mk k n s l).sz_pos
   omega
  ·rw [if_neg (by omega),if_pos h1]
   have h6:=sym_len h3
   have h7:=hl l (fun u h=>h)
   have h8:(Tm.mk k n s l).args = l:=rfl
   have h9:(Tm.mk k n s l).name = s:=rfl
   rw [h8] at h4 h5 ⊢
   rw [h9] at h6 ⊢
   simp only [List.length_append,List.length_cons,List.length_nil,Tm.sz]
   cases hc:l with
   | nil=>rw [hc] at h4; simp at h4
   | cons x r =>
    rw [hc] at h7 h5
    rw [List.map_cons,Lib.join_length]
    simp only [List.map_cons,List.length_cons,List.length_nil,List.length_map] at *
    omega
termination_by t=>SizeOf.sizeOf t
decreasing_by
 have:=List.sizeOf_lt_of_mem (hr t (by simp))
 simp only [Tm.mk.sizeOf_spec]; omega
def st94 (t:Tm) (n:Nat) (H:AHeap) (i:Nat):AState :=
 ⟨[(21,.int .i64 i),(20,.int .i64 t.args.length),(19,.sl 4 (t.args.map Tm.enc) .any),(3,.sl 1 (((t.args.take i).map txt).map .str) (.buf n 200)),(1,.ptr n 1 0)],[(1,.box t.cs),(200,.buf 9 1 i)],H⟩
theorem a94 (t:Tm) (ht:t.Good) (hv:t.all okv = true):PureT Tryz.prog 192 [t.enc] (.str (txt t)):=by
 intro n H hn hT
 have hs:=ht.name
 have hlen:=ht.len
 refine a_fun tok (fun_of Tryz.func192 rfl rfl) (by simp) fun B=>?_
 repeat refine kn rfl ?_
 refine k_region tok rfl (by kernel_rfl) ?_
 simp only [go_sem,simprocAttr]
 repeat refine kn rfl ?_
 refine k_region tok rfl (by kernel_rfl) ?_
 simp only [go_sem,simprocAttr]
 repeat refine kn rfl ?_
 rcases okv_cases (all_here hv) with ⟨h1,h2,h3,h4,h5⟩ | ⟨h1,h2,h3,h4⟩ | ⟨h1,h2,h3,h4,h5⟩
 ·have e1:(t.kind == 1) = true:=by simp [h1]
  repeat refine kn rfl ?_
  refine k_region tok rfl (by kernel_rfl) ?_
  simp only [go_sem,simprocAttr,e1]
  repeat refine kn rfl ?_
  refine k_cond_t rfl (by simp only [go_sem,simprocAttr]) ?_
  repeat refine kn rfl ?_
  refine k_region tok rfl (by kernel_rfl) ?_
  simp only [go_sem,simprocAttr]
  refine callT (fun_of Tryz.func214 rfl rfl) (a123 t.num (by omega) (by omega)) hn hT (by simp only [go_sem,simprocAttr]) ?_
  simp only [go_sem,simprocAttr]
  repeat refine kn rfl ?_
  refine k_ret rfl ?_
  refine post_one ?_ (.str _) rfl
  rw [txt_eq,if_pos h1]
  exact .refl _
 ·have e1:(t.kind == 1) = false:=by simp [h1]
  have e4:(t.kind == 4) = false:=by simp [h1]
  have e6:(t.kind == 6) = false:=by simp [h1]
  have e5:(t.kind == 5) = false:=by simp [h1]
  repeat refine kn rfl ?_
  refine k_region tok rfl (by kernel_rfl) ?_
  simp only [go_sem,simprocAttr,e1]
  repeat refine kn rfl ?_
  refine k_cond_f rfl (by simp only [go_sem,simprocAttr]) ?_
  repeat refine kn rfl ?_
  refine k_region tok rfl (by kernel_rfl) ?_
  simp only [go_sem,simprocAttr,e4]
  repeat refine kn rfl ?_
  refine k_cond_f rfl (by simp only [go_sem,simprocAttr]) ?_
  repeat refine kn rfl ?_
  refine k_region tok rfl (by kernel_rfl) ?_
  simp only [go_sem,simprocAttr,e6]
  repeat refine kn rfl ?_
  refine k_cond_f rfl (by simp only [go_sem,simprocAttr]) ?_
  repeat refine kn rfl ?_
  refine k_region tok rfl (by kernel_rfl) ?_
  simp only [go_sem,simprocAttr,e5]
  repeat refine kn rfl ?_
  refine k_cond_f rfl (by simp only [go_sem,simprocAttr]) ?_
  repeat refine kn rfl ?_
  repeat refine kn rfl ?_
  refine k_region tok rfl (by kernel_rfl) ?_
  simp only [go_sem,simprocAttr]
  repeat refine kn rfl ?_
  refine k_ret rfl ?_
  refine post_one ?_ (.str _) rfl
  rw [txt_eq,if_neg (by omega),if_neg (by omega)]
  exact .refl _
 ·have e1:(t.kind == 1) = false:=by simp [h1]
  have e4:(t.kind == 4) = true:=by simp [h1]
  repeat refine kn rfl ?_
  refine k_region tok rfl (by kernel_rfl) ?_
  simp only [go_sem,simprocAttr,e1]
  repeat refine kn rfl ?_
  refine k_cond_f rfl (by simp only [go_sem,simprocAttr]) ?_
  repeat refine kn rfl ?_
  refine k_region tok rfl (by kernel_rfl) ?_
  simp only [go_sem,simprocAttr,e4]
  repeat refine kn rfl ?_
  refine k_cond_t rfl (by simp only [go_sem,simprocAttr]) ?_
  repeat refine kn rfl ?_
  refine k_region tok rfl (by kernel_rfl) ?_
  simp only [go_sem,simprocAttr]
  repeat refine kn rfl ?_
  refine k_region tok rfl (by kernel_rfl) ?_
  simp only [go_sem,simprocAttr]
  repeat refine kn rfl ?_
  refine k_adopt 3 200 9 1 rfl rfl ?_
  refine k_loop_ix (st94 t n H) t.args.length rfl ?_ ?_
  ·refine AWk_kept ?_ ?_ ?_ ?_ <;> repeat' first | exact trivial | refine q0 ?_ | exact qb | exact q1 | exact q2 | exact q3 | exact rfl | refine And.intro ?_ ?_ | exact q4 | exact q5 | exact q6 | exact q7 | exact Inside.ptr _ _ _ (.inr ⟨rfl,rfl⟩) | exact q8 | exact q9 | exact qd | exact Tm.ins _ | exact Tm.inss _ _ | exact Am.ins _ | exact Am.inss _ _ | refine ins_buf_str ?_ | refine Tm.ins_buf ?_ | refine Am.ins_buf ?_ | exact qf
  intro i hi
  refine k_st rfl ?_
  rcases Nat.lt_or_ge i t.args.length with h | h
  ·repeat refine kn rfl ?_
   refine k_region tok rfl (by kernel_rfl) ?_
   simp only [go_sem,simprocAttr,h]
   repeat refine kn rfl ?_
   refine k_cond_t rfl (by simp only [go_sem,simprocAttr]) ?_
   repeat refine kn rfl ?_
   refine k_region tok rfl (by kernel_rfl) ?_
   simp only [go_sem,simprocAttr,Tm.getD_enc _ _ h,h]
   repeat refine kn rfl ?_
   refine k_region tok rfl (by kernel_rfl) ?_
   simp only [go_sem,simprocAttr]
   have hmin:(t.args.take i).length = i:=List.length_take_of_le (by omega)
   refine callT (fun_of Tryz.func192 rfl rfl) (a94 t.args[i] (ht.arg (List.getElem_mem h)) (all_arg hv (List.getElem_mem h))) hn hT (by simp only [go_sem,simprocAttr,hmin]) ?_
   simp only [go_sem,simprocAttr,hmin]
   refine ⟨by first | exact ⟨rfl,by decide⟩ | exact rfl,⟨le_maxLen (by omega),by omega⟩,?_⟩
   repeat refine kn rfl ?_
   refine k_region tok rfl (by kernel_rfl) ?_
   simp only [go_sem,simprocAttr]
   repeat refine kn rfl ?_
   refine k_nil ?_
   refine AWk_kept ?_ ?_ ?_ ?_ <;> repeat' first | exact trivial | refine q0 ?_ | exact qb | exact q1 | exact q2 | exact q3 | exact rfl | refine And.intro ?_ ?_ | exact q4 | exact q5 | exact q6 | exact q7 | exact Inside.ptr _ _ _ (.inr ⟨rfl,rfl⟩) | exact q8 | exact q9 | exact qd | exact Tm.ins _ | exact Tm.inss _ _ | exact Am.ins _ | exact Am.inss _ _ | refine ins_buf_str ?_ | refine Tm.ins_buf ?_ | refine Am.ins_buf ?_ | exact qf
   ·simp only [go_sem,simprocAttr]
    rw [IntWalk.i64_in _ (by omega)]; exact .refl _
   ·simp only [go_sem,simprocAttr,List.take_succ_eq_append_getElem h,List.map_append]
    exact .refl _
  ·repeat refine kn rfl ?_
   refine k_region tok rfl (by kernel_rfl) ?_
   simp only [go_sem,simprocAttr,Nat.not_lt.2 h]
   repeat refine kn rfl ?_
   refine k_cond_f rfl (by simp only [go_sem,simprocAttr]) ?_
   repeat refine kn rfl ?_
   refine k_exit_round rfl rfl rfl ?_
   have hi':i = t.args.length:=by omega
   subst hi'
   have hl:=txt_len t hv
   rw [txt_eq,if_neg (by omega),if_pos h1] at hl
   simp only [List.length_append,List.length_cons,List.length_nil] at hl
   have hsz:=ht.sz
   repeat refine kn rfl ?_
   repeat refine kn rfl ?_
   refine k_draw tok mixed drawO rfl rfl (by kernel_rfl) (by kernel_rfl) ?_
   simp only [go_sem,simprocAttr,List.take_length]
   refine ⟨by omega,?_⟩
   refine callT (fun_of Tryz.func107 rfl rfl) (a92 (t.args.map txt) [44] (.buf n 200) (by simp; omega) (by omega)) hn hT (by simp only [go_sem,simprocAttr]) ?_
   simp only [go_sem,simprocAttr]
   refine ⟨by simp only [List.length_append,List.length_cons,List.length_nil]; omega,by simp only [List.length_append,List.length_cons,List.length_nil]; omega,?_⟩
   repeat refine kn rfl ?_
   refine k_ret rfl ?_
   refine post_one ?_ (.str _) rfl
   rw [txt_eq,if_neg (by omega),if_pos h1]
   exact .refl _
termination_by SizeOf.sizeOf t
decreasing_by exact Tm.size_lt (List.getElem_mem h)
end Go.Proofs.YthgbkalgmicniaaGreatDoor

/- Texts, validity of atoms. -/
namespace Go.Proofs.YthgbkalgmicniaaGreatDoor
open Go.Abs
set_option maxRecDepth 100000
theorem value_okv {t:Tm} (h:valueT t = true):t.all okv = true:=by
 simp only [valueT,validT,Bool.and_eq_true] at h
 have:=all_and plain shape t
 rw [h.1,h.2.2] at this
 exact this
theorem a58 (t:Tm) (ht:t.Good) (hv:valueT t = true):PureT Tryz.prog 109 [t.enc] (.str (txt t)):=by
 intro n H hn hT
 have h1:validT t = true:=by simp only [valueT,Bool.and_eq_true] at hv; exact hv.2
 refine a_fun tok (fun_of Tryz.func109 rfl rfl) (by simp) fun B=>?_
 repeat refine kn rfl ?_
 refine k_region tok rfl (by kernel_rfl) ?_
 simp only [go_sem,simprocAttr]
 repeat refine kn rfl ?_
 refine k_region tok rfl (by kernel_rfl) ?_
 simp only [go_sem,simprocAttr]
 refine callT (fun_of Tryz.func97 rfl rfl) (a72 t ht) hn hT (by simp only [go_sem,simprocAttr,h1]) ?_
 simp only [go_sem,simprocAttr,h1]
 repeat refine kn rfl ?_
 refine k_cond_f rfl (by simp only [go_sem,simprocAttr]) ?_
 repeat refine kn rfl ?_
 refine k_region tok rfl (by kernel_rfl) ?_
 simp only [go_sem,simprocAttr]
 refine callT (fun_of Tryz.func192 rfl rfl) (a94 t ht (value_okv hv)) hn hT (by simp only [go_sem,simprocAttr]) ?_
 simp only [go_sem,simprocAttr]
 repeat refine kn rfl ?_
 refine k_ret rfl ?_
 refine post_one ?_ (.str _) rfl
 try simp only [go_sem,simprocAttr]
 exact .refl _
theorem a44 (t:Tm) (ht:t.Good):PureT Tryz.prog 98 [t.enc] (.bool (!valueT t)):=by
 intro n H hn hT
 refine a_fun tok (fun_of Tryz.func98 rfl rfl) (by simp) fun B=>?_
 repeat refine kn rfl ?_
 refine k_region tok rfl (by kernel_rfl) ?_
 simp only [go_sem,simprocAttr]
 repeat refine kn rfl ?_
 refine k_region tok rfl (by kernel_rfl) ?_
 simp only [go_sem,simprocAttr]
 refine callT (fun_of Tryz.func46 rfl rfl) (a37 t ht) hn hT (by simp only [go_sem,simprocAttr]) ?_
 simp only [go_sem,simprocAttr]
 repeat refine kn rfl ?_
 refine k_ret rfl ?_
 refine post_one ?_ (.bool _) rfl
 try simp only [go_sem,simprocAttr]
 exact .refl _
def idxF {α:Type} (p:α → Bool) (l:List α):Int:=if l.any p then ((l.findIdx p:Nat):Int) else -1
theorem idxF_ge {α:Type} (p:α → Bool) (l:List α):decide (0 ≤ idxF p l) = l.any p:=by
 unfold idxF; split
 ·rename_i h; rw [h]; simp
 ·rename_i h; simp only [Bool.not_eq_true] at h; rw [h]; rfl
theorem idxF_at {α:Type} {p:α → Bool} {l:List α} {i:Nat} (h:i < l.length) (hp:p l[i] = true) (hq:∀ j (h:j < l.length),j < i → p l[j] = false):idxF p l = i:=by
 have h1:l.any p = true:=List.any_eq_true.2 ⟨_,List.getElem_mem h,hp⟩
 unfold idxF
 rw [if_pos h1]
 congr 1
 rw [List.findIdx_eq h]
 exact ⟨hp,fun j hj=>by rw [hq j (by omega) hj]⟩
theorem idxF_none {α:Type} {p:α → Bool} {l:List α} (hq:∀ j (h:j < l.length),p l[j] = false):idxF p l = -1:=by
 unfold idxF
 rw [if_neg]
 rw [List.any_eq_true]
 rintro ⟨x,hx,hp⟩
 obtain ⟨j,hj,rfl⟩:=List.getElem_of_mem hx
 rw [hq j hj] at hp; cases hp
structure CondF {α:Type} (f:Nat) (caps:List AV) (enc:α → AV) (l:List α) (p:α → Bool):Prop where
 fn:∃ fn c,Fun Tryz.prog f fn c
 on:∀ x ∈ l,PureT Tryz.prog f (enc x :: caps) (.bool (p x))
 below:∀ n,AllP (fun c=>Below n c) caps
def st80 (l:List Tm) (f:Nat) (caps:List AV) (H:AHeap) (i:Nat):AState :=
 ⟨[(8,.int .i64 i),(7,.int .i64 l.length),(1,.fn (.func f) caps),(0,.sl 4 (l.map Tm.enc) .any)],[],H⟩
theorem a80 (l:List Tm) (hl:l.length ≤ 1000000) (f:Nat) (caps:List AV) (p:Tm → Bool) (hp:CondF f caps Tm.enc l p):PureT Tryz.prog 100 [.sl 4 (l.map Tm.enc) .any,.fn (.func f) caps] (.int .i64 (idxF p l)):=by
 intro n H hn hT
 obtain ⟨⟨fn,c,hf⟩,hp,hbl⟩:=hp
 have hfi:∀ q,Inside n q (.fn (.func f) caps):=fun q=>(Below.fn _ _ fun i hi=>(hbl n).mem _ (List.getElem_mem hi)).inside
 refine a_fun tok (fun_of Tryz.func100 rfl rfl) (by simp) fun B=>?_
 repeat refine kn rfl ?_
 refine k_region tok rfl (by kernel_rfl) ?_
 simp only [go_sem,simprocAttr]
 repeat refine kn rfl ?_
 refine k_region tok rfl (by kernel_rfl) ?_
 simp only [go_sem,simprocAttr]
 repeat refine kn rfl ?_
 refine k_loop_p (st80 l f caps H) (fun i=>∀ j (h:j < l.length),j < i → p l[j] = false) l.length rfl ?_ (fun j _ h=>absurd h (Nat.not_lt_zero _)) ?_
 ·refine AWk_kept ?_ ?_ ?_ ?_ <;> repeat' first | exact trivial | refine q0 ?_ | exact qb | exact q1 | exact q2 | exact q3 | exact rfl | refine And.intro ?_ ?_ | exact q4 | exact q5 | exact q6 | exact q7 | exact Inside.ptr _ _ _ (.inr ⟨rfl,rfl⟩) | exact q8 | exact q9 | exact qd | exact Tm.ins _ | exact Tm.inss _ _ | exact Am.ins _ | exact Am.inss _ _ | refine ins_buf_str ?_ | refine Tm.ins_buf ?_ | refine Am.ins_buf ?_ | exact qf
  exact hfi _
 intro i hi hq
 refine k_st rfl ?_
 rcases Nat.lt_or_ge i l.length with h | h
 ·repeat refine kn rfl ?_
  refine k_region tok rfl (by kernel_rfl) ?_
  simp only [go_sem,simprocAttr,h]
  repeat refine kn rfl ?_
  refine k_cond_t rfl (by simp only [go_sem,simprocAttr]) ?_
  repeat refine kn rfl ?_
  refine k_region tok rfl (by kernel_rfl) ?_
  simp only [go_sem,simprocAttr]
  repeat refine kn rfl ?_
  refine k_region tok rfl (by kernel_rfl) ?_
  simp only [go_sem,simprocAttr,Tm.getD_enc _ _ h,h]
  refine callV (avs:=[l[i].enc]) rfl hf (hp l[i] (List.getElem_mem h) _ _ (Nat.succ_pos _) (hT.full hn)) rfl ?_
  cases h1:p l[i] with
  | true =>
   simp only [go_sem,simprocAttr]
   repeat refine kn rfl ?_
   refine k_cond_t rfl (by simp only [go_sem,simprocAttr]) ?_
   repeat refine kn rfl ?_
   refine k_region tok rfl (by kernel_rfl) ?_
   simp only [go_sem,simprocAttr]
   repeat refine kn rfl ?_
   refine k_ret_round rfl ?_
   refine post_one ?_ (.int _ _) rfl
   rw [idxF_at h h1 hq]
   exact .refl _
  | false =>
   simp only [go_sem,simprocAttr]
   repeat refine kn rfl ?_
   refine k_cond_f rfl (by simp only [go_sem,simprocAttr]) ?_
   repeat refine kn rfl ?_
   refine k_region tok rfl (by kernel_rfl) ?_
   simp only [go_sem,simprocAttr]
   repeat refine kn rfl ?_
   refine k_nil ?_
   refine ⟨fun j hj hji=>?_,?_⟩
   ·rcases Nat.lt_or_ge j i with h' | h'
    ·exact hq j hj h'
    ·have:j = i:=by omega
     subst this; exact h1
   ·refine AWk_kept ?_ ?_ ?_ ?_ <;> repeat' first | exact trivial | refine q0 ?_ | exact qb | exact q1 | exact q2 | exact q3 | exact rfl | refine And.intro ?_ ?_ | exact q4 | exact q5 | exact q6 | exact q7 | exact Inside.ptr _ _ _ (.inr ⟨rfl,rfl⟩) | exact q8 | exact q9 | exact qd | exact Tm.ins _ | exact Tm.inss _ _ | exact Am.ins _ | exact Am.inss _ _ | refine ins_buf_str ?_ | refine Tm.ins_buf ?_ | refine Am.ins_buf ?_ | exact qf
    ·simp only [go_sem,simprocAttr]
     rw [IntWalk.i64_in _ (by omega)]; exact .refl _
    ·exact hfi _
 ·repeat refine kn rfl ?_
  refine k_region tok rfl (by kernel_rfl) ?_
  simp only [go_sem,simprocAttr,Nat.not_lt.2 h]
  repeat refine kn rfl ?_
  refine k_cond_f rfl (by simp only [go_sem,simprocAttr]) ?_
  repeat refine kn rfl ?_
  refine k_exit_round rfl rfl rfl ?_
  repeat refine kn rfl ?_
  refine k_region tok rfl (by kernel_rfl) ?_
  simp only [go_sem,simprocAttr]
  repeat refine kn rfl ?_
  refine k_ret rfl ?_
  refine post_one ?_ (.int _ _) rfl
  rw [idxF_none (fun j hj=>hq j hj (by omega))]
  exact .refl _
theorem a46 (l:List Tm) (hl:l.length ≤ 1000000) (f:Nat) (caps:List AV) (p:Tm → Bool) (hp:CondF f caps Tm.enc l p):PureT Tryz.prog 51 [.sl 4 (l.map Tm.enc) .any,.fn (.func f) caps] (.bool (l.any p)):=by
 intro n H hn hT
 refine a_fun tok (fun_of Tryz.func51 rfl rfl) (by simp) fun B=>?_
 repeat refine kn rfl ?_
 refine k_region tok rfl (by kernel_rfl) ?_
 simp only [go_sem,simprocAttr]
 repeat refine kn rfl ?_
 refine k_region tok rfl (by kernel_rfl) ?_
 simp only [go_sem,simprocAttr]
 refine callT (fun_of Tryz.func100 rfl rfl) (a80 l hl f caps p hp) hn hT (by simp only [go_sem,simprocAttr]) ?_
 simp only [go_sem,simprocAttr]
 repeat refine kn rfl ?_
 refine k_ret rfl ?_
 refine post_one ?_ (.bool _) rfl
 simp only [go_sem,simprocAttr,idxF_ge]
 exact .refl _
def validA (a:Am):Bool:=sym a.pred && decide ((a.args.length:Int) ≤ 8) && a.args.all valueT
theorem a14 (a:Am) (ha:a.Good):PureT Tryz.prog 48 [a.enc] (.bool (validA a)):=by
 intro n H hn hT
 have hs:=ha.pred
 refine a_fun tok (fun_of Tryz.func48 rfl rfl) (by simp) fun B=>?_
 repeat refine kn rfl ?_
 refine k_region tok rfl (by kernel_rfl) ?_
 simp only [go_sem,simprocAttr]
 repeat refine kn rfl ?_
 refine k_region tok rfl (by kernel_rfl) ?_
 simp only [go_sem,simprocAttr]
 repeat refine kn rfl ?_
 refine k_region tok rfl (by kernel_rfl) ?_
 simp only [go_sem,simprocAttr]
 refine callP (fun_of Tryz.func99 rfl rfl) (a45 a.pred (by omega)) (by simp only [go_sem,simprocAttr]) ?_
 simp only [go_sem,simprocAttr]
 cases h1:sym a.pred with
 | false =>
  simp only [go_sem,simprocAttr]
  repeat refine kn rfl ?_
  refine k_ret rfl ?_
  refine post_one ?_ (.bool _) rfl
  try simp only [go_sem,simprocAttr,validA,h1]
  exact .refl _
 | true =>
  cases h2:decide ((a.args.length:Int) ≤ 8) with
  | false =>
   simp only [go_sem,simprocAttr,h2]
   repeat refine kn rfl ?_
   refine k_ret rfl ?_
   refine post_one ?_ (.bool _) rfl
   try simp only [go_sem,simprocAttr,validA,h1,h2]
   exact .refl _
  | true =>
   simp only [go_sem,simprocAttr,h2]
   refine callT (fun_of Tryz.func51 rfl rfl) (a46 a.args ha.len _ [] (fun t=>!valueT t) ⟨⟨_,_,fun_of Tryz.func98 rfl rfl⟩,fun t ht=>a44 t (ha.arg ht),fun _=>trivial⟩) hn hT (by simp only [go_sem,simprocAttr]) ?_
   simp only [go_sem,simprocAttr]
   repeat refine kn rfl ?_
   refine k_ret rfl ?_
   refine post_one ?_ (.bool _) rfl
   simp only [go_sem,simprocAttr,validA,h1,h2,List.not_any_eq_all_not,Bool.not_not]
   exact .refl _
end Go.Proofs.YthgbkalgmicniaaGreatDoor

/- each. -/
namespace Go.Proofs.YthgbkalgmicniaaGreatDoor
open Go.Abs
set_option maxRecDepth 100000
structure MapF {α β:Type} (f:Nat) (caps:List AV) (ea:α → AV) (eb:β → AV) (l:List α) (g:α → β):Prop where
 fn:∃ fn c,Fun Tryz.prog f fn c
 on:∀ x ∈ l,PureT Tryz.prog f (ea x :: caps) (eb (g x))
 below:∀ n,AllP (fun c=>Below n c) caps
theorem getD_map {α:Type} (f:α → AV) (l:List α) (i:Nat) (h:i < l.length) (d:AV):(l.map f).getD i d = f l[i]:=by
 rw [List.getD_eq_getElem?_getD,List.getElem?_map,List.getElem?_eq_getElem h]; rfl
abbrev Str:=List UInt8
abbrev eStr (s:Str):AV:=.str s
abbrev eInt (i:Int):AV:=.int .i64 i
theorem below_ints {n k:Nat} (l:List Int):Below n (.sl k (l.map eInt) .any):=below_sla fun x hx=>by obtain ⟨u,_,rfl⟩:=List.mem_map.1 hx; exact .int _ _
theorem ins_ints {n k:Nat} {p:Nat → Prop} (l:List Int):Inside n p (.sl k (l.map eInt) .any):=(below_ints l).inside
end Go.Proofs.YthgbkalgmicniaaGreatDoor

/- The package's each: a function that is applied to all elements of a slice, and may turn the heap. -/
namespace Go.Proofs.YthgbkalgmicniaaGreatDoor
open Go.Abs
set_option maxRecDepth 100000
theorem insb_ints {n k j:Nat} {p:Nat → Prop} {l:List Int} (h:p j):Inside n p (.sl k (l.map eInt) (.buf n j)):=ins_buf (fun x hx=>by obtain ⟨u,_,rfl⟩:=List.mem_map.1 hx; exact .int _ _) h
def se108 (l:List (Tm)) (f:Nat) (caps:List AV) (ys:List (Str)) (n:Nat) (S:Nat → AHeap) (i:Nat):AState :=
 ⟨[(10,.int .i64 i),(9,.int .i64 l.length),(8,.sl 4 (l.map Tm.enc) .any),(5,.sl 1 ((ys.take i).map eStr) (.buf n 200)),(1,.fn (.func f) caps)],[(200,.buf 9 1 i)],S i⟩
theorem e108 (n:Nat) (l:List (Tm)) (hl:l.length ≤ 1000000) (f:Nat) (caps:List AV) (fn:Func) (c:Code) (hf:Fun Tryz.prog f fn c) (ys:List (Str)) (hy:ys.length = l.length) (S:Nat → AHeap)
  (hbl:Below n (.fn (.func f) caps)) (hbx:Below n (.sl 4 (l.map Tm.enc) .any))
  (hc:∀ i (h:i < l.length) L,ACalls Tryz.prog (n + 1) f (Tm.enc l[i] :: caps) (full n L (S i)) fun r H1=>r = eStr (ys[i]'(by omega)) ∧ H1 = full n L (S (i + 1))) (hout:∀ i,i < l.length → OutStep n (S i) (S (i + 1))) :
  ACalls Tryz.prog n 108 [.sl 4 (l.map Tm.enc) .any,.fn (.func f) caps] (S 0) fun r H'=>r = .sl 1 (ys.map eStr) .any ∧ H' = S l.length:=by
 have hfi:∀ q,Inside n q (.fn (.func f) caps):=fun q=>hbl.inside
 have hxi:∀ q,Inside n q (.sl 4 (l.map Tm.enc) .any):=fun q=>hbx.inside
 refine a_fun tok (fun_of Tryz.func108 rfl rfl) (by simp) fun B=>?_
 repeat refine kn rfl ?_
 refine k_region tok rfl (by kernel_rfl) ?_
 simp only [go_sem,simprocAttr]
 repeat refine kn rfl ?_
 refine k_region tok rfl (by kernel_rfl) ?_
 simp only [go_sem,simprocAttr]
 repeat refine kn rfl ?_
 refine k_region tok rfl (by kernel_rfl) ?_
 simp only [go_sem,simprocAttr]
 repeat refine kn rfl ?_
 refine k_adopt 5 200 9 1 rfl rfl ?_
 refine k_loop_ix (se108 l f caps ys n S) l.length rfl ?_ ?_
 ·refine AWk_kept ?_ ?_ ?_ ?_ <;> repeat' first | exact trivial | refine q0 ?_ | exact qb | exact q1 | exact q2 | exact q3 | exact rfl | refine And.intro ?_ ?_ | exact q4 | exact q5 | exact q6 | exact q7 | exact Inside.ptr _ _ _ (.inr ⟨rfl,rfl⟩) | exact q8 | exact q9 | exact qd | exact Tm.ins _ | exact Tm.inss _ _ | exact Am.ins _ | exact Am.inss _ _ | refine ins_buf_str ?_ | refine Tm.ins_buf ?_ | refine Am.ins_buf ?_ | exact qf
  all_goals first | exact hfi _ | exact hxi _ | exact insb_ints rfl
 intro i hi
 refine k_st rfl ?_
 rcases Nat.lt_or_ge i l.length with h | h
 ·have hmin:(ys.take i).length = i:=List.length_take_of_le (by omega)
  repeat refine kn rfl ?_
  refine k_region tok rfl (by kernel_rfl) ?_
  simp only [go_sem,simprocAttr,h]
  repeat refine kn rfl ?_
  refine k_cond_t rfl (by simp only [go_sem,simprocAttr]) ?_
  repeat refine kn rfl ?_
  refine k_region tok rfl (by kernel_rfl) ?_
  simp only [go_sem,simprocAttr,getD_map Tm.enc _ _ h,h]
  repeat refine kn rfl ?_
  refine k_region tok rfl (by kernel_rfl) ?_
  simp only [go_sem,simprocAttr]
  refine callR (caps:=caps) (avs:=[Tm.enc l[i]]) rfl hf (hc i h _) (by simp only [go_sem,simprocAttr]) ?_
  rintro r H1 ⟨rfl,rfl⟩
  refine ⟨_,S (i + 1),rfl,hout i h,?_⟩
  simp only [go_sem,simprocAttr,hmin]
  refine ⟨by first | exact ⟨rfl,by decide⟩ | exact rfl,⟨le_maxLen (by omega),by omega⟩,?_⟩
  repeat refine kn rfl ?_
  refine k_region tok rfl (by kernel_rfl) ?_
  simp only [go_sem,simprocAttr]
  repeat refine kn rfl ?_
  refine k_nil ?_
  refine AWk_kept ?_ ?_ ?_ ?_ <;> repeat' first | exact trivial | refine q0 ?_ | exact qb | exact q1 | exact q2 | exact q3 | exact rfl | refine And.intro ?_ ?_ | exact q4 | exact q5 | exact q6 | exact q7 | exact Inside.ptr _ _ _ (.inr ⟨rfl,rfl⟩) | exact q8 | exact q9 | exact qd | exact Tm.ins _ | exact Tm.inss _ _ | exact Am.ins _ | exact Am.inss _ _ | refine ins_buf_str ?_ | refine Tm.ins_buf ?_ | refine Am.ins_buf ?_ | exact qf
  ·simp only [go_sem,simprocAttr]
   rw [IntWalk.i64_in _ (by omega)]; exact .refl _
  ·simp only [go_sem,simprocAttr,List.take_succ_eq_append_getElem (show i < ys.length by omega),List.map_append]
   exact .refl _
  all_goals first | exact hfi _ | exact hxi _ | exact ins_ints _ | exact insb_ints rfl
 ·repeat refine kn rfl ?_
  refine k_region tok rfl (by kernel_rfl) ?_
  simp only [go_sem,simprocAttr,Nat.not_lt.2 h]
  repeat refine kn rfl ?_
  refine k_cond_f rfl (by simp only [go_sem,simprocAttr]) ?_
  repeat refine kn rfl ?_
  refine k_exit_round rfl rfl rfl ?_
  have hi':i = l.length:=by omega
  subst hi'
  have ht:ys.take l.length = ys:=List.take_of_length_le (by omega)
  repeat refine kn rfl ?_
  refine k_region tok rfl (by kernel_rfl) ?_
  simp only [go_sem,simprocAttr,ht]
  repeat refine kn rfl ?_
  refine k_ret rfl ?_
  refine post_oneQ ?_ (below_strs _) ⟨rfl,rfl⟩
  simp only [go_sem,simprocAttr]
  exact .any _ _ _
def se114 (l:List (GL)) (f:Nat) (caps:List AV) (ys:List (Am)) (n:Nat) (S:Nat → AHeap) (i:Nat):AState :=
 ⟨[(10,.int .i64 i),(9,.int .i64 l.length),(8,.sl 3 (l.map GL.enc) .any),(5,.sl 2 ((ys.take i).map Am.enc) (.buf n 200)),(1,.fn (.func f) caps)],[(200,.buf 33 2 i)],S i⟩
theorem e114 (n:Nat) (l:List (GL)) (hl:l.length ≤ 1000000) (f:Nat) (caps:List AV) (fn:Func) (c:Code) (hf:Fun Tryz.prog f fn c) (ys:List (Am)) (hy:ys.length = l.length) (S:Nat → AHeap)
  (hbl:Below n (.fn (.func f) caps)) (hbx:Below n (.sl 3 (l.map GL.enc) .any))
  (hc:∀ i (h:i < l.length) L,ACalls Tryz.prog (n + 1) f (GL.enc l[i] :: caps) (full n L (S i)) fun r H1=>r = Am.enc (ys[i]'(by omega)) ∧ H1 = full n L (S (i + 1))) (hout:∀ i,i < l.length → OutStep n (S i) (S (i + 1))) :
  ACalls Tryz.prog n 114 [.sl 3 (l.map GL.enc) .any,.fn (.func f) caps] (S 0) fun r H'=>r = .sl 2 (ys.map Am.enc) .any ∧ H' = S l.length:=by
 have hfi:∀ q,Inside n q (.fn (.func f) caps):=fun q=>hbl.inside
 have hxi:∀ q,Inside n q (.sl 3 (l.map GL.enc) .any):=fun q=>hbx.inside
 refine a_fun tok (fun_of Tryz.func114 rfl rfl) (by simp) fun B=>?_
 repeat refine kn rfl ?_
 refine k_region tok rfl (by kernel_rfl) ?_
 simp only [go_sem,simprocAttr]
 repeat refine kn rfl ?_
 refine k_region tok rfl (by kernel_rfl) ?_
 simp only [go_sem,simprocAttr]
 repeat refine kn rfl ?_
 refine k_region tok rfl (by kernel_rfl) ?_
 simp only [go_sem,simprocAttr]
 repeat refine kn rfl ?_
 refine k_adopt 5 200 33 2 rfl rfl ?_
 refine k_loop_ix (se114 l f caps ys n S) l.length rfl ?_ ?_
 ·refine AWk_kept ?_ ?_ ?_ ?_ <;> repeat' first | exact trivial | refine q0 ?_ | exact qb | exact q1 | exact q2 | exact q3 | exact rfl | refine And.intro ?_ ?_ | exact q4 | exact q5 | exact q6 | exact q7 | exact Inside.ptr _ _ _ (.inr ⟨rfl,rfl⟩) | exact q8 | exact q9 | exact qd | exact Tm.ins _ | exact Tm.inss _ _ | exact Am.ins _ | exact Am.inss _ _ | refine ins_buf_str ?_ | refine Tm.ins_buf ?_ | refine Am.ins_buf ?_ | exact qf
  all_goals first | exact hfi _ | exact hxi _ | exact insb_ints rfl
 intro i hi
 refine k_st rfl ?_
 rcases Nat.lt_or_ge i l.length with h | h
 ·have hmin:(ys.take i).length = i:=List.length_take_of_le (by omega)
  repeat refine kn rfl ?_
  refine k_region tok rfl (by kernel_rfl) ?_
  simp only [go_sem,simprocAttr,h]
  repeat refine kn rfl ?_
  refine k_cond_t rfl (by simp only [go_sem,simprocAttr]) ?_
  repeat refine kn rfl ?_
  refine k_region tok rfl (by kernel_rfl) ?_
  simp only [go_sem,simprocAttr,getD_map GL.enc _ _ h,h]
  repeat refine kn rfl ?_
  refine k_region tok rfl (by kernel_rfl) ?_
  simp only [go_sem,simprocAttr]
  refine callR (caps:=caps) (avs:=[GL.enc l[i]]) rfl hf (hc i h _) (by simp only [go_sem,simprocAttr]) ?_
  rintro r H1 ⟨rfl,rfl⟩
  refine ⟨_,S (i + 1),rfl,hout i h,?_⟩
  simp only [go_sem,simprocAttr,hmin]
  refine ⟨by first | exact ⟨rfl,by decide⟩ | exact rfl,⟨le_maxLen (by omega),by omega⟩,?_⟩
  repeat refine kn rfl ?_
  refine k_region tok rfl (by kernel_rfl) ?_
  simp only [go_sem,simprocAttr]
  repeat refine kn rfl ?_
  refine k_nil ?_
  refine AWk_kept ?_ ?_ ?_ ?_ <;> repeat' first | exact trivial | refine q0 ?_ | exact qb | exact q1 | exact q2 | exact q3 | exact rfl | refine And.intro ?_ ?_ | exact q4 | exact q5 | exact q6 | exact q7 | exact Inside.ptr _ _ _ (.inr ⟨rfl,rfl⟩) | exact q8 | exact q9 | exact qd | exact Tm.ins _ | exact Tm.inss _ _ | exact Am.ins _ | exact Am.inss _ _ | refine ins_buf_str ?_ | refine Tm.ins_buf ?_ | refine Am.ins_buf ?_ | exact qf
  ·simp only [go_sem,simprocAttr]
   rw [IntWalk.i64_in _ (by omega)]; exact .refl _
  ·simp only [go_sem,simprocAttr,List.take_succ_eq_append_getElem (show i < ys.length by omega),List.map_append]
   exact .refl _
  all_goals first | exact hfi _ | exact hxi _ | exact ins_ints _ | exact insb_ints rfl
 ·repeat refine kn rfl ?_
  refine k_region tok rfl (by kernel_rfl) ?_
  simp only [go_sem,simprocAttr,Nat.not_lt.2 h]
  repeat refine kn rfl ?_
  refine k_cond_f rfl (by simp only [go_sem,simprocAttr]) ?_
  repeat refine kn rfl ?_
  refine k_exit_round rfl rfl rfl ?_
  have hi':i = l.length:=by omega
  subst hi'
  have ht:ys.take l.length = ys:=List.take_of_length_le (by omega)
  repeat refine kn rfl ?_
  refine k_region tok rfl (by kernel_rfl) ?_
  simp only [go_sem,simprocAttr,ht]
  repeat refine kn rfl ?_
  refine k_ret rfl ?_
  refine post_oneQ ?_ (below_ams _) ⟨rfl,rfl⟩
  simp only [go_sem,simprocAttr]
  exact .any _ _ _
def se225 (l:List (Int)) (f:Nat) (caps:List AV) (ys:List (Int)) (n:Nat) (S:Nat → AHeap) (i:Nat):AState :=
 ⟨[(10,.int .i64 i),(9,.int .i64 l.length),(8,.sl 1 (l.map eInt) .any),(5,.sl 1 ((ys.take i).map eInt) (.buf n 200)),(1,.fn (.func f) caps)],[(200,.buf 3 1 i)],S i⟩
theorem e225 (n:Nat) (l:List (Int)) (hl:l.length ≤ 1000000) (f:Nat) (caps:List AV) (fn:Func) (c:Code) (hf:Fun Tryz.prog f fn c) (ys:List (Int)) (hy:ys.length = l.length) (S:Nat → AHeap)
  (hbl:Below n (.fn (.func f) caps)) (hbx:Below n (.sl 1 (l.map eInt) .any))
  (hc:∀ i (h:i < l.length) L,ACalls Tryz.prog (n + 1) f (eInt l[i] :: caps) (full n L (S i)) fun r H1=>r = eInt (ys[i]'(by omega)) ∧ H1 = full n L (S (i + 1))) (hout:∀ i,i < l.length → OutStep n (S i) (S (i + 1))) :
  ACalls Tryz.prog n 225 [.sl 1 (l.map eInt) .any,.fn (.func f) caps] (S 0) fun r H'=>r = .sl 1 (ys.map eInt) .any ∧ H' = S l.length:=by
 have hfi:∀ q,Inside n q (.fn (.func f) caps):=fun q=>hbl.inside
 have hxi:∀ q,Inside n q (.sl 1 (l.map eInt) .any):=fun q=>hbx.inside
 refine a_fun tok (fun_of Tryz.func225 rfl rfl) (by simp) fun B=>?_
 repeat refine kn rfl ?_
 refine k_region tok rfl (by kernel_rfl) ?_
 simp only [go_sem,simprocAttr]
 repeat refine kn rfl ?_
 refine k_region tok rfl (by kernel_rfl) ?_
 simp only [go_sem,simprocAttr]
 repeat refine kn rfl ?_
 refine k_region tok rfl (by kernel_rfl) ?_
 simp only [go_sem,simprocAttr]
 repeat refine kn rfl ?_
 refine k_adopt 5 200 3 1 rfl rfl ?_
 refine k_loop_ix (se225 l f caps ys n S) l.length rfl ?_ ?_
 ·refine AWk_kept ?_ ?_ ?_ ?_ <;> repeat' first | exact trivial | refine q0 ?_ | exact qb | exact q1 | exact q2 | exact q3 | exact rfl | refine And.intro ?_ ?_ | exact q4 | exact q5 | exact q6 | exact q7 | exact Inside.ptr _ _ _ (.inr ⟨rfl,rfl⟩) | exact q8 | exact q9 | exact qd | exact Tm.ins _ | exact Tm.inss _ _ | exact Am.ins _ | exact Am.inss _ _ | refine ins_buf_str ?_ | refine Tm.ins_buf ?_ | refine Am.ins_buf ?_ | exact qf
  all_goals first | exact hfi _ | exact hxi _ | exact insb_ints rfl
 intro i hi
 refine k_st rfl ?_
 rcases Nat.lt_or_ge i l.length with h | h
 ·have hmin:(ys.take i).length = i:=List.length_take_of_le (by omega)
  repeat refine kn rfl ?_
  refine k_region tok rfl (by kernel_rfl) ?_
  simp only [go_sem,simprocAttr,h]
  repeat refine kn rfl ?_
  refine k_cond_t rfl (by simp only [go_sem,simprocAttr]) ?_
  repeat refine kn rfl ?_
  refine k_region tok rfl (by kernel_rfl) ?_
  simp only [go_sem,simprocAttr,getD_map eInt _ _ h,h]
  repeat refine kn rfl ?_
  refine k_region tok rfl (by kernel_rfl) ?_
  simp only [go_sem,simprocAttr]
  refine callR (caps:=caps) (avs:=[eInt l[i]]) rfl hf (hc i h _) (by simp only [go_sem,simprocAttr]) ?_
  rintro r H1 ⟨rfl,rfl⟩
  refine ⟨_,S (i + 1),rfl,hout i h,?_⟩
  simp only [go_sem,simprocAttr,hmin]
  refine ⟨by first | exact ⟨rfl,by decide⟩ | exact rfl,⟨le_maxLen (by omega),by omega⟩,?_⟩
  repeat refine kn rfl ?_
  refine k_region tok rfl (by kernel_rfl) ?_
  simp only [go_sem,simprocAttr]
  repeat refine kn rfl ?_
  refine k_nil ?_
  refine AWk_kept ?_ ?_ ?_ ?_ <;> repeat' first | exact trivial | refine q0 ?_ | exact qb | exact q1 | exact q2 | exact q3 | exact rfl | refine And.intro ?_ ?_ | exact q4 | exact q5 | exact q6 | exact q7 | exact Inside.ptr _ _ _ (.inr ⟨rfl,rfl⟩) | exact q8 | exact q9 | exact qd | exact Tm.ins _ | exact Tm.inss _ _ | exact Am.ins _ | exact Am.inss _ _ | refine ins_buf_str ?_ | refine Tm.ins_buf ?_ | refine Am.ins_buf ?_ | exact qf
  ·simp only [go_sem,simprocAttr]
   rw [IntWalk.i64_in _ (by omega)]; exact .refl _
  ·simp only [go_sem,simprocAttr,List.take_succ_eq_append_getElem (show i < ys.length by omega),List.map_append]
   exact .refl _
  all_goals first | exact hfi _ | exact hxi _ | exact ins_ints _ | exact insb_ints rfl
 ·repeat refine kn rfl ?_
  refine k_region tok rfl (by kernel_rfl) ?_
  simp only [go_sem,simprocAttr,Nat.not_lt.2 h]
  repeat refine kn rfl ?_
  refine k_cond_f rfl (by simp only [go_sem,simprocAttr]) ?_
  repeat refine kn rfl ?_
  refine k_exit_round rfl rfl rfl ?_
  have hi':i = l.length:=by omega
  subst hi'
  have ht:ys.take l.length = ys:=List.take_of_length_le (by omega)
  repeat refine kn rfl ?_
  refine k_region tok rfl (by kernel_rfl) ?_
  simp only [go_sem,simprocAttr,ht]
  repeat refine kn rfl ?_
  refine k_ret rfl ?_
  refine post_oneQ ?_ (below_ints _) ⟨rfl,rfl⟩
  simp only [go_sem,simprocAttr]
  exact .any _ _ _
def se216 (l:List (Cnd)) (f:Nat) (caps:List AV) (ys:List (Int)) (n:Nat) (S:Nat → AHeap) (i:Nat):AState :=
 ⟨[(10,.int .i64 i),(9,.int .i64 l.length),(8,.sl 1 (l.map Cnd.enc) .any),(5,.sl 1 ((ys.take i).map eInt) (.buf n 200)),(1,.fn (.func f) caps)],[(200,.buf 3 1 i)],S i⟩
theorem e216 (n:Nat) (l:List (Cnd)) (hl:l.length ≤ 1000000) (f:Nat) (caps:List AV) (fn:Func) (c:Code) (hf:Fun Tryz.prog f fn c) (ys:List (Int)) (hy:ys.length = l.length) (S:Nat → AHeap)
  (hbl:Below n (.fn (.func f) caps)) (hbx:Below n (.sl 1 (l.map Cnd.enc) .any))
  (hc:∀ i (h:i < l.length) L,ACalls Tryz.prog (n + 1) f (Cnd.enc l[i] :: caps) (full n L (S i)) fun r H1=>r = eInt (ys[i]'(by omega)) ∧ H1 = full n L (S (i + 1))) (hout:∀ i,i < l.length → OutStep n (S i) (S (i + 1))) :
  ACalls Tryz.prog n 216 [.sl 1 (l.map Cnd.enc) .any,.fn (.func f) caps] (S 0) fun r H'=>r = .sl 1 (ys.map eInt) .any ∧ H' = S l.length:=by
 have hfi:∀ q,Inside n q (.fn (.func f) caps):=fun q=>hbl.inside
 have hxi:∀ q,Inside n q (.sl 1 (l.map Cnd.enc) .any):=fun q=>hbx.inside
 refine a_fun tok (fun_of Tryz.func216 rfl rfl) (by simp) fun B=>?_
 repeat refine kn rfl ?_
 refine k_region tok rfl (by kernel_rfl) ?_
 simp only [go_sem,simprocAttr]
 repeat refine kn rfl ?_
 refine k_region tok rfl (by kernel_rfl) ?_
 simp only [go_sem,simprocAttr]
 repeat refine kn rfl ?_
 refine k_region tok rfl (by kernel_rfl) ?_
 simp only [go_sem,simprocAttr]
 repeat refine kn rfl ?_
 refine k_adopt 5 200 3 1 rfl rfl ?_
 refine k_loop_ix (se216 l f caps ys n S) l.length rfl ?_ ?_
 ·refine AWk_kept ?_ ?_ ?_ ?_ <;> repeat' first | exact trivial | refine q0 ?_ | exact qb | exact q1 | exact q2 | exact q3 | exact rfl | refine And.intro ?_ ?_ | exact q4 | exact q5 | exact q6 | exact q7 | exact Inside.ptr _ _ _ (.inr ⟨rfl,rfl⟩) | exact q8 | exact q9 | exact qd | exact Tm.ins _ | exact Tm.inss _ _ | exact Am.ins _ | exact Am.inss _ _ | refine ins_buf_str ?_ | refine Tm.ins_buf ?_ | refine Am.ins_buf ?_ | exact qf
  all_goals first | exact hfi _ | exact hxi _ | exact insb_ints rfl
 intro i hi
 refine k_st rfl ?_
 rcases Nat.lt_or_ge i l.length with h | h
 ·have hmin:(ys.take i).length = i:=List.length_take_of_le (by omega)
  repeat refine kn rfl ?_
  refine k_region tok rfl (by kernel_rfl) ?_
  simp only [go_sem,simprocAttr,h]
  repeat refine kn rfl ?_
  refine k_cond_t rfl (by simp only [go_sem,simprocAttr]) ?_
  repeat refine kn rfl ?_
  refine k_region tok rfl (by kernel_rfl) ?_
  simp only [go_sem,simprocAttr,getD_map Cnd.enc _ _ h,h]
  repeat refine kn rfl ?_
  refine k_region tok rfl (by kernel_rfl) ?_
  simp only [go_sem,simprocAttr]
  refine callR (caps:=caps) (avs:=[Cnd.enc l[i]]) rfl hf (hc i h _) (by simp only [go_sem,simprocAttr]) ?_
  rintro r H1 ⟨rfl,rfl⟩
  refine ⟨_,S (i + 1),rfl,hout i h,?_⟩
  simp only [go_sem,simprocAttr,hmin]
  refine ⟨by first | exact ⟨rfl,by decide⟩ | exact rfl,⟨le_maxLen (by omega),by omega⟩,?_⟩
  repeat refine kn rfl ?_
  refine k_region tok rfl (by kernel_rfl) ?_
  simp only [go_sem,simprocAttr]
  repeat refine kn rfl ?_
  refine k_nil ?_
  refine AWk_kept ?_ ?_ ?_ ?_ <;> repeat' first | exact trivial | refine q0 ?_ | exact qb | exact q1 | exact q2 | exact q3 | exact rfl | refine And.intro ?_ ?_ | exact q4 | exact q5 | exact q6 | exact q7 | exact Inside.ptr _ _ _ (.inr ⟨rfl,rfl⟩) | exact q8 | exact q9 | exact qd | exact Tm.ins _ | exact Tm.inss _ _ | exact Am.ins _ | exact Am.inss _ _ | refine ins_buf_str ?_ | refine Tm.ins_buf ?_ | refine Am.ins_buf ?_ | exact qf
  ·simp only [go_sem,simprocAttr]
   rw [IntWalk.i64_in _ (by omega)]; exact .refl _
  ·simp only [go_sem,simprocAttr,List.take_succ_eq_append_getElem (show i < ys.length by omega),List.map_append]
   exact .refl _
  all_goals first | exact hfi _ | exact hxi _ | exact ins_ints _ | exact insb_ints rfl
 ·repeat refine kn rfl ?_
  refine k_region tok rfl (by kernel_rfl) ?_
  simp only [go_sem,simprocAttr,Nat.not_lt.2 h]
  repeat refine kn rfl ?_
  refine k_cond_f rfl (by simp only [go_sem,simprocAttr]) ?_
  repeat refine kn rfl ?_
  refine k_exit_round rfl rfl rfl ?_
  have hi':i = l.length:=by omega
  subst hi'
  have ht:ys.take l.length = ys:=List.take_of_length_le (by omega)
  repeat refine kn rfl ?_
  refine k_region tok rfl (by kernel_rfl) ?_
  simp only [go_sem,simprocAttr,ht]
  repeat refine kn rfl ?_
  refine k_ret rfl ?_
  refine post_oneQ ?_ (below_ints _) ⟨rfl,rfl⟩
  simp only [go_sem,simprocAttr]
  exact .any _ _ _
def sb123 (l:List (Am)) (f:Nat) (bs:List AV) (ys:List (Int)) (n:Nat) (S:Nat → AHeap) (i:Nat):AState :=
 ⟨[(10,.int .i64 i),(9,.int .i64 l.length),(8,.sl 2 (l.map Am.enc) .any),(5,.sl 1 ((ys.take i).map eInt) (.buf n 200)),(1,.bfn (.func f) bs)],[(200,.buf 3 1 i)],S i⟩
theorem eb123 (n:Nat) (l:List (Am)) (hl:l.length ≤ 1000000) (f:Nat) (bs:List AV) (fn:Func) (c:Code) (hf:Fun Tryz.prog f fn c) (ys:List (Int)) (hy:ys.length = l.length) (S:Nat → AHeap)
  (hbl:Below n (.bfn (.func f) bs)) (hbx:Below n (.sl 2 (l.map Am.enc) .any))
  (hc:∀ i (h:i < l.length) L,ACalls Tryz.prog (n + 1) f (bs ++ [Am.enc l[i]]) (full n L (S i)) fun r H1=>r = eInt (ys[i]'(by omega)) ∧ H1 = full n L (S (i + 1))) (hout:∀ i,i < l.length → OutStep n (S i) (S (i + 1))) :
  ACalls Tryz.prog n 123 [.sl 2 (l.map Am.enc) .any,.bfn (.func f) bs] (S 0) fun r H'=>r = .sl 1 (ys.map eInt) .any ∧ H' = S l.length:=by
 have hfi:∀ q,Inside n q (.bfn (.func f) bs):=fun q=>hbl.inside
 have hxi:∀ q,Inside n q (.sl 2 (l.map Am.enc) .any):=fun q=>hbx.inside
 refine a_fun tok (fun_of Tryz.func123 rfl rfl) (by simp) fun B=>?_
 repeat refine kn rfl ?_
 refine k_region tok rfl (by kernel_rfl) ?_
 simp only [go_sem,simprocAttr]
 repeat refine kn rfl ?_
 refine k_region tok rfl (by kernel_rfl) ?_
 simp only [go_sem,simprocAttr]
 repeat refine kn rfl ?_
 refine k_region tok rfl (by kernel_rfl) ?_
 simp only [go_sem,simprocAttr]
 repeat refine kn rfl ?_
 refine k_adopt 5 200 3 1 rfl rfl ?_
 refine k_loop_ix (sb123 l f bs ys n S) l.length rfl ?_ ?_
 ·refine AWk_kept ?_ ?_ ?_ ?_ <;> repeat' first | exact trivial | refine q0 ?_ | exact qb | exact q1 | exact q2 | exact q3 | exact rfl | refine And.intro ?_ ?_ | exact q4 | exact q5 | exact q6 | exact q7 | exact Inside.ptr _ _ _ (.inr ⟨rfl,rfl⟩) | exact q8 | exact q9 | exact qd | exact Tm.ins _ | exact Tm.inss _ _ | exact Am.ins _ | exact Am.inss _ _ | refine ins_buf_str ?_ | refine Tm.ins_buf ?_ | refine Am.ins_buf ?_ | exact qf
  all_goals first | exact hfi _ | exact hxi _ | exact insb_ints rfl
 intro i hi
 refine k_st rfl ?_
 rcases Nat.lt_or_ge i l.length with h | h
 ·have hmin:(ys.take i).length = i:=List.length_take_of_le (by omega)
  repeat refine kn rfl ?_
  refine k_region tok rfl (by kernel_rfl) ?_
  simp only [go_sem,simprocAttr,h]
  repeat refine kn rfl ?_
  refine k_cond_t rfl (by simp only [go_sem,simprocAttr]) ?_
  repeat refine kn rfl ?_
  refine k_region tok rfl (by kernel_rfl) ?_
  simp only [go_sem,simprocAttr,getD_map Am.enc _ _ h,h]
  repeat refine kn rfl ?_
  refine k_region tok rfl (by kernel_rfl) ?_
  simp only [go_sem,simprocAttr]
  refine callBd (bs:=bs) (avs:=[Am.enc l[i]]) rfl hf (hc i h _) (by simp only [go_sem,simprocAttr]) ?_
  rintro r H1 ⟨rfl,rfl⟩
  refine ⟨_,S (i + 1),rfl,hout i h,?_⟩
  simp only [go_sem,simprocAttr,hmin]
  refine ⟨by first | exact ⟨rfl,by decide⟩ | exact rfl,⟨le_maxLen (by omega),by omega⟩,?_⟩
  repeat refine kn rfl ?_
  refine k_region tok rfl (by kernel_rfl) ?_
  simp only [go_sem,simprocAttr]
  repeat refine kn rfl ?_
  refine k_nil ?_
  refine AWk_kept ?_ ?_ ?_ ?_ <;> repeat' first | exact trivial | refine q0 ?_ | exact qb | exact q1 | exact q2 | exact q3 | exact rfl | refine And.intro ?_ ?_ | exact q4 | exact q5 | exact q6 | exact q7 | exact Inside.ptr _ _ _ (.inr ⟨rfl,rfl⟩) | exact q8 | exact q9 | exact qd | exact Tm.ins _ | exact Tm.inss _ _ | exact Am.ins _ | exact Am.inss _ _ | refine ins_buf_str ?_ | refine Tm.ins_buf ?_ | refine Am.ins_buf ?_ | exact qf
  ·simp only [go_sem,simprocAttr]
   rw [IntWalk.i64_in _ (by omega)]; exact .refl _
  ·simp only [go_sem,simprocAttr,List.take_succ_eq_append_getElem (show i < ys.length by omega),List.map_append]
   exact .refl _
  all_goals first | exact hfi _ | exact hxi _ | exact ins_ints _ | exact insb_ints rfl
 ·repeat refine kn rfl ?_
  refine k_region tok rfl (by kernel_rfl) ?_
  simp only [go_sem,simprocAttr,Nat.not_lt.2 h]
  repeat refine kn rfl ?_
  refine k_cond_f rfl (by simp only [go_sem,simprocAttr]) ?_
  repeat refine kn rfl ?_
  refine k_exit_round rfl rfl rfl ?_
  have hi':i = l.length:=by omega
  subst hi'
  have ht:ys.take l.length = ys:=List.take_of_length_le (by omega)
  repeat refine kn rfl ?_
  refine k_region tok rfl (by kernel_rfl) ?_
  simp only [go_sem,simprocAttr,ht]
  repeat refine kn rfl ?_
  refine k_ret rfl ?_
  refine post_oneQ ?_ (below_ints _) ⟨rfl,rfl⟩
  simp only [go_sem,simprocAttr]
  exact .any _ _ _
def sb288 (l:List (GL)) (f:Nat) (bs:List AV) (ys:List (Int)) (n:Nat) (S:Nat → AHeap) (i:Nat):AState :=
 ⟨[(10,.int .i64 i),(9,.int .i64 l.length),(8,.sl 3 (l.map GL.enc) .any),(5,.sl 1 ((ys.take i).map eInt) (.buf n 200)),(1,.bfn (.func f) bs)],[(200,.buf 3 1 i)],S i⟩
theorem eb288 (n:Nat) (l:List (GL)) (hl:l.length ≤ 1000000) (f:Nat) (bs:List AV) (fn:Func) (c:Code) (hf:Fun Tryz.prog f fn c) (ys:List (Int)) (hy:ys.length = l.length) (S:Nat → AHeap)
  (hbl:Below n (.bfn (.func f) bs)) (hbx:Below n (.sl 3 (l.map GL.enc) .any))
  (hc:∀ i (h:i < l.length) L,ACalls Tryz.prog (n + 1) f (bs ++ [GL.enc l[i]]) (full n L (S i)) fun r H1=>r = eInt (ys[i]'(by omega)) ∧ H1 = full n L (S (i + 1))) (hout:∀ i,i < l.length → OutStep n (S i) (S (i + 1))) :
  ACalls Tryz.prog n 288 [.sl 3 (l.map GL.enc) .any,.bfn (.func f) bs] (S 0) fun r H'=>r = .sl 1 (ys.map eInt) .any ∧ H' = S l.length:=by
 have hfi:∀ q,Inside n q (.bfn (.func f) bs):=fun q=>hbl.inside
 have hxi:∀ q,Inside n q (.sl 3 (l.map GL.enc) .any):=fun q=>hbx.inside
 refine a_fun tok (fun_of Tryz.func288 rfl rfl) (by simp) fun B=>?_
 repeat refine kn rfl ?_
 refine k_region tok rfl (by kernel_rfl) ?_
 simp only [go_sem,simprocAttr]
 repeat refine kn rfl ?_
 refine k_region tok rfl (by kernel_rfl) ?_
 simp only [go_sem,simprocAttr]
 repeat refine kn rfl ?_
 refine k_region tok rfl (by kernel_rfl) ?_
 simp only [go_sem,simprocAttr]
 repeat refine kn rfl ?_
 refine k_adopt 5 200 3 1 rfl rfl ?_
 refine k_loop_ix (sb288 l f bs ys n S) l.length rfl ?_ ?_
 ·refine AWk_kept ?_ ?_ ?_ ?_ <;> repeat' first | exact trivial | refine q0 ?_ | exact qb | exact q1 | exact q2 | exact q3 | exact rfl | refine And.intro ?_ ?_ | exact q4 | exact q5 | exact q6 | exact q7 | exact Inside.ptr _ _ _ (.inr ⟨rfl,rfl⟩) | exact q8 | exact q9 | exact qd | exact Tm.ins _ | exact Tm.inss _ _ | exact Am.ins _ | exact Am.inss _ _ | refine ins_buf_str ?_ | refine Tm.ins_buf ?_ | refine Am.ins_buf ?_ | exact qf
  all_goals first | exact hfi _ | exact hxi _ | exact insb_ints rfl
 intro i hi
 refine k_st rfl ?_
 rcases Nat.lt_or_ge i l.length with h | h
 ·have hmin:(ys.take i).length = i:=List.length_take_of_le (by omega)
  repeat refine kn rfl ?_
  refine k_region tok rfl (by kernel_rfl) ?_
  simp only [go_sem,simprocAttr,h]
  repeat refine kn rfl ?_
  refine k_cond_t rfl (by simp only [go_sem,simprocAttr]) ?_
  repeat refine kn rfl ?_
  refine k_region tok rfl (by kernel_rfl) ?_
  simp only [go_sem,simprocAttr,getD_map GL.enc _ _ h,h]
  repeat refine kn rfl ?_
  refine k_region tok rfl (by kernel_rfl) ?_
  simp only [go_sem,simprocAttr]
  refine callBd (bs:=bs) (avs:=[GL.enc l[i]]) rfl hf (hc i h _) (by simp only [go_sem,simprocAttr]) ?_
  rintro r H1 ⟨rfl,rfl⟩
  refine ⟨_,S (i + 1),rfl,hout i h,?_⟩
  simp only [go_sem,simprocAttr,hmin]
  refine ⟨by first | exact ⟨rfl,by decide⟩ | exact rfl,⟨le_maxLen (by omega),by omega⟩,?_⟩
  repeat refine kn rfl ?_
  refine k_region tok rfl (by kernel_rfl) ?_
  simp only [go_sem,simprocAttr]
  repeat refine kn rfl ?_
  refine k_nil ?_
  refine AWk_kept ?_ ?_ ?_ ?_ <;> repeat' first | exact trivial | refine q0 ?_ | exact qb | exact q1 | exact q2 | exact q3 | exact rfl | refine And.intro ?_ ?_ | exact q4 | exact q5 | exact q6 | exact q7 | exact Inside.ptr _ _ _ (.inr ⟨rfl,rfl⟩) | exact q8 | exact q9 | exact qd | exact Tm.ins _ | exact Tm.inss _ _ | exact Am.ins _ | exact Am.inss _ _ | refine ins_buf_str ?_ | refine Tm.ins_buf ?_ | refine Am.ins_buf ?_ | exact qf
  ·simp only [go_sem,simprocAttr]
   rw [IntWalk.i64_in _ (by omega)]; exact .refl _
  ·simp only [go_sem,simprocAttr,List.take_succ_eq_append_getElem (show i < ys.length by omega),List.map_append]
   exact .refl _
  all_goals first | exact hfi _ | exact hxi _ | exact ins_ints _ | exact insb_ints rfl
 ·repeat refine kn rfl ?_
  refine k_region tok rfl (by kernel_rfl) ?_
  simp only [go_sem,simprocAttr,Nat.not_lt.2 h]
  repeat refine kn rfl ?_
  refine k_cond_f rfl (by simp only [go_sem,simprocAttr]) ?_
  repeat refine kn rfl ?_
  refine k_exit_round rfl rfl rfl ?_
  have hi':i = l.length:=by omega
  subst hi'
  have ht:ys.take l.length = ys:=List.take_of_length_le (by omega)
  repeat refine kn rfl ?_
  refine k_region tok rfl (by kernel_rfl) ?_
  simp only [go_sem,simprocAttr,ht]
  repeat refine kn rfl ?_
  refine k_ret rfl ?_
  refine post_oneQ ?_ (below_ints _) ⟨rfl,rfl⟩
  simp only [go_sem,simprocAttr]
  exact .any _ _ _
end Go.Proofs.YthgbkalgmicniaaGreatDoor
