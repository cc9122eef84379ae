/- ContainsFunc over the lists of ground things. -/
import Derived.Test.YthgbkalgmicniaaGreatDoorM11
set_option linter.all false
namespace Go.Proofs.YthgbkalgmicniaaGreatDoor
open Go.Abs
set_option maxRecDepth 100000
abbrev LInt:=List Int
theorem below_lints {n k:Nat} (l:List LInt):Below n (.sl k (l.map sInts) .any):=below_sla fun x hx=>by obtain ⟨u,_,rfl⟩:=List.mem_map.1 hx; exact below_sInts _
def sx101 (l:List (GL)) (f:Nat) (caps:List AV) (H:AHeap) (i:Nat):AState :=
 ⟨[(8,.int .i64 i),(7,.int .i64 l.length),(1,.fn (.func f) caps),(0,.sl 3 (l.map GL.enc) .any)],[],H⟩
theorem x101 (l:List (GL)) (hl:l.length ≤ 1000000) (f:Nat) (caps:List AV) (p:(GL) → Bool) (hp:CondF f caps GL.enc l p):PureT Tryz.prog 101 [.sl 3 (l.map GL.enc) .any,.fn (.func f) caps] (.int .i64 (idxF p l)):=by
 intro n H hn hT
 have hxi:∀ q,Inside n q (.sl 3 (l.map GL.enc) .any):=fun q=>(below_gls l).inside
 obtain ⟨⟨fn,c,hf⟩,hp,hbl⟩:=hp
 have hfi:∀ q,Inside n q (.fn (.func f) caps):=fun q=>(Below.fn _ _ fun i hi=>(hbl n).mem _ (List.getElem_mem hi)).inside
 refine a_fun tok (fun_of Tryz.func101 rfl rfl) (by simp) fun B=>?_
 repeat refine kn rfl ?_
 refine k_region tok rfl (by kernel_rfl) ?_
 simp only [go_sem,simprocAttr]
 repeat refine kn rfl ?_
 refine k_region tok rfl (by kernel_rfl) ?_
 simp only [go_sem,simprocAttr]
 repeat refine kn rfl ?_
 refine k_loop_p (sx101 l f caps H) (fun i=>∀ j (h:j < l.length),j < i → p l[j] = false) l.length rfl ?_ (fun j _ h=>absurd h (Nat.not_lt_zero _)) ?_
 ·refine AWk_kept ?_ ?_ ?_ ?_ <;> repeat' first | exact trivial | refine q0 ?_ | exact qb | exact q1 | exact q2 | exact q3 | exact rfl | refine And.intro ?_ ?_ | exact q4 | exact q5 | exact q6 | exact q7 | exact Inside.ptr _ _ _ (.inr ⟨rfl,rfl⟩) | exact q8 | exact q9 | exact qd | exact Tm.ins _ | exact Tm.inss _ _ | exact Am.ins _ | exact Am.inss _ _ | refine ins_buf_str ?_ | refine Tm.ins_buf ?_ | refine Am.ins_buf ?_ | exact qf
  all_goals first | exact hfi _ | exact hxi _
 intro i hi hq
 refine k_st rfl ?_
 rcases Nat.lt_or_ge i l.length with h | h
 ·repeat refine kn rfl ?_
  refine k_region tok rfl (by kernel_rfl) ?_
  simp only [go_sem,simprocAttr,h]
  repeat refine kn rfl ?_
  refine k_cond_t rfl (by simp only [go_sem,simprocAttr]) ?_
  repeat refine kn rfl ?_
  refine k_region tok rfl (by kernel_rfl) ?_
  simp only [go_sem,simprocAttr]
  repeat refine kn rfl ?_
  refine k_region tok rfl (by kernel_rfl) ?_
  simp only [go_sem,simprocAttr,getD_map GL.enc _ _ h,h]
  refine callV (avs:=[GL.enc l[i]]) rfl hf (hp l[i] (List.getElem_mem h) _ _ (Nat.succ_pos _) (hT.full hn)) rfl ?_
  cases h1:p l[i] with
  | true =>
   simp only [go_sem,simprocAttr]
   repeat refine kn rfl ?_
   refine k_cond_t rfl (by simp only [go_sem,simprocAttr]) ?_
   repeat refine kn rfl ?_
   refine k_region tok rfl (by kernel_rfl) ?_
   simp only [go_sem,simprocAttr]
   repeat refine kn rfl ?_
   refine k_ret_round rfl ?_
   refine post_one ?_ (.int _ _) rfl
   rw [idxF_at h h1 hq]
   exact .refl _
  | false =>
   simp only [go_sem,simprocAttr]
   repeat refine kn rfl ?_
   refine k_cond_f rfl (by simp only [go_sem,simprocAttr]) ?_
   repeat refine kn rfl ?_
   refine k_region tok rfl (by kernel_rfl) ?_
   simp only [go_sem,simprocAttr]
   repeat refine kn rfl ?_
   refine k_nil ?_
   refine ⟨fun j hj hji=>?_,?_⟩
   ·rcases Nat.lt_or_ge j i with h' | h'
    ·exact hq j hj h'
    ·have:j = i:=by omega
     subst this; exact h1
   ·refine AWk_kept ?_ ?_ ?_ ?_ <;> repeat' first | exact trivial | refine q0 ?_ | exact qb | exact q1 | exact q2 | exact q3 | exact rfl | refine And.intro ?_ ?_ | exact q4 | exact q5 | exact q6 | exact q7 | exact Inside.ptr _ _ _ (.inr ⟨rfl,rfl⟩) | exact q8 | exact q9 | exact qd | exact Tm.ins _ | exact Tm.inss _ _ | exact Am.ins _ | exact Am.inss _ _ | refine ins_buf_str ?_ | refine Tm.ins_buf ?_ | refine Am.ins_buf ?_ | exact qf
    ·simp only [go_sem,simprocAttr]
     rw [IntWalk.i64_in _ (by omega)]; exact .refl _
    all_goals first | exact hfi _ | exact hxi _
 ·repeat refine kn rfl ?_
  refine k_region tok rfl (by kernel_rfl) ?_
  simp only [go_sem,simprocAttr,Nat.not_lt.2 h]
  repeat refine kn rfl ?_
  refine k_cond_f rfl (by simp only [go_sem,simprocAttr]) ?_
  repeat refine kn rfl ?_
  refine k_exit_round rfl rfl rfl ?_
  repeat refine kn rfl ?_
  refine k_region tok rfl (by kernel_rfl) ?_
  simp only [go_sem,simprocAttr]
  repeat refine kn rfl ?_
  refine k_ret rfl ?_
  refine post_one ?_ (.int _ _) rfl
  rw [idxF_none (fun j hj=>hq j hj (by omega))]
  exact .refl _
def sx102 (l:List (GE)) (f:Nat) (caps:List AV) (H:AHeap) (i:Nat):AState :=
 ⟨[(8,.int .i64 i),(7,.int .i64 l.length),(1,.fn (.func f) caps),(0,.sl 2 (l.map GE.enc) .any)],[],H⟩
theorem x102 (l:List (GE)) (hl:l.length ≤ 1000000) (f:Nat) (caps:List AV) (p:(GE) → Bool) (hp:CondF f caps GE.enc l p):PureT Tryz.prog 102 [.sl 2 (l.map GE.enc) .any,.fn (.func f) caps] (.int .i64 (idxF p l)):=by
 intro n H hn hT
 have hxi:∀ q,Inside n q (.sl 2 (l.map GE.enc) .any):=fun q=>(below_ges l).inside
 obtain ⟨⟨fn,c,hf⟩,hp,hbl⟩:=hp
 have hfi:∀ q,Inside n q (.fn (.func f) caps):=fun q=>(Below.fn _ _ fun i hi=>(hbl n).mem _ (List.getElem_mem hi)).inside
 refine a_fun tok (fun_of Tryz.func102 rfl rfl) (by simp) fun B=>?_
 repeat refine kn rfl ?_
 refine k_region tok rfl (by kernel_rfl) ?_
 simp only [go_sem,simprocAttr]
 repeat refine kn rfl ?_
 refine k_region tok rfl (by kernel_rfl) ?_
 simp only [go_sem,simprocAttr]
 repeat refine kn rfl ?_
 refine k_loop_p (sx102 l f caps H) (fun i=>∀ j (h:j < l.length),j < i → p l[j] = false) l.length rfl ?_ (fun j _ h=>absurd h (Nat.not_lt_zero _)) ?_
 ·refine AWk_kept ?_ ?_ ?_ ?_ <;> repeat' first | exact trivial | refine q0 ?_ | exact qb | exact q1 | exact q2 | exact q3 | exact rfl | refine And.intro ?_ ?_ | exact q4 | exact q5 | exact q6 | exact q7 | exact Inside.ptr _ _ _ (.inr ⟨rfl,rfl⟩) | exact q8 | exact q9 | exact qd | exact Tm.ins _ | exact Tm.inss _ _ | exact Am.ins _ | exact Am.inss _ _ | refine ins_buf_str ?_ | refine Tm.ins_buf ?_ | refine Am.ins_buf ?_ | exact qf
  all_goals first | exact hfi _ | exact hxi _
 intro i hi hq
 refine k_st rfl ?_
 rcases Nat.lt_or_ge i l.length with h | h
 ·repeat refine kn rfl ?_
  refine k_region tok rfl (by kernel_rfl) ?_
  simp only [go_sem,simprocAttr,h]
  repeat refine kn rfl ?_
  refine k_cond_t rfl (by simp only [go_sem,simprocAttr]) ?_
  repeat refine kn rfl ?_
  refine k_region tok rfl (by kernel_rfl) ?_
  simp only [go_sem,simprocAttr]
  repeat refine kn rfl ?_
  refine k_region tok rfl (by kernel_rfl) ?_
  simp only [go_sem,simprocAttr,getD_map GE.enc _ _ h,h]
  refine callV (avs:=[GE.enc l[i]]) rfl hf (hp l[i] (List.getElem_mem h) _ _ (Nat.succ_pos _) (hT.full hn)) rfl ?_
  cases h1:p l[i] with
  | true =>
   simp only [go_sem,simprocAttr]
   repeat refine kn rfl ?_
   refine k_cond_t rfl (by simp only [go_sem,simprocAttr]) ?_
   repeat refine kn rfl ?_
   refine k_region tok rfl (by kernel_rfl) ?_
   simp only [go_sem,simprocAttr]
   repeat refine kn rfl ?_
   refine k_ret_round rfl ?_
   refine post_one ?_ (.int _ _) rfl
   rw [idxF_at h h1 hq]
   exact .refl _
  | false =>
   simp only [go_sem,simprocAttr]
   repeat refine kn rfl ?_
   refine k_cond_f rfl (by simp only [go_sem,simprocAttr]) ?_
   repeat refine kn rfl ?_
   refine k_region tok rfl (by kernel_rfl) ?_
   simp only [go_sem,simprocAttr]
   repeat refine kn rfl ?_
   refine k_nil ?_
   refine ⟨fun j hj hji=>?_,?_⟩
   ·rcases Nat.lt_or_ge j i with h' | h'
    ·exact hq j hj h'
    ·have:j = i:=by omega
     subst this; exact h1
   ·refine AWk_kept ?_ ?_ ?_ ?_ <;> repeat' first | exact trivial | refine q0 ?_ | exact qb | exact q1 | exact q2 | exact q3 | exact rfl | refine And.intro ?_ ?_ | exact q4 | exact q5 | exact q6 | exact q7 | exact Inside.ptr _ _ _ (.inr ⟨rfl,rfl⟩) | exact q8 | exact q9 | exact qd | exact Tm.ins _ | exact Tm.inss _ _ | exact Am.ins _ | exact Am.inss _ _ | refine ins_buf_str ?_ | refine Tm.ins_buf ?_ | refine Am.ins_buf ?_ | exact qf
    ·simp only [go_sem,simprocAttr]
     rw [IntWalk.i64_in _ (by omega)]; exact .refl _
    all_goals first | exact hfi _ | exact hxi _
 ·repeat refine kn rfl ?_
  refine k_region tok rfl (by kernel_rfl) ?_
  simp only [go_sem,simprocAttr,Nat.not_lt.2 h]
  repeat refine kn rfl ?_
  refine k_cond_f rfl (by simp only [go_sem,simprocAttr]) ?_
  repeat refine kn rfl ?_
  refine k_exit_round rfl rfl rfl ?_
  repeat refine kn rfl ?_
  refine k_region tok rfl (by kernel_rfl) ?_
  simp only [go_sem,simprocAttr]
  repeat refine kn rfl ?_
  refine k_ret rfl ?_
  refine post_one ?_ (.int _ _) rfl
  rw [idxF_none (fun j hj=>hq j hj (by omega))]
  exact .refl _
def sx103 (l:List (Am)) (f:Nat) (caps:List AV) (H:AHeap) (i:Nat):AState :=
 ⟨[(8,.int .i64 i),(7,.int .i64 l.length),(1,.fn (.func f) caps),(0,.sl 2 (l.map Am.enc) .any)],[],H⟩
theorem x103 (l:List (Am)) (hl:l.length ≤ 1000000) (f:Nat) (caps:List AV) (p:(Am) → Bool) (hp:CondF f caps Am.enc l p):PureT Tryz.prog 103 [.sl 2 (l.map Am.enc) .any,.fn (.func f) caps] (.int .i64 (idxF p l)):=by
 intro n H hn hT
 have hxi:∀ q,Inside n q (.sl 2 (l.map Am.enc) .any):=fun q=>(below_ams l).inside
 obtain ⟨⟨fn,c,hf⟩,hp,hbl⟩:=hp
 have hfi:∀ q,Inside n q (.fn (.func f) caps):=fun q=>(Below.fn _ _ fun i hi=>(hbl n).mem _ (List.getElem_mem hi)).inside
 refine a_fun tok (fun_of Tryz.func103 rfl rfl) (by simp) fun B=>?_
 repeat refine kn rfl ?_
 refine k_region tok rfl (by kernel_rfl) ?_
 simp only [go_sem,simprocAttr]
 repeat refine kn rfl ?_
 refine k_region tok rfl (by kernel_rfl) ?_
 simp only [go_sem,simprocAttr]
 repeat refine kn rfl ?_
 refine k_loop_p (sx103 l f caps H) (fun i=>∀ j (h:j < l.length),j < i → p l[j] = false) l.length rfl ?_ (fun j _ h=>absurd h (Nat.not_lt_zero _)) ?_
 ·refine AWk_kept ?_ ?_ ?_ ?_ <;> repeat' first | exact trivial | refine q0 ?_ | exact qb | exact q1 | exact q2 | exact q3 | exact rfl | refine And.intro ?_ ?_ | exact q4 | exact q5 | exact q6 | exact q7 | exact Inside.ptr _ _ _ (.inr ⟨rfl,rfl⟩) | exact q8 | exact q9 | exact qd | exact Tm.ins _ | exact Tm.inss _ _ | exact Am.ins _ | exact Am.inss _ _ | refine ins_buf_str ?_ | refine Tm.ins_buf ?_ | refine Am.ins_buf ?_ | exact qf
  all_goals first | exact hfi _ | exact hxi _
 intro i hi hq
 refine k_st rfl ?_
 rcases Nat.lt_or_ge i l.length with h | h
 ·repeat refine kn rfl ?_
  refine k_region tok rfl (by kernel_rfl) ?_
  simp only [go_sem,simprocAttr,h]
  repeat refine kn rfl ?_
  refine k_cond_t rfl (by simp only [go_sem,simprocAttr]) ?_
  repeat refine kn rfl ?_
  refine k_region tok rfl (by kernel_rfl) ?_
  simp only [go_sem,simprocAttr]
  repeat refine kn rfl ?_
  refine k_region tok rfl (by kernel_rfl) ?_
  simp only [go_sem,simprocAttr,getD_map Am.enc _ _ h,h]
  refine callV (avs:=[Am.enc l[i]]) rfl hf (hp l[i] (List.getElem_mem h) _ _ (Nat.succ_pos _) (hT.full hn)) rfl ?_
  cases h1:p l[i] with
  | true =>
   simp only [go_sem,simprocAttr]
   repeat refine kn rfl ?_
   refine k_cond_t rfl (by simp only [go_sem,simprocAttr]) ?_
   repeat refine kn rfl ?_
   refine k_region tok rfl (by kernel_rfl) ?_
   simp only [go_sem,simprocAttr]
   repeat refine kn rfl ?_
   refine k_ret_round rfl ?_
   refine post_one ?_ (.int _ _) rfl
   rw [idxF_at h h1 hq]
   exact .refl _
  | false =>
   simp only [go_sem,simprocAttr]
   repeat refine kn rfl ?_
   refine k_cond_f rfl (by simp only [go_sem,simprocAttr]) ?_
   repeat refine kn rfl ?_
   refine k_region tok rfl (by kernel_rfl) ?_
   simp only [go_sem,simprocAttr]
   repeat refine kn rfl ?_
   refine k_nil ?_
   refine ⟨fun j hj hji=>?_,?_⟩
   ·rcases Nat.lt_or_ge j i with h' | h'
    ·exact hq j hj h'
    ·have:j = i:=by omega
     subst this; exact h1
   ·refine AWk_kept ?_ ?_ ?_ ?_ <;> repeat' first | exact trivial | refine q0 ?_ | exact qb | exact q1 | exact q2 | exact q3 | exact rfl | refine And.intro ?_ ?_ | exact q4 | exact q5 | exact q6 | exact q7 | exact Inside.ptr _ _ _ (.inr ⟨rfl,rfl⟩) | exact q8 | exact q9 | exact qd | exact Tm.ins _ | exact Tm.inss _ _ | exact Am.ins _ | exact Am.inss _ _ | refine ins_buf_str ?_ | refine Tm.ins_buf ?_ | refine Am.ins_buf ?_ | exact qf
    ·simp only [go_sem,simprocAttr]
     rw [IntWalk.i64_in _ (by omega)]; exact .refl _
    all_goals first | exact hfi _ | exact hxi _
 ·repeat refine kn rfl ?_
  refine k_region tok rfl (by kernel_rfl) ?_
  simp only [go_sem,simprocAttr,Nat.not_lt.2 h]
  repeat refine kn rfl ?_
  refine k_cond_f rfl (by simp only [go_sem,simprocAttr]) ?_
  repeat refine kn rfl ?_
  refine k_exit_round rfl rfl rfl ?_
  repeat refine kn rfl ?_
  refine k_region tok rfl (by kernel_rfl) ?_
  simp only [go_sem,simprocAttr]
  repeat refine kn rfl ?_
  refine k_ret rfl ?_
  refine post_one ?_ (.int _ _) rfl
  rw [idxF_none (fun j hj=>hq j hj (by omega))]
  exact .refl _
def sx104 (l:List (GB)) (f:Nat) (caps:List AV) (H:AHeap) (i:Nat):AState :=
 ⟨[(8,.int .i64 i),(7,.int .i64 l.length),(1,.fn (.func f) caps),(0,.sl 9 (l.map GB.enc) .any)],[],H⟩
theorem x104 (l:List (GB)) (hl:l.length ≤ 1000000) (f:Nat) (caps:List AV) (p:(GB) → Bool) (hp:CondF f caps GB.enc l p):PureT Tryz.prog 104 [.sl 9 (l.map GB.enc) .any,.fn (.func f) caps] (.int .i64 (idxF p l)):=by
 intro n H hn hT
 have hxi:∀ q,Inside n q (.sl 9 (l.map GB.enc) .any):=fun q=>(below_gbs l).inside
 obtain ⟨⟨fn,c,hf⟩,hp,hbl⟩:=hp
 have hfi:∀ q,Inside n q (.fn (.func f) caps):=fun q=>(Below.fn _ _ fun i hi=>(hbl n).mem _ (List.getElem_mem hi)).inside
 refine a_fun tok (fun_of Tryz.func104 rfl rfl) (by simp) fun B=>?_
 repeat refine kn rfl ?_
 refine k_region tok rfl (by kernel_rfl) ?_
 simp only [go_sem,simprocAttr]
 repeat refine kn rfl ?_
 refine k_region tok rfl (by kernel_rfl) ?_
 simp only [go_sem,simprocAttr]
 repeat refine kn rfl ?_
 refine k_loop_p (sx104 l f caps H) (fun i=>∀ j (h:j < l.length),j < i → p l[j] = false) l.length rfl ?_ (fun j _ h=>absurd h (Nat.not_lt_zero _)) ?_
 ·refine AWk_kept ?_ ?_ ?_ ?_ <;> repeat' first | exact trivial | refine q0 ?_ | exact qb | exact q1 | exact q2 | exact q3 | exact rfl | refine And.intro ?_ ?_ | exact q4 | exact q5 | exact q6 | exact q7 | exact Inside.ptr _ _ _ (.inr ⟨rfl,rfl⟩) | exact q8 | exact q9 | exact qd | exact Tm.ins _ | exact Tm.inss _ _ | exact Am.ins _ | exact Am.inss _ _ | refine ins_buf_str ?_ | refine Tm.ins_buf ?_ | refine Am.ins_buf ?_ | exact qf
  all_goals first | exact hfi _ | exact hxi _
 intro i hi hq
 refine k_st rfl ?_
 rcases Nat.lt_or_ge i l.length with h | h
 ·repeat refine kn rfl ?_
  refine k_region tok rfl (by kernel_rfl) ?_
  simp only [go_sem,simprocAttr,h]
  repeat refine kn rfl ?_
  refine k_cond_t rfl (by simp only [go_sem,simprocAttr]) ?_
  repeat refine kn rfl ?_
  refine k_region tok rfl (by kernel_rfl) ?_
  simp only [go_sem,simprocAttr]
  repeat refine kn rfl ?_
  refine k_region tok rfl (by kernel_rfl) ?_
  simp only [go_sem,simprocAttr,getD_map GB.enc _ _ h,h]
  refine callV (avs:=[GB.enc l[i]]) rfl hf (hp l[i] (List.getElem_mem h) _ _ (Nat.succ_pos _) (hT.full hn)) rfl ?_
  cases h1:p l[i] with
  | true =>
   simp only [go_sem,simprocAttr]
   repeat refine kn rfl ?_
   refine k_cond_t rfl (by simp only [go_sem,simprocAttr]) ?_
   repeat refine kn rfl ?_
   refine k_region tok rfl (by kernel_rfl) ?_
   simp only [go_sem,simprocAttr]
   repeat refine kn rfl ?_
   refine k_ret_round rfl ?_
   refine post_one ?_ (.int _ _) rfl
   rw [idxF_at h h1 hq]
   exact .refl _
  | false =>
   simp only [go_sem,simprocAttr]
   repeat refine kn rfl ?_
   refine k_cond_f rfl (by simp only [go_sem,simprocAttr]) ?_
   repeat refine kn rfl ?_
   refine k_region tok rfl (by kernel_rfl) ?_
   simp only [go_sem,simprocAttr]
   repeat refine kn rfl ?_
   refine k_nil ?_
   refine ⟨fun j hj hji=>?_,?_⟩
   ·rcases Nat.lt_or_ge j i with h' | h'
    ·exact hq j hj h'
    ·have:j = i:=by omega
     subst this; exact h1
   ·refine AWk_kept ?_ ?_ ?_ ?_ <;> repeat' first | exact trivial | refine q0 ?_ | exact qb | exact q1 | exact q2 | exact q3 | exact rfl | refine And.intro ?_ ?_ | exact q4 | exact q5 | exact q6 | exact q7 | exact Inside.ptr _ _ _ (.inr ⟨rfl,rfl⟩) | exact q8 | exact q9 | exact qd | exact Tm.ins _ | exact Tm.inss _ _ | exact Am.ins _ | exact Am.inss _ _ | refine ins_buf_str ?_ | refine Tm.ins_buf ?_ | refine Am.ins_buf ?_ | exact qf
    ·simp only [go_sem,simprocAttr]
     rw [IntWalk.i64_in _ (by omega)]; exact .refl _
    all_goals first | exact hfi _ | exact hxi _
 ·repeat refine kn rfl ?_
  refine k_region tok rfl (by kernel_rfl) ?_
  simp only [go_sem,simprocAttr,Nat.not_lt.2 h]
  repeat refine kn rfl ?_
  refine k_cond_f rfl (by simp only [go_sem,simprocAttr]) ?_
  repeat refine kn rfl ?_
  refine k_exit_round rfl rfl rfl ?_
  repeat refine kn rfl ?_
  refine k_region tok rfl (by kernel_rfl) ?_
  simp only [go_sem,simprocAttr]
  repeat refine kn rfl ?_
  refine k_ret rfl ?_
  refine post_one ?_ (.int _ _) rfl
  rw [idxF_none (fun j hj=>hq j hj (by omega))]
  exact .refl _
def sx112 (l:List (Ins)) (f:Nat) (caps:List AV) (H:AHeap) (i:Nat):AState :=
 ⟨[(8,.int .i64 i),(7,.int .i64 l.length),(1,.fn (.func f) caps),(0,.sl 8 (l.map Ins.enc) .any)],[],H⟩
theorem x112 (l:List (Ins)) (hl:l.length ≤ 1000000) (f:Nat) (caps:List AV) (p:(Ins) → Bool) (hp:CondF f caps Ins.enc l p):PureT Tryz.prog 112 [.sl 8 (l.map Ins.enc) .any,.fn (.func f) caps] (.int .i64 (idxF p l)):=by
 intro n H hn hT
 have hxi:∀ q,Inside n q (.sl 8 (l.map Ins.enc) .any):=fun q=>(below_inss l).inside
 obtain ⟨⟨fn,c,hf⟩,hp,hbl⟩:=hp
 have hfi:∀ q,Inside n q (.fn (.func f) caps):=fun q=>(Below.fn _ _ fun i hi=>(hbl n).mem _ (List.getElem_mem hi)).inside
 refine a_fun tok (fun_of Tryz.func112 rfl rfl) (by simp) fun B=>?_
 repeat refine kn rfl ?_
 refine k_region tok rfl (by kernel_rfl) ?_
 simp only [go_sem,simprocAttr]
 repeat refine kn rfl ?_
 refine k_region tok rfl (by kernel_rfl) ?_
 simp only [go_sem,simprocAttr]
 repeat refine kn rfl ?_
 refine k_loop_p (sx112 l f caps H) (fun i=>∀ j (h:j < l.length),j < i → p l[j] = false) l.length rfl ?_ (fun j _ h=>absurd h (Nat.not_lt_zero _)) ?_
 ·refine AWk_kept ?_ ?_ ?_ ?_ <;> repeat' first | exact trivial | refine q0 ?_ | exact qb | exact q1 | exact q2 | exact q3 | exact rfl | refine And.intro ?_ ?_ | exact q4 | exact q5 | exact q6 | exact q7 | exact Inside.ptr _ _ _ (.inr ⟨rfl,rfl⟩) | exact q8 | exact q9 | exact qd | exact Tm.ins _ | exact Tm.inss _ _ | exact Am.ins _ | exact Am.inss _ _ | refine ins_buf_str ?_ | refine Tm.ins_buf ?_ | refine Am.ins_buf ?_ | exact qf
  all_goals first | exact hfi _ | exact hxi _
 intro i hi hq
 refine k_st rfl ?_
 rcases Nat.lt_or_ge i l.length with h | h
 ·repeat refine kn rfl ?_
  refine k_region tok rfl (by kernel_rfl) ?_
  simp only [go_sem,simprocAttr,h]
  repeat refine kn rfl ?_
  refine k_cond_t rfl (by simp only [go_sem,simprocAttr]) ?_
  repeat refine kn rfl ?_
  refine k_region tok rfl (by kernel_rfl) ?_
  simp only [go_sem,simprocAttr]
  repeat refine kn rfl ?_
  refine k_region tok rfl (by kernel_rfl) ?_
  simp only [go_sem,simprocAttr,getD_map Ins.enc _ _ h,h]
  refine callV (avs:=[Ins.enc l[i]]) rfl hf (hp l[i] (List.getElem_mem h) _ _ (Nat.succ_pos _) (hT.full hn)) rfl ?_
  cases h1:p l[i] with
  | true =>
   simp only [go_sem,simprocAttr]
   repeat refine kn rfl ?_
   refine k_cond_t rfl (by simp only [go_sem,simprocAttr]) ?_
   repeat refine kn rfl ?_
   refine k_region tok rfl (by kernel_rfl) ?_
   simp only [go_sem,simprocAttr]
   repeat refine kn rfl ?_
   refine k_ret_round rfl ?_
   refine post_one ?_ (.int _ _) rfl
   rw [idxF_at h h1 hq]
   exact .refl _
  | false =>
   simp only [go_sem,simprocAttr]
   repeat refine kn rfl ?_
   refine k_cond_f rfl (by simp only [go_sem,simprocAttr]) ?_
   repeat refine kn rfl ?_
   refine k_region tok rfl (by kernel_rfl) ?_
   simp only [go_sem,simprocAttr]
   repeat refine kn rfl ?_
   refine k_nil ?_
   refine ⟨fun j hj hji=>?_,?_⟩
   ·rcases Nat.lt_or_ge j i with h' | h'
    ·exact hq j hj h'
    ·have:j = i:=by omega
     subst this; exact h1
   ·refine AWk_kept ?_ ?_ ?_ ?_ <;> repeat' first | exact trivial | refine q0 ?_ | exact qb | exact q1 | exact q2 | exact q3 | exact rfl | refine And.intro ?_ ?_ | exact q4 | exact q5 | exact q6 | exact q7 | exact Inside.ptr _ _ _ (.inr ⟨rfl,rfl⟩) | exact q8 | exact q9 | exact qd | exact Tm.ins _ | exact Tm.inss _ _ | exact Am.ins _ | exact Am.inss _ _ | refine ins_buf_str ?_ | refine Tm.ins_buf ?_ | refine Am.ins_buf ?_ | exact qf
    ·simp only [go_sem,simprocAttr]
     rw [IntWalk.i64_in _ (by omega)]; exact .refl _
    all_goals first | exact hfi _ | exact hxi _
 ·repeat refine kn rfl ?_
  refine k_region tok rfl (by kernel_rfl) ?_
  simp only [go_sem,simprocAttr,Nat.not_lt.2 h]
  repeat refine kn rfl ?_
  refine k_cond_f rfl (by simp only [go_sem,simprocAttr]) ?_
  repeat refine kn rfl ?_
  refine k_exit_round rfl rfl rfl ?_
  repeat refine kn rfl ?_
  refine k_region tok rfl (by kernel_rfl) ?_
  simp only [go_sem,simprocAttr]
  repeat refine kn rfl ?_
  refine k_ret rfl ?_
  refine post_one ?_ (.int _ _) rfl
  rw [idxF_none (fun j hj=>hq j hj (by omega))]
  exact .refl _
def sx117 (l:List (Str)) (f:Nat) (caps:List AV) (H:AHeap) (i:Nat):AState :=
 ⟨[(8,.int .i64 i),(7,.int .i64 l.length),(1,.fn (.func f) caps),(0,.sl 1 (l.map eStr) .any)],[],H⟩
theorem x117 (l:List (Str)) (hl:l.length ≤ 1000000) (f:Nat) (caps:List AV) (p:(Str) → Bool) (hp:CondF f caps eStr l p):PureT Tryz.prog 117 [.sl 1 (l.map eStr) .any,.fn (.func f) caps] (.int .i64 (idxF p l)):=by
 intro n H hn hT
 have hxi:∀ q,Inside n q (.sl 1 (l.map eStr) .any):=fun q=>(below_strs l).inside
 obtain ⟨⟨fn,c,hf⟩,hp,hbl⟩:=hp
 have hfi:∀ q,Inside n q (.fn (.func f) caps):=fun q=>(Below.fn _ _ fun i hi=>(hbl n).mem _ (List.getElem_mem hi)).inside
 refine a_fun tok (fun_of Tryz.func117 rfl rfl) (by simp) fun B=>?_
 repeat refine kn rfl ?_
 refine k_region tok rfl (by kernel_rfl) ?_
 simp only [go_sem,simprocAttr]
 repeat refine kn rfl ?_
 refine k_region tok rfl (by kernel_rfl) ?_
 simp only [go_sem,simprocAttr]
 repeat refine kn rfl ?_
 refine k_loop_p (sx117 l f caps H) (fun i=>∀ j (h:j < l.length),j < i → p l[j] = false) l.length rfl ?_ (fun j _ h=>absurd h (Nat.not_lt_zero _)) ?_
 ·refine AWk_kept ?_ ?_ ?_ ?_ <;> repeat' first | exact trivial | refine q0 ?_ | exact qb | exact q1 | exact q2 | exact q3 | exact rfl | refine And.intro ?_ ?_ | exact q4 | exact q5 | exact q6 | exact q7 | exact Inside.ptr _ _ _ (.inr ⟨rfl,rfl⟩) | exact q8 | exact q9 | exact qd | exact Tm.ins _ | exact Tm.inss _ _ | exact Am.ins _ | exact Am.inss _ _ | refine ins_buf_str ?_ | refine Tm.ins_buf ?_ | refine Am.ins_buf ?_ | exact qf
  all_goals first | exact hfi _ | exact hxi _
 intro i hi hq
 refine k_st rfl ?_
 rcases Nat.lt_or_ge i l.length with h | h
 ·repeat refine kn rfl ?_
  refine k_region tok rfl (by kernel_rfl) ?_
  simp only [go_sem,simprocAttr,h]
  repeat refine kn rfl ?_
  refine k_cond_t rfl (by simp only [go_sem,simprocAttr]) ?_
  repeat refine kn rfl ?_
  refine k_region tok rfl (by kernel_rfl) ?_
  simp only [go_sem,simprocAttr]
  repeat refine kn rfl ?_
  refine k_region tok rfl (by kernel_rfl) ?_
  simp only [go_sem,simprocAttr,getD_map eStr _ _ h,h]
  refine callV (avs:=[eStr l[i]]) rfl hf (hp l[i] (List.getElem_mem h) _ _ (Nat.succ_pos _) (hT.full hn)) rfl ?_
  cases h1:p l[i] with
  | true =>
   simp only [go_sem,simprocAttr]
   repeat refine kn rfl ?_
   refine k_cond_t rfl (by simp only [go_sem,simprocAttr]) ?_
   repeat refine kn rfl ?_
   refine k_region tok rfl (by kernel_rfl) ?_
   simp only [go_sem,simprocAttr]
   repeat refine kn rfl ?_
   refine k_ret_round rfl ?_
   refine post_one ?_ (.int _ _) rfl
   rw [idxF_at h h1 hq]
   exact .refl _
  | false =>
   simp only [go_sem,simprocAttr]
   repeat refine kn rfl ?_
   refine k_cond_f rfl (by simp only [go_sem,simprocAttr]) ?_
   repeat refine kn rfl ?_
   refine k_region tok rfl (by kernel_rfl) ?_
   simp only [go_sem,simprocAttr]
   repeat refine kn rfl ?_
   refine k_nil ?_
   refine ⟨fun j hj hji=>?_,?_⟩
   ·rcases Nat.lt_or_ge j i with h' | h'
    ·exact hq j hj h'
    ·have:j = i:=by omega
     subst this; exact h1
   ·refine AWk_kept ?_ ?_ ?_ ?_ <;> repeat' first | exact trivial | refine q0 ?_ | exact qb | exact q1 | exact q2 | exact q3 | exact rfl | refine And.intro ?_ ?_ | exact q4 | exact q5 | exact q6 | exact q7 | exact Inside.ptr _ _ _ (.inr ⟨rfl,rfl⟩) | exact q8 | exact q9 | exact qd | exact Tm.ins _ | exact Tm.inss _ _ | exact Am.ins _ | exact Am.inss _ _ | refine ins_buf_str ?_ | refine Tm.ins_buf ?_ | refine Am.ins_buf ?_ | exact qf
    ·simp only [go_sem,simprocAttr]
     rw [IntWalk.i64_in _ (by omega)]; exact .refl _
    all_goals first | exact hfi _ | exact hxi _
 ·repeat refine kn rfl ?_
  refine k_region tok rfl (by kernel_rfl) ?_
  simp only [go_sem,simprocAttr,Nat.not_lt.2 h]
  repeat refine kn rfl ?_
  refine k_cond_f rfl (by simp only [go_sem,simprocAttr]) ?_
  repeat refine kn rfl ?_
  refine k_exit_round rfl rfl rfl ?_
  repeat refine kn rfl ?_
  refine k_region tok rfl (by kernel_rfl) ?_
  simp only [go_sem,simprocAttr]
  repeat refine kn rfl ?_
  refine k_ret rfl ?_
  refine post_one ?_ (.int _ _) rfl
  rw [idxF_none (fun j hj=>hq j hj (by omega))]
  exact .refl _
def sx297 (l:List (LInt)) (f:Nat) (caps:List AV) (H:AHeap) (i:Nat):AState :=
 ⟨[(8,.int .i64 i),(7,.int .i64 l.length),(1,.fn (.func f) caps),(0,.sl 1 (l.map sInts) .any)],[],H⟩
theorem x297 (l:List (LInt)) (hl:l.length ≤ 1000000) (f:Nat) (caps:List AV) (p:(LInt) → Bool) (hp:CondF f caps sInts l p):PureT Tryz.prog 297 [.sl 1 (l.map sInts) .any,.fn (.func f) caps] (.int .i64 (idxF p l)):=by
 intro n H hn hT
 have hxi:∀ q,Inside n q (.sl 1 (l.map sInts) .any):=fun q=>(below_lints l).inside
 obtain ⟨⟨fn,c,hf⟩,hp,hbl⟩:=hp
 have hfi:∀ q,Inside n q (.fn (.func f) caps):=fun q=>(Below.fn _ _ fun i hi=>(hbl n).mem _ (List.getElem_mem hi)).inside
 refine a_fun tok (fun_of Tryz.func297 rfl rfl) (by simp) fun B=>?_
 repeat refine kn rfl ?_
 refine k_region tok rfl (by kernel_rfl) ?_
 simp only [go_sem,simprocAttr]
 repeat refine kn rfl ?_
 refine k_region tok rfl (by kernel_rfl) ?_
 simp only [go_sem,simprocAttr]
 repeat refine kn rfl ?_
 refine k_loop_p (sx297 l f caps H) (fun i=>∀ j (h:j < l.length),j < i → p l[j] = false) l.length rfl ?_ (fun j _ h=>absurd h (Nat.not_lt_zero _)) ?_
 ·refine AWk_kept ?_ ?_ ?_ ?_ <;> repeat' first | exact trivial | refine q0 ?_ | exact qb | exact q1 | exact q2 | exact q3 | exact rfl | refine And.intro ?_ ?_ | exact q4 | exact q5 | exact q6 | exact q7 | exact Inside.ptr _ _ _ (.inr ⟨rfl,rfl⟩) | exact q8 | exact q9 | exact qd | exact Tm.ins _ | exact Tm.inss _ _ | exact Am.ins _ | exact Am.inss _ _ | refine ins_buf_str ?_ | refine Tm.ins_buf ?_ | refine Am.ins_buf ?_ | exact qf
  all_goals first | exact hfi _ | exact hxi _
 intro i hi hq
 refine k_st rfl ?_
 rcases Nat.lt_or_ge i l.length with h | h
 ·repeat refine kn rfl ?_
  refine k_region tok rfl (by kernel_rfl) ?_
  simp only [go_sem,simprocAttr,h]
  repeat refine kn rfl ?_
  refine k_cond_t rfl (by simp only [go_sem,simprocAttr]) ?_
  repeat refine kn rfl ?_
  refine k_region tok rfl (by kernel_rfl) ?_
  simp only [go_sem,simprocAttr]
  repeat refine kn rfl ?_
  refine k_region tok rfl (by kernel_rfl) ?_
  simp only [go_sem,simprocAttr,getD_map sInts _ _ h,h]
  refine callV (avs:=[sInts l[i]]) rfl hf (hp l[i] (List.getElem_mem h) _ _ (Nat.succ_pos _) (hT.full hn)) rfl ?_
  cases h1:p l[i] with
  | true =>
   simp only [go_sem,simprocAttr]
   repeat refine kn rfl ?_
   refine k_cond_t rfl (by simp only [go_sem,simprocAttr]) ?_
   repeat refine kn rfl ?_
   refine k_region tok rfl (by kernel_rfl) ?_
   simp only [go_sem,simprocAttr]
   repeat refine kn rfl ?_
   refine k_ret_round rfl ?_
   refine post_one ?_ (.int _ _) rfl
   rw [idxF_at h h1 hq]
   exact .refl _
  | false =>
   simp only [go_sem,simprocAttr]
   repeat refine kn rfl ?_
   refine k_cond_f rfl (by simp only [go_sem,simprocAttr]) ?_
   repeat refine kn rfl ?_
   refine k_region tok rfl (by kernel_rfl) ?_
   simp only [go_sem,simprocAttr]
   repeat refine kn rfl ?_
   refine k_nil ?_
   refine ⟨fun j hj hji=>?_,?_⟩
   ·rcases Nat.lt_or_ge j i with h' | h'
    ·exact hq j hj h'
    ·have:j = i:=by omega
     subst this; exact h1
   ·refine AWk_kept ?_ ?_ ?_ ?_ <;> repeat' first | exact trivial | refine q0 ?_ | exact qb | exact q1 | exact q2 | exact q3 | exact rfl | refine And.intro ?_ ?_ | exact q4 | exact q5 | exact q6 | exact q7 | exact Inside.ptr _ _ _ (.inr ⟨rfl,rfl⟩) | exact q8 | exact q9 | exact qd | exact Tm.ins _ | exact Tm.inss _ _ | exact Am.ins _ | exact Am.inss _ _ | refine ins_buf_str ?_ | refine Tm.ins_buf ?_ | refine Am.ins_buf ?_ | exact qf
    ·simp only [go_sem,simprocAttr]
     rw [IntWalk.i64_in _ (by omega)]; exact .refl _
    all_goals first | exact hfi _ | exact hxi _
 ·repeat refine kn rfl ?_
  refine k_region tok rfl (by kernel_rfl) ?_
  simp only [go_sem,simprocAttr,Nat.not_lt.2 h]
  repeat refine kn rfl ?_
  refine k_cond_f rfl (by simp only [go_sem,simprocAttr]) ?_
  repeat refine kn rfl ?_
  refine k_exit_round rfl rfl rfl ?_
  repeat refine kn rfl ?_
  refine k_region tok rfl (by kernel_rfl) ?_
  simp only [go_sem,simprocAttr]
  repeat refine kn rfl ?_
  refine k_ret rfl ?_
  refine post_one ?_ (.int _ _) rfl
  rw [idxF_none (fun j hj=>hq j hj (by omega))]
  exact .refl _
theorem c52 (l:List (GL)) (hl:l.length ≤ 1000000) (f:Nat) (caps:List AV) (p:GL → Bool) (hp:CondF f caps GL.enc l p):PureT Tryz.prog 52 [.sl 3 (l.map GL.enc) .any,.fn (.func f) caps] (.bool (l.any p)):=by
 intro n H hn hT
 refine a_fun tok (fun_of Tryz.func52 rfl rfl) (by simp) fun B=>?_
 repeat refine kn rfl ?_
 refine k_region tok rfl (by kernel_rfl) ?_
 simp only [go_sem,simprocAttr]
 repeat refine kn rfl ?_
 refine k_region tok rfl (by kernel_rfl) ?_
 simp only [go_sem,simprocAttr]
 refine callT (fun_of Tryz.func101 rfl rfl) (x101 l hl f caps p hp) hn hT (by simp only [go_sem,simprocAttr]) ?_
 simp only [go_sem,simprocAttr]
 repeat refine kn rfl ?_
 refine k_ret rfl ?_
 refine post_one ?_ (.bool _) rfl
 simp only [go_sem,simprocAttr,idxF_ge]
 exact .refl _
theorem c54 (l:List (GE)) (hl:l.length ≤ 1000000) (f:Nat) (caps:List AV) (p:GE → Bool) (hp:CondF f caps GE.enc l p):PureT Tryz.prog 54 [.sl 2 (l.map GE.enc) .any,.fn (.func f) caps] (.bool (l.any p)):=by
 intro n H hn hT
 refine a_fun tok (fun_of Tryz.func54 rfl rfl) (by simp) fun B=>?_
 repeat refine kn rfl ?_
 refine k_region tok rfl (by kernel_rfl) ?_
 simp only [go_sem,simprocAttr]
 repeat refine kn rfl ?_
 refine k_region tok rfl (by kernel_rfl) ?_
 simp only [go_sem,simprocAttr]
 refine callT (fun_of Tryz.func102 rfl rfl) (x102 l hl f caps p hp) hn hT (by simp only [go_sem,simprocAttr]) ?_
 simp only [go_sem,simprocAttr]
 repeat refine kn rfl ?_
 refine k_ret rfl ?_
 refine post_one ?_ (.bool _) rfl
 simp only [go_sem,simprocAttr,idxF_ge]
 exact .refl _
theorem c55 (l:List (Am)) (hl:l.length ≤ 1000000) (f:Nat) (caps:List AV) (p:Am → Bool) (hp:CondF f caps Am.enc l p):PureT Tryz.prog 55 [.sl 2 (l.map Am.enc) .any,.fn (.func f) caps] (.bool (l.any p)):=by
 intro n H hn hT
 refine a_fun tok (fun_of Tryz.func55 rfl rfl) (by simp) fun B=>?_
 repeat refine kn rfl ?_
 refine k_region tok rfl (by kernel_rfl) ?_
 simp only [go_sem,simprocAttr]
 repeat refine kn rfl ?_
 refine k_region tok rfl (by kernel_rfl) ?_
 simp only [go_sem,simprocAttr]
 refine callT (fun_of Tryz.func103 rfl rfl) (x103 l hl f caps p hp) hn hT (by simp only [go_sem,simprocAttr]) ?_
 simp only [go_sem,simprocAttr]
 repeat refine kn rfl ?_
 refine k_ret rfl ?_
 refine post_one ?_ (.bool _) rfl
 simp only [go_sem,simprocAttr,idxF_ge]
 exact .refl _
theorem c56 (l:List (GB)) (hl:l.length ≤ 1000000) (f:Nat) (caps:List AV) (p:GB → Bool) (hp:CondF f caps GB.enc l p):PureT Tryz.prog 56 [.sl 9 (l.map GB.enc) .any,.fn (.func f) caps] (.bool (l.any p)):=by
 intro n H hn hT
 refine a_fun tok (fun_of Tryz.func56 rfl rfl) (by simp) fun B=>?_
 repeat refine kn rfl ?_
 refine k_region tok rfl (by kernel_rfl) ?_
 simp only [go_sem,simprocAttr]
 repeat refine kn rfl ?_
 refine k_region tok rfl (by kernel_rfl) ?_
 simp only [go_sem,simprocAttr]
 refine callT (fun_of Tryz.func104 rfl rfl) (x104 l hl f caps p hp) hn hT (by simp only [go_sem,simprocAttr]) ?_
 simp only [go_sem,simprocAttr]
 repeat refine kn rfl ?_
 refine k_ret rfl ?_
 refine post_one ?_ (.bool _) rfl
 simp only [go_sem,simprocAttr,idxF_ge]
 exact .refl _
theorem c62 (l:List (Ins)) (hl:l.length ≤ 1000000) (f:Nat) (caps:List AV) (p:Ins → Bool) (hp:CondF f caps Ins.enc l p):PureT Tryz.prog 62 [.sl 8 (l.map Ins.enc) .any,.fn (.func f) caps] (.bool (l.any p)):=by
 intro n H hn hT
 refine a_fun tok (fun_of Tryz.func62 rfl rfl) (by simp) fun B=>?_
 repeat refine kn rfl ?_
 refine k_region tok rfl (by kernel_rfl) ?_
 simp only [go_sem,simprocAttr]
 repeat refine kn rfl ?_
 refine k_region tok rfl (by kernel_rfl) ?_
 simp only [go_sem,simprocAttr]
 refine callT (fun_of Tryz.func112 rfl rfl) (x112 l hl f caps p hp) hn hT (by simp only [go_sem,simprocAttr]) ?_
 simp only [go_sem,simprocAttr]
 repeat refine kn rfl ?_
 refine k_ret rfl ?_
 refine post_one ?_ (.bool _) rfl
 simp only [go_sem,simprocAttr,idxF_ge]
 exact .refl _
theorem c66 (l:List (Str)) (hl:l.length ≤ 1000000) (f:Nat) (caps:List AV) (p:Str → Bool) (hp:CondF f caps eStr l p):PureT Tryz.prog 66 [.sl 1 (l.map eStr) .any,.fn (.func f) caps] (.bool (l.any p)):=by
 intro n H hn hT
 refine a_fun tok (fun_of Tryz.func66 rfl rfl) (by simp) fun B=>?_
 repeat refine kn rfl ?_
 refine k_region tok rfl (by kernel_rfl) ?_
 simp only [go_sem,simprocAttr]
 repeat refine kn rfl ?_
 refine k_region tok rfl (by kernel_rfl) ?_
 simp only [go_sem,simprocAttr]
 refine callT (fun_of Tryz.func117 rfl rfl) (x117 l hl f caps p hp) hn hT (by simp only [go_sem,simprocAttr]) ?_
 simp only [go_sem,simprocAttr]
 repeat refine kn rfl ?_
 refine k_ret rfl ?_
 refine post_one ?_ (.bool _) rfl
 simp only [go_sem,simprocAttr,idxF_ge]
 exact .refl _
theorem c221 (l:List (LInt)) (hl:l.length ≤ 1000000) (f:Nat) (caps:List AV) (p:LInt → Bool) (hp:CondF f caps sInts l p):PureT Tryz.prog 221 [.sl 1 (l.map sInts) .any,.fn (.func f) caps] (.bool (l.any p)):=by
 intro n H hn hT
 refine a_fun tok (fun_of Tryz.func221 rfl rfl) (by simp) fun B=>?_
 repeat refine kn rfl ?_
 refine k_region tok rfl (by kernel_rfl) ?_
 simp only [go_sem,simprocAttr]
 repeat refine kn rfl ?_
 refine k_region tok rfl (by kernel_rfl) ?_
 simp only [go_sem,simprocAttr]
 refine callT (fun_of Tryz.func297 rfl rfl) (x297 l hl f caps p hp) hn hT (by simp only [go_sem,simprocAttr]) ?_
 simp only [go_sem,simprocAttr]
 repeat refine kn rfl ?_
 refine k_ret rfl ?_
 refine post_one ?_ (.bool _) rfl
 simp only [go_sem,simprocAttr,idxF_ge]
 exact .refl _
end Go.Proofs.YthgbkalgmicniaaGreatDoor

/- Validity. -/
namespace Go.Proofs.YthgbkalgmicniaaGreatDoor
open Go.Abs
set_option maxRecDepth 100000
def wOk (least n:Int):Bool:=decide (least ≤ n) && decide (n ≤ 1048576)
def badL (l:GL):Bool:=!validA l.a
def badE (e:GE):Bool:=(e.tuple.length == 0) || e.tuple.any (fun t=>!valueT t) || e.cond.any badL
def badB (b:GB):Bool:=if b.kind = 1 then badL b.lit else if b.kind = 3 then decide (b.fn < 1) || decide (2 < b.fn) || decide (b.op < 1) || decide (6 < b.op) || (b.op == 2) || decide (b.bound < -2147483647) || decide (2147483647 < b.bound) || b.elems.any badE else true
def validI (x:Ins):Bool:=decide (1 ≤ x.kind) && decide (x.kind ≤ 3) && wOk (-1) x.lower && wOk (-1) x.upper && wOk 0 x.weight && decide (-2147483647 ≤ x.level) && decide (x.level ≤ 2147483647) &&
 !(x.tuple.any fun t=>!valueT t) && !(x.heads.any fun a=>!validA a) && !(x.body.any badB)
structure _root_.Go.Abs.GE.Good (e:GE):Prop where
 tl:e.tuple.length ≤ 1000000
 t:∀ t ∈ e.tuple,t.Good
 cl:e.cond.length ≤ 1000000
 c:∀ l ∈ e.cond,l.a.Good
structure _root_.Go.Abs.GB.Good (b:GB):Prop where
 lit:b.lit.a.Good
 el:b.elems.length ≤ 1000000
 e:∀ e ∈ b.elems,e.Good
structure _root_.Go.Abs.Ins.Good (x:Ins):Prop where
 hl:x.heads.length ≤ 1000000
 h:∀ a ∈ x.heads,a.Good
 bl:x.body.length ≤ 1000000
 b:∀ b ∈ x.body,b.Good
 tl:x.tuple.length ≤ 1000000
 t:∀ t ∈ x.tuple,t.Good
theorem a44' (x y:Int):Pure Tryz.prog 44 [.int .i64 x,.int .i64 y] (.bool (wOk x y)):=by
 intro n H
 refine a_fun tok (fun_of Tryz.func44 rfl rfl) (by simp) fun B=>?_
 repeat refine kn rfl ?_
 refine k_region tok rfl (by kernel_rfl) ?_
 simp only [go_sem,simprocAttr]
 repeat refine kn rfl ?_
 refine k_region tok rfl (by kernel_rfl) ?_
 simp only [go_sem,simprocAttr]
 cases h1:decide (x ≤ y) with
 | false =>
  simp only [go_sem,simprocAttr,h1]
  repeat refine kn rfl ?_
  refine k_ret rfl ?_
  refine post_one ?_ (.bool _) rfl
  try simp only [go_sem,simprocAttr,wOk,h1,Bool.false_and]
  exact .refl _
 | true =>
  simp only [go_sem,simprocAttr,h1]
  repeat refine kn rfl ?_
  refine k_ret rfl ?_
  refine post_one ?_ (.bool _) rfl
  try simp only [go_sem,simprocAttr,wOk,h1,Bool.true_and]
  exact .refl _
theorem a45' (t:Tm) (ht:t.Good):PureT Tryz.prog 45 [t.enc] (.bool (!valueT t)):=by
 intro n H hn hT
 refine a_fun tok (fun_of Tryz.func45 rfl rfl) (by simp) fun B=>?_
 repeat refine kn rfl ?_
 refine k_region tok rfl (by kernel_rfl) ?_
 simp only [go_sem,simprocAttr]
 repeat refine kn rfl ?_
 refine k_region tok rfl (by kernel_rfl) ?_
 simp only [go_sem,simprocAttr]
 refine callT (fun_of Tryz.func46 rfl rfl) (a37 t ht) hn hT (by simp only [go_sem,simprocAttr]) ?_
 simp only [go_sem,simprocAttr]
 repeat refine kn rfl ?_
 refine k_ret rfl ?_
 refine post_one ?_ (.bool _) rfl
 try simp only [go_sem,simprocAttr]
 exact .refl _
theorem a47' (a:Am) (ha:a.Good):PureT Tryz.prog 47 [a.enc] (.bool (!validA a)):=by
 intro n H hn hT
 refine a_fun tok (fun_of Tryz.func47 rfl rfl) (by simp) fun B=>?_
 repeat refine kn rfl ?_
 refine k_region tok rfl (by kernel_rfl) ?_
 simp only [go_sem,simprocAttr]
 repeat refine kn rfl ?_
 refine k_region tok rfl (by kernel_rfl) ?_
 simp only [go_sem,simprocAttr]
 refine callT (fun_of Tryz.func48 rfl rfl) (a14 a ha) hn hT (by simp only [go_sem,simprocAttr]) ?_
 simp only [go_sem,simprocAttr]
 repeat refine kn rfl ?_
 refine k_ret rfl ?_
 refine post_one ?_ (.bool _) rfl
 try simp only [go_sem,simprocAttr]
 exact .refl _
abbrev cap47:AV:=.iptr [.fn (.func 47) []]
abbrev cap45:AV:=.iptr [.fn (.func 45) []]
abbrev cap49:AV:=.iptr [.fn (.func 49) [cap47]]
abbrev cap50:AV:=.iptr [.fn (.func 50) [cap45,cap49]]
theorem a49' (l:GL) (hl:l.a.Good):PureT Tryz.prog 49 [l.enc,cap47] (.bool (badL l)):=by
 intro n H hn hT
 refine a_fun tok (fun_of Tryz.func49 rfl rfl) (by simp) fun B=>?_
 repeat refine kn rfl ?_
 refine k_region tok rfl (by kernel_rfl) ?_
 simp only [go_sem,simprocAttr]
 repeat refine kn rfl ?_
 refine k_region tok rfl (by kernel_rfl) ?_
 simp only [go_sem,simprocAttr]
 refine callV (caps:=[]) (avs:=[l.a.enc]) rfl (fun_of Tryz.func47 rfl rfl) (by rw [List.append_nil]; exact a47' l.a hl _ _ (Nat.succ_pos _) (hT.full hn)) rfl ?_
 simp only [go_sem,simprocAttr]
 repeat refine kn rfl ?_
 refine k_ret rfl ?_
 refine post_one ?_ (.bool _) rfl
 try simp only [go_sem,simprocAttr,badL]
 exact .refl _
theorem blw_fn0 {n f:Nat}:Below n (.fn (.func f) []):=.fn _ _ fun i hi=>absurd hi (Nat.not_lt_zero _)
theorem blw_fn {n f:Nat} {cs:List AV} (h:AllP (fun c=>Below n c) cs):Below n (.fn (.func f) cs):=.fn _ _ fun i hi=>h.mem _ (List.getElem_mem hi)
theorem blw_cap47 {n:Nat}:Below n cap47:=below_iptr ⟨blw_fn0,trivial⟩
theorem blw_cap45 {n:Nat}:Below n cap45:=below_iptr ⟨blw_fn0,trivial⟩
theorem blw_cap49 {n:Nat}:Below n cap49:=below_iptr ⟨blw_fn ⟨blw_cap47,trivial⟩,trivial⟩
theorem blw_cap50 {n:Nat}:Below n cap50:=below_iptr ⟨blw_fn ⟨blw_cap45,blw_cap49,trivial⟩,trivial⟩
theorem a50' (e:GE) (he:e.Good):PureT Tryz.prog 50 [e.enc,cap45,cap49] (.bool (badE e)):=by
 intro n H hn hT
 refine a_fun tok (fun_of Tryz.func50 rfl rfl) (by simp) fun B=>?_
 repeat refine kn rfl ?_
 refine k_region tok rfl (by kernel_rfl) ?_
 simp only [go_sem,simprocAttr]
 repeat refine kn rfl ?_
 refine k_region tok rfl (by kernel_rfl) ?_
 simp only [go_sem,simprocAttr]
 cases h1:((e.tuple.length:Int) == 0) with
 | true =>
  have h1':(e.tuple.length == 0) = true:=by simp at h1 ⊢; omega
  simp only [go_sem,simprocAttr,h1]
  repeat refine kn rfl ?_
  refine k_ret rfl ?_
  refine post_one ?_ (.bool _) rfl
  try simp only [go_sem,simprocAttr,badE,h1',Bool.true_or]
  exact .refl _
 | false =>
  have h1':(e.tuple.length == 0) = false:=by simp at h1 ⊢; omega
  simp only [go_sem,simprocAttr,h1]
  refine callT (fun_of Tryz.func51 rfl rfl) (a46 e.tuple he.tl 45 [] (fun t=>!valueT t) ⟨⟨_,_,fun_of Tryz.func45 rfl rfl⟩,fun t ht=>a45' t (he.t t ht),fun _=>trivial⟩) hn hT (by simp only [go_sem,simprocAttr]) ?_
  simp only [go_sem,simprocAttr]
  cases h2:e.tuple.any (fun t=>!valueT t) with
  | true =>
   simp only [go_sem,simprocAttr]
   repeat refine kn rfl ?_
   refine k_ret rfl ?_
   refine post_one ?_ (.bool _) rfl
   try simp only [go_sem,simprocAttr,badE,h1',h2,Bool.false_or,Bool.true_or]
   exact .refl _
  | false =>
   simp only [go_sem,simprocAttr]
   refine callT (fun_of Tryz.func52 rfl rfl) (c52 e.cond he.cl 49 [cap47] badL ⟨⟨_,_,fun_of Tryz.func49 rfl rfl⟩,fun t ht=>a49' t (he.c t ht),fun _=>⟨blw_cap47,trivial⟩⟩) hn hT (by simp only [go_sem,simprocAttr]) ?_
   simp only [go_sem,simprocAttr]
   repeat refine kn rfl ?_
   refine k_ret rfl ?_
   refine post_one ?_ (.bool _) rfl
   try simp only [go_sem,simprocAttr,badE,h1',h2,Bool.false_or]
   exact .refl _
theorem a53' (b:GB) (hb:b.Good):PureT Tryz.prog 53 [b.enc,cap49,cap50] (.bool (badB b)):=by
 intro n H hn hT
 refine a_fun tok (fun_of Tryz.func53 rfl rfl) (by simp) fun B=>?_
 repeat refine kn rfl ?_
 refine k_region tok rfl (by kernel_rfl) ?_
 simp only [go_sem,simprocAttr]
 repeat refine kn rfl ?_
 refine k_region tok rfl (by kernel_rfl) ?_
 simp only [go_sem,simprocAttr]
 repeat refine kn rfl ?_
 refine k_region tok rfl (by kernel_rfl) ?_
 simp only [go_sem,simprocAttr]
 by_cases hk:b.kind = 1
 ·repeat refine kn rfl ?_
  refine k_cond_t rfl (by simp only [go_sem,simprocAttr,hk]) ?_
  repeat refine kn rfl ?_
  refine k_region tok rfl (by kernel_rfl) ?_
  simp only [go_sem,simprocAttr]
  refine callV (caps:=[cap47]) (avs:=[b.lit.enc]) rfl (fun_of Tryz.func49 rfl rfl) (a49' b.lit hb.lit _ _ (Nat.succ_pos _) (hT.full hn)) rfl ?_
  simp only [go_sem,simprocAttr]
  repeat refine kn rfl ?_
  refine k_ret rfl ?_
  refine post_one ?_ (.bool _) rfl
  try simp only [go_sem,simprocAttr,badB,hk,if_true]
  exact .refl _
 have hk':(b.kind == 1) = false:=by simpa using hk
 repeat refine kn rfl ?_
 refine k_cond_f rfl (by simp only [go_sem,simprocAttr,hk']) ?_
 repeat refine kn rfl ?_
 refine k_region tok rfl (by kernel_rfl) ?_
 simp only [go_sem,simprocAttr]
 by_cases hk3:b.kind = 3
 ·repeat refine kn rfl ?_
  refine k_cond_t rfl (by simp only [go_sem,simprocAttr,hk3]) ?_
  repeat refine kn rfl ?_
  refine k_region tok rfl (by kernel_rfl) ?_
  simp only [go_sem,simprocAttr]
  cases h1:decide (b.fn < 1) with
  | true =>
   simp only [go_sem,simprocAttr]
   repeat refine kn rfl ?_
   refine k_ret rfl ?_
   refine post_one ?_ (.bool _) rfl
   try simp only [go_sem,simprocAttr,badB,hk,hk3,if_true,if_false,h1,Bool.true_or]
   exact .refl _
  | false =>
  simp only [go_sem,simprocAttr]
  cases h2:decide (2 < b.fn) with
  | true =>
   simp only [go_sem,simprocAttr]
   repeat refine kn rfl ?_
   refine k_ret rfl ?_
   refine post_one ?_ (.bool _) rfl
   try simp only [go_sem,simprocAttr,badB,hk,hk3,if_true,if_false,h1,h2,Bool.true_or,Bool.or_true]
   exact .refl _
  | false =>
  simp only [go_sem,simprocAttr]
  cases h3:decide (b.op < 1) with
  | true =>
   simp only [go_sem,simprocAttr]
   repeat refine kn rfl ?_
   refine k_ret rfl ?_
   refine post_one ?_ (.bool _) rfl
   try simp only [go_sem,simprocAttr,badB,hk,hk3,if_true,if_false,h1,h2,h3,Bool.true_or,Bool.or_true]
   exact .refl _
  | false =>
  simp only [go_sem,simprocAttr]
  cases h4:decide (6 < b.op) with
  | true =>
   simp only [go_sem,simprocAttr]
   repeat refine kn rfl ?_
   refine k_ret rfl ?_
   refine post_one ?_ (.bool _) rfl
   try simp only [go_sem,simprocAttr,badB,hk,hk3,if_true,if_false,h1,h2,h3,h4,Bool.true_or,Bool.or_true]
   exact .refl _
  | false =>
  simp only [go_sem,simprocAttr]
  cases h5:(b.op == 2) with
  | true =>
   simp only [go_sem,simprocAttr]
   repeat refine kn rfl ?_
   refine k_ret rfl ?_
   refine post_one ?_ (.bool _) rfl
   try simp only [go_sem,simprocAttr,badB,hk,hk3,if_true,if_false,h1,h2,h3,h4,h5,Bool.true_or,Bool.or_true]
   exact .refl _
  | false =>
  simp only [go_sem,simprocAttr]
  cases h6:decide (b.bound < -2147483647) with
  | true =>
   simp only [go_sem,simprocAttr]
   repeat refine kn rfl ?_
   refine k_ret rfl ?_
   refine post_one ?_ (.bool _) rfl
   try simp only [go_sem,simprocAttr,badB,hk,hk3,if_true,if_false,h1,h2,h3,h4,h5,h6,Bool.true_or,Bool.or_true]
   exact .refl _
  | false =>
  simp only [go_sem,simprocAttr]
  cases h7:decide (2147483647 < b.bound) with
  | true =>
   simp only [go_sem,simprocAttr]
   repeat refine kn rfl ?_
   refine k_ret rfl ?_
   refine post_one ?_ (.bool _) rfl
   try simp only [go_sem,simprocAttr,badB,hk,hk3,if_true,if_false,h1,h2,h3,h4,h5,h6,h7,Bool.true_or,Bool.or_true]
   exact .refl _
  | false =>
  simp only [go_sem,simprocAttr]
  refine callT (fun_of Tryz.func54 rfl rfl) (c54 b.elems hb.el 50 [cap45,cap49] badE ⟨⟨_,_,fun_of Tryz.func50 rfl rfl⟩,fun t ht=>a50' t (hb.e t ht),fun _=>⟨blw_cap45,blw_cap49,trivial⟩⟩) hn hT (by simp only [go_sem,simprocAttr]) ?_
  simp only [go_sem,simprocAttr]
  repeat refine kn rfl ?_
  refine k_ret rfl ?_
  refine post_one ?_ (.bool _) rfl
  try simp only [go_sem,simprocAttr,badB,hk,hk3,if_true,if_false,h1,h2,h3,h4,h5,h6,h7,Bool.false_or]
  exact .refl _
 have hk3':(b.kind == 3) = false:=by simpa using hk3
 repeat refine kn rfl ?_
 refine k_cond_f rfl (by simp only [go_sem,simprocAttr,hk3']) ?_
 repeat refine kn rfl ?_
 refine k_region tok rfl (by kernel_rfl) ?_
 simp only [go_sem,simprocAttr]
 repeat refine kn rfl ?_
 refine k_ret rfl ?_
 refine post_one ?_ (.bool _) rfl
 try simp only [go_sem,simprocAttr,badB,hk,hk3,if_false]
 exact .refl _
end Go.Proofs.YthgbkalgmicniaaGreatDoor

/- Valid, Lower's own conditions. -/
namespace Go.Proofs.YthgbkalgmicniaaGreatDoor
open Go.Abs
set_option maxRecDepth 100000
theorem ins_fn0 {n f:Nat} {p:Nat → Prop}:Inside n p (.fn (.func f) []):=blw_fn0.inside
theorem blw_f49 {n:Nat}:Below n (.fn (.func 49) [cap47]):=blw_fn ⟨blw_cap47,trivial⟩
theorem blw_f50 {n:Nat}:Below n (.fn (.func 50) [cap45,cap49]):=blw_fn ⟨blw_cap45,blw_cap49,trivial⟩
theorem ins_ptr {n k o:Nat} {p:Nat → Prop} (h:p k):Inside n p (.ptr n k o):=Inside.ptr _ _ _ (.inr ⟨rfl,h⟩)
theorem Ins.iX {n:Nat} (q:Nat → Prop) (x:Ins):ABlk.Inside n q (.box [.int .u8 x.kind,.sl 2 (x.heads.map Am.enc) .any,.int .i64 x.lower,.int .i64 x.upper,.sl 9 (x.body.map GB.enc) .any,.int .i64 x.weight,.int .i64 x.level,.sl 4 (x.tuple.map Tm.enc) .any]) :=
 ABlk.inside_box' x.bcs.mem
theorem a15' (x:Ins) (hx:x.Good):PureT Tryz.prog 15 [x.enc] (.bool (validI x)):=by
 intro n H hn hT
 refine a_fun tok (fun_of Tryz.func15 rfl rfl) (by simp) fun B=>?_
 repeat refine kn rfl ?_
 refine k_region tok rfl (by kernel_rfl) ?_
 simp only [go_sem,simprocAttr]
 repeat refine kn rfl ?_
 refine k_region tok rfl (by kernel_rfl) ?_
 simp only [go_sem,simprocAttr]
 repeat refine kn rfl ?_
 refine k_region tok rfl (by kernel_rfl) ?_
 simp only [go_sem,simprocAttr]
 repeat refine kn rfl ?_
 refine k_region tok rfl (by kernel_rfl) ?_
 simp only [go_sem,simprocAttr]
 repeat refine kn rfl ?_
 refine k_freeze 5 [.fn (.func 47) []] [(1,.ptr n 1 0),(3,.fn (.func 44) []),(4,.ptr n 4 0),(5,cap47)] rfl ⟨ins_fn0,trivial⟩ ?_ ?_ ?_
 ·exact ⟨.inl ⟨.refl _,ins_ptr (by decide)⟩,.inl ⟨.refl _,ins_fn0⟩,.inl ⟨.refl _,ins_ptr (by decide)⟩,.inr ⟨0,rfl,rfl⟩,trivial⟩
 ·exact ⟨Ins.iX _ x,ABlk.inside_box ⟨ins_fn0,trivial⟩,trivial⟩
 simp only [go_sem,simprocAttr]
 repeat refine kn rfl ?_
 refine k_region tok rfl (by kernel_rfl) ?_
 simp only [go_sem,simprocAttr]
 repeat refine kn rfl ?_
 refine k_freeze 6 [.fn (.func 49) [cap47]] [(1,.ptr n 1 0),(3,.fn (.func 44) []),(4,.ptr n 4 0),(5,cap47),(6,cap49)] rfl ⟨blw_f49.inside,trivial⟩ ?_ ?_ ?_
 ·exact ⟨.inl ⟨.refl _,ins_ptr (by decide)⟩,.inl ⟨.refl _,ins_fn0⟩,.inl ⟨.refl _,ins_ptr (by decide)⟩,.inl ⟨.refl _,blw_cap47.inside⟩,.inr ⟨0,rfl,rfl⟩,trivial⟩
 ·exact ⟨Ins.iX _ x,ABlk.inside_box ⟨ins_fn0,trivial⟩,trivial⟩
 simp only [go_sem,simprocAttr]
 refine k_freeze 4 [.fn (.func 45) []] [(1,.ptr n 1 0),(3,.fn (.func 44) []),(4,cap45),(5,cap47),(6,cap49)] rfl ⟨ins_fn0,trivial⟩ ?_ ?_ ?_
 ·exact ⟨.inl ⟨.refl _,ins_ptr (by decide)⟩,.inl ⟨.refl _,ins_fn0⟩,.inr ⟨0,rfl,rfl⟩,.inl ⟨.refl _,blw_cap47.inside⟩,.inl ⟨.refl _,blw_cap49.inside⟩,trivial⟩
 ·exact ⟨Ins.iX _ x,trivial⟩
 simp only [go_sem,simprocAttr]
 repeat refine kn rfl ?_
 refine k_region tok rfl (by kernel_rfl) ?_
 simp only [go_sem,simprocAttr]
 repeat refine kn rfl ?_
 refine k_freeze 7 [.fn (.func 50) [cap45,cap49]] [(1,.ptr n 1 0),(3,.fn (.func 44) []),(4,cap45),(5,cap47),(6,cap49),(7,cap50)] rfl ⟨blw_f50.inside,trivial⟩ ?_ ?_ ?_
 ·exact ⟨.inl ⟨.refl _,ins_ptr (by decide)⟩,.inl ⟨.refl _,ins_fn0⟩,.inl ⟨.refl _,blw_cap45.inside⟩,.inl ⟨.refl _,blw_cap47.inside⟩,.inl ⟨.refl _,blw_cap49.inside⟩,.inr ⟨0,rfl,rfl⟩,trivial⟩
 ·exact ⟨Ins.iX _ x,trivial⟩
 simp only [go_sem,simprocAttr]
 repeat refine kn rfl ?_
 refine k_region tok rfl (by kernel_rfl) ?_
 simp only [go_sem,simprocAttr]
 repeat refine kn rfl ?_
 refine k_region tok rfl (by kernel_rfl) ?_
 simp only [go_sem,simprocAttr]
 cases h1:decide (1 ≤ x.kind) with
 | false =>
  simp only [go_sem,simprocAttr]
  repeat refine kn rfl ?_
  refine k_ret rfl ?_
  refine post_one ?_ (.bool _) rfl
  try simp only [go_sem,simprocAttr,validI,h1,Bool.true_and,Bool.false_and,Bool.and_false]
  exact .refl _
 | true =>
 simp only [go_sem,simprocAttr]
 cases h2:decide (x.kind ≤ 3) with
 | false =>
  simp only [go_sem,simprocAttr]
  repeat refine kn rfl ?_
  refine k_ret rfl ?_
  refine post_one ?_ (.bool _) rfl
  try simp only [go_sem,simprocAttr,validI,h1,h2,Bool.true_and,Bool.false_and,Bool.and_false]
  exact .refl _
 | true =>
 simp only [go_sem,simprocAttr]
 refine callV (caps:=[]) (avs:=[.int .i64 (-1),.int .i64 x.lower]) rfl (fun_of Tryz.func44 rfl rfl) (by rw [List.append_nil]; exact a44' _ _ _ _) rfl ?_
 cases h3:wOk (-1) x.lower with
 | false =>
  simp only [go_sem,simprocAttr]
  repeat refine kn rfl ?_
  refine k_ret rfl ?_
  refine post_one ?_ (.bool _) rfl
  try simp only [go_sem,simprocAttr,validI,h1,h2,h3,Bool.true_and,Bool.false_and,Bool.and_false]
  exact .refl _
 | true =>
 simp only [go_sem,simprocAttr]
 refine callV (caps:=[]) (avs:=[.int .i64 (-1),.int .i64 x.upper]) rfl (fun_of Tryz.func44 rfl rfl) (by rw [List.append_nil]; exact a44' _ _ _ _) rfl ?_
 cases h4:wOk (-1) x.upper with
 | false =>
  simp only [go_sem,simprocAttr]
  repeat refine kn rfl ?_
  refine k_ret rfl ?_
  refine post_one ?_ (.bool _) rfl
  try simp only [go_sem,simprocAttr,validI,h1,h2,h3,h4,Bool.true_and,Bool.false_and,Bool.and_false]
  exact .refl _
 | true =>
 simp only [go_sem,simprocAttr]
 refine callV (caps:=[]) (avs:=[.int .i64 (0),.int .i64 x.weight]) rfl (fun_of Tryz.func44 rfl rfl) (by rw [List.append_nil]; exact a44' _ _ _ _) rfl ?_
 cases h5:wOk 0 x.weight with
 | false =>
  simp only [go_sem,simprocAttr]
  repeat refine kn rfl ?_
  refine k_ret rfl ?_
  refine post_one ?_ (.bool _) rfl
  try simp only [go_sem,simprocAttr,validI,h1,h2,h3,h4,h5,Bool.true_and,Bool.false_and,Bool.and_false]
  exact .refl _
 | true =>
 simp only [go_sem,simprocAttr]
 cases h6:decide (-2147483647 ≤ x.level) with
 | false =>
  simp only [go_sem,simprocAttr]
  repeat refine kn rfl ?_
  refine k_ret rfl ?_
  refine post_one ?_ (.bool _) rfl
  try simp only [go_sem,simprocAttr,validI,h1,h2,h3,h4,h5,h6,Bool.true_and,Bool.false_and,Bool.and_false]
  exact .refl _
 | true =>
 simp only [go_sem,simprocAttr]
 cases h7:decide (x.level ≤ 2147483647) with
 | false =>
  simp only [go_sem,simprocAttr]
  repeat refine kn rfl ?_
  refine k_ret rfl ?_
  refine post_one ?_ (.bool _) rfl
  try simp only [go_sem,simprocAttr,validI,h1,h2,h3,h4,h5,h6,h7,Bool.true_and,Bool.false_and,Bool.and_false]
  exact .refl _
 | true =>
 simp only [go_sem,simprocAttr]
 refine callT (fun_of Tryz.func51 rfl rfl) (a46 x.tuple hx.tl 45 [] (fun t=>!valueT t) ⟨⟨_,_,fun_of Tryz.func45 rfl rfl⟩,fun t ht=>a45' t (hx.t t ht),fun _=>trivial⟩) hn hT (by simp only [go_sem,simprocAttr]) ?_
 simp only [go_sem,simprocAttr]
 cases h8:x.tuple.any (fun t=>!valueT t) with
 | true =>
  simp only [go_sem,simprocAttr]
  repeat refine kn rfl ?_
  refine k_ret rfl ?_
  refine post_one ?_ (.bool _) rfl
  try simp only [go_sem,simprocAttr,validI,h1,h2,h3,h4,h5,h6,h7,h8,Bool.true_and,Bool.false_and,Bool.and_false,Bool.not_true,Bool.not_false]
  exact .refl _
 | false =>
 simp only [go_sem,simprocAttr]
 refine callT (fun_of Tryz.func55 rfl rfl) (c55 x.heads hx.hl 47 [] (fun a=>!validA a) ⟨⟨_,_,fun_of Tryz.func47 rfl rfl⟩,fun t ht=>a47' t (hx.h t ht),fun _=>trivial⟩) hn hT (by simp only [go_sem,simprocAttr]) ?_
 simp only [go_sem,simprocAttr]
 cases h9:x.heads.any (fun a=>!validA a) with
 | true =>
  simp only [go_sem,simprocAttr]
  repeat refine kn rfl ?_
  refine k_ret rfl ?_
  refine post_one ?_ (.bool _) rfl
  try simp only [go_sem,simprocAttr,validI,h1,h2,h3,h4,h5,h6,h7,h8,h9,Bool.true_and,Bool.false_and,Bool.and_false,Bool.not_true,Bool.not_false]
  exact .refl _
 | false =>
 simp only [go_sem,simprocAttr]
 refine callT (fun_of Tryz.func56 rfl rfl) (c56 x.body hx.bl 53 [cap49,cap50] badB ⟨⟨_,_,fun_of Tryz.func53 rfl rfl⟩,fun t ht=>a53' t (hx.b t ht),fun _=>⟨blw_cap49,blw_cap50,trivial⟩⟩) hn hT (by simp only [go_sem,simprocAttr]) ?_
 simp only [go_sem,simprocAttr]
 repeat refine kn rfl ?_
 refine k_ret rfl ?_
 refine post_one ?_ (.bool _) rfl
 try simp only [go_sem,simprocAttr,validI,h1,h2,h3,h4,h5,h6,h7,h8,h9,Bool.true_and,Bool.not_false]
 exact .refl _
theorem a63' (x:Ins) (hx:x.Good):PureT Tryz.prog 63 [x.enc] (.bool (!validI x)):=by
 intro n H hn hT
 refine a_fun tok (fun_of Tryz.func63 rfl rfl) (by simp) fun B=>?_
 repeat refine kn rfl ?_
 refine k_region tok rfl (by kernel_rfl) ?_
 simp only [go_sem,simprocAttr]
 repeat refine kn rfl ?_
 refine k_region tok rfl (by kernel_rfl) ?_
 simp only [go_sem,simprocAttr]
 refine callT (fun_of Tryz.func15 rfl rfl) (a15' x hx) hn hT (by simp only [go_sem,simprocAttr]) ?_
 simp only [go_sem,simprocAttr]
 repeat refine kn rfl ?_
 refine k_ret rfl ?_
 refine post_one ?_ (.bool _) rfl
 try simp only [go_sem,simprocAttr]
 exact .refl _
theorem a67' (s:List UInt8):Pure Tryz.prog 67 [.str s] (.bool (decide (200 < (s.length:Int)))):=by
 intro n H
 refine a_fun tok (fun_of Tryz.func67 rfl rfl) (by simp) fun B=>?_
 repeat refine kn rfl ?_
 refine k_region tok rfl (by kernel_rfl) ?_
 simp only [go_sem,simprocAttr]
 repeat refine kn rfl ?_
 refine k_region tok rfl (by kernel_rfl) ?_
 simp only [go_sem,simprocAttr]
 repeat refine kn rfl ?_
 refine k_ret rfl ?_
 refine post_one ?_ (.bool _) rfl
 try simp only [go_sem,simprocAttr]
 exact .refl _
theorem a222' (l:List Int):Pure Tryz.prog 222 [sInts l] (.bool (l.length == 0)):=by
 intro n H
 refine a_fun tok (fun_of Tryz.func222 rfl rfl) (by simp) fun B=>?_
 repeat refine kn rfl ?_
 refine k_region tok rfl (by kernel_rfl) ?_
 simp only [go_sem,simprocAttr]
 repeat refine kn rfl ?_
 refine k_region tok rfl (by kernel_rfl) ?_
 simp only [go_sem,simprocAttr]
 repeat refine kn rfl ?_
 refine k_ret rfl ?_
 refine post_one ?_ (.bool _) rfl
 simp only [go_sem,simprocAttr]
 have:((l.length:Int) == 0) = (l.length == 0):=by
  rw [Bool.eq_iff_iff]; simp
 rw [this]
 exact .refl _
def bareL (l:List LInt):Bool:=l.any fun x=>x.length == 0
theorem a135 (l:List LInt) (hl:l.length ≤ 1000000):PureT Tryz.prog 135 [.sl 1 (l.map sInts) .any] (.bool (bareL l)):=by
 intro n H hn hT
 refine a_fun tok (fun_of Tryz.func135 rfl rfl) (by simp) fun B=>?_
 repeat refine kn rfl ?_
 refine k_region tok rfl (by kernel_rfl) ?_
 simp only [go_sem,simprocAttr]
 repeat refine kn rfl ?_
 refine k_region tok rfl (by kernel_rfl) ?_
 simp only [go_sem,simprocAttr]
 refine callT (fun_of Tryz.func221 rfl rfl) (c221 l hl 222 [] (fun x=>x.length == 0) ⟨⟨_,_,fun_of Tryz.func222 rfl rfl⟩,fun t ht=>Abs.Pure.tabs (a222' t),fun _=>trivial⟩) hn hT (by simp only [go_sem,simprocAttr]) ?_
 simp only [go_sem,simprocAttr]
 repeat refine kn rfl ?_
 refine k_ret rfl ?_
 refine post_one ?_ (.bool _) rfl
 try simp only [go_sem,simprocAttr,bareL]
 exact .refl _
def weightT (fn:Int) (t:List Tm):Int × Bool:=if fn = 1 then (1,true) else
 match t with
 | []=>(0,false)
 | t :: _=>(t.num,decide (t.kind = 1) && decide (0 ≤ t.num) && decide (t.num ≤ 1048576))
theorem a289 (fn:Int) (t:Tm) (r:List Tm):Pure Tryz.prog 289 [.int .u8 fn,.sl 4 ((t :: r).map Tm.enc) .any] (.tup [.int .i64 (weightT fn (t :: r)).1,.bool (weightT fn (t :: r)).2]):=by
 intro n H
 refine a_fun tok (fun_of Tryz.func289 rfl rfl) (by simp) fun B=>?_
 repeat refine kn rfl ?_
 refine k_region tok rfl (by kernel_rfl) ?_
 simp only [go_sem,simprocAttr]
 repeat refine kn rfl ?_
 refine k_region tok rfl (by kernel_rfl) ?_
 simp only [go_sem,simprocAttr]
 by_cases hf:fn = 1
 ·repeat refine kn rfl ?_
  refine k_cond_t rfl (by simp only [go_sem,simprocAttr,hf]) ?_
  repeat refine kn rfl ?_
  refine k_region tok rfl (by kernel_rfl) ?_
  simp only [go_sem,simprocAttr]
  repeat refine kn rfl ?_
  refine k_ret rfl ?_
  refine post_two (.refl _) (.refl _) (.int _ _) (.bool _) ?_ |> fun h=>by rw [weightT,if_pos hf]; exact h
  rfl
 have hf':(fn == 1) = false:=by simpa using hf
 repeat refine kn rfl ?_
 refine k_cond_f rfl (by simp only [go_sem,simprocAttr,hf']) ?_
 repeat refine kn rfl ?_
 refine k_region tok rfl (by kernel_rfl) ?_
 simp only [go_sem,simprocAttr,List.map_cons,List.length_cons,List.getD_cons_zero]
 refine ⟨by omega,?_⟩
 repeat refine kn rfl ?_
 refine k_draw tok mixed drawO rfl rfl (by kernel_rfl) (by kernel_rfl) ?_
 simp only [go_sem,simprocAttr]
 cases h1:(t.kind == 1) with
 | false =>
  simp only [go_sem,simprocAttr]
  have e1:decide (t.kind = 1) = false:=by simpa using h1
  repeat refine kn rfl ?_
  refine k_ret rfl ?_
  exact post_two (by simp only [go_sem,simprocAttr,weightT,hf,e1,Bool.false_and,if_false]; exact .refl _) (by simp only [go_sem,simprocAttr,weightT,hf,e1,Bool.false_and,if_false]; exact .refl _) (.int _ _) (.bool _) rfl
 | true =>
 have e1:decide (t.kind = 1) = true:=by simpa using h1
 cases h2:decide (0 ≤ t.num) with
 | false =>
  simp only [go_sem,simprocAttr,h2]
  repeat refine kn rfl ?_
  refine k_ret rfl ?_
  exact post_two (by simp only [go_sem,simprocAttr,weightT,hf,e1,h2,Bool.false_and,Bool.and_false,if_false]; exact .refl _) (by simp only [go_sem,simprocAttr,weightT,hf,e1,h2,Bool.false_and,Bool.and_false,if_false]; exact .refl _) (.int _ _) (.bool _) rfl
 | true =>
  simp only [go_sem,simprocAttr,h2]
  repeat refine kn rfl ?_
  refine k_ret rfl ?_
  exact post_two (by simp only [go_sem,simprocAttr,weightT,hf,e1,h2,Bool.true_and,if_false]; exact .refl _) (by simp only [go_sem,simprocAttr,weightT,hf,e1,h2,Bool.true_and,if_false]; exact .refl _) (.int _ _) (.bool _) rfl
end Go.Proofs.YthgbkalgmicniaaGreatDoor

/- Lists of lists of literals. -/
namespace Go.Proofs.YthgbkalgmicniaaGreatDoor
open Go.Abs
set_option maxRecDepth 100000
def st293 (x y:List Int) (H:AHeap) (i:Nat):AState :=
 ⟨[(13,.int .i64 i),(12,.int .i64 x.length),(0,sInts x),(1,sInts y)],[],H⟩
theorem getD_iG (l:List Int) (i:Nat) (h:i < l.length) (d:AV):(l.map (AV.int .i64)).getD i d = .int .i64 l[i]:=by
 rw [List.getD_eq_getElem?_getD,List.getElem?_map,List.getElem?_eq_getElem h]; rfl
theorem a293 (x y:List Int) (hx:x.length ≤ 1000000):Pure Tryz.prog 293 [sInts x,sInts y] (.bool (decide (x = y))):=by
 intro n H
 refine a_fun tok (fun_of Tryz.func293 rfl rfl) (by simp) fun B=>?_
 repeat refine kn rfl ?_
 refine k_region tok rfl (by kernel_rfl) ?_
 simp only [go_sem,simprocAttr]
 repeat refine kn rfl ?_
 refine k_region tok rfl (by kernel_rfl) ?_
 simp only [go_sem,simprocAttr]
 by_cases hl:x.length = y.length
 case neg =>
  have h1:((x.length:Int) != (y.length:Int)) = true:=by simp; omega
  repeat refine kn rfl ?_
  refine k_cond_t rfl (by simp only [go_sem,simprocAttr,h1]) ?_
  repeat refine kn rfl ?_
  refine k_region tok rfl (by kernel_rfl) ?_
  simp only [go_sem,simprocAttr]
  repeat refine kn rfl ?_
  refine k_ret rfl ?_
  refine post_one ?_ (.bool _) rfl
  have:decide (x = y) = false:=by simp; intro e; exact hl (by rw [e])
  simp only [go_sem,simprocAttr,this]
  exact .refl _
 have h1:((x.length:Int) != (y.length:Int)) = false:=by simp; omega
 repeat refine kn rfl ?_
 refine k_cond_f rfl (by simp only [go_sem,simprocAttr,h1]) ?_
 repeat refine kn rfl ?_
 refine k_region tok rfl (by kernel_rfl) ?_
 simp only [go_sem,simprocAttr]
 repeat refine kn rfl ?_
 refine k_loop_p (st293 x y H) (fun i=>x.take i = y.take i) x.length rfl ?_ rfl ?_
 ·refine AWk_kept ?_ ?_ ?_ ?_ <;> repeat' first | exact trivial | refine q0 ?_ | exact qb | exact q1 | exact q2 | exact q3 | exact rfl | refine And.intro ?_ ?_ | exact q4 | exact q5 | exact q6 | exact q7 | exact Inside.ptr _ _ _ (.inr ⟨rfl,rfl⟩) | exact q8 | exact q9 | exact qd | exact Tm.ins _ | exact Tm.inss _ _ | exact Am.ins _ | exact Am.inss _ _ | refine ins_buf_str ?_ | refine Tm.ins_buf ?_ | refine Am.ins_buf ?_ | exact qf
  all_goals exact (below_sInts _).inside
 intro i hi hq
 refine k_st rfl ?_
 rcases Nat.lt_or_ge i x.length with h | h
 ·have h':i < y.length:=by omega
  have hh:((i:Int)) < (y.length:Int):=by omega
  repeat refine kn rfl ?_
  refine k_region tok rfl (by kernel_rfl) ?_
  simp only [go_sem,simprocAttr,h]
  repeat refine kn rfl ?_
  refine k_cond_t rfl (by simp only [go_sem,simprocAttr]) ?_
  repeat refine kn rfl ?_
  refine k_region tok rfl (by kernel_rfl) ?_
  simp only [go_sem,simprocAttr]
  repeat refine kn rfl ?_
  refine k_draw tok mixed drawO rfl rfl (by kernel_rfl) (by kernel_rfl) ?_
  simp only [go_sem,simprocAttr,getD_iG _ _ h,getD_iG _ _ h',h,hh,h']
  by_cases he:x[i] = y[i]
  ·have h2:(x[i] != y[i]) = false:=by simpa using he
   repeat refine kn rfl ?_
   refine k_cond_f rfl (by simp only [go_sem,simprocAttr,h2]) ?_
   repeat refine kn rfl ?_
   refine k_region tok rfl (by kernel_rfl) ?_
   simp only [go_sem,simprocAttr]
   repeat refine kn rfl ?_
   refine k_nil ?_
   refine ⟨?_,?_⟩
   ·rw [List.take_succ_eq_append_getElem h,List.take_succ_eq_append_getElem h',hq,he]
   ·refine AWk_kept ?_ ?_ ?_ ?_ <;> repeat' first | exact trivial | refine q0 ?_ | exact qb | exact q1 | exact q2 | exact q3 | exact rfl | refine And.intro ?_ ?_ | exact q4 | exact q5 | exact q6 | exact q7 | exact Inside.ptr _ _ _ (.inr ⟨rfl,rfl⟩) | exact q8 | exact q9 | exact qd | exact Tm.ins _ | exact Tm.inss _ _ | exact Am.ins _ | exact Am.inss _ _ | refine ins_buf_str ?_ | refine Tm.ins_buf ?_ | refine Am.ins_buf ?_ | exact qf
    ·simp only [go_sem,simprocAttr]
     rw [IntWalk.i64_in _ (by omega)]; exact .refl _
    all_goals exact (below_sInts _).inside
  ·have h2:(x[i] != y[i]) = true:=by simpa using he
   repeat refine kn rfl ?_
   refine k_cond_t rfl (by simp only [go_sem,simprocAttr,h2]) ?_
   repeat refine kn rfl ?_
   refine k_region tok rfl (by kernel_rfl) ?_
   simp only [go_sem,simprocAttr]
   repeat refine kn rfl ?_
   refine k_ret_round rfl ?_
   refine post_one ?_ (.bool _) rfl
   have:decide (x = y) = false:=by
    rw [decide_eq_false_iff_not]
    intro e; exact he (by simp only [e])
   simp only [go_sem,simprocAttr,this]
   exact .refl _
 ·repeat refine kn rfl ?_
  refine k_region tok rfl (by kernel_rfl) ?_
  simp only [go_sem,simprocAttr,Nat.not_lt.2 h]
  repeat refine kn rfl ?_
  refine k_cond_f rfl (by simp only [go_sem,simprocAttr]) ?_
  repeat refine kn rfl ?_
  refine k_exit_round rfl rfl rfl ?_
  repeat refine kn rfl ?_
  refine k_region tok rfl (by kernel_rfl) ?_
  simp only [go_sem,simprocAttr]
  repeat refine kn rfl ?_
  refine k_ret rfl ?_
  refine post_one ?_ (.bool _) rfl
  have:decide (x = y) = true:=by
   rw [List.take_of_length_le h,List.take_of_length_le (by omega)] at hq
   simpa using hq
  simp only [go_sem,simprocAttr,this]
  exact .refl _
theorem a292 (x y:List Int) (hx:x.length ≤ 1000000):Pure Tryz.prog 292 [sInts y,.iptr [sInts x]] (.bool (decide (x = y))):=by
 intro n H
 refine a_fun tok (fun_of Tryz.func292 rfl rfl) (by simp) fun B=>?_
 repeat refine kn rfl ?_
 refine k_region tok rfl (by kernel_rfl) ?_
 simp only [go_sem,simprocAttr]
 repeat refine kn rfl ?_
 refine k_region tok rfl (by kernel_rfl) ?_
 simp only [go_sem,simprocAttr]
 refine callP (fun_of Tryz.func293 rfl rfl) (a293 x y hx) (by simp only [go_sem,simprocAttr]) ?_
 simp only [go_sem,simprocAttr]
 repeat refine kn rfl ?_
 refine k_ret rfl ?_
 refine post_one ?_ (.bool _) rfl
 try simp only [go_sem,simprocAttr]
 exact .refl _
def distinctL (l:List LInt) (x:List Int):List LInt:=if l.any (fun y=>decide (x = y)) then l else l ++ [x]
theorem blw_buf (n e sz fr:Nat):ABlk.Below n (.buf e sz fr):=⟨by simp [ABlk.avs],by simp [ABlk.at_]⟩
def op215 (l j:Nat) (nw:Bool):Opt:=⟨false,false,fun d=>if d = 12 then (if nw then .place l j false else .heap) else .auto,[]⟩
theorem any_sInts (L:List LInt) (x:List Int) (hx:x.length ≤ 1000000):CondF 292 [.iptr [sInts x]] sInts L (fun y=>decide (x = y)) :=
 ⟨⟨_,_,fun_of Tryz.func292 rfl rfl⟩,fun y _=>Abs.Pure.tabs (a292 x y hx),fun _=>⟨below_iptr ⟨below_sInts _,trivial⟩,trivial⟩⟩
theorem PureT.args {P:Program} {f:FuncId} {args args':List AV} {r:AV} (h:PureT P f args r) (hw:Wks args' args):PureT P f args' r:=fun n H hn hT=>ACalls.args (h n H hn hT) hw
theorem a215n (n:Nat) (H:AHeap) (l j:Nat) (x:List Int) (hl:l < n) (hn:0 < n) (hT:Tabs H) (hx:x.length ≤ 1000000) (hf:H l j = none) :
  ACalls Tryz.prog n 215 [.sl 1 [] .full,sInts x] H fun r H'=>r = .sl 1 [sInts x] (.buf l j) ∧ H' = H.upd l j (.buf 61 1 1):=by
 have hne:¬ l = n:=by omega
 have hle:l ≤ n:=by omega
 refine a_fun tok (fun_of Tryz.func215 rfl rfl) (by simp) fun B=>?_
 repeat refine kn rfl ?_
 refine k_region tok rfl (by kernel_rfl) ?_
 simp only [go_sem,simprocAttr]
 repeat refine kn rfl ?_
 refine k_freeze 3 [sInts x] [(0,.sl 1 [] .full),(3,.iptr [sInts x])] rfl ⟨(below_sInts _).inside,trivial⟩ ?_ ?_ ?_
 ·exact ⟨.inl ⟨.refl _,below_sl (fun _ h=>by cases h) (fun _ _ e=>by cases e) |>.inside⟩,.inr ⟨0,rfl,rfl⟩,trivial⟩
 ·exact trivial
 simp only [go_sem,simprocAttr]
 repeat refine kn rfl ?_
 refine k_region tok rfl (by kernel_rfl) ?_
 simp only [go_sem,simprocAttr]
 have h0:=(c221 [] (by simp) 292 [.iptr [sInts x]] _ (any_sInts [] x hx)).args (args':=[.sl 1 [] .full,.fn (.func 292) [.iptr [sInts x]]]) ⟨.any _ _ _,.refl _,trivial⟩
 refine callT (fun_of Tryz.func221 rfl rfl) (h0) hn hT (by simp only [go_sem,simprocAttr]) ?_
 simp only [go_sem,simprocAttr]
 repeat refine kn rfl ?_
 refine k_cond_f rfl (by simp only [go_sem,simprocAttr,List.any_nil]) ?_
 repeat refine kn rfl ?_
 refine k_region_o tok (op215 l j true) rfl rfl (by kernel_rfl) ?_
 simp only [go_sem,simprocAttr,op215,hne,hf]
 refine ⟨by decide,⟨hle,le_maxLen (by omega)⟩,.inr (blw_buf _ _ _ _),?_⟩
 repeat refine kn rfl ?_
 refine k_ret rfl ?_
 refine post_oneQ (.refl _) (below_sl (fun y hy=>?_) (fun _ _ e=>by cases e; exact hl)) ⟨rfl,rfl⟩
 simp only [List.mem_singleton] at hy; subst hy; exact below_sInts _
theorem a215p (x:List Int) (hx:x.length ≤ 1000000):PureT Tryz.prog 215 [.sl 1 [] .full,sInts x] (.sl 1 ([x].map sInts) .any):=by
 intro n H hn hT
 refine a_fun tok (fun_of Tryz.func215 rfl rfl) (by simp) fun B=>?_
 repeat refine kn rfl ?_
 refine k_region tok rfl (by kernel_rfl) ?_
 simp only [go_sem,simprocAttr]
 repeat refine kn rfl ?_
 refine k_freeze 3 [sInts x] [(0,.sl 1 [] .full),(3,.iptr [sInts x])] rfl ⟨(below_sInts _).inside,trivial⟩ ?_ ?_ ?_
 ·exact ⟨.inl ⟨.refl _,below_sl (fun _ h=>by cases h) (fun _ _ e=>by cases e) |>.inside⟩,.inr ⟨0,rfl,rfl⟩,trivial⟩
 ·exact trivial
 simp only [go_sem,simprocAttr]
 repeat refine kn rfl ?_
 refine k_region tok rfl (by kernel_rfl) ?_
 simp only [go_sem,simprocAttr]
 have h0:=(c221 [] (by simp) 292 [.iptr [sInts x]] _ (any_sInts [] x hx)).args (args':=[.sl 1 [] .full,.fn (.func 292) [.iptr [sInts x]]]) ⟨.any _ _ _,.refl _,trivial⟩
 refine callT (fun_of Tryz.func221 rfl rfl) (h0) hn hT (by simp only [go_sem,simprocAttr]) ?_
 simp only [go_sem,simprocAttr]
 repeat refine kn rfl ?_
 refine k_cond_f rfl (by simp only [go_sem,simprocAttr,List.any_nil]) ?_
 repeat refine kn rfl ?_
 refine k_region tok rfl (by kernel_rfl) ?_
 simp only [go_sem,simprocAttr]
 refine ⟨rfl,le_maxLen (by omega),?_⟩
 repeat refine kn rfl ?_
 refine k_ret rfl ?_
 refine post_one (.refl _) (below_sla (fun y hy=>?_)) rfl
 simp only [List.mem_singleton] at hy; subst hy; exact below_sInts _
theorem a215 (n:Nat) (H:AHeap) (l j:Nat) (L:List LInt) (x:List Int) (hl:l < n) (hn:0 < n) (hT:Tabs H) (hx:x.length ≤ 1000000) (hL:L.length ≤ 1000000) (hf:H l j = some (.buf 61 1 L.length)) (h0:L ≠ []) :
  ACalls Tryz.prog n 215 [.sl 1 (L.map sInts) (.buf l j),sInts x] H fun r H'=>r = .sl 1 ((distinctL L x).map sInts) (.buf l j) ∧ H' = H.upd l j (.buf 61 1 (distinctL L x).length):=by
 have hne:¬ l = n:=by omega
 have hle:l ≤ n:=by omega
 refine a_fun tok (fun_of Tryz.func215 rfl rfl) (by simp) fun B=>?_
 repeat refine kn rfl ?_
 refine k_region tok rfl (by kernel_rfl) ?_
 simp only [go_sem,simprocAttr]
 repeat refine kn rfl ?_
 refine k_freeze 3 [sInts x] [(0,.sl 1 (L.map sInts) (.buf l j)),(3,.iptr [sInts x])] rfl ⟨(below_sInts _).inside,trivial⟩ ?_ ?_ ?_
 ·exact ⟨.inl ⟨.refl _,(below_sl (fun y hy=>by obtain ⟨u,_,rfl⟩:=List.mem_map.1 hy; exact below_sInts _) (fun _ _ e=>by cases e; exact hl)).inside⟩,.inr ⟨0,rfl,rfl⟩,trivial⟩
 ·exact trivial
 simp only [go_sem,simprocAttr]
 repeat refine kn rfl ?_
 refine k_region tok rfl (by kernel_rfl) ?_
 simp only [go_sem,simprocAttr]
 have h1:=(c221 L hL 292 [.iptr [sInts x]] _ (any_sInts L x hx)).args (args':=[.sl 1 (L.map sInts) (.buf l j),.fn (.func 292) [.iptr [sInts x]]]) ⟨.any _ _ _,.refl _,trivial⟩
 refine callT (fun_of Tryz.func221 rfl rfl) (h1) hn hT (by simp only [go_sem,simprocAttr]) ?_
 simp only [go_sem,simprocAttr]
 cases h2:L.any (fun y=>decide (x = y)) with
 | true =>
  repeat refine kn rfl ?_
  refine k_cond_t rfl (by simp only [go_sem,simprocAttr]) ?_
  repeat refine kn rfl ?_
  refine k_region tok rfl (by kernel_rfl) ?_
  simp only [go_sem,simprocAttr]
  repeat refine kn rfl ?_
  refine k_ret rfl ?_
  refine post_oneQ (.refl _) (below_sl (fun y hy=>by obtain ⟨u,_,rfl⟩:=List.mem_map.1 hy; exact below_sInts _) (fun _ _ e=>by cases e; exact hl)) ?_
  rw [distinctL,if_pos h2]
  exact ⟨rfl,(upd_self hf).symm⟩
 | false =>
  repeat refine kn rfl ?_
  refine k_cond_f rfl (by simp only [go_sem,simprocAttr]) ?_
  repeat refine kn rfl ?_
  refine k_region_o tok (op215 l j false) rfl rfl (by kernel_rfl) ?_
  simp only [go_sem,simprocAttr,op215,hne,hf]
  refine ⟨by decide,⟨le_maxLen (by omega),by omega⟩,.inr (blw_buf _ _ _ _),?_⟩
  repeat refine kn rfl ?_
  refine k_ret rfl ?_
  have e:distinctL L x = L ++ [x]:=by rw [distinctL,if_neg (by rw [h2]; decide)]
  rw [e]
  refine post_oneQ (.refl _) (below_sl (fun y hy=>?_) (fun _ _ e=>by cases e; exact hl)) ⟨by simp [lkv],by simp⟩
  rcases List.mem_append.1 hy with hy | hy
  ·obtain ⟨u,_,rfl⟩:=List.mem_map.1 hy; exact below_sInts _
  ·simp only [List.mem_singleton] at hy; subst hy; exact below_sInts _
end Go.Proofs.YthgbkalgmicniaaGreatDoor

/- The text of an atom, copies. -/
namespace Go.Proofs.YthgbkalgmicniaaGreatDoor
open Go.Abs
set_option maxRecDepth 100000
def atxt (a:Am):List UInt8:=((a.pred ++ [40]) ++ Lib.join (a.args.map txt) [44]) ++ [41]
theorem validA_cases {a:Am} (h:validA a = true):sym a.pred = true ∧ a.args.length ≤ 8 ∧ a.args.all valueT = true:=by
 simp only [validA,Bool.and_eq_true,decide_eq_true_eq] at h
 exact ⟨h.1.1,by omega,h.2⟩
theorem txts_len:∀ l:List Tm,(∀ t ∈ l,t.all okv = true) → Lib.lens (l.map txt) ≤ 60 * Tm.sz.szs l
 | [],_=>by simp [Lib.lens]
 | t :: r,h=>by
  have h1:=txt_len t (h t (by simp))
  have h2:=txts_len r (fun u hu=>h u (by simp [hu]))
  simp only [Lib.lens,List.map_cons,List.sum_cons,Tm.sz.szs] at *
  omega
theorem join_len (l:List Tm) (h:∀ t ∈ l,t.all okv = true):(Lib.join (l.map txt) [44]).length ≤ 60 * Tm.sz.szs l + l.length:=by
 have h1:=txts_len l h
 cases l with
 | nil=>simp [Lib.join]
 | cons t r =>
  rw [List.map_cons,Lib.join_length]
  simp only [Lib.lens,List.map_cons,List.sum_cons,List.length_cons,List.length_nil,List.length_map] at *
  omega
theorem map58 (l:List Tm) (hl:∀ t ∈ l,t.Good) (hv:l.all valueT = true):MapF 109 [] Tm.enc eStr l txt :=
 ⟨⟨_,_,fun_of Tryz.func109 rfl rfl⟩,fun t ht=>a58 t (hl t ht) (List.all_eq_true.1 hv t ht),fun _=>trivial⟩
end Go.Proofs.YthgbkalgmicniaaGreatDoor
