/- The reference's comparisons. -/
import Derived.Test.YthgbkalgmicniaaGreatDoorM14
import Derived.Test.YthgbkalgmicniaaGreatDoorM12
import Derived.Test.YthgbkalgmicniaaGreatDoorM19
import Derived.Test.YthgbkalgmicniaaGreatDoorM20
set_option linter.all false
namespace Go.Proofs.YthgbkalgmicniaaGreatDoor
open Go.Abs
set_option maxRecDepth 100000
def k1 (a b:Tm):List Int:=[ncmp (rank a.kind + 1) (rank b.kind + 1),if a.kind = 1 then ncmp a.num b.num else 0,ncmp a.args.length b.args.length,Lib.compareBytes a.name b.name]
end Go.Proofs.YthgbkalgmicniaaGreatDoor

/- Equal terms and atoms; the reference's comparison of atoms. -/
namespace Go.Proofs.YthgbkalgmicniaaGreatDoor
open Go.Abs
set_option maxRecDepth 100000
end Go.Proofs.YthgbkalgmicniaaGreatDoor

/- Sizes of terms and atoms of any size. -/
namespace Go.Proofs.YthgbkalgmicniaaGreatDoor
open Go.Abs
set_option maxRecDepth 100000
def cutN (n:Nat) (m:Int):Int:=if (n:Int) ≤ m then n else m + 1
theorem szs_take (l:List Tm) (i:Nat) (h:i < l.length):Tm.sz.szs (l.take (i + 1)) = Tm.sz.szs (l.take i) + l[i].sz:=by
 have:∀ p q:List Tm,Tm.sz.szs (p ++ q) = Tm.sz.szs p + Tm.sz.szs q:=by
  intro p q
  induction p with
  | nil=>simp [Tm.sz.szs]
  | cons x p ih=>simp only [List.cons_append,Tm.sz.szs,ih]; omega
 rw [List.take_succ_eq_append_getElem h,this]
 simp [Tm.sz.szs]
theorem szs_take_le (l:List Tm) (i:Nat):Tm.sz.szs (l.take i) ≤ Tm.sz.szs l:=by
 have:∀ p q:List Tm,Tm.sz.szs (p ++ q) = Tm.sz.szs p + Tm.sz.szs q:=by
  intro p q
  induction p with
  | nil=>simp [Tm.sz.szs]
  | cons x p ih=>simp only [List.cons_append,Tm.sz.szs,ih]; omega
 have h:=this (l.take i) (l.drop i)
 rw [List.take_append_drop] at h
 omega
def zt43 (l:List Tm) (m:Int) (H:AHeap) (i:Nat):AState :=
 ⟨[(6,.int .i64 i),(5,.int .i64 (cutN (Tm.sz.szs (l.take i)) m)),(0,.sl 4 (l.map Tm.enc) .any),(1,.int .i64 m)],[],H⟩
theorem z43 (l:List Tm) (m:Int) (h0:-1 ≤ m) (h1:m ≤ 1000000) (hc:∀ t ∈ l,∀ m:Int,0 ≤ m → m ≤ 1000000 → Pure Tryz.prog 94 [t.enc,.int .i64 m] (.int .i64 (cutN t.sz m))):Pure Tryz.prog 43 [.sl 4 (l.map Tm.enc) .any,.int .i64 m] (.int .i64 (cutN (Tm.sz.szs l) m)):=by
 intro n H
 refine a_fun tok (fun_of Tryz.func43 rfl rfl) (by simp) fun B=>?_
 repeat refine kn rfl ?_
 refine k_region tok rfl (by kernel_rfl) ?_
 simp only [go_sem,simprocAttr]
 repeat refine kn rfl ?_
 refine k_region tok rfl (by kernel_rfl) ?_
 simp only [go_sem,simprocAttr]
 repeat refine kn rfl ?_
 refine k_region tok rfl (by kernel_rfl) ?_
 simp only [go_sem,simprocAttr]
 repeat refine kn rfl ?_
 refine k_loop_ix (zt43 l m H) l.length rfl ?_ ?_
 ·refine AWk_kept ?_ ?_ ?_ ?_ <;> repeat' first | exact trivial | refine q0 ?_ | exact qb | exact q1 | exact q2 | exact q3 | exact rfl | refine And.intro ?_ ?_ | exact q4 | exact q5 | exact q6 | exact q7 | exact Inside.ptr _ _ _ (.inr ⟨rfl,rfl⟩) | exact q8 | exact q9 | exact qd | exact Tm.ins _ | exact Tm.inss _ _ | exact Am.ins _ | exact Am.inss _ _ | refine ins_buf_str ?_ | refine Tm.ins_buf ?_ | refine Am.ins_buf ?_ | exact qf
  simp only [List.take_zero,Tm.sz.szs,cutN,lkv]
  simp only [go_sem,simprocAttr]
  split
  ·exact .refl _
  ·rw [(by omega:m + 1 = 0)]; exact .refl _
 intro i hi
 refine k_st rfl ?_
 rcases Nat.lt_or_ge i l.length with h | h
 ·rcases Int.lt_or_le m (Tm.sz.szs (l.take i)) with h2 | h2
  ·have e:cutN (Tm.sz.szs (l.take i)) m = m + 1:=by rw [cutN,if_neg (by omega)]
   have hle:decide (m + 1 ≤ m) = false:=by rw [decide_eq_false_iff_not]; omega
   repeat refine kn rfl ?_
   refine k_region tok rfl (by kernel_rfl) ?_
   simp only [go_sem,simprocAttr,h,e,hle]
   repeat refine kn rfl ?_
   refine k_cond_f rfl (by simp only [go_sem,simprocAttr]) ?_
   repeat refine kn rfl ?_
   refine k_exit_round rfl rfl rfl ?_
   repeat refine kn rfl ?_
   refine k_region tok rfl (by kernel_rfl) ?_
   simp only [go_sem,simprocAttr]
   repeat refine kn rfl ?_
   refine k_ret rfl ?_
   refine post_one ?_ (.int _ _) rfl
   have:=szs_take_le l i
   rw [cutN,if_neg (by omega)]
   simp only [go_sem,simprocAttr,e]
   exact .refl _
  ·have e:cutN (Tm.sz.szs (l.take i)) m = (Tm.sz.szs (l.take i):Int):=by rw [cutN,if_pos h2]
   have hlen:=Tm.sz_len (l.take i)
   rw [List.length_take_of_le hi] at hlen
   have hw:IntKind.i64.wrap (m - (Tm.sz.szs (l.take i):Int)) = m - (Tm.sz.szs (l.take i):Int):=IntWalk.i64_in _ (by omega)
   repeat refine kn rfl ?_
   refine k_region tok rfl (by kernel_rfl) ?_
   simp only [go_sem,simprocAttr,h,e,h2]
   repeat refine kn rfl ?_
   refine k_cond_t rfl (by simp only [go_sem,simprocAttr]) ?_
   repeat refine kn rfl ?_
   refine k_region tok rfl (by kernel_rfl) ?_
   simp only [go_sem,simprocAttr,Tm.getD_enc _ _ h,h,e,hw]
   refine callP (fun_of Tryz.func94 rfl rfl) (hc l[i] (List.getElem_mem h) (m - (Tm.sz.szs (l.take i):Int)) (by omega) (by omega)) (by simp only [go_sem,simprocAttr,hw]) ?_
   simp only [go_sem,simprocAttr,hw]
   repeat refine kn rfl ?_
   refine k_region tok rfl (by kernel_rfl) ?_
   simp only [go_sem,simprocAttr]
   repeat refine kn rfl ?_
   refine k_nil ?_
   have hn:(Tm.sz.szs (l.take i):Int) + cutN l[i].sz (m - (Tm.sz.szs (l.take i):Int)) = cutN (Tm.sz.szs (l.take (i + 1))) m:=by
    rw [szs_take l i h]
    unfold cutN
    split <;> split <;> omega
   have hb:cutN (Tm.sz.szs (l.take (i + 1))) m ≤ m + 1 ∧ 0 ≤ cutN (Tm.sz.szs (l.take (i + 1))) m:=by unfold cutN; split <;> omega
   refine AWk_kept ?_ ?_ ?_ ?_ <;> repeat' first | exact trivial | refine q0 ?_ | exact qb | exact q1 | exact q2 | exact q3 | exact rfl | refine And.intro ?_ ?_ | exact q4 | exact q5 | exact q6 | exact q7 | exact Inside.ptr _ _ _ (.inr ⟨rfl,rfl⟩) | exact q8 | exact q9 | exact qd | exact Tm.ins _ | exact Tm.inss _ _ | exact Am.ins _ | exact Am.inss _ _ | refine ins_buf_str ?_ | refine Tm.ins_buf ?_ | refine Am.ins_buf ?_ | exact qf
   ·simp only [go_sem,simprocAttr]
    rw [IntWalk.i64_in _ (by omega)]; exact .refl _
   ·simp only [go_sem,simprocAttr]
    rw [hn,IntWalk.i64_in _ (by omega)]; exact .refl _
 ·repeat refine kn rfl ?_
  refine k_region tok rfl (by kernel_rfl) ?_
  simp only [go_sem,simprocAttr,Nat.not_lt.2 h]
  repeat refine kn rfl ?_
  refine k_cond_f rfl (by simp only [go_sem,simprocAttr]) ?_
  repeat refine kn rfl ?_
  refine k_exit_round rfl rfl rfl ?_
  have hi':i = l.length:=by omega
  subst hi'
  repeat refine kn rfl ?_
  refine k_region tok rfl (by kernel_rfl) ?_
  simp only [go_sem,simprocAttr,List.take_length]
  repeat refine kn rfl ?_
  refine k_ret rfl ?_
  exact post_one (.refl _) (.int _ _) rfl
theorem z94 (t:Tm) (m:Int) (h0:0 ≤ m) (h1:m ≤ 1000000):Pure Tryz.prog 94 [t.enc,.int .i64 m] (.int .i64 (cutN t.sz m)):=by
 intro n H
 have hw:IntKind.i64.wrap (m - 1) = m - 1:=IntWalk.i64_in _ (by omega)
 have hc:cutN t.sz m = 1 + cutN (Tm.sz.szs t.args) (m - 1):=by rw [Tm.sz_eq]; unfold cutN; split <;> split <;> omega
 have hb:cutN (Tm.sz.szs t.args) (m - 1) ≤ m ∧ 0 ≤ cutN (Tm.sz.szs t.args) (m - 1):=by unfold cutN; split <;> omega
 refine a_fun tok (fun_of Tryz.func94 rfl rfl) (by simp) fun B=>?_
 repeat refine kn rfl ?_
 refine k_region tok rfl (by kernel_rfl) ?_
 simp only [go_sem,simprocAttr]
 repeat refine kn rfl ?_
 refine k_region tok rfl (by kernel_rfl) ?_
 simp only [go_sem,simprocAttr,hw]
 refine callP (fun_of Tryz.func43 rfl rfl) (z43 t.args (m - 1) (by omega) (by omega) (fun u hu m' h0' h1'=>z94 u m' h0' h1')) (by simp only [go_sem,simprocAttr,hw]) ?_
 simp only [go_sem,simprocAttr,hw]
 repeat refine kn rfl ?_
 refine k_ret rfl ?_
 refine post_one ?_ (.int _ _) rfl
 simp only [go_sem,simprocAttr]
 rw [hc,IntWalk.i64_in _ (by omega)]
 exact .refl _
termination_by SizeOf.sizeOf t
decreasing_by exact Tm.size_lt hu
theorem z14 (t:Am) (m:Int) (h0:0 ≤ m) (h1:m ≤ 1000000):Pure Tryz.prog 14 [t.enc,.int .i64 m] (.int .i64 (cutN t.sz m)):=by
 intro n H
 have hw:IntKind.i64.wrap (m - 1) = m - 1:=IntWalk.i64_in _ (by omega)
 have hc:cutN t.sz m = 1 + cutN (Tm.sz.szs t.args) (m - 1):=by unfold Am.sz cutN; split <;> split <;> omega
 have hb:cutN (Tm.sz.szs t.args) (m - 1) ≤ m ∧ 0 ≤ cutN (Tm.sz.szs t.args) (m - 1):=by unfold cutN; split <;> omega
 refine a_fun tok (fun_of Tryz.func14 rfl rfl) (by simp) fun B=>?_
 repeat refine kn rfl ?_
 refine k_region tok rfl (by kernel_rfl) ?_
 simp only [go_sem,simprocAttr]
 repeat refine kn rfl ?_
 refine k_region tok rfl (by kernel_rfl) ?_
 simp only [go_sem,simprocAttr,hw]
 refine callP (fun_of Tryz.func43 rfl rfl) (z43 t.args (m - 1) (by omega) (by omega) (fun u hu m' h0' h1'=>z94 u m' h0' h1')) (by simp only [go_sem,simprocAttr,hw]) ?_
 simp only [go_sem,simprocAttr,hw]
 repeat refine kn rfl ?_
 refine k_ret rfl ?_
 refine post_one ?_ (.int _ _) rfl
 simp only [go_sem,simprocAttr]
 rw [hc,IntWalk.i64_in _ (by omega)]
 exact .refl _
def stp (n:Int) (p:Nat × Nat):Int:=if n ≤ 400 then n + ((p.1:Int) + cutN p.2 (400 - n)) else n
def stpF (n:Int) (l:List (Nat × Nat)):Int:=l.foldl stp n
def itE (e:GE):List (Nat × Nat):=(1,Tm.sz.szs e.tuple) :: e.cond.map fun g=>(0,g.a.sz)
def itB (b:GB):List (Nat × Nat):=(1,b.lit.a.sz) :: b.elems.flatMap itE
def itI (x:Ins):List (Nat × Nat):=(1,Tm.sz.szs x.tuple) :: (x.heads.map (fun a=>(0,a.sz)) ++ x.body.flatMap itB)
theorem stpF_append (n:Int) (p q:List (Nat × Nat)):stpF n (p ++ q) = stpF (stpF n p) q:=by simp [stpF]
theorem stpF_one (n:Int) (p:Nat × Nat):stpF n [p] = stp n p:=rfl
theorem stpF_cons (n:Int) (p:Nat × Nat) (q:List (Nat × Nat)):stpF n (p :: q) = stpF (stp n p) q:=rfl
theorem stpF_big {n:Int} (h:400 < n):∀ l,stpF n l = n
 | []=>rfl
 | p :: l=>by
  have e:stp n p = n:=by unfold stp; rw [if_neg (by omega)]
  rw [stpF_cons,e,stpF_big h l]
theorem cutN_bd (s:Nat) {m:Int} (h:0 ≤ m):0 ≤ cutN s m ∧ cutN s m ≤ m + 1:=by unfold cutN; split <;> omega
theorem stpF_bd:∀ (l:List (Nat × Nat)) {n:Int},(∀ p ∈ l,p.1 ≤ 1) → 0 ≤ n → n ≤ 402 → 0 ≤ stpF n l ∧ stpF n l ≤ 402
 | [],n,_,h1,h2=>⟨h1,h2⟩
 | p :: l,n,hp,h1,h2=>by
  rw [stpF_cons]
  have hq:=hp p (by simp)
  refine stpF_bd l (fun q hq=>hp q (by simp [hq])) ?_ ?_ <;> unfold stp <;> split
  ·have:=cutN_bd p.2 (m:=400 - n) (by omega); omega
  ·exact h1
  ·have:=cutN_bd p.2 (m:=400 - n) (by omega); omega
  ·exact h2
def totF (l:List (Nat × Nat)):Nat:=(l.map fun p=>p.1 + p.2).sum
theorem stpF_tot:∀ (l:List (Nat × Nat)) {n:Int},(∀ p ∈ l,p.1 ≤ 1) → 0 ≤ n → n ≤ 400 → (stpF n l ≤ 400 ↔ n + totF l ≤ 400) ∧ (n + totF l ≤ 400 → stpF n l = n + totF l)
 | [],n,_,h1,h2=>by simp [stpF,totF]
 | p :: l,n,hp,h1,h2=>by
  have hq:=hp p (by simp)
  rw [stpF_cons]
  have et:totF (p :: l) = p.1 + p.2 + totF l:=rfl
  have es:stp n p = n + ((p.1:Int) + cutN p.2 (400 - n)):=by unfold stp; rw [if_pos h2]
  by_cases h:n + (p.1 + p.2:Nat) ≤ 400
  ·have ec:cutN p.2 (400 - n) = p.2:=by unfold cutN; rw [if_pos (by omega)]
   rw [es,ec,et]
   have ih:=stpF_tot l (n:=n + (p.1 + p.2:Nat)) (fun q hq=>hp q (by simp [hq])) (by omega) h
   have e2:n + ((p.1:Int) + p.2) = n + (p.1 + p.2:Nat):=by omega
   rw [e2]
   refine ⟨?_,fun h3=>?_⟩
   ·rw [ih.1]; constructor <;> intro <;> omega
   ·rw [ih.2 (by omega)]; omega
  ·have hb:400 < stp n p:=by
    rw [es]; unfold cutN; split <;> omega
   rw [stpF_big hb,et]
   exact ⟨by constructor <;> intro <;> omega,fun h3=>by omega⟩
theorem stpF_len:∀ (l:List (Nat × Nat)) {n:Int},(∀ p ∈ l,p.1 ≤ 1 ∧ 1 ≤ p.1 + p.2) → 0 ≤ n → n ≤ 400 → stpF n l ≤ 400 → n + (l.length:Int) ≤ stpF n l:=by
 intro l n hp h1 h2 h3
 have ht:=stpF_tot l (fun p hq=>(hp p hq).1) h1 h2
 rw [ht.2 (ht.1.1 h3)]
 have:l.length ≤ totF l:=by
  clear ht h3
  induction l with
  | nil=>simp [totF]
  | cons p l ih =>
   have:=(hp p (by simp)).2
   have e:totF (p :: l) = p.1 + p.2 + totF l:=rfl
   rw [e,List.length_cons]
   have:=ih (fun q hq=>hp q (by simp [hq]))
   omega
 omega
end Go.Proofs.YthgbkalgmicniaaGreatDoor

/- What is small has good parts. No program. -/
namespace Go.Proofs.YthgbkalgmicniaaGreatDoor
open Go.Abs
theorem totF_append (p q:List (Nat × Nat)):totF (p ++ q) = totF p + totF q:=by simp [totF]
theorem totF_cons (a:Nat × Nat) (q:List (Nat × Nat)):totF (a :: q) = a.1 + a.2 + totF q:=rfl
theorem totF_flat {α:Type} {f:α → List (Nat × Nat)}:∀ {l:List α} {x:α},x ∈ l → totF (f x) ≤ totF (l.flatMap f)
 | a :: l,x,h=>by
  rw [List.flatMap_cons,totF_append]
  rcases List.mem_cons.1 h with rfl | h
  ·omega
  ·have:=totF_flat (f:=f) h; omega
theorem totF_map {α:Type} {f:α → Nat × Nat}:∀ {l:List α} {x:α},x ∈ l → (f x).1 + (f x).2 ≤ totF (l.map f)
 | a :: l,x,h=>by
  rw [List.map_cons,totF_cons]
  rcases List.mem_cons.1 h with rfl | h
  ·omega
  ·have:=totF_map (f:=f) h; omega
theorem len_flat {α:Type} {f:α → List (Nat × Nat)} (hf:∀ x,1 ≤ totF (f x)):∀ l:List α,l.length ≤ totF (l.flatMap f)
 | []=>Nat.zero_le _
 | a :: l=>by
  have:=len_flat hf l
  have:=hf a
  rw [List.flatMap_cons,totF_append,List.length_cons]; omega
theorem len_map {α:Type} {f:α → Nat × Nat} (hf:∀ x,1 ≤ (f x).1 + (f x).2):∀ l:List α,l.length ≤ totF (l.map f)
 | []=>Nat.zero_le _
 | a :: l=>by
  have:=len_map hf l
  have:=hf a
  rw [List.map_cons,totF_cons,List.length_cons]; omega
theorem sum_flat {α:Type} {f:α → List (Nat × Nat)} {g:α → Nat} {c:Nat} (h:∀ x,g x ≤ c * totF (f x)):∀ l:List α,(l.map g).sum ≤ c * totF (l.flatMap f)
 | []=>Nat.zero_le _
 | a :: l=>by
  have:=sum_flat h l
  have:=h a
  rw [List.flatMap_cons,totF_append,List.map_cons,List.sum_cons,Nat.mul_add]; omega
theorem Am.sz_pos (a:Am):1 ≤ a.sz:=by simp only [Am.sz]; omega
theorem itE_pos (e:GE):1 ≤ totF (itE e):=by unfold itE; rw [totF_cons]; omega
theorem itB_pos (b:GB):1 ≤ totF (itB b):=by unfold itB; rw [totF_cons]; omega
theorem itI_pos (x:Ins):1 ≤ totF (itI x):=by unfold itI; rw [totF_cons]; omega
def AmNm (a:Am):Prop:=a.pred.length ≤ 140737488355328 ∧ ∀ t ∈ a.args,t.Nm
structure InNm (x:Ins):Prop where
 h:∀ a ∈ x.heads,AmNm a
 b:∀ b ∈ x.body,AmNm b.lit.a ∧ ∀ e ∈ b.elems,(∀ t ∈ e.tuple,t.Nm) ∧ ∀ g ∈ e.cond,AmNm g.a
 t:∀ t ∈ x.tuple,t.Nm
theorem AmNm.good {a:Am} (h:AmNm a) (hs:a.sz ≤ 1000000):a.Good:=⟨h.1,hs,h.2⟩
theorem ts_good {l:List Tm} (h:∀ t ∈ l,t.Nm) (hs:Tm.sz.szs l ≤ 999999):GoodTs l:=⟨hs,h⟩
theorem sm_e {e:GE} (hn:(∀ t ∈ e.tuple,t.Nm) ∧ ∀ g ∈ e.cond,AmNm g.a) {k:Nat} (hk:k ≤ 999999) (hs:totF (itE e) ≤ k):e.Good ∧ GoodTs e.tuple ∧ e.cond.length ≤ k:=by
 unfold itE at hs
 rw [totF_cons] at hs
 have hl:=len_map (f:=fun g:GL=>((0:Nat),g.a.sz)) (fun g=>by have:=Am.sz_pos g.a; simp only; omega) e.cond
 have ht:=ts_good hn.1 (by simp only at hs; omega)
 refine ⟨⟨by have:=ht.len; omega,fun t h=>ht.arg h,by omega,fun g hg=>(hn.2 g hg).good ?_⟩,ht,by omega⟩
 have:=totF_map (f:=fun g:GL=>((0:Nat),g.a.sz)) hg
 simp only at this; omega
theorem sm_b {b:GB} (hn:AmNm b.lit.a ∧ ∀ e ∈ b.elems,(∀ t ∈ e.tuple,t.Nm) ∧ ∀ g ∈ e.cond,AmNm g.a) {k:Nat} (hk:k ≤ 999999) (hs:totF (itB b) ≤ k) :
  b.Good ∧ b.elems.length ≤ k ∧ ∀ e ∈ b.elems,e.Good ∧ GoodTs e.tuple ∧ e.cond.length ≤ k:=by
 unfold itB at hs
 rw [totF_cons] at hs
 have hl:=len_flat itE_pos b.elems
 have he:∀ e ∈ b.elems,e.Good ∧ GoodTs e.tuple ∧ e.cond.length ≤ k:=fun e h=>sm_e (hn.2 e h) hk (by have:=totF_flat (f:=itE) h; omega)
 exact ⟨⟨hn.1.good (by simp only at hs; omega),by omega,fun e h=>(he e h).1⟩,by omega,he⟩
theorem costB_le (l:List GB):costB l ≤ 2 * totF (l.flatMap itB):=sum_flat (g:=fun b:GB=>2 * b.elems.length) (fun b=>by
 have:=len_flat itE_pos b.elems
 unfold itB; rw [totF_cons]; omega) l
theorem costI_le (x:Ins):costI x ≤ 11 * totF (itI x):=by
 have h1:=costB_le x.body
 have h2:=len_flat itB_pos x.body
 have h3:totF (x.body.flatMap itB) ≤ totF (itI x):=by unfold itI; rw [totF_cons,totF_append]; omega
 have:=itI_pos x
 unfold costI; omega
theorem costs_le (I:List Ins):costs I ≤ 11 * totF (I.flatMap itI):=sum_flat (g:=costI) costI_le I
theorem atB_le (b:GB):(atB b).length ≤ totF (itB b):=by
 have h:(b.elems.flatMap atE).length ≤ totF (b.elems.flatMap itE):=by
  induction b.elems with
  | nil=>simp
  | cons e l ih =>
   have:=len_map (f:=fun g:GL=>((0:Nat),g.a.sz)) (fun g=>by have:=Am.sz_pos g.a; simp only; omega) e.cond
   rw [List.flatMap_cons,List.flatMap_cons,List.length_append,totF_append,atE,List.length_map,itE,totF_cons]; omega
 unfold atB itB atL
 rw [List.length_append,totF_cons]
 split
 ·simp only [List.length_singleton]; omega
 ·simp only [List.length_nil]; omega
theorem atI_le (x:Ins):(atI x).length ≤ totF (itI x):=by
 have h:(x.body.flatMap atB).length ≤ totF (x.body.flatMap itB):=by
  induction x.body with
  | nil=>simp
  | cons b l ih =>
   have:=atB_le b
   rw [List.flatMap_cons,List.flatMap_cons,List.length_append,totF_append]; omega
 have h2:=len_map (f:=fun a:Am=>((0:Nat),a.sz)) (fun a=>by have:=Am.sz_pos a; simp only; omega) x.heads
 unfold atI itI
 rw [List.length_append,totF_cons,totF_append]; omega
theorem atIs_le (I:List Ins):(atIs I).length ≤ totF (I.flatMap itI):=by
 unfold atIs
 induction I with
 | nil=>simp
 | cons x l ih =>
  have:=atI_le x
  rw [List.flatMap_cons,List.flatMap_cons,List.length_append,totF_append]; omega
theorem sm_i {x:Ins} (hn:InNm x) {k:Nat} (hk:k ≤ 999999) (hs:totF (itI x) ≤ k):x.Good ∧ GoodTs x.tuple ∧ x.heads.length ≤ k ∧ x.body.length ≤ k ∧ ∀ b ∈ x.body,b.Good ∧ b.elems.length ≤ k ∧ ∀ e ∈ b.elems,e.Good ∧ GoodTs e.tuple ∧ e.cond.length ≤ k:=by
 have h0:=hs
 unfold itI at hs
 rw [totF_cons,totF_append] at hs
 simp only at hs
 have h2:=len_map (f:=fun a:Am=>((0:Nat),a.sz)) (fun a=>by have:=Am.sz_pos a; simp only; omega) x.heads
 have h3:=len_flat itB_pos x.body
 have ht:=ts_good hn.t (show Tm.sz.szs x.tuple ≤ 999999 by omega)
 have hb:∀ b ∈ x.body,b.Good ∧ b.elems.length ≤ k ∧ ∀ e ∈ b.elems,e.Good ∧ GoodTs e.tuple ∧ e.cond.length ≤ k:=fun b h=>sm_b (hn.b b h) hk (by have:=totF_flat (f:=itB) h; omega)
 refine ⟨⟨by omega,fun a ha=>(hn.h a ha).good ?_,by omega,fun b h=>(hb b h).1,by have:=ht.len; omega,fun t h=>ht.arg h⟩,ht,by omega,by omega,hb⟩
 have:=totF_map (f:=fun a:Am=>((0:Nat),a.sz)) ha
 simp only at this; omega
theorem insOk {x:Ins} (hn:InNm x) {k:Nat} (hk:k ≤ 400) (hs:totF (itI x) ≤ k) (hv:validI x = true) (hb:∀ b ∈ x.body,b.kind = 1 ∨ (b.kind = 3 ∧ b.op = 6 ∧ b.no = false)):InsOk x:=by
 obtain ⟨h1,h2,h3,h4,h5⟩:=sm_i hn (show k ≤ 999999 by omega) hs
 have hbd:=(validI_bd hv).2.2.2.2.2.2.2
 refine ⟨h1,hv,by omega,by omega,?_,fun b h=>⟨(h5 b h).1,hb b h,by have:=(h5 b h).2.1; omega,fun hk3 e he=>?_,fun hk3=>?_⟩,h2⟩
 ·have:=costB_le x.body
  have h3:totF (x.body.flatMap itB) ≤ totF (itI x):=by unfold itI; rw [totF_cons,totF_append]; omega
  omega
 ·obtain ⟨g1,g2,g3⟩:=(h5 b h).2.2 e he
  have hbb:=hbd b h
  unfold badB at hbb
  rw [if_neg (by omega),if_pos hk3] at hbb
  simp only [Bool.or_eq_false_iff,List.any_eq_false] at hbb
  have hbe:=hbb.2 e he
  simp only [badE,Bool.or_eq_true,not_or,Bool.not_eq_true,List.any_eq_true,not_exists,beq_eq_false_iff_ne] at hbe
  exact ⟨g1,fun e0=>by simp [e0] at hbe,List.all_eq_true.2 fun t ht=>by have:=hbe.1.2; simp at this; simpa using this t ht,g2,by omega⟩
 ·have hbb:=hbd b h
  unfold badB at hbb
  rw [if_neg (by omega),if_pos hk3] at hbb
  simp only [Bool.or_eq_false_iff,decide_eq_false_iff_not] at hbb
  omega
end Go.Proofs.YthgbkalgmicniaaGreatDoor

/- The example of the chapter: awake. -/
namespace Go.Proofs.YthgbkalgmicniaaGreatDoor
open Go.Abs
set_option maxRecDepth 100000
theorem numL_sm:∀ (l:List Am) (k:Nat) (M:List (List UInt8 × Int)),SmN M → k + l.length ≤ 1000000 → SmN (numL k l M)
 | [],k,M,h,_=>h
 | a :: l,k,M,h,hk=>by
  simp only [List.length_cons] at hk
  refine numL_sm l (k + 1) _ (fun p hp=>?_) (by omega)
  rcases putM_mem hp with rfl | hp
  ·simp only; omega
  ·exact h p hp
theorem adds_sm:∀ (l:List Am) (t:Tb),SmN t.M → SmN (t.adds l).M
 | [],t,h=>h
 | a :: l,t,h=>by
  have:t.adds (a :: l) = (t.add a).adds l:=rfl
  rw [this]
  refine adds_sm l _ ?_
  unfold Tb.add
  split
  ·intro p hp
   rcases putM_mem hp with rfl | hp
   ·simp
   ·exact h p hp
  ·exact h
theorem names_sm {I:List Ins} (h:(atIs I).length ≤ 100000):SmN (namesI I):=by
 refine numL_sm _ 0 _ (adds_sm _ tb0 (fun p hp=>by cases hp)) ?_
 have h1:=(sortB_perm ltA (tb0.adds (atIs I)).A).length_eq
 have h2:=tb0_len (atIs I)
 unfold sortedI; omega
theorem sorted_le (I:List Ins):(sortedI I).length ≤ (atIs I).length:=by
 have h1:=(sortB_perm ltA (tb0.adds (atIs I)).A).length_eq
 have h2:=tb0_len (atIs I)
 unfold sortedI; omega
theorem nmNum (n:Int) (h:-9223372036854775808 ≤ n ∧ n ≤ 9223372036854775807):(tNum n).Nm:=.mk _ _ _ _ (by simp) (by decide) h (by simp)
theorem nmName (s:List UInt8) (h:s.length ≤ 140737488355328):(tName s).Nm:=.mk _ _ _ _ h (by decide) (by decide) (by simp)
theorem nm0 (s:List UInt8) (h:s.length ≤ 140737488355328):AmNm ⟨s,[]⟩:=⟨h,by simp⟩
theorem in_one (g:GL) (h:AmNm g.a):AmNm (oneB g).lit.a ∧ ∀ e ∈ (oneB g).elems,(∀ t ∈ e.tuple,t.Nm) ∧ ∀ g ∈ e.cond,AmNm g.a:=⟨h,fun e he=>by cases he⟩
theorem ex_e (k:Int) (hk:-9223372036854775808 ≤ k ∧ k ≤ 9223372036854775807) (s p:List UInt8) (hs:s.length ≤ 140737488355328) (hp:p.length ≤ 140737488355328) (b:Bool):(∀ t ∈ [tNum k,tName s],t.Nm) ∧ ∀ g ∈ [(⟨b,⟨p,[]⟩⟩:GL)],AmNm g.a :=
 ⟨(show AllP Tm.Nm [tNum k,tName s] from ⟨nmNum k hk,nmName s hs,trivial⟩).mem,fun g hg=>by simp only [List.mem_singleton] at hg; subst hg; exact nm0 _ hp⟩
theorem ex_nm:AllP InNm exI :=
 ⟨⟨fun a ha=>(by simp only [exX1,List.mem_singleton] at ha; subst ha; exact nm0 _ (by decide)),fun b hb=>(by cases hb),fun t ht=>(by cases ht)⟩,
  ⟨(show AllP AmNm [exB,exC] from ⟨nm0 _ (by decide),nm0 _ (by decide),trivial⟩).mem,fun b hb=>(by simp only [exX2,List.mem_singleton] at hb; subst hb; exact in_one _ (nm0 _ (by decide))),fun t ht=>(by cases ht)⟩,
  ⟨fun a ha=>(by simp only [exX3,List.mem_singleton] at ha; subst ha; exact nm0 _ (by decide)),fun b hb=>by
   simp only [exX3,List.mem_singleton] at hb; subst hb
   exact ⟨nm0 _ (by decide),(show AllP (fun e:GE=>(∀ t ∈ e.tuple,t.Nm) ∧ ∀ g ∈ e.cond,AmNm g.a) [exE1,exE2,exE3] from
    ⟨ex_e 2 (by decide) [120] [98] (by decide) (by decide) false,ex_e 3 (by decide) [121] [99] (by decide) (by decide) false,ex_e 3 (by decide) [121] [97] (by decide) (by decide) true,trivial⟩).mem⟩,fun t ht=>(by cases ht)⟩,
  ⟨fun a ha=>(by cases ha),fun b hb=>(by simp only [exX4,List.mem_singleton] at hb; subst hb; exact in_one _ (nm0 _ (by decide))),fun t ht=>by simp only [exX4,List.mem_singleton] at ht; subst ht; exact nmName _ (by decide)⟩,trivial⟩
theorem ex_v:exI.all validI = true:=by kernel_rfl
theorem ex_tot:totF (exI.flatMap itI) = 27:=by kernel_rfl
theorem ex_b:AllP (fun x:Ins=>∀ b ∈ x.body,b.kind = 1 ∨ (b.kind = 3 ∧ b.op = 6 ∧ b.no = false)) exI:=by
 refine ⟨fun b hb=>(by cases hb),fun b hb=>?_,fun b hb=>?_,fun b hb=>?_,trivial⟩
 ·simp only [exX2,List.mem_singleton] at hb; subst hb; exact .inl rfl
 ·simp only [exX3,List.mem_singleton] at hb; subst hb; exact .inr ⟨rfl,rfl,rfl⟩
 ·simp only [exX4,List.mem_singleton] at hb; subst hb; exact .inl rfl
theorem ex_ok:LOk exI:=by
 have ht:=ex_tot
 refine ⟨fun x hx=>insOk (ex_nm.mem x hx) (k:=400) (Nat.le_refl _) (by have:=totF_flat (f:=itI) hx; omega) (List.all_eq_true.1 ex_v x hx) (ex_b.mem x hx),?_,by decide,?_⟩
 ·have:=atIs_le exI; omega
 ·have:=costs_le exI
  rw [ex_sorted]; simp only [List.length_cons,List.length_nil]; omega
end Go.Proofs.YthgbkalgmicniaaGreatDoor

/- Awake: the walk. -/
namespace Go.Proofs.YthgbkalgmicniaaGreatDoor
open Go.Abs
set_option maxRecDepth 100000
theorem ex_st0:st0 exI = ⟨4,[],0⟩:=by rw [st0,ex_sorted]; rfl
def exO:Option Pen:=some (exX4.pen [2])
theorem ex_hp (n:Nat):∀ i (h:i < exI.length),instP (namesI exI) (n + 1) (runN n exI i) exI[i] = if i + 1 = exI.length then exO else none:=by
 intro i h
 have h4:i < 4:=h
 have hc:i = 0 ∨ i = 1 ∨ i = 2 ∨ i = 3:=by omega
 rcases hc with rfl | rfl | rfl | rfl
 ·rw [if_neg (by decide)]; exact ex_none1 _ _
 ·rw [if_neg (by decide)]; exact ex_none2 _ _
 ·rw [if_neg (by decide)]
  have:=ex_none3 (n + 1)
  unfold runN
  rw [ex_st0]
  exact this
 ·rw [if_pos (by decide)]; exact ex_pen _ _
theorem ex_fin (n:Nat):runN n exI exI.length = ⟨6,exP,0⟩:=by
 unfold runN
 rw [ex_st0,List.take_length]
 exact ex_run _
def exGP:GP:=⟨6,[[97],[98],[99],[100],[],[]],[1,2,3,4],exP,[⟨0,[2],[4]⟩]⟩
theorem ex_res (n:Nat):resL n exI exO = .tup [exGP.enc,.int .i64 0]:=by
 unfold resL gpL nms
 rw [ex_fin,ex_sorted]
 rfl
theorem ex_gok:exGP.Ok:=by
 refine ⟨by decide,by decide,by decide,by decide,?_,?_⟩
 ·exact (show AllP (fun y:GR=>y.head.length ≤ 1000000 ∧ y.body.length ≤ 1000000 ∧ y.w.length ≤ 1000000) exP from ⟨by decide,by decide,by decide,by decide,by decide,by decide,by decide,trivial⟩).mem
 ·intro y hy; simp only [exGP,List.mem_singleton] at hy; subst hy; exact ⟨by decide,by decide⟩
def fullR (x:GR):AV:=.agg [.bool x.choice,.sl 1 (x.head.map (AV.int .i64)) .full,.bool x.sum,.int .i64 x.bound,.sl 1 (x.body.map (AV.int .i64)) .full,.sl 1 (x.w.map (AV.int .i64)) .full]
def fullM (x:GM):AV:=.agg [.int .i64 x.level,.sl 1 (x.lits.map (AV.int .i64)) .full,.sl 1 (x.w.map (AV.int .i64)) .full]
def fullP (x:GP):AV:=.agg [.int .i64 x.n,.sl 1 (x.names.map .str) .full,.sl 1 (x.shows.map (AV.int .i64)) .full,.sl 6 (x.rules.map fullR) .full,.sl 3 (x.min.map fullM) .full]
theorem wk_full (x:GP):WkS (fullP x) x.enc:=WkS.aggL ⟨.refl _,wk_own _ _ _,wk_own _ _ _,
 .sl _ _ _ _ (by simp) (fun i h h'=>by simp only [List.getElem_map]; exact WkS.aggL ⟨.refl _,wk_own _ _ _,.refl _,.refl _,wk_own _ _ _,wk_own _ _ _,trivial⟩),
 .sl _ _ _ _ (by simp) (fun i h h'=>by simp only [List.getElem_map]; exact WkS.aggL ⟨.refl _,wk_own _ _ _,wk_own _ _ _,trivial⟩),trivial⟩
theorem u29 (x:GP) (h:x.Ok):Pure Tryz.prog 29 [x.enc,fullP x] (.bool true):=Pure.wk (s29 x h) ⟨.refl _,.deep (wk_full x),trivial⟩
theorem u11:PureT Tryz.prog 11 [] (.bool true):=by
 intro n H hn hT
 refine a_fun tok (fun_of Tryz.func11 rfl rfl) (by simp) fun B=>?_
 repeat refine kn rfl ?_
 refine k_region tok rfl (by kernel_rfl) ?_
 simp only [go_sem,simprocAttr]
 repeat refine kn rfl ?_
 refine k_region tok rfl (by kernel_rfl) ?_
 simp only [go_sem,simprocAttr]
 refine callP (fun_of Tryz.func37 rfl rfl) (u37) (by simp only [go_sem,simprocAttr]) ?_
 simp only [go_sem,simprocAttr]
 have h28:=b28 (n + 1) (full n [] H) exI ex_ok (Nat.succ_pos n) (hT.full hn) (names_sm ex_ok.al) exO (.sl 2 [] .full) (below_sl (fun _ h=>by cases h) (fun _ _ e=>by cases e)) (by rw [ex_sorted]; exact (show AllP (fun a:Am=>(nameA a).length ≤ 200) [exA,exB,exC,exD] from ⟨by decide,by decide,by decide,by decide,trivial⟩).mem)
  (ex_hp (n + 1)) (fun h=>by cases h) (fun p hp=>by cases hp; exact ⟨2,by unfold SmI; omega,rfl,by decide⟩) (by rw [ex_fin]) (by rw [ex_fin,ex_sorted]; decide) (by rw [ex_fin]; decide)
 rw [ex_res] at h28
 refine callH (fun_of Tryz.func28 rfl rfl) h28 (by simp only [go_sem,simprocAttr]) ?_
 simp only [go_sem,simprocAttr]
 repeat refine kn rfl ?_
 refine k_region tok rfl (by kernel_rfl) ?_
 simp only [go_sem,simprocAttr]
 refine ⟨rfl,rfl,rfl,rfl,rfl,rfl,rfl,rfl,rfl,rfl,rfl,rfl,rfl,rfl,rfl,rfl,rfl,rfl,rfl,rfl,?_⟩
 repeat refine kn rfl ?_
 refine k_region tok rfl (by kernel_rfl) ?_
 simp only [go_sem,simprocAttr]
 refine callP (fun_of Tryz.func29 rfl rfl) (u29 exGP ex_gok) (by simp only [go_sem,simprocAttr]; rfl) ?_
 simp only [go_sem,simprocAttr]
 repeat refine kn rfl ?_
 refine k_ret rfl ?_
 exact post_one (.refl _) (.bool _) rfl
end Go.Proofs.YthgbkalgmicniaaGreatDoor

/- The size of instances: the walk. -/
namespace Go.Proofs.YthgbkalgmicniaaGreatDoor
open Go.Abs
set_option maxRecDepth 100000
abbrev insV (I:List Ins):AV:=.sl 8 (I.map Ins.enc) .any
def hF (a:Am):Nat × Nat:=(0,a.sz)
def cF (g:GL):Nat × Nat:=(0,g.a.sz)
def sz0 (I:List Ins) (H:AHeap) (i:Nat):AState:=⟨[(4,.int .i64 i),(3,.int .i64 (stpF 0 ((I.take i).flatMap itI))),(0,insV I)],[],H⟩
def sz1 (I:List Ins) (H:AHeap) (i:Nat) (N:Int) (x:Ins) (k:Nat):AState:=⟨[(5,.int .i64 k),(4,.int .i64 i),(3,.int .i64 (stpF N ((x.heads.take k).map hF))),(0,insV I)],[],H⟩
def sz2 (I:List Ins) (H:AHeap) (i:Nat) (N:Int) (x:Ins) (k:Nat):AState:=⟨[(6,.int .i64 k),(4,.int .i64 i),(3,.int .i64 (stpF N ((x.body.take k).flatMap itB))),(0,insV I)],[],H⟩
def sz3 (n:Nat) (I:List Ins) (H:AHeap) (i k:Nat) (N:Int) (b:GB) (j:Nat):AState:=⟨[(8,.int .i64 j),(7,.ptr n 7 0),(6,.int .i64 k),(4,.int .i64 i),(3,.int .i64 (stpF N ((b.elems.take j).flatMap itE))),(0,insV I)],[(7,.box b.cs)],H⟩
def sz4 (n:Nat) (I:List Ins) (H:AHeap) (i k j:Nat) (N:Int) (b:GB) (e:GE) (m:Nat):AState:=⟨[(9,.int .i64 m),(8,.int .i64 j),(7,.ptr n 7 0),(6,.int .i64 k),(4,.int .i64 i),(3,.int .i64 (stpF N ((e.cond.take m).map cF))),(0,insV I)],[(7,.box b.cs)],H⟩
theorem it1 (x:Ins):∀ p ∈ itI x,p.1 ≤ 1 ∧ 1 ≤ p.1 + p.2:=by
 intro p hp
 have hE:∀ e:GE,∀ p ∈ itE e,p.1 ≤ 1 ∧ 1 ≤ p.1 + p.2:=fun e p hp=>by
  rcases List.mem_cons.1 hp with rfl | hp
  ·exact ⟨by simp,by simp⟩
  ·obtain ⟨g,_,rfl⟩:=List.mem_map.1 hp; exact ⟨by simp,by have:=Am.sz_pos g.a; simpa using this⟩
 have hB:∀ b:GB,∀ p ∈ itB b,p.1 ≤ 1 ∧ 1 ≤ p.1 + p.2:=fun b p hp=>by
  rcases List.mem_cons.1 hp with rfl | hp
  ·exact ⟨by simp,by simp⟩
  ·obtain ⟨e,_,hp⟩:=List.mem_flatMap.1 hp; exact hE e p hp
 rcases List.mem_cons.1 hp with rfl | hp
 ·exact ⟨by simp,by simp⟩
 ·rcases List.mem_append.1 hp with hp | hp
  ·obtain ⟨a,_,rfl⟩:=List.mem_map.1 hp; exact ⟨by simp,by have:=Am.sz_pos a; simpa using this⟩
  ·obtain ⟨b,_,hp⟩:=List.mem_flatMap.1 hp; exact hB b p hp
theorem stpF_stop {N:Int} {p q:List (Nat × Nat)} (h:400 < stpF N p):stpF N (p ++ q) = stpF N p:=by rw [stpF_append,stpF_big h]
theorem z13h (n B:Nat) (I:List Ins) (H:AHeap) (i:Nat) (h:i < I.length) (N:Int) (hN:0 ≤ N ∧ N ≤ 402) :
  AKc ⟨Tryz.prog,tt,⟨none,B⟩,n,Tryz.f13.ntmps⟩ [.code (bodyOf Tryz.f13).snd.snd.fst.snd.fst.fst.snd.fst.fst.snd.fst.snd]
   (fun e s'=>e = .normal ∧ AWk n Tryz.f13.ntmps s' ⟨[(4,.int .i64 i),(3,.int .i64 (stpF N (I[i].heads.map hF))),(0,insV I)],[],H⟩) (sz1 I H i N I[i] 0):=by
 have hgd:∀ d,(I.map Ins.enc).getD i d = I[i].enc:=fun d=>getD_map Ins.enc _ _ h d
 obtain ⟨x,hx⟩:∃ x,x = I[i]:=⟨_,rfl⟩
 rw [← hx] at hgd ⊢
 have hp1:∀ l:List Am,∀ p ∈ l.map hF,p.1 ≤ 1 ∧ 1 ≤ p.1 + p.2:=fun l p hp=>by obtain ⟨a,_,rfl⟩:=List.mem_map.1 hp; exact ⟨by simp [hF],by have:=Am.sz_pos a; simpa [hF] using this⟩
 repeat refine kn rfl ?_
 refine k_loop_ix (sz1 I H i N x) x.heads.length rfl ?_ ?_
 ·unfold sz1
  refine AWk_kept ?_ ?_ ?_ ?_ <;> repeat' first | exact trivial | refine q0 ?_ | exact qb | exact q1 | exact q2 | exact q3 | exact rfl | refine And.intro ?_ ?_ | exact q4 | exact q5 | exact q6 | exact q7 | exact Inside.ptr _ _ _ (.inr ⟨rfl,rfl⟩) | exact q8 | exact q9 | exact qd | exact Tm.ins _ | exact Tm.inss _ _ | exact Am.ins _ | exact Am.inss _ _ | refine ins_buf_str ?_ | refine Tm.ins_buf ?_ | refine Am.ins_buf ?_ | exact qf
  all_goals first | exact (below_inss _).inside | skip
 intro k hk
 refine k_st rfl ?_
 have hbd:=stpF_bd ((x.heads.take k).map hF) (n:=N) (fun p hp=>(hp1 _ p hp).1) hN.1 hN.2
 unfold sz1
 rcases Nat.lt_or_ge k x.heads.length with h2 | h2
 ·by_cases h4:stpF N ((x.heads.take k).map hF) ≤ 400
  ·have hkl:k ≤ 400:=by
    by_cases hN4:N ≤ 400
    ·have:=stpF_len ((x.heads.take k).map hF) (hp1 _) hN.1 hN4 h4
     rw [List.length_map,List.length_take_of_le hk] at this; omega
    ·rw [stpF_big (by omega)] at h4; omega
   have hsu:(x.heads.take (k + 1)).map hF = (x.heads.take k).map hF ++ [hF x.heads[k]]:=by rw [List.take_succ_eq_append_getElem h2,List.map_append]; rfl
   rw [hsu,stpF_append]
   generalize stpF N ((x.heads.take k).map hF) = N0 at *
   have hw:IntKind.i64.wrap (400 - N0) = 400 - N0:=IntWalk.i64_in _ (by omega)
   have hc:=cutN_bd x.heads[k].sz (m:=400 - N0) (by omega)
   have hst:stpF N0 [hF x.heads[k]] = N0 + cutN x.heads[k].sz (400 - N0):=by rw [stpF_one,stp,if_pos h4]; simp [hF]
   have hw2:IntKind.i64.wrap (N0 + cutN x.heads[k].sz (400 - N0)) = N0 + cutN x.heads[k].sz (400 - N0):=IntWalk.i64_in _ (by omega)
   repeat refine kn rfl ?_
   refine k_region tok rfl (by kernel_rfl) ?_
   simp only [go_sem,simprocAttr,hgd,h,h2,h4]
   repeat refine kn rfl ?_
   refine k_cond_t rfl (by simp only [go_sem,simprocAttr]) ?_
   repeat refine kn rfl ?_
   refine k_region tok rfl (by kernel_rfl) ?_
   simp only [go_sem,simprocAttr,hgd,h,h2,hw,getD_map Am.enc _ _ h2]
   refine callP (fun_of Tryz.func14 rfl rfl) (z14 x.heads[k] (400 - N0) (by omega) (by omega)) (by simp only [go_sem,simprocAttr,hw2]) ?_
   simp only [go_sem,simprocAttr,hw2]
   repeat refine kn rfl ?_
   refine k_region tok rfl (by kernel_rfl) ?_
   simp only [go_sem,simprocAttr]
   repeat refine kn rfl ?_
   refine k_nil ?_
   rw [hst]
   refine AWk_kept ?_ ?_ ?_ ?_ <;> repeat' first | exact trivial | refine q0 ?_ | exact qb | exact q1 | exact q2 | exact q3 | exact rfl | refine And.intro ?_ ?_ | exact q4 | exact q5 | exact q6 | exact q7 | exact Inside.ptr _ _ _ (.inr ⟨rfl,rfl⟩) | exact q8 | exact q9 | exact qd | exact Tm.ins _ | exact Tm.inss _ _ | exact Am.ins _ | exact Am.inss _ _ | refine ins_buf_str ?_ | refine Tm.ins_buf ?_ | refine Am.ins_buf ?_ | exact qf
   ·simp only [go_sem,simprocAttr]
    rw [IntWalk.i64_in _ (by omega)]; exact .refl _
   all_goals first | exact (below_inss _).inside | skip
  ·have hbig:stpF N ((x.heads.take k).map hF) = stpF N (x.heads.map hF):=by
    conv=>rhs; rw [← List.take_append_drop k x.heads,List.map_append]
    rw [stpF_stop (by omega)]
   repeat refine kn rfl ?_
   refine k_region tok rfl (by kernel_rfl) ?_
   simp only [go_sem,simprocAttr,hgd,h,h2,h4]
   repeat refine kn rfl ?_
   refine k_cond_f rfl (by simp only [go_sem,simprocAttr]) ?_
   repeat refine kn rfl ?_
   refine k_exit_round rfl rfl rfl ?_
   repeat refine kn rfl ?_
   refine k_nil ?_
   refine ⟨rfl,?_⟩
   rw [hbig]
   refine AWk_kept ?_ ?_ ?_ ?_ <;> repeat' first | exact trivial | refine q0 ?_ | exact qb | exact q1 | exact q2 | exact q3 | exact rfl | refine And.intro ?_ ?_ | exact q4 | exact q5 | exact q6 | exact q7 | exact Inside.ptr _ _ _ (.inr ⟨rfl,rfl⟩) | exact q8 | exact q9 | exact qd | exact Tm.ins _ | exact Tm.inss _ _ | exact Am.ins _ | exact Am.inss _ _ | refine ins_buf_str ?_ | refine Tm.ins_buf ?_ | refine Am.ins_buf ?_ | exact qf
   all_goals first | exact (below_inss _).inside | skip
 ·have hk':k = x.heads.length:=by omega
  subst hk'
  repeat refine kn rfl ?_
  refine k_region tok rfl (by kernel_rfl) ?_
  simp only [go_sem,simprocAttr,hgd,h,Nat.not_lt.2 h2]
  repeat refine kn rfl ?_
  refine k_cond_f rfl (by simp only [go_sem,simprocAttr]) ?_
  repeat refine kn rfl ?_
  refine k_exit_round rfl rfl rfl ?_
  repeat refine kn rfl ?_
  refine k_nil ?_
  refine ⟨rfl,?_⟩
  rw [List.take_length]
  refine AWk_kept ?_ ?_ ?_ ?_ <;> repeat' first | exact trivial | refine q0 ?_ | exact qb | exact q1 | exact q2 | exact q3 | exact rfl | refine And.intro ?_ ?_ | exact q4 | exact q5 | exact q6 | exact q7 | exact Inside.ptr _ _ _ (.inr ⟨rfl,rfl⟩) | exact q8 | exact q9 | exact qd | exact Tm.ins _ | exact Tm.inss _ _ | exact Am.ins _ | exact Am.inss _ _ | refine ins_buf_str ?_ | refine Tm.ins_buf ?_ | refine Am.ins_buf ?_ | exact qf
  all_goals first | exact (below_inss _).inside | skip
theorem pB (b:GB):∀ p ∈ itB b,p.1 ≤ 1 ∧ 1 ≤ p.1 + p.2:=fun p hp=>it1 ⟨0,[],0,0,[b],0,0,[]⟩ p (by simp [itI]; exact .inr hp)
theorem pE (e:GE):∀ p ∈ itE e,p.1 ≤ 1 ∧ 1 ≤ p.1 + p.2:=fun p hp=>pB ⟨0,⟨false,⟨[],[]⟩⟩,false,0,[e],0,0⟩ p (by simp [itB]; exact .inr hp)
theorem pFl {α:Type} {f:α → List (Nat × Nat)} (h:∀ x,∀ p ∈ f x,p.1 ≤ 1 ∧ 1 ≤ p.1 + p.2) (l:List α):∀ p ∈ l.flatMap f,p.1 ≤ 1 ∧ 1 ≤ p.1 + p.2:=fun p hp=>by
 obtain ⟨x,_,hp⟩:=List.mem_flatMap.1 hp; exact h x p hp
theorem few {α:Type} {f:α → List (Nat × Nat)} (h:∀ x,∀ p ∈ f x,p.1 ≤ 1 ∧ 1 ≤ p.1 + p.2) (hf:∀ x,1 ≤ totF (f x)) {N:Int} (hN:0 ≤ N) (l:List α) (h4:stpF N (l.flatMap f) ≤ 400):l.length ≤ 400:=by
 by_cases hN4:N ≤ 400
 ·have ht:=stpF_tot (l.flatMap f) (fun p hp=>(pFl h l p hp).1) hN hN4
  have:=ht.1.1 h4
  have:=len_flat hf l
  omega
 ·rw [stpF_big (by omega)] at h4; omega
theorem z13c (n B:Nat) (I:List Ins) (H:AHeap) (i k j:Nat) (b:GB) (hj:j < b.elems.length) (N:Int) (hN:0 ≤ N ∧ N ≤ 402) :
  AKc ⟨Tryz.prog,tt,⟨none,B⟩,n,Tryz.f13.ntmps⟩ [.code (bodyOf Tryz.f13).snd.snd.fst.snd.fst.fst.snd.fst.fst.snd.snd.snd.fst.fst.snd.fst.fst.snd.snd.snd.fst.fst.snd.fst.fst.snd.snd]
   (fun e s'=>e = .normal ∧ AWk n Tryz.f13.ntmps s' ⟨[(8,.int .i64 j),(7,.ptr n 7 0),(6,.int .i64 k),(4,.int .i64 i),(3,.int .i64 (stpF N (b.elems[j].cond.map cF))),(0,insV I)],[(7,.box b.cs)],H⟩) (sz4 n I H i k j N b b.elems[j] 0):=by
 have hge:∀ d,(b.elems.map GE.enc).getD j d = b.elems[j].enc:=fun d=>getD_map GE.enc _ _ hj d
 obtain ⟨e,he⟩:∃ e,e = b.elems[j]:=⟨_,rfl⟩
 rw [← he] at hge ⊢
 have hp1:∀ l:List GL,∀ p ∈ l.map cF,p.1 ≤ 1 ∧ 1 ≤ p.1 + p.2:=fun l p hp=>by obtain ⟨a,_,rfl⟩:=List.mem_map.1 hp; exact ⟨by simp [cF],by have:=Am.sz_pos a.a; simpa [cF] using this⟩
 repeat refine kn rfl ?_
 refine k_loop_ix (sz4 n I H i k j N b e) e.cond.length rfl ?_ ?_
 ·unfold sz4
  refine AWk_kept ?_ ?_ ?_ ?_ <;> repeat' first | exact trivial | refine q0 ?_ | exact qb | exact q1 | exact q2 | exact q3 | exact rfl | refine And.intro ?_ ?_ | exact q4 | exact q5 | exact q6 | exact q7 | exact Inside.ptr _ _ _ (.inr ⟨rfl,rfl⟩) | exact q8 | exact q9 | exact qd | exact Tm.ins _ | exact Tm.inss _ _ | exact Am.ins _ | exact Am.inss _ _ | refine ins_buf_str ?_ | refine Tm.ins_buf ?_ | refine Am.ins_buf ?_ | exact qf
  all_goals first | exact (below_inss _).inside | exact (below_tms _).inside | exact (below_ges _).inside | skip
 intro m hm
 refine k_st rfl ?_
 have hbd:=stpF_bd ((e.cond.take m).map cF) (n:=N) (fun p hp=>(hp1 _ p hp).1) hN.1 hN.2
 unfold sz4
 rcases Nat.lt_or_ge m e.cond.length with h2 | h2
 ·by_cases h4:stpF N ((e.cond.take m).map cF) ≤ 400
  ·have hkl:m ≤ 400:=by
    by_cases hN4:N ≤ 400
    ·have:=stpF_len ((e.cond.take m).map cF) (hp1 _) hN.1 hN4 h4
     rw [List.length_map,List.length_take_of_le hm] at this; omega
    ·rw [stpF_big (by omega)] at h4; omega
   have hsu:(e.cond.take (m + 1)).map cF = (e.cond.take m).map cF ++ [cF e.cond[m]]:=by rw [List.take_succ_eq_append_getElem h2,List.map_append]; rfl
   rw [hsu,stpF_append]
   generalize stpF N ((e.cond.take m).map cF) = N0 at *
   have hw:IntKind.i64.wrap (400 - N0) = 400 - N0:=IntWalk.i64_in _ (by omega)
   have hc:=cutN_bd e.cond[m].a.sz (m:=400 - N0) (by omega)
   have hst:stpF N0 [cF e.cond[m]] = N0 + cutN e.cond[m].a.sz (400 - N0):=by rw [stpF_one,stp,if_pos h4]; simp [cF]
   have hw2:IntKind.i64.wrap (N0 + cutN e.cond[m].a.sz (400 - N0)) = N0 + cutN e.cond[m].a.sz (400 - N0):=IntWalk.i64_in _ (by omega)
   repeat refine kn rfl ?_
   refine k_region tok rfl (by kernel_rfl) ?_
   simp only [go_sem,simprocAttr,hge,hj,h2,h4]
   repeat refine kn rfl ?_
   refine k_cond_t rfl (by simp only [go_sem,simprocAttr]) ?_
   repeat refine kn rfl ?_
   refine k_region tok rfl (by kernel_rfl) ?_
   simp only [go_sem,simprocAttr,hge,hj,h2,hw,getD_map GL.enc _ _ h2]
   refine callP (fun_of Tryz.func14 rfl rfl) (z14 e.cond[m].a (400 - N0) (by omega) (by omega)) (by simp only [go_sem,simprocAttr,hw2]) ?_
   simp only [go_sem,simprocAttr,hw2]
   repeat refine kn rfl ?_
   refine k_region tok rfl (by kernel_rfl) ?_
   simp only [go_sem,simprocAttr]
   repeat refine kn rfl ?_
   refine k_nil ?_
   rw [hst]
   refine AWk_kept ?_ ?_ ?_ ?_ <;> repeat' first | exact trivial | refine q0 ?_ | exact qb | exact q1 | exact q2 | exact q3 | exact rfl | refine And.intro ?_ ?_ | exact q4 | exact q5 | exact q6 | exact q7 | exact Inside.ptr _ _ _ (.inr ⟨rfl,rfl⟩) | exact q8 | exact q9 | exact qd | exact Tm.ins _ | exact Tm.inss _ _ | exact Am.ins _ | exact Am.inss _ _ | refine ins_buf_str ?_ | refine Tm.ins_buf ?_ | refine Am.ins_buf ?_ | exact qf
   ·simp only [go_sem,simprocAttr]
    rw [IntWalk.i64_in _ (by omega)]; exact .refl _
   all_goals first | exact (below_inss _).inside | exact (below_tms _).inside | exact (below_ges _).inside | skip
  ·have hbig:stpF N ((e.cond.take m).map cF) = stpF N (e.cond.map cF):=by
    conv=>rhs; rw [← List.take_append_drop m e.cond,List.map_append]
    rw [stpF_stop (by omega)]
   repeat refine kn rfl ?_
   refine k_region tok rfl (by kernel_rfl) ?_
   simp only [go_sem,simprocAttr,hge,hj,h2,h4]
   repeat refine kn rfl ?_
   refine k_cond_f rfl (by simp only [go_sem,simprocAttr]) ?_
   repeat refine kn rfl ?_
   refine k_exit_round rfl rfl rfl ?_
   repeat refine kn rfl ?_
   refine k_nil ?_
   refine ⟨rfl,?_⟩
   rw [hbig]
   refine AWk_kept ?_ ?_ ?_ ?_ <;> repeat' first | exact trivial | refine q0 ?_ | exact qb | exact q1 | exact q2 | exact q3 | exact rfl | refine And.intro ?_ ?_ | exact q4 | exact q5 | exact q6 | exact q7 | exact Inside.ptr _ _ _ (.inr ⟨rfl,rfl⟩) | exact q8 | exact q9 | exact qd | exact Tm.ins _ | exact Tm.inss _ _ | exact Am.ins _ | exact Am.inss _ _ | refine ins_buf_str ?_ | refine Tm.ins_buf ?_ | refine Am.ins_buf ?_ | exact qf
   all_goals first | exact (below_inss _).inside | exact (below_tms _).inside | exact (below_ges _).inside | skip
 ·have hk':m = e.cond.length:=by omega
  subst hk'
  repeat refine kn rfl ?_
  refine k_region tok rfl (by kernel_rfl) ?_
  simp only [go_sem,simprocAttr,hge,hj,Nat.not_lt.2 h2]
  repeat refine kn rfl ?_
  refine k_cond_f rfl (by simp only [go_sem,simprocAttr]) ?_
  repeat refine kn rfl ?_
  refine k_exit_round rfl rfl rfl ?_
  repeat refine kn rfl ?_
  refine k_nil ?_
  refine ⟨rfl,?_⟩
  rw [List.take_length]
  refine AWk_kept ?_ ?_ ?_ ?_ <;> repeat' first | exact trivial | refine q0 ?_ | exact qb | exact q1 | exact q2 | exact q3 | exact rfl | refine And.intro ?_ ?_ | exact q4 | exact q5 | exact q6 | exact q7 | exact Inside.ptr _ _ _ (.inr ⟨rfl,rfl⟩) | exact q8 | exact q9 | exact qd | exact Tm.ins _ | exact Tm.inss _ _ | exact Am.ins _ | exact Am.inss _ _ | refine ins_buf_str ?_ | refine Tm.ins_buf ?_ | refine Am.ins_buf ?_ | exact qf
  all_goals first | exact (below_inss _).inside | exact (below_tms _).inside | exact (below_ges _).inside | skip
theorem z13e (n B:Nat) (I:List Ins) (H:AHeap) (i k:Nat) (b:GB) (N:Int) (hN:0 ≤ N ∧ N ≤ 402) :
  AKc ⟨Tryz.prog,tt,⟨none,B⟩,n,Tryz.f13.ntmps⟩ [.code (bodyOf Tryz.f13).snd.snd.fst.snd.fst.fst.snd.fst.fst.snd.snd.snd.fst.fst.snd.fst.fst.snd.snd.snd]
   (fun e s'=>e = .normal ∧ AWk n Tryz.f13.ntmps s' ⟨[(6,.int .i64 k),(4,.int .i64 i),(3,.int .i64 (stpF N (b.elems.flatMap itE))),(0,insV I)],[],H⟩) (sz3 n I H i k N b 0):=by
 repeat refine kn rfl ?_
 refine k_loop_ix (sz3 n I H i k N b) b.elems.length rfl ?_ ?_
 ·unfold sz3
  refine AWk_kept ?_ ?_ ?_ ?_ <;> repeat' first | exact trivial | refine q0 ?_ | exact qb | exact q1 | exact q2 | exact q3 | exact rfl | refine And.intro ?_ ?_ | exact q4 | exact q5 | exact q6 | exact q7 | exact Inside.ptr _ _ _ (.inr ⟨rfl,rfl⟩) | exact q8 | exact q9 | exact qd | exact Tm.ins _ | exact Tm.inss _ _ | exact Am.ins _ | exact Am.inss _ _ | refine ins_buf_str ?_ | refine Tm.ins_buf ?_ | refine Am.ins_buf ?_ | exact qf
  all_goals first | exact (below_inss _).inside | exact (below_tms _).inside | exact (below_ges _).inside | skip
 intro j hj
 refine k_st rfl ?_
 have hbd:=stpF_bd ((b.elems.take j).flatMap itE) (n:=N) (fun p hp=>(pFl pE _ p hp).1) hN.1 hN.2
 unfold sz3
 rcases Nat.lt_or_ge j b.elems.length with h2 | h2
 ·by_cases h4:stpF N ((b.elems.take j).flatMap itE) ≤ 400
  ·have hkl:j ≤ 400:=by
    have:=few pE itE_pos hN.1 (b.elems.take j) h4
    rw [List.length_take_of_le hj] at this; exact this
   have hsu:(b.elems.take (j + 1)).flatMap itE = (b.elems.take j).flatMap itE ++ itE b.elems[j]:=flatMap_take itE b.elems j h2
   rw [hsu,stpF_append]
   have hge:∀ d,(b.elems.map GE.enc).getD j d = b.elems[j].enc:=fun d=>getD_map GE.enc _ _ h2 d
   obtain ⟨e,he⟩:∃ e,e = b.elems[j]:=⟨_,rfl⟩
   generalize stpF N ((b.elems.take j).flatMap itE) = N0 at *
   have hw:IntKind.i64.wrap (400 - N0) = 400 - N0:=IntWalk.i64_in _ (by omega)
   obtain ⟨N1,hN1⟩:∃ N1,N1 = stp N0 (1,Tm.sz.szs e.tuple):=⟨_,rfl⟩
   have hc:=cutN_bd (Tm.sz.szs e.tuple) (m:=400 - N0) (by omega)
   have hN1':N1 = N0 + (1 + cutN (Tm.sz.szs e.tuple) (400 - N0)):=by rw [hN1,stp,if_pos h4]; simp
   have hw1:IntKind.i64.wrap (1 + cutN (Tm.sz.szs e.tuple) (400 - N0)) = 1 + cutN (Tm.sz.szs e.tuple) (400 - N0):=IntWalk.i64_in _ (by omega)
   have hw2:IntKind.i64.wrap (N0 + (1 + cutN (Tm.sz.szs e.tuple) (400 - N0))) = N1:=by rw [← hN1']; exact IntWalk.i64_in _ (by omega)
   have hit:stpF N0 (itE e) = stpF N1 (e.cond.map cF):=by unfold itE; rw [stpF_cons,← hN1]; rfl
   rw [← he] at hge ⊢
   rw [hit]
   have hb1:0 ≤ N1 ∧ N1 ≤ 402:=by omega
   repeat refine kn rfl ?_
   refine k_region tok rfl (by kernel_rfl) ?_
   simp only [go_sem,simprocAttr,h2,h4]
   repeat refine kn rfl ?_
   refine k_cond_t rfl (by simp only [go_sem,simprocAttr]) ?_
   repeat refine kn rfl ?_
   refine k_region tok rfl (by kernel_rfl) ?_
   simp only [go_sem,simprocAttr,h2,hge,hw]
   refine callP (fun_of Tryz.func43 rfl rfl) (z43 e.tuple (400 - N0) (by omega) (by omega) (fun u hu m' h0' h1'=>z94 u m' h0' h1')) (by simp only [go_sem,simprocAttr,hw1,hw2]) ?_
   simp only [go_sem,simprocAttr,hw1,hw2]
   repeat refine kn rfl ?_
   refine k_region tok rfl (by kernel_rfl) ?_
   simp only [go_sem,simprocAttr]
   refine k_cut ⟨[(8,.int .i64 j),(7,.ptr n 7 0),(6,.int .i64 k),(4,.int .i64 i),(3,.int .i64 (stpF N1 (e.cond.map cF))),(0,insV I)],[(7,.box b.cs)],H⟩ ?_ ?_
   ·rw [he]
    refine k_weak ?_ (z13c n B I H i k j b h2 N1 hb1)
    unfold sz4
    refine AWk_kept ?_ ?_ ?_ ?_ <;> repeat' first | exact trivial | refine q0 ?_ | exact qb | exact q1 | exact q2 | exact q3 | exact rfl | refine And.intro ?_ ?_ | exact q4 | exact q5 | exact q6 | exact q7 | exact Inside.ptr _ _ _ (.inr ⟨rfl,rfl⟩) | exact q8 | exact q9 | exact qd | exact Tm.ins _ | exact Tm.inss _ _ | exact Am.ins _ | exact Am.inss _ _ | refine ins_buf_str ?_ | refine Tm.ins_buf ?_ | refine Am.ins_buf ?_ | exact qf
    all_goals first | exact (below_inss _).inside | exact (below_tms _).inside | exact (below_ges _).inside | skip
   have hb2:=stpF_bd (e.cond.map cF) (n:=N1) (fun p hp=>by obtain ⟨a,_,rfl⟩:=List.mem_map.1 hp; simp [cF]) hb1.1 hb1.2
   repeat refine kn rfl ?_
   refine k_region tok rfl (by kernel_rfl) ?_
   simp only [go_sem,simprocAttr]
   repeat refine kn rfl ?_
   refine k_nil ?_
   refine AWk_kept ?_ ?_ ?_ ?_ <;> repeat' first | exact trivial | refine q0 ?_ | exact qb | exact q1 | exact q2 | exact q3 | exact rfl | refine And.intro ?_ ?_ | exact q4 | exact q5 | exact q6 | exact q7 | exact Inside.ptr _ _ _ (.inr ⟨rfl,rfl⟩) | exact q8 | exact q9 | exact qd | exact Tm.ins _ | exact Tm.inss _ _ | exact Am.ins _ | exact Am.inss _ _ | refine ins_buf_str ?_ | refine Tm.ins_buf ?_ | refine Am.ins_buf ?_ | exact qf
   ·simp only [go_sem,simprocAttr]
    rw [IntWalk.i64_in _ (by omega)]; exact .refl _
   all_goals first | exact (below_inss _).inside | exact (below_tms _).inside | exact (below_ges _).inside | skip
  ·have hbig:stpF N ((b.elems.take j).flatMap itE) = stpF N (b.elems.flatMap itE):=by
    conv=>rhs; rw [← List.take_append_drop j b.elems,List.flatMap_append]
    rw [stpF_stop (by omega)]
   repeat refine kn rfl ?_
   refine k_region tok rfl (by kernel_rfl) ?_
   simp only [go_sem,simprocAttr,h2,h4]
   repeat refine kn rfl ?_
   refine k_cond_f rfl (by simp only [go_sem,simprocAttr]) ?_
   repeat refine kn rfl ?_
   refine k_exit_round rfl rfl rfl ?_
   repeat refine kn rfl ?_
   refine k_nil ?_
   refine ⟨rfl,?_⟩
   rw [hbig]
   refine AWk_kept ?_ ?_ ?_ ?_ <;> repeat' first | exact trivial | refine q0 ?_ | exact qb | exact q1 | exact q2 | exact q3 | exact rfl | refine And.intro ?_ ?_ | exact q4 | exact q5 | exact q6 | exact q7 | exact Inside.ptr _ _ _ (.inr ⟨rfl,rfl⟩) | exact q8 | exact q9 | exact qd | exact Tm.ins _ | exact Tm.inss _ _ | exact Am.ins _ | exact Am.inss _ _ | refine ins_buf_str ?_ | refine Tm.ins_buf ?_ | refine Am.ins_buf ?_ | exact qf
   all_goals first | exact (below_inss _).inside | exact (below_tms _).inside | exact (below_ges _).inside | skip
 ·have hk':j = b.elems.length:=by omega
  subst hk'
  repeat refine kn rfl ?_
  refine k_region tok rfl (by kernel_rfl) ?_
  simp only [go_sem,simprocAttr,Nat.not_lt.2 h2]
  repeat refine kn rfl ?_
  refine k_cond_f rfl (by simp only [go_sem,simprocAttr]) ?_
  repeat refine kn rfl ?_
  refine k_exit_round rfl rfl rfl ?_
  repeat refine kn rfl ?_
  refine k_nil ?_
  refine ⟨rfl,?_⟩
  rw [List.take_length]
  refine AWk_kept ?_ ?_ ?_ ?_ <;> repeat' first | exact trivial | refine q0 ?_ | exact qb | exact q1 | exact q2 | exact q3 | exact rfl | refine And.intro ?_ ?_ | exact q4 | exact q5 | exact q6 | exact q7 | exact Inside.ptr _ _ _ (.inr ⟨rfl,rfl⟩) | exact q8 | exact q9 | exact qd | exact Tm.ins _ | exact Tm.inss _ _ | exact Am.ins _ | exact Am.inss _ _ | refine ins_buf_str ?_ | refine Tm.ins_buf ?_ | refine Am.ins_buf ?_ | exact qf
  all_goals first | exact (below_inss _).inside | exact (below_tms _).inside | exact (below_ges _).inside | skip
theorem z13b (n B:Nat) (I:List Ins) (H:AHeap) (i:Nat) (h:i < I.length) (N:Int) (hN:0 ≤ N ∧ N ≤ 402) :
  AKc ⟨Tryz.prog,tt,⟨none,B⟩,n,Tryz.f13.ntmps⟩ [.code (bodyOf Tryz.f13).snd.snd.fst.snd.fst.fst.snd.fst.fst.snd.snd.snd]
   (fun e s'=>e = .normal ∧ AWk n Tryz.f13.ntmps s' ⟨[(4,.int .i64 i),(3,.int .i64 (stpF N (I[i].body.flatMap itB))),(0,insV I)],[],H⟩) (sz2 I H i N I[i] 0):=by
 have hgd:∀ d,(I.map Ins.enc).getD i d = I[i].enc:=fun d=>getD_map Ins.enc _ _ h d
 obtain ⟨x,hx⟩:∃ x,x = I[i]:=⟨_,rfl⟩
 rw [← hx] at hgd ⊢
 repeat refine kn rfl ?_
 refine k_loop_ix (sz2 I H i N x) x.body.length rfl ?_ ?_
 ·unfold sz2
  refine AWk_kept ?_ ?_ ?_ ?_ <;> repeat' first | exact trivial | refine q0 ?_ | exact qb | exact q1 | exact q2 | exact q3 | exact rfl | refine And.intro ?_ ?_ | exact q4 | exact q5 | exact q6 | exact q7 | exact Inside.ptr _ _ _ (.inr ⟨rfl,rfl⟩) | exact q8 | exact q9 | exact qd | exact Tm.ins _ | exact Tm.inss _ _ | exact Am.ins _ | exact Am.inss _ _ | refine ins_buf_str ?_ | refine Tm.ins_buf ?_ | refine Am.ins_buf ?_ | exact qf
  all_goals first | exact (below_inss _).inside | skip
 intro k hk
 refine k_st rfl ?_
 have hbd:=stpF_bd ((x.body.take k).flatMap itB) (n:=N) (fun p hp=>(pFl pB _ p hp).1) hN.1 hN.2
 unfold sz2
 rcases Nat.lt_or_ge k x.body.length with h2 | h2
 ·by_cases h4:stpF N ((x.body.take k).flatMap itB) ≤ 400
  ·have hkl:k ≤ 400:=by
    have:=few pB itB_pos hN.1 (x.body.take k) h4
    rw [List.length_take_of_le hk] at this; exact this
   have hsu:(x.body.take (k + 1)).flatMap itB = (x.body.take k).flatMap itB ++ itB x.body[k]:=flatMap_take itB x.body k h2
   rw [hsu,stpF_append]
   have hgb:∀ d,(x.body.map GB.enc).getD k d = x.body[k].enc:=fun d=>getD_map GB.enc _ _ h2 d
   obtain ⟨b,hb⟩:∃ b,b = x.body[k]:=⟨_,rfl⟩
   rw [← hb] at hgb ⊢
   generalize stpF N ((x.body.take k).flatMap itB) = N0 at *
   have hw:IntKind.i64.wrap (400 - N0) = 400 - N0:=IntWalk.i64_in _ (by omega)
   obtain ⟨N1,hN1⟩:∃ N1,N1 = stp N0 (1,b.lit.a.sz):=⟨_,rfl⟩
   have hc:=cutN_bd b.lit.a.sz (m:=400 - N0) (by omega)
   have hN1':N1 = N0 + (1 + cutN b.lit.a.sz (400 - N0)):=by rw [hN1,stp,if_pos h4]; simp
   have hw1:IntKind.i64.wrap (1 + cutN b.lit.a.sz (400 - N0)) = 1 + cutN b.lit.a.sz (400 - N0):=IntWalk.i64_in _ (by omega)
   have hw2:IntKind.i64.wrap (N0 + (1 + cutN b.lit.a.sz (400 - N0))) = N1:=by rw [← hN1']; exact IntWalk.i64_in _ (by omega)
   have hit:stpF N0 (itB b) = stpF N1 (b.elems.flatMap itE):=by unfold itB; rw [stpF_cons,← hN1]
   rw [hit]
   have hb1:0 ≤ N1 ∧ N1 ≤ 402:=by omega
   repeat refine kn rfl ?_
   refine k_region tok rfl (by kernel_rfl) ?_
   simp only [go_sem,simprocAttr,hgd,h,h2,h4]
   repeat refine kn rfl ?_
   refine k_cond_t rfl (by simp only [go_sem,simprocAttr]) ?_
   repeat refine kn rfl ?_
   refine k_region tok rfl (by kernel_rfl) ?_
   simp only [go_sem,simprocAttr,hgd,h,h2,hgb]
   repeat refine kn rfl ?_
   refine k_region tok rfl (by kernel_rfl) ?_
   simp only [go_sem,simprocAttr,hw]
   refine callP (fun_of Tryz.func14 rfl rfl) (z14 b.lit.a (400 - N0) (by omega) (by omega)) (by simp only [go_sem,simprocAttr,hw1,hw2]) ?_
   simp only [go_sem,simprocAttr,hw1,hw2]
   repeat refine kn rfl ?_
   refine k_region tok rfl (by kernel_rfl) ?_
   simp only [go_sem,simprocAttr]
   refine k_cut ⟨[(6,.int .i64 k),(4,.int .i64 i),(3,.int .i64 (stpF N1 (b.elems.flatMap itE))),(0,insV I)],[],H⟩ ?_ ?_
   ·refine k_weak ?_ (z13e n B I H i k b N1 hb1)
    unfold sz3
    refine AWk_kept ?_ ?_ ?_ ?_ <;> repeat' first | exact trivial | refine q0 ?_ | exact qb | exact q1 | exact q2 | exact q3 | exact rfl | refine And.intro ?_ ?_ | exact q4 | exact q5 | exact q6 | exact q7 | exact Inside.ptr _ _ _ (.inr ⟨rfl,rfl⟩) | exact q8 | exact q9 | exact qd | exact Tm.ins _ | exact Tm.inss _ _ | exact Am.ins _ | exact Am.inss _ _ | refine ins_buf_str ?_ | refine Tm.ins_buf ?_ | refine Am.ins_buf ?_ | exact qf
    all_goals first | exact (below_inss _).inside | exact ABlk.inside_box (allP_of fun c hc=>((GB.bcs b).mem c hc).inside) | exact allP_of (fun c hc=>((GB.bcs b).mem c hc).inside) | exact (below_tms _).inside | exact (below_ges _).inside | skip
   have hb2:=stpF_bd (b.elems.flatMap itE) (n:=N1) (fun p hp=>(pFl pE _ p hp).1) hb1.1 hb1.2
   repeat refine kn rfl ?_
   refine k_region tok rfl (by kernel_rfl) ?_
   simp only [go_sem,simprocAttr]
   repeat refine kn rfl ?_
   refine k_nil ?_
   refine AWk_kept ?_ ?_ ?_ ?_ <;> repeat' first | exact trivial | refine q0 ?_ | exact qb | exact q1 | exact q2 | exact q3 | exact rfl | refine And.intro ?_ ?_ | exact q4 | exact q5 | exact q6 | exact q7 | exact Inside.ptr _ _ _ (.inr ⟨rfl,rfl⟩) | exact q8 | exact q9 | exact qd | exact Tm.ins _ | exact Tm.inss _ _ | exact Am.ins _ | exact Am.inss _ _ | refine ins_buf_str ?_ | refine Tm.ins_buf ?_ | refine Am.ins_buf ?_ | exact qf
   ·simp only [go_sem,simprocAttr]
    rw [IntWalk.i64_in _ (by omega)]; exact .refl _
   all_goals first | exact (below_inss _).inside | skip
  ·have hbig:stpF N ((x.body.take k).flatMap itB) = stpF N (x.body.flatMap itB):=by
    conv=>rhs; rw [← List.take_append_drop k x.body,List.flatMap_append]
    rw [stpF_stop (by omega)]
   repeat refine kn rfl ?_
   refine k_region tok rfl (by kernel_rfl) ?_
   simp only [go_sem,simprocAttr,hgd,h,h2,h4]
   repeat refine kn rfl ?_
   refine k_cond_f rfl (by simp only [go_sem,simprocAttr]) ?_
   repeat refine kn rfl ?_
   refine k_exit_round rfl rfl rfl ?_
   repeat refine kn rfl ?_
   refine k_nil ?_
   refine ⟨rfl,?_⟩
   rw [hbig]
   refine AWk_kept ?_ ?_ ?_ ?_ <;> repeat' first | exact trivial | refine q0 ?_ | exact qb | exact q1 | exact q2 | exact q3 | exact rfl | refine And.intro ?_ ?_ | exact q4 | exact q5 | exact q6 | exact q7 | exact Inside.ptr _ _ _ (.inr ⟨rfl,rfl⟩) | exact q8 | exact q9 | exact qd | exact Tm.ins _ | exact Tm.inss _ _ | exact Am.ins _ | exact Am.inss _ _ | refine ins_buf_str ?_ | refine Tm.ins_buf ?_ | refine Am.ins_buf ?_ | exact qf
   all_goals first | exact (below_inss _).inside | skip
 ·have hk':k = x.body.length:=by omega
  subst hk'
  repeat refine kn rfl ?_
  refine k_region tok rfl (by kernel_rfl) ?_
  simp only [go_sem,simprocAttr,hgd,h,Nat.not_lt.2 h2]
  repeat refine kn rfl ?_
  refine k_cond_f rfl (by simp only [go_sem,simprocAttr]) ?_
  repeat refine kn rfl ?_
  refine k_exit_round rfl rfl rfl ?_
  repeat refine kn rfl ?_
  refine k_nil ?_
  refine ⟨rfl,?_⟩
  rw [List.take_length]
  refine AWk_kept ?_ ?_ ?_ ?_ <;> repeat' first | exact trivial | refine q0 ?_ | exact qb | exact q1 | exact q2 | exact q3 | exact rfl | refine And.intro ?_ ?_ | exact q4 | exact q5 | exact q6 | exact q7 | exact Inside.ptr _ _ _ (.inr ⟨rfl,rfl⟩) | exact q8 | exact q9 | exact qd | exact Tm.ins _ | exact Tm.inss _ _ | exact Am.ins _ | exact Am.inss _ _ | refine ins_buf_str ?_ | refine Tm.ins_buf ?_ | refine Am.ins_buf ?_ | exact qf
  all_goals first | exact (below_inss _).inside | skip
theorem z13 (I:List Ins):Pure Tryz.prog 13 [insV I] (.int .i64 (stpF 0 (I.flatMap itI))):=by
 intro n H
 refine a_fun tok (fun_of Tryz.func13 rfl rfl) (by simp) fun B=>?_
 repeat refine kn rfl ?_
 refine k_region tok rfl (by kernel_rfl) ?_
 simp only [go_sem,simprocAttr]
 repeat refine kn rfl ?_
 refine k_region tok rfl (by kernel_rfl) ?_
 simp only [go_sem,simprocAttr]
 repeat refine kn rfl ?_
 refine k_region tok rfl (by kernel_rfl) ?_
 simp only [go_sem,simprocAttr]
 refine k_cut ⟨[(3,.int .i64 (stpF 0 (I.flatMap itI))),(0,insV I)],[],H⟩ ?_ ?_
 ·repeat refine kn rfl ?_
  refine k_loop_ix (sz0 I H) I.length rfl ?_ ?_
  ·unfold sz0
   refine AWk_kept ?_ ?_ ?_ ?_ <;> repeat' first | exact trivial | refine q0 ?_ | exact qb | exact q1 | exact q2 | exact q3 | exact rfl | refine And.intro ?_ ?_ | exact q4 | exact q5 | exact q6 | exact q7 | exact Inside.ptr _ _ _ (.inr ⟨rfl,rfl⟩) | exact q8 | exact q9 | exact qd | exact Tm.ins _ | exact Tm.inss _ _ | exact Am.ins _ | exact Am.inss _ _ | refine ins_buf_str ?_ | refine Tm.ins_buf ?_ | refine Am.ins_buf ?_ | exact qf
   all_goals first | exact (below_inss _).inside | skip
  intro i hi
  refine k_st rfl ?_
  have hbd:=stpF_bd ((I.take i).flatMap itI) (n:=0) (fun p hp=>by obtain ⟨x,_,hp⟩:=List.mem_flatMap.1 hp; exact (it1 x p hp).1) (by omega) (by omega)
  rcases Nat.lt_or_ge i I.length with h | h
  ·have hsu:(I.take (i + 1)).flatMap itI = (I.take i).flatMap itI ++ itI I[i]:=flatMap_take itI I i h
   by_cases h4:stpF 0 ((I.take i).flatMap itI) ≤ 400
   ·have hle:=stpF_len ((I.take i).flatMap itI) (n:=0) (fun p hp=>by obtain ⟨x,_,hp⟩:=List.mem_flatMap.1 hp; exact it1 x p hp) (by omega) (by omega) h4
    have hil:i ≤ 400:=by
     have:=len_flat itI_pos (I.take i)
     have ht:=stpF_tot ((I.take i).flatMap itI) (n:=0) (fun p hp=>by obtain ⟨x,_,hp⟩:=List.mem_flatMap.1 hp; exact (it1 x p hp).1) (by omega) (by omega)
     have:=ht.1.1 h4
     rw [List.length_take_of_le hi] at *; omega
    have hgd:∀ d,(I.map Ins.enc).getD i d = I[i].enc:=fun d=>getD_map Ins.enc _ _ h d
    unfold sz0
    obtain ⟨x,hx⟩:∃ x,x = I[i]:=⟨_,rfl⟩
    rw [← hx] at hgd hsu
    rw [hsu,stpF_append]
    generalize stpF 0 ((I.take i).flatMap itI) = N0 at *
    have hw:IntKind.i64.wrap (400 - N0) = 400 - N0:=IntWalk.i64_in _ (by omega)
    repeat refine kn rfl ?_
    refine k_region tok rfl (by kernel_rfl) ?_
    simp only [go_sem,simprocAttr,h,h4]
    repeat refine kn rfl ?_
    refine k_cond_t rfl (by simp only [go_sem,simprocAttr]) ?_
    repeat refine kn rfl ?_
    refine k_region tok rfl (by kernel_rfl) ?_
    simp only [go_sem,simprocAttr,hgd,h,hw]
    refine callP (fun_of Tryz.func43 rfl rfl) (z43 x.tuple (400 - N0) (by omega) (by omega) (fun u hu m' h0' h1'=>z94 u m' h0' h1')) (by simp only [go_sem,simprocAttr,hw]) ?_
    simp only [go_sem,simprocAttr,hw]
    obtain ⟨N1,hN1⟩:∃ N1,N1 = stp N0 (1,Tm.sz.szs x.tuple):=⟨_,rfl⟩
    have hc:=cutN_bd (Tm.sz.szs x.tuple) (m:=400 - N0) (by omega)
    have hN1':N1 = N0 + (1 + cutN (Tm.sz.szs x.tuple) (400 - N0)):=by rw [hN1,stp,if_pos h4]; simp
    have hw1:IntKind.i64.wrap (1 + cutN (Tm.sz.szs x.tuple) (400 - N0)) = 1 + cutN (Tm.sz.szs x.tuple) (400 - N0):=IntWalk.i64_in _ (by omega)
    have hw2:IntKind.i64.wrap (N0 + (1 + cutN (Tm.sz.szs x.tuple) (400 - N0))) = N1:=by rw [← hN1']; exact IntWalk.i64_in _ (by omega)
    simp only [hw1,hw2]
    have hit:stpF N0 (itI x) = stpF (stpF N1 (x.heads.map hF)) (x.body.flatMap itB):=by
     unfold itI; rw [stpF_cons,← hN1,stpF_append]; rfl
    rw [hit]
    have hb1:0 ≤ N1 ∧ N1 ≤ 402:=by omega
    repeat refine kn rfl ?_
    refine k_region tok rfl (by kernel_rfl) ?_
    simp only [go_sem,simprocAttr]
    refine k_cut ⟨[(4,.int .i64 i),(3,.int .i64 (stpF N1 (x.heads.map hF))),(0,insV I)],[],H⟩ ?_ ?_
    ·rw [hx]
     refine k_weak ?_ (z13h n B I H i h N1 hb1)
     unfold sz1
     refine AWk_kept ?_ ?_ ?_ ?_ <;> repeat' first | exact trivial | refine q0 ?_ | exact qb | exact q1 | exact q2 | exact q3 | exact rfl | refine And.intro ?_ ?_ | exact q4 | exact q5 | exact q6 | exact q7 | exact Inside.ptr _ _ _ (.inr ⟨rfl,rfl⟩) | exact q8 | exact q9 | exact qd | exact Tm.ins _ | exact Tm.inss _ _ | exact Am.ins _ | exact Am.inss _ _ | refine ins_buf_str ?_ | refine Tm.ins_buf ?_ | refine Am.ins_buf ?_ | exact qf
     all_goals first | exact (below_inss _).inside | skip
    have hb2:=stpF_bd (x.heads.map hF) (n:=N1) (fun p hp=>by obtain ⟨a,_,rfl⟩:=List.mem_map.1 hp; simp [hF]) hb1.1 hb1.2
    generalize stpF N1 (x.heads.map hF) = N2 at *
    repeat refine kn rfl ?_
    refine k_region tok rfl (by kernel_rfl) ?_
    simp only [go_sem,simprocAttr]
    refine k_cut ⟨[(4,.int .i64 i),(3,.int .i64 (stpF N2 (x.body.flatMap itB))),(0,insV I)],[],H⟩ ?_ ?_
    ·rw [hx]
     refine k_weak ?_ (z13b n B I H i h N2 hb2)
     unfold sz2
     refine AWk_kept ?_ ?_ ?_ ?_ <;> repeat' first | exact trivial | refine q0 ?_ | exact qb | exact q1 | exact q2 | exact q3 | exact rfl | refine And.intro ?_ ?_ | exact q4 | exact q5 | exact q6 | exact q7 | exact Inside.ptr _ _ _ (.inr ⟨rfl,rfl⟩) | exact q8 | exact q9 | exact qd | exact Tm.ins _ | exact Tm.inss _ _ | exact Am.ins _ | exact Am.inss _ _ | refine ins_buf_str ?_ | refine Tm.ins_buf ?_ | refine Am.ins_buf ?_ | exact qf
     all_goals first | exact (below_inss _).inside | skip
    have hb3:=stpF_bd (x.body.flatMap itB) (n:=N2) (fun p hp=>(pFl pB _ p hp).1) hb2.1 hb2.2
    repeat refine kn rfl ?_
    refine k_region tok rfl (by kernel_rfl) ?_
    simp only [go_sem,simprocAttr]
    repeat refine kn rfl ?_
    refine k_nil ?_
    refine AWk_kept ?_ ?_ ?_ ?_ <;> repeat' first | exact trivial | refine q0 ?_ | exact qb | exact q1 | exact q2 | exact q3 | exact rfl | refine And.intro ?_ ?_ | exact q4 | exact q5 | exact q6 | exact q7 | exact Inside.ptr _ _ _ (.inr ⟨rfl,rfl⟩) | exact q8 | exact q9 | exact qd | exact Tm.ins _ | exact Tm.inss _ _ | exact Am.ins _ | exact Am.inss _ _ | refine ins_buf_str ?_ | refine Tm.ins_buf ?_ | refine Am.ins_buf ?_ | exact qf
    ·simp only [go_sem,simprocAttr]
     rw [IntWalk.i64_in _ (by omega)]; exact .refl _
    all_goals first | exact (below_inss _).inside | skip
   ·have hbig:stpF 0 ((I.take i).flatMap itI) = stpF 0 (I.flatMap itI):=by
     conv=>rhs; rw [← List.take_append_drop i I,List.flatMap_append]
     rw [stpF_stop (by omega)]
    unfold sz0
    repeat refine kn rfl ?_
    refine k_region tok rfl (by kernel_rfl) ?_
    simp only [go_sem,simprocAttr,h,h4]
    repeat refine kn rfl ?_
    refine k_cond_f rfl (by simp only [go_sem,simprocAttr]) ?_
    repeat refine kn rfl ?_
    refine k_exit_round rfl rfl rfl ?_
    repeat refine kn rfl ?_
    refine k_nil ?_
    refine ⟨rfl,?_⟩
    rw [hbig]
    refine AWk_kept ?_ ?_ ?_ ?_ <;> repeat' first | exact trivial | refine q0 ?_ | exact qb | exact q1 | exact q2 | exact q3 | exact rfl | refine And.intro ?_ ?_ | exact q4 | exact q5 | exact q6 | exact q7 | exact Inside.ptr _ _ _ (.inr ⟨rfl,rfl⟩) | exact q8 | exact q9 | exact qd | exact Tm.ins _ | exact Tm.inss _ _ | exact Am.ins _ | exact Am.inss _ _ | refine ins_buf_str ?_ | refine Tm.ins_buf ?_ | refine Am.ins_buf ?_ | exact qf
    all_goals first | exact (below_inss _).inside | skip
  ·have hi':i = I.length:=by omega
   subst hi'
   unfold sz0
   repeat refine kn rfl ?_
   refine k_region tok rfl (by kernel_rfl) ?_
   simp only [go_sem,simprocAttr,Nat.not_lt.2 h]
   repeat refine kn rfl ?_
   refine k_cond_f rfl (by simp only [go_sem,simprocAttr]) ?_
   repeat refine kn rfl ?_
   refine k_exit_round rfl rfl rfl ?_
   repeat refine kn rfl ?_
   refine k_nil ?_
   refine ⟨rfl,?_⟩
   rw [List.take_length]
   refine AWk_kept ?_ ?_ ?_ ?_ <;> repeat' first | exact trivial | refine q0 ?_ | exact qb | exact q1 | exact q2 | exact q3 | exact rfl | refine And.intro ?_ ?_ | exact q4 | exact q5 | exact q6 | exact q7 | exact Inside.ptr _ _ _ (.inr ⟨rfl,rfl⟩) | exact q8 | exact q9 | exact qd | exact Tm.ins _ | exact Tm.inss _ _ | exact Am.ins _ | exact Am.inss _ _ | refine ins_buf_str ?_ | refine Tm.ins_buf ?_ | refine Am.ins_buf ?_ | exact qf
   all_goals first | exact (below_inss _).inside | skip
 ·repeat refine kn rfl ?_
  refine k_region tok rfl (by kernel_rfl) ?_
  simp only [go_sem,simprocAttr]
  repeat refine kn rfl ?_
  refine k_ret rfl ?_
  exact post_one (.refl _) (.int _ _) rfl
def greatI (I:List Ins):Bool:=decide (30 < I.length) || decide (400 < totF (I.flatMap itI))
theorem size_gt (I:List Ins):decide ((400:Int) < stpF 0 (I.flatMap itI)) = decide (400 < totF (I.flatMap itI)):=by
 have h:=stpF_tot (I.flatMap itI) (n:=0) (fun p hp=>(pFl it1 I p hp).1) (by omega) (by omega)
 rw [Bool.eq_iff_iff,decide_eq_true_eq,decide_eq_true_eq]
 have h1:=h.1
 constructor
 ·intro h2
  rcases Nat.lt_or_ge 400 (totF (I.flatMap itI)) with h3 | h3
  ·exact h3
  ·have:=h1.2 (by omega); omega
 ·intro h2
  rcases Int.lt_or_le 400 (stpF 0 (I.flatMap itI)) with h3 | h3
  ·exact h3
  ·have:=h1.1 h3; omega
theorem z10 (I:List Ins):Pure Tryz.prog 10 [insV I] (.bool (greatI I)):=by
 intro n H
 have hg:=size_gt I
 refine a_fun tok (fun_of Tryz.func10 rfl rfl) (by simp) fun B=>?_
 repeat refine kn rfl ?_
 refine k_region tok rfl (by kernel_rfl) ?_
 simp only [go_sem,simprocAttr]
 cases h1:decide ((30:Int) < (I.length:Int)) with
 | true =>
  have hG:greatI I = true:=by unfold greatI; rw [decide_eq_true_eq] at h1; simp; omega
  repeat refine kn rfl ?_
  refine k_region tok rfl (by kernel_rfl) ?_
  simp only [go_sem,simprocAttr,h1]
  repeat refine kn rfl ?_
  refine k_ret rfl ?_
  refine post_one ?_ (.bool _) rfl
  simp only [go_sem,simprocAttr,hG]
  exact .refl _
 | false =>
  have hG:greatI I = decide (400 < totF (I.flatMap itI)):=by
   unfold greatI; rw [decide_eq_false_iff_not] at h1
   have:decide (30 < I.length) = false:=by rw [decide_eq_false_iff_not]; omega
   rw [this,Bool.false_or]
  repeat refine kn rfl ?_
  refine k_region tok rfl (by kernel_rfl) ?_
  simp only [go_sem,simprocAttr,h1]
  refine callP (fun_of Tryz.func13 rfl rfl) (z13 I) (by simp only [go_sem,simprocAttr,hg]) ?_
  simp only [go_sem,simprocAttr,hg]
  repeat refine kn rfl ?_
  refine k_ret rfl ?_
  refine post_one ?_ (.bool _) rfl
  simp only [go_sem,simprocAttr,hG]
  exact .refl _
end Go.Proofs.YthgbkalgmicniaaGreatDoor

/- Plain instances out of any: what the law builds. No program. -/
namespace Go.Proofs.YthgbkalgmicniaaGreatDoor
open Go.Abs
def skipI (x:Ins):Bool:=x.kind == 3 || (x.kind == 2 && x.heads.length == 0)
def plainB (l:List GB):List GB:=l.filter fun b=>!(b.kind == 3)
def plainX (x:Ins):Ins:=⟨x.kind,x.heads,-1,-1,plainB x.body,x.weight,x.level,x.tuple⟩
def plains (I:List Ins):List Ins:=(I.filter fun x=>!skipI x).map plainX
theorem plains_snoc (I:List Ins) (x:Ins):plains (I ++ [x]) = if skipI x = true then plains I else plains I ++ [plainX x]:=by
 unfold plains
 rw [List.filter_append]
 cases h:skipI x <;> simp [h]
theorem plainB_snoc (l:List GB) (b:GB):plainB (l ++ [b]) = if b.kind = 3 then plainB l else plainB l ++ [b]:=by
 unfold plainB
 rw [List.filter_append]
 by_cases h:b.kind = 3 <;> simp [h]
theorem plains_len (I:List Ins):(plains I).length ≤ I.length:=by unfold plains; rw [List.length_map]; exact List.length_filter_le _ _
theorem plainB_len (l:List GB):(plainB l).length ≤ l.length:=List.length_filter_le _ _
theorem totF_filter {α:Type} (f:α → List (Nat × Nat)) (q:α → Bool):∀ l:List α,totF ((l.filter q).flatMap f) ≤ totF (l.flatMap f)
 | []=>Nat.le_refl _
 | a :: l=>by
  have:=totF_filter f q l
  rw [List.filter_cons,List.flatMap_cons,totF_append]
  split
  ·rw [List.flatMap_cons,totF_append]; omega
  ·omega
theorem plainX_tot (x:Ins):totF (itI (plainX x)) ≤ totF (itI x):=by
 have:=totF_filter itB (fun b:GB=>!(b.kind == 3)) x.body
 unfold itI plainX plainB
 simp only [totF_cons,totF_append]; omega
theorem plains_tot (I:List Ins):totF ((plains I).flatMap itI) ≤ totF (I.flatMap itI):=by
 have h1:=totF_filter itI (fun x=>!skipI x) I
 have h2:∀ l:List Ins,totF ((l.map plainX).flatMap itI) ≤ totF (l.flatMap itI):=by
  intro l
  induction l with
  | nil=>exact Nat.le_refl _
  | cons x l ih =>
   have:=plainX_tot x
   rw [List.map_cons,List.flatMap_cons,List.flatMap_cons,totF_append,totF_append]; omega
 have:=h2 (I.filter fun x=>!skipI x)
 unfold plains; omega
theorem plains_mem {I:List Ins} {y:Ins} (h:y ∈ plains I):∃ x ∈ I,skipI x = false ∧ y = plainX x:=by
 obtain ⟨x,hx,rfl⟩:=List.mem_map.1 h
 obtain ⟨h1,h2⟩:=List.mem_filter.1 hx
 exact ⟨x,h1,by simpa using h2,rfl⟩
theorem plainX_nm {x:Ins} (h:InNm x):InNm (plainX x):=⟨h.h,fun b hb=>h.b b (List.mem_filter.1 hb).1,h.t⟩
theorem plain_nm {I:List Ins} (h:∀ x ∈ I,InNm x):∀ y ∈ plains I,InNm y:=fun y hy=>by
 obtain ⟨x,hx,_,rfl⟩:=plains_mem hy; exact plainX_nm (h x hx)
theorem plain_pln {I:List Ins} {y:Ins} (hy:y ∈ plains I) (hv:validI y = true):Pln y:=by
 obtain ⟨x,hx,hs,rfl⟩:=plains_mem hy
 have hb:=validI_bd hv
 have hk:=hb.1
 simp only [plainX] at hk
 simp only [skipI,Bool.or_eq_false_iff,Bool.and_eq_false_iff,beq_eq_false_iff_ne] at hs
 refine ⟨?_,rfl,rfl,fun b hbm=>?_⟩
 ·simp only [plainX]
  rcases hs.2 with h2 | h2
  ·exact .inl (by omega)
  ·by_cases h1:x.kind = 1
   ·exact .inl h1
   ·exact .inr ⟨by omega,fun e=>h2 (by rw [e]; rfl)⟩
 ·have hbb:=hb.2.2.2.2.2.2.2 b hbm
  obtain ⟨_,h3⟩:=List.mem_filter.1 hbm
  have h3:b.kind ≠ 3:=by simpa using h3
  unfold badB at hbb
  by_cases h1:b.kind = 1
  ·exact h1
  ·rw [if_neg h1,if_neg h3] at hbb; cases hbb
theorem plain_ok {I:List Ins} (hn:∀ x ∈ I,InNm x) (hs:totF (I.flatMap itI) ≤ 400) (hl:I.length ≤ 30) (hv:∀ y ∈ plains I,validI y = true):LOk (plains I):=by
 have ht:=plains_tot I
 have hpl:=plains_len I
 refine ⟨fun y hy=>insOk (plain_nm hn y hy) (k:=400) (Nat.le_refl _) (by have:=totF_flat (f:=itI) hy; omega) (hv y hy) fun b hb=>.inl ((plain_pln hy (hv y hy)).b b hb),?_,by omega,?_⟩
 ·have:=atIs_le (plains I); omega
 ·have h1:=costs_le (plains I)
  have h2:=atIs_le (plains I)
  have h3:=sorted_le (plains I)
  omega
end Go.Proofs.YthgbkalgmicniaaGreatDoor
