/- The law StoreKeeps. -/
import Derived.Test.YtpoegdhgdgbmaaaGreatDoorRM20
import Derived.Test.YtpoegdhgdgbmaaaGreatDoorRM19
import Derived.Test.YtpoegdhgdgbmaaaGreatDoorRM18
set_option linter.all false
namespace Go.Proofs.YtpoegdhgdgbmaaaGreatDoorR
open Go.Abs
set_option maxRecDepth 100000

/-- Adding to a store that isn't full, three ways. -/
theorem addT_three {s : Sto} (h : Ok s) (a : Am) (hl : s.A.length ≠ 2000) : (validA a = false ∧ addT s a = (s, false, 2)) ∨ (validA a = true ∧ s.A.any (eqA · a) = true ∧ addT s a = (s, false, 0)) ∨
    (validA a = true ∧ s.A.any (eqA · a) = false ∧ addT s a = (addS s a, true, 0)) := by
  unfold addT
  cases h1 : validA a with
  | false => exact .inl ⟨rfl, by simp⟩
  | true =>
    rw [h.has h1]
    cases h2 : s.A.any (eqA · a) with
    | true => exact .inr (.inl ⟨rfl, rfl, by simp⟩)
    | false => exact .inr (.inr ⟨rfl, rfl, by simp [hl]⟩)
theorem addL_len (l : List Am) (hg : GoodL l) : ∀ i, (addL sto0 (l.take i)).A.length ≤ i
  | 0 => by simp [addL, sto0]
  | i + 1 => by
    have ih := addL_len l hg i
    rcases Nat.lt_or_ge i l.length with h | h
    · rw [addL_take _ _ _ h]
      have e := (ok0.addL (l := l.take i) fun x hx => hg x (List.mem_of_mem_take hx)).addT_eq l[i]
      have e1 : (addT (addL sto0 (l.take i)) l[i]).1.A = (addR (addL sto0 (l.take i)).A l[i]).1 := congrArg Prod.fst e
      rw [e1]; unfold addR
      repeat' split
      all_goals first | (simp only [List.length_append, List.length_singleton]; omega) | (simp only []; omega)
    · rw [List.take_of_length_le (by omega)] at ih ⊢; omega

theorem with_all (l : List Am) (s : Sg) (v : Tm) : withR l s (-1) v = allR l s := List.filter_congr fun a _ => by
  simp only [withP, show decide ((-1 : Int) < 0) = true from rfl, Bool.true_or, Bool.and_true]
theorem with_find (l : List Am) (s : Sg) (c : Int) (v : Tm) (h0 : 0 ≤ c) (h1 : c < s.n) : withR l s c v = findR l s c v := List.filter_congr fun a _ => by
  simp only [withP, findP, decide_eq_true h0, decide_eq_true h1, Bool.and_true, show decide (c < 0) = false from decide_eq_false (by omega), Bool.false_or]

def st6 (n : Nat) (l : List Am) (H : AHeap) (i : Nat) : AState :=
  ⟨[(5, .int .i64 i), (4, .sl 2 ((addL sto0 (l.take i)).A.map Am.enc) (.buf (n + 1) 200)), (3, .ptr n 0 0), (0, .sl 2 (l.map Am.enc) .any)], [(200, .buf 25 2 (addL sto0 (l.take i)).A.length)], put (cutH n H) n 0 (addL sto0 (l.take i))⟩
def st6b (n : Nat) (s : Sto) (H : AHeap) (j : Nat) : AState :=
  ⟨[(9, .int .i64 j), (4, .sl 2 (s.A.map Am.enc) (.buf (n + 1) 200)), (3, .ptr n 0 0)], [(200, .buf 25 2 s.A.length)], put (cutH n H) n 0 s⟩
def st6c (n : Nat) (s : Sto) (a : Am) (H : AHeap) (j k : Nat) : AState :=
  ⟨[(13, .int .i64 k), (12, .ptr (n + 1) 12 0), (10, .ptr (n + 1) 10 0), (9, .int .i64 j), (4, .sl 2 (s.A.map Am.enc) (.buf (n + 1) 200)), (3, .ptr n 0 0)], [(10, .box a.cs), (12, .box a.sg.cs), (200, .buf 25 2 s.A.length)], put (cutH n H) n 0 s⟩

theorem PureT.wk {P : Program} {f : FuncId} {args args' : List AV} {r : AV} (h : PureT P f args' r) (hw : Wks args args') : PureT P f args r := fun n H hn hT => ACalls.wk (h n H hn hT) hw
theorem a25o (l : List Am) (a : Am) (o : Own) (hl : l.length ≤ 1000000) (hg : GoodL l) : Abs.Pure Tryz.prog 25 [.sl 2 (l.map Am.enc) o, a.enc] (.bool (l.any (eqA · a))) := Pure.wk (a25 l a hl hg) ⟨.any _ _ _, .refl _, trivial⟩
theorem a31o (l : List Am) (s : Sg) (c : Int) (v : Tm) (o : Own) (hl : l.length ≤ 1000000) (hg : GoodL l) (hcs : c < s.n) : PureT Tryz.prog 31 [.sl 2 (l.map Am.enc) o, s.enc, .int .i64 c, v.enc] (.sl 2 ((withR l s c v).map Am.enc) .any) :=
  PureT.wk (a31 l s c v hl hg hcs) ⟨.any _ _ _, .refl _, .refl _, .refl _, trivial⟩
theorem a31z (l : List Am) (s : Sg) (o : Own) (hl : l.length ≤ 1000000) (hg : GoodL l) (hcs : -1 < s.n) : PureT Tryz.prog 31 [.sl 2 (l.map Am.enc) o, s.enc, .int .i64 (-1), .agg [.int .u8 0, .int .i64 0, .str [], .sl 4 [] .full]] (.sl 2 ((allR l s).map Am.enc) .any) := by
  rw [← with_all l s ⟨0, 0, [], []⟩]
  exact PureT.wk (a31 l s (-1) ⟨0, 0, [], []⟩ hl hg hcs) ⟨.any _ _ _, .refl _, .refl _, .deep (.aggL ⟨.refl _, .refl _, .refl _, .nil _ _ _, trivial⟩), trivial⟩

theorem a6 (l : List Am) (hl : ∀ a ∈ l, NmA a) : PureT Tryz.prog 6 [.sl 2 (l.map Am.enc) .any] (.bool true) := by
  intro n H hn hT
  have hTc := hT.cut hn
  have hfr := FreeAt.cut n n H (Nat.le_refl _) 0
  refine PC.up 1 (.bool _) ?_
  refine a_fun tok (fun_of Tryz.func6 rfl rfl) (by simp) fun B => ?_
  repeat refine kn rfl ?_
  refine k_region tok rfl (by kernel_rfl) ?_
  simp only [go_sem, simprocAttr]
  repeat refine kn rfl ?_
  refine k_region tok rfl (by kernel_rfl) ?_
  simp only [go_sem, simprocAttr]
  refine callT (fun_of Tryz.func12 rfl rfl) a12 (Nat.succ_pos _) hTc (by simp only [go_sem, simprocAttr]) ?_
  simp only [go_sem, simprocAttr]
  repeat refine kn rfl ?_
  refine k_cond_f rfl (by simp only [go_sem, simprocAttr]) ?_
  repeat refine kn rfl ?_
  refine k_region tok rfl (by kernel_rfl) ?_
  simp only [go_sem, simprocAttr]
  refine callP (fun_of Tryz.func10 rfl rfl) (a10 l) (by simp only [go_sem, simprocAttr]) ?_
  simp only [go_sem, simprocAttr]
  cases h1 : great l with
  | true =>
    repeat refine kn rfl ?_
    refine k_cond_t rfl (by simp only [go_sem, simprocAttr]) ?_
    repeat refine kn rfl ?_
    refine k_region tok rfl (by kernel_rfl) ?_
    simp only [go_sem, simprocAttr]
    repeat refine kn rfl ?_
    refine k_ret rfl ?_
    exact post_oneQ (.refl _) (.bool _) ⟨rfl, fun l' k h => by simp only [cutH, if_pos h]⟩
  | false =>
  obtain ⟨hg, hlen, _⟩ := great_good h1 hl
  have hgt : ∀ i, GoodL (l.take i) := fun i x hx => hg x (List.mem_of_mem_take hx)
  have hok : ∀ i, Ok (addL sto0 (l.take i)) := fun i => ok0.addL (hgt i)
  have hok' : Ok (addL sto0 l) := ok0.addL hg
  repeat refine kn rfl ?_
  refine k_cond_f rfl (by simp only [go_sem, simprocAttr]) ?_
  repeat refine kn rfl ?_
  refine k_region tok rfl (by kernel_rfl) ?_
  simp only [go_sem, simprocAttr]
  refine call22 rfl n 0 (Nat.lt_succ_self n) hfr (by simp only [go_sem, simprocAttr]) ?_
  simp only [go_sem, simprocAttr]
  repeat refine kn rfl ?_
  refine k_region tok rfl (by kernel_rfl) ?_
  simp only [go_sem, simprocAttr]
  repeat refine kn rfl ?_
  refine k_region tok rfl (by kernel_rfl) ?_
  simp only [go_sem, simprocAttr]
  repeat refine kn rfl ?_
  have hpi : ∀ q, Inside (n + 1) q (.ptr n 0 0) := fun q => .ptr _ _ _ (.inl (Nat.lt_succ_self n))
  refine k_adopt 4 200 25 2 rfl rfl ?_
  refine k_loop_ix (st6 n l H) l.length rfl ?_ ?_
  · refine AWk_kept ?_ ?_ ?_ ?_ <;> repeat' first | exact trivial | refine q0 ?_ | exact qb | exact q1 | exact q2 | exact q3 | exact rfl | refine And.intro ?_ ?_ | exact q4 | exact q5 | exact q6 | exact q7 | exact Inside.ptr _ _ _ (.inr ⟨rfl, rfl⟩) | exact q8 | exact q9 | exact qd | exact Tm.ins _ | exact Tm.inss _ _ | exact Am.ins _ | exact Am.inss _ _ | refine ins_buf_str ?_ | refine Tm.ins_buf ?_ | refine Am.ins_buf ?_ | exact qf
    all_goals first | exact hpi _ | skip
  intro i hi
  refine k_st rfl ?_
  rcases Nat.lt_or_ge i l.length with h | h
  · have hgi := hg _ (List.getElem_mem h)
    have hoi := hok i
    have hA : (addL sto0 (l.take i)).A.length ≤ i := addL_len l hg i
    have hnx := addL_take sto0 l i h
    have hAl : (addL sto0 (l.take i)).A.length ≤ 1000000 := by omega
    repeat refine kn rfl ?_
    refine k_region tok rfl (by kernel_rfl) ?_
    simp only [go_sem, simprocAttr, h]
    repeat refine kn rfl ?_
    refine k_cond_t rfl (by simp only [go_sem, simprocAttr]) ?_
    repeat refine kn rfl ?_
    refine k_region tok rfl (by kernel_rfl) ?_
    simp only [go_sem, simprocAttr, Am.getD_enc _ _ h, h]
    refine call23 rfl n 0 _ l[i] rfl (Nat.lt_succ_self n) hfr hoi.fit hgi (Nat.succ_pos _) hTc (by simp only [go_sem, simprocAttr]) ?_
    simp only [go_sem, simprocAttr]
    have hTp := hTc.put hfr (addT (addL sto0 (l.take i)) l[i]).1
    have hst := HasSto.put (cutH n H) n 0 (addT (addL sto0 (l.take i)) l[i]).1
    have hos := hoi.addT hgi
    rcases addT_three hoi l[i] (by omega) with ⟨hv, e⟩ | ⟨hv, hy, e⟩ | ⟨hv, hy, e⟩
    · rw [e] at hnx hTp hst hos ⊢
      repeat refine kn rfl ?_
      refine k_region tok rfl (by kernel_rfl) ?_
      simp only [go_sem, simprocAttr, Am.getD_enc _ _ h, h]
      refine callT (fun_of Tryz.func14 rfl rfl) (a14 l[i] hgi) (Nat.succ_pos _) hTp (by simp only [go_sem, simprocAttr]) ?_
      simp only [go_sem, simprocAttr, hv]
      repeat refine kn rfl ?_
      refine k_draw tok mixed drawO rfl rfl (by kernel_rfl) (by kernel_rfl) ?_
      simp only [go_sem, simprocAttr, eInt, Am.getD_enc _ _ h, h]
      refine callT (fun_of Tryz.func14 rfl rfl) (a14 l[i] hgi) (Nat.succ_pos _) hTp (by simp only [go_sem, simprocAttr]) ?_
      simp only [go_sem, simprocAttr, hv, Am.getD_enc _ _ h, h]
      refine callH (fun_of Tryz.func26 rfl rfl) (a26 (n + 1 + 1) _ n 0 _ l[i] (by omega) (hst.full (Nat.lt_succ_self n) _) hgi (Nat.succ_pos _) (hTp.full (Nat.succ_pos _))) (by simp only [go_sem, simprocAttr]) ?_
      simp only [go_sem, simprocAttr, hv, Am.getD_enc _ _ h, h]
      refine callT (fun_of Tryz.func14 rfl rfl) (a14 l[i] hgi) (Nat.succ_pos _) hTp (by simp only [go_sem, simprocAttr]) ?_
      simp only [go_sem, simprocAttr, hv]
      repeat refine kn rfl ?_
      refine k_cond_f rfl (by simp only [go_sem, simprocAttr]) ?_
      repeat refine kn rfl ?_
      refine k_region tok rfl (by kernel_rfl) ?_
      simp only [go_sem, simprocAttr]
      repeat refine kn rfl ?_
      refine k_cond_f rfl (by simp only [go_sem, simprocAttr]) ?_
      repeat refine kn rfl ?_
      refine k_region tok rfl (by kernel_rfl) ?_
      simp only [go_sem, simprocAttr]
      have hnx' : addL sto0 (l.take (i + 1)) = addL sto0 (l.take i) := hnx
      repeat refine kn rfl ?_
      refine k_nil ?_
      simp only [st6, hnx']
      refine AWk_kept ?_ ?_ ?_ ?_ <;> repeat' first | exact trivial | refine q0 ?_ | exact qb | exact q1 | exact q2 | exact q3 | exact rfl | refine And.intro ?_ ?_ | exact q4 | exact q5 | exact q6 | exact q7 | exact Inside.ptr _ _ _ (.inr ⟨rfl, rfl⟩) | exact q8 | exact q9 | exact qd | exact Tm.ins _ | exact Tm.inss _ _ | exact Am.ins _ | exact Am.inss _ _ | refine ins_buf_str ?_ | refine Tm.ins_buf ?_ | refine Am.ins_buf ?_ | exact qf
      all_goals first | exact hpi _ | skip
      simp only [go_sem, simprocAttr]
      rw [IntWalk.i64_in _ (by omega)]; exact .refl _
    · rw [e] at hnx hTp hst hos ⊢
      repeat refine kn rfl ?_
      refine k_region tok rfl (by kernel_rfl) ?_
      simp only [go_sem, simprocAttr, Am.getD_enc _ _ h, h]
      refine callT (fun_of Tryz.func14 rfl rfl) (a14 l[i] hgi) (Nat.succ_pos _) hTp (by simp only [go_sem, simprocAttr]) ?_
      simp only [go_sem, simprocAttr, hv, Am.getD_enc _ _ h, h]
      refine callP (fun_of Tryz.func25 rfl rfl) (a25o _ l[i] (.buf (n + 1) 200) hAl hoi.g) (by simp only [go_sem, simprocAttr]) ?_
      simp only [go_sem, simprocAttr, hy]
      repeat refine kn rfl ?_
      refine k_draw tok mixed drawO rfl rfl (by kernel_rfl) (by kernel_rfl) ?_
      simp only [go_sem, simprocAttr, eInt, Am.getD_enc _ _ h, h]
      refine callT (fun_of Tryz.func14 rfl rfl) (a14 l[i] hgi) (Nat.succ_pos _) hTp (by simp only [go_sem, simprocAttr]) ?_
      simp only [go_sem, simprocAttr, hv, Am.getD_enc _ _ h, h]
      refine callH (fun_of Tryz.func26 rfl rfl) (a26 (n + 1 + 1) _ n 0 _ l[i] (by omega) (hst.full (Nat.lt_succ_self n) _) hgi (Nat.succ_pos _) (hTp.full (Nat.succ_pos _))) (by simp only [go_sem, simprocAttr]) ?_
      rw [hoi.has', hy]
      simp only [go_sem, simprocAttr, Am.getD_enc _ _ h, h]
      refine callT (fun_of Tryz.func14 rfl rfl) (a14 l[i] hgi) (Nat.succ_pos _) hTp (by simp only [go_sem, simprocAttr]) ?_
      simp only [go_sem, simprocAttr, hv]
      repeat refine kn rfl ?_
      refine k_cond_f rfl (by simp only [go_sem, simprocAttr]) ?_
      repeat refine kn rfl ?_
      refine k_region tok rfl (by kernel_rfl) ?_
      simp only [go_sem, simprocAttr]
      repeat refine kn rfl ?_
      refine k_cond_f rfl (by simp only [go_sem, simprocAttr]) ?_
      repeat refine kn rfl ?_
      refine k_region tok rfl (by kernel_rfl) ?_
      simp only [go_sem, simprocAttr]
      have hnx' : addL sto0 (l.take (i + 1)) = addL sto0 (l.take i) := hnx
      repeat refine kn rfl ?_
      refine k_nil ?_
      simp only [st6, hnx']
      refine AWk_kept ?_ ?_ ?_ ?_ <;> repeat' first | exact trivial | refine q0 ?_ | exact qb | exact q1 | exact q2 | exact q3 | exact rfl | refine And.intro ?_ ?_ | exact q4 | exact q5 | exact q6 | exact q7 | exact Inside.ptr _ _ _ (.inr ⟨rfl, rfl⟩) | exact q8 | exact q9 | exact qd | exact Tm.ins _ | exact Tm.inss _ _ | exact Am.ins _ | exact Am.inss _ _ | refine ins_buf_str ?_ | refine Tm.ins_buf ?_ | refine Am.ins_buf ?_ | exact qf
      all_goals first | exact hpi _ | skip
      simp only [go_sem, simprocAttr]
      rw [IntWalk.i64_in _ (by omega)]; exact .refl _
    · rw [e] at hnx hTp hst hos ⊢
      have hA' : (addL sto0 (l.take (i + 1))).A = (addL sto0 (l.take i)).A ++ [l[i]] := by rw [hnx]; rfl
      rw [← hnx] at hTp hst hos ⊢
      repeat refine kn rfl ?_
      refine k_region tok rfl (by kernel_rfl) ?_
      simp only [go_sem, simprocAttr, Am.getD_enc _ _ h, h]
      refine callT (fun_of Tryz.func14 rfl rfl) (a14 l[i] hgi) (Nat.succ_pos _) hTp (by simp only [go_sem, simprocAttr]) ?_
      simp only [go_sem, simprocAttr, hv, Am.getD_enc _ _ h, h]
      refine callP (fun_of Tryz.func25 rfl rfl) (a25o _ l[i] (.buf (n + 1) 200) hAl hoi.g) (by simp only [go_sem, simprocAttr]) ?_
      simp only [go_sem, simprocAttr, hy]
      repeat refine kn rfl ?_
      refine k_draw tok mixed drawO rfl rfl (by kernel_rfl) (by kernel_rfl) ?_
      simp only [go_sem, simprocAttr, eInt, Am.getD_enc _ _ h, h]
      refine callT (fun_of Tryz.func14 rfl rfl) (a14 l[i] hgi) (Nat.succ_pos _) hTp (by simp only [go_sem, simprocAttr]) ?_
      simp only [go_sem, simprocAttr, hv]
      repeat refine kn rfl ?_
      refine k_cond_f rfl (by simp only [go_sem, simprocAttr]) ?_
      repeat refine kn rfl ?_
      refine k_region tok rfl (by kernel_rfl) ?_
      simp only [go_sem, simprocAttr]
      repeat refine kn rfl ?_
      refine k_cond_t rfl (by simp only [go_sem, simprocAttr]) ?_
      repeat refine kn rfl ?_
      refine k_region tok rfl (by kernel_rfl) ?_
      simp only [go_sem, simprocAttr, Am.getD_enc _ _ h, h]
      refine ⟨by first | exact ⟨rfl, by decide⟩ | exact rfl, ⟨le_maxLen (by omega), by omega⟩, ?_⟩
      repeat refine kn rfl ?_
      refine k_region tok rfl (by kernel_rfl) ?_
      simp only [go_sem, simprocAttr]
      repeat refine kn rfl ?_
      refine k_nil ?_
      refine AWk_kept ?_ ?_ ?_ ?_ <;> repeat' first | exact trivial | refine q0 ?_ | exact qb | exact q1 | exact q2 | exact q3 | exact rfl | refine And.intro ?_ ?_ | exact q4 | exact q5 | exact q6 | exact q7 | exact Inside.ptr _ _ _ (.inr ⟨rfl, rfl⟩) | exact q8 | exact q9 | exact qd | exact Tm.ins _ | exact Tm.inss _ _ | exact Am.ins _ | exact Am.inss _ _ | refine ins_buf_str ?_ | refine Tm.ins_buf ?_ | refine Am.ins_buf ?_ | exact qf
      all_goals first | exact hpi _ | skip
      · simp only [go_sem, simprocAttr]
        rw [IntWalk.i64_in _ (by omega)]; exact .refl _
      · simp only [go_sem, simprocAttr, hA', List.map_append]
        exact .refl _
      · simp only [go_sem, simprocAttr, hA', List.length_append]
  · repeat refine kn rfl ?_
    refine k_region tok rfl (by kernel_rfl) ?_
    simp only [go_sem, simprocAttr, Nat.not_lt.2 h]
    repeat refine kn rfl ?_
    refine k_cond_f rfl (by simp only [go_sem, simprocAttr]) ?_
    repeat refine kn rfl ?_
    refine k_exit_round rfl rfl rfl ?_
    have hi' : i = l.length := by omega
    subst hi'
    rw [List.take_length]
    have hAl : (addL sto0 l).A.length ≤ 1000000 := by have := hok'.A; omega
    generalize addL sto0 l = s at *
    have hTp := hTc.put hfr s
    have hst := HasSto.put (cutH n H) n 0 s
    repeat refine kn rfl ?_
    refine k_region tok rfl (by kernel_rfl) ?_
    simp only [go_sem, simprocAttr]
    refine callH (fun_of Tryz.func24 rfl rfl) (a24 (n + 1 + 1) _ n 0 s (by omega) (hst.full (Nat.lt_succ_self n) _)) (by simp only [go_sem, simprocAttr]) ?_
    simp only [go_sem, simprocAttr, bne_self_eq_false]
    repeat refine kn rfl ?_
    refine k_cond_f rfl (by simp only [go_sem, simprocAttr]) ?_
    repeat refine kn rfl ?_
    refine k_region tok rfl (by kernel_rfl) ?_
    simp only [go_sem, simprocAttr]
    repeat refine kn rfl ?_
    refine k_loop_ix (st6b n s H) s.A.length rfl ?_ ?_
    · refine AWk_kept ?_ ?_ ?_ ?_ <;> repeat' first | exact trivial | refine q0 ?_ | exact qb | exact q1 | exact q2 | exact q3 | exact rfl | refine And.intro ?_ ?_ | exact q4 | exact q5 | exact q6 | exact q7 | exact Inside.ptr _ _ _ (.inr ⟨rfl, rfl⟩) | exact q8 | exact q9 | exact qd | exact Tm.ins _ | exact Tm.inss _ _ | exact Am.ins _ | exact Am.inss _ _ | refine ins_buf_str ?_ | refine Tm.ins_buf ?_ | refine Am.ins_buf ?_ | exact qf
      all_goals first | exact hpi _ | skip
    intro j hj
    refine k_st rfl ?_
    rcases Nat.lt_or_ge j s.A.length with h | h
    · have hgj := hok'.g _ (List.getElem_mem h)
      have hix := hok'.ixS s.A[j].sg
      have hv := hok'.v _ (List.getElem_mem h)
      have hvl := validA_len hv
      have hmem : s.A.any (eqA · s.A[j]) = true := List.any_eq_true.2 ⟨_, List.getElem_mem h, eqA_self _⟩
      have hfl : (allR s.A s.A[j].sg).length ≤ 1000000 := Nat.le_trans (List.length_filter_le _ _) hAl
      repeat refine kn rfl ?_
      refine k_region tok rfl (by kernel_rfl) ?_
      simp only [go_sem, simprocAttr, h]
      repeat refine kn rfl ?_
      refine k_cond_t rfl (by simp only [go_sem, simprocAttr]) ?_
      repeat refine kn rfl ?_
      refine k_region tok rfl (by kernel_rfl) ?_
      simp only [go_sem, simprocAttr]
      refine callH (fun_of Tryz.func27 rfl rfl) (a27 (n + 1 + 1) _ n 0 s j (by omega) (hst.full (Nat.lt_succ_self n) _) hok'.g (Nat.succ_pos _) (hTp.full (Nat.succ_pos _))) (by simp only [go_sem, simprocAttr]) ?_
      rw [atR_in h]
      simp only [go_sem, simprocAttr]
      repeat refine kn rfl ?_
      refine k_draw tok mixed drawO rfl rfl (by kernel_rfl) (by kernel_rfl) ?_
      simp only [go_sem, simprocAttr, Am.getD_enc _ _ h, h, bne_self_eq_false]
      refine callP (fun_of Tryz.func28 rfl rfl) (a28 s.A[j] s.A[j] hgj) (by simp only [go_sem, simprocAttr, eqA_self, Bool.not_true]) ?_
      simp only [go_sem, simprocAttr, eqA_self, Bool.not_true]
      simp only [go_sem, simprocAttr, Am.getD_enc _ _ h, h]
      refine callH (fun_of Tryz.func26 rfl rfl) (a26 (n + 1 + 1) _ n 0 _ s.A[j] (by omega) (hst.full (Nat.lt_succ_self n) _) hgj (Nat.succ_pos _) (hTp.full (Nat.succ_pos _))) (by simp only [go_sem, simprocAttr]) ?_
      rw [hok'.has', hmem]
      simp only [go_sem, simprocAttr]
      repeat refine kn rfl ?_
      refine k_cond_f rfl (by simp only [go_sem, simprocAttr]) ?_
      repeat refine kn rfl ?_
      refine k_region tok rfl (by kernel_rfl) ?_
      simp only [go_sem, simprocAttr]
      repeat refine kn rfl ?_
      refine k_draw tok mixed drawO rfl rfl (by kernel_rfl) (by kernel_rfl) ?_
      simp only [go_sem, simprocAttr]
      refine callH (fun_of Tryz.func30 rfl rfl) (a30 (n + 1 + 1) _ n 0 s s.A[j].sg (by omega) (hst.full (Nat.lt_succ_self n) _) hok'.g (Nat.succ_pos _) (hTp.full (Nat.succ_pos _)) hix.1 hix.2) (by simp only [go_sem, simprocAttr, Am.sg]) ?_
      rw [hok'.all]
      simp only [go_sem, simprocAttr]
      refine callT (fun_of Tryz.func31 rfl rfl) (a31z s.A s.A[j].sg (.buf (n + 1) 200) hAl hok'.g (by simp only [Am.sg]; omega)) (Nat.succ_pos _) hTp (by simp only [go_sem, simprocAttr, Am.sg]) ?_
      simp only [go_sem, simprocAttr]
      refine callP (fun_of Tryz.func29 rfl rfl) (a29 (allR s.A s.A[j].sg) (allR s.A s.A[j].sg) hfl (filter_good hok'.g)) (by simp only [go_sem, simprocAttr, eqLA_self, Bool.not_true]) ?_
      simp only [go_sem, simprocAttr, eqLA_self, Bool.not_true]
      repeat refine kn rfl ?_
      refine k_cond_f rfl (by simp only [go_sem, simprocAttr]) ?_
      repeat refine kn rfl ?_
      refine k_region tok rfl (by kernel_rfl) ?_
      simp only [go_sem, simprocAttr]
      repeat refine kn rfl ?_
      refine k_loop_ix (st6c n s s.A[j] H j) s.A[j].args.length rfl ?_ ?_
      · refine AWk_kept ?_ ?_ ?_ ?_ <;> repeat' first | exact trivial | refine q0 ?_ | exact qb | exact q1 | exact q2 | exact q3 | exact rfl | refine And.intro ?_ ?_ | exact q4 | exact q5 | exact q6 | exact q7 | exact Inside.ptr _ _ _ (.inr ⟨rfl, rfl⟩) | exact q8 | exact q9 | exact qd | exact Tm.ins _ | exact Tm.inss _ _ | exact Am.ins _ | exact Am.inss _ _ | refine ins_buf_str ?_ | refine Tm.ins_buf ?_ | refine Am.ins_buf ?_ | exact qf
        all_goals first | exact hpi _ | skip
      intro k hk
      refine k_st rfl ?_
      rcases Nat.lt_or_ge k s.A[j].args.length with h' | h'
      · have hix := hok'.ixR (⟨s.A[j].sg, k, txt s.A[j].args[k]⟩ : Ak)
        have hfd : (findR s.A s.A[j].sg k s.A[j].args[k]).length ≤ 1000000 := Nat.le_trans (List.length_filter_le _ _) hAl
        repeat refine kn rfl ?_
        refine k_region tok rfl (by kernel_rfl) ?_
        simp only [go_sem, simprocAttr, h']
        repeat refine kn rfl ?_
        refine k_cond_t rfl (by simp only [go_sem, simprocAttr]) ?_
        repeat refine kn rfl ?_
        refine k_draw tok mixed drawO rfl rfl (by kernel_rfl) (by kernel_rfl) ?_
        simp only [go_sem, simprocAttr, Tm.getD_enc _ _ h', h']
        refine callH (fun_of Tryz.func32 rfl rfl) (a32 (n + 1 + 1) _ n 0 s s.A[j].sg k s.A[j].args[k] (hgj.arg (List.getElem_mem h')) (by omega) (hst.full (Nat.lt_succ_self n) _) hok'.g (Nat.succ_pos _) (hTp.full (Nat.succ_pos _)) hix.1 hix.2) (by simp only [go_sem, simprocAttr, Am.sg]) ?_
        rw [hok'.find']
        simp only [go_sem, simprocAttr, Tm.getD_enc _ _ h', h']
        refine callT (fun_of Tryz.func31 rfl rfl) (a31o s.A s.A[j].sg k s.A[j].args[k] (.buf (n + 1) 200) hAl hok'.g (by simp only [Am.sg]; omega)) (Nat.succ_pos _) hTp (by simp only [go_sem, simprocAttr, Am.sg]) ?_
        rw [with_find _ _ _ _ (by omega) (by simp only [Am.sg]; omega)]
        simp only [go_sem, simprocAttr]
        refine callP (fun_of Tryz.func29 rfl rfl) (a29 (findR s.A s.A[j].sg k s.A[j].args[k]) (findR s.A s.A[j].sg k s.A[j].args[k]) hfd (filter_good hok'.g)) (by simp only [go_sem, simprocAttr, eqLA_self, Bool.not_true]) ?_
        simp only [go_sem, simprocAttr, eqLA_self, Bool.not_true]
        repeat refine kn rfl ?_
        refine k_cond_f rfl (by simp only [go_sem, simprocAttr]) ?_
        repeat refine kn rfl ?_
        refine k_region tok rfl (by kernel_rfl) ?_
        simp only [go_sem, simprocAttr]
        repeat refine kn rfl ?_
        refine k_nil ?_
        refine AWk_kept ?_ ?_ ?_ ?_ <;> repeat' first | exact trivial | refine q0 ?_ | exact qb | exact q1 | exact q2 | exact q3 | exact rfl | refine And.intro ?_ ?_ | exact q4 | exact q5 | exact q6 | exact q7 | exact Inside.ptr _ _ _ (.inr ⟨rfl, rfl⟩) | exact q8 | exact q9 | exact qd | exact Tm.ins _ | exact Tm.inss _ _ | exact Am.ins _ | exact Am.inss _ _ | refine ins_buf_str ?_ | refine Tm.ins_buf ?_ | refine Am.ins_buf ?_ | exact qf
        all_goals first | exact hpi _ | skip
        simp only [go_sem, simprocAttr]
        rw [IntWalk.i64_in _ (by omega)]; exact .refl _
      · repeat refine kn rfl ?_
        refine k_region tok rfl (by kernel_rfl) ?_
        simp only [go_sem, simprocAttr, Nat.not_lt.2 h']
        repeat refine kn rfl ?_
        refine k_cond_f rfl (by simp only [go_sem, simprocAttr]) ?_
        repeat refine kn rfl ?_
        refine k_exit_round rfl rfl rfl ?_
        repeat refine kn rfl ?_
        refine k_region tok rfl (by kernel_rfl) ?_
        simp only [go_sem, simprocAttr]
        repeat refine kn rfl ?_
        refine k_nil ?_
        refine AWk_kept ?_ ?_ ?_ ?_ <;> repeat' first | exact trivial | refine q0 ?_ | exact qb | exact q1 | exact q2 | exact q3 | exact rfl | refine And.intro ?_ ?_ | exact q4 | exact q5 | exact q6 | exact q7 | exact Inside.ptr _ _ _ (.inr ⟨rfl, rfl⟩) | exact q8 | exact q9 | exact qd | exact Tm.ins _ | exact Tm.inss _ _ | exact Am.ins _ | exact Am.inss _ _ | refine ins_buf_str ?_ | refine Tm.ins_buf ?_ | refine Am.ins_buf ?_ | exact qf
        all_goals first | exact hpi _ | skip
        simp only [go_sem, simprocAttr]
        rw [IntWalk.i64_in _ (by omega)]; exact .refl _
    · repeat refine kn rfl ?_
      refine k_region tok rfl (by kernel_rfl) ?_
      simp only [go_sem, simprocAttr, Nat.not_lt.2 h]
      repeat refine kn rfl ?_
      refine k_cond_f rfl (by simp only [go_sem, simprocAttr]) ?_
      repeat refine kn rfl ?_
      refine k_exit_round rfl rfl rfl ?_
      repeat refine kn rfl ?_
      refine k_region tok rfl (by kernel_rfl) ?_
      simp only [go_sem, simprocAttr]
      repeat refine kn rfl ?_
      refine k_ret rfl ?_
      exact post_oneQ (.refl _) (.bool _) ⟨rfl, put_cut (Nat.le_refl n)⟩
end Go.Proofs.YtpoegdhgdgbmaaaGreatDoorR

/- The law StoreSorts. -/
namespace Go.Proofs.YtpoegdhgdgbmaaaGreatDoorR
open Go.Abs
set_option maxRecDepth 100000

theorem cmpA_anti {a b : Am} (ha : a.Good) (hb : b.Good) : cmpA b a = -cmpA a b := by
  rw [cmpA_lex ha.nm hb.nm, cmpA_lex hb.nm ha.nm]; exact lexI_anti _ _
theorem cmpA_trans {a b c : Am} (ha : a.Good) (hb : b.Good) (hc : c.Good) (h : cmpA a b < 0) (h' : cmpA b c < 0) : cmpA a c < 0 := by
  rw [cmpA_lex ha.nm hb.nm] at h; rw [cmpA_lex hb.nm hc.nm] at h'; rw [cmpA_lex ha.nm hc.nm]; exact lexI_trans' h h'
theorem cmpA_val {a b : Am} (ha : a.Good) (hb : b.Good) : cmpA a b = -1 ∨ cmpA a b = 0 ∨ cmpA a b = 1 := by
  rw [cmpA_lex ha.nm hb.nm]; exact lexI_val _ _
theorem cmpA_self {a : Am} (ha : a.Good) : cmpA a a = 0 := by
  rw [cmpA_lex ha.nm ha.nm]; exact lexI_self _
theorem cmpA_eq {a b : Am} (ha : a.Good) (hb : b.Good) : (cmpA a b == 0) = eqA a b := by
  rw [Bool.eq_iff_iff, beq_iff_eq, eqA_iff]
  exact ⟨cmpA_zero ha.nm hb.nm, fun h => by subst h; exact cmpA_self ha⟩

theorem sortA_step {A : List Am} (hg : GoodL A) (hnd : A.Nodup) (i : Nat) (h : i + 1 < (sortB ltA A).length) : cmpA (sortB ltA A)[i] (sortB ltA A)[i + 1] = -1 := by
  have hp := sortB_perm ltA A
  have hgo : ∀ x ∈ sortB ltA A, x.Good := fun x hx => hg x (hp.mem_iff.1 hx)
  have h1 := hgo _ (List.getElem_mem (show i < (sortB ltA A).length by omega))
  have h2 := hgo _ (List.getElem_mem h)
  have hasc : Asc ltA (sortB ltA A) := sortB_asc swoA hg
  have hnd' : (sortB ltA A).Nodup := hp.nodup_iff.2 hnd
  have hlt := List.pairwise_iff_getElem.1 hasc i (i + 1) (by omega) h (by omega)
  have hne := List.pairwise_iff_getElem.1 (List.nodup_iff_pairwise_ne.1 hnd') i (i + 1) (by omega) h (by omega)
  have h3 : cmpA (sortB ltA A)[i] (sortB ltA A)[i + 1] ≠ 0 := fun h0 => hne (cmpA_zero h1.nm h2.nm h0)
  have h4 := cmpA_anti h1 h2
  simp only [ltA, decide_eq_false_iff_not] at hlt
  rcases cmpA_val h1 h2 with h5 | h5 | h5
  · exact h5
  · exact absurd h5 h3
  · omega

def st7 (n : Nat) (l : List Am) (a b c : Am) (H : AHeap) (i : Nat) : AState :=
  ⟨[(10, .int .i64 i), (9, .ptr n 0 0), (0, .sl 2 (l.map Am.enc) .any), (5, .ptr (n + 1) 5 0), (6, .ptr (n + 1) 6 0), (7, .ptr (n + 1) 7 0)], [(5, .box a.cs), (6, .box b.cs), (7, .box c.cs)], put (cutH n H) n 0 (addL sto0 (l.take i))⟩
def st7b (n : Nat) (s : Sto) (o : List Am) (a b c : Am) (H : AHeap) (i : Nat) : AState :=
  ⟨[(12, .int .i64 i), (11, .sl 2 (o.map Am.enc) .any), (9, .ptr n 0 0), (5, .ptr (n + 1) 5 0), (6, .ptr (n + 1) 6 0), (7, .ptr (n + 1) 7 0)], [(5, .box a.cs), (6, .box b.cs), (7, .box c.cs)], put (cutH n H) n 0 s⟩

theorem a7 (l : List Am) (a b c : Am) (hl : ∀ a ∈ l, NmA a) (ha : NmA a) (hb : NmA b) (hc : NmA c) : PureT Tryz.prog 7 [.sl 2 (l.map Am.enc) .any, a.enc, b.enc, c.enc] (.bool true) := by
  intro n H hn hT
  have hTc := hT.cut hn
  have hfr := FreeAt.cut n n H (Nat.le_refl _) 0
  refine PC.up 1 (.bool _) ?_
  refine a_fun tok (fun_of Tryz.func7 rfl rfl) (by simp) fun B => ?_
  repeat refine kn rfl ?_
  refine k_region tok rfl (by kernel_rfl) ?_
  simp only [go_sem, simprocAttr]
  repeat refine kn rfl ?_
  refine k_region tok rfl (by kernel_rfl) ?_
  simp only [go_sem, simprocAttr]
  refine callT (fun_of Tryz.func12 rfl rfl) a12 (Nat.succ_pos _) hTc (by simp only [go_sem, simprocAttr]) ?_
  simp only [go_sem, simprocAttr]
  repeat refine kn rfl ?_
  refine k_cond_f rfl (by simp only [go_sem, simprocAttr]) ?_
  repeat refine kn rfl ?_
  refine k_region tok rfl (by kernel_rfl) ?_
  simp only [go_sem, simprocAttr]
  refine callP (fun_of Tryz.func10 rfl rfl) (a10 l) (by simp only [go_sem, simprocAttr]) ?_
  simp only [go_sem, simprocAttr]
  cases h1 : great l with
  | true =>
    simp only [go_sem, simprocAttr, h1]
    repeat refine kn rfl ?_
    refine k_cond_t rfl (by simp only [go_sem, simprocAttr]) ?_
    repeat refine kn rfl ?_
    refine k_region tok rfl (by kernel_rfl) ?_
    simp only [go_sem, simprocAttr]
    repeat refine kn rfl ?_
    refine k_ret rfl ?_
    exact post_oneQ (.refl _) (.bool _) ⟨rfl, fun l' k h => by simp only [cutH, if_pos h]⟩
  | false =>
  obtain ⟨hg, hlen, _⟩ := great_good h1 hl
  simp only [go_sem, simprocAttr, h1]
  refine ⟨by decide, ?_⟩
  refine callP (fun_of Tryz.func10 rfl rfl) (a10o [a, b, c] .full) (by simp only [go_sem, simprocAttr]) ?_
  simp only [go_sem, simprocAttr]
  cases h2 : great [a, b, c] with
  | true =>
    repeat refine kn rfl ?_
    refine k_cond_t rfl (by simp only [go_sem, simprocAttr]) ?_
    repeat refine kn rfl ?_
    refine k_region tok rfl (by kernel_rfl) ?_
    simp only [go_sem, simprocAttr]
    repeat refine kn rfl ?_
    refine k_ret rfl ?_
    exact post_oneQ (.refl _) (.bool _) ⟨rfl, fun l' k h => by simp only [cutH, if_pos h]⟩
  | false =>
  obtain ⟨hg3, _, _⟩ := great_good h2 (by simpa using ⟨ha, hb, hc⟩)
  have hga : a.Good := hg3 a (by simp)
  have hgb : b.Good := hg3 b (by simp)
  have hgc : c.Good := hg3 c (by simp)
  have hgt : ∀ i, GoodL (l.take i) := fun i x hx => hg x (List.mem_of_mem_take hx)
  have hok : ∀ i, Ok (addL sto0 (l.take i)) := fun i => ok0.addL (hgt i)
  have hok' : Ok (addL sto0 l) := ok0.addL hg
  repeat refine kn rfl ?_
  refine k_cond_f rfl (by simp only [go_sem, simprocAttr]) ?_
  repeat refine kn rfl ?_
  refine k_region tok rfl (by kernel_rfl) ?_
  simp only [go_sem, simprocAttr]
  refine call22 rfl n 0 (Nat.lt_succ_self n) hfr (by simp only [go_sem, simprocAttr]) ?_
  simp only [go_sem, simprocAttr]
  repeat refine kn rfl ?_
  refine k_region tok rfl (by kernel_rfl) ?_
  simp only [go_sem, simprocAttr]
  repeat refine kn rfl ?_
  have hpi : ∀ q, Inside (n + 1) q (.ptr n 0 0) := fun q => .ptr _ _ _ (.inl (Nat.lt_succ_self n))
  refine k_loop_ix (st7 n l a b c H) l.length rfl ?_ ?_
  · refine AWk_kept ?_ ?_ ?_ ?_ <;> repeat' first | exact trivial | refine q0 ?_ | exact qb | exact q1 | exact q2 | exact q3 | exact rfl | refine And.intro ?_ ?_ | exact q4 | exact q5 | exact q6 | exact q7 | exact Inside.ptr _ _ _ (.inr ⟨rfl, rfl⟩) | exact q8 | exact q9 | exact qd | exact Tm.ins _ | exact Tm.inss _ _ | exact Am.ins _ | exact Am.inss _ _ | refine ins_buf_str ?_ | refine Tm.ins_buf ?_ | refine Am.ins_buf ?_ | exact qf
    all_goals first | exact hpi _ | skip
  intro i hi
  refine k_st rfl ?_
  rcases Nat.lt_or_ge i l.length with h | h
  · have hgi := hg _ (List.getElem_mem h)
    have hnx := addL_take sto0 l i h
    repeat refine kn rfl ?_
    refine k_region tok rfl (by kernel_rfl) ?_
    simp only [go_sem, simprocAttr, h]
    repeat refine kn rfl ?_
    refine k_cond_t rfl (by simp only [go_sem, simprocAttr]) ?_
    repeat refine kn rfl ?_
    refine k_region tok rfl (by kernel_rfl) ?_
    simp only [go_sem, simprocAttr, Am.getD_enc _ _ h, h]
    refine call23 rfl n 0 _ l[i] rfl (Nat.lt_succ_self n) hfr (hok i).fit hgi (Nat.succ_pos _) hTc (by simp only [go_sem, simprocAttr]) ?_
    simp only [go_sem, simprocAttr]
    rw [← hnx]
    repeat refine kn rfl ?_
    refine k_region tok rfl (by kernel_rfl) ?_
    simp only [go_sem, simprocAttr]
    repeat refine kn rfl ?_
    refine k_nil ?_
    refine AWk_kept ?_ ?_ ?_ ?_ <;> repeat' first | exact trivial | refine q0 ?_ | exact qb | exact q1 | exact q2 | exact q3 | exact rfl | refine And.intro ?_ ?_ | exact q4 | exact q5 | exact q6 | exact q7 | exact Inside.ptr _ _ _ (.inr ⟨rfl, rfl⟩) | exact q8 | exact q9 | exact qd | exact Tm.ins _ | exact Tm.inss _ _ | exact Am.ins _ | exact Am.inss _ _ | refine ins_buf_str ?_ | refine Tm.ins_buf ?_ | refine Am.ins_buf ?_ | exact qf
    all_goals first | exact hpi _ | skip
    simp only [go_sem, simprocAttr]
    rw [IntWalk.i64_in _ (by omega)]; exact .refl _
  · repeat refine kn rfl ?_
    refine k_region tok rfl (by kernel_rfl) ?_
    simp only [go_sem, simprocAttr, Nat.not_lt.2 h]
    repeat refine kn rfl ?_
    refine k_cond_f rfl (by simp only [go_sem, simprocAttr]) ?_
    repeat refine kn rfl ?_
    refine k_exit_round rfl rfl rfl ?_
    have hi' : i = l.length := by omega
    subst hi'
    rw [List.take_length]
    have hA := hok'.A
    have hAl : (addL sto0 l).A.length ≤ 1000000 := by omega
    generalize addL sto0 l = s at *
    have hTp := hTc.put hfr s
    have hst := HasSto.put (cutH n H) n 0 s
    repeat refine kn rfl ?_
    refine k_region tok rfl (by kernel_rfl) ?_
    simp only [go_sem, simprocAttr]
    refine callH (fun_of Tryz.func33 rfl rfl) (a33 (n + 1 + 1) _ n 0 s (by omega) (hst.full (Nat.lt_succ_self n) _) hok' (Nat.succ_pos _) (hTp.full (Nat.succ_pos _))) (by simp only [go_sem, simprocAttr]) ?_
    simp only [go_sem, simprocAttr]
    obtain ⟨o, ho⟩ : ∃ o, o = sortB ltA s.A := ⟨_, rfl⟩
    rw [← ho]
    have hpm : o.Perm s.A := by rw [ho]; exact sortB_perm ltA s.A
    have hgo : ∀ x ∈ o, x.Good := fun x hx => hok'.g x (hpm.mem_iff.1 hx)
    have hol : o.length = s.A.length := hpm.length_eq
    have hstep : ∀ i (h : i + 1 < o.length), cmpA o[i] o[i + 1] = -1 := by subst ho; exact fun i h => sortA_step hok'.g hok'.nd i h
    have hmem : ∀ x ∈ o, s.A.any (eqA · x) = true := fun x hx => List.any_eq_true.2 ⟨x, hpm.mem_iff.1 hx, eqA_self _⟩
    clear ho
    repeat refine kn rfl ?_
    refine k_region tok rfl (by kernel_rfl) ?_
    simp only [go_sem, simprocAttr]
    repeat refine kn rfl ?_
    refine k_loop_ix (st7b n s o a b c H) o.length rfl ?_ ?_
    · refine AWk_kept ?_ ?_ ?_ ?_ <;> repeat' first | exact trivial | refine q0 ?_ | exact qb | exact q1 | exact q2 | exact q3 | exact rfl | refine And.intro ?_ ?_ | exact q4 | exact q5 | exact q6 | exact q7 | exact Inside.ptr _ _ _ (.inr ⟨rfl, rfl⟩) | exact q8 | exact q9 | exact qd | exact Tm.ins _ | exact Tm.inss _ _ | exact Am.ins _ | exact Am.inss _ _ | refine ins_buf_str ?_ | refine Tm.ins_buf ?_ | refine Am.ins_buf ?_ | exact qf
      all_goals first | exact hpi _ | skip
    intro i hi
    refine k_st rfl ?_
    rcases Nat.lt_or_ge i o.length with h | h
    · have hgi := hgo _ (List.getElem_mem h)
      have hmi := hmem _ (List.getElem_mem h)
      repeat refine kn rfl ?_
      refine k_region tok rfl (by kernel_rfl) ?_
      simp only [go_sem, simprocAttr, h]
      repeat refine kn rfl ?_
      refine k_cond_t rfl (by simp only [go_sem, simprocAttr]) ?_
      rcases Nat.eq_zero_or_pos i with hz | hz
      · have ei : decide (0 < (i : Int)) = false := decide_eq_false (by omega)
        repeat refine kn rfl ?_
        refine k_draw tok mixed drawO rfl rfl (by kernel_rfl) (by kernel_rfl) ?_
        simp only [go_sem, simprocAttr, Am.getD_enc _ _ h, h]
        refine callH (fun_of Tryz.func26 rfl rfl) (a26 (n + 1 + 1) _ n 0 _ o[i] (by omega) (hst.full (Nat.lt_succ_self n) _) hgi (Nat.succ_pos _) (hTp.full (Nat.succ_pos _))) (by simp only [go_sem, simprocAttr]) ?_
        rw [hok'.has', hmi]
        simp only [go_sem, simprocAttr, ei]
        repeat refine kn rfl ?_
        refine k_cond_f rfl (by simp only [go_sem, simprocAttr]) ?_
        repeat refine kn rfl ?_
        refine k_region tok rfl (by kernel_rfl) ?_
        simp only [go_sem, simprocAttr]
        repeat refine kn rfl ?_
        refine k_nil ?_
        refine AWk_kept ?_ ?_ ?_ ?_ <;> repeat' first | exact trivial | refine q0 ?_ | exact qb | exact q1 | exact q2 | exact q3 | exact rfl | refine And.intro ?_ ?_ | exact q4 | exact q5 | exact q6 | exact q7 | exact Inside.ptr _ _ _ (.inr ⟨rfl, rfl⟩) | exact q8 | exact q9 | exact qd | exact Tm.ins _ | exact Tm.inss _ _ | exact Am.ins _ | exact Am.inss _ _ | refine ins_buf_str ?_ | refine Tm.ins_buf ?_ | refine Am.ins_buf ?_ | exact qf
        all_goals first | exact hpi _ | skip
        simp only [go_sem, simprocAttr]
        rw [IntWalk.i64_in _ (by omega)]; exact .refl _
      · obtain ⟨k, rfl⟩ : ∃ k, i = k + 1 := ⟨i - 1, by omega⟩
        have ei : decide (0 < ((k + 1 : Nat) : Int)) = true := decide_eq_true (by omega)
        have ek : IntKind.i64.wrap (((k + 1 : Nat) : Int) - 1) = (k : Int) := by rw [IntWalk.i64_in _ (by omega)]; omega
        have hk : k < o.length := by omega
        have hgk := hgo _ (List.getElem_mem hk)
        repeat refine kn rfl ?_
        refine k_draw tok mixed drawO rfl rfl (by kernel_rfl) (by kernel_rfl) ?_
        simp only [go_sem, simprocAttr, Am.getD_enc _ _ h, h]
        refine callH (fun_of Tryz.func26 rfl rfl) (a26 (n + 1 + 1) _ n 0 _ o[k + 1] (by omega) (hst.full (Nat.lt_succ_self n) _) hgi (Nat.succ_pos _) (hTp.full (Nat.succ_pos _))) (by simp only [go_sem, simprocAttr]) ?_
        rw [hok'.has', hmi]
        simp only [go_sem, simprocAttr, ei, ek, Am.getD_enc _ _ h, h, Am.getD_enc _ _ hk, hk]
        refine callP (fun_of Tryz.func16 rfl rfl) (a16 o[k] o[k + 1] hgk hgi) (by simp only [go_sem, simprocAttr]) ?_
        simp only [go_sem, simprocAttr]
        rw [hstep k h]
        simp only [go_sem, simprocAttr, bne_self_eq_false]
        repeat refine kn rfl ?_
        refine k_cond_f rfl (by simp only [go_sem, simprocAttr]) ?_
        repeat refine kn rfl ?_
        refine k_region tok rfl (by kernel_rfl) ?_
        simp only [go_sem, simprocAttr]
        repeat refine kn rfl ?_
        refine k_nil ?_
        refine AWk_kept ?_ ?_ ?_ ?_ <;> repeat' first | exact trivial | refine q0 ?_ | exact qb | exact q1 | exact q2 | exact q3 | exact rfl | refine And.intro ?_ ?_ | exact q4 | exact q5 | exact q6 | exact q7 | exact Inside.ptr _ _ _ (.inr ⟨rfl, rfl⟩) | exact q8 | exact q9 | exact qd | exact Tm.ins _ | exact Tm.inss _ _ | exact Am.ins _ | exact Am.inss _ _ | refine ins_buf_str ?_ | refine Tm.ins_buf ?_ | refine Am.ins_buf ?_ | exact qf
        all_goals first | exact hpi _ | skip
        simp only [go_sem, simprocAttr]
        rw [IntWalk.i64_in _ (by omega)]; exact .refl _
    · repeat refine kn rfl ?_
      refine k_region tok rfl (by kernel_rfl) ?_
      simp only [go_sem, simprocAttr, Nat.not_lt.2 h]
      repeat refine kn rfl ?_
      refine k_cond_f rfl (by simp only [go_sem, simprocAttr]) ?_
      repeat refine kn rfl ?_
      refine k_exit_round rfl rfl rfl ?_
      repeat refine kn rfl ?_
      refine k_draw tok mixed drawO rfl rfl (by kernel_rfl) (by kernel_rfl) ?_
      simp only [go_sem, simprocAttr]
      refine callP (fun_of Tryz.func16 rfl rfl) (a16 a b hga hgb) (by simp only [go_sem, simprocAttr]) ?_
      simp only [go_sem, simprocAttr]
      refine callP (fun_of Tryz.func16 rfl rfl) (a16 b c hgb hgc) (by simp only [go_sem, simprocAttr]) ?_
      simp only [go_sem, simprocAttr]
      refine callP (fun_of Tryz.func16 rfl rfl) (a16 a c hga hgc) (by simp only [go_sem, simprocAttr]) ?_
      simp only [go_sem, simprocAttr]
      repeat refine kn rfl ?_
      refine k_region tok rfl (by kernel_rfl) ?_
      simp only [go_sem, simprocAttr]
      have hv := cmpA_val hga hgb
      have e1 : (cmpA a b != IntKind.i64.wrap (0 - cmpA b a)) = false := by
        rw [cmpA_anti hga hgb, IntWalk.i64_in _ (by omega)]; simp
      refine callP (fun_of Tryz.func16 rfl rfl) (a16 b a hgb hga) (by simp only [go_sem, simprocAttr]) ?_
      simp only [go_sem, simprocAttr]
      simp only [go_sem, simprocAttr, e1]
      refine callP (fun_of Tryz.func28 rfl rfl) (a28 a b hga) (by simp only [go_sem, simprocAttr, cmpA_eq hga hgb, bne_self_eq_false]) ?_
      simp only [go_sem, simprocAttr, cmpA_eq hga hgb, bne_self_eq_false]
      cases h5 : decide (cmpA a b < 0) with
      | false =>
        simp only [go_sem, simprocAttr, h5]
        repeat refine kn rfl ?_
        refine k_cond_f rfl (by simp only [go_sem, simprocAttr]) ?_
        repeat refine kn rfl ?_
        refine k_region tok rfl (by kernel_rfl) ?_
        simp only [go_sem, simprocAttr]
        refine callH (fun_of Tryz.func24 rfl rfl) (a24 (n + 1 + 1) _ n 0 s (by omega) (hst.full (Nat.lt_succ_self n) _)) (by simp only [go_sem, simprocAttr]) ?_
        simp only [go_sem, simprocAttr, hol, beq_self_eq_true]
        repeat refine kn rfl ?_
        refine k_ret rfl ?_
        exact post_oneQ (.refl _) (.bool _) ⟨rfl, put_cut (Nat.le_refl n)⟩
      | true =>
      cases h6 : decide (cmpA b c < 0) with
      | false =>
        simp only [go_sem, simprocAttr, h5, h6]
        repeat refine kn rfl ?_
        refine k_cond_f rfl (by simp only [go_sem, simprocAttr]) ?_
        repeat refine kn rfl ?_
        refine k_region tok rfl (by kernel_rfl) ?_
        simp only [go_sem, simprocAttr]
        refine callH (fun_of Tryz.func24 rfl rfl) (a24 (n + 1 + 1) _ n 0 s (by omega) (hst.full (Nat.lt_succ_self n) _)) (by simp only [go_sem, simprocAttr]) ?_
        simp only [go_sem, simprocAttr, hol, beq_self_eq_true]
        repeat refine kn rfl ?_
        refine k_ret rfl ?_
        exact post_oneQ (.refl _) (.bool _) ⟨rfl, put_cut (Nat.le_refl n)⟩
      | true =>
        have e3 : decide (0 ≤ cmpA a c) = false := decide_eq_false (by have := cmpA_trans hga hgb hgc (of_decide_eq_true h5) (of_decide_eq_true h6); omega)
        simp only [go_sem, simprocAttr, h5, h6, e3]
        repeat refine kn rfl ?_
        refine k_cond_f rfl (by simp only [go_sem, simprocAttr]) ?_
        repeat refine kn rfl ?_
        refine k_region tok rfl (by kernel_rfl) ?_
        simp only [go_sem, simprocAttr]
        refine callH (fun_of Tryz.func24 rfl rfl) (a24 (n + 1 + 1) _ n 0 s (by omega) (hst.full (Nat.lt_succ_self n) _)) (by simp only [go_sem, simprocAttr]) ?_
        simp only [go_sem, simprocAttr, hol, beq_self_eq_true]
        repeat refine kn rfl ?_
        refine k_ret rfl ?_
        exact post_oneQ (.refl _) (.bool _) ⟨rfl, put_cut (Nat.le_refl n)⟩
end Go.Proofs.YtpoegdhgdgbmaaaGreatDoorR

/- The law StoreCopies. -/
namespace Go.Proofs.YtpoegdhgdgbmaaaGreatDoorR
open Go.Abs
set_option maxRecDepth 100000

theorem put_comm {H : AHeap} {l l2 b b2 : Nat} {s s2 : Sto} (h : l ≠ l2) : put (put H l b s) l2 b2 s2 = put (put H l2 b2 s2) l b s := by
  funext l' k
  simp only [put_at]
  by_cases h1 : l' = l
  · subst h1
    rw [if_neg h, if_pos rfl]
    rw [if_pos rfl, if_neg h]
  · rw [if_neg h1, if_neg h1]
theorem HasSto.skip {H : AHeap} {l l2 b b2 : Nat} {s s2 : Sto} (hs : HasSto H l b s) (h : l ≠ l2) : HasSto (Go.Abs.put H l2 b2 s2) l b s := fun k x hk => by rw [put_other h]; exact hs k x hk
theorem FreeAt.skip {H : AHeap} {l l2 b b2 : Nat} {s2 : Sto} (hs : FreeAt H l b) (h : l ≠ l2) : FreeAt (Go.Abs.put H l2 b2 s2) l b := fun k hk => by rw [put_other h]; exact hs k hk

theorem call34 {cx : Cx} {op : Oper} {args : List Operand} {ts : List TypeId} {F : AState → Prop} {tm : List (Nat × AV)} {L : List (Nat × ABlk)} {H : AHeap} (hP : cx.P = Tryz.prog) (l b l2 b2 : Nat) (s : Sto) (hl : l < cx.n) (hl2 : l2 < cx.n) (hs : HasSto H l b s) (hf : FreeAt H l2 b2)
    (ho : Ok s) (hn : 0 < cx.n) (hT : Tabs H) (ha : argsA cx.T (evT tm) args ts = [.ptr l b 0]) (hF : F ⟨putT tm op.dst (.ptr l2 b2 0), L, put H l2 b2 (addL sto0 s.A)⟩) : CallG cx false op (.func 34) args ts ⟨tm, L, H⟩ F := by
  obtain ⟨P, T, φ, n, N⟩ := cx
  subst hP
  have h := a34 (n + 1) (full n L H) l b l2 b2 s (Nat.lt_succ_of_lt hl) (Nat.lt_succ_of_lt hl2) (hs.full hl L) (hf.full hl2 L) ho (Nat.succ_pos _) (hT.full hn)
  rw [full_put n l2 b2 _ L H (Nat.ne_of_lt hl2)] at h
  refine callR (caps := []) (avs := [.ptr l b 0]) (Qc := fun r H' => r = .ptr l2 b2 0 ∧ H' = full n L (put H l2 b2 (addL sto0 s.A))) rfl (fun_of Tryz.func34 rfl rfl) h ha ?_
  rintro r H1 ⟨rfl, rfl⟩
  exact ⟨L, _, rfl, outStep_put0 hl2, hF⟩

/-- Adding a list whose members are valid and stand once. -/
theorem addLR_nd : ∀ (Y X : List Am), (∀ a ∈ Y, validA a = true) → (X ++ Y).Nodup → X.length + Y.length ≤ 2000 → addLR X Y = X ++ Y
  | [], X, _, _, _ => by simp [addLR]
  | a :: Y, X, hv, hnd, hl => by
    have h1 : addR X a = (X ++ [a], true, 0) := by
      unfold addR
      have hany : X.any (eqA · a) = false := by
        rw [Bool.eq_false_iff]; intro hy
        obtain ⟨x, hx, e⟩ := List.any_eq_true.1 hy
        have := (eqA_iff x a).1 e; subst this
        exact (List.nodup_append.1 hnd).2.2 x hx x (List.mem_cons_self ..) rfl
      rw [if_neg (by simp [hv a (List.mem_cons_self ..)]), if_neg (by simp [hany]), if_neg (by simp only [List.length_cons] at hl; omega)]
    have h2 : addLR X (a :: Y) = addLR (X ++ [a]) Y := by simp only [addLR, List.foldl_cons, h1]
    rw [h2, addLR_nd Y (X ++ [a]) (fun x hx => hv x (List.mem_cons_of_mem _ hx)) (by simpa using hnd) (by simp only [List.length_append, List.length_cons, List.length_nil] at hl ⊢; omega)]
    simp

/-- Who is in after adding. -/
theorem addLR_mem (x : Am) : ∀ (Y X : List Am), X.length + Y.length ≤ 2000 → (x ∈ addLR X Y ↔ x ∈ X ∨ (x ∈ Y ∧ validA x = true))
  | [], X, _ => by simp [addLR]
  | a :: Y, X, hl => by
    simp only [List.length_cons] at hl
    have h2 : addLR X (a :: Y) = addLR (addR X a).1 Y := by simp only [addLR, List.foldl_cons]
    have h3 : (addR X a).1.length ≤ X.length + 1 := by
      unfold addR
      repeat' split
      all_goals first | (simp only [List.length_append, List.length_singleton]; omega) | (simp only []; omega)
    rw [h2, addLR_mem x Y _ (by omega)]
    have h4 : x ∈ (addR X a).1 ↔ x ∈ X ∨ (x = a ∧ validA x = true) := by
      unfold addR
      split
      · rename_i h; exact ⟨.inl, fun h' => h'.elim id fun h'' => by rw [h''.1, h] at h''; exact absurd h''.2 (by simp)⟩
      · rename_i h
        split
        · rename_i hy
          obtain ⟨y, hmem, e⟩ := List.any_eq_true.1 hy
          have := (eqA_iff y a).1 e; subst this
          exact ⟨.inl, fun h' => h'.elim id fun h'' => by rw [h''.1]; exact hmem⟩
        · split
          · omega
          · simp only [List.mem_append, List.mem_singleton]
            exact ⟨fun h' => h'.imp id fun e => ⟨e, by subst e; simpa using h⟩, fun h' => h'.imp id And.left⟩
    rw [h4, List.mem_cons]
    constructor
    · rintro ((h | ⟨rfl, h⟩) | ⟨h, h'⟩)
      · exact .inl h
      · exact .inr ⟨.inl rfl, h⟩
      · exact .inr ⟨.inr h, h'⟩
    · rintro (h | ⟨rfl | h, h'⟩)
      · exact .inl (.inl h)
      · exact .inl (.inr ⟨rfl, h'⟩)
      · exact .inr ⟨h, h'⟩

theorem eqS_mem {A B : List Am} (hA : A.Nodup) (hB : B.Nodup) (h : ∀ x, x ∈ A ↔ x ∈ B) : eqS A B = true := by
  have hp : A.Perm B := (List.perm_ext_iff_of_nodup hA hB).2 h
  unfold eqS
  rw [Bool.and_eq_true, beq_iff_eq, List.all_eq_true]
  exact ⟨by rw [hp.length_eq], fun a ha => List.any_eq_true.2 ⟨a, (h a).1 ha, eqA_self a⟩⟩
theorem eqS_len {A B : List Am} (h : A.length ≠ B.length) : eqS A B = false := by
  unfold eqS
  rw [show ((A.length : Int) == B.length) = false from beq_false_of_ne (by omega), Bool.false_and]

def st8 (n : Nat) (l : List Am) (a : Am) (H : AHeap) (i : Nat) : AState :=
  ⟨[(7, .int .i64 i), (6, .ptr (n + 1) 0 0), (5, .ptr n 0 0), (3, .ptr (n + 3) 3 0), (0, .sl 2 (l.map Am.enc) .any)], [(3, .box a.cs)], put (put (cutH n H) n 0 (addL sto0 (l.take i))) (n + 1) 0 (addL sto0 (l.reverse.take i))⟩
def st8b (n : Nat) (s b c : Sto) (a : Am) (H : AHeap) (i : Nat) : AState :=
  ⟨[(9, .int .i64 i), (8, .ptr (n + 2) 0 0), (6, .ptr (n + 1) 0 0), (5, .ptr n 0 0), (3, .ptr (n + 3) 3 0)], [(3, .box a.cs)], put (put (put (cutH n H) n 0 s) (n + 1) 0 b) (n + 2) 0 c⟩

theorem a8 (l : List Am) (a : Am) (hl : ∀ a ∈ l, NmA a) (ha : NmA a) : PureT Tryz.prog 8 [.sl 2 (l.map Am.enc) .any, a.enc] (.bool true) := by
  intro n H hn hT
  have hTc := hT.cut hn
  have hf0 := FreeAt.cut n n H (Nat.le_refl _) 0
  have hf1 := FreeAt.cut n (n + 1) H (by omega) 0
  have hf2 := FreeAt.cut n (n + 2) H (by omega) 0
  refine PC.up 3 (.bool _) ?_
  refine a_fun tok (fun_of Tryz.func8 rfl rfl) (by simp) fun B => ?_
  repeat refine kn rfl ?_
  refine k_region tok rfl (by kernel_rfl) ?_
  simp only [go_sem, simprocAttr]
  repeat refine kn rfl ?_
  refine k_region tok rfl (by kernel_rfl) ?_
  simp only [go_sem, simprocAttr]
  refine callT (fun_of Tryz.func12 rfl rfl) a12 (Nat.succ_pos _) hTc (by simp only [go_sem, simprocAttr]) ?_
  simp only [go_sem, simprocAttr]
  repeat refine kn rfl ?_
  refine k_cond_f rfl (by simp only [go_sem, simprocAttr]) ?_
  repeat refine kn rfl ?_
  refine k_region tok rfl (by kernel_rfl) ?_
  simp only [go_sem, simprocAttr]
  refine callP (fun_of Tryz.func10 rfl rfl) (a10 l) (by simp only [go_sem, simprocAttr]) ?_
  simp only [go_sem, simprocAttr]
  cases h1 : great l with
  | true =>
    simp only [go_sem, simprocAttr, h1]
    repeat refine kn rfl ?_
    refine k_cond_t rfl (by simp only [go_sem, simprocAttr]) ?_
    repeat refine kn rfl ?_
    refine k_region tok rfl (by kernel_rfl) ?_
    simp only [go_sem, simprocAttr]
    repeat refine kn rfl ?_
    refine k_ret rfl ?_
    exact post_oneQ (.refl _) (.bool _) ⟨rfl, fun l' k h => by simp only [cutH, if_pos h]⟩
  | false =>
  obtain ⟨hg, hlen, _⟩ := great_good h1 hl
  simp only [go_sem, simprocAttr, h1]
  refine ⟨by decide, ?_⟩
  refine callP (fun_of Tryz.func10 rfl rfl) (a10o [a] .full) (by simp only [go_sem, simprocAttr]) ?_
  simp only [go_sem, simprocAttr]
  cases h2 : great [a] with
  | true =>
    repeat refine kn rfl ?_
    refine k_cond_t rfl (by simp only [go_sem, simprocAttr]) ?_
    repeat refine kn rfl ?_
    refine k_region tok rfl (by kernel_rfl) ?_
    simp only [go_sem, simprocAttr]
    repeat refine kn rfl ?_
    refine k_ret rfl ?_
    exact post_oneQ (.refl _) (.bool _) ⟨rfl, fun l' k h => by simp only [cutH, if_pos h]⟩
  | false =>
  obtain ⟨hg3, _, _⟩ := great_good h2 (by simpa using ha)
  have hga : a.Good := hg3 a (by simp)
  have hr : GoodL l.reverse := fun x hx => hg x (List.mem_reverse.1 hx)
  have hrl : l.reverse.length = l.length := List.length_reverse
  have hok : ∀ i, Ok (addL sto0 (l.take i)) := fun i => ok0.addL fun x hx => hg x (List.mem_of_mem_take hx)
  have hokr : ∀ i, Ok (addL sto0 (l.reverse.take i)) := fun i => ok0.addL fun x hx => hr x (List.mem_of_mem_take hx)
  repeat refine kn rfl ?_
  refine k_cond_f rfl (by simp only [go_sem, simprocAttr]) ?_
  repeat refine kn rfl ?_
  refine k_region tok rfl (by kernel_rfl) ?_
  simp only [go_sem, simprocAttr]
  refine call22 rfl n 0 (by show n < n + 3; omega) hf0 (by simp only [go_sem, simprocAttr]) ?_
  simp only [go_sem, simprocAttr]
  refine call22 rfl (n + 1) 0 (by show n + 1 < n + 3; omega) (hf1.skip (by omega)) (by simp only [go_sem, simprocAttr]) ?_
  simp only [go_sem, simprocAttr]
  repeat refine kn rfl ?_
  refine k_region tok rfl (by kernel_rfl) ?_
  simp only [go_sem, simprocAttr]
  repeat refine kn rfl ?_
  have hp0 : ∀ q, Inside (n + 3) q (.ptr n 0 0) := fun q => .ptr _ _ _ (.inl (by omega))
  have hp1 : ∀ q, Inside (n + 3) q (.ptr (n + 1) 0 0) := fun q => .ptr _ _ _ (.inl (by omega))
  have hp2 : ∀ q, Inside (n + 3) q (.ptr (n + 2) 0 0) := fun q => .ptr _ _ _ (.inl (by omega))
  refine k_loop_ix (st8 n l a H) l.length rfl ?_ ?_
  · refine AWk_kept ?_ ?_ ?_ ?_ <;> repeat' first | exact trivial | refine q0 ?_ | exact qb | exact q1 | exact q2 | exact q3 | exact rfl | refine And.intro ?_ ?_ | exact q4 | exact q5 | exact q6 | exact q7 | exact Inside.ptr _ _ _ (.inr ⟨rfl, rfl⟩) | exact q8 | exact q9 | exact qd | exact Tm.ins _ | exact Tm.inss _ _ | exact Am.ins _ | exact Am.inss _ _ | refine ins_buf_str ?_ | refine Tm.ins_buf ?_ | refine Am.ins_buf ?_ | exact qf
    all_goals first | exact hp0 _ | exact hp1 _ | skip
  intro i hi
  refine k_st rfl ?_
  rcases Nat.lt_or_ge i l.length with h | h
  · have hnx := addL_take sto0 l i h
    have hnr := addL_take sto0 l.reverse i (by omega)
    have hk : l.length - 1 - i < l.length := by omega
    have ek : IntKind.i64.wrap (IntKind.i64.wrap ((l.length : Int) - 1) - i) = ((l.length - 1 - i : Nat) : Int) := by
      have e1 : IntKind.i64.wrap ((l.length : Int) - 1) = (l.length : Int) - 1 := IntWalk.i64_in _ (by omega)
      rw [e1, IntWalk.i64_in _ (by omega)]; omega
    have er : l.reverse[i]'(by omega) = l[l.length - 1 - i] := List.getElem_reverse _
    rw [er] at hnr
    repeat refine kn rfl ?_
    refine k_region tok rfl (by kernel_rfl) ?_
    simp only [go_sem, simprocAttr, h]
    repeat refine kn rfl ?_
    refine k_cond_t rfl (by simp only [go_sem, simprocAttr]) ?_
    repeat refine kn rfl ?_
    refine k_region tok rfl (by kernel_rfl) ?_
    simp only [go_sem, simprocAttr, Am.getD_enc _ _ h, h]
    rw [put_comm (show n ≠ n + 1 by omega)]
    refine call23 rfl n 0 _ l[i] rfl (by show n < n + 3; omega) (hf0.skip (by omega)) (hok i).fit (hg _ (List.getElem_mem h)) (Nat.succ_pos _) (hTc.put hf1 _) (by simp only [go_sem, simprocAttr]) ?_
    rw [put_comm (show n + 1 ≠ n by omega), ← hnx]
    simp only [go_sem, simprocAttr]
    repeat refine kn rfl ?_
    refine k_region tok rfl (by kernel_rfl) ?_
    simp only [go_sem, simprocAttr, ek, Am.getD_enc _ _ hk, hk]
    refine call23 rfl (n + 1) 0 _ l[l.length - 1 - i] rfl (by show n + 1 < n + 3; omega) (hf1.skip (by omega)) (hokr i).fit (hg _ (List.getElem_mem hk)) (Nat.succ_pos _) (hTc.put hf0 _) (by simp only [go_sem, simprocAttr]) ?_
    rw [← hnr]
    simp only [go_sem, simprocAttr]
    repeat refine kn rfl ?_
    refine k_region tok rfl (by kernel_rfl) ?_
    simp only [go_sem, simprocAttr]
    repeat refine kn rfl ?_
    refine k_nil ?_
    refine AWk_kept ?_ ?_ ?_ ?_ <;> repeat' first | exact trivial | refine q0 ?_ | exact qb | exact q1 | exact q2 | exact q3 | exact rfl | refine And.intro ?_ ?_ | exact q4 | exact q5 | exact q6 | exact q7 | exact Inside.ptr _ _ _ (.inr ⟨rfl, rfl⟩) | exact q8 | exact q9 | exact qd | exact Tm.ins _ | exact Tm.inss _ _ | exact Am.ins _ | exact Am.inss _ _ | refine ins_buf_str ?_ | refine Tm.ins_buf ?_ | refine Am.ins_buf ?_ | exact qf
    all_goals first | exact hp0 _ | exact hp1 _ | skip
    simp only [go_sem, simprocAttr]
    rw [IntWalk.i64_in _ (by omega)]; exact .refl _
  · repeat refine kn rfl ?_
    refine k_region tok rfl (by kernel_rfl) ?_
    simp only [go_sem, simprocAttr, Nat.not_lt.2 h]
    repeat refine kn rfl ?_
    refine k_cond_f rfl (by simp only [go_sem, simprocAttr]) ?_
    repeat refine kn rfl ?_
    refine k_exit_round rfl rfl rfl ?_
    have hi' : i = l.length := by omega
    subst hi'
    have hos : Ok (addL sto0 l) := ok0.addL hg
    have hob : Ok (addL sto0 l.reverse) := ok0.addL hr
    have hAl : (addL sto0 l).A.length ≤ l.length := by have := addL_len l hg l.length; rwa [List.take_length] at this
    have hgs : GoodL (addL sto0 l).A := hos.g
    have hoc : Ok (addL sto0 (addL sto0 l).A) := ok0.addL hgs
    have hcA : (addL sto0 (addL sto0 l).A).A = (addL sto0 l).A := by
      have h1 := ok0.addL_A hgs
      have h2 := addLR_nd (addL sto0 l).A [] hos.v (by simpa using hos.nd) (by simp only [List.length_nil]; omega)
      exact h1.trans h2
    have hsb : ∀ x, x ∈ (addL sto0 l).A ↔ x ∈ (addL sto0 l.reverse).A := fun x => by
      have e1 := ok0.addL_A hg
      have e2 := ok0.addL_A hr
      rw [e1, e2]
      have h1 := addLR_mem x l [] (by simp only [List.length_nil]; omega)
      have h2 := addLR_mem x l.reverse [] (by simp only [List.length_nil]; omega)
      rw [show sto0.A = [] from rfl, h1, h2]
      simp
    have hbl : (addL sto0 l.reverse).A.length = (addL sto0 l).A.length := ((List.perm_ext_iff_of_nodup hos.nd hob.nd).2 hsb).length_eq.symm
    have hq : eqS (addL sto0 l).A (addL sto0 l.reverse).A = true := eqS_mem hos.nd hob.nd hsb
    have hq2 : eqS (addL sto0 l.reverse).A (addL sto0 l).A = true := eqS_mem hob.nd hos.nd fun x => (hsb x).symm
    have hq3 : eqS (addL sto0 l).A (addL sto0 l).A = true := eqS_mem hos.nd hos.nd fun x => Iff.rfl
    rw [List.take_length, List.take_of_length_le (by omega : l.reverse.length ≤ l.length)]
    generalize addL sto0 l = s at *
    generalize addL sto0 l.reverse = b at *
    repeat refine kn rfl ?_
    refine k_region tok rfl (by kernel_rfl) ?_
    simp only [go_sem, simprocAttr]
    refine call34 rfl n 0 (n + 2) 0 s (by show n < n + 3; omega) (by show n + 2 < n + 3; omega) ((HasSto.put _ n 0 s).skip (by omega)) ((hf2.skip (by omega)).skip (by omega)) hos (Nat.succ_pos _) ((hTc.put hf0 s).put (hf1.skip (by omega)) b) (by simp only [go_sem, simprocAttr]) ?_
    generalize addL sto0 s.A = c at *
    simp only [go_sem, simprocAttr]
    have hsS : HasSto (put (put (put (cutH n H) n 0 s) (n + 1) 0 b) (n + 2) 0 c) n 0 s := ((HasSto.put _ n 0 s).skip (by omega)).skip (by omega)
    have hsB : HasSto (put (put (put (cutH n H) n 0 s) (n + 1) 0 b) (n + 2) 0 c) (n + 1) 0 b := (HasSto.put _ (n + 1) 0 b).skip (by omega)
    have hsC : HasSto (put (put (put (cutH n H) n 0 s) (n + 1) 0 b) (n + 2) 0 c) (n + 2) 0 c := HasSto.put _ (n + 2) 0 c
    have hf2' : FreeAt (put (put (cutH n H) n 0 s) (n + 1) 0 b) (n + 2) 0 := (hf2.skip (by omega)).skip (by omega)
    have hT2 : Tabs (put (put (cutH n H) n 0 s) (n + 1) 0 b) := (hTc.put hf0 s).put (hf1.skip (by omega)) b
    have hT3 : Tabs (put (put (put (cutH n H) n 0 s) (n + 1) 0 b) (n + 2) 0 c) := hT2.put hf2' c
    have l0 : n < n + 3 := by omega
    have l1 : n + 1 < n + 3 := by omega
    have l2 : n + 2 < n + 3 := by omega
    have cn : 0 < n + 3 := by omega
    repeat refine kn rfl ?_
    refine k_region tok rfl (by kernel_rfl) ?_
    simp only [go_sem, simprocAttr]
    refine callH (fun_of Tryz.func35 rfl rfl) (a35 (n + 3 + 1) _ n 0 (n + 2) 0 s c (by omega) (by omega) (hsS.full l0 _) (hsC.full l2 _) hos hoc (Nat.succ_pos _) (hT3.full cn)) (by simp only [go_sem, simprocAttr]) ?_
    rw [hcA, hq3]
    simp only [go_sem, simprocAttr]
    refine callH (fun_of Tryz.func35 rfl rfl) (a35 (n + 3 + 1) _ (n + 2) 0 n 0 c s (by omega) (by omega) (hsC.full l2 _) (hsS.full l0 _) hoc hos (Nat.succ_pos _) (hT3.full cn)) (by simp only [go_sem, simprocAttr]) ?_
    rw [hcA, hq3]
    simp only [go_sem, simprocAttr]
    refine callH (fun_of Tryz.func35 rfl rfl) (a35 (n + 3 + 1) _ n 0 (n + 1) 0 s b (by omega) (by omega) (hsS.full l0 _) (hsB.full l1 _) hos hob (Nat.succ_pos _) (hT3.full cn)) (by simp only [go_sem, simprocAttr]) ?_
    rw [hq]
    simp only [go_sem, simprocAttr]
    refine callH (fun_of Tryz.func24 rfl rfl) (a24 (n + 3 + 1) _ (n + 2) 0 c (by omega) (hsC.full l2 _)) (by simp only [go_sem, simprocAttr]) ?_
    simp only [go_sem, simprocAttr]
    refine callH (fun_of Tryz.func24 rfl rfl) (a24 (n + 3 + 1) _ n 0 s (by omega) (hsS.full l0 _)) (by simp only [go_sem, simprocAttr]) ?_
    rw [hcA]
    simp only [go_sem, simprocAttr, bne_self_eq_false]
    repeat refine kn rfl ?_
    refine k_cond_f rfl (by simp only [go_sem, simprocAttr]) ?_
    repeat refine kn rfl ?_
    refine k_region tok rfl (by kernel_rfl) ?_
    simp only [go_sem, simprocAttr]
    repeat refine kn rfl ?_
    refine k_loop_ix (st8b n s b c a H) s.A.length rfl ?_ ?_
    · refine AWk_kept ?_ ?_ ?_ ?_ <;> repeat' first | exact trivial | refine q0 ?_ | exact qb | exact q1 | exact q2 | exact q3 | exact rfl | refine And.intro ?_ ?_ | exact q4 | exact q5 | exact q6 | exact q7 | exact Inside.ptr _ _ _ (.inr ⟨rfl, rfl⟩) | exact q8 | exact q9 | exact qd | exact Tm.ins _ | exact Tm.inss _ _ | exact Am.ins _ | exact Am.inss _ _ | refine ins_buf_str ?_ | refine Tm.ins_buf ?_ | refine Am.ins_buf ?_ | exact qf
      all_goals first | exact hp0 _ | exact hp1 _ | exact hp2 _ | skip
    intro i hi
    refine k_st rfl ?_
    rcases Nat.lt_or_ge i s.A.length with h | h
    · repeat refine kn rfl ?_
      refine k_region tok rfl (by kernel_rfl) ?_
      simp only [go_sem, simprocAttr]
      refine callH (fun_of Tryz.func24 rfl rfl) (a24 (n + 3 + 1) _ n 0 s (by omega) (hsS.full l0 _)) (by simp only [go_sem, simprocAttr]) ?_
      simp only [go_sem, simprocAttr, h]
      repeat refine kn rfl ?_
      refine k_cond_t rfl (by simp only [go_sem, simprocAttr]) ?_
      repeat refine kn rfl ?_
      refine k_region tok rfl (by kernel_rfl) ?_
      simp only [go_sem, simprocAttr]
      refine callH (fun_of Tryz.func27 rfl rfl) (a27 (n + 3 + 1) _ n 0 s i (by omega) (hsS.full l0 _) hos.g (Nat.succ_pos _) (hT3.full cn)) (by simp only [go_sem, simprocAttr]) ?_
      rw [atR_in h]
      simp only [go_sem, simprocAttr]
      repeat refine kn rfl ?_
      refine k_region tok rfl (by kernel_rfl) ?_
      simp only [go_sem, simprocAttr]
      refine callH (fun_of Tryz.func27 rfl rfl) (a27 (n + 3 + 1) _ (n + 2) 0 c i (by omega) (hsC.full l2 _) hoc.g (Nat.succ_pos _) (hT3.full cn)) (by simp only [go_sem, simprocAttr]) ?_
      rw [hcA, atR_in h]
      simp only [go_sem, simprocAttr]
      repeat refine kn rfl ?_
      refine k_region tok rfl (by kernel_rfl) ?_
      simp only [go_sem, simprocAttr, bne_self_eq_false]
      refine callP (fun_of Tryz.func28 rfl rfl) (a28 s.A[i] s.A[i] (hgs _ (List.getElem_mem h))) (by simp only [go_sem, simprocAttr, eqA_self]) ?_
      simp only [go_sem, simprocAttr, eqA_self]
      repeat refine kn rfl ?_
      refine k_cond_f rfl (by simp only [go_sem, simprocAttr]) ?_
      repeat refine kn rfl ?_
      refine k_region tok rfl (by kernel_rfl) ?_
      simp only [go_sem, simprocAttr]
      repeat refine kn rfl ?_
      refine k_nil ?_
      refine AWk_kept ?_ ?_ ?_ ?_ <;> repeat' first | exact trivial | refine q0 ?_ | exact qb | exact q1 | exact q2 | exact q3 | exact rfl | refine And.intro ?_ ?_ | exact q4 | exact q5 | exact q6 | exact q7 | exact Inside.ptr _ _ _ (.inr ⟨rfl, rfl⟩) | exact q8 | exact q9 | exact qd | exact Tm.ins _ | exact Tm.inss _ _ | exact Am.ins _ | exact Am.inss _ _ | refine ins_buf_str ?_ | refine Tm.ins_buf ?_ | refine Am.ins_buf ?_ | exact qf
      all_goals first | exact hp0 _ | exact hp1 _ | exact hp2 _ | skip
      simp only [go_sem, simprocAttr]
      rw [IntWalk.i64_in _ (by omega)]; exact .refl _
    · repeat refine kn rfl ?_
      refine k_region tok rfl (by kernel_rfl) ?_
      simp only [go_sem, simprocAttr]
      refine callH (fun_of Tryz.func24 rfl rfl) (a24 (n + 3 + 1) _ n 0 s (by omega) (hsS.full l0 _)) (by simp only [go_sem, simprocAttr]) ?_
      simp only [go_sem, simprocAttr, Nat.not_lt.2 h]
      repeat refine kn rfl ?_
      refine k_cond_f rfl (by simp only [go_sem, simprocAttr]) ?_
      repeat refine kn rfl ?_
      refine k_exit_round rfl rfl rfl ?_
      have hend : ∀ k l' j, l' < n → put (put (put (cutH n H) n 0 s) (n + 1) 0 b) (n + 2) 0 k l' j = H l' j := fun k l' j hl' => by
        rw [put_other (by omega), put_other (by omega), put_other (by omega), cutH, if_pos hl']
      rcases addT_three hoc a (by rw [hcA]; omega) with ⟨hv, e⟩ | ⟨hv, hy, e⟩ | ⟨hv, hy, e⟩
      · repeat refine kn rfl ?_
        refine k_region tok rfl (by kernel_rfl) ?_
        simp only [go_sem, simprocAttr]
        refine callT (fun_of Tryz.func14 rfl rfl) (a14 a hga) cn hT3 (by simp only [go_sem, simprocAttr]) ?_
        simp only [go_sem, simprocAttr, hv]
        repeat refine kn rfl ?_
        refine k_region tok rfl (by kernel_rfl) ?_
        simp only [go_sem, simprocAttr]
        refine call23 rfl (n + 2) 0 c a rfl l2 hf2' hoc.fit hga cn hT2 (by simp only [go_sem, simprocAttr]) ?_
        rw [e]
        simp only [go_sem, simprocAttr, eInt]
        repeat refine kn rfl ?_
        refine k_draw tok mixed drawO rfl rfl (by kernel_rfl) (by kernel_rfl) ?_
        simp only [go_sem, simprocAttr, beq_self_eq_true]
        refine callH (fun_of Tryz.func26 rfl rfl) (a26 (n + 3 + 1) _ n 0 s a (by omega) (hsS.full l0 _) hga (Nat.succ_pos _) (hT3.full cn)) (by simp only [go_sem, simprocAttr]) ?_
        simp only [go_sem, simprocAttr, hv]
        refine callT (fun_of Tryz.func14 rfl rfl) (a14 a hga) cn hT3 (by simp only [go_sem, simprocAttr]) ?_
        simp only [go_sem, simprocAttr, hv, beq_self_eq_true]
        refine callH (fun_of Tryz.func35 rfl rfl) (a35 (n + 3 + 1) _ n 0 (n + 2) 0 s c (by omega) (by omega) (hsS.full l0 _) (hsC.full l2 _) hos hoc (Nat.succ_pos _) (hT3.full cn)) (by simp only [go_sem, simprocAttr]) ?_
        rw [hcA, hq3]
        simp only [go_sem, simprocAttr, beq_self_eq_true]
        refine callH (fun_of Tryz.func35 rfl rfl) (a35 (n + 3 + 1) _ (n + 1) 0 (n + 2) 0 b c (by omega) (by omega) (hsB.full l1 _) (hsC.full l2 _) hob hoc (Nat.succ_pos _) (hT3.full cn)) (by simp only [go_sem, simprocAttr]) ?_
        rw [hcA, hq2]
        simp only [go_sem, simprocAttr, beq_self_eq_true]
        repeat refine kn rfl ?_
        refine k_ret rfl ?_
        exact post_oneQ (.refl _) (.bool _) ⟨rfl, hend _⟩
      · have hy' : s.A.any (eqA · a) = true := by rw [← hcA]; exact hy
        repeat refine kn rfl ?_
        refine k_region tok rfl (by kernel_rfl) ?_
        simp only [go_sem, simprocAttr]
        refine callT (fun_of Tryz.func14 rfl rfl) (a14 a hga) cn hT3 (by simp only [go_sem, simprocAttr]) ?_
        simp only [go_sem, simprocAttr, hv]
        refine callH (fun_of Tryz.func26 rfl rfl) (a26 (n + 3 + 1) _ n 0 s a (by omega) (hsS.full l0 _) hga (Nat.succ_pos _) (hT3.full cn)) (by simp only [go_sem, simprocAttr]) ?_
        rw [hos.has', hy']
        simp only [go_sem, simprocAttr]
        repeat refine kn rfl ?_
        refine k_region tok rfl (by kernel_rfl) ?_
        simp only [go_sem, simprocAttr]
        refine call23 rfl (n + 2) 0 c a rfl l2 hf2' hoc.fit hga cn hT2 (by simp only [go_sem, simprocAttr]) ?_
        rw [e]
        simp only [go_sem, simprocAttr, eInt]
        repeat refine kn rfl ?_
        refine k_draw tok mixed drawO rfl rfl (by kernel_rfl) (by kernel_rfl) ?_
        simp only [go_sem, simprocAttr, beq_self_eq_true]
        refine callH (fun_of Tryz.func26 rfl rfl) (a26 (n + 3 + 1) _ n 0 s a (by omega) (hsS.full l0 _) hga (Nat.succ_pos _) (hT3.full cn)) (by simp only [go_sem, simprocAttr]) ?_
        rw [hos.has', hy']
        simp only [go_sem, simprocAttr]
        refine callT (fun_of Tryz.func14 rfl rfl) (a14 a hga) cn hT3 (by simp only [go_sem, simprocAttr]) ?_
        simp only [go_sem, simprocAttr, hv, beq_self_eq_true]
        refine callH (fun_of Tryz.func35 rfl rfl) (a35 (n + 3 + 1) _ n 0 (n + 2) 0 s c (by omega) (by omega) (hsS.full l0 _) (hsC.full l2 _) hos hoc (Nat.succ_pos _) (hT3.full cn)) (by simp only [go_sem, simprocAttr]) ?_
        rw [hcA, hq3]
        simp only [go_sem, simprocAttr, beq_self_eq_true]
        refine callH (fun_of Tryz.func35 rfl rfl) (a35 (n + 3 + 1) _ (n + 1) 0 (n + 2) 0 b c (by omega) (by omega) (hsB.full l1 _) (hsC.full l2 _) hob hoc (Nat.succ_pos _) (hT3.full cn)) (by simp only [go_sem, simprocAttr]) ?_
        rw [hcA, hq2]
        simp only [go_sem, simprocAttr, beq_self_eq_true]
        repeat refine kn rfl ?_
        refine k_ret rfl ?_
        exact post_oneQ (.refl _) (.bool _) ⟨rfl, hend _⟩
      · have hy' : s.A.any (eqA · a) = false := by rw [← hcA]; exact hy
        have hoc' : Ok (addT c a).1 := hoc.addT hga
        have e' : (addT c a).1.A = s.A ++ [a] := by rw [e, ← hcA]; rfl
        repeat refine kn rfl ?_
        refine k_region tok rfl (by kernel_rfl) ?_
        simp only [go_sem, simprocAttr]
        refine callT (fun_of Tryz.func14 rfl rfl) (a14 a hga) cn hT3 (by simp only [go_sem, simprocAttr]) ?_
        simp only [go_sem, simprocAttr, hv]
        refine callH (fun_of Tryz.func26 rfl rfl) (a26 (n + 3 + 1) _ n 0 s a (by omega) (hsS.full l0 _) hga (Nat.succ_pos _) (hT3.full cn)) (by simp only [go_sem, simprocAttr]) ?_
        rw [hos.has', hy']
        simp only [go_sem, simprocAttr]
        repeat refine kn rfl ?_
        refine k_region tok rfl (by kernel_rfl) ?_
        simp only [go_sem, simprocAttr]
        refine call23 rfl (n + 2) 0 c a rfl l2 hf2' hoc.fit hga cn hT2 (by simp only [go_sem, simprocAttr]) ?_
        rw [show (addT c a).2 = (true, 0) by rw [e]]
        simp only [go_sem, simprocAttr, eInt]
        generalize (addT c a).1 = c' at *
        have hsS : HasSto (put (put (put (cutH n H) n 0 s) (n + 1) 0 b) (n + 2) 0 c') n 0 s := ((HasSto.put _ n 0 s).skip (by omega)).skip (by omega)
        have hsB : HasSto (put (put (put (cutH n H) n 0 s) (n + 1) 0 b) (n + 2) 0 c') (n + 1) 0 b := (HasSto.put _ (n + 1) 0 b).skip (by omega)
        have hsC : HasSto (put (put (put (cutH n H) n 0 s) (n + 1) 0 b) (n + 2) 0 c') (n + 2) 0 c' := HasSto.put _ (n + 2) 0 c'
        have hT3 : Tabs (put (put (put (cutH n H) n 0 s) (n + 1) 0 b) (n + 2) 0 c') := hT2.put hf2' c'
        repeat refine kn rfl ?_
        refine k_draw tok mixed drawO rfl rfl (by kernel_rfl) (by kernel_rfl) ?_
        simp only [go_sem, simprocAttr, beq_self_eq_true]
        refine callH (fun_of Tryz.func26 rfl rfl) (a26 (n + 3 + 1) _ n 0 s a (by omega) (hsS.full l0 _) hga (Nat.succ_pos _) (hT3.full cn)) (by simp only [go_sem, simprocAttr]) ?_
        rw [hos.has', hy']
        simp only [go_sem, simprocAttr]
        refine callT (fun_of Tryz.func14 rfl rfl) (a14 a hga) cn hT3 (by simp only [go_sem, simprocAttr]) ?_
        simp only [go_sem, simprocAttr, hv, beq_self_eq_true]
        refine callH (fun_of Tryz.func35 rfl rfl) (a35 (n + 3 + 1) _ n 0 (n + 2) 0 s c' (by omega) (by omega) (hsS.full l0 _) (hsC.full l2 _) hos hoc' (Nat.succ_pos _) (hT3.full cn)) (by simp only [go_sem, simprocAttr]) ?_
        rw [eqS_len (by rw [e', List.length_append, List.length_singleton]; omega)]
        simp only [go_sem, simprocAttr, beq_self_eq_true]
        refine callH (fun_of Tryz.func35 rfl rfl) (a35 (n + 3 + 1) _ (n + 1) 0 (n + 2) 0 b c' (by omega) (by omega) (hsB.full l1 _) (hsC.full l2 _) hob hoc' (Nat.succ_pos _) (hT3.full cn)) (by simp only [go_sem, simprocAttr]) ?_
        rw [eqS_len (by rw [e', List.length_append, List.length_singleton]; omega)]
        simp only [go_sem, simprocAttr, beq_self_eq_true]
        repeat refine kn rfl ?_
        refine k_ret rfl ?_
        exact post_oneQ (.refl _) (.bool _) ⟨rfl, hend _⟩
end Go.Proofs.YtpoegdhgdgbmaaaGreatDoorR
