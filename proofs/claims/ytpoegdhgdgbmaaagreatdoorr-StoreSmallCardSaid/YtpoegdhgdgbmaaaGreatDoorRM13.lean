/- The reference's atoms: validity; comparisons. -/
import Derived.Test.YtpoegdhgdgbmaaaGreatDoorRM12
set_option linter.all false
namespace Go.Proofs.YtpoegdhgdgbmaaaGreatDoorR
open Go.Abs
set_option maxRecDepth 100000

def st15 (n : Nat) (a : Am) (H : AHeap) (i : Nat) : AState :=
  ⟨[(3, .int .i64 i), (1, .ptr n 1 0)], [(1, .box a.cs)], H⟩

theorem a15 (a : Am) (ha : a.Good) : PureT Tryz.prog 15 [a.enc] (.bool (validA a)) := by
  intro n H hn hT
  have hs := ha.pred
  have hl := ha.len
  refine a_fun tok (fun_of Tryz.func15 rfl rfl) (by simp) fun B => ?_
  repeat refine kn rfl ?_
  refine k_region tok rfl (by kernel_rfl) ?_
  simp only [go_sem, simprocAttr]
  repeat refine kn rfl ?_
  refine k_region tok rfl (by kernel_rfl) ?_
  simp only [go_sem, simprocAttr]
  refine callP (fun_of Tryz.func47 rfl rfl) (a47 a.pred (by omega)) (by simp only [go_sem, simprocAttr]) ?_
  simp only [go_sem, simprocAttr]
  cases h1 : sym a.pred with
  | false =>
    simp only [go_sem, simprocAttr]
    repeat refine kn rfl ?_
    refine k_cond_t rfl (by simp only [go_sem, simprocAttr]) ?_
    repeat refine kn rfl ?_
    refine k_region tok rfl (by kernel_rfl) ?_
    simp only [go_sem, simprocAttr]
    repeat refine kn rfl ?_
    refine k_ret rfl ?_
    refine post_one ?_ (.bool _) rfl
    try simp only [go_sem, simprocAttr, validA, h1]
    exact .refl _
  | true =>
  cases h2 : decide ((8 : Int) < (a.args.length : Int)) with
  | true =>
    have h2' : decide ((a.args.length : Int) ≤ 8) = false := by rw [decide_eq_false_iff_not]; rw [decide_eq_true_eq] at h2; omega
    simp only [go_sem, simprocAttr, h2]
    repeat refine kn rfl ?_
    refine k_cond_t rfl (by simp only [go_sem, simprocAttr]) ?_
    repeat refine kn rfl ?_
    refine k_region tok rfl (by kernel_rfl) ?_
    simp only [go_sem, simprocAttr]
    repeat refine kn rfl ?_
    refine k_ret rfl ?_
    refine post_one ?_ (.bool _) rfl
    try simp only [go_sem, simprocAttr, validA, h1, h2']
    exact .refl _
  | false =>
  have h2' : decide ((a.args.length : Int) ≤ 8) = true := by rw [decide_eq_true_eq]; rw [decide_eq_false_iff_not] at h2; omega
  simp only [go_sem, simprocAttr, h2]
  repeat refine kn rfl ?_
  refine k_cond_f rfl (by simp only [go_sem, simprocAttr]) ?_
  repeat refine kn rfl ?_
  refine k_region tok rfl (by kernel_rfl) ?_
  simp only [go_sem, simprocAttr]
  repeat refine kn rfl ?_
  have hy : validA a = a.args.all valueT := by simp only [validA, h1, h2']; rfl
  refine k_loop_p (st15 n a H) (fun i => ∀ j (h : j < a.args.length), j < i → valueT a.args[j] = true) a.args.length rfl ?_ (fun j _ h => absurd h (Nat.not_lt_zero _)) ?_
  · refine AWk_kept ?_ ?_ ?_ ?_ <;> repeat' first | exact trivial | refine q0 ?_ | exact qb | exact q1 | exact q2 | exact q3 | exact rfl | refine And.intro ?_ ?_ | exact q4 | exact q5 | exact q6 | exact q7 | exact Inside.ptr _ _ _ (.inr ⟨rfl, rfl⟩) | exact q8 | exact q9 | exact qd | exact Tm.ins _ | exact Tm.inss _ _ | exact Am.ins _ | exact Am.inss _ _ | refine ins_buf_str ?_ | refine Tm.ins_buf ?_ | refine Am.ins_buf ?_ | exact qf
  intro i hi hq
  refine k_st rfl ?_
  rcases Nat.lt_or_ge i a.args.length with h | h
  · repeat refine kn rfl ?_
    refine k_region tok rfl (by kernel_rfl) ?_
    simp only [go_sem, simprocAttr, h]
    repeat refine kn rfl ?_
    refine k_cond_t rfl (by simp only [go_sem, simprocAttr]) ?_
    repeat refine kn rfl ?_
    refine k_region tok rfl (by kernel_rfl) ?_
    simp only [go_sem, simprocAttr, Tm.getD_enc _ _ h, h]
    refine callT (fun_of Tryz.func48 rfl rfl) (a48 a.args[i] (ha.arg (List.getElem_mem h))) hn hT (by simp only [go_sem, simprocAttr]) ?_
    simp only [go_sem, simprocAttr]
    cases h5 : valueT a.args[i] with
    | false =>
      simp only [go_sem, simprocAttr]
      repeat refine kn rfl ?_
      refine k_cond_t rfl (by simp only [go_sem, simprocAttr]) ?_
      repeat refine kn rfl ?_
      refine k_region tok rfl (by kernel_rfl) ?_
      simp only [go_sem, simprocAttr]
      repeat refine kn rfl ?_
      refine k_ret_round rfl ?_
      refine post_one ?_ (.bool _) rfl
      have : a.args.all valueT = false := by
        rw [List.all_eq_false]; exact ⟨_, List.getElem_mem h, by rw [h5]; simp⟩
      simp only [go_sem, simprocAttr, hy, this]
      exact .refl _
    | true =>
      simp only [go_sem, simprocAttr]
      repeat refine kn rfl ?_
      refine k_cond_f rfl (by simp only [go_sem, simprocAttr]) ?_
      repeat refine kn rfl ?_
      refine k_region tok rfl (by kernel_rfl) ?_
      simp only [go_sem, simprocAttr]
      repeat refine kn rfl ?_
      refine k_nil ?_
      refine ⟨fun j hj hji => ?_, ?_⟩
      · rcases Nat.lt_or_ge j i with h' | h'
        · exact hq j hj h'
        · have : j = i := by omega
          subst this; exact h5
      · refine AWk_kept ?_ ?_ ?_ ?_ <;> repeat' first | exact trivial | refine q0 ?_ | exact qb | exact q1 | exact q2 | exact q3 | exact rfl | refine And.intro ?_ ?_ | exact q4 | exact q5 | exact q6 | exact q7 | exact Inside.ptr _ _ _ (.inr ⟨rfl, rfl⟩) | exact q8 | exact q9 | exact qd | exact Tm.ins _ | exact Tm.inss _ _ | exact Am.ins _ | exact Am.inss _ _ | refine ins_buf_str ?_ | refine Tm.ins_buf ?_ | refine Am.ins_buf ?_ | exact qf
        · simp only [go_sem, simprocAttr]
          rw [IntWalk.i64_in _ (by omega)]; exact .refl _
  · repeat refine kn rfl ?_
    refine k_region tok rfl (by kernel_rfl) ?_
    simp only [go_sem, simprocAttr, Nat.not_lt.2 h]
    repeat refine kn rfl ?_
    refine k_cond_f rfl (by simp only [go_sem, simprocAttr]) ?_
    repeat refine kn rfl ?_
    refine k_exit_round rfl rfl rfl ?_
    repeat refine kn rfl ?_
    refine k_region tok rfl (by kernel_rfl) ?_
    simp only [go_sem, simprocAttr]
    repeat refine kn rfl ?_
    refine k_ret rfl ?_
    refine post_one ?_ (.bool _) rfl
    have : a.args.all valueT = true := by
      rw [List.all_eq_true]; intro x hx
      obtain ⟨j, hj, rfl⟩ := List.getElem_of_mem hx
      exact hq j hj (by omega)
    simp only [go_sem, simprocAttr, hy, this]
    exact .refl _

theorem a89 (a b : Int) : Pure Tryz.prog 89 [.int .i64 a, .int .i64 b] (.int .i64 (ncmp a b)) := by
  intro n H
  refine a_fun tok (fun_of Tryz.func89 rfl rfl) (by simp) fun B => ?_
  repeat refine kn rfl ?_
  refine k_region tok rfl (by kernel_rfl) ?_
  simp only [go_sem, simprocAttr]
  cases h1 : decide (a < b) with
  | true =>
    repeat refine kn rfl ?_
    refine k_region tok rfl (by kernel_rfl) ?_
    simp only [go_sem, simprocAttr, h1]
    repeat refine kn rfl ?_
    refine k_cond_t rfl (by simp only [go_sem, simprocAttr]) ?_
    repeat refine kn rfl ?_
    refine k_region tok rfl (by kernel_rfl) ?_
    simp only [go_sem, simprocAttr]
    repeat refine kn rfl ?_
    refine k_ret rfl ?_
    refine post_one ?_ (.int _ _) rfl
    try simp only [go_sem, simprocAttr, ncmp, of_decide_eq_true h1]
    exact .refl _
  | false =>
    repeat refine kn rfl ?_
    refine k_region tok rfl (by kernel_rfl) ?_
    simp only [go_sem, simprocAttr, h1]
    repeat refine kn rfl ?_
    refine k_cond_f rfl (by simp only [go_sem, simprocAttr]) ?_
    cases h2 : decide (b < a) with
    | true =>
      repeat refine kn rfl ?_
      refine k_region tok rfl (by kernel_rfl) ?_
      simp only [go_sem, simprocAttr, h2]
      repeat refine kn rfl ?_
      refine k_cond_t rfl (by simp only [go_sem, simprocAttr]) ?_
      repeat refine kn rfl ?_
      refine k_region tok rfl (by kernel_rfl) ?_
      simp only [go_sem, simprocAttr]
      repeat refine kn rfl ?_
      refine k_ret rfl ?_
      refine post_one ?_ (.int _ _) rfl
      try simp only [go_sem, simprocAttr, ncmp, of_decide_eq_false h1, of_decide_eq_true h2]
      exact .refl _
    | false =>
      repeat refine kn rfl ?_
      refine k_region tok rfl (by kernel_rfl) ?_
      simp only [go_sem, simprocAttr, h2]
      repeat refine kn rfl ?_
      refine k_cond_f rfl (by simp only [go_sem, simprocAttr]) ?_
      repeat refine kn rfl ?_
      refine k_region tok rfl (by kernel_rfl) ?_
      simp only [go_sem, simprocAttr]
      repeat refine kn rfl ?_
      refine k_ret rfl ?_
      refine post_one ?_ (.int _ _) rfl
      try simp only [go_sem, simprocAttr, ncmp, of_decide_eq_false h1, of_decide_eq_false h2]
      exact .refl _

theorem a87 (a : Int) : Pure Tryz.prog 87 [.int .i64 a] (.bool false) := by
  intro n H
  refine a_fun tok (fun_of Tryz.func87 rfl rfl) (by simp) fun B => ?_
  repeat refine kn rfl ?_
  refine k_region tok rfl (by kernel_rfl) ?_
  simp only [go_sem, simprocAttr]
  repeat refine kn rfl ?_
  refine k_region tok rfl (by kernel_rfl) ?_
  simp only [go_sem, simprocAttr, bne]
  repeat refine kn rfl ?_
  refine k_ret rfl ?_
  refine post_one ?_ (.bool _) rfl
  try simp only [go_sem, simprocAttr]
  exact .refl _

theorem a51 (a b : Int) : Pure Tryz.prog 51 [.int .i64 a, .int .i64 b] (.int .i64 (ncmp a b)) := by
  intro n H
  refine a_fun tok (fun_of Tryz.func51 rfl rfl) (by simp) fun B => ?_
  repeat refine kn rfl ?_
  refine k_region tok rfl (by kernel_rfl) ?_
  simp only [go_sem, simprocAttr]
  repeat refine kn rfl ?_
  refine k_region tok rfl (by kernel_rfl) ?_
  simp only [go_sem, simprocAttr]
  refine callP (fun_of Tryz.func87 rfl rfl) (a87 a) (by simp only [go_sem, simprocAttr]) ?_
  simp only [go_sem, simprocAttr]
  repeat refine kn rfl ?_
  refine k_region tok rfl (by kernel_rfl) ?_
  simp only [go_sem, simprocAttr]
  refine callP (fun_of Tryz.func87 rfl rfl) (a87 b) (by simp only [go_sem, simprocAttr]) ?_
  simp only [go_sem, simprocAttr]
  repeat refine kn rfl ?_
  refine k_region tok rfl (by kernel_rfl) ?_
  simp only [go_sem, simprocAttr]
  repeat refine kn rfl ?_
  refine k_cond_f rfl (by simp only [go_sem, simprocAttr]) ?_
  repeat refine kn rfl ?_
  refine k_region tok rfl (by kernel_rfl) ?_
  simp only [go_sem, simprocAttr]
  repeat refine kn rfl ?_
  refine k_cond_f rfl (by simp only [go_sem, simprocAttr]) ?_
  cases h1 : decide (a < b) with
  | true =>
    repeat refine kn rfl ?_
    refine k_region tok rfl (by kernel_rfl) ?_
    simp only [go_sem, simprocAttr, h1]
    repeat refine kn rfl ?_
    refine k_cond_t rfl (by simp only [go_sem, simprocAttr]) ?_
    repeat refine kn rfl ?_
    refine k_region tok rfl (by kernel_rfl) ?_
    simp only [go_sem, simprocAttr]
    repeat refine kn rfl ?_
    refine k_ret rfl ?_
    refine post_one ?_ (.int _ _) rfl
    try simp only [go_sem, simprocAttr, ncmp, of_decide_eq_true h1]
    exact .refl _
  | false =>
    repeat refine kn rfl ?_
    refine k_region tok rfl (by kernel_rfl) ?_
    simp only [go_sem, simprocAttr, h1]
    repeat refine kn rfl ?_
    refine k_cond_f rfl (by simp only [go_sem, simprocAttr]) ?_
    cases h2 : decide (b < a) with
    | true =>
      repeat refine kn rfl ?_
      refine k_region tok rfl (by kernel_rfl) ?_
      simp only [go_sem, simprocAttr, h2]
      repeat refine kn rfl ?_
      refine k_cond_t rfl (by simp only [go_sem, simprocAttr]) ?_
      repeat refine kn rfl ?_
      refine k_region tok rfl (by kernel_rfl) ?_
      simp only [go_sem, simprocAttr]
      repeat refine kn rfl ?_
      refine k_ret rfl ?_
      refine post_one ?_ (.int _ _) rfl
      try simp only [go_sem, simprocAttr, ncmp, of_decide_eq_false h1, of_decide_eq_true h2]
      exact .refl _
    | false =>
      repeat refine kn rfl ?_
      refine k_region tok rfl (by kernel_rfl) ?_
      simp only [go_sem, simprocAttr, h2]
      repeat refine kn rfl ?_
      refine k_cond_f rfl (by simp only [go_sem, simprocAttr]) ?_
      repeat refine kn rfl ?_
      refine k_region tok rfl (by kernel_rfl) ?_
      simp only [go_sem, simprocAttr]
      repeat refine kn rfl ?_
      refine k_ret rfl ?_
      refine post_one ?_ (.int _ _) rfl
      try simp only [go_sem, simprocAttr, ncmp, of_decide_eq_false h1, of_decide_eq_false h2]
      exact .refl _

theorem cmp_texts (a b : List UInt8) : (if Op.bytesLess a b = true then (-1 : Int) else if (!(Op.bytesLess a b || a == b)) = true then 1 else 0) = Lib.compareBytes a b := by
  rw [less_cmp]
  by_cases h : a = b
  · subst h; simp [cmpBytes_self]
  · rcases cmpBytes_val a b with h1 | h1 | h1
    · simp [h1]
    · exact absurd (cmpBytes_zero h1) h
    · simp [h1, h]

theorem a91 (a b : List UInt8) : Pure Tryz.prog 91 [.str a, .str b] (.int .i64 (Lib.compareBytes a b)) := by
  intro n H
  have hc := cmp_texts a b
  refine a_fun tok (fun_of Tryz.func91 rfl rfl) (by simp) fun B => ?_
  repeat refine kn rfl ?_
  refine k_region tok rfl (by kernel_rfl) ?_
  simp only [go_sem, simprocAttr]
  cases h1 : Op.bytesLess a b with
  | true =>
    repeat refine kn rfl ?_
    refine k_region tok rfl (by kernel_rfl) ?_
    simp only [go_sem, simprocAttr, h1]
    repeat refine kn rfl ?_
    refine k_cond_t rfl (by simp only [go_sem, simprocAttr]) ?_
    repeat refine kn rfl ?_
    refine k_region tok rfl (by kernel_rfl) ?_
    simp only [go_sem, simprocAttr]
    rw [h1] at hc
    simp only [reduceIte] at hc
    repeat refine kn rfl ?_
    refine k_ret rfl ?_
    refine post_one ?_ (.int _ _) rfl
    try simp only [go_sem, simprocAttr, ← hc]
    exact .refl _
  | false =>
    repeat refine kn rfl ?_
    refine k_region tok rfl (by kernel_rfl) ?_
    simp only [go_sem, simprocAttr, h1]
    repeat refine kn rfl ?_
    refine k_cond_f rfl (by simp only [go_sem, simprocAttr]) ?_
    rw [h1] at hc
    cases h2 : (a == b) with
    | true =>
      rw [h2] at hc
      repeat refine kn rfl ?_
      refine k_region tok rfl (by kernel_rfl) ?_
      simp only [go_sem, simprocAttr, h1, h2, Bool.false_or]
      repeat refine kn rfl ?_
      refine k_cond_f rfl (by simp only [go_sem, simprocAttr]) ?_
      repeat refine kn rfl ?_
      refine k_region tok rfl (by kernel_rfl) ?_
      simp only [go_sem, simprocAttr]
      simp only [Bool.false_eq_true, reduceIte, Bool.or_true, Bool.not_true] at hc
      repeat refine kn rfl ?_
      refine k_ret rfl ?_
      refine post_one ?_ (.int _ _) rfl
      try simp only [go_sem, simprocAttr, ← hc]
      exact .refl _
    | false =>
      rw [h2] at hc
      repeat refine kn rfl ?_
      refine k_region tok rfl (by kernel_rfl) ?_
      simp only [go_sem, simprocAttr, h1, h2, Bool.false_or]
      repeat refine kn rfl ?_
      refine k_cond_t rfl (by simp only [go_sem, simprocAttr]) ?_
      repeat refine kn rfl ?_
      refine k_region tok rfl (by kernel_rfl) ?_
      simp only [go_sem, simprocAttr]
      simp only [Bool.false_eq_true, reduceIte, Bool.or_self, Bool.not_false] at hc
      repeat refine kn rfl ?_
      refine k_ret rfl ?_
      refine post_one ?_ (.int _ _) rfl
      try simp only [go_sem, simprocAttr, ← hc]
      exact .refl _

def orL : List Int → Int
  | [] => 0
  | a :: r => thn a (orL r)

theorem orL_at {l : List Int} {i : Nat} (h : i < l.length) (hn : l[i] ≠ 0) (hq : ∀ j (h : j < l.length), j < i → l[j] = 0) : orL l = l[i] := by
  induction l generalizing i with
  | nil => exact absurd h (Nat.not_lt_zero _)
  | cons a r ih =>
    cases i with
    | zero => simp only [List.getElem_cons_zero] at hn ⊢; rw [orL, thn_ne hn]
    | succ i =>
      have h0 := hq 0 (by simp) (by omega)
      simp only [List.getElem_cons_zero] at h0
      subst h0
      simp only [List.getElem_cons_succ] at hn ⊢
      rw [orL, thn_zero]
      exact ih (by simpa using h) hn (fun j hj hji => by have := hq (j + 1) (by simpa using hj) (by omega); simpa using this)

theorem orL_none {l : List Int} (hq : ∀ j (h : j < l.length), l[j] = 0) : orL l = 0 := by
  induction l with
  | nil => rfl
  | cons a r ih =>
    have h0 := hq 0 (by simp)
    simp only [List.getElem_cons_zero] at h0
    rw [orL, h0, thn_zero]
    exact ih (fun j hj => by have := hq (j + 1) (by simpa using hj); simpa using this)

theorem ins_full {n k : Nat} {p : Nat → Prop} {xs : List AV} (hx : ∀ x ∈ xs, Below n x) : Inside n p (.sl k xs .full) :=
  .sl k xs _ (fun i hi c hc => (((hx _ (List.getElem_mem hi)).cells _ (List.getElem_mem hc))).inside) (fun l j e => by cases e)
theorem blw_ints {n : Nat} (k : IntKind) (l : List Int) : ∀ x ∈ l.map (AV.int k), Below n x := fun x hx => by obtain ⟨u, _, rfl⟩ := List.mem_map.1 hx; exact .int _ _
theorem getD_ints (l : List Int) (i : Nat) (h : i < l.length) (d : AV) : (l.map eInt).getD i d = .int .i64 l[i] := getD_map eInt l i h d

def st49 (l : List Int) (H : AHeap) (i : Nat) : AState :=
  ⟨[(8, .int .i64 i), (7, .int .i64 l.length), (6, .sl 1 (l.map eInt) .full), (3, .int .i64 0)], [], H⟩

theorem a49 (l : List Int) (hl : l.length ≤ 1000000) : Pure Tryz.prog 49 [.sl 1 (l.map eInt) .full] (.int .i64 (orL l)) := by
  intro n H
  refine a_fun tok (fun_of Tryz.func49 rfl rfl) (by simp) fun B => ?_
  repeat refine kn rfl ?_
  refine k_region tok rfl (by kernel_rfl) ?_
  simp only [go_sem, simprocAttr]
  repeat refine kn rfl ?_
  refine k_region tok rfl (by kernel_rfl) ?_
  simp only [go_sem, simprocAttr]
  repeat refine kn rfl ?_
  refine k_region tok rfl (by kernel_rfl) ?_
  simp only [go_sem, simprocAttr]
  repeat refine kn rfl ?_
  refine k_loop_p (st49 l H) (fun i => ∀ j (h : j < l.length), j < i → l[j] = 0) l.length rfl ?_ (fun j _ h => absurd h (Nat.not_lt_zero _)) ?_
  · refine AWk_kept ?_ ?_ ?_ ?_ <;> repeat' first | exact trivial | refine q0 ?_ | exact qb | exact q1 | exact q2 | exact q3 | exact rfl | refine And.intro ?_ ?_ | exact q4 | exact q5 | exact q6 | exact q7 | exact Inside.ptr _ _ _ (.inr ⟨rfl, rfl⟩) | exact q8 | exact q9 | exact qd | exact Tm.ins _ | exact Tm.inss _ _ | exact Am.ins _ | exact Am.inss _ _ | refine ins_buf_str ?_ | refine Tm.ins_buf ?_ | refine Am.ins_buf ?_ | exact qf
    exact ins_full (blw_ints .i64 l)
  intro i hi hq
  refine k_st rfl ?_
  rcases Nat.lt_or_ge i l.length with h | h
  · repeat refine kn rfl ?_
    refine k_region tok rfl (by kernel_rfl) ?_
    simp only [go_sem, simprocAttr, h]
    repeat refine kn rfl ?_
    refine k_cond_t rfl (by simp only [go_sem, simprocAttr]) ?_
    repeat refine kn rfl ?_
    refine k_region tok rfl (by kernel_rfl) ?_
    simp only [go_sem, simprocAttr, getD_ints _ _ h, h]
    repeat refine kn rfl ?_
    refine k_region tok rfl (by kernel_rfl) ?_
    simp only [go_sem, simprocAttr]
    cases h5 : (l[i] == 0) with
    | false =>
      simp only [go_sem, simprocAttr, bne, h5]
      repeat refine kn rfl ?_
      refine k_cond_t rfl (by simp only [go_sem, simprocAttr]) ?_
      repeat refine kn rfl ?_
      refine k_region tok rfl (by kernel_rfl) ?_
      simp only [go_sem, simprocAttr]
      repeat refine kn rfl ?_
      refine k_ret_round rfl ?_
      refine post_one ?_ (.int _ _) rfl
      rw [orL_at h (by simpa using h5) hq]
      exact .refl _
    | true =>
      simp only [go_sem, simprocAttr, bne, h5]
      repeat refine kn rfl ?_
      refine k_cond_f rfl (by simp only [go_sem, simprocAttr]) ?_
      repeat refine kn rfl ?_
      refine k_region tok rfl (by kernel_rfl) ?_
      simp only [go_sem, simprocAttr]
      repeat refine kn rfl ?_
      refine k_nil ?_
      refine ⟨fun j hj hji => ?_, ?_⟩
      · rcases Nat.lt_or_ge j i with h' | h'
        · exact hq j hj h'
        · have : j = i := by omega
          subst this; simpa using h5
      · refine AWk_kept ?_ ?_ ?_ ?_ <;> repeat' first | exact trivial | refine q0 ?_ | exact qb | exact q1 | exact q2 | exact q3 | exact rfl | refine And.intro ?_ ?_ | exact q4 | exact q5 | exact q6 | exact q7 | exact Inside.ptr _ _ _ (.inr ⟨rfl, rfl⟩) | exact q8 | exact q9 | exact qd | exact Tm.ins _ | exact Tm.inss _ _ | exact Am.ins _ | exact Am.inss _ _ | refine ins_buf_str ?_ | refine Tm.ins_buf ?_ | refine Am.ins_buf ?_ | exact qf
        · simp only [go_sem, simprocAttr]
          rw [IntWalk.i64_in _ (by omega)]; exact .refl _
        · exact ins_full (blw_ints .i64 l)
  · repeat refine kn rfl ?_
    refine k_region tok rfl (by kernel_rfl) ?_
    simp only [go_sem, simprocAttr, Nat.not_lt.2 h]
    repeat refine kn rfl ?_
    refine k_cond_f rfl (by simp only [go_sem, simprocAttr]) ?_
    repeat refine kn rfl ?_
    refine k_exit_round rfl rfl rfl ?_
    repeat refine kn rfl ?_
    refine k_region tok rfl (by kernel_rfl) ?_
    simp only [go_sem, simprocAttr]
    repeat refine kn rfl ?_
    refine k_ret rfl ?_
    refine post_one ?_ (.int _ _) rfl
    rw [orL_none (fun j hj => hq j hj (by omega))]
    exact .refl _

def idxI (l : List Int) (k : Int) : Int := idxF (fun x => k == x) l

def st119 (l : List Int) (k : Int) (H : AHeap) (i : Nat) : AState :=
  ⟨[(8, .int .i64 i), (7, .int .i64 l.length), (0, .sl 1 (l.map (AV.int .u8)) .full), (1, .int .u8 k)], [], H⟩

theorem a119 (l : List Int) (k : Int) (hl : l.length ≤ 1000000) : Pure Tryz.prog 119 [.sl 1 (l.map (AV.int .u8)) .full, .int .u8 k] (.int .i64 (idxI l k)) := by
  intro n H
  refine a_fun tok (fun_of Tryz.func119 rfl rfl) (by simp) fun B => ?_
  repeat refine kn rfl ?_
  refine k_region tok rfl (by kernel_rfl) ?_
  simp only [go_sem, simprocAttr]
  repeat refine kn rfl ?_
  refine k_region tok rfl (by kernel_rfl) ?_
  simp only [go_sem, simprocAttr]
  repeat refine kn rfl ?_
  refine k_loop_p (st119 l k H) (fun i => ∀ j (h : j < l.length), j < i → (k == l[j]) = false) l.length rfl ?_ (fun j _ h => absurd h (Nat.not_lt_zero _)) ?_
  · refine AWk_kept ?_ ?_ ?_ ?_ <;> repeat' first | exact trivial | refine q0 ?_ | exact qb | exact q1 | exact q2 | exact q3 | exact rfl | refine And.intro ?_ ?_ | exact q4 | exact q5 | exact q6 | exact q7 | exact Inside.ptr _ _ _ (.inr ⟨rfl, rfl⟩) | exact q8 | exact q9 | exact qd | exact Tm.ins _ | exact Tm.inss _ _ | exact Am.ins _ | exact Am.inss _ _ | refine ins_buf_str ?_ | refine Tm.ins_buf ?_ | refine Am.ins_buf ?_ | exact qf
    exact ins_full (blw_ints .u8 l)
  intro i hi hq
  refine k_st rfl ?_
  rcases Nat.lt_or_ge i l.length with h | h
  · repeat refine kn rfl ?_
    refine k_region tok rfl (by kernel_rfl) ?_
    simp only [go_sem, simprocAttr, h]
    repeat refine kn rfl ?_
    refine k_cond_t rfl (by simp only [go_sem, simprocAttr]) ?_
    repeat refine kn rfl ?_
    refine k_region tok rfl (by kernel_rfl) ?_
    simp only [go_sem, simprocAttr]
    repeat refine kn rfl ?_
    refine k_region tok rfl (by kernel_rfl) ?_
    simp only [go_sem, simprocAttr, getD_map (AV.int .u8) l i h, h]
    cases h5 : (k == l[i]) with
    | true =>
      repeat refine kn rfl ?_
      refine k_cond_t rfl (by simp only [go_sem, simprocAttr, h5]) ?_
      repeat refine kn rfl ?_
      refine k_region tok rfl (by kernel_rfl) ?_
      simp only [go_sem, simprocAttr]
      repeat refine kn rfl ?_
      refine k_ret_round rfl ?_
      refine post_one ?_ (.int _ _) rfl
      rw [idxI, idxF_at h h5 hq]
      exact .refl _
    | false =>
      repeat refine kn rfl ?_
      refine k_cond_f rfl (by simp only [go_sem, simprocAttr, h5]) ?_
      repeat refine kn rfl ?_
      refine k_region tok rfl (by kernel_rfl) ?_
      simp only [go_sem, simprocAttr]
      repeat refine kn rfl ?_
      refine k_nil ?_
      refine ⟨fun j hj hji => ?_, ?_⟩
      · rcases Nat.lt_or_ge j i with h' | h'
        · exact hq j hj h'
        · have : j = i := by omega
          subst this; exact h5
      · refine AWk_kept ?_ ?_ ?_ ?_ <;> repeat' first | exact trivial | refine q0 ?_ | exact qb | exact q1 | exact q2 | exact q3 | exact rfl | refine And.intro ?_ ?_ | exact q4 | exact q5 | exact q6 | exact q7 | exact Inside.ptr _ _ _ (.inr ⟨rfl, rfl⟩) | exact q8 | exact q9 | exact qd | exact Tm.ins _ | exact Tm.inss _ _ | exact Am.ins _ | exact Am.inss _ _ | refine ins_buf_str ?_ | refine Tm.ins_buf ?_ | refine Am.ins_buf ?_ | exact qf
        · simp only [go_sem, simprocAttr]
          rw [IntWalk.i64_in _ (by omega)]; exact .refl _
        · exact ins_full (blw_ints .u8 l)
  · repeat refine kn rfl ?_
    refine k_region tok rfl (by kernel_rfl) ?_
    simp only [go_sem, simprocAttr, Nat.not_lt.2 h]
    repeat refine kn rfl ?_
    refine k_cond_f rfl (by simp only [go_sem, simprocAttr]) ?_
    repeat refine kn rfl ?_
    refine k_exit_round rfl rfl rfl ?_
    repeat refine kn rfl ?_
    refine k_region tok rfl (by kernel_rfl) ?_
    simp only [go_sem, simprocAttr]
    repeat refine kn rfl ?_
    refine k_ret rfl ?_
    refine post_one ?_ (.int _ _) rfl
    rw [idxI, idxF_none (fun j hj => hq j hj (by omega))]
    exact .refl _

theorem idx_rank (k : Int) : idxI [1, 2, 4, 3, 5, 6] k = if k = 1 then 0 else if k = 2 then 1 else if k = 4 then 2 else if k = 3 then 3 else if k = 5 then 4 else if k = 6 then 5 else -1 := by
  by_cases h1 : k = 1
  · subst h1; rfl
  by_cases h2 : k = 2
  · subst h2; rfl
  by_cases h4 : k = 4
  · subst h4; rfl
  by_cases h3 : k = 3
  · subst h3; rfl
  by_cases h5 : k = 5
  · subst h5; rfl
  by_cases h6 : k = 6
  · subst h6; rfl
  unfold idxI idxF
  simp [h1, h2, h3, h4, h5, h6]

theorem rank_idx (k : Int) : rank k = if 0 ≤ idxI [1, 2, 4, 3, 5, 6] k then idxI [1, 2, 4, 3, 5, 6] k else 6 + k := by
  rw [idx_rank]; unfold rank
  repeat' split
  all_goals first | rfl | omega

theorem a88 (k : Int) (hk : 0 ≤ k ∧ k ≤ 255) : Pure Tryz.prog 88 [.int .u8 k] (.int .i64 (rank k)) := by
  intro n H
  have hr := rank_idx k
  have ha := a119 [1, 2, 4, 3, 5, 6] k (by decide)
  simp only [List.map_cons, List.map_nil] at ha
  generalize idxI [1, 2, 4, 3, 5, 6] k = i at ha hr
  refine a_fun tok (fun_of Tryz.func88 rfl rfl) (by simp) fun B => ?_
  repeat refine kn rfl ?_
  refine k_region tok rfl (by kernel_rfl) ?_
  simp only [go_sem, simprocAttr]
  repeat refine kn rfl ?_
  refine k_region tok rfl (by kernel_rfl) ?_
  simp only [go_sem, simprocAttr]
  refine ⟨by decide, ?_⟩
  repeat refine kn rfl ?_
  refine k_region tok rfl (by kernel_rfl) ?_
  simp only [go_sem, simprocAttr]
  refine callP (fun_of Tryz.func119 rfl rfl) (ha) (by simp only [go_sem, simprocAttr]) ?_
  simp only [go_sem, simprocAttr]
  cases h1 : decide (0 ≤ i) with
  | true =>
    repeat refine kn rfl ?_
    refine k_region tok rfl (by kernel_rfl) ?_
    simp only [go_sem, simprocAttr, h1]
    repeat refine kn rfl ?_
    refine k_cond_t rfl (by simp only [go_sem, simprocAttr]) ?_
    repeat refine kn rfl ?_
    refine k_region tok rfl (by kernel_rfl) ?_
    simp only [go_sem, simprocAttr]
    repeat refine kn rfl ?_
    refine k_ret rfl ?_
    refine post_one ?_ (.int _ _) rfl
    rw [hr, if_pos (of_decide_eq_true h1)]
    exact .refl _
  | false =>
    repeat refine kn rfl ?_
    refine k_region tok rfl (by kernel_rfl) ?_
    simp only [go_sem, simprocAttr, h1]
    repeat refine kn rfl ?_
    refine k_cond_f rfl (by simp only [go_sem, simprocAttr]) ?_
    repeat refine kn rfl ?_
    refine k_region tok rfl (by kernel_rfl) ?_
    simp only [go_sem, simprocAttr]
    repeat refine kn rfl ?_
    refine k_ret rfl ?_
    refine post_one ?_ (.int _ _) rfl
    simp only [go_sem, simprocAttr]
    rw [hr, if_neg (of_decide_eq_false h1), IntWalk.i64_in k (by omega), IntWalk.i64_in _ (by omega)]
    exact .refl _

/-- The reference's place of a kind. -/
theorem a90 (k : Int) (hk : 0 ≤ k ∧ k ≤ 255) : Pure Tryz.prog 90 [.int .u8 k] (.int .i64 (rank k + 1)) := by
  intro n H
  refine a_fun tok (fun_of Tryz.func90 rfl rfl) (by simp) fun B => ?_
  repeat refine kn rfl ?_
  refine k_region tok rfl (by kernel_rfl) ?_
  simp only [go_sem, simprocAttr]
  repeat refine kn rfl ?_
  refine k_region tok rfl (by kernel_rfl) ?_
  simp only [go_sem, simprocAttr]
  by_cases h1 : k = 1
  · subst h1
    repeat refine kn rfl ?_
    refine k_region tok rfl (by kernel_rfl) ?_
    simp only [go_sem, simprocAttr]
    repeat refine kn rfl ?_
    refine k_cond_t rfl (by simp only [go_sem, simprocAttr]) ?_
    repeat refine kn rfl ?_
    refine k_cond_t rfl (by simp only [go_sem, simprocAttr]) ?_
    repeat refine kn rfl ?_
    refine k_region tok rfl (by kernel_rfl) ?_
    simp only [go_sem, simprocAttr]
    repeat refine kn rfl ?_
    refine k_ret rfl ?_
    exact post_one (.refl _) (.int _ _) rfl
  have e1 : (k == 1) = false := by simpa using h1
  by_cases h2 : k = 2
  · subst h2
    repeat refine kn rfl ?_
    refine k_region tok rfl (by kernel_rfl) ?_
    simp only [go_sem, simprocAttr]
    repeat refine kn rfl ?_
    refine k_cond_f rfl (by simp only [go_sem, simprocAttr]) ?_
    repeat refine kn rfl ?_
    refine k_region tok rfl (by kernel_rfl) ?_
    simp only [go_sem, simprocAttr]
    repeat refine kn rfl ?_
    refine k_cond_t rfl (by simp only [go_sem, simprocAttr]) ?_
    repeat refine kn rfl ?_
    refine k_region tok rfl (by kernel_rfl) ?_
    simp only [go_sem, simprocAttr]
    repeat refine kn rfl ?_
    refine k_ret rfl ?_
    exact post_one (.refl _) (.int _ _) rfl
  have e2 : (k == 2) = false := by simpa using h2
  repeat refine kn rfl ?_
  refine k_region tok rfl (by kernel_rfl) ?_
  simp only [go_sem, simprocAttr, e1]
  repeat refine kn rfl ?_
  refine k_cond_f rfl (by simp only [go_sem, simprocAttr]) ?_
  repeat refine kn rfl ?_
  refine k_region tok rfl (by kernel_rfl) ?_
  simp only [go_sem, simprocAttr, e2]
  repeat refine kn rfl ?_
  refine k_cond_f rfl (by simp only [go_sem, simprocAttr]) ?_
  by_cases h4 : k = 4
  · subst h4
    repeat refine kn rfl ?_
    refine k_region tok rfl (by kernel_rfl) ?_
    simp only [go_sem, simprocAttr]
    repeat refine kn rfl ?_
    refine k_cond_t rfl (by simp only [go_sem, simprocAttr]) ?_
    repeat refine kn rfl ?_
    refine k_region tok rfl (by kernel_rfl) ?_
    simp only [go_sem, simprocAttr]
    repeat refine kn rfl ?_
    refine k_ret rfl ?_
    exact post_one (.refl _) (.int _ _) rfl
  have e4 : (k == 4) = false := by simpa using h4
  repeat refine kn rfl ?_
  refine k_region tok rfl (by kernel_rfl) ?_
  simp only [go_sem, simprocAttr, e4]
  repeat refine kn rfl ?_
  refine k_cond_f rfl (by simp only [go_sem, simprocAttr]) ?_
  by_cases h3 : k = 3
  · subst h3
    repeat refine kn rfl ?_
    refine k_region tok rfl (by kernel_rfl) ?_
    simp only [go_sem, simprocAttr]
    repeat refine kn rfl ?_
    refine k_cond_t rfl (by simp only [go_sem, simprocAttr]) ?_
    repeat refine kn rfl ?_
    refine k_region tok rfl (by kernel_rfl) ?_
    simp only [go_sem, simprocAttr]
    repeat refine kn rfl ?_
    refine k_ret rfl ?_
    exact post_one (.refl _) (.int _ _) rfl
  have e3 : (k == 3) = false := by simpa using h3
  repeat refine kn rfl ?_
  refine k_region tok rfl (by kernel_rfl) ?_
  simp only [go_sem, simprocAttr, e3]
  repeat refine kn rfl ?_
  refine k_cond_f rfl (by simp only [go_sem, simprocAttr]) ?_
  by_cases h5 : k = 5
  · subst h5
    repeat refine kn rfl ?_
    refine k_region tok rfl (by kernel_rfl) ?_
    simp only [go_sem, simprocAttr]
    repeat refine kn rfl ?_
    refine k_cond_t rfl (by simp only [go_sem, simprocAttr]) ?_
    repeat refine kn rfl ?_
    refine k_cond_t rfl (by simp only [go_sem, simprocAttr]) ?_
    repeat refine kn rfl ?_
    refine k_region tok rfl (by kernel_rfl) ?_
    simp only [go_sem, simprocAttr]
    repeat refine kn rfl ?_
    refine k_ret rfl ?_
    exact post_one (.refl _) (.int _ _) rfl
  have e5 : (k == 5) = false := by simpa using h5
  repeat refine kn rfl ?_
  refine k_region tok rfl (by kernel_rfl) ?_
  simp only [go_sem, simprocAttr, e5]
  repeat refine kn rfl ?_
  refine k_cond_f rfl (by simp only [go_sem, simprocAttr]) ?_
  by_cases h6 : k = 6
  · subst h6
    repeat refine kn rfl ?_
    refine k_region tok rfl (by kernel_rfl) ?_
    simp only [go_sem, simprocAttr]
    repeat refine kn rfl ?_
    refine k_cond_t rfl (by simp only [go_sem, simprocAttr]) ?_
    repeat refine kn rfl ?_
    refine k_region tok rfl (by kernel_rfl) ?_
    simp only [go_sem, simprocAttr]
    repeat refine kn rfl ?_
    refine k_ret rfl ?_
    exact post_one (.refl _) (.int _ _) rfl
  have e6 : (k == 6) = false := by simpa using h6
  repeat refine kn rfl ?_
  refine k_region tok rfl (by kernel_rfl) ?_
  simp only [go_sem, simprocAttr, e6]
  repeat refine kn rfl ?_
  refine k_cond_f rfl (by simp only [go_sem, simprocAttr]) ?_
  have hr : rank k + 1 = k + 7 := by simp only [rank, h1, h2, h3, h4, h5, h6, if_false]; omega
  repeat refine kn rfl ?_
  refine k_region tok rfl (by kernel_rfl) ?_
  simp only [go_sem, simprocAttr]
  repeat refine kn rfl ?_
  refine k_ret rfl ?_
  refine post_one ?_ (.int _ _) rfl
  simp only [go_sem, simprocAttr]
  rw [hr, IntWalk.i64_in k (by omega), IntWalk.i64_in _ (by omega)]
  exact .refl _

/-- Two lists of terms compared by a function value. -/
structure CmpF (f : Nat) (p q : List Tm) : Prop where
  fn : ∃ fn c, Fun Tryz.prog f fn c
  on : ∀ x ∈ p, ∀ y ∈ q, Pure Tryz.prog f [x.enc, y.enc] (.int .i64 (cmpT x y))

def st52 (p q : List Tm) (f : Nat) (H : AHeap) (i : Nat) : AState :=
  ⟨[(13, .int .i64 i), (12, .int .i64 p.length), (11, .sl 4 (p.map Tm.enc) .any), (0, .sl 4 (p.map Tm.enc) .any), (1, .sl 4 (q.map Tm.enc) .any), (2, .fn (.func f) [])], [], H⟩

theorem cmps_drop (p q : List Tm) (i : Nat) (h : i < p.length) (h' : i < q.length) : cmpT.cmps (p.drop i) (q.drop i) = thn (cmpT p[i] q[i]) (cmpT.cmps (p.drop (i + 1)) (q.drop (i + 1))) := by
  rw [List.drop_eq_getElem_cons h, List.drop_eq_getElem_cons h']; rfl

theorem a52 (p q : List Tm) (hp : p.length ≤ 1000000) (hq : q.length ≤ 1000000) (f : Nat) (hf : CmpF f p q) : Pure Tryz.prog 52 [.sl 4 (p.map Tm.enc) .any, .sl 4 (q.map Tm.enc) .any, .fn (.func f) []] (.int .i64 (cmpT.cmps p q)) := by
  intro n H
  obtain ⟨⟨fn, c, hf⟩, hon⟩ := hf
  have hfi : ∀ r, Inside n r (.fn (.func f) []) := fun r => Inside.fn _ _ (fun i h => absurd h (Nat.not_lt_zero _))
  refine a_fun tok (fun_of Tryz.func52 rfl rfl) (by simp) fun B => ?_
  repeat refine kn rfl ?_
  refine k_region tok rfl (by kernel_rfl) ?_
  simp only [go_sem, simprocAttr]
  repeat refine kn rfl ?_
  refine k_region tok rfl (by kernel_rfl) ?_
  simp only [go_sem, simprocAttr]
  repeat refine kn rfl ?_
  refine k_loop_p (st52 p q f H) (fun i => cmpT.cmps p q = cmpT.cmps (p.drop i) (q.drop i)) p.length rfl ?_ rfl ?_
  · refine AWk_kept ?_ ?_ ?_ ?_ <;> repeat' first | exact trivial | refine q0 ?_ | exact qb | exact q1 | exact q2 | exact q3 | exact rfl | refine And.intro ?_ ?_ | exact q4 | exact q5 | exact q6 | exact q7 | exact Inside.ptr _ _ _ (.inr ⟨rfl, rfl⟩) | exact q8 | exact q9 | exact qd | exact Tm.ins _ | exact Tm.inss _ _ | exact Am.ins _ | exact Am.inss _ _ | refine ins_buf_str ?_ | refine Tm.ins_buf ?_ | refine Am.ins_buf ?_ | exact qf
  intro i hi hc
  refine k_st rfl ?_
  rcases Nat.lt_or_ge i p.length with h | h
  · repeat refine kn rfl ?_
    refine k_region tok rfl (by kernel_rfl) ?_
    simp only [go_sem, simprocAttr, h]
    repeat refine kn rfl ?_
    refine k_cond_t rfl (by simp only [go_sem, simprocAttr]) ?_
    repeat refine kn rfl ?_
    refine k_region tok rfl (by kernel_rfl) ?_
    simp only [go_sem, simprocAttr, Tm.getD_enc _ _ h, h]
    rcases Nat.lt_or_ge i q.length with h' | h'
    · repeat refine kn rfl ?_
      refine k_region tok rfl (by kernel_rfl) ?_
      simp only [go_sem, simprocAttr, h', Nat.not_le.2 h']
      repeat refine kn rfl ?_
      refine k_cond_f rfl (by simp only [go_sem, simprocAttr]) ?_
      repeat refine kn rfl ?_
      refine k_region tok rfl (by kernel_rfl) ?_
      simp only [go_sem, simprocAttr, Tm.getD_enc _ _ h', h']
      repeat refine kn rfl ?_
      refine k_region tok rfl (by kernel_rfl) ?_
      simp only [go_sem, simprocAttr]
      refine callV (avs := [p[i].enc, q[i].enc]) rfl hf (hon _ (List.getElem_mem h) _ (List.getElem_mem h') _ _) rfl ?_
      simp only [go_sem, simprocAttr]
      cases h5 : (cmpT p[i] q[i] == 0) with
      | false =>
        repeat refine kn rfl ?_
        refine k_region tok rfl (by kernel_rfl) ?_
        simp only [go_sem, simprocAttr, bne, h5]
        repeat refine kn rfl ?_
        refine k_cond_t rfl (by simp only [go_sem, simprocAttr]) ?_
        repeat refine kn rfl ?_
        refine k_region tok rfl (by kernel_rfl) ?_
        simp only [go_sem, simprocAttr]
        repeat refine kn rfl ?_
        refine k_ret_round rfl ?_
        refine post_one ?_ (.int _ _) rfl
        rw [hc, cmps_drop p q i h h', thn_ne (by simpa using h5)]
        exact .refl _
      | true =>
        repeat refine kn rfl ?_
        refine k_region tok rfl (by kernel_rfl) ?_
        simp only [go_sem, simprocAttr, bne, h5]
        repeat refine kn rfl ?_
        refine k_cond_f rfl (by simp only [go_sem, simprocAttr]) ?_
        repeat refine kn rfl ?_
        refine k_region tok rfl (by kernel_rfl) ?_
        simp only [go_sem, simprocAttr]
        repeat refine kn rfl ?_
        refine k_nil ?_
        refine ⟨?_, ?_⟩
        · rw [hc, cmps_drop p q i h h', (by simpa using h5 : cmpT p[i] q[i] = 0), thn_zero]
        · refine AWk_kept ?_ ?_ ?_ ?_ <;> repeat' first | exact trivial | refine q0 ?_ | exact qb | exact q1 | exact q2 | exact q3 | exact rfl | refine And.intro ?_ ?_ | exact q4 | exact q5 | exact q6 | exact q7 | exact Inside.ptr _ _ _ (.inr ⟨rfl, rfl⟩) | exact q8 | exact q9 | exact qd | exact Tm.ins _ | exact Tm.inss _ _ | exact Am.ins _ | exact Am.inss _ _ | refine ins_buf_str ?_ | refine Tm.ins_buf ?_ | refine Am.ins_buf ?_ | exact qf
          simp only [go_sem, simprocAttr]
          rw [IntWalk.i64_in _ (by omega)]; exact .refl _
    · repeat refine kn rfl ?_
      refine k_region tok rfl (by kernel_rfl) ?_
      simp only [go_sem, simprocAttr, h']
      repeat refine kn rfl ?_
      refine k_cond_t rfl (by simp only [go_sem, simprocAttr]) ?_
      repeat refine kn rfl ?_
      refine k_region tok rfl (by kernel_rfl) ?_
      simp only [go_sem, simprocAttr]
      repeat refine kn rfl ?_
      refine k_ret_round rfl ?_
      refine post_one ?_ (.int _ _) rfl
      rw [hc, List.drop_eq_nil_of_le h', List.drop_eq_getElem_cons h]
      exact .refl _
  · repeat refine kn rfl ?_
    refine k_region tok rfl (by kernel_rfl) ?_
    simp only [go_sem, simprocAttr, Nat.not_lt.2 h]
    repeat refine kn rfl ?_
    refine k_cond_f rfl (by simp only [go_sem, simprocAttr]) ?_
    repeat refine kn rfl ?_
    refine k_exit_round rfl rfl rfl ?_
    have hi' : i = p.length := by omega
    subst hi'
    rw [List.drop_length] at hc
    cases h1 : decide (p.length < q.length) with
    | true =>
      repeat refine kn rfl ?_
      refine k_region tok rfl (by kernel_rfl) ?_
      simp only [go_sem, simprocAttr, h1]
      repeat refine kn rfl ?_
      refine k_cond_t rfl (by simp only [go_sem, simprocAttr]) ?_
      repeat refine kn rfl ?_
      refine k_region tok rfl (by kernel_rfl) ?_
      simp only [go_sem, simprocAttr]
      repeat refine kn rfl ?_
      refine k_ret rfl ?_
      refine post_one ?_ (.int _ _) rfl
      rw [hc, List.drop_eq_getElem_cons (by have := of_decide_eq_true h1; omega)]
      exact .refl _
    | false =>
      repeat refine kn rfl ?_
      refine k_region tok rfl (by kernel_rfl) ?_
      simp only [go_sem, simprocAttr, h1]
      repeat refine kn rfl ?_
      refine k_cond_f rfl (by simp only [go_sem, simprocAttr]) ?_
      repeat refine kn rfl ?_
      refine k_region tok rfl (by kernel_rfl) ?_
      simp only [go_sem, simprocAttr]
      repeat refine kn rfl ?_
      refine k_ret rfl ?_
      refine post_one ?_ (.int _ _) rfl
      rw [hc, List.drop_eq_nil_of_le (by have := of_decide_eq_false h1; omega)]
      exact .refl _
end Go.Proofs.YtpoegdhgdgbmaaaGreatDoorR

/- Comparisons of terms and atoms. -/
namespace Go.Proofs.YtpoegdhgdgbmaaaGreatDoorR
open Go.Abs
set_option maxRecDepth 100000

theorem a53x (a b : Tm) (ha : a.Good) (hb : b.Good) (hc : CmpF 53 a.args b.args) : Pure Tryz.prog 53 [a.enc, b.enc] (.int .i64 (cmpT a b)) := by
  intro n H
  have hla := ha.len
  have hlb := hb.len
  have hx := cmpT_eq a b
  refine a_fun tok (fun_of Tryz.func53 rfl rfl) (by simp) fun B => ?_
  repeat refine kn rfl ?_
  refine k_region tok rfl (by kernel_rfl) ?_
  simp only [go_sem, simprocAttr]
  repeat refine kn rfl ?_
  refine k_draw tok mixed drawO rfl rfl (by kernel_rfl) (by kernel_rfl) ?_
  simp only [go_sem, simprocAttr]
  refine callP (fun_of Tryz.func88 rfl rfl) (a88 a.kind ha.kind) (by simp only [go_sem, simprocAttr]) ?_
  simp only [go_sem, simprocAttr]
  refine callP (fun_of Tryz.func88 rfl rfl) (a88 b.kind hb.kind) (by simp only [go_sem, simprocAttr]) ?_
  simp only [go_sem, simprocAttr]
  refine callP (fun_of Tryz.func51 rfl rfl) (a51 (rank a.kind) (rank b.kind)) (by simp only [go_sem, simprocAttr]) ?_
  simp only [go_sem, simprocAttr]
  cases h1 : (ncmp (rank a.kind) (rank b.kind) == 0) with
  | false =>
    have h1' : ncmp (rank a.kind) (rank b.kind) ≠ 0 := by simpa using h1
    repeat refine kn rfl ?_
    refine k_region tok rfl (by kernel_rfl) ?_
    simp only [go_sem, simprocAttr, bne, h1]
    repeat refine kn rfl ?_
    refine k_cond_t rfl (by simp only [go_sem, simprocAttr]) ?_
    repeat refine kn rfl ?_
    refine k_region tok rfl (by kernel_rfl) ?_
    simp only [go_sem, simprocAttr]
    repeat refine kn rfl ?_
    refine k_ret rfl ?_
    refine post_one ?_ (.int _ _) rfl
    rw [hx, thn_ne h1']
    exact .refl _
  | true =>
  have h1' : ncmp (rank a.kind) (rank b.kind) = 0 := by simpa using h1
  rw [h1', thn_zero] at hx
  repeat refine kn rfl ?_
  refine k_region tok rfl (by kernel_rfl) ?_
  simp only [go_sem, simprocAttr, bne, h1]
  repeat refine kn rfl ?_
  refine k_cond_f rfl (by simp only [go_sem, simprocAttr]) ?_
  repeat refine kn rfl ?_
  refine k_region tok rfl (by kernel_rfl) ?_
  simp only [go_sem, simprocAttr]
  refine callP (fun_of Tryz.func51 rfl rfl) (a51 a.num b.num) (by simp only [go_sem, simprocAttr]) ?_
  simp only [go_sem, simprocAttr]
  cases h2 : (ncmp a.num b.num == 0) with
  | false =>
    have h2' : ncmp a.num b.num ≠ 0 := by simpa using h2
    cases h3 : (a.kind == 1) with
    | true =>
      have h3' : a.kind = 1 := by simpa using h3
      repeat refine kn rfl ?_
      refine k_region tok rfl (by kernel_rfl) ?_
      simp only [go_sem, simprocAttr, bne, h2, h3]
      repeat refine kn rfl ?_
      refine k_cond_t rfl (by simp only [go_sem, simprocAttr]) ?_
      repeat refine kn rfl ?_
      refine k_region tok rfl (by kernel_rfl) ?_
      simp only [go_sem, simprocAttr]
      repeat refine kn rfl ?_
      refine k_ret rfl ?_
      refine post_one ?_ (.int _ _) rfl
      rw [hx, if_pos h3', thn_ne h2']
      exact .refl _
    | false =>
      have h3' : ¬ a.kind = 1 := by simpa using h3
      repeat refine kn rfl ?_
      refine k_region tok rfl (by kernel_rfl) ?_
      simp only [go_sem, simprocAttr, bne, h2, h3]
      repeat refine kn rfl ?_
      refine k_cond_f rfl (by simp only [go_sem, simprocAttr]) ?_
      rw [if_neg h3', thn_zero] at hx
      repeat refine kn rfl ?_
      refine k_draw tok mixed drawO rfl rfl (by kernel_rfl) (by kernel_rfl) ?_
      simp only [go_sem, simprocAttr]
      refine callP (fun_of Tryz.func51 rfl rfl) (a51 a.args.length b.args.length) (by simp only [go_sem, simprocAttr]) ?_
      simp only [go_sem, simprocAttr]
      refine callP (fun_of Tryz.func50 rfl rfl) (a50 a.name b.name) (by simp only [go_sem, simprocAttr]) ?_
      simp only [go_sem, simprocAttr]
      refine callP (fun_of Tryz.func52 rfl rfl) (a52 a.args b.args hla hlb 53 hc) (by simp only [go_sem, simprocAttr]) ?_
      simp only [go_sem, simprocAttr]
      refine callP (fun_of Tryz.func51 rfl rfl) (a51 a.num b.num) (by simp only [go_sem, simprocAttr]) ?_
      simp only [go_sem, simprocAttr]
      refine ⟨by decide, ?_⟩
      have ho := a49 [ncmp a.args.length b.args.length, Lib.compareBytes a.name b.name, cmpT.cmps a.args b.args, ncmp a.num b.num] (by simp)
      simp only [List.map_cons, List.map_nil, eInt, orL, thn_right] at ho
      refine callP (fun_of Tryz.func49 rfl rfl) (ho) (by simp only [go_sem, simprocAttr]) ?_
      simp only [go_sem, simprocAttr]
      repeat refine kn rfl ?_
      refine k_ret rfl ?_
      refine post_one ?_ (.int _ _) rfl
      rw [hx]
      exact .refl _
  | true =>
    have h2' : ncmp a.num b.num = 0 := by simpa using h2
    repeat refine kn rfl ?_
    refine k_region tok rfl (by kernel_rfl) ?_
    simp only [go_sem, simprocAttr, bne, h2]
    repeat refine kn rfl ?_
    refine k_cond_f rfl (by simp only [go_sem, simprocAttr]) ?_
    rw [h2', (by split <;> rfl : (if a.kind = 1 then (0 : Int) else 0) = 0), thn_zero] at hx
    repeat refine kn rfl ?_
    refine k_draw tok mixed drawO rfl rfl (by kernel_rfl) (by kernel_rfl) ?_
    simp only [go_sem, simprocAttr]
    refine callP (fun_of Tryz.func51 rfl rfl) (a51 a.args.length b.args.length) (by simp only [go_sem, simprocAttr]) ?_
    simp only [go_sem, simprocAttr]
    refine callP (fun_of Tryz.func50 rfl rfl) (a50 a.name b.name) (by simp only [go_sem, simprocAttr]) ?_
    simp only [go_sem, simprocAttr]
    refine callP (fun_of Tryz.func52 rfl rfl) (a52 a.args b.args hla hlb 53 hc) (by simp only [go_sem, simprocAttr]) ?_
    simp only [go_sem, simprocAttr]
    refine callP (fun_of Tryz.func51 rfl rfl) (a51 a.num b.num) (by simp only [go_sem, simprocAttr]) ?_
    simp only [go_sem, simprocAttr]
    refine ⟨by decide, ?_⟩
    have ho := a49 [ncmp a.args.length b.args.length, Lib.compareBytes a.name b.name, cmpT.cmps a.args b.args, ncmp a.num b.num] (by simp)
    simp only [List.map_cons, List.map_nil, eInt, orL, thn_right] at ho
    refine callP (fun_of Tryz.func49 rfl rfl) (ho) (by simp only [go_sem, simprocAttr]) ?_
    simp only [go_sem, simprocAttr]
    repeat refine kn rfl ?_
    refine k_ret rfl ?_
    refine post_one ?_ (.int _ _) rfl
    rw [hx, h2']
    exact .refl _

theorem a53 (a b : Tm) (ha : a.Good) (hb : b.Good) : Pure Tryz.prog 53 [a.enc, b.enc] (.int .i64 (cmpT a b)) :=
  a53x a b ha hb ⟨⟨_, _, fun_of Tryz.func53 rfl rfl⟩, fun x hx y hy => a53 x y (ha.arg hx) (hb.arg hy)⟩
termination_by SizeOf.sizeOf a
decreasing_by exact Tm.size_lt hx

theorem cmp53 {a b : Am} (ha : a.Good) (hb : b.Good) : CmpF 53 a.args b.args := ⟨⟨_, _, fun_of Tryz.func53 rfl rfl⟩, fun x hx y hy => a53 x y (ha.arg hx) (hb.arg hy)⟩

theorem a16 (a b : Am) (ha : a.Good) (hb : b.Good) : Pure Tryz.prog 16 [a.enc, b.enc] (.int .i64 (cmpA a b)) := by
  intro n H
  have hla := ha.len
  have hlb := hb.len
  have hx : cmpA a b = thn (thn (Lib.compareBytes a.pred b.pred) (ncmp a.args.length b.args.length)) (cmpT.cmps a.args b.args) := by rw [cmpA, thn_assoc]
  have ho := a49 [Lib.compareBytes a.pred b.pred, ncmp a.args.length b.args.length] (by simp)
  simp only [List.map_cons, List.map_nil, eInt, orL, thn_right] at ho
  refine a_fun tok (fun_of Tryz.func16 rfl rfl) (by simp) fun B => ?_
  repeat refine kn rfl ?_
  refine k_region tok rfl (by kernel_rfl) ?_
  simp only [go_sem, simprocAttr]
  repeat refine kn rfl ?_
  refine k_draw tok mixed drawO rfl rfl (by kernel_rfl) (by kernel_rfl) ?_
  simp only [go_sem, simprocAttr]
  refine callP (fun_of Tryz.func50 rfl rfl) (a50 a.pred b.pred) (by simp only [go_sem, simprocAttr]) ?_
  simp only [go_sem, simprocAttr]
  refine callP (fun_of Tryz.func51 rfl rfl) (a51 a.args.length b.args.length) (by simp only [go_sem, simprocAttr]) ?_
  simp only [go_sem, simprocAttr]
  refine ⟨by decide, ?_⟩
  refine callP (fun_of Tryz.func49 rfl rfl) (ho) (by simp only [go_sem, simprocAttr]) ?_
  simp only [go_sem, simprocAttr]
  generalize thn (Lib.compareBytes a.pred b.pred) (ncmp a.args.length b.args.length) = c at hx
  cases h1 : (c == 0) with
  | false =>
    repeat refine kn rfl ?_
    refine k_region tok rfl (by kernel_rfl) ?_
    simp only [go_sem, simprocAttr, bne, h1]
    repeat refine kn rfl ?_
    refine k_cond_t rfl (by simp only [go_sem, simprocAttr]) ?_
    repeat refine kn rfl ?_
    refine k_region tok rfl (by kernel_rfl) ?_
    simp only [go_sem, simprocAttr]
    repeat refine kn rfl ?_
    refine k_ret rfl ?_
    refine post_one ?_ (.int _ _) rfl
    rw [hx, thn_ne (by simpa using h1)]
    exact .refl _
  | true =>
    have h1' : c = 0 := by simpa using h1
    repeat refine kn rfl ?_
    refine k_region tok rfl (by kernel_rfl) ?_
    simp only [go_sem, simprocAttr, bne, h1]
    repeat refine kn rfl ?_
    refine k_cond_f rfl (by simp only [go_sem, simprocAttr]) ?_
    repeat refine kn rfl ?_
    refine k_region tok rfl (by kernel_rfl) ?_
    simp only [go_sem, simprocAttr]
    refine callP (fun_of Tryz.func52 rfl rfl) (a52 a.args b.args hla hlb 53 (cmp53 ha hb)) (by simp only [go_sem, simprocAttr]) ?_
    simp only [go_sem, simprocAttr]
    repeat refine kn rfl ?_
    refine k_ret rfl ?_
    refine post_one ?_ (.int _ _) rfl
    rw [hx, h1', thn_zero]
    exact .refl _
end Go.Proofs.YtpoegdhgdgbmaaaGreatDoorR

/- The reference's comparisons. -/
namespace Go.Proofs.YtpoegdhgdgbmaaaGreatDoorR
open Go.Abs
set_option maxRecDepth 100000

def litO : Opt := ⟨true, true, fun d => if d = 27 then .lay true else .auto, [27]⟩
def appO : Opt := ⟨true, false, fun d => if d = 65 ∨ d = 73 then .heap else .auto, []⟩

theorem orL_append : ∀ (p q : List Int), orL (p ++ q) = thn (orL p) (orL q)
  | [], q => by rw [List.nil_append, orL, thn_zero]
  | a :: p, q => by rw [List.cons_append, orL, orL, orL_append p q, thn_assoc]

/-- The arguments' comparisons. -/
def zc (p q : List Tm) (i : Nat) : List Int := (List.zipWith cmpT p q).take i

theorem zc_succ (p q : List Tm) (i : Nat) (h : i < p.length) (h' : i < q.length) : zc p q (i + 1) = zc p q i ++ [cmpT p[i] q[i]] := by
  unfold zc
  rw [List.take_succ_eq_append_getElem (by simp; omega)]
  simp

theorem zc_len (p q : List Tm) (i : Nat) (h : i ≤ p.length) (h' : i ≤ q.length) : (zc p q i).length = i := by
  unfold zc; simp; omega

theorem orL_zc : ∀ (p q : List Tm), p.length = q.length → orL (List.zipWith cmpT p q) = cmpT.cmps p q
  | [], [], _ => rfl
  | [], _ :: _, h => by cases h
  | _ :: _, [], h => by cases h
  | a :: p, b :: q, h => by rw [List.zipWith_cons_cons, orL, cmpT.cmps, orL_zc p q (by simpa using h)]

def k1 (a b : Tm) : List Int := [ncmp (rank a.kind + 1) (rank b.kind + 1), if a.kind = 1 then ncmp a.num b.num else 0, ncmp a.args.length b.args.length, Lib.compareBytes a.name b.name]

theorem cmpT_orL (a b : Tm) : cmpT a b = orL (k1 a b ++ zc a.args b.args (min a.args.length b.args.length) ++ [ncmp a.num b.num]) := by
  have hz : zc a.args b.args (min a.args.length b.args.length) = List.zipWith cmpT a.args b.args := by
    unfold zc; rw [List.take_of_length_le (by simp)]
  have hr : ncmp (rank a.kind + 1) (rank b.kind + 1) = ncmp (rank a.kind) (rank b.kind) := by
    unfold ncmp; simp only [Int.add_lt_add_iff_right]
  rw [hz, cmpT_eq, orL_append, orL_append, k1, hr]
  simp only [orL, thn_right, thn_assoc]
  by_cases h : ncmp (a.args.length : Int) b.args.length = 0
  · rw [orL_zc _ _ (by have := ncmp_zero h; omega)]
  · simp only [thn_ne h]

def flI (l : List Int) : List AV := l.map eInt

theorem insM {n sz j k : Nat} {p : Nat → Prop} (h : p j) : Inside n p (.msl sz n j k) := .msl _ _ _ _ (.inr ⟨rfl, h⟩)
theorem insBI {n e sz i : Nat} {p : Nat → Prop} (l : List Int) : ABlk.Inside n p (.mbuf e sz (flI l) i) := ABlk.inside_mbuf fun c hc => by
  obtain ⟨u, _, rfl⟩ := List.mem_map.1 hc; exact .int _ _

theorem allI {n : Nat} {p : Nat → Prop} : ∀ l : List Int, AllP (fun c => Inside n p c) (l.map eInt)
  | [] => trivial
  | _ :: l => ⟨.int _ _, allI l⟩

theorem getD_flI (l : List Int) (i : Nat) (h : i < l.length) : (List.drop (i * 1) (flI l)).getD 0 AV.dead = .int .i64 l[i] := by
  rw [Nat.mul_one, List.getD_eq_getElem?_getD, List.getElem?_drop]
  simp [flI, h, eInt]
theorem len_flI (l : List Int) : (flI l).length = l.length := List.length_map ..

def s54 (n : Nat) (a b : Tm) (l : List Int) (H : AHeap) : AState :=
  ⟨[(5, .msl 1 n 27 l.length), (2, .ptr n 2 0), (3, .ptr n 3 0)], [(2, .box a.cs), (3, .box b.cs), (27, .mbuf 3 1 (flI l) l.length)], H⟩

def st54 (n : Nat) (a b : Tm) (H : AHeap) (i : Nat) : AState :=
  ⟨[(6, .int .i64 i), (5, .msl 1 n 27 (4 + i)), (2, .ptr n 2 0), (3, .ptr n 3 0)], [(2, .box a.cs), (3, .box b.cs), (27, .mbuf 3 1 (flI (k1 a b ++ zc a.args b.args i)) (4 + i))], H⟩

def st54b (n : Nat) (l : List Int) (H : AHeap) (i : Nat) : AState :=
  ⟨[(7, .int .i64 i), (5, .msl 1 n 27 l.length)], [(27, .mbuf 3 1 (flI l) l.length)], H⟩

theorem a54x (a b : Tm) (ha : a.Good) (hb : b.Good) (hc : ∀ x ∈ a.args, ∀ y ∈ b.args, PureT Tryz.prog 54 [x.enc, y.enc] (.int .i64 (cmpT x y))) : PureT Tryz.prog 54 [a.enc, b.enc] (.int .i64 (cmpT a b)) := by
  intro n H hn hT
  have hla := ha.len
  have hlb := hb.len
  have hx := cmpT_orL a b
  refine a_fun tok (fun_of Tryz.func54 rfl rfl) (by simp) fun B => ?_
  repeat refine kn rfl ?_
  refine k_region tok rfl (by kernel_rfl) ?_
  simp only [go_sem, simprocAttr]
  repeat refine kn rfl ?_
  refine k_draw tok mixed litO rfl rfl (by kernel_rfl) (by kernel_rfl) ?_
  simp only [go_sem, simprocAttr, litO, List.contains_cons, Nat.reduceBEq, Bool.or_false, Bool.or_self, Nat.reduceEqDiff]
  refine callPP (fun_of Tryz.func90 rfl rfl) (a90 a.kind ha.kind) (by simp only [go_sem, simprocAttr]) ?_
  simp only [go_sem, simprocAttr, litO, List.contains_cons, Nat.reduceBEq, Bool.or_false, Bool.or_self, Nat.reduceEqDiff]
  refine callPP (fun_of Tryz.func90 rfl rfl) (a90 b.kind hb.kind) (by simp only [go_sem, simprocAttr]) ?_
  simp only [go_sem, simprocAttr, litO, List.contains_cons, Nat.reduceBEq, Bool.or_false, Bool.or_self, Nat.reduceEqDiff]
  refine callPP (fun_of Tryz.func89 rfl rfl) (a89 (rank a.kind + 1) (rank b.kind + 1)) (by simp only [go_sem, simprocAttr]) ?_
  simp only [go_sem, simprocAttr, litO, List.contains_cons, Nat.reduceBEq, Bool.or_false, Bool.or_self, Nat.reduceEqDiff]
  refine callPP (fun_of Tryz.func89 rfl rfl) (a89 a.args.length b.args.length) (by simp only [go_sem, simprocAttr]) ?_
  simp only [go_sem, simprocAttr, litO, List.contains_cons, Nat.reduceBEq, Bool.or_false, Bool.or_self, Nat.reduceEqDiff]
  refine callPP (fun_of Tryz.func91 rfl rfl) (a91 a.name b.name) (by simp only [go_sem, simprocAttr]) ?_
  simp only [go_sem, simprocAttr, litO, List.contains_cons, Nat.reduceBEq, Bool.or_false, Bool.or_self, Nat.reduceEqDiff]
  refine ⟨by decide, ?_⟩
  repeat refine kn rfl ?_
  refine k_region tok rfl (by kernel_rfl) ?_
  simp only [go_sem, simprocAttr]
  repeat refine kn rfl ?_
  refine k_cut (s54 n a b (k1 a b) H) ?_ ?_
  · cases h1 : (a.kind == 1) with
    | false =>
      have h1' : ¬ a.kind = 1 := by simpa using h1
      repeat refine kn rfl ?_
      refine k_cond_f rfl (by simp only [go_sem, simprocAttr, h1]) ?_
      repeat refine kn rfl ?_
      refine k_nil ?_
      refine ⟨rfl, ?_⟩
      refine AWk_kept ?_ ?_ ?_ ?_ <;> repeat' first | exact trivial | refine q0 ?_ | exact qb | exact q1 | exact q2 | exact q3 | exact rfl | refine And.intro ?_ ?_ | exact q4 | exact q5 | exact q6 | exact q7 | exact Inside.ptr _ _ _ (.inr ⟨rfl, rfl⟩) | exact q8 | exact q9 | exact qd | exact Tm.ins _ | exact Tm.inss _ _ | exact Am.ins _ | exact Am.inss _ _ | refine ins_buf_str ?_ | refine Tm.ins_buf ?_ | refine Am.ins_buf ?_ | exact qf
      all_goals first | exact insM rfl | exact insBI _ | exact allI _ | skip
      simp only [go_sem, simprocAttr, flat_cons, flat_nil, flI, k1, if_neg h1', eInt]
    | true =>
      have h1' : a.kind = 1 := by simpa using h1
      repeat refine kn rfl ?_
      refine k_cond_t rfl (by simp only [go_sem, simprocAttr, h1]) ?_
      repeat refine kn rfl ?_
      refine k_region tok rfl (by kernel_rfl) ?_
      simp only [go_sem, simprocAttr]
      refine callP (fun_of Tryz.func89 rfl rfl) (a89 a.num b.num) (by simp only [go_sem, simprocAttr]) ?_
      simp only [go_sem, simprocAttr]
      refine ⟨by simp [flat, AV.cells], ?_⟩
      repeat refine kn rfl ?_
      refine k_nil ?_
      refine ⟨rfl, ?_⟩
      refine AWk_kept ?_ ?_ ?_ ?_ <;> repeat' first | exact trivial | refine q0 ?_ | exact qb | exact q1 | exact q2 | exact q3 | exact rfl | refine And.intro ?_ ?_ | exact q4 | exact q5 | exact q6 | exact q7 | exact Inside.ptr _ _ _ (.inr ⟨rfl, rfl⟩) | exact q8 | exact q9 | exact qd | exact Tm.ins _ | exact Tm.inss _ _ | exact Am.ins _ | exact Am.inss _ _ | refine ins_buf_str ?_ | refine Tm.ins_buf ?_ | refine Am.ins_buf ?_ | exact qf
      all_goals first | exact insM rfl | exact insBI _ | exact allI _ | skip
      simp only [go_sem, simprocAttr, flat_cons, flat_nil, flI, k1, if_pos h1', eInt]
  refine k_st rfl ?_
  repeat refine kn rfl ?_
  refine k_region tok rfl (by kernel_rfl) ?_
  simp only [go_sem, simprocAttr]
  repeat refine kn rfl ?_
  have hmin : min a.args.length b.args.length ≤ a.args.length := Nat.min_le_left _ _
  have hmin' : min a.args.length b.args.length ≤ b.args.length := Nat.min_le_right _ _
  refine k_loop_ix (st54 n a b H) (min a.args.length b.args.length) rfl ?_ ?_
  · refine AWk_kept ?_ ?_ ?_ ?_ <;> repeat' first | exact trivial | refine q0 ?_ | exact qb | exact q1 | exact q2 | exact q3 | exact rfl | refine And.intro ?_ ?_ | exact q4 | exact q5 | exact q6 | exact q7 | exact Inside.ptr _ _ _ (.inr ⟨rfl, rfl⟩) | exact q8 | exact q9 | exact qd | exact Tm.ins _ | exact Tm.inss _ _ | exact Am.ins _ | exact Am.inss _ _ | refine ins_buf_str ?_ | refine Tm.ins_buf ?_ | refine Am.ins_buf ?_ | exact qf
    all_goals first | exact insM rfl | exact insBI _ | exact allI _ | skip
  intro i hi
  refine k_st rfl ?_
  have hlen : (zc a.args b.args i).length = i := zc_len _ _ _ (by omega) (by omega)
  rcases Nat.lt_or_ge i (min a.args.length b.args.length) with h | h
  · have h' : i < a.args.length := by omega
    have h'' : i < b.args.length := by omega
    repeat refine kn rfl ?_
    refine k_region tok rfl (by kernel_rfl) ?_
    simp only [go_sem, simprocAttr, h', h'']
    repeat refine kn rfl ?_
    refine k_cond_t rfl (by simp only [go_sem, simprocAttr]) ?_
    repeat refine kn rfl ?_
    refine k_draw tok mixed appO rfl rfl (by kernel_rfl) (by kernel_rfl) ?_
    simp only [go_sem, simprocAttr, appO, Tm.getD_enc _ _ h', h', Tm.getD_enc _ _ h'', h'']
    refine callT (fun_of Tryz.func54 rfl rfl) (hc _ (List.getElem_mem h') _ (List.getElem_mem h'')) hn hT (by simp only [go_sem, simprocAttr]) ?_
    simp only [go_sem, simprocAttr]
    refine ⟨by decide, ⟨le_maxLen (by omega), by omega⟩, ?_⟩
    repeat refine kn rfl ?_
    refine k_region tok rfl (by kernel_rfl) ?_
    simp only [go_sem, simprocAttr]
    repeat refine kn rfl ?_
    refine k_nil ?_
    refine ⟨h, ?_⟩
    refine AWk_kept ?_ ?_ ?_ ?_ <;> repeat' first | exact trivial | refine q0 ?_ | exact qb | exact q1 | exact q2 | exact q3 | exact rfl | refine And.intro ?_ ?_ | exact q4 | exact q5 | exact q6 | exact q7 | exact Inside.ptr _ _ _ (.inr ⟨rfl, rfl⟩) | exact q8 | exact q9 | exact qd | exact Tm.ins _ | exact Tm.inss _ _ | exact Am.ins _ | exact Am.inss _ _ | refine ins_buf_str ?_ | refine Tm.ins_buf ?_ | refine Am.ins_buf ?_ | exact qf
    all_goals first | exact insM rfl | exact insBI _ | exact allI _ | skip
    · simp only [go_sem, simprocAttr]
      rw [IntWalk.i64_in _ (by omega)]; exact .refl _
    · simp only [go_sem, simprocAttr, flat_cons, flat_nil, flI, zc_succ _ _ _ h' h'', List.map_append, eInt, Nat.add_assoc, List.append_assoc]
  · have hi' : i = min a.args.length b.args.length := by omega
    subst hi'
    have hf : (decide (min a.args.length b.args.length < a.args.length) && decide (min a.args.length b.args.length < b.args.length)) = false := by
      rw [← Bool.not_eq_true, Bool.and_eq_true, decide_eq_true_eq, decide_eq_true_eq]; omega
    have hk : (k1 a b).length = 4 := rfl
    generalize min a.args.length b.args.length = m at *
    cases h1 : decide (m < a.args.length)
    all_goals
      rw [h1] at hf
      try simp only [Bool.true_and] at hf
      repeat refine kn rfl ?_
      refine k_region tok rfl (by kernel_rfl) ?_
      simp only [go_sem, simprocAttr, h1, hf]
      repeat refine kn rfl ?_
      refine k_cond_f rfl (by simp only [go_sem, simprocAttr]) ?_
      repeat refine kn rfl ?_
      refine k_exit_round rfl rfl rfl ?_
      repeat refine kn rfl ?_
      refine k_region tok rfl (by kernel_rfl) ?_
      simp only [go_sem, simprocAttr]
      refine callP (fun_of Tryz.func89 rfl rfl) (a89 a.num b.num) (by simp only [go_sem, simprocAttr]) ?_
      simp only [go_sem, simprocAttr]
      refine ⟨by decide, ⟨le_maxLen (by omega), by omega⟩, ?_⟩
      generalize hl : k1 a b ++ zc a.args b.args m ++ [ncmp a.num b.num] = l at hx
      have hL : 4 + m + 1 = l.length := by rw [← hl]; simp only [List.length_append, List.length_cons, List.length_nil]; omega
      have hfl : flI (k1 a b ++ zc a.args b.args m) ++ flat [AV.int IntKind.i64 (ncmp a.num b.num)] = flI l := by rw [← hl]; simp [flI, flat, AV.cells]
      rw [hfl, hL]
      repeat refine kn rfl ?_
      refine k_region tok rfl (by kernel_rfl) ?_
      simp only [go_sem, simprocAttr]
      repeat refine kn rfl ?_
      refine k_loop_p (st54b n l H) (fun i => ∀ j (h : j < l.length), j < i → l[j] = 0) l.length rfl ?_ (fun j _ h => absurd h (Nat.not_lt_zero _)) ?_
      · refine AWk_kept ?_ ?_ ?_ ?_ <;> repeat' first | exact trivial | refine q0 ?_ | exact qb | exact q1 | exact q2 | exact q3 | exact rfl | refine And.intro ?_ ?_ | exact q4 | exact q5 | exact q6 | exact q7 | exact Inside.ptr _ _ _ (.inr ⟨rfl, rfl⟩) | exact q8 | exact q9 | exact qd | exact Tm.ins _ | exact Tm.inss _ _ | exact Am.ins _ | exact Am.inss _ _ | refine ins_buf_str ?_ | refine Tm.ins_buf ?_ | refine Am.ins_buf ?_ | exact qf
        all_goals first | exact insM rfl | exact insBI _ | exact allI _ | skip
      intro i hi hq
      refine k_st rfl ?_
      rcases Nat.lt_or_ge i l.length with h | h
      · repeat refine kn rfl ?_
        refine k_region tok rfl (by kernel_rfl) ?_
        simp only [go_sem, simprocAttr, h]
        repeat refine kn rfl ?_
        refine k_cond_t rfl (by simp only [go_sem, simprocAttr]) ?_
        have hg := getD_flI l i h
        cases h5 : (l[i] == 0) with
        | false =>
          repeat refine kn rfl ?_
          refine k_region tok rfl (by kernel_rfl) ?_
          simp only [go_sem, simprocAttr, h, hg, bne, h5]
          refine ⟨⟨by omega, by rw [len_flI]; omega, by rw [len_flI]; omega⟩, ?_⟩
          repeat refine kn rfl ?_
          refine k_cond_t rfl (by simp only [go_sem, simprocAttr]) ?_
          repeat refine kn rfl ?_
          refine k_region tok rfl (by kernel_rfl) ?_
          simp only [go_sem, simprocAttr, h, hg]
          refine ⟨⟨by omega, by rw [len_flI]; omega, by rw [len_flI]; omega⟩, ?_⟩
          repeat refine kn rfl ?_
          refine k_ret_round rfl ?_
          refine post_one ?_ (.int _ _) rfl
          rw [hx, orL_at h (by simpa using h5) hq]
          exact .refl _
        | true =>
          repeat refine kn rfl ?_
          refine k_region tok rfl (by kernel_rfl) ?_
          simp only [go_sem, simprocAttr, h, hg, bne, h5]
          refine ⟨⟨by omega, by rw [len_flI]; omega, by rw [len_flI]; omega⟩, ?_⟩
          repeat refine kn rfl ?_
          refine k_cond_f rfl (by simp only [go_sem, simprocAttr]) ?_
          repeat refine kn rfl ?_
          refine k_region tok rfl (by kernel_rfl) ?_
          simp only [go_sem, simprocAttr]
          repeat refine kn rfl ?_
          refine k_nil ?_
          refine ⟨fun j hj hji => ?_, ?_⟩
          · rcases Nat.lt_or_ge j i with h' | h'
            · exact hq j hj h'
            · have : j = i := by omega
              subst this; simpa using h5
          · refine AWk_kept ?_ ?_ ?_ ?_ <;> repeat' first | exact trivial | refine q0 ?_ | exact qb | exact q1 | exact q2 | exact q3 | exact rfl | refine And.intro ?_ ?_ | exact q4 | exact q5 | exact q6 | exact q7 | exact Inside.ptr _ _ _ (.inr ⟨rfl, rfl⟩) | exact q8 | exact q9 | exact qd | exact Tm.ins _ | exact Tm.inss _ _ | exact Am.ins _ | exact Am.inss _ _ | refine ins_buf_str ?_ | refine Tm.ins_buf ?_ | refine Am.ins_buf ?_ | exact qf
            all_goals first | exact insM rfl | exact insBI _ | exact allI _ | skip
            simp only [go_sem, simprocAttr]
            rw [IntWalk.i64_in _ (by omega)]; exact .refl _
      · repeat refine kn rfl ?_
        refine k_region tok rfl (by kernel_rfl) ?_
        simp only [go_sem, simprocAttr, Nat.not_lt.2 h]
        repeat refine kn rfl ?_
        refine k_cond_f rfl (by simp only [go_sem, simprocAttr]) ?_
        repeat refine kn rfl ?_
        refine k_exit_round rfl rfl rfl ?_
        repeat refine kn rfl ?_
        refine k_region tok rfl (by kernel_rfl) ?_
        simp only [go_sem, simprocAttr]
        repeat refine kn rfl ?_
        refine k_ret rfl ?_
        refine post_one ?_ (.int _ _) rfl
        rw [hx, orL_none (fun j hj => hq j hj (by omega))]
        exact .refl _

theorem a54 (a b : Tm) (ha : a.Good) (hb : b.Good) : PureT Tryz.prog 54 [a.enc, b.enc] (.int .i64 (cmpT a b)) :=
  a54x a b ha hb fun x hx y hy => a54 x y (ha.arg hx) (hb.arg hy)
termination_by SizeOf.sizeOf a
decreasing_by exact Tm.size_lt hx
end Go.Proofs.YtpoegdhgdgbmaaaGreatDoorR
