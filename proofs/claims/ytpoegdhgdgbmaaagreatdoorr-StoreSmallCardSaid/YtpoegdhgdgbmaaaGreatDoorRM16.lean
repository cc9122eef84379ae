/- Same terms, atoms, lists; the laws' small helpers. -/
import Derived.Test.YtpoegdhgdgbmaaaGreatDoorRM15
set_option linter.all false
namespace Go.Proofs.YtpoegdhgdgbmaaaGreatDoorR
open Go.Abs
set_option maxRecDepth 100000

/-- Same lists. -/
def eqL {α : Type} (e : α → α → Bool) : List α → List α → Bool
  | [], [] => true
  | a :: x, b :: y => e a b && eqL e x y
  | _, _ => false

theorem eqL_len {α : Type} {e : α → α → Bool} : ∀ {p q : List α}, p.length ≠ q.length → eqL e p q = false
  | [], [], h => absurd rfl h
  | [], _ :: _, _ => rfl
  | _ :: _, [], _ => rfl
  | a :: p, b :: q, h => by rw [eqL, eqL_len (p := p) (q := q) (by simpa using h), Bool.and_false]

theorem eqL_true {α : Type} {e : α → α → Bool} : ∀ {p q : List α}, p.length = q.length → (∀ j (h : j < p.length) (h' : j < q.length), e p[j] q[j] = true) → eqL e p q = true
  | [], [], _, _ => rfl
  | [], _ :: _, h, _ => by cases h
  | _ :: _, [], h, _ => by cases h
  | a :: p, b :: q, h, hj => by
    have h0 := hj 0 (by simp) (by simp)
    simp only [List.getElem_cons_zero] at h0
    rw [eqL, h0, Bool.true_and]
    exact eqL_true (by simpa using h) (fun j h1 h2 => by have := hj (j + 1) (by simpa using h1) (by simpa using h2); simpa using this)

theorem eqL_false {α : Type} {e : α → α → Bool} : ∀ {p q : List α} {j : Nat} (h : j < p.length) (h' : j < q.length), e p[j] q[j] = false → eqL e p q = false
  | a :: p, b :: q, 0, _, _, hj => by simp only [List.getElem_cons_zero] at hj; rw [eqL, hj, Bool.false_and]
  | a :: p, b :: q, j + 1, h, h', hj => by
    simp only [List.getElem_cons_succ] at hj
    rw [eqL, eqL_false (by simpa using h) (by simpa using h') hj, Bool.and_false]

theorem eqL_iff {α : Type} {e : α → α → Bool} (he : ∀ a b, e a b = true ↔ a = b) : ∀ (p q : List α), eqL e p q = true ↔ p = q
  | [], [] => by simp [eqL]
  | [], _ :: _ => by simp [eqL]
  | _ :: _, [] => by simp [eqL]
  | a :: p, b :: q => by rw [eqL, Bool.and_eq_true, he, eqL_iff he p q, List.cons.injEq]

theorem eqs_eqL : ∀ p q : List Tm, eqT.eqs p q = eqL eqT p q
  | [], [] => rfl
  | [], _ :: _ => rfl
  | _ :: _, [] => rfl
  | a :: p, b :: q => by rw [eqT.eqs, eqL, eqs_eqL p q]

def st60 (p q : List Tm) (H : AHeap) (i : Nat) : AState :=
  ⟨[(5, .int .i64 i), (0, .sl 4 (p.map Tm.enc) .any), (1, .sl 4 (q.map Tm.enc) .any)], [], H⟩

theorem a60x (p q : List Tm) (hl : p.length ≤ 1000000) (hc : ∀ x ∈ p, ∀ y ∈ q, Pure Tryz.prog 62 [x.enc, y.enc] (.bool (eqT x y))) : Pure Tryz.prog 60 [.sl 4 (p.map Tm.enc) .any, .sl 4 (q.map Tm.enc) .any] (.bool (eqL eqT p q)) := by
  intro n H
  refine a_fun tok (fun_of Tryz.func60 rfl rfl) (by simp) fun B => ?_
  repeat refine kn rfl ?_
  refine k_region tok rfl (by kernel_rfl) ?_
  simp only [go_sem, simprocAttr]
  cases h4 : ((p.length : Int) == q.length) with
  | false =>
    repeat refine kn rfl ?_
    refine k_region tok rfl (by kernel_rfl) ?_
    simp only [go_sem, simprocAttr, bne, h4]
    repeat refine kn rfl ?_
    refine k_cond_t rfl (by simp only [go_sem, simprocAttr]) ?_
    repeat refine kn rfl ?_
    refine k_region tok rfl (by kernel_rfl) ?_
    simp only [go_sem, simprocAttr]
    repeat refine kn rfl ?_
    refine k_ret rfl ?_
    refine post_one ?_ (.bool _) rfl
    try simp only [go_sem, simprocAttr, eqL_len (nat_ne h4)]
    exact .refl _
  | true =>
  have hlen : p.length = q.length := nat_eq h4
  repeat refine kn rfl ?_
  refine k_region tok rfl (by kernel_rfl) ?_
  simp only [go_sem, simprocAttr, bne, h4]
  repeat refine kn rfl ?_
  refine k_cond_f rfl (by simp only [go_sem, simprocAttr]) ?_
  repeat refine kn rfl ?_
  refine k_region tok rfl (by kernel_rfl) ?_
  simp only [go_sem, simprocAttr]
  repeat refine kn rfl ?_
  refine k_loop_p (st60 p q H) (fun i => ∀ j (h : j < p.length), j < i → eqT p[j] (q[j]'(by omega)) = true) p.length rfl ?_ (fun j _ h => absurd h (Nat.not_lt_zero _)) ?_
  · refine AWk_kept ?_ ?_ ?_ ?_ <;> repeat' first | exact trivial | refine q0 ?_ | exact qb | exact q1 | exact q2 | exact q3 | exact rfl | refine And.intro ?_ ?_ | exact q4 | exact q5 | exact q6 | exact q7 | exact Inside.ptr _ _ _ (.inr ⟨rfl, rfl⟩) | exact q8 | exact q9 | exact qd | exact Tm.ins _ | exact Tm.inss _ _ | exact Am.ins _ | exact Am.inss _ _ | refine ins_buf_str ?_ | refine Tm.ins_buf ?_ | refine Am.ins_buf ?_ | exact qf
  intro i hi hq
  refine k_st rfl ?_
  rcases Nat.lt_or_ge i p.length with h | h
  · have h' : i < q.length := by omega
    repeat refine kn rfl ?_
    refine k_region tok rfl (by kernel_rfl) ?_
    simp only [go_sem, simprocAttr, h]
    repeat refine kn rfl ?_
    refine k_cond_t rfl (by simp only [go_sem, simprocAttr]) ?_
    repeat refine kn rfl ?_
    refine k_draw tok mixed drawO rfl rfl (by kernel_rfl) (by kernel_rfl) ?_
    simp only [go_sem, simprocAttr, Tm.getD_enc _ _ h, h, Tm.getD_enc _ _ h', h']
    refine callP (fun_of Tryz.func62 rfl rfl) (hc _ (List.getElem_mem h) _ (List.getElem_mem h')) (by simp only [go_sem, simprocAttr]) ?_
    simp only [go_sem, simprocAttr]
    cases h5 : eqT p[i] q[i] with
    | false =>
      repeat refine kn rfl ?_
      refine k_cond_t rfl (by simp only [go_sem, simprocAttr, h5]) ?_
      repeat refine kn rfl ?_
      refine k_region tok rfl (by kernel_rfl) ?_
      simp only [go_sem, simprocAttr]
      repeat refine kn rfl ?_
      refine k_ret_round rfl ?_
      refine post_one ?_ (.bool _) rfl
      simp only [go_sem, simprocAttr, eqL_false h h' h5]
      exact .refl _
    | true =>
      repeat refine kn rfl ?_
      refine k_cond_f rfl (by simp only [go_sem, simprocAttr, h5]) ?_
      repeat refine kn rfl ?_
      refine k_region tok rfl (by kernel_rfl) ?_
      simp only [go_sem, simprocAttr]
      repeat refine kn rfl ?_
      refine k_nil ?_
      refine ⟨fun j hj hji => ?_, ?_⟩
      · rcases Nat.lt_or_ge j i with h' | h'
        · exact hq j hj h'
        · have : j = i := by omega
          subst this; exact h5
      · refine AWk_kept ?_ ?_ ?_ ?_ <;> repeat' first | exact trivial | refine q0 ?_ | exact qb | exact q1 | exact q2 | exact q3 | exact rfl | refine And.intro ?_ ?_ | exact q4 | exact q5 | exact q6 | exact q7 | exact Inside.ptr _ _ _ (.inr ⟨rfl, rfl⟩) | exact q8 | exact q9 | exact qd | exact Tm.ins _ | exact Tm.inss _ _ | exact Am.ins _ | exact Am.inss _ _ | refine ins_buf_str ?_ | refine Tm.ins_buf ?_ | refine Am.ins_buf ?_ | exact qf
        simp only [go_sem, simprocAttr]
        rw [IntWalk.i64_in _ (by omega)]; exact .refl _
  · repeat refine kn rfl ?_
    refine k_region tok rfl (by kernel_rfl) ?_
    simp only [go_sem, simprocAttr, Nat.not_lt.2 h]
    repeat refine kn rfl ?_
    refine k_cond_f rfl (by simp only [go_sem, simprocAttr]) ?_
    repeat refine kn rfl ?_
    refine k_exit_round rfl rfl rfl ?_
    repeat refine kn rfl ?_
    refine k_region tok rfl (by kernel_rfl) ?_
    simp only [go_sem, simprocAttr]
    repeat refine kn rfl ?_
    refine k_ret rfl ?_
    refine post_one ?_ (.bool _) rfl
    simp only [go_sem, simprocAttr, eqL_true hlen (fun j h h' => hq j h (by omega))]
    exact .refl _

def st29 (p q : List Am) (H : AHeap) (i : Nat) : AState :=
  ⟨[(5, .int .i64 i), (0, .sl 2 (p.map Am.enc) .any), (1, .sl 2 (q.map Am.enc) .any)], [], H⟩

theorem a29x (p q : List Am) (hl : p.length ≤ 1000000) (hc : ∀ x ∈ p, ∀ y ∈ q, Pure Tryz.prog 28 [x.enc, y.enc] (.bool (eqA x y))) : Pure Tryz.prog 29 [.sl 2 (p.map Am.enc) .any, .sl 2 (q.map Am.enc) .any] (.bool (eqL eqA p q)) := by
  intro n H
  refine a_fun tok (fun_of Tryz.func29 rfl rfl) (by simp) fun B => ?_
  repeat refine kn rfl ?_
  refine k_region tok rfl (by kernel_rfl) ?_
  simp only [go_sem, simprocAttr]
  cases h4 : ((p.length : Int) == q.length) with
  | false =>
    repeat refine kn rfl ?_
    refine k_region tok rfl (by kernel_rfl) ?_
    simp only [go_sem, simprocAttr, bne, h4]
    repeat refine kn rfl ?_
    refine k_cond_t rfl (by simp only [go_sem, simprocAttr]) ?_
    repeat refine kn rfl ?_
    refine k_region tok rfl (by kernel_rfl) ?_
    simp only [go_sem, simprocAttr]
    repeat refine kn rfl ?_
    refine k_ret rfl ?_
    refine post_one ?_ (.bool _) rfl
    try simp only [go_sem, simprocAttr, eqL_len (nat_ne h4)]
    exact .refl _
  | true =>
  have hlen : p.length = q.length := nat_eq h4
  repeat refine kn rfl ?_
  refine k_region tok rfl (by kernel_rfl) ?_
  simp only [go_sem, simprocAttr, bne, h4]
  repeat refine kn rfl ?_
  refine k_cond_f rfl (by simp only [go_sem, simprocAttr]) ?_
  repeat refine kn rfl ?_
  refine k_region tok rfl (by kernel_rfl) ?_
  simp only [go_sem, simprocAttr]
  repeat refine kn rfl ?_
  refine k_loop_p (st29 p q H) (fun i => ∀ j (h : j < p.length), j < i → eqA p[j] (q[j]'(by omega)) = true) p.length rfl ?_ (fun j _ h => absurd h (Nat.not_lt_zero _)) ?_
  · refine AWk_kept ?_ ?_ ?_ ?_ <;> repeat' first | exact trivial | refine q0 ?_ | exact qb | exact q1 | exact q2 | exact q3 | exact rfl | refine And.intro ?_ ?_ | exact q4 | exact q5 | exact q6 | exact q7 | exact Inside.ptr _ _ _ (.inr ⟨rfl, rfl⟩) | exact q8 | exact q9 | exact qd | exact Tm.ins _ | exact Tm.inss _ _ | exact Am.ins _ | exact Am.inss _ _ | refine ins_buf_str ?_ | refine Tm.ins_buf ?_ | refine Am.ins_buf ?_ | exact qf
  intro i hi hq
  refine k_st rfl ?_
  rcases Nat.lt_or_ge i p.length with h | h
  · have h' : i < q.length := by omega
    repeat refine kn rfl ?_
    refine k_region tok rfl (by kernel_rfl) ?_
    simp only [go_sem, simprocAttr, h]
    repeat refine kn rfl ?_
    refine k_cond_t rfl (by simp only [go_sem, simprocAttr]) ?_
    repeat refine kn rfl ?_
    refine k_draw tok mixed drawO rfl rfl (by kernel_rfl) (by kernel_rfl) ?_
    simp only [go_sem, simprocAttr, Am.getD_enc _ _ h, h, Am.getD_enc _ _ h', h']
    refine callP (fun_of Tryz.func28 rfl rfl) (hc _ (List.getElem_mem h) _ (List.getElem_mem h')) (by simp only [go_sem, simprocAttr]) ?_
    simp only [go_sem, simprocAttr]
    cases h5 : eqA p[i] q[i] with
    | false =>
      repeat refine kn rfl ?_
      refine k_cond_t rfl (by simp only [go_sem, simprocAttr, h5]) ?_
      repeat refine kn rfl ?_
      refine k_region tok rfl (by kernel_rfl) ?_
      simp only [go_sem, simprocAttr]
      repeat refine kn rfl ?_
      refine k_ret_round rfl ?_
      refine post_one ?_ (.bool _) rfl
      simp only [go_sem, simprocAttr, eqL_false h h' h5]
      exact .refl _
    | true =>
      repeat refine kn rfl ?_
      refine k_cond_f rfl (by simp only [go_sem, simprocAttr, h5]) ?_
      repeat refine kn rfl ?_
      refine k_region tok rfl (by kernel_rfl) ?_
      simp only [go_sem, simprocAttr]
      repeat refine kn rfl ?_
      refine k_nil ?_
      refine ⟨fun j hj hji => ?_, ?_⟩
      · rcases Nat.lt_or_ge j i with h' | h'
        · exact hq j hj h'
        · have : j = i := by omega
          subst this; exact h5
      · refine AWk_kept ?_ ?_ ?_ ?_ <;> repeat' first | exact trivial | refine q0 ?_ | exact qb | exact q1 | exact q2 | exact q3 | exact rfl | refine And.intro ?_ ?_ | exact q4 | exact q5 | exact q6 | exact q7 | exact Inside.ptr _ _ _ (.inr ⟨rfl, rfl⟩) | exact q8 | exact q9 | exact qd | exact Tm.ins _ | exact Tm.inss _ _ | exact Am.ins _ | exact Am.inss _ _ | refine ins_buf_str ?_ | refine Tm.ins_buf ?_ | refine Am.ins_buf ?_ | exact qf
        simp only [go_sem, simprocAttr]
        rw [IntWalk.i64_in _ (by omega)]; exact .refl _
  · repeat refine kn rfl ?_
    refine k_region tok rfl (by kernel_rfl) ?_
    simp only [go_sem, simprocAttr, Nat.not_lt.2 h]
    repeat refine kn rfl ?_
    refine k_cond_f rfl (by simp only [go_sem, simprocAttr]) ?_
    repeat refine kn rfl ?_
    refine k_exit_round rfl rfl rfl ?_
    repeat refine kn rfl ?_
    refine k_region tok rfl (by kernel_rfl) ?_
    simp only [go_sem, simprocAttr]
    repeat refine kn rfl ?_
    refine k_ret rfl ?_
    refine post_one ?_ (.bool _) rfl
    simp only [go_sem, simprocAttr, eqL_true hlen (fun j h h' => hq j h (by omega))]
    exact .refl _

theorem a62 (a b : Tm) (ha : a.Good) : Pure Tryz.prog 62 [a.enc, b.enc] (.bool (eqT a b)) := by
  intro n H
  have hx := eqT_eq a b
  have hl := ha.len
  refine a_fun tok (fun_of Tryz.func62 rfl rfl) (by simp) fun B => ?_
  repeat refine kn rfl ?_
  refine k_region tok rfl (by kernel_rfl) ?_
  simp only [go_sem, simprocAttr]
  cases h1 : (a.kind == b.kind) with
  | false =>
    repeat refine kn rfl ?_
    refine k_region tok rfl (by kernel_rfl) ?_
    simp only [go_sem, simprocAttr, h1]
    repeat refine kn rfl ?_
    refine k_ret rfl ?_
    refine post_one ?_ (.bool _) rfl
    try simp only [go_sem, simprocAttr, hx, h1]
    exact .refl _
  | true =>
  cases h2 : (a.num == b.num) with
  | false =>
    repeat refine kn rfl ?_
    refine k_region tok rfl (by kernel_rfl) ?_
    simp only [go_sem, simprocAttr, h1, h2]
    repeat refine kn rfl ?_
    refine k_ret rfl ?_
    refine post_one ?_ (.bool _) rfl
    try simp only [go_sem, simprocAttr, hx, h1, h2]
    exact .refl _
  | true =>
  cases h3 : (a.name == b.name) with
  | false =>
    repeat refine kn rfl ?_
    refine k_region tok rfl (by kernel_rfl) ?_
    simp only [go_sem, simprocAttr, h1, h2, h3]
    repeat refine kn rfl ?_
    refine k_ret rfl ?_
    refine post_one ?_ (.bool _) rfl
    try simp only [go_sem, simprocAttr, hx, h1, h2, h3]
    exact .refl _
  | true =>
    repeat refine kn rfl ?_
    refine k_region tok rfl (by kernel_rfl) ?_
    simp only [go_sem, simprocAttr, h1, h2, h3]
    refine callP (fun_of Tryz.func60 rfl rfl) (a60x a.args b.args hl (fun x hx y _ => a62 x y (ha.arg hx))) (by simp only [go_sem, simprocAttr]) ?_
    simp only [go_sem, simprocAttr]
    repeat refine kn rfl ?_
    refine k_ret rfl ?_
    refine post_one ?_ (.bool _) rfl
    try simp only [go_sem, simprocAttr, hx, h1, h2, h3, eqs_eqL]
    exact .refl _
termination_by SizeOf.sizeOf a
decreasing_by exact Tm.size_lt hx

theorem a28 (a b : Am) (ha : a.Good) : Pure Tryz.prog 28 [a.enc, b.enc] (.bool (eqA a b)) := by
  intro n H
  have hx : eqA a b = ((a.pred == b.pred) && eqL eqT a.args b.args) := by rw [eqA, eqs_eqL]
  have hl := ha.len
  refine a_fun tok (fun_of Tryz.func28 rfl rfl) (by simp) fun B => ?_
  repeat refine kn rfl ?_
  refine k_region tok rfl (by kernel_rfl) ?_
  simp only [go_sem, simprocAttr]
  cases h3 : (a.pred == b.pred) with
  | false =>
    repeat refine kn rfl ?_
    refine k_region tok rfl (by kernel_rfl) ?_
    simp only [go_sem, simprocAttr, h3]
    repeat refine kn rfl ?_
    refine k_ret rfl ?_
    refine post_one ?_ (.bool _) rfl
    try simp only [go_sem, simprocAttr, hx, h3]
    exact .refl _
  | true =>
    repeat refine kn rfl ?_
    refine k_region tok rfl (by kernel_rfl) ?_
    simp only [go_sem, simprocAttr, h3]
    refine callP (fun_of Tryz.func60 rfl rfl) (a60x a.args b.args hl (fun x hx y _ => a62 x y (ha.arg hx))) (by simp only [go_sem, simprocAttr]) ?_
    simp only [go_sem, simprocAttr]
    repeat refine kn rfl ?_
    refine k_ret rfl ?_
    refine post_one ?_ (.bool _) rfl
    try simp only [go_sem, simprocAttr, hx, h3]
    exact .refl _

theorem a29 (p q : List Am) (hl : p.length ≤ 1000000) (hg : GoodL p) : Pure Tryz.prog 29 [.sl 2 (p.map Am.enc) .any, .sl 2 (q.map Am.enc) .any] (.bool (eqL eqA p q)) :=
  a29x p q hl fun x hx y _ => a28 x y (hg x hx)

def st41 (p q : List Sg) (H : AHeap) (i : Nat) : AState :=
  ⟨[(5, .int .i64 i), (0, .sl 2 (p.map Sg.enc) .any), (1, .sl 2 (q.map Sg.enc) .any)], [], H⟩

theorem a41 (p q : List Sg) (hl : p.length ≤ 1000000) : Pure Tryz.prog 41 [.sl 2 (p.map Sg.enc) .any, .sl 2 (q.map Sg.enc) .any] (.bool (eqL (fun a b : Sg => a == b) p q)) := by
  intro n H
  refine a_fun tok (fun_of Tryz.func41 rfl rfl) (by simp) fun B => ?_
  repeat refine kn rfl ?_
  refine k_region tok rfl (by kernel_rfl) ?_
  simp only [go_sem, simprocAttr]
  cases h4 : ((p.length : Int) == q.length) with
  | false =>
    repeat refine kn rfl ?_
    refine k_region tok rfl (by kernel_rfl) ?_
    simp only [go_sem, simprocAttr, bne, h4]
    repeat refine kn rfl ?_
    refine k_cond_t rfl (by simp only [go_sem, simprocAttr]) ?_
    repeat refine kn rfl ?_
    refine k_region tok rfl (by kernel_rfl) ?_
    simp only [go_sem, simprocAttr]
    repeat refine kn rfl ?_
    refine k_ret rfl ?_
    refine post_one ?_ (.bool _) rfl
    try simp only [go_sem, simprocAttr, eqL_len (nat_ne h4)]
    exact .refl _
  | true =>
  have hlen : p.length = q.length := nat_eq h4
  repeat refine kn rfl ?_
  refine k_region tok rfl (by kernel_rfl) ?_
  simp only [go_sem, simprocAttr, bne, h4]
  repeat refine kn rfl ?_
  refine k_cond_f rfl (by simp only [go_sem, simprocAttr]) ?_
  repeat refine kn rfl ?_
  refine k_region tok rfl (by kernel_rfl) ?_
  simp only [go_sem, simprocAttr]
  repeat refine kn rfl ?_
  refine k_loop_p (st41 p q H) (fun i => ∀ j (h : j < p.length), j < i → (p[j] == q[j]'(by omega)) = true) p.length rfl ?_ (fun j _ h => absurd h (Nat.not_lt_zero _)) ?_
  · refine AWk_kept ?_ ?_ ?_ ?_ <;> repeat' first | exact trivial | refine q0 ?_ | exact qb | exact q1 | exact q2 | exact q3 | exact rfl | refine And.intro ?_ ?_ | exact q4 | exact q5 | exact q6 | exact q7 | exact Inside.ptr _ _ _ (.inr ⟨rfl, rfl⟩) | exact q8 | exact q9 | exact qd | exact Tm.ins _ | exact Tm.inss _ _ | exact Am.ins _ | exact Am.inss _ _ | refine ins_buf_str ?_ | refine Tm.ins_buf ?_ | refine Am.ins_buf ?_ | exact qf
    all_goals exact Sg.inss _ _
  intro i hi hq
  refine k_st rfl ?_
  rcases Nat.lt_or_ge i p.length with h | h
  · have h' : i < q.length := by omega
    repeat refine kn rfl ?_
    refine k_region tok rfl (by kernel_rfl) ?_
    simp only [go_sem, simprocAttr, h]
    repeat refine kn rfl ?_
    refine k_cond_t rfl (by simp only [go_sem, simprocAttr]) ?_
    repeat refine kn rfl ?_
    refine k_draw tok mixed drawO rfl rfl (by kernel_rfl) (by kernel_rfl) ?_
    simp only [go_sem, simprocAttr, Sg.getD_enc _ _ h, h, Sg.getD_enc _ _ h', h', klAll, AV.kls, AV.kl, kl_sg]
    cases h5 : (p[i] == q[i]) with
    | false =>
      repeat refine kn rfl ?_
      refine k_cond_t rfl (by simp only [go_sem, simprocAttr, h5]) ?_
      repeat refine kn rfl ?_
      refine k_region tok rfl (by kernel_rfl) ?_
      simp only [go_sem, simprocAttr]
      repeat refine kn rfl ?_
      refine k_ret_round rfl ?_
      refine post_one ?_ (.bool _) rfl
      simp only [go_sem, simprocAttr, eqL_false (e := fun a b : Sg => a == b) h h' h5]
      exact .refl _
    | true =>
      repeat refine kn rfl ?_
      refine k_cond_f rfl (by simp only [go_sem, simprocAttr, h5]) ?_
      repeat refine kn rfl ?_
      refine k_region tok rfl (by kernel_rfl) ?_
      simp only [go_sem, simprocAttr]
      repeat refine kn rfl ?_
      refine k_nil ?_
      refine ⟨fun j hj hji => ?_, ?_⟩
      · rcases Nat.lt_or_ge j i with h' | h'
        · exact hq j hj h'
        · have : j = i := by omega
          subst this; exact h5
      · refine AWk_kept ?_ ?_ ?_ ?_ <;> repeat' first | exact trivial | refine q0 ?_ | exact qb | exact q1 | exact q2 | exact q3 | exact rfl | refine And.intro ?_ ?_ | exact q4 | exact q5 | exact q6 | exact q7 | exact Inside.ptr _ _ _ (.inr ⟨rfl, rfl⟩) | exact q8 | exact q9 | exact qd | exact Tm.ins _ | exact Tm.inss _ _ | exact Am.ins _ | exact Am.inss _ _ | refine ins_buf_str ?_ | refine Tm.ins_buf ?_ | refine Am.ins_buf ?_ | exact qf
        all_goals first | exact Sg.inss _ _ | skip
        simp only [go_sem, simprocAttr]
        rw [IntWalk.i64_in _ (by omega)]; exact .refl _
  · repeat refine kn rfl ?_
    refine k_region tok rfl (by kernel_rfl) ?_
    simp only [go_sem, simprocAttr, Nat.not_lt.2 h]
    repeat refine kn rfl ?_
    refine k_cond_f rfl (by simp only [go_sem, simprocAttr]) ?_
    repeat refine kn rfl ?_
    refine k_exit_round rfl rfl rfl ?_
    repeat refine kn rfl ?_
    refine k_region tok rfl (by kernel_rfl) ?_
    simp only [go_sem, simprocAttr]
    repeat refine kn rfl ?_
    refine k_ret rfl ?_
    refine post_one ?_ (.bool _) rfl
    simp only [go_sem, simprocAttr, eqL_true (e := fun a b : Sg => a == b) hlen (fun j h h' => hq j h (by omega))]
    exact .refl _

theorem a18 (p : List UInt8) (l : List Tm) : Pure Tryz.prog 18 [.str p, .sl 4 (l.map Tm.enc) .any] (Am.mk p l).enc := by
  intro n H
  refine a_fun tok (fun_of Tryz.func18 rfl rfl) (by simp) fun B => ?_
  repeat refine kn rfl ?_
  refine k_region tok rfl (by kernel_rfl) ?_
  simp only [go_sem, simprocAttr]
  repeat refine kn rfl ?_
  refine k_region tok rfl (by kernel_rfl) ?_
  simp only [go_sem, simprocAttr]
  repeat refine kn rfl ?_
  refine k_ret rfl ?_
  refine post_cell (.inl rfl) _ n 4 0 (Am.mk p l).cs (by simp only [go_sem, simprocAttr]) (by simp only [go_sem, simprocAttr, full]) rfl (Nat.le_refl _) (by simp only [go_sem, simprocAttr]) ?_ (Am.blw _ _) rfl
  simp only [go_sem, simprocAttr]
  exact .refl _

theorem a19 (m : Int) : Pure Tryz.prog 19 [.int .i64 m] (Tm.mk 1 m [] []).enc := by
  intro n H
  refine a_fun tok (fun_of Tryz.func19 rfl rfl) (by simp) fun B => ?_
  repeat refine kn rfl ?_
  refine k_region tok rfl (by kernel_rfl) ?_
  simp only [go_sem, simprocAttr]
  repeat refine kn rfl ?_
  refine k_region tok rfl (by kernel_rfl) ?_
  simp only [go_sem, simprocAttr]
  repeat refine kn rfl ?_
  refine k_ret rfl ?_
  refine post_cell (.inl rfl) _ n 2 0 [.int .u8 1, .int .i64 m, .str [], .sl 4 [] .full] (by simp only [go_sem, simprocAttr]) (by simp only [go_sem, simprocAttr, full]) rfl (Nat.le_refl _) (by simp only [go_sem, simprocAttr]) ?_ (Tm.blw _ _) rfl
  rw [Tm.enc_eq]
  exact .deep (.aggL ⟨.refl _, .refl _, .refl _, .nil _ _ _, trivial⟩)

theorem a20 (m : List UInt8) : Pure Tryz.prog 20 [.str m] (Tm.mk 2 0 m []).enc := by
  intro n H
  refine a_fun tok (fun_of Tryz.func20 rfl rfl) (by simp) fun B => ?_
  repeat refine kn rfl ?_
  refine k_region tok rfl (by kernel_rfl) ?_
  simp only [go_sem, simprocAttr]
  repeat refine kn rfl ?_
  refine k_region tok rfl (by kernel_rfl) ?_
  simp only [go_sem, simprocAttr]
  repeat refine kn rfl ?_
  refine k_ret rfl ?_
  refine post_cell (.inl rfl) _ n 2 0 [.int .u8 2, .int .i64 0, .str m, .sl 4 [] .full] (by simp only [go_sem, simprocAttr]) (by simp only [go_sem, simprocAttr, full]) rfl (Nat.le_refl _) (by simp only [go_sem, simprocAttr]) ?_ (Tm.blw _ _) rfl
  rw [Tm.enc_eq]
  exact .deep (.aggL ⟨.refl _, .refl _, .refl _, .nil _ _ _, trivial⟩)

theorem a21 (m : List UInt8) (l : List Tm) : Pure Tryz.prog 21 [.str m, .sl 4 (l.map Tm.enc) .any] (Tm.mk 4 0 m l).enc := by
  intro n H
  refine a_fun tok (fun_of Tryz.func21 rfl rfl) (by simp) fun B => ?_
  repeat refine kn rfl ?_
  refine k_region tok rfl (by kernel_rfl) ?_
  simp only [go_sem, simprocAttr]
  repeat refine kn rfl ?_
  refine k_region tok rfl (by kernel_rfl) ?_
  simp only [go_sem, simprocAttr]
  repeat refine kn rfl ?_
  refine k_ret rfl ?_
  refine post_cell (.inl rfl) _ n 4 0 [.int .u8 4, .int .i64 0, .str m, .sl 4 (l.map Tm.enc) .any] (by simp only [go_sem, simprocAttr]) (by simp only [go_sem, simprocAttr, full]) rfl (Nat.le_refl _) (by simp only [go_sem, simprocAttr]) ?_ (Tm.blw _ _) rfl
  rw [Tm.enc_eq]
  exact .refl _

def st25 (n : Nat) (l : List Am) (a : Am) (H : AHeap) (i : Nat) : AState :=
  ⟨[(5, .int .i64 i), (3, .ptr n 3 0), (0, .sl 2 (l.map Am.enc) .any)], [(3, .box a.cs)], H⟩

theorem a25 (l : List Am) (a : Am) (hl : l.length ≤ 1000000) (hg : GoodL l) : Pure Tryz.prog 25 [.sl 2 (l.map Am.enc) .any, a.enc] (.bool (l.any (eqA · a))) := by
  intro n H
  refine a_fun tok (fun_of Tryz.func25 rfl rfl) (by simp) fun B => ?_
  repeat refine kn rfl ?_
  refine k_region tok rfl (by kernel_rfl) ?_
  simp only [go_sem, simprocAttr]
  repeat refine kn rfl ?_
  refine k_region tok rfl (by kernel_rfl) ?_
  simp only [go_sem, simprocAttr]
  repeat refine kn rfl ?_
  refine k_loop_p (st25 n l a H) (fun i => ∀ j (h : j < l.length), j < i → eqA l[j] a = false) l.length rfl ?_ (fun j _ h => absurd h (Nat.not_lt_zero _)) ?_
  · refine AWk_kept ?_ ?_ ?_ ?_ <;> repeat' first | exact trivial | refine q0 ?_ | exact qb | exact q1 | exact q2 | exact q3 | exact rfl | refine And.intro ?_ ?_ | exact q4 | exact q5 | exact q6 | exact q7 | exact Inside.ptr _ _ _ (.inr ⟨rfl, rfl⟩) | exact q8 | exact q9 | exact qd | exact Tm.ins _ | exact Tm.inss _ _ | exact Am.ins _ | exact Am.inss _ _ | refine ins_buf_str ?_ | refine Tm.ins_buf ?_ | refine Am.ins_buf ?_ | exact qf
  intro i hi hq
  refine k_st rfl ?_
  rcases Nat.lt_or_ge i l.length with h | h
  · repeat refine kn rfl ?_
    refine k_region tok rfl (by kernel_rfl) ?_
    simp only [go_sem, simprocAttr, h]
    repeat refine kn rfl ?_
    refine k_cond_t rfl (by simp only [go_sem, simprocAttr]) ?_
    repeat refine kn rfl ?_
    refine k_draw tok mixed drawO rfl rfl (by kernel_rfl) (by kernel_rfl) ?_
    simp only [go_sem, simprocAttr, Am.getD_enc _ _ h, h]
    refine callP (fun_of Tryz.func28 rfl rfl) (a28 l[i] a (hg _ (List.getElem_mem h))) (by simp only [go_sem, simprocAttr]) ?_
    simp only [go_sem, simprocAttr]
    cases h5 : eqA l[i] a with
    | true =>
      repeat refine kn rfl ?_
      refine k_cond_t rfl (by simp only [go_sem, simprocAttr, h5]) ?_
      repeat refine kn rfl ?_
      refine k_region tok rfl (by kernel_rfl) ?_
      simp only [go_sem, simprocAttr]
      repeat refine kn rfl ?_
      refine k_ret_round rfl ?_
      refine post_one ?_ (.bool _) rfl
      have : l.any (eqA · a) = true := List.any_eq_true.2 ⟨_, List.getElem_mem h, h5⟩
      simp only [go_sem, simprocAttr, this]
      exact .refl _
    | false =>
      repeat refine kn rfl ?_
      refine k_cond_f rfl (by simp only [go_sem, simprocAttr, h5]) ?_
      repeat refine kn rfl ?_
      refine k_region tok rfl (by kernel_rfl) ?_
      simp only [go_sem, simprocAttr]
      repeat refine kn rfl ?_
      refine k_nil ?_
      refine ⟨fun j hj hji => ?_, ?_⟩
      · rcases Nat.lt_or_ge j i with h' | h'
        · exact hq j hj h'
        · have : j = i := by omega
          subst this; exact h5
      · refine AWk_kept ?_ ?_ ?_ ?_ <;> repeat' first | exact trivial | refine q0 ?_ | exact qb | exact q1 | exact q2 | exact q3 | exact rfl | refine And.intro ?_ ?_ | exact q4 | exact q5 | exact q6 | exact q7 | exact Inside.ptr _ _ _ (.inr ⟨rfl, rfl⟩) | exact q8 | exact q9 | exact qd | exact Tm.ins _ | exact Tm.inss _ _ | exact Am.ins _ | exact Am.inss _ _ | refine ins_buf_str ?_ | refine Tm.ins_buf ?_ | refine Am.ins_buf ?_ | exact qf
        simp only [go_sem, simprocAttr]
        rw [IntWalk.i64_in _ (by omega)]; exact .refl _
  · repeat refine kn rfl ?_
    refine k_region tok rfl (by kernel_rfl) ?_
    simp only [go_sem, simprocAttr, Nat.not_lt.2 h]
    repeat refine kn rfl ?_
    refine k_cond_f rfl (by simp only [go_sem, simprocAttr]) ?_
    repeat refine kn rfl ?_
    refine k_exit_round rfl rfl rfl ?_
    repeat refine kn rfl ?_
    refine k_region tok rfl (by kernel_rfl) ?_
    simp only [go_sem, simprocAttr]
    repeat refine kn rfl ?_
    refine k_ret rfl ?_
    refine post_one ?_ (.bool _) rfl
    have : l.any (eqA · a) = false := by
      rw [List.any_eq_false]; intro x hx
      obtain ⟨j, hj, rfl⟩ := List.getElem_of_mem hx
      rw [hq j hj (by omega)]; simp
    simp only [go_sem, simprocAttr, this]
    exact .refl _
end Go.Proofs.YtpoegdhgdgbmaaaGreatDoorR

/- The store as plain data and as slots of the heap. No program. -/
namespace Go.Abs

/-- An argument's key: predicate, place, text. -/
structure Ak where
  s : Sg
  c : Int
  t : List UInt8
deriving DecidableEq
def Ak.enc (k : Ak) : AV := .agg [.str k.s.p, .int .i64 k.s.n, .int .i64 k.c, .str k.t]

/-- A store's parts: atoms, numbers by text, indices by predicate, indices by argument. -/
structure Sto where
  A : List Am
  N : List (List UInt8 × Int)
  S : List (Sg × List Int)
  R : List (Ak × List Int)

def intsOf (ix : List Int) : List AV := ix.map (AV.int .i64)

/-- A map's entries, each with a slot of its own behind it. -/
def ents {κ : Type} (enc : κ → AV) (l b : Nat) : Nat → List (κ × List Int) → List (AV × AV)
  | _, [] => []
  | i, p :: r => (enc p.1, .sl 1 (intsOf p.2) (.buf l (b + 2 * i))) :: ents enc l b (i + 1) r

/-- The slots of a map's entries. -/
def bufs {κ : Type} (b : Nat) : Nat → List (κ × List Int) → List (Nat × ABlk)
  | _, [] => []
  | i, p :: r => (b + 2 * i, .buf 3 1 p.2.length) :: bufs b (i + 1) r

def atomsCell (l b : Nat) (A : List Am) : AV := if A = [] then .sl 2 [] .full else .sl 2 (A.map Am.enc) (.buf l (b + 1))
def boxCells (l b : Nat) (A : List Am) : List AV := [atomsCell l b A, .map l (b + 2), .map l (b + 3), .map l (b + 4)]

/-- All slots of a store. -/
def lst (l b : Nat) (s : Sto) : List (Nat × ABlk) :=
  (b, .box (boxCells l b s.A)) :: (b + 2, .map (s.N.map fun p => (.str p.1, .int .i64 p.2))) :: (b + 3, .map (ents Sg.enc l (b + 5) 0 s.S)) :: (b + 4, .map (ents Ak.enc l (b + 6) 0 s.R)) ::
    ((if s.A = [] then [] else [(b + 1, .buf 25 2 s.A.length)]) ++ bufs (b + 5) 0 s.S ++ bufs (b + 6) 0 s.R)

/-- The heap with a store in it. -/
def put (H : AHeap) (l b : Nat) (s : Sto) : AHeap := fun l' k => if l' = l then (lkb (lst l b s) k).or (H l' k) else H l' k

theorem lkb_append : ∀ (p q : List (Nat × ABlk)) (k : Nat), lkb (p ++ q) k = (lkb p k).or (lkb q k)
  | [], q, k => rfl
  | (i, x) :: p, q, k => by
    simp only [List.cons_append, lkb]
    split
    · rfl
    · exact lkb_append p q k

/-- A store among the own slots. -/
theorem put_full (n b : Nat) (s : Sto) (L : List (Nat × ABlk)) (H : AHeap) : put (full n L H) n b s = full n (lst n b s ++ L) H := by
  funext l k
  unfold put full
  split
  · rw [lkb_append]
  · rfl

theorem lkb_bufs {κ : Type} (b : Nat) : ∀ (i : Nat) (es : List (κ × List Int)) (k : Nat), lkb (bufs b i es) k = if b + 2 * i ≤ k ∧ (k - b) % 2 = 0 then (es[(k - b) / 2 - i]?).map (fun p => ABlk.buf 3 1 p.2.length) else none
  | i, [], k => by simp [bufs, lkb]
  | i, p :: r, k => by
    rw [bufs, lkb]
    by_cases h : b + 2 * i = k
    · subst h
      rw [if_pos rfl, if_pos ⟨Nat.le_refl _, by omega⟩]
      have : (b + 2 * i - b) / 2 - i = 0 := by omega
      rw [this]; rfl
    · rw [if_neg h, lkb_bufs b (i + 1) r k]
      by_cases h2 : b + 2 * (i + 1) ≤ k ∧ (k - b) % 2 = 0
      · rw [if_pos h2, if_pos ⟨by omega, h2.2⟩]
        have : (k - b) / 2 - i = (k - b) / 2 - (i + 1) + 1 := by omega
        rw [this, List.getElem?_cons_succ]
      · rw [if_neg h2]
        by_cases h3 : b + 2 * i ≤ k ∧ (k - b) % 2 = 0
        · exfalso; exact h2 ⟨by omega, h3.2⟩
        · rw [if_neg h3]

/-- A slot of a store. -/
theorem lkb_lst (l b : Nat) (s : Sto) (k : Nat) : lkb (lst l b s) k =
    if k = b then some (.box (boxCells l b s.A)) else if k = b + 2 then some (.map (s.N.map fun p => (.str p.1, .int .i64 p.2))) else if k = b + 3 then some (.map (ents Sg.enc l (b + 5) 0 s.S)) else if k = b + 4 then some (.map (ents Ak.enc l (b + 6) 0 s.R))
    else if k = b + 1 then (if s.A = [] then none else some (.buf 25 2 s.A.length))
    else if b + 5 ≤ k ∧ (k - (b + 5)) % 2 = 0 then (s.S[(k - (b + 5)) / 2]?).map (fun p => ABlk.buf 3 1 p.2.length)
    else if b + 6 ≤ k ∧ (k - (b + 6)) % 2 = 0 then (s.R[(k - (b + 6)) / 2]?).map (fun p => ABlk.buf 3 1 p.2.length) else none := by
  unfold lst
  simp only [lkb, lkb_append, lkb_bufs, Nat.mul_zero, Nat.add_zero, Nat.sub_zero, eq_comm (a := k)]
  split
  · rfl
  split
  · rfl
  split
  · rfl
  split
  · rfl
  by_cases h1 : b + 1 = k
  · rw [if_pos h1]
    subst h1
    by_cases hA : s.A = []
    · simp [hA, lkb]
    · simp [hA, lkb]
  · rw [if_neg h1]
    have hA : lkb (if s.A = [] then [] else [(b + 1, ABlk.buf 25 2 s.A.length)]) k = none := by
      split
      · rfl
      · simp [lkb, h1]
    rw [hA, Option.none_or]
    by_cases h2 : b + 5 ≤ k ∧ (k - (b + 5)) % 2 = 0
    · rw [if_pos h2, if_pos h2]
      have : ¬ (b + 6 ≤ k ∧ (k - (b + 6)) % 2 = 0) := by omega
      rw [if_neg this, Option.or_none]
    · rw [if_neg h2, if_neg h2, Option.none_or]
end Go.Abs

/- The store's looking functions. -/
namespace Go.Proofs.YtpoegdhgdgbmaaaGreatDoorR
open Go.Abs
set_option maxRecDepth 100000

/-- A store stands in the heap. -/
def HasSto (H : AHeap) (l b : Nat) (s : Sto) : Prop := ∀ k x, lkb (lst l b s) k = some x → H l k = some x

theorem HasSto.box {H : AHeap} {l b : Nat} {s : Sto} (h : HasSto H l b s) : H l b = some (.box (boxCells l b s.A)) := h b _ (by rw [lkb_lst, if_pos rfl])
theorem HasSto.num {H : AHeap} {l b : Nat} {s : Sto} (h : HasSto H l b s) : H l (b + 2) = some (.map (s.N.map fun p => (.str p.1, .int .i64 p.2))) := h _ _ (by rw [lkb_lst, if_neg (by omega), if_pos rfl])
theorem HasSto.sig {H : AHeap} {l b : Nat} {s : Sto} (h : HasSto H l b s) : H l (b + 3) = some (.map (ents Sg.enc l (b + 5) 0 s.S)) := h _ _ (by rw [lkb_lst, if_neg (by omega), if_neg (by omega), if_pos rfl])
theorem HasSto.arg {H : AHeap} {l b : Nat} {s : Sto} (h : HasSto H l b s) : H l (b + 4) = some (.map (ents Ak.enc l (b + 6) 0 s.R)) := h _ _ (by rw [lkb_lst, if_neg (by omega), if_neg (by omega), if_neg (by omega), if_pos rfl])
theorem HasSto.put (H : AHeap) (l b : Nat) (s : Sto) : HasSto (put H l b s) l b s := fun k x h => by
  unfold Go.Abs.put; rw [if_pos rfl, h]; rfl

theorem a55n : Pure Tryz.prog 55 [.nilp] (.bool false) := by
  intro n H
  refine a_fun tok (fun_of Tryz.func55 rfl rfl) (by simp) fun B => ?_
  repeat refine kn rfl ?_
  refine k_region tok rfl (by kernel_rfl) ?_
  simp only [go_sem, simprocAttr]
  repeat refine kn rfl ?_
  refine k_region tok rfl (by kernel_rfl) ?_
  simp only [go_sem, simprocAttr]
  repeat refine kn rfl ?_
  refine k_ret rfl ?_
  refine post_one ?_ (.bool _) rfl
  try simp only [go_sem, simprocAttr]
  exact .refl _

theorem a55 (n : Nat) (H : AHeap) (l b : Nat) (s : Sto) (hl : l < n) (hs : HasSto H l b s) : PC Tryz.prog n 55 [.ptr l b 0] H (.bool true) := by
  have hne : ¬ l = n := by omega
  have hb := hs.box
  refine a_fun tok (fun_of Tryz.func55 rfl rfl) (by simp) fun B => ?_
  repeat refine kn rfl ?_
  refine k_region tok rfl (by kernel_rfl) ?_
  simp only [go_sem, simprocAttr]
  repeat refine kn rfl ?_
  refine k_region tok rfl (by kernel_rfl) ?_
  simp only [go_sem, simprocAttr, hne, hb, boxCells]
  refine ⟨⟨_, _, rfl⟩, ?_⟩
  repeat refine kn rfl ?_
  refine k_ret rfl ?_
  refine post_one ?_ (.bool _) rfl
  try simp only [go_sem, simprocAttr]
  exact .refl _

/-- A store that was not made. -/
def zeroCells : List AV := [.sl 2 [] .full, .nilm, .nilm, .nilm]

theorem a55z (n : Nat) (H : AHeap) (l b : Nat) (hl : l < n) (hb : H l b = some (.box zeroCells)) : PC Tryz.prog n 55 [.ptr l b 0] H (.bool false) := by
  have hne : ¬ l = n := by omega
  refine a_fun tok (fun_of Tryz.func55 rfl rfl) (by simp) fun B => ?_
  repeat refine kn rfl ?_
  refine k_region tok rfl (by kernel_rfl) ?_
  simp only [go_sem, simprocAttr]
  repeat refine kn rfl ?_
  refine k_region tok rfl (by kernel_rfl) ?_
  simp only [go_sem, simprocAttr, hne, hb, zeroCells]
  refine ⟨⟨_, _, rfl⟩, ?_⟩
  repeat refine kn rfl ?_
  refine k_ret rfl ?_
  refine post_one ?_ (.bool _) rfl
  try simp only [go_sem, simprocAttr]
  exact .refl _

theorem full_lt {n l : Nat} (h : l < n) (L : List (Nat × ABlk)) (H : AHeap) (k : Nat) : full n L H l k = H l k := by unfold full; rw [if_neg (by omega)]
theorem HasSto.full {n l b : Nat} {s : Sto} {H : AHeap} (hs : HasSto H l b s) (h : l < n) (L : List (Nat × ABlk)) : HasSto (full n L H) l b s := fun k x hk => by rw [full_lt h]; exact hs k x hk

theorem a24 (n : Nat) (H : AHeap) (l b : Nat) (s : Sto) (hl : l < n) (hs : HasSto H l b s) : PC Tryz.prog n 24 [.ptr l b 0] H (.int .i64 s.A.length) := by
  have hne : ¬ l = n := by omega
  have hb := hs.box
  refine a_fun tok (fun_of Tryz.func24 rfl rfl) (by simp) fun B => ?_
  repeat refine kn rfl ?_
  refine k_region tok rfl (by kernel_rfl) ?_
  simp only [go_sem, simprocAttr]
  repeat refine kn rfl ?_
  refine k_region tok rfl (by kernel_rfl) ?_
  simp only [go_sem, simprocAttr]
  refine callH (fun_of Tryz.func55 rfl rfl) (a55 (n + 1) _ l b s (by omega) (hs.full hl _)) (by simp only [go_sem, simprocAttr]) ?_
  simp only [go_sem, simprocAttr]
  repeat refine kn rfl ?_
  refine k_cond_f rfl (by simp only [go_sem, simprocAttr]) ?_
  by_cases hA : s.A = []
  · repeat refine kn rfl ?_
    refine k_region tok rfl (by kernel_rfl) ?_
    simp only [go_sem, simprocAttr, hne, hb, boxCells, atomsCell, hA]
    repeat refine kn rfl ?_
    refine k_ret rfl ?_
    refine post_one ?_ (.int _ _) rfl
    try simp only [go_sem, simprocAttr, hA]
    exact .refl _
  · repeat refine kn rfl ?_
    refine k_region tok rfl (by kernel_rfl) ?_
    simp only [go_sem, simprocAttr, hne, hb, boxCells, atomsCell, hA]
    repeat refine kn rfl ?_
    refine k_ret rfl ?_
    refine post_one ?_ (.int _ _) rfl
    try simp only [go_sem, simprocAttr]
    exact .refl _

theorem post_cell2 {P : Program} {T : TT} {n : Nat} {t ty u : Nat} {v y : AV} {H : AHeap} {s : AState} (r : TRow) (l k off : Nat) (cs : List AV) (h1 : lkv s.tmps t = .ptr l k off) (h2 : full n s.L s.H l k = some (.box cs)) (h3 : T ty = some r)
    (h4 : off + r.size ≤ cs.length) (h5 : r.isAgg = false → off < cs.length) (hv : Wk (if r.isAgg then .agg ((cs.drop off).take r.size) else (cs.drop off).getD 0 .dead) v) (hy : Wk (lkv s.tmps u) y) (hb : Below n v) (hc : Below n y) (hH : s.H = H) :
    PostF P T n [.cell t ty, .tmp u] (fun r' H' => r' = .tup [v, y] ∧ H' = H) .ret s := by
  refine ⟨?_, [v, y], ⟨?_, hy, trivial⟩, by simp [hb, hc], rfl, hH⟩
  · intro x hx
    simp only [List.mem_cons, List.not_mem_nil, or_false] at hx
    rcases hx with rfl | rfl
    · simp only [okRes]; exact ⟨l, k, off, cs, r, h1, h2, h3, h4, h5⟩
    · simp [okRes]
  · simp only [resA, h1, h2, h3]
    rw [if_pos ⟨h4, h5⟩]; exact hv

/-- What stands at a place: the atom and the error. -/
def atR (A : List Am) (i : Int) : Am × Int := if 0 ≤ i then (match A[i.toNat]? with
  | some a => (a, 0)
  | none => (⟨[], []⟩, 6)) else (⟨[], []⟩, 6)

theorem a27 (n : Nat) (H : AHeap) (l b : Nat) (s : Sto) (i : Int) (hl : l < n) (hs : HasSto H l b s) (hg : GoodL s.A) (hn : 0 < n) (hT : Tabs H) : PC Tryz.prog n 27 [.ptr l b 0, .int .i64 i] H (.tup [(atR s.A i).1.enc, .int .i64 (atR s.A i).2]) := by
  have hne : ¬ l = n := by omega
  have hb := hs.box
  refine a_fun tok (fun_of Tryz.func27 rfl rfl) (by simp) fun B => ?_
  repeat refine kn rfl ?_
  refine k_region tok rfl (by kernel_rfl) ?_
  simp only [go_sem, simprocAttr]
  repeat refine kn rfl ?_
  refine k_region tok rfl (by kernel_rfl) ?_
  simp only [go_sem, simprocAttr]
  refine callH (fun_of Tryz.func55 rfl rfl) (a55 (n + 1) _ l b s (by omega) (hs.full hl _)) (by simp only [go_sem, simprocAttr]) ?_
  simp only [go_sem, simprocAttr]
  repeat refine kn rfl ?_
  refine k_cond_f rfl (by simp only [go_sem, simprocAttr]) ?_
  have hz : Wk (.agg [.str [], .sl 4 [] .full]) (Am.mk [] []).enc := .deep (.aggL ⟨.refl _, .nil _ _ _, trivial⟩)
  rcases Int.lt_or_le i 0 with h0 | h0
  · have e : atR s.A i = (⟨[], []⟩, 6) := by rw [atR, if_neg (by omega)]
    repeat refine kn rfl ?_
    refine k_region tok rfl (by kernel_rfl) ?_
    simp only [go_sem, simprocAttr, h0]
    repeat refine kn rfl ?_
    refine k_cond_t rfl (by simp only [go_sem, simprocAttr]) ?_
    repeat refine kn rfl ?_
    refine k_region tok rfl (by kernel_rfl) ?_
    simp only [go_sem, simprocAttr]
    repeat refine kn rfl ?_
    refine k_ret rfl ?_
    rw [e]
    exact post_cell2 _ n 4 0 [.str [], .sl 4 [] .full] (by simp only [go_sem, simprocAttr]) (by simp only [go_sem, simprocAttr, Go.Abs.full]) rfl (Nat.le_refl _) (by simp only [go_sem, simprocAttr]) hz (by simp only [go_sem, simprocAttr]; exact .refl _) (Am.blw _ _) (.int _ _) rfl
  · have h0' : ¬ i < 0 := by omega
    by_cases hA : s.A = []
    · have e : atR [] i = (⟨[], []⟩, 6) := by rw [atR, if_pos h0]; rfl
      repeat refine kn rfl ?_
      refine k_region tok rfl (by kernel_rfl) ?_
      simp only [go_sem, simprocAttr, hne, hb, boxCells, atomsCell, hA, h0', h0]
      repeat refine kn rfl ?_
      refine k_cond_t rfl (by simp only [go_sem, simprocAttr]) ?_
      repeat refine kn rfl ?_
      refine k_region tok rfl (by kernel_rfl) ?_
      simp only [go_sem, simprocAttr]
      repeat refine kn rfl ?_
      refine k_ret rfl ?_
      rw [e]
      exact post_cell2 _ n 4 0 [.str [], .sl 4 [] .full] (by simp only [go_sem, simprocAttr]) (by simp only [go_sem, simprocAttr, Go.Abs.full]) rfl (Nat.le_refl _) (by simp only [go_sem, simprocAttr]) hz (by simp only [go_sem, simprocAttr]; exact .refl _) (Am.blw _ _) (.int _ _) rfl
    · rcases Int.lt_or_le i s.A.length with h1 | h1
      · have h2 : i.toNat < s.A.length := by omega
        have e : atR s.A i = (s.A[i.toNat], 0) := by rw [atR, if_pos h0, List.getElem?_eq_getElem h2]
        have h1' : ¬ (s.A.length : Int) ≤ i := by omega
        repeat refine kn rfl ?_
        refine k_region tok rfl (by kernel_rfl) ?_
        simp only [go_sem, simprocAttr, hne, hb, boxCells, atomsCell, hA, h0', h0, h1']
        repeat refine kn rfl ?_
        refine k_cond_f rfl (by simp only [go_sem, simprocAttr]) ?_
        repeat refine kn rfl ?_
        refine k_region tok rfl (by kernel_rfl) ?_
        simp only [go_sem, simprocAttr, hne, hb, boxCells, atomsCell, hA, h0, h2, Am.getD_enc _ _ h2]
        refine ⟨h1, ?_⟩
        refine callT (fun_of Tryz.func59 rfl rfl) (a59 s.A[i.toNat] (hg _ (List.getElem_mem h2))) hn hT (by simp only [go_sem, simprocAttr]) ?_
        simp only [go_sem, simprocAttr]
        repeat refine kn rfl ?_
        refine k_ret rfl ?_
        rw [e]
        exact post_cell2 _ n 4 0 s.A[i.toNat].cs (by simp only [go_sem, simprocAttr]) (by simp only [go_sem, simprocAttr, Go.Abs.full]) rfl (Nat.le_refl _) (by simp only [go_sem, simprocAttr]) (by simp only [go_sem, simprocAttr]; exact .refl _) (by simp only [go_sem, simprocAttr]; exact .refl _) (Am.blw _ _) (.int _ _) rfl
      · have e : atR s.A i = (⟨[], []⟩, 6) := by rw [atR, if_pos h0, List.getElem?_eq_none (by omega)]
        repeat refine kn rfl ?_
        refine k_region tok rfl (by kernel_rfl) ?_
        simp only [go_sem, simprocAttr, hne, hb, boxCells, atomsCell, hA, h0', h0, h1]
        repeat refine kn rfl ?_
        refine k_cond_t rfl (by simp only [go_sem, simprocAttr]) ?_
        repeat refine kn rfl ?_
        refine k_region tok rfl (by kernel_rfl) ?_
        simp only [go_sem, simprocAttr]
        repeat refine kn rfl ?_
        refine k_ret rfl ?_
        rw [e]
        exact post_cell2 _ n 4 0 [.str [], .sl 4 [] .full] (by simp only [go_sem, simprocAttr]) (by simp only [go_sem, simprocAttr, Go.Abs.full]) rfl (Nat.le_refl _) (by simp only [go_sem, simprocAttr]) hz (by simp only [go_sem, simprocAttr]; exact .refl _) (Am.blw _ _) (.int _ _) rfl
end Go.Proofs.YtpoegdhgdgbmaaaGreatDoorR

/- The store's Has, All, Find. -/
namespace Go.Proofs.YtpoegdhgdgbmaaaGreatDoorR
open Go.Abs
set_option maxRecDepth 100000

/-- Where a key stands. -/
def keyIx {κ β : Type} [DecidableEq κ] (k : κ) : List (κ × β) → Nat → Option Nat
  | [], _ => none
  | p :: r, i => if p.1 = k then some i else keyIx k r (i + 1)

theorem findL_key {κ β : Type} [DecidableEq κ] (enc : κ → AV) (hi : ∀ a b, (enc a).kls = (enc b).kls → a = b) (k : κ) (f : κ × β → AV × AV) (hf : ∀ p, (f p).1 = enc p.1) : ∀ (es : List (κ × β)) (i : Nat), findL (enc k).kls ((es.map f).map fun p => p.1.kls) i = keyIx k es i
  | [], _ => rfl
  | p :: r, i => by
    simp only [List.map_cons, findL, keyIx, hf]
    by_cases h : p.1 = k
    · rw [if_pos h, if_pos (by rw [h])]
    · rw [if_neg h, if_neg (fun e => h (hi _ _ e).symm), findL_key enc hi k f hf r (i + 1)]

theorem findL_ents {κ : Type} [DecidableEq κ] (enc : κ → AV) (hi : ∀ a b, (enc a).kls = (enc b).kls → a = b) (k : κ) (l b : Nat) : ∀ (es : List (κ × List Int)) (i j : Nat), findL (enc k).kls ((ents enc l b j es).map fun p => p.1.kls) i = keyIx k es i
  | [], _, _ => rfl
  | p :: r, i, j => by
    simp only [ents, List.map_cons, findL, keyIx]
    by_cases h : p.1 = k
    · rw [if_pos h, if_pos (by rw [h])]
    · rw [if_neg h, if_neg (fun e => h (hi _ _ e).symm), findL_ents enc hi k l b r (i + 1) (j + 1)]

theorem kls_str (a b : List UInt8) (h : (AV.str a).kls = (AV.str b).kls) : a = b := by
  simp [AV.kls, AV.cells, klAll, AV.kl] at h; exact h
theorem kls_sg (a b : Sg) (h : a.enc.kls = b.enc.kls) : a = b := by
  simp [AV.kls, AV.cells, klAll, AV.kl, Sg.enc] at h
  cases a; cases b; simp at h; simp [h]
theorem kls_ak (a b : Ak) (h : a.enc.kls = b.enc.kls) : a = b := by
  simp [AV.kls, AV.cells, klAll, AV.kl, Ak.enc] at h
  obtain ⟨⟨p, n⟩, c, t⟩ := a
  obtain ⟨⟨p', n'⟩, c', t'⟩ := b
  simp at h; simp [h]

def numE (p : List UInt8 × Int) : AV × AV := (.str p.1, .int .i64 p.2)

theorem a26 (n : Nat) (H : AHeap) (l b : Nat) (s : Sto) (a : Am) (hl : l < n) (hs : HasSto H l b s) (ha : a.Good) (hn : 0 < n) (hT : Tabs H) : PC Tryz.prog n 26 [.ptr l b 0, a.enc] H (.bool (validA a && (keyIx (atxt a) s.N 0).isSome)) := by
  have hne : ¬ l = n := by omega
  have hb := hs.box
  have hnum := hs.num
  have hf : findL (AV.str (atxt a)).kls ((s.N.map numE).map fun p => p.1.kls) 0 = keyIx (atxt a) s.N 0 := findL_key AV.str kls_str (atxt a) numE (fun _ => rfl) s.N 0
  have hkk : ∀ p, p ∈ s.N.map numE → keyOK tt 9 p.1 = true := fun p hp => by
    obtain ⟨q, _, rfl⟩ := List.mem_map.1 hp; exact keyStr _
  change H l (b + 2) = some (ABlk.map (s.N.map numE)) at hnum
  generalize s.N.map numE = es at hf hkk hnum
  refine a_fun tok (fun_of Tryz.func26 rfl rfl) (by simp) fun B => ?_
  repeat refine kn rfl ?_
  refine k_region tok rfl (by kernel_rfl) ?_
  simp only [go_sem, simprocAttr]
  repeat refine kn rfl ?_
  refine k_region tok rfl (by kernel_rfl) ?_
  simp only [go_sem, simprocAttr]
  refine callH (fun_of Tryz.func55 rfl rfl) (a55 (n + 1) _ l b s (by omega) (hs.full hl _)) (by simp only [go_sem, simprocAttr]) ?_
  simp only [go_sem, simprocAttr]
  refine callT (fun_of Tryz.func14 rfl rfl) (a14 a ha) hn hT (by simp only [go_sem, simprocAttr]) ?_
  simp only [go_sem, simprocAttr]
  cases h1 : validA a with
  | false =>
    repeat refine kn rfl ?_
    refine k_cond_t rfl (by simp only [go_sem, simprocAttr, h1]) ?_
    repeat refine kn rfl ?_
    refine k_region tok rfl (by kernel_rfl) ?_
    simp only [go_sem, simprocAttr]
    repeat refine kn rfl ?_
    refine k_ret rfl ?_
    refine post_one ?_ (.bool _) rfl
    try simp only [go_sem, simprocAttr, Bool.false_and]
    exact .refl _
  | true =>
  repeat refine kn rfl ?_
  refine k_cond_f rfl (by simp only [go_sem, simprocAttr, h1]) ?_
  repeat refine kn rfl ?_
  refine k_draw tok mixed drawO rfl rfl (by kernel_rfl) (by kernel_rfl) ?_
  simp only [go_sem, simprocAttr, hne, hb, hnum, boxCells]
  refine callT (fun_of Tryz.func57 rfl rfl) (a57 a ha h1) hn hT (by simp only [go_sem, simprocAttr]) ?_
  simp only [go_sem, simprocAttr]
  simp only [go_sem, simprocAttr, hne, hb, hnum, boxCells, lookA, findA, hf]
  refine ⟨fun p hp => hkk p hp, ?_⟩
  cases hk : keyIx (atxt a) s.N 0 with
  | none =>
    repeat refine kn rfl ?_
    refine k_region tok rfl (by kernel_rfl) ?_
    simp only [go_sem, simprocAttr]
    repeat refine kn rfl ?_
    refine k_ret rfl ?_
    refine post_one ?_ (.bool _) rfl
    try simp only [go_sem, simprocAttr]
    exact .refl _
  | some i =>
    repeat refine kn rfl ?_
    refine k_region tok rfl (by kernel_rfl) ?_
    simp only [go_sem, simprocAttr]
    repeat refine kn rfl ?_
    refine k_ret rfl ?_
    refine post_one ?_ (.bool _) rfl
    try simp only [go_sem, simprocAttr]
    exact .refl _
end Go.Proofs.YtpoegdhgdgbmaaaGreatDoorR

/- The store's pick. -/
namespace Go.Proofs.YtpoegdhgdgbmaaaGreatDoorR
open Go.Abs
set_option maxRecDepth 100000

/-- The same slots below a level. -/
def AgreeB (m : Nat) (H H0 : AHeap) : Prop := ∀ l k, l < m → H l k = H0 l k

theorem AgreeB.full {m n : Nat} {H H0 : AHeap} (h : AgreeB m H H0) (hm : m ≤ n) (L : List (Nat × ABlk)) : AgreeB m (Go.Abs.full n L H) H0 := fun l k hl => by
  rw [full_lt (by omega)]; exact h l k hl

/-- A function value that looks at slots below a level, applied to all elements of a list. -/
structure MapH {α : Type} (m : Nat) (H0 : AHeap) (f : Nat) (caps : List AV) (ea : α → AV) (l : List α) (g : α → Am) : Prop where
  fn : ∃ fn c, Fun Tryz.prog f fn c
  on : ∀ x ∈ l, ∀ n H, m ≤ n → AgreeB m H H0 → PC Tryz.prog n f (ea x :: caps) H (g x).enc
  below : ∀ n, m ≤ n → AllP (fun c => Below n c) caps

def st97h (l : List Int) (o : Own) (f : Nat) (caps : List AV) (g : Int → Am) (n : Nat) (H : AHeap) (i : Nat) : AState :=
  ⟨[(10, .int .i64 i), (9, .int .i64 l.length), (8, .sl 1 (l.map eInt) o), (5, .sl 2 (((l.take i).map g).map Am.enc) (.buf n 200)), (1, .fn (.func f) caps)], [(200, .buf 25 2 i)], H⟩

theorem a97h (l : List Int) (hl : l.length ≤ 1000000) (o : Own) (m : Nat) (H0 : AHeap) (f : Nat) (caps : List AV) (g : Int → Am) (hp : MapH m H0 f caps eInt l g) (ho : ∀ n, m ≤ n → Below n (.sl 1 (l.map eInt) o)) (n : Nat) (H : AHeap) (hmn : m ≤ n) (hH : AgreeB m H H0) :
    PC Tryz.prog n 97 [.sl 1 (l.map eInt) o, .fn (.func f) caps] H (.sl 2 ((l.map g).map Am.enc) .any) := by
  obtain ⟨⟨fn, c, hf⟩, hp, hbl⟩ := hp
  have hfi : ∀ q, Inside n q (.fn (.func f) caps) := fun q => (Below.fn _ _ fun i hi => (hbl n hmn).mem _ (List.getElem_mem hi)).inside
  have hoi : ∀ q, Inside n q (.sl 1 (l.map eInt) o) := fun q => (ho n hmn).inside
  refine a_fun tok (fun_of Tryz.func97 rfl rfl) (by simp) fun B => ?_
  repeat refine kn rfl ?_
  refine k_region tok rfl (by kernel_rfl) ?_
  simp only [go_sem, simprocAttr]
  repeat refine kn rfl ?_
  refine k_region tok rfl (by kernel_rfl) ?_
  simp only [go_sem, simprocAttr]
  repeat refine kn rfl ?_
  refine k_region tok rfl (by kernel_rfl) ?_
  simp only [go_sem, simprocAttr]
  repeat refine kn rfl ?_
  refine k_adopt 5 200 25 2 rfl rfl ?_
  refine k_loop_ix (st97h l o f caps g n H) l.length rfl ?_ ?_
  · refine AWk_kept ?_ ?_ ?_ ?_ <;> repeat' first | exact trivial | refine q0 ?_ | exact qb | exact q1 | exact q2 | exact q3 | exact rfl | refine And.intro ?_ ?_ | exact q4 | exact q5 | exact q6 | exact q7 | exact Inside.ptr _ _ _ (.inr ⟨rfl, rfl⟩) | exact q8 | exact q9 | exact qd | exact Tm.ins _ | exact Tm.inss _ _ | exact Am.ins _ | exact Am.inss _ _ | refine ins_buf_str ?_ | refine Tm.ins_buf ?_ | refine Am.ins_buf ?_ | exact qf
    all_goals first | exact hfi _ | exact hoi _
  intro i hi
  refine k_st rfl ?_
  rcases Nat.lt_or_ge i l.length with h | h
  · have hmin : (l.take i).length = i := List.length_take_of_le (by omega)
    repeat refine kn rfl ?_
    refine k_region tok rfl (by kernel_rfl) ?_
    simp only [go_sem, simprocAttr, h]
    repeat refine kn rfl ?_
    refine k_cond_t rfl (by simp only [go_sem, simprocAttr]) ?_
    repeat refine kn rfl ?_
    refine k_region tok rfl (by kernel_rfl) ?_
    simp only [go_sem, simprocAttr, getD_map eInt _ _ h, h]
    repeat refine kn rfl ?_
    refine k_region tok rfl (by kernel_rfl) ?_
    simp only [go_sem, simprocAttr]
    refine callV (avs := [eInt l[i]]) rfl hf (hp l[i] (List.getElem_mem h) _ _ (by show m ≤ n + 1; omega) (hH.full hmn _)) rfl ?_
    simp only [go_sem, simprocAttr, hmin]
    refine ⟨by first | exact ⟨rfl, by decide⟩ | exact rfl, ⟨le_maxLen (by omega), by omega⟩, ?_⟩
    repeat refine kn rfl ?_
    refine k_region tok rfl (by kernel_rfl) ?_
    simp only [go_sem, simprocAttr]
    repeat refine kn rfl ?_
    refine k_nil ?_
    refine AWk_kept ?_ ?_ ?_ ?_ <;> repeat' first | exact trivial | refine q0 ?_ | exact qb | exact q1 | exact q2 | exact q3 | exact rfl | refine And.intro ?_ ?_ | exact q4 | exact q5 | exact q6 | exact q7 | exact Inside.ptr _ _ _ (.inr ⟨rfl, rfl⟩) | exact q8 | exact q9 | exact qd | exact Tm.ins _ | exact Tm.inss _ _ | exact Am.ins _ | exact Am.inss _ _ | refine ins_buf_str ?_ | refine Tm.ins_buf ?_ | refine Am.ins_buf ?_ | exact qf
    · simp only [go_sem, simprocAttr]
      rw [IntWalk.i64_in _ (by omega)]; exact .refl _
    · simp only [go_sem, simprocAttr, List.take_succ_eq_append_getElem h, List.map_append]
      exact .refl _
    all_goals first | exact hfi _ | exact hoi _
  · repeat refine kn rfl ?_
    refine k_region tok rfl (by kernel_rfl) ?_
    simp only [go_sem, simprocAttr, Nat.not_lt.2 h]
    repeat refine kn rfl ?_
    refine k_cond_f rfl (by simp only [go_sem, simprocAttr]) ?_
    repeat refine kn rfl ?_
    refine k_exit_round rfl rfl rfl ?_
    have hi' : i = l.length := by omega
    subst hi'
    repeat refine kn rfl ?_
    refine k_region tok rfl (by kernel_rfl) ?_
    simp only [go_sem, simprocAttr, List.take_length]
    repeat refine kn rfl ?_
    refine k_ret rfl ?_
    refine post_one ?_ (below_ams _) rfl
    simp only [go_sem, simprocAttr]
    exact .any _ _ _

/-- The atoms of a store at some places. -/
def pickR (A : List Am) (ix : List Int) : List Am := ix.map fun i => A.getD i.toNat ⟨[], []⟩

theorem a98 (n : Nat) (H : AHeap) (l b q j : Nat) (s : Sto) (i : Int) (hl : l < n) (hq : q < n) (hs : HasSto H l b s) (hbx : H q j = some (.box [.ptr l b 0])) (hg : GoodL s.A) (hn : 0 < n) (hT : Tabs H) (h0 : 0 ≤ i) (h1 : i < s.A.length) :
    PC Tryz.prog n 98 [eInt i, .ptr q j 0] H (s.A.getD i.toNat ⟨[], []⟩).enc := by
  have hne : ¬ l = n := by omega
  have hqn : ¬ q = n := by omega
  have hb := hs.box
  have h2 : i.toNat < s.A.length := by omega
  have hA : s.A ≠ [] := fun e => by rw [e] at h2; simp at h2
  have hA' : ¬ s.A = [] := hA
  have hga : s.A.getD i.toNat ⟨[], []⟩ = s.A[i.toNat] := by rw [List.getD_eq_getElem?_getD, List.getElem?_eq_getElem h2]; rfl
  refine a_fun tok (fun_of Tryz.func98 rfl rfl) (by simp) fun B => ?_
  repeat refine kn rfl ?_
  refine k_region tok rfl (by kernel_rfl) ?_
  simp only [go_sem, simprocAttr]
  repeat refine kn rfl ?_
  refine k_region tok rfl (by kernel_rfl) ?_
  simp only [go_sem, simprocAttr, hne, hqn, hb, hbx, boxCells, atomsCell, hA', h0, h1, h2, Am.getD_enc _ _ h2]
  refine callT (fun_of Tryz.func59 rfl rfl) (a59 s.A[i.toNat] (hg _ (List.getElem_mem h2))) hn hT (by simp only [go_sem, simprocAttr]) ?_
  simp only [go_sem, simprocAttr]
  repeat refine kn rfl ?_
  refine k_ret rfl ?_
  rw [hga]
  exact post_cell (.inl rfl) _ n 3 0 s.A[i.toNat].cs (by simp only [go_sem, simprocAttr]) (by simp only [go_sem, simprocAttr, Go.Abs.full]) rfl (Nat.le_refl _) (by simp only [go_sem, simprocAttr]) (by simp only [go_sem, simprocAttr]; exact .refl _) (Am.blw _ _) rfl

theorem a61 (n : Nat) (H : AHeap) (l b : Nat) (s : Sto) (ix : List Int) (o : Own) (hl : l < n) (hs : HasSto H l b s) (hg : GoodL s.A) (hn : 0 < n) (hT : Tabs H) (hix : ∀ i ∈ ix, 0 ≤ i ∧ i < s.A.length) (hlen : ix.length ≤ 1000000) (ho : Below n (.sl 1 (ix.map eInt) o)) :
    PC Tryz.prog n 61 [.ptr l b 0, .sl 1 (ix.map eInt) o] H (.sl 2 ((pickR s.A ix).map Am.enc) .any) := by
  refine a_fun tok (fun_of Tryz.func61 rfl rfl) (by simp) fun B => ?_
  repeat refine kn rfl ?_
  refine k_region tok rfl (by kernel_rfl) ?_
  simp only [go_sem, simprocAttr]
  repeat refine kn rfl ?_
  refine k_region tok rfl (by kernel_rfl) ?_
  simp only [go_sem, simprocAttr]
  refine callH (fun_of Tryz.func97 rfl rfl) (a97h ix hlen o (n + 1) _ 98 [.ptr n 2 0] (fun i => s.A.getD i.toNat ⟨[], []⟩) ⟨⟨_, _, fun_of Tryz.func98 rfl rfl⟩, fun i hi m H1 hm hH1 => ?_, fun m hm => ⟨.ptr _ _ _ (by omega), trivial⟩⟩ (fun m hm => ho.mono (by omega)) (n + 1) _ (Nat.le_refl _) (fun _ _ _ => rfl)) (by simp only [go_sem, simprocAttr]) ?_
  · refine a98 m H1 l b n 2 s i (by omega) (by omega) (fun k x hk => ?_) ?_ hg (by omega) ?_ (hix i hi).1 (hix i hi).2
    · rw [hH1 _ _ (by omega), full_lt hl]; exact hs k x hk
    · rw [hH1 _ _ (by omega)]; simp only [go_sem, simprocAttr, Go.Abs.full]
    · exact hT.up (fun k => by rw [hH1 _ _ (by omega)]; exact full_lt hn _ _ _)
  simp only [go_sem, simprocAttr]
  repeat refine kn rfl ?_
  refine k_ret rfl ?_
  refine post_one ?_ (below_ams _) rfl
  simp only [go_sem, simprocAttr, pickR]
  exact .refl _
end Go.Proofs.YtpoegdhgdgbmaaaGreatDoorR

/- The store's All and Find. -/
namespace Go.Proofs.YtpoegdhgdgbmaaaGreatDoorR
open Go.Abs
set_option maxRecDepth 100000

/-- A key's indices. -/
def ixOf {κ : Type} [DecidableEq κ] (k : κ) (es : List (κ × List Int)) : List Int := match keyIx k es 0 with
  | some j => (es[j]?.map Prod.snd).getD []
  | none => []

theorem keyIx_lt {κ β : Type} [DecidableEq κ] {k : κ} : ∀ {es : List (κ × β)} {i j : Nat}, keyIx k es i = some j → i ≤ j ∧ j < i + es.length
  | [], _, _, h => by cases h
  | p :: r, i, j, h => by
    simp only [keyIx] at h
    split at h
    · cases h; simp
    · have := keyIx_lt h
      simp only [List.length_cons]; omega

theorem ents_getD {κ : Type} (enc : κ → AV) (l b : Nat) : ∀ (es : List (κ × List Int)) (i j : Nat) (h : j < es.length) (d : AV × AV), (ents enc l b i es).getD j d = (enc es[j].1, .sl 1 (es[j].2.map eInt) (.buf l (b + 2 * (i + j))))
  | p :: r, i, 0, _, d => rfl
  | p :: r, i, j + 1, h, d => by
    have := ents_getD enc l b r (i + 1) j (by simpa using h) d
    simp only [ents, List.getD_cons_succ, List.getElem_cons_succ]
    rw [this]
    congr 3; omega

theorem ents_mem {κ : Type} (enc : κ → AV) (l b : Nat) : ∀ (es : List (κ × List Int)) (i : Nat) (p : AV × AV), p ∈ ents enc l b i es → ∃ k, p.1 = enc k
  | q :: r, i, p, h => by
    simp only [ents, List.mem_cons] at h
    rcases h with rfl | h
    · exact ⟨q.1, rfl⟩
    · exact ents_mem enc l b r (i + 1) p h

theorem below_ints_o {n k : Nat} {o : Own} (l : List Int) (h : ∀ l' j, o = .buf l' j → l' < n) : Below n (.sl k (l.map eInt) o) :=
  .sl k _ o (fun i hi c hc => by
    have := blw_ints (n := n) .i64 l _ (List.getElem_mem hi)
    exact this.cells _ (List.getElem_mem hc)) h

theorem a30 (n : Nat) (H : AHeap) (l b : Nat) (s : Sto) (g : Sg) (hl : l < n) (hs : HasSto H l b s) (hg : GoodL s.A) (hn : 0 < n) (hT : Tabs H) (hix : ∀ i ∈ ixOf g s.S, 0 ≤ i ∧ i < s.A.length) (hlen : (ixOf g s.S).length ≤ 1000000) :
    PC Tryz.prog n 30 [.ptr l b 0, g.enc] H (.sl 2 ((pickR s.A (ixOf g s.S)).map Am.enc) .any) := by
  have hne : ¬ l = n := by omega
  have hb := hs.box
  have hsig := hs.sig
  have hf : findL g.enc.kls ((ents Sg.enc l (b + 5) 0 s.S).map fun p => p.1.kls) 0 = keyIx g s.S 0 := findL_ents Sg.enc kls_sg g l (b + 5) s.S 0 0
  have hkk : ∀ p, p ∈ ents Sg.enc l (b + 5) 0 s.S → keyOK tt 49 p.1 = true := fun p hp => by
    obtain ⟨k, hk⟩ := ents_mem _ _ _ _ _ _ hp
    rw [hk]; exact keySig _ _
  have hd := fun j h => ents_getD Sg.enc l (b + 5) s.S 0 j h (.dead, .dead)
  generalize ents Sg.enc l (b + 5) 0 s.S = es at hf hkk hsig hd
  simp only [Sg.enc] at hf
  refine a_fun tok (fun_of Tryz.func30 rfl rfl) (by simp) fun B => ?_
  repeat refine kn rfl ?_
  refine k_region tok rfl (by kernel_rfl) ?_
  simp only [go_sem, simprocAttr]
  repeat refine kn rfl ?_
  refine k_region tok rfl (by kernel_rfl) ?_
  simp only [go_sem, simprocAttr]
  refine callH (fun_of Tryz.func55 rfl rfl) (a55 (n + 1) _ l b s (by omega) (hs.full hl _)) (by simp only [go_sem, simprocAttr]) ?_
  simp only [go_sem, simprocAttr]
  repeat refine kn rfl ?_
  refine k_cond_f rfl (by simp only [go_sem, simprocAttr]) ?_
  cases hk : keyIx g s.S 0 with
  | none =>
    have e : ixOf g s.S = [] := by rw [ixOf, hk]
    rw [e] at hix hlen
    rw [hk] at hf
    repeat refine kn rfl ?_
    refine k_draw tok mixed drawO rfl rfl (by kernel_rfl) (by kernel_rfl) ?_
    simp only [go_sem, simprocAttr, hne, hb, hsig, boxCells, lookA, findA, hf]
    refine ⟨hkk, ?_⟩
    refine callH (fun_of Tryz.func61 rfl rfl) (a61 (n + 1) _ l b s [] .full (by omega) (hs.full hl _) hg (by omega) (hT.full hn) hix hlen (below_ints_o [] (fun _ _ e => by cases e))) (by simp only [go_sem, simprocAttr, zeroA]) ?_
    simp only [go_sem, simprocAttr]
    repeat refine kn rfl ?_
    refine k_ret rfl ?_
    rw [e]
    exact post_one (.refl _) (below_ams _) rfl
  | some j =>
    have hj := keyIx_lt hk
    have hj' : j < s.S.length := by omega
    have e : ixOf g s.S = s.S[j].2 := by rw [ixOf, hk]; simp [List.getElem?_eq_getElem hj']
    rw [e] at hix hlen
    rw [hk] at hf
    have hdj := hd j hj'
    repeat refine kn rfl ?_
    refine k_draw tok mixed drawO rfl rfl (by kernel_rfl) (by kernel_rfl) ?_
    simp only [go_sem, simprocAttr, hne, hb, hsig, boxCells, lookA, findA, hf, hdj]
    refine ⟨hkk, ?_⟩
    refine callH (fun_of Tryz.func61 rfl rfl) (a61 (n + 1) _ l b s s.S[j].2 (.buf l (b + 5 + 2 * (0 + j))) (by omega) (hs.full hl _) hg (by omega) (hT.full hn) hix hlen (below_ints_o _ (fun _ _ e => by cases e; omega))) (by simp only [go_sem, simprocAttr]) ?_
    simp only [go_sem, simprocAttr]
    repeat refine kn rfl ?_
    refine k_ret rfl ?_
    rw [e]
    exact post_one (.refl _) (below_ams _) rfl
end Go.Proofs.YtpoegdhgdgbmaaaGreatDoorR

/- The store's Find. -/
namespace Go.Proofs.YtpoegdhgdgbmaaaGreatDoorR
open Go.Abs
set_option maxRecDepth 100000

theorem keyAk (p : List UInt8) (m c : Int) (t : List UInt8) : keyOK tt 89 (.agg [.str p, .int .i64 m, .int .i64 c, .str t]) = true := by
  simp only [keyOK, AV.cells, klAll, AV.kl]
  rfl

theorem a32 (n : Nat) (H : AHeap) (l b : Nat) (s : Sto) (g0 : Sg) (c : Int) (v : Tm) (hv : v.Good) (hl : l < n) (hs : HasSto H l b s) (hg : GoodL s.A) (hn : 0 < n) (hT : Tabs H) (hix : ∀ i ∈ ixOf (⟨g0, c, txt v⟩ : Ak) s.R, 0 ≤ i ∧ i < s.A.length) (hlen : (ixOf (⟨g0, c, txt v⟩ : Ak) s.R).length ≤ 1000000) :
    PC Tryz.prog n 32 [.ptr l b 0, g0.enc, .int .i64 c, v.enc] H (.sl 2 ((if valueT v = true then pickR s.A (ixOf (⟨g0, c, txt v⟩ : Ak) s.R) else []).map Am.enc) .any) := by
  generalize hgk : (⟨g0, c, txt v⟩ : Ak) = g at *
  have hne : ¬ l = n := by omega
  have hb := hs.box
  have harg := hs.arg
  have hf : findL g.enc.kls ((ents Ak.enc l (b + 6) 0 s.R).map fun p => p.1.kls) 0 = keyIx g s.R 0 := findL_ents Ak.enc kls_ak g l (b + 6) s.R 0 0
  have hkk : ∀ p, p ∈ ents Ak.enc l (b + 6) 0 s.R → keyOK tt 89 p.1 = true := fun p hp => by
    obtain ⟨k, hk⟩ := ents_mem _ _ _ _ _ _ hp
    rw [hk]; exact keyAk _ _ _ _
  have hd := fun j h => ents_getD Ak.enc l (b + 6) s.R 0 j h (.dead, .dead)
  generalize ents Ak.enc l (b + 6) 0 s.R = es at hf hkk harg hd
  have hge : g.enc = .agg [.str g0.p, .int .i64 g0.n, .int .i64 c, .str (txt v)] := by rw [← hgk]; rfl
  rw [hge] at hf
  refine a_fun tok (fun_of Tryz.func32 rfl rfl) (by simp) fun B => ?_
  repeat refine kn rfl ?_
  refine k_region tok rfl (by kernel_rfl) ?_
  simp only [go_sem, simprocAttr]
  repeat refine kn rfl ?_
  refine k_region tok rfl (by kernel_rfl) ?_
  simp only [go_sem, simprocAttr]
  refine callH (fun_of Tryz.func55 rfl rfl) (a55 (n + 1) _ l b s (by omega) (hs.full hl _)) (by simp only [go_sem, simprocAttr]) ?_
  simp only [go_sem, simprocAttr]
  refine callT (fun_of Tryz.func37 rfl rfl) (a37 v hv) hn hT (by simp only [go_sem, simprocAttr]) ?_
  simp only [go_sem, simprocAttr]
  cases h1 : valueT v with
  | false =>
    repeat refine kn rfl ?_
    refine k_cond_t rfl (by simp only [go_sem, simprocAttr, h1]) ?_
    repeat refine kn rfl ?_
    refine k_region tok rfl (by kernel_rfl) ?_
    simp only [go_sem, simprocAttr]
    repeat refine kn rfl ?_
    refine k_ret rfl ?_
    exact post_one (.any _ _ _) (below_ams []) rfl
  | true =>
  repeat refine kn rfl ?_
  refine k_cond_f rfl (by simp only [go_sem, simprocAttr, h1]) ?_
  rw [if_pos rfl]
  cases hk : keyIx g s.R 0 with
  | none =>
    have e : ixOf g s.R = [] := by rw [ixOf, hk]
    rw [e] at hix hlen
    rw [hk] at hf
    repeat refine kn rfl ?_
    refine k_draw tok mixed drawO rfl rfl (by kernel_rfl) (by kernel_rfl) ?_
    simp only [go_sem, simprocAttr, hne, hb, harg, boxCells]
    refine callT (fun_of Tryz.func58 rfl rfl) (a58 v hv h1) hn hT (by simp only [go_sem, simprocAttr]) ?_
    simp only [go_sem, simprocAttr]
    simp only [go_sem, simprocAttr, hne, hb, harg, boxCells, keyAk, lookA, findA, hf]
    refine ⟨hkk, ?_⟩
    refine callH (fun_of Tryz.func61 rfl rfl) (a61 (n + 1) _ l b s [] .full (by omega) (hs.full hl _) hg (by omega) (hT.full hn) hix hlen (below_ints_o [] (fun _ _ e => by cases e))) (by simp only [go_sem, simprocAttr, zeroA]) ?_
    simp only [go_sem, simprocAttr]
    repeat refine kn rfl ?_
    refine k_ret rfl ?_
    rw [e]
    exact post_one (.refl _) (below_ams _) rfl
  | some j =>
    have hj := keyIx_lt hk
    have hj' : j < s.R.length := by omega
    have e : ixOf g s.R = s.R[j].2 := by rw [ixOf, hk]; simp [List.getElem?_eq_getElem hj']
    rw [e] at hix hlen
    rw [hk] at hf
    have hdj := hd j hj'
    repeat refine kn rfl ?_
    refine k_draw tok mixed drawO rfl rfl (by kernel_rfl) (by kernel_rfl) ?_
    simp only [go_sem, simprocAttr, hne, hb, harg, boxCells]
    refine callT (fun_of Tryz.func58 rfl rfl) (a58 v hv h1) hn hT (by simp only [go_sem, simprocAttr]) ?_
    simp only [go_sem, simprocAttr]
    simp only [go_sem, simprocAttr, hne, hb, harg, boxCells, keyAk, lookA, findA, hf, hdj]
    refine ⟨hkk, ?_⟩
    refine callH (fun_of Tryz.func61 rfl rfl) (a61 (n + 1) _ l b s s.R[j].2 (.buf l (b + 6 + 2 * (0 + j))) (by omega) (hs.full hl _) hg (by omega) (hT.full hn) hix hlen (below_ints_o _ (fun _ _ e => by cases e; omega))) (by simp only [go_sem, simprocAttr]) ?_
    simp only [go_sem, simprocAttr]
    repeat refine kn rfl ?_
    refine k_ret rfl ?_
    rw [e]
    exact post_one (.refl _) (below_ams _) rfl
end Go.Proofs.YtpoegdhgdgbmaaaGreatDoorR

/- A new store. -/
namespace Go.Proofs.YtpoegdhgdgbmaaaGreatDoorR
open Go.Abs
set_option maxRecDepth 100000

/-- Nothing stands from a slot on. -/
def FreeAt (H : AHeap) (l b : Nat) : Prop := ∀ k, b ≤ k → H l k = none

def sto0 : Sto := ⟨[], [], [], []⟩

theorem put0 (H : AHeap) (l b : Nat) (hf : FreeAt H l b) : (((H.upd l (b + 2) (.map [])).upd l (b + 3) (.map [])).upd l (b + 4) (.map [])).upd l b (.box [.sl 2 [] .full, .map l (b + 2), .map l (b + 3), .map l (b + 4)]) = put H l b sto0 := by
  funext l' k
  unfold put
  by_cases hl : l' = l
  · subst hl
    rw [if_pos rfl, lkb_lst]
    simp only [AHeap.upd, sto0, boxCells, atomsCell, List.map_nil, ents, true_and, if_true, List.getElem?_nil, Option.map_none]
    by_cases h1 : k = b
    · subst h1; simp
    · by_cases h2 : k = b + 2
      · subst h2; simp
      · by_cases h3 : k = b + 3
        · subst h3; simp
        · by_cases h4 : k = b + 4
          · subst h4; simp
          · simp [h1, h2, h3, h4]
  · rw [if_neg hl]
    simp [AHeap.upd, hl]

theorem k_give {cx : Cx} {c : Code} {k : List Itm} {Q : Exit → AState → Prop} {tm : List (Nat × AV)} {L : List (Nat × ABlk)} {H : AHeap} (j l q : Nat) (x : ABlk) (tm' : List (Nat × AV)) (hl : l < cx.n) (hfree : H l q = none) (hj : lkb L j = some x) (hb : x.Below cx.n)
    (h1 : AllP (fun p => Thin cx.n j (lkv tm p.1) ∧ Wk (ren cx.n j l q (lkv tm p.1)) p.2) tm') (hL : AllP (fun p => AllP (fun a => Thin cx.n j a) p.2.avs ∧ p.2.at_ = [] ∧ p.2.isRec = false) (delb L j))
    (h : AKc cx (.code c :: k) Q ⟨tm', renL cx.n j l q L, H.upd l q x⟩) : AKc cx (.code c :: k) Q ⟨tm, L, H⟩ :=
  k_weak (AWk_give j l q hl hfree hj hb h1.mem (fun p hp => by
    obtain ⟨g1, g2, g3⟩ := hL.mem p hp
    exact ⟨g1.mem, ⟨(fun r hr => absurd (g2 ▸ hr) (List.not_mem_nil)), g3⟩⟩)) h

theorem a22 (n : Nat) (H : AHeap) (l b : Nat) (hl : l < n) (hf : FreeAt H l b) : ACalls Tryz.prog n 22 [] H (fun r H' => r = .ptr l b 0 ∧ H' = put H l b sto0) := by
  refine a_fun tok (fun_of Tryz.func22 rfl rfl) (by simp) fun B => ?_
  repeat refine kn rfl ?_
  refine k_region tok rfl (by kernel_rfl) ?_
  simp only [go_sem, simprocAttr]
  repeat refine kn rfl ?_
  refine k_region tok rfl (by kernel_rfl) ?_
  simp only [go_sem, simprocAttr]
  repeat refine kn rfl ?_
  refine k_weak (s' := ⟨[(0, .ptr n 5 0)], [(1, .map []), (2, .map []), (3, .map []), (5, .box [.sl 2 [] .full, .map n 1, .map n 2, .map n 3])], H⟩) ?_ ?_
  · refine AWk_kept ?_ ?_ ?_ ?_ <;> repeat' first | exact trivial | refine q0 ?_ | exact qb | exact q1 | exact q2 | exact q3 | exact rfl | refine And.intro ?_ ?_ | exact q4 | exact q5 | exact q6 | exact q7 | exact Inside.ptr _ _ _ (.inr ⟨rfl, rfl⟩) | exact q8 | exact q9 | exact qd | exact Tm.ins _ | exact Tm.inss _ _ | exact Am.ins _ | exact Am.inss _ _ | refine ins_buf_str ?_ | refine Tm.ins_buf ?_ | refine Am.ins_buf ?_ | exact qf
    all_goals first | exact ins_full (fun x hx => by cases hx) | exact Inside.map _ _ (.inr ⟨rfl, rfl⟩)
  have hne : ¬ l = n := by omega
  have hsl : ∀ q, Inside n q (.sl 2 [] .full) := fun q => ins_full (fun x hx => by cases hx)
  have hmb : ABlk.Below n (.map []) := ⟨by simp [ABlk.avs], by simp [ABlk.at_]⟩
  have hth : ∀ j, Thin n j (.sl 2 [] .full) := fun j => .inl (hsl _)
  have hm : ∀ j k, k ≠ j → Thin n j (.map n k) := fun j k h => .inl (.map _ _ (.inr ⟨rfl, h⟩))
  have hm' : ∀ j k, Thin n j (.map l k) := fun j k => .inl (.map _ _ (.inl hl))
  have hp : ∀ j k, k ≠ j → Thin n j (.ptr n k 0) := fun j k h => .inl (.ptr _ _ _ (.inr ⟨rfl, h⟩))
  refine k_give 1 l (b + 2) _ [(0, .ptr n 5 0)] hl (hf _ (by omega)) rfl hmb ⟨⟨hp _ _ (by decide), by simp [lkv, ren]; exact .refl _⟩, trivial⟩ ⟨⟨trivial, rfl, rfl⟩, ⟨trivial, rfl, rfl⟩, ⟨⟨hth _, .inr (.inr (.inl rfl)), hm _ _ (by decide), hm _ _ (by decide), trivial⟩, rfl, rfl⟩, trivial⟩ ?_
  simp only [go_sem, simprocAttr, renL, delb, ABlk.mapv, ren]
  refine k_give 2 l (b + 3) _ [(0, .ptr n 5 0)] hl (by simp [AHeap.upd]; exact hf _ (by omega)) rfl hmb ⟨⟨hp _ _ (by decide), by simp [lkv, ren]; exact .refl _⟩, trivial⟩ ⟨⟨trivial, rfl, rfl⟩, ⟨⟨hth _, hm' _ _, .inr (.inr (.inl rfl)), hm _ _ (by decide), trivial⟩, rfl, rfl⟩, trivial⟩ ?_
  simp only [go_sem, simprocAttr, renL, delb, ABlk.mapv, ren, hne, false_and, if_false]
  refine k_give 3 l (b + 4) _ [(0, .ptr n 5 0)] hl (by simp [AHeap.upd]; exact hf _ (by omega)) rfl hmb ⟨⟨hp _ _ (by decide), by simp [lkv, ren]; exact .refl _⟩, trivial⟩ ⟨⟨⟨hth _, hm' _ _, hm' _ _, .inr (.inr (.inl rfl)), trivial⟩, rfl, rfl⟩, trivial⟩ ?_
  simp only [go_sem, simprocAttr, renL, delb, ABlk.mapv, ren, hne, false_and, if_false]
  refine k_give 5 l b _ [(0, .ptr l b 0)] hl (by simp [AHeap.upd]; exact hf _ (by omega)) rfl (ABlk.below_box ⟨.sl _ _ _ (fun i h => absurd h (Nat.not_lt_zero _)) (fun _ _ e => by cases e), .map _ _ hl, .map _ _ hl, .map _ _ hl, trivial⟩) ⟨⟨.inr (.inl ⟨0, rfl⟩), by simp [lkv, ren]; exact .refl _⟩, trivial⟩ trivial ?_
  simp only [go_sem, simprocAttr, renL, delb, ABlk.mapv, ren, hne, false_and, if_false]
  repeat refine kn rfl ?_
  refine k_ret rfl ?_
  exact ⟨by simp [okRes], [.ptr l b 0], ⟨.refl _, trivial⟩, by simp only [List.mem_singleton, forall_eq]; exact .ptr _ _ _ hl, rfl, put0 H l b hf⟩
end Go.Proofs.YtpoegdhgdgbmaaaGreatDoorR
