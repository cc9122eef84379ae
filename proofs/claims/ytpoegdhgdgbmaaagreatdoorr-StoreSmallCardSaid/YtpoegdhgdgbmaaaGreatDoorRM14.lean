/- Equal terms and atoms; the reference's comparison of atoms. -/
import Derived.Test.YtpoegdhgdgbmaaaGreatDoorRM13
import Derived.Test.YtpoegdhgdgbmaaaGreatDoorRM12
set_option linter.all false
namespace Go.Proofs.YtpoegdhgdgbmaaaGreatDoorR
open Go.Abs
set_option maxRecDepth 100000

theorem nat_ne {m n : Nat} (h : ((m : Int) == n) = false) : m ≠ n := by
  have : (m : Int) ≠ n := by simpa using h
  omega
theorem nat_eq {m n : Nat} (h : ((m : Int) == n) = true) : m = n := by
  have : (m : Int) = n := by simpa using h
  omega

/-- Equal terms. -/
def eqT : Tm → Tm → Bool
  | .mk k n s l, .mk k' n' s' l' => (k == k') && (n == n') && (s == s') && eqs l l'
where eqs : List Tm → List Tm → Bool
  | [], [] => true
  | a :: x, b :: y => eqT a b && eqs x y
  | _, _ => false

theorem eqT_eq (a b : Tm) : eqT a b = ((a.kind == b.kind) && (a.num == b.num) && (a.name == b.name) && eqT.eqs a.args b.args) := by
  cases a; cases b; rw [eqT]; rfl

theorem eqT_iff : ∀ a b : Tm, eqT a b = true ↔ a = b
  | .mk k n s l, b => by
    have hl : ∀ (p q : List Tm), (∀ u ∈ p, u ∈ l) → (eqT.eqs p q = true ↔ p = q) := by
      intro p
      induction p with
      | nil => intro q _; cases q <;> simp [eqT.eqs]
      | cons t p ih =>
        intro q hp
        cases q with
        | nil => simp [eqT.eqs]
        | cons u q =>
          have ht := eqT_iff t u
          simp only [eqT.eqs, Bool.and_eq_true, List.cons.injEq]
          rw [ht, ih q (fun v hv => hp v (List.mem_cons_of_mem _ hv))]
    rw [eqT_eq]
    cases b with
    | mk k' n' s' l' =>
      have := hl l l' (fun u h => h)
      show ((k == k') && (n == n') && (s == s') && eqT.eqs l l') = true ↔ _
      simp only [Bool.and_eq_true, beq_iff_eq, this, Tm.mk.injEq, and_assoc]
termination_by a => SizeOf.sizeOf a
decreasing_by
  have := List.sizeOf_lt_of_mem (hp t (by simp))
  simp only [Tm.mk.sizeOf_spec]; omega

theorem eqs_len : ∀ {p q : List Tm}, p.length ≠ q.length → eqT.eqs p q = false
  | [], [], h => absurd rfl h
  | [], _ :: _, _ => rfl
  | _ :: _, [], _ => rfl
  | a :: p, b :: q, h => by rw [eqT.eqs, eqs_len (p := p) (q := q) (by simpa using h), Bool.and_false]

theorem eqs_true : ∀ {p q : List Tm}, p.length = q.length → (∀ j (h : j < p.length) (h' : j < q.length), eqT p[j] q[j] = true) → eqT.eqs p q = true
  | [], [], _, _ => rfl
  | [], _ :: _, h, _ => by cases h
  | _ :: _, [], h, _ => by cases h
  | a :: p, b :: q, h, hj => by
    have h0 := hj 0 (by simp) (by simp)
    simp only [List.getElem_cons_zero] at h0
    rw [eqT.eqs, h0, Bool.true_and]
    exact eqs_true (by simpa using h) (fun j h1 h2 => by have := hj (j + 1) (by simpa using h1) (by simpa using h2); simpa using this)

theorem eqs_false : ∀ {p q : List Tm} {j : Nat} (h : j < p.length) (h' : j < q.length), eqT p[j] q[j] = false → eqT.eqs p q = false
  | a :: p, b :: q, 0, _, _, hj => by simp only [List.getElem_cons_zero] at hj; rw [eqT.eqs, hj, Bool.false_and]
  | a :: p, b :: q, j + 1, h, h', hj => by
    simp only [List.getElem_cons_succ] at hj
    rw [eqT.eqs, eqs_false (by simpa using h) (by simpa using h') hj, Bool.and_false]

/-- Equal atoms. -/
def eqA (a b : Am) : Bool := (a.pred == b.pred) && eqT.eqs a.args b.args

theorem eqs_iff : ∀ (p q : List Tm), eqT.eqs p q = true ↔ p = q
  | [], [] => by simp [eqT.eqs]
  | [], _ :: _ => by simp [eqT.eqs]
  | _ :: _, [] => by simp [eqT.eqs]
  | a :: p, b :: q => by rw [eqT.eqs, Bool.and_eq_true, eqT_iff, eqs_iff p q, List.cons.injEq]

theorem eqA_iff (a b : Am) : eqA a b = true ↔ a = b := by
  cases a; cases b
  simp only [eqA, Bool.and_eq_true, beq_iff_eq, eqs_iff, Am.mk.injEq]

def st111 (n : Nat) (a b : Tm) (H : AHeap) (i : Nat) : AState :=
  ⟨[(5, .int .i64 i), (2, .ptr n 2 0), (3, .ptr n 3 0)], [(2, .box a.cs), (3, .box b.cs)], H⟩

def st108 (n : Nat) (a b : Am) (H : AHeap) (i : Nat) : AState :=
  ⟨[(5, .int .i64 i), (2, .ptr n 2 0), (3, .ptr n 3 0)], [(2, .box a.cs), (3, .box b.cs)], H⟩

theorem a111x (a b : Tm) (ha : a.Good) (hb : b.Good) (hc : ∀ x ∈ a.args, ∀ y ∈ b.args, PureT Tryz.prog 111 [x.enc, y.enc] (.bool (eqT x y))) : PureT Tryz.prog 111 [a.enc, b.enc] (.bool (eqT a b)) := by
  intro n H hn hT
  have hla := ha.len
  have hx := eqT_eq a b
  refine a_fun tok (fun_of Tryz.func111 rfl rfl) (by simp) fun B => ?_
  repeat refine kn rfl ?_
  refine k_region tok rfl (by kernel_rfl) ?_
  simp only [go_sem, simprocAttr]
  cases h1 : (a.kind == b.kind) with
  | false =>
    repeat refine kn rfl ?_
    refine k_region tok rfl (by kernel_rfl) ?_
    simp only [go_sem, simprocAttr, bne, h1]
    repeat refine kn rfl ?_
    refine k_cond_t rfl (by simp only [go_sem, simprocAttr]) ?_
    repeat refine kn rfl ?_
    refine k_region tok rfl (by kernel_rfl) ?_
    simp only [go_sem, simprocAttr]
    repeat refine kn rfl ?_
    refine k_ret rfl ?_
    refine post_one ?_ (.bool _) rfl
    try simp only [go_sem, simprocAttr, hx, h1]
    exact .refl _
  | true =>
  cases h2 : (a.num == b.num) with
  | false =>
    repeat refine kn rfl ?_
    refine k_region tok rfl (by kernel_rfl) ?_
    simp only [go_sem, simprocAttr, bne, h1, h2]
    repeat refine kn rfl ?_
    refine k_cond_t rfl (by simp only [go_sem, simprocAttr]) ?_
    repeat refine kn rfl ?_
    refine k_region tok rfl (by kernel_rfl) ?_
    simp only [go_sem, simprocAttr]
    repeat refine kn rfl ?_
    refine k_ret rfl ?_
    refine post_one ?_ (.bool _) rfl
    try simp only [go_sem, simprocAttr, hx, h1, h2]
    exact .refl _
  | true =>
  cases h3 : (a.name == b.name) with
  | false =>
    repeat refine kn rfl ?_
    refine k_region tok rfl (by kernel_rfl) ?_
    simp only [go_sem, simprocAttr, bne, h1, h2, h3]
    repeat refine kn rfl ?_
    refine k_cond_t rfl (by simp only [go_sem, simprocAttr]) ?_
    repeat refine kn rfl ?_
    refine k_region tok rfl (by kernel_rfl) ?_
    simp only [go_sem, simprocAttr]
    repeat refine kn rfl ?_
    refine k_ret rfl ?_
    refine post_one ?_ (.bool _) rfl
    try simp only [go_sem, simprocAttr, hx, h1, h2, h3]
    exact .refl _
  | true =>
  cases h4 : ((a.args.length : Int) == b.args.length) with
  | false =>
    repeat refine kn rfl ?_
    refine k_region tok rfl (by kernel_rfl) ?_
    simp only [go_sem, simprocAttr, bne, h1, h2, h3, h4]
    repeat refine kn rfl ?_
    refine k_cond_t rfl (by simp only [go_sem, simprocAttr]) ?_
    repeat refine kn rfl ?_
    refine k_region tok rfl (by kernel_rfl) ?_
    simp only [go_sem, simprocAttr]
    have : eqT.eqs a.args b.args = false := eqs_len (nat_ne h4)
    repeat refine kn rfl ?_
    refine k_ret rfl ?_
    refine post_one ?_ (.bool _) rfl
    try simp only [go_sem, simprocAttr, hx, h1, h2, h3, this]
    exact .refl _
  | true =>
  have hlen : a.args.length = b.args.length   := nat_eq h4
  have hy : eqT a b = eqT.eqs a.args b.args := by rw [hx, h1, h2, h3]; rfl
  repeat refine kn rfl ?_
  refine k_region tok rfl (by kernel_rfl) ?_
  simp only [go_sem, simprocAttr, bne, h1, h2, h3, h4]
  repeat refine kn rfl ?_
  refine k_cond_f rfl (by simp only [go_sem, simprocAttr]) ?_
  repeat refine kn rfl ?_
  refine k_region tok rfl (by kernel_rfl) ?_
  simp only [go_sem, simprocAttr]
  repeat refine kn rfl ?_
  refine k_loop_p (st111 n a b H) (fun i => ∀ j (h : j < a.args.length), j < i → eqT a.args[j] (b.args[j]'(by omega)) = true) a.args.length rfl ?_ (fun j _ h => absurd h (Nat.not_lt_zero _)) ?_
  · refine AWk_kept ?_ ?_ ?_ ?_ <;> repeat' first | exact trivial | refine q0 ?_ | exact qb | exact q1 | exact q2 | exact q3 | exact rfl | refine And.intro ?_ ?_ | exact q4 | exact q5 | exact q6 | exact q7 | exact Inside.ptr _ _ _ (.inr ⟨rfl, rfl⟩) | exact q8 | exact q9 | exact qd | exact Tm.ins _ | exact Tm.inss _ _ | exact Am.ins _ | exact Am.inss _ _ | refine ins_buf_str ?_ | refine Tm.ins_buf ?_ | refine Am.ins_buf ?_ | exact qf
  intro i hi hq
  refine k_st rfl ?_
  rcases Nat.lt_or_ge i a.args.length with h | h
  · have h' : i < b.args.length := by omega
    repeat refine kn rfl ?_
    refine k_region tok rfl (by kernel_rfl) ?_
    simp only [go_sem, simprocAttr, h]
    repeat refine kn rfl ?_
    refine k_cond_t rfl (by simp only [go_sem, simprocAttr]) ?_
    repeat refine kn rfl ?_
    refine k_draw tok mixed drawO rfl rfl (by kernel_rfl) (by kernel_rfl) ?_
    simp only [go_sem, simprocAttr, Tm.getD_enc _ _ h, h, Tm.getD_enc _ _ h', h']
    refine callT (fun_of Tryz.func111 rfl rfl) (hc _ (List.getElem_mem h) _ (List.getElem_mem h')) hn hT (by simp only [go_sem, simprocAttr]) ?_
    simp only [go_sem, simprocAttr]
    cases h5 : eqT a.args[i] b.args[i] with
    | false =>
      repeat refine kn rfl ?_
      refine k_cond_t rfl (by simp only [go_sem, simprocAttr, h5]) ?_
      repeat refine kn rfl ?_
      refine k_region tok rfl (by kernel_rfl) ?_
      simp only [go_sem, simprocAttr]
      repeat refine kn rfl ?_
      refine k_ret_round rfl ?_
      refine post_one ?_ (.bool _) rfl
      simp only [go_sem, simprocAttr, hy, eqs_false h h' h5]
      exact .refl _
    | true =>
      repeat refine kn rfl ?_
      refine k_cond_f rfl (by simp only [go_sem, simprocAttr, h5]) ?_
      repeat refine kn rfl ?_
      refine k_region tok rfl (by kernel_rfl) ?_
      simp only [go_sem, simprocAttr]
      repeat refine kn rfl ?_
      refine k_nil ?_
      refine ⟨fun j hj hji => ?_, ?_⟩
      · rcases Nat.lt_or_ge j i with h' | h'
        · exact hq j hj h'
        · have : j = i := by omega
          subst this; exact h5
      · refine AWk_kept ?_ ?_ ?_ ?_ <;> repeat' first | exact trivial | refine q0 ?_ | exact qb | exact q1 | exact q2 | exact q3 | exact rfl | refine And.intro ?_ ?_ | exact q4 | exact q5 | exact q6 | exact q7 | exact Inside.ptr _ _ _ (.inr ⟨rfl, rfl⟩) | exact q8 | exact q9 | exact qd | exact Tm.ins _ | exact Tm.inss _ _ | exact Am.ins _ | exact Am.inss _ _ | refine ins_buf_str ?_ | refine Tm.ins_buf ?_ | refine Am.ins_buf ?_ | exact qf
        simp only [go_sem, simprocAttr]
        rw [IntWalk.i64_in _ (by omega)]; exact .refl _
  · repeat refine kn rfl ?_
    refine k_region tok rfl (by kernel_rfl) ?_
    simp only [go_sem, simprocAttr, Nat.not_lt.2 h]
    repeat refine kn rfl ?_
    refine k_cond_f rfl (by simp only [go_sem, simprocAttr]) ?_
    repeat refine kn rfl ?_
    refine k_exit_round rfl rfl rfl ?_
    repeat refine kn rfl ?_
    refine k_region tok rfl (by kernel_rfl) ?_
    simp only [go_sem, simprocAttr]
    repeat refine kn rfl ?_
    refine k_ret rfl ?_
    refine post_one ?_ (.bool _) rfl
    simp only [go_sem, simprocAttr, hy, eqs_true hlen (fun j h h' => hq j h (by omega))]
    exact .refl _

theorem a111 (a b : Tm) (ha : a.Good) (hb : b.Good) : PureT Tryz.prog 111 [a.enc, b.enc] (.bool (eqT a b)) :=
  a111x a b ha hb fun x hx y hy => a111 x y (ha.arg hx) (hb.arg hy)
termination_by SizeOf.sizeOf a
decreasing_by exact Tm.size_lt hx

theorem a108 (a b : Am) (ha : a.Good) (hb : b.Good) : PureT Tryz.prog 108 [a.enc, b.enc] (.bool (eqA a b)) := by
  intro n H hn hT
  have hla := ha.len
  have hx : eqA a b = ((a.pred == b.pred) && eqT.eqs a.args b.args) := rfl
  refine a_fun tok (fun_of Tryz.func108 rfl rfl) (by simp) fun B => ?_
  repeat refine kn rfl ?_
  refine k_region tok rfl (by kernel_rfl) ?_
  simp only [go_sem, simprocAttr]
  cases h3 : (a.pred == b.pred) with
  | false =>
    repeat refine kn rfl ?_
    refine k_region tok rfl (by kernel_rfl) ?_
    simp only [go_sem, simprocAttr, bne, h3]
    repeat refine kn rfl ?_
    refine k_cond_t rfl (by simp only [go_sem, simprocAttr]) ?_
    repeat refine kn rfl ?_
    refine k_region tok rfl (by kernel_rfl) ?_
    simp only [go_sem, simprocAttr]
    repeat refine kn rfl ?_
    refine k_ret rfl ?_
    refine post_one ?_ (.bool _) rfl
    try simp only [go_sem, simprocAttr, hx, h3]
    exact .refl _
  | true =>
  cases h4 : ((a.args.length : Int) == b.args.length) with
  | false =>
    repeat refine kn rfl ?_
    refine k_region tok rfl (by kernel_rfl) ?_
    simp only [go_sem, simprocAttr, bne, h3, h4]
    repeat refine kn rfl ?_
    refine k_cond_t rfl (by simp only [go_sem, simprocAttr]) ?_
    repeat refine kn rfl ?_
    refine k_region tok rfl (by kernel_rfl) ?_
    simp only [go_sem, simprocAttr]
    have : eqT.eqs a.args b.args = false := eqs_len (nat_ne h4)
    repeat refine kn rfl ?_
    refine k_ret rfl ?_
    refine post_one ?_ (.bool _) rfl
    try simp only [go_sem, simprocAttr, hx, h3, this]
    exact .refl _
  | true =>
  have hlen : a.args.length = b.args.length   := nat_eq h4
  have hy : eqA a b = eqT.eqs a.args b.args := by rw [hx, h3]; rfl
  repeat refine kn rfl ?_
  refine k_region tok rfl (by kernel_rfl) ?_
  simp only [go_sem, simprocAttr, bne, h3, h4]
  repeat refine kn rfl ?_
  refine k_cond_f rfl (by simp only [go_sem, simprocAttr]) ?_
  repeat refine kn rfl ?_
  refine k_region tok rfl (by kernel_rfl) ?_
  simp only [go_sem, simprocAttr]
  repeat refine kn rfl ?_
  refine k_loop_p (st108 n a b H) (fun i => ∀ j (h : j < a.args.length), j < i → eqT a.args[j] (b.args[j]'(by omega)) = true) a.args.length rfl ?_ (fun j _ h => absurd h (Nat.not_lt_zero _)) ?_
  · refine AWk_kept ?_ ?_ ?_ ?_ <;> repeat' first | exact trivial | refine q0 ?_ | exact qb | exact q1 | exact q2 | exact q3 | exact rfl | refine And.intro ?_ ?_ | exact q4 | exact q5 | exact q6 | exact q7 | exact Inside.ptr _ _ _ (.inr ⟨rfl, rfl⟩) | exact q8 | exact q9 | exact qd | exact Tm.ins _ | exact Tm.inss _ _ | exact Am.ins _ | exact Am.inss _ _ | refine ins_buf_str ?_ | refine Tm.ins_buf ?_ | refine Am.ins_buf ?_ | exact qf
  intro i hi hq
  refine k_st rfl ?_
  rcases Nat.lt_or_ge i a.args.length with h | h
  · have h' : i < b.args.length := by omega
    repeat refine kn rfl ?_
    refine k_region tok rfl (by kernel_rfl) ?_
    simp only [go_sem, simprocAttr, h]
    repeat refine kn rfl ?_
    refine k_cond_t rfl (by simp only [go_sem, simprocAttr]) ?_
    repeat refine kn rfl ?_
    refine k_draw tok mixed drawO rfl rfl (by kernel_rfl) (by kernel_rfl) ?_
    simp only [go_sem, simprocAttr, Tm.getD_enc _ _ h, h, Tm.getD_enc _ _ h', h']
    refine callT (fun_of Tryz.func111 rfl rfl) (a111 _ _ (ha.arg (List.getElem_mem h)) (hb.arg (List.getElem_mem h'))) hn hT (by simp only [go_sem, simprocAttr]) ?_
    simp only [go_sem, simprocAttr]
    cases h5 : eqT a.args[i] b.args[i] with
    | false =>
      repeat refine kn rfl ?_
      refine k_cond_t rfl (by simp only [go_sem, simprocAttr, h5]) ?_
      repeat refine kn rfl ?_
      refine k_region tok rfl (by kernel_rfl) ?_
      simp only [go_sem, simprocAttr]
      repeat refine kn rfl ?_
      refine k_ret_round rfl ?_
      refine post_one ?_ (.bool _) rfl
      simp only [go_sem, simprocAttr, hy, eqs_false h h' h5]
      exact .refl _
    | true =>
      repeat refine kn rfl ?_
      refine k_cond_f rfl (by simp only [go_sem, simprocAttr, h5]) ?_
      repeat refine kn rfl ?_
      refine k_region tok rfl (by kernel_rfl) ?_
      simp only [go_sem, simprocAttr]
      repeat refine kn rfl ?_
      refine k_nil ?_
      refine ⟨fun j hj hji => ?_, ?_⟩
      · rcases Nat.lt_or_ge j i with h' | h'
        · exact hq j hj h'
        · have : j = i := by omega
          subst this; exact h5
      · refine AWk_kept ?_ ?_ ?_ ?_ <;> repeat' first | exact trivial | refine q0 ?_ | exact qb | exact q1 | exact q2 | exact q3 | exact rfl | refine And.intro ?_ ?_ | exact q4 | exact q5 | exact q6 | exact q7 | exact Inside.ptr _ _ _ (.inr ⟨rfl, rfl⟩) | exact q8 | exact q9 | exact qd | exact Tm.ins _ | exact Tm.inss _ _ | exact Am.ins _ | exact Am.inss _ _ | refine ins_buf_str ?_ | refine Tm.ins_buf ?_ | refine Am.ins_buf ?_ | exact qf
        simp only [go_sem, simprocAttr]
        rw [IntWalk.i64_in _ (by omega)]; exact .refl _
  · repeat refine kn rfl ?_
    refine k_region tok rfl (by kernel_rfl) ?_
    simp only [go_sem, simprocAttr, Nat.not_lt.2 h]
    repeat refine kn rfl ?_
    refine k_cond_f rfl (by simp only [go_sem, simprocAttr]) ?_
    repeat refine kn rfl ?_
    refine k_exit_round rfl rfl rfl ?_
    repeat refine kn rfl ?_
    refine k_region tok rfl (by kernel_rfl) ?_
    simp only [go_sem, simprocAttr]
    repeat refine kn rfl ?_
    refine k_ret rfl ?_
    refine post_one ?_ (.bool _) rfl
    simp only [go_sem, simprocAttr, hy, eqs_true hlen (fun j h h' => hq j h (by omega))]
    exact .refl _

def st17 (n : Nat) (a b : Am) (H : AHeap) (i : Nat) : AState :=
  ⟨[(5, .int .i64 i), (2, .ptr n 2 0), (3, .ptr n 3 0)], [(2, .box a.cs), (3, .box b.cs)], H⟩

theorem cmpB_lt {s t : List UInt8} (h : (s == t) = false) : Lib.compareBytes s t = if Op.bytesLess s t = true then -1 else 1 := by
  have h' : s ≠ t := by simpa using h
  rw [less_cmp]
  rcases cmpBytes_val s t with h1 | h1 | h1
  · simp [h1]
  · exact absurd (cmpBytes_zero h1) h'
  · simp [h1]

theorem a17 (a b : Am) (ha : a.Good) (hb : b.Good) : PureT Tryz.prog 17 [a.enc, b.enc] (.int .i64 (cmpA a b)) := by
  intro n H hn hT
  have hla := ha.len
  have hx : cmpA a b = thn (Lib.compareBytes a.pred b.pred) (thn (ncmp a.args.length b.args.length) (cmpT.cmps a.args b.args)) := rfl
  refine a_fun tok (fun_of Tryz.func17 rfl rfl) (by simp) fun B => ?_
  repeat refine kn rfl ?_
  refine k_region tok rfl (by kernel_rfl) ?_
  simp only [go_sem, simprocAttr]
  cases h3 : (a.pred == b.pred) with
  | false =>
    have hc := cmpB_lt h3
    repeat refine kn rfl ?_
    refine k_region tok rfl (by kernel_rfl) ?_
    simp only [go_sem, simprocAttr, bne, h3]
    repeat refine kn rfl ?_
    refine k_cond_t rfl (by simp only [go_sem, simprocAttr]) ?_
    cases h4 : Op.bytesLess a.pred b.pred with
    | true =>
      rw [h4] at hc; simp only [reduceIte] at hc
      repeat refine kn rfl ?_
      refine k_region tok rfl (by kernel_rfl) ?_
      simp only [go_sem, simprocAttr, h4]
      repeat refine kn rfl ?_
      refine k_cond_t rfl (by simp only [go_sem, simprocAttr]) ?_
      repeat refine kn rfl ?_
      refine k_region tok rfl (by kernel_rfl) ?_
      simp only [go_sem, simprocAttr]
      repeat refine kn rfl ?_
      refine k_ret rfl ?_
      refine post_one ?_ (.int _ _) rfl
      rw [hx, hc]
      exact .refl _
    | false =>
      rw [h4] at hc; simp only [Bool.false_eq_true, reduceIte] at hc
      repeat refine kn rfl ?_
      refine k_region tok rfl (by kernel_rfl) ?_
      simp only [go_sem, simprocAttr, h4]
      repeat refine kn rfl ?_
      refine k_cond_f rfl (by simp only [go_sem, simprocAttr]) ?_
      repeat refine kn rfl ?_
      refine k_region tok rfl (by kernel_rfl) ?_
      simp only [go_sem, simprocAttr]
      repeat refine kn rfl ?_
      refine k_ret rfl ?_
      refine post_one ?_ (.int _ _) rfl
      rw [hx, hc]
      exact .refl _
  | true =>
  have hc : Lib.compareBytes a.pred b.pred = 0 := by rw [(by simpa using h3 : a.pred = b.pred)]; exact cmpBytes_self _
  rw [hc, thn_zero] at hx
  repeat refine kn rfl ?_
  refine k_region tok rfl (by kernel_rfl) ?_
  simp only [go_sem, simprocAttr, bne, h3]
  repeat refine kn rfl ?_
  refine k_cond_f rfl (by simp only [go_sem, simprocAttr]) ?_
  cases h4 : ((a.args.length : Int) == b.args.length) with
  | false =>
    have h4' : (a.args.length : Int) ≠ b.args.length := by simpa using h4
    repeat refine kn rfl ?_
    refine k_region tok rfl (by kernel_rfl) ?_
    simp only [go_sem, simprocAttr, bne, h4]
    repeat refine kn rfl ?_
    refine k_cond_t rfl (by simp only [go_sem, simprocAttr]) ?_
    cases h5 : decide (a.args.length < b.args.length) with
    | true =>
      repeat refine kn rfl ?_
      refine k_region tok rfl (by kernel_rfl) ?_
      simp only [go_sem, simprocAttr, h5]
      repeat refine kn rfl ?_
      refine k_cond_t rfl (by simp only [go_sem, simprocAttr]) ?_
      repeat refine kn rfl ?_
      refine k_region tok rfl (by kernel_rfl) ?_
      simp only [go_sem, simprocAttr]
      repeat refine kn rfl ?_
      refine k_ret rfl ?_
      refine post_one ?_ (.int _ _) rfl
      have := of_decide_eq_true h5
      rw [hx, (by unfold ncmp; rw [if_pos (by omega)] : ncmp (a.args.length : Int) b.args.length = -1)]
      exact .refl _
    | false =>
      repeat refine kn rfl ?_
      refine k_region tok rfl (by kernel_rfl) ?_
      simp only [go_sem, simprocAttr, h5]
      repeat refine kn rfl ?_
      refine k_cond_f rfl (by simp only [go_sem, simprocAttr]) ?_
      repeat refine kn rfl ?_
      refine k_region tok rfl (by kernel_rfl) ?_
      simp only [go_sem, simprocAttr]
      repeat refine kn rfl ?_
      refine k_ret rfl ?_
      refine post_one ?_ (.int _ _) rfl
      have := of_decide_eq_false h5
      rw [hx, (by unfold ncmp; rw [if_neg (by omega), if_pos (by omega)] : ncmp (a.args.length : Int) b.args.length = 1)]
      exact .refl _
  | true =>
  have hlen : a.args.length = b.args.length := nat_eq h4
  rw [(by unfold ncmp; rw [if_neg (by omega), if_neg (by omega)] : ncmp (a.args.length : Int) b.args.length = 0), thn_zero] at hx
  repeat refine kn rfl ?_
  refine k_region tok rfl (by kernel_rfl) ?_
  simp only [go_sem, simprocAttr, bne, h4]
  repeat refine kn rfl ?_
  refine k_cond_f rfl (by simp only [go_sem, simprocAttr]) ?_
  repeat refine kn rfl ?_
  refine k_region tok rfl (by kernel_rfl) ?_
  simp only [go_sem, simprocAttr]
  repeat refine kn rfl ?_
  refine k_loop_p (st17 n a b H) (fun i => cmpA a b = cmpT.cmps (a.args.drop i) (b.args.drop i)) a.args.length rfl ?_ hx ?_
  · refine AWk_kept ?_ ?_ ?_ ?_ <;> repeat' first | exact trivial | refine q0 ?_ | exact qb | exact q1 | exact q2 | exact q3 | exact rfl | refine And.intro ?_ ?_ | exact q4 | exact q5 | exact q6 | exact q7 | exact Inside.ptr _ _ _ (.inr ⟨rfl, rfl⟩) | exact q8 | exact q9 | exact qd | exact Tm.ins _ | exact Tm.inss _ _ | exact Am.ins _ | exact Am.inss _ _ | refine ins_buf_str ?_ | refine Tm.ins_buf ?_ | refine Am.ins_buf ?_ | exact qf
  intro i hi hq
  refine k_st rfl ?_
  rcases Nat.lt_or_ge i a.args.length with h | h
  · have h' : i < b.args.length := by omega
    repeat refine kn rfl ?_
    refine k_region tok rfl (by kernel_rfl) ?_
    simp only [go_sem, simprocAttr, h]
    repeat refine kn rfl ?_
    refine k_cond_t rfl (by simp only [go_sem, simprocAttr]) ?_
    repeat refine kn rfl ?_
    refine k_draw tok mixed drawO rfl rfl (by kernel_rfl) (by kernel_rfl) ?_
    simp only [go_sem, simprocAttr, Tm.getD_enc _ _ h, h, Tm.getD_enc _ _ h', h']
    refine callT (fun_of Tryz.func54 rfl rfl) (a54 _ _ (ha.arg (List.getElem_mem h)) (hb.arg (List.getElem_mem h'))) hn hT (by simp only [go_sem, simprocAttr]) ?_
    simp only [go_sem, simprocAttr]
    rw [cmps_drop _ _ i h h'] at hq
    cases h5 : (cmpT a.args[i] b.args[i] == 0) with
    | false =>
      repeat refine kn rfl ?_
      refine k_region tok rfl (by kernel_rfl) ?_
      simp only [go_sem, simprocAttr, bne, h5]
      repeat refine kn rfl ?_
      refine k_cond_t rfl (by simp only [go_sem, simprocAttr]) ?_
      repeat refine kn rfl ?_
      refine k_region tok rfl (by kernel_rfl) ?_
      simp only [go_sem, simprocAttr]
      repeat refine kn rfl ?_
      refine k_ret_round rfl ?_
      refine post_one ?_ (.int _ _) rfl
      rw [hq, thn_ne (by simpa using h5)]
      exact .refl _
    | true =>
      repeat refine kn rfl ?_
      refine k_region tok rfl (by kernel_rfl) ?_
      simp only [go_sem, simprocAttr, bne, h5]
      repeat refine kn rfl ?_
      refine k_cond_f rfl (by simp only [go_sem, simprocAttr]) ?_
      repeat refine kn rfl ?_
      refine k_region tok rfl (by kernel_rfl) ?_
      simp only [go_sem, simprocAttr]
      repeat refine kn rfl ?_
      refine k_nil ?_
      refine ⟨?_, ?_⟩
      · rw [hq, (by simpa using h5 : cmpT a.args[i] b.args[i] = 0), thn_zero]
      · refine AWk_kept ?_ ?_ ?_ ?_ <;> repeat' first | exact trivial | refine q0 ?_ | exact qb | exact q1 | exact q2 | exact q3 | exact rfl | refine And.intro ?_ ?_ | exact q4 | exact q5 | exact q6 | exact q7 | exact Inside.ptr _ _ _ (.inr ⟨rfl, rfl⟩) | exact q8 | exact q9 | exact qd | exact Tm.ins _ | exact Tm.inss _ _ | exact Am.ins _ | exact Am.inss _ _ | refine ins_buf_str ?_ | refine Tm.ins_buf ?_ | refine Am.ins_buf ?_ | exact qf
        simp only [go_sem, simprocAttr]
        rw [IntWalk.i64_in _ (by omega)]; exact .refl _
  · repeat refine kn rfl ?_
    refine k_region tok rfl (by kernel_rfl) ?_
    simp only [go_sem, simprocAttr, Nat.not_lt.2 h]
    repeat refine kn rfl ?_
    refine k_cond_f rfl (by simp only [go_sem, simprocAttr]) ?_
    repeat refine kn rfl ?_
    refine k_exit_round rfl rfl rfl ?_
    repeat refine kn rfl ?_
    refine k_region tok rfl (by kernel_rfl) ?_
    simp only [go_sem, simprocAttr]
    repeat refine kn rfl ?_
    refine k_ret rfl ?_
    refine post_one ?_ (.int _ _) rfl
    rw [hq, List.drop_eq_nil_of_le h, List.drop_eq_nil_of_le (by omega)]
    exact .refl _
end Go.Proofs.YtpoegdhgdgbmaaaGreatDoorR

/- Predicates with their numbers of arguments. -/
namespace Go.Abs
/-- A predicate: name and number of arguments. -/
structure Sg where
  p : List UInt8
  n : Int
deriving DecidableEq
namespace Sg
def cs (s : Sg) : List AV := [.str s.p, .int .i64 s.n]
def enc (s : Sg) : AV := .agg [.str s.p, .int .i64 s.n]
theorem cells_cs (s : Sg) : s.enc.cells = [.str s.p, .int .i64 s.n] := rfl
theorem fold (s : Sg) : AV.agg [.str s.p, .int .i64 s.n] = s.enc := rfl
theorem bcs {n : Nat} (s : Sg) : AllP (fun c => Below n c) s.cs := ⟨.str _, .int _ _, trivial⟩
theorem blw (n : Nat) (s : Sg) : Below n s.enc := below_agg s.bcs.mem
theorem ins {n : Nat} {p : Nat → Prop} (s : Sg) : Inside n p s.enc := (s.blw n).inside
theorem one_cs (s : Sg) : ones s.enc = true := rfl
theorem getD_enc (l : List Sg) (i : Nat) (h : i < l.length) (d : AV) : (l.map enc).getD i d = (l[i]).enc := by
  rw [List.getD_eq_getElem?_getD, List.getElem?_map, List.getElem?_eq_getElem h]; rfl
theorem inss {n : Nat} {p : Nat → Prop} (l : List Sg) (k : Nat) : Inside n p (.sl k (l.map enc) .any) := Below.inside (below_sla fun x hx => by obtain ⟨u, _, rfl⟩ := List.mem_map.1 hx; exact blw n u)
theorem ins_buf {n k j : Nat} {p : Nat → Prop} {l : List Sg} (h : p j) : Inside n p (.sl k (l.map enc) (.buf n j)) := Abs.ins_buf (fun x hx => by obtain ⟨u, _, rfl⟩ := List.mem_map.1 hx; exact u.blw n) h
end Sg
theorem below_sgs {n k : Nat} (l : List Sg) : Below n (.sl k (l.map Sg.enc) .any) := below_sla fun x hx => by obtain ⟨u, _, rfl⟩ := List.mem_map.1 hx; exact u.blw n
/-- An atom's predicate. -/
def Am.sg (a : Am) : Sg := ⟨a.pred, a.args.length⟩
end Go.Abs
namespace Go.Proofs.YtpoegdhgdgbmaaaGreatDoorR
open Go.Abs
set_option maxRecDepth 100000
attribute [go_sem] Sg.enc Sg.cs

theorem a109 (a : Am) : Pure Tryz.prog 109 [a.enc] a.sg.enc := by
  intro n H
  refine a_fun tok (fun_of Tryz.func109 rfl rfl) (by simp) fun B => ?_
  repeat refine kn rfl ?_
  refine k_region tok rfl (by kernel_rfl) ?_
  simp only [go_sem, simprocAttr]
  repeat refine kn rfl ?_
  refine k_region tok rfl (by kernel_rfl) ?_
  simp only [go_sem, simprocAttr]
  repeat refine kn rfl ?_
  refine k_ret rfl ?_
  refine post_cell (.inl rfl) _ n 2 0 a.sg.cs (by simp only [go_sem, simprocAttr]) (by simp only [go_sem, simprocAttr, full, Am.sg]) rfl (Nat.le_refl _) (by simp only [go_sem, simprocAttr]) ?_ (Sg.blw _ _) rfl
  simp only [go_sem, simprocAttr, Am.sg]
  exact .refl _

theorem a56 (a : Am) : Pure Tryz.prog 56 [a.enc] a.sg.enc := by
  intro n H
  refine a_fun tok (fun_of Tryz.func56 rfl rfl) (by simp) fun B => ?_
  repeat refine kn rfl ?_
  refine k_region tok rfl (by kernel_rfl) ?_
  simp only [go_sem, simprocAttr]
  repeat refine kn rfl ?_
  refine k_region tok rfl (by kernel_rfl) ?_
  simp only [go_sem, simprocAttr]
  repeat refine kn rfl ?_
  refine k_ret rfl ?_
  refine post_cell (.inl rfl) _ n 2 0 a.sg.cs (by simp only [go_sem, simprocAttr]) (by simp only [go_sem, simprocAttr, full, Am.sg]) rfl (Nat.le_refl _) (by simp only [go_sem, simprocAttr]) ?_ (Sg.blw _ _) rfl
  simp only [go_sem, simprocAttr, Am.sg]
  exact .refl _

theorem kf49 (p : List UInt8) (n : Int) : keyFits tt 100 49 [KL.str p, KL.int .i64 n] = true := rfl
theorem kl_sg (s t : Sg) : ([KL.str s.p, KL.int .i64 s.n] == [KL.str t.p, KL.int .i64 t.n]) = (s == t) := by
  rw [Bool.eq_iff_iff]; cases s; cases t; simp
attribute [go_sem] kf49

def st154 (n : Nat) (l : List Sg) (s : Sg) (H : AHeap) (i : Nat) : AState :=
  ⟨[(5, .int .i64 i), (3, .ptr n 3 0), (0, .sl 2 (l.map Sg.enc) .any)], [(3, .box s.cs)], H⟩

theorem a154 (l : List Sg) (s : Sg) (hl : l.length ≤ 1000000) : Pure Tryz.prog 154 [.sl 2 (l.map Sg.enc) .any, s.enc] (.bool (l.any (· == s))) := by
  intro n H
  refine a_fun tok (fun_of Tryz.func154 rfl rfl) (by simp) fun B => ?_
  repeat refine kn rfl ?_
  refine k_region tok rfl (by kernel_rfl) ?_
  simp only [go_sem, simprocAttr]
  repeat refine kn rfl ?_
  refine k_region tok rfl (by kernel_rfl) ?_
  simp only [go_sem, simprocAttr]
  repeat refine kn rfl ?_
  refine k_loop_p (st154 n l s H) (fun i => ∀ j (h : j < l.length), j < i → (l[j] == s) = false) l.length rfl ?_ (fun j _ h => absurd h (Nat.not_lt_zero _)) ?_
  · refine AWk_kept ?_ ?_ ?_ ?_ <;> repeat' first | exact trivial | refine q0 ?_ | exact qb | exact q1 | exact q2 | exact q3 | exact rfl | refine And.intro ?_ ?_ | exact q4 | exact q5 | exact q6 | exact q7 | exact Inside.ptr _ _ _ (.inr ⟨rfl, rfl⟩) | exact q8 | exact q9 | exact qd | exact Tm.ins _ | exact Tm.inss _ _ | exact Am.ins _ | exact Am.inss _ _ | refine ins_buf_str ?_ | refine Tm.ins_buf ?_ | refine Am.ins_buf ?_ | exact qf
    exact Sg.inss _ _
  intro i hi hq
  refine k_st rfl ?_
  rcases Nat.lt_or_ge i l.length with h | h
  · repeat refine kn rfl ?_
    refine k_region tok rfl (by kernel_rfl) ?_
    simp only [go_sem, simprocAttr, h]
    repeat refine kn rfl ?_
    refine k_cond_t rfl (by simp only [go_sem, simprocAttr]) ?_
    repeat refine kn rfl ?_
    refine k_draw tok mixed drawO rfl rfl (by kernel_rfl) (by kernel_rfl) ?_
    simp only [go_sem, simprocAttr, Sg.getD_enc _ _ h, h, klAll, AV.kls, AV.kl, kl_sg]
    cases h5 : (l[i] == s) with
    | true =>
      repeat refine kn rfl ?_
      refine k_cond_t rfl (by simp only [go_sem, simprocAttr, h5]) ?_
      repeat refine kn rfl ?_
      refine k_region tok rfl (by kernel_rfl) ?_
      simp only [go_sem, simprocAttr]
      repeat refine kn rfl ?_
      refine k_ret_round rfl ?_
      refine post_one ?_ (.bool _) rfl
      have : l.any (· == s) = true := List.any_eq_true.2 ⟨_, List.getElem_mem h, h5⟩
      simp only [go_sem, simprocAttr, this]
      exact .refl _
    | false =>
      repeat refine kn rfl ?_
      refine k_cond_f rfl (by simp only [go_sem, simprocAttr, h5]) ?_
      repeat refine kn rfl ?_
      refine k_region tok rfl (by kernel_rfl) ?_
      simp only [go_sem, simprocAttr]
      repeat refine kn rfl ?_
      refine k_nil ?_
      refine ⟨fun j hj hji => ?_, ?_⟩
      · rcases Nat.lt_or_ge j i with h' | h'
        · exact hq j hj h'
        · have : j = i := by omega
          subst this; exact h5
      · refine AWk_kept ?_ ?_ ?_ ?_ <;> repeat' first | exact trivial | refine q0 ?_ | exact qb | exact q1 | exact q2 | exact q3 | exact rfl | refine And.intro ?_ ?_ | exact q4 | exact q5 | exact q6 | exact q7 | exact Inside.ptr _ _ _ (.inr ⟨rfl, rfl⟩) | exact q8 | exact q9 | exact qd | exact Tm.ins _ | exact Tm.inss _ _ | exact Am.ins _ | exact Am.inss _ _ | refine ins_buf_str ?_ | refine Tm.ins_buf ?_ | refine Am.ins_buf ?_ | exact qf
        all_goals first | exact Sg.inss _ _ | skip
        simp only [go_sem, simprocAttr]
        rw [IntWalk.i64_in _ (by omega)]; exact .refl _
  · repeat refine kn rfl ?_
    refine k_region tok rfl (by kernel_rfl) ?_
    simp only [go_sem, simprocAttr, Nat.not_lt.2 h]
    repeat refine kn rfl ?_
    refine k_cond_f rfl (by simp only [go_sem, simprocAttr]) ?_
    repeat refine kn rfl ?_
    refine k_exit_round rfl rfl rfl ?_
    repeat refine kn rfl ?_
    refine k_region tok rfl (by kernel_rfl) ?_
    simp only [go_sem, simprocAttr]
    repeat refine kn rfl ?_
    refine k_ret rfl ?_
    refine post_one ?_ (.bool _) rfl
    have : l.any (· == s) = false := by
      rw [List.any_eq_false]; intro x hx
      obtain ⟨j, hj, rfl⟩ := List.getElem_of_mem hx
      rw [hq j hj (by omega)]; simp
    simp only [go_sem, simprocAttr, this]
    exact .refl _

/-- The order of predicates. -/
def cmpS (s t : Sg) : Int := thn (Lib.compareBytes s.p t.p) (ncmp s.n t.n)
def ltS (s t : Sg) : Bool := decide (cmpS s t < 0)

theorem ncmp_lt {a b : Int} : ncmp a b < 0 ↔ a < b := by
  unfold ncmp; split
  · simp; assumption
  · split <;> simp <;> omega

theorem a155 (s t : Sg) : Pure Tryz.prog 155 [s.enc, t.enc] (.bool (ltS s t)) := by
  intro n H
  have hc := less_cmp s.p t.p
  refine a_fun tok (fun_of Tryz.func155 rfl rfl) (by simp) fun B => ?_
  repeat refine kn rfl ?_
  refine k_region tok rfl (by kernel_rfl) ?_
  simp only [go_sem, simprocAttr]
  cases h1 : Op.bytesLess s.p t.p with
  | true =>
    rw [h1] at hc
    have : ltS s t = true := by
      have := of_decide_eq_true hc.symm
      rw [ltS, cmpS, this]; rfl
    repeat refine kn rfl ?_
    refine k_region tok rfl (by kernel_rfl) ?_
    simp only [go_sem, simprocAttr, h1]
    repeat refine kn rfl ?_
    refine k_ret rfl ?_
    refine post_one ?_ (.bool _) rfl
    try simp only [go_sem, simprocAttr, this]
    exact .refl _
  | false =>
    rw [h1] at hc
    cases h2 : (s.p == t.p) with
    | false =>
      have : ltS s t = false := by
        have h3 := of_decide_eq_false hc.symm
        have h4 : s.p ≠ t.p := by simpa using h2
        rcases cmpBytes_val s.p t.p with h | h | h
        · exact absurd h h3
        · exact absurd (cmpBytes_zero h) h4
        · rw [ltS, cmpS, h]; rfl
      repeat refine kn rfl ?_
      refine k_region tok rfl (by kernel_rfl) ?_
      simp only [go_sem, simprocAttr, h1, h2]
      repeat refine kn rfl ?_
      refine k_ret rfl ?_
      refine post_one ?_ (.bool _) rfl
      try simp only [go_sem, simprocAttr, this]
      exact .refl _
    | true =>
      have : ltS s t = decide (s.n < t.n) := by
        have h4 : s.p = t.p := by simpa using h2
        rw [ltS, cmpS, h4, cmpBytes_self, thn_zero, Bool.eq_iff_iff]; simp [ncmp_lt]
      repeat refine kn rfl ?_
      refine k_region tok rfl (by kernel_rfl) ?_
      simp only [go_sem, simprocAttr, h1, h2]
      repeat refine kn rfl ?_
      refine k_ret rfl ?_
      refine post_one ?_ (.bool _) rfl
      try simp only [go_sem, simprocAttr, this]
      exact .refl _

def dif (s t : Sg) : Int := thn (Lib.compareBytes s.p t.p) (s.n - t.n)
theorem dif_lt (s t : Sg) : decide (dif s t < 0) = ltS s t := by
  unfold dif ltS cmpS thn
  split
  · rw [Bool.eq_iff_iff]; simp [ncmp_lt]; omega
  · rfl

/-- The number of arguments is no large number. -/
def _root_.Go.Abs.Sg.small (s : Sg) : Prop := 0 ≤ s.n ∧ s.n ≤ 1000000

theorem a103 (s t : Sg) (hs : s.small) (ht : t.small) : Pure Tryz.prog 103 [s.enc, t.enc] (.int .i64 (dif s t)) := by
  intro n H
  obtain ⟨h1, h2⟩ := hs
  obtain ⟨h3, h4⟩ := ht
  refine a_fun tok (fun_of Tryz.func103 rfl rfl) (by simp) fun B => ?_
  repeat refine kn rfl ?_
  refine k_region tok rfl (by kernel_rfl) ?_
  simp only [go_sem, simprocAttr]
  repeat refine kn rfl ?_
  refine k_region tok rfl (by kernel_rfl) ?_
  simp only [go_sem, simprocAttr]
  refine callP (fun_of Tryz.func50 rfl rfl) (a50 s.p t.p) (by simp only [go_sem, simprocAttr]) ?_
  simp only [go_sem, simprocAttr]
  cases h5 : (Lib.compareBytes s.p t.p == 0) with
  | false =>
    repeat refine kn rfl ?_
    refine k_region tok rfl (by kernel_rfl) ?_
    simp only [go_sem, simprocAttr, bne, h5]
    repeat refine kn rfl ?_
    refine k_cond_t rfl (by simp only [go_sem, simprocAttr]) ?_
    repeat refine kn rfl ?_
    refine k_region tok rfl (by kernel_rfl) ?_
    simp only [go_sem, simprocAttr]
    repeat refine kn rfl ?_
    refine k_ret rfl ?_
    refine post_one ?_ (.int _ _) rfl
    rw [dif, thn_ne (by simpa using h5)]
    exact .refl _
  | true =>
    repeat refine kn rfl ?_
    refine k_region tok rfl (by kernel_rfl) ?_
    simp only [go_sem, simprocAttr, bne, h5]
    repeat refine kn rfl ?_
    refine k_cond_f rfl (by simp only [go_sem, simprocAttr]) ?_
    repeat refine kn rfl ?_
    refine k_region tok rfl (by kernel_rfl) ?_
    simp only [go_sem, simprocAttr]
    repeat refine kn rfl ?_
    refine k_ret rfl ?_
    refine post_one ?_ (.int _ _) rfl
    simp only [go_sem, simprocAttr]
    rw [dif, (by simpa using h5 : Lib.compareBytes s.p t.p = 0), thn_zero, IntWalk.i64_in _ (by omega)]
    exact .refl _

theorem a69 (s t : Sg) (hs : s.small) (ht : t.small) : Pure Tryz.prog 69 [s.enc, t.enc] (.bool (ltS s t)) := by
  intro n H
  refine a_fun tok (fun_of Tryz.func69 rfl rfl) (by simp) fun B => ?_
  repeat refine kn rfl ?_
  refine k_region tok rfl (by kernel_rfl) ?_
  simp only [go_sem, simprocAttr]
  repeat refine kn rfl ?_
  refine k_region tok rfl (by kernel_rfl) ?_
  simp only [go_sem, simprocAttr]
  refine callP (fun_of Tryz.func103 rfl rfl) (a103 s t hs ht) (by simp only [go_sem, simprocAttr]) ?_
  simp only [go_sem, simprocAttr]
  repeat refine kn rfl ?_
  refine k_ret rfl ?_
  refine post_one ?_ (.bool _) rfl
  try simp only [go_sem, simprocAttr, dif_lt]
  exact .refl _

theorem cmpS_anti (s t : Sg) : cmpS t s = -cmpS s t := by
  have h : ∀ a b : Sg, cmpS a b = lexI (serS a.p ++ [a.n]) (serS b.p ++ [b.n]) := fun a b => by
    rw [lex_serS, cmpS]; simp only [lexI, thn_right]
  rw [h, h, lexI_anti]

theorem cmpS_val (s t : Sg) : cmpS s t = -1 ∨ cmpS s t = 0 ∨ cmpS s t = 1 := by
  unfold cmpS thn; split
  · exact ncmp_val _ _
  · exact cmpBytes_val _ _

theorem a68 (s t : Sg) (hs : s.small) (ht : t.small) : Pure Tryz.prog 68 [s.enc, t.enc] (.int .i64 (cmpS s t)) := by
  intro n H
  have h1 := cmpS_val s t
  have h2 := cmpS_anti s t
  refine a_fun tok (fun_of Tryz.func68 rfl rfl) (by simp) fun B => ?_
  repeat refine kn rfl ?_
  refine k_region tok rfl (by kernel_rfl) ?_
  simp only [go_sem, simprocAttr]
  repeat refine kn rfl ?_
  refine k_region tok rfl (by kernel_rfl) ?_
  simp only [go_sem, simprocAttr]
  refine callP (fun_of Tryz.func69 rfl rfl) (a69 s t hs ht) (by simp only [go_sem, simprocAttr]) ?_
  simp only [go_sem, simprocAttr]
  cases h5 : ltS s t with
  | true =>
    have := of_decide_eq_true h5
    repeat refine kn rfl ?_
    refine k_cond_t rfl (by simp only [go_sem, simprocAttr]) ?_
    repeat refine kn rfl ?_
    refine k_region tok rfl (by kernel_rfl) ?_
    simp only [go_sem, simprocAttr]
    repeat refine kn rfl ?_
    refine k_ret rfl ?_
    refine post_one ?_ (.int _ _) rfl
    rw [(by omega : cmpS s t = -1)]
    exact .refl _
  | false =>
    have := of_decide_eq_false h5
    repeat refine kn rfl ?_
    refine k_cond_f rfl (by simp only [go_sem, simprocAttr]) ?_
    repeat refine kn rfl ?_
    refine k_region tok rfl (by kernel_rfl) ?_
    simp only [go_sem, simprocAttr]
    refine callP (fun_of Tryz.func69 rfl rfl) (a69 t s ht hs) (by simp only [go_sem, simprocAttr]) ?_
    simp only [go_sem, simprocAttr]
    cases h6 : ltS t s with
    | true =>
      have := of_decide_eq_true h6
      repeat refine kn rfl ?_
      refine k_cond_t rfl (by simp only [go_sem, simprocAttr]) ?_
      repeat refine kn rfl ?_
      refine k_region tok rfl (by kernel_rfl) ?_
      simp only [go_sem, simprocAttr]
      repeat refine kn rfl ?_
      refine k_ret rfl ?_
      refine post_one ?_ (.int _ _) rfl
      rw [(by omega : cmpS s t = 1)]
      exact .refl _
    | false =>
      have := of_decide_eq_false h6
      repeat refine kn rfl ?_
      refine k_cond_f rfl (by simp only [go_sem, simprocAttr]) ?_
      repeat refine kn rfl ?_
      refine k_region tok rfl (by kernel_rfl) ?_
      simp only [go_sem, simprocAttr]
      repeat refine kn rfl ?_
      refine k_ret rfl ?_
      refine post_one ?_ (.int _ _) rfl
      rw [(by omega : cmpS s t = 0)]
      exact .refl _
end Go.Proofs.YtpoegdhgdgbmaaaGreatDoorR

/- The reference's store: lists of atoms. -/
namespace Go.Proofs.YtpoegdhgdgbmaaaGreatDoorR
open Go.Abs
set_option maxRecDepth 100000

/-- All atoms of a list are good. -/
def GoodL (l : List Am) : Prop := ∀ a ∈ l, a.Good

def st73 (n : Nat) (l : List Am) (a : Am) (H : AHeap) (i : Nat) : AState :=
  ⟨[(5, .int .i64 i), (3, .ptr n 3 0), (0, .sl 2 (l.map Am.enc) .any)], [(3, .box a.cs)], H⟩

theorem a73 (l : List Am) (a : Am) (hl : l.length ≤ 1000000) (hg : GoodL l) (ha : a.Good) : PureT Tryz.prog 73 [.sl 2 (l.map Am.enc) .any, a.enc] (.bool (l.any (eqA · a))) := by
  intro n H hn hT
  refine a_fun tok (fun_of Tryz.func73 rfl rfl) (by simp) fun B => ?_
  repeat refine kn rfl ?_
  refine k_region tok rfl (by kernel_rfl) ?_
  simp only [go_sem, simprocAttr]
  repeat refine kn rfl ?_
  refine k_region tok rfl (by kernel_rfl) ?_
  simp only [go_sem, simprocAttr]
  repeat refine kn rfl ?_
  refine k_loop_p (st73 n l a H) (fun i => ∀ j (h : j < l.length), j < i → eqA l[j] a = false) l.length rfl ?_ (fun j _ h => absurd h (Nat.not_lt_zero _)) ?_
  · refine AWk_kept ?_ ?_ ?_ ?_ <;> repeat' first | exact trivial | refine q0 ?_ | exact qb | exact q1 | exact q2 | exact q3 | exact rfl | refine And.intro ?_ ?_ | exact q4 | exact q5 | exact q6 | exact q7 | exact Inside.ptr _ _ _ (.inr ⟨rfl, rfl⟩) | exact q8 | exact q9 | exact qd | exact Tm.ins _ | exact Tm.inss _ _ | exact Am.ins _ | exact Am.inss _ _ | refine ins_buf_str ?_ | refine Tm.ins_buf ?_ | refine Am.ins_buf ?_ | exact qf
  intro i hi hq
  refine k_st rfl ?_
  rcases Nat.lt_or_ge i l.length with h | h
  · repeat refine kn rfl ?_
    refine k_region tok rfl (by kernel_rfl) ?_
    simp only [go_sem, simprocAttr, h]
    repeat refine kn rfl ?_
    refine k_cond_t rfl (by simp only [go_sem, simprocAttr]) ?_
    repeat refine kn rfl ?_
    refine k_draw tok mixed drawO rfl rfl (by kernel_rfl) (by kernel_rfl) ?_
    simp only [go_sem, simprocAttr, Am.getD_enc _ _ h, h]
    refine callT (fun_of Tryz.func108 rfl rfl) (a108 l[i] a (hg _ (List.getElem_mem h)) ha) hn hT (by simp only [go_sem, simprocAttr]) ?_
    cases h5 : eqA l[i] a with
    | true =>
      simp only [go_sem, simprocAttr, h5]
      repeat refine kn rfl ?_
      refine k_cond_t rfl (by simp only [go_sem, simprocAttr]) ?_
      repeat refine kn rfl ?_
      refine k_region tok rfl (by kernel_rfl) ?_
      simp only [go_sem, simprocAttr]
      repeat refine kn rfl ?_
      refine k_ret_round rfl ?_
      refine post_one ?_ (.bool _) rfl
      have : l.any (eqA · a) = true := List.any_eq_true.2 ⟨_, List.getElem_mem h, h5⟩
      simp only [go_sem, simprocAttr, this]
      exact .refl _
    | false =>
      simp only [go_sem, simprocAttr, h5]
      repeat refine kn rfl ?_
      refine k_cond_f rfl (by simp only [go_sem, simprocAttr]) ?_
      repeat refine kn rfl ?_
      refine k_region tok rfl (by kernel_rfl) ?_
      simp only [go_sem, simprocAttr]
      repeat refine kn rfl ?_
      refine k_nil ?_
      refine ⟨fun j hj hji => ?_, ?_⟩
      · rcases Nat.lt_or_ge j i with h' | h'
        · exact hq j hj h'
        · have : j = i := by omega
          subst this; exact h5
      · refine AWk_kept ?_ ?_ ?_ ?_ <;> repeat' first | exact trivial | refine q0 ?_ | exact qb | exact q1 | exact q2 | exact q3 | exact rfl | refine And.intro ?_ ?_ | exact q4 | exact q5 | exact q6 | exact q7 | exact Inside.ptr _ _ _ (.inr ⟨rfl, rfl⟩) | exact q8 | exact q9 | exact qd | exact Tm.ins _ | exact Tm.inss _ _ | exact Am.ins _ | exact Am.inss _ _ | refine ins_buf_str ?_ | refine Tm.ins_buf ?_ | refine Am.ins_buf ?_ | exact qf
        simp only [go_sem, simprocAttr]
        rw [IntWalk.i64_in _ (by omega)]; exact .refl _
  · repeat refine kn rfl ?_
    refine k_region tok rfl (by kernel_rfl) ?_
    simp only [go_sem, simprocAttr, Nat.not_lt.2 h]
    repeat refine kn rfl ?_
    refine k_cond_f rfl (by simp only [go_sem, simprocAttr]) ?_
    repeat refine kn rfl ?_
    refine k_exit_round rfl rfl rfl ?_
    repeat refine kn rfl ?_
    refine k_region tok rfl (by kernel_rfl) ?_
    simp only [go_sem, simprocAttr]
    repeat refine kn rfl ?_
    refine k_ret rfl ?_
    refine post_one ?_ (.bool _) rfl
    have : l.any (eqA · a) = false := by
      rw [List.any_eq_false]; intro x hx
      obtain ⟨j, hj, rfl⟩ := List.getElem_of_mem hx
      rw [hq j hj (by omega)]; simp
    simp only [go_sem, simprocAttr, this]
    exact .refl _

theorem post_three {P : Program} {T : TT} {n : Nat} {t u x : Nat} {v w y : AV} {H : AHeap} {s : AState} (hv : Wk (lkv s.tmps t) v) (hw : Wk (lkv s.tmps u) w) (hy : Wk (lkv s.tmps x) y) (hb : Below n v) (hc : Below n w) (hd : Below n y) (hH : s.H = H) :
    PostF P T n [.tmp t, .tmp u, .tmp x] (fun r' H' => r' = .tup [v, w, y] ∧ H' = H) .ret s :=
  ⟨by simp [okRes], [v, w, y], ⟨hv, hw, hy, trivial⟩, by simp [hb, hc, hd], rfl, hH⟩

/-- One atom added: the list, whether it is new, the error. -/
def addR (l : List Am) (a : Am) : List Am × Bool × Int :=
  if validA a = false then (l, false, 2) else if l.any (eqA · a) = true then (l, false, 0) else if l.length = 2000 then (l, false, 5) else (l ++ [a], true, 0)

def addO : Opt := ⟨true, true, fun d => if d = 21 then .lay false else if d = 24 then .heap else .auto, [21]⟩

theorem a42 (l : List Am) (a : Am) (hl : l.length ≤ 1000000) (hg : GoodL l) (ha : a.Good) : PureT Tryz.prog 42 [.sl 2 (l.map Am.enc) .any, a.enc] (.tup [.sl 2 ((addR l a).1.map Am.enc) .any, .bool (addR l a).2.1, eInt (addR l a).2.2]) := by
  intro n H hn hT
  refine a_fun tok (fun_of Tryz.func42 rfl rfl) (by simp) fun B => ?_
  repeat refine kn rfl ?_
  refine k_region tok rfl (by kernel_rfl) ?_
  simp only [go_sem, simprocAttr]
  repeat refine kn rfl ?_
  refine k_region tok rfl (by kernel_rfl) ?_
  simp only [go_sem, simprocAttr]
  refine callT (fun_of Tryz.func15 rfl rfl) (a15 a ha) hn hT (by simp only [go_sem, simprocAttr]) ?_
  simp only [go_sem, simprocAttr]
  cases h1 : validA a with
  | false =>
    simp only [go_sem, simprocAttr]
    repeat refine kn rfl ?_
    refine k_cond_t rfl (by simp only [go_sem, simprocAttr]) ?_
    repeat refine kn rfl ?_
    refine k_region tok rfl (by kernel_rfl) ?_
    simp only [go_sem, simprocAttr]
    repeat refine kn rfl ?_
    refine k_ret rfl ?_
    have e : addR l a = (l, false, 2) := by simp [addR, h1]
    rw [e]
    exact post_three (.refl _) (.refl _) (.refl _) (below_ams _) (.bool _) (.int _ _) rfl
  | true =>
  simp only [go_sem, simprocAttr]
  repeat refine kn rfl ?_
  refine k_cond_f rfl (by simp only [go_sem, simprocAttr]) ?_
  repeat refine kn rfl ?_
  refine k_region tok rfl (by kernel_rfl) ?_
  simp only [go_sem, simprocAttr]
  refine callT (fun_of Tryz.func73 rfl rfl) (a73 l a hl hg ha) hn hT (by simp only [go_sem, simprocAttr]) ?_
  simp only [go_sem, simprocAttr]
  cases h2 : l.any (eqA · a) with
  | true =>
    repeat refine kn rfl ?_
    refine k_cond_t rfl (by simp only [go_sem, simprocAttr]) ?_
    repeat refine kn rfl ?_
    refine k_region tok rfl (by kernel_rfl) ?_
    simp only [go_sem, simprocAttr]
    repeat refine kn rfl ?_
    refine k_ret rfl ?_
    have e : addR l a = (l, false, 0) := by simp [addR, h1, h2]
    rw [e]
    exact post_three (.refl _) (.refl _) (.refl _) (below_ams _) (.bool _) (.int _ _) rfl
  | false =>
  repeat refine kn rfl ?_
  refine k_cond_f rfl (by simp only [go_sem, simprocAttr]) ?_
  have h1' : ¬ validA a = false := by rw [h1]; simp
  have h2' : ¬ l.any (eqA · a) = true := by rw [h2]; simp
  cases h3 : ((l.length : Int) == 2000) with
  | true =>
    repeat refine kn rfl ?_
    refine k_region tok rfl (by kernel_rfl) ?_
    simp only [go_sem, simprocAttr, h3]
    repeat refine kn rfl ?_
    refine k_cond_t rfl (by simp only [go_sem, simprocAttr]) ?_
    repeat refine kn rfl ?_
    refine k_region tok rfl (by kernel_rfl) ?_
    simp only [go_sem, simprocAttr]
    repeat refine kn rfl ?_
    refine k_ret rfl ?_
    have e : addR l a = (l, false, 5) := by rw [addR, if_neg h1', if_neg h2', if_pos (nat_eq h3)]
    rw [e]
    exact post_three (.refl _) (.refl _) (.refl _) (below_ams _) (.bool _) (.int _ _) rfl
  | false =>
    repeat refine kn rfl ?_
    refine k_region tok rfl (by kernel_rfl) ?_
    simp only [go_sem, simprocAttr, h3]
    repeat refine kn rfl ?_
    refine k_cond_f rfl (by simp only [go_sem, simprocAttr]) ?_
    repeat refine kn rfl ?_
    refine k_draw tok mixed addO rfl rfl (by kernel_rfl) (by kernel_rfl) ?_
    simp only [go_sem, simprocAttr, addO, List.contains_cons, Nat.reduceBEq, Bool.or_false, Bool.or_self, Nat.reduceEqDiff]
    refine ⟨rfl, ⟨fun y hy => ?_, le_maxLen (by omega), by omega⟩, by first | exact ⟨rfl, by decide⟩ | exact rfl, ⟨le_maxLen (by omega), by omega⟩, ?_⟩
    · obtain ⟨u, _, rfl⟩ := List.mem_map.1 hy; exact u.one_cs
    repeat refine kn rfl ?_
    refine k_ret rfl ?_
    have e : addR l a = (l ++ [a], true, 0) := by rw [addR, if_neg h1', if_neg h2', if_neg (nat_ne h3)]
    rw [e]
    refine post_three ?_ (.refl _) (.refl _) (below_ams _) (.bool _) (.int _ _) rfl
    simp only [go_sem, simprocAttr, List.map_append]
    exact .any _ _ _

def allR (l : List Am) (s : Sg) : List Am := l.filter (fun a => a.sg == s)

theorem filter_take {α : Type} (p : α → Bool) (l : List α) (i : Nat) (h : i < l.length) : (l.take (i + 1)).filter p = (l.take i).filter p ++ (if p l[i] = true then [l[i]] else []) := by
  rw [List.take_succ_eq_append_getElem h, List.filter_append, List.filter_cons, List.filter_nil]

def st75 (n : Nat) (l : List Am) (s : Sg) (H : AHeap) (i : Nat) : AState :=
  ⟨[(6, .int .i64 i), (5, .sl 2 ((allR (l.take i) s).map Am.enc) (.buf n 200)), (3, .ptr n 3 0), (0, .sl 2 (l.map Am.enc) .any)], [(3, .box s.cs), (200, .buf 25 2 (allR (l.take i) s).length)], H⟩

theorem a75 (l : List Am) (s : Sg) (hl : l.length ≤ 1000000) : PureT Tryz.prog 75 [.sl 2 (l.map Am.enc) .any, s.enc] (.sl 2 ((allR l s).map Am.enc) .any) := by
  intro n H hn hT
  refine a_fun tok (fun_of Tryz.func75 rfl rfl) (by simp) fun B => ?_
  repeat refine kn rfl ?_
  refine k_region tok rfl (by kernel_rfl) ?_
  simp only [go_sem, simprocAttr]
  repeat refine kn rfl ?_
  refine k_region tok rfl (by kernel_rfl) ?_
  simp only [go_sem, simprocAttr]
  repeat refine kn rfl ?_
  refine k_region tok rfl (by kernel_rfl) ?_
  simp only [go_sem, simprocAttr]
  repeat refine kn rfl ?_
  refine k_adopt 5 200 25 2 rfl rfl ?_
  refine k_loop_ix (st75 n l s H) l.length rfl ?_ ?_
  · refine AWk_kept ?_ ?_ ?_ ?_ <;> repeat' first | exact trivial | refine q0 ?_ | exact qb | exact q1 | exact q2 | exact q3 | exact rfl | refine And.intro ?_ ?_ | exact q4 | exact q5 | exact q6 | exact q7 | exact Inside.ptr _ _ _ (.inr ⟨rfl, rfl⟩) | exact q8 | exact q9 | exact qd | exact Tm.ins _ | exact Tm.inss _ _ | exact Am.ins _ | exact Am.inss _ _ | refine ins_buf_str ?_ | refine Tm.ins_buf ?_ | refine Am.ins_buf ?_ | exact qf
  intro i hi
  refine k_st rfl ?_
  rcases Nat.lt_or_ge i l.length with h | h
  · have hfl : (allR (l.take i) s).length ≤ i := by
      have := List.length_filter_le (fun a : Am => a.sg == s) (l.take i)
      have := List.length_take_le i l
      unfold allR; omega
    repeat refine kn rfl ?_
    refine k_region tok rfl (by kernel_rfl) ?_
    simp only [go_sem, simprocAttr, h]
    repeat refine kn rfl ?_
    refine k_cond_t rfl (by simp only [go_sem, simprocAttr]) ?_
    repeat refine kn rfl ?_
    refine k_draw tok mixed drawO rfl rfl (by kernel_rfl) (by kernel_rfl) ?_
    simp only [go_sem, simprocAttr, Am.getD_enc _ _ h, h]
    refine callP (fun_of Tryz.func109 rfl rfl) (a109 l[i]) (by simp only [go_sem, simprocAttr]) ?_
    simp only [go_sem, simprocAttr]
    cases h5 : (l[i].sg == s) with
    | true =>
      simp only [go_sem, simprocAttr, klAll, AV.kls, AV.kl, kl_sg, h5]
      repeat refine kn rfl ?_
      refine k_cond_t rfl (by simp only [go_sem, simprocAttr]) ?_
      repeat refine kn rfl ?_
      refine k_region tok rfl (by kernel_rfl) ?_
      simp only [go_sem, simprocAttr, Am.getD_enc _ _ h, h]
      refine ⟨by first | exact ⟨rfl, by decide⟩ | exact rfl, ⟨le_maxLen (by omega), by omega⟩, ?_⟩
      repeat refine kn rfl ?_
      refine k_region tok rfl (by kernel_rfl) ?_
      simp only [go_sem, simprocAttr]
      repeat refine kn rfl ?_
      refine k_nil ?_
      refine AWk_kept ?_ ?_ ?_ ?_ <;> repeat' first | exact trivial | refine q0 ?_ | exact qb | exact q1 | exact q2 | exact q3 | exact rfl | refine And.intro ?_ ?_ | exact q4 | exact q5 | exact q6 | exact q7 | exact Inside.ptr _ _ _ (.inr ⟨rfl, rfl⟩) | exact q8 | exact q9 | exact qd | exact Tm.ins _ | exact Tm.inss _ _ | exact Am.ins _ | exact Am.inss _ _ | refine ins_buf_str ?_ | refine Tm.ins_buf ?_ | refine Am.ins_buf ?_ | exact qf
      · simp only [go_sem, simprocAttr]
        rw [IntWalk.i64_in _ (by omega)]; exact .refl _
      · simp only [go_sem, simprocAttr, allR, filter_take _ _ _ h, h5, List.map_append, reduceIte]
        exact .refl _
      · simp only [go_sem, simprocAttr, allR, filter_take _ _ _ h, h5, List.length_append, reduceIte]
    | false =>
      simp only [go_sem, simprocAttr, klAll, AV.kls, AV.kl, kl_sg, h5]
      repeat refine kn rfl ?_
      refine k_cond_f rfl (by simp only [go_sem, simprocAttr]) ?_
      repeat refine kn rfl ?_
      refine k_region tok rfl (by kernel_rfl) ?_
      simp only [go_sem, simprocAttr]
      repeat refine kn rfl ?_
      refine k_nil ?_
      refine AWk_kept ?_ ?_ ?_ ?_ <;> repeat' first | exact trivial | refine q0 ?_ | exact qb | exact q1 | exact q2 | exact q3 | exact rfl | refine And.intro ?_ ?_ | exact q4 | exact q5 | exact q6 | exact q7 | exact Inside.ptr _ _ _ (.inr ⟨rfl, rfl⟩) | exact q8 | exact q9 | exact qd | exact Tm.ins _ | exact Tm.inss _ _ | exact Am.ins _ | exact Am.inss _ _ | refine ins_buf_str ?_ | refine Tm.ins_buf ?_ | refine Am.ins_buf ?_ | exact qf
      · simp only [go_sem, simprocAttr]
        rw [IntWalk.i64_in _ (by omega)]; exact .refl _
      · simp only [go_sem, simprocAttr, allR, filter_take _ _ _ h, h5, List.append_nil]
        exact .refl _
      · simp only [go_sem, simprocAttr, allR, filter_take _ _ _ h, h5, List.append_nil]
  · repeat refine kn rfl ?_
    refine k_region tok rfl (by kernel_rfl) ?_
    simp only [go_sem, simprocAttr, Nat.not_lt.2 h]
    repeat refine kn rfl ?_
    refine k_cond_f rfl (by simp only [go_sem, simprocAttr]) ?_
    repeat refine kn rfl ?_
    refine k_exit_round rfl rfl rfl ?_
    have hi' : i = l.length := by omega
    subst hi'
    repeat refine kn rfl ?_
    refine k_region tok rfl (by kernel_rfl) ?_
    simp only [go_sem, simprocAttr, List.take_length]
    repeat refine kn rfl ?_
    refine k_ret rfl ?_
    refine post_one ?_ (below_ams _) rfl
    simp only [go_sem, simprocAttr]
    exact .any _ _ _
end Go.Proofs.YtpoegdhgdgbmaaaGreatDoorR

/- The reference's store: Find. -/
namespace Go.Proofs.YtpoegdhgdgbmaaaGreatDoorR
open Go.Abs
set_option maxRecDepth 100000

/-- The argument at a place is such. -/
def colEq (a : Am) (c : Int) (v : Tm) : Bool := match a.args[c.toNat]? with
  | some t => eqT t v
  | none => false

def findP (s : Sg) (c : Int) (v : Tm) (a : Am) : Bool := (a.sg == s) && decide (0 ≤ c) && decide (c < s.n) && colEq a c v
def findR (l : List Am) (s : Sg) (c : Int) (v : Tm) : List Am := l.filter (findP s c v)

def st77 (n : Nat) (l : List Am) (s : Sg) (c : Int) (v : Tm) (H : AHeap) (i : Nat) : AState :=
  ⟨[(10, .int .i64 i), (9, .sl 2 ((findR (l.take i) s c v).map Am.enc) (.buf n 200)), (2, .int .i64 c), (5, .ptr n 5 0), (7, .ptr n 7 0), (0, .sl 2 (l.map Am.enc) .any)], [(5, .box s.cs), (7, .box v.cs), (200, .buf 25 2 (findR (l.take i) s c v).length)], H⟩

theorem a77 (l : List Am) (s : Sg) (c : Int) (v : Tm) (hl : l.length ≤ 1000000) (hg : GoodL l) (hv : v.Good) : PureT Tryz.prog 77 [.sl 2 (l.map Am.enc) .any, s.enc, .int .i64 c, v.enc] (.sl 2 ((findR l s c v).map Am.enc) .any) := by
  intro n H hn hT
  refine a_fun tok (fun_of Tryz.func77 rfl rfl) (by simp) fun B => ?_
  repeat refine kn rfl ?_
  refine k_region tok rfl (by kernel_rfl) ?_
  simp only [go_sem, simprocAttr]
  repeat refine kn rfl ?_
  refine k_region tok rfl (by kernel_rfl) ?_
  simp only [go_sem, simprocAttr]
  repeat refine kn rfl ?_
  refine k_region tok rfl (by kernel_rfl) ?_
  simp only [go_sem, simprocAttr]
  repeat refine kn rfl ?_
  refine k_adopt 9 200 25 2 rfl rfl ?_
  refine k_loop_ix (st77 n l s c v H) l.length rfl ?_ ?_
  · refine AWk_kept ?_ ?_ ?_ ?_ <;> repeat' first | exact trivial | refine q0 ?_ | exact qb | exact q1 | exact q2 | exact q3 | exact rfl | refine And.intro ?_ ?_ | exact q4 | exact q5 | exact q6 | exact q7 | exact Inside.ptr _ _ _ (.inr ⟨rfl, rfl⟩) | exact q8 | exact q9 | exact qd | exact Tm.ins _ | exact Tm.inss _ _ | exact Am.ins _ | exact Am.inss _ _ | refine ins_buf_str ?_ | refine Tm.ins_buf ?_ | refine Am.ins_buf ?_ | exact qf
  intro i hi
  refine k_st rfl ?_
  rcases Nat.lt_or_ge i l.length with h | h
  · have hfl : (findR (l.take i) s c v).length ≤ i := by
      have := List.length_filter_le (findP s c v) (l.take i)
      have := List.length_take_le i l
      unfold findR; omega
    repeat refine kn rfl ?_
    refine k_region tok rfl (by kernel_rfl) ?_
    simp only [go_sem, simprocAttr, h]
    repeat refine kn rfl ?_
    refine k_cond_t rfl (by simp only [go_sem, simprocAttr]) ?_
    repeat refine kn rfl ?_
    refine k_cut ⟨[(45, .bool (findP s c v l[i])), (10, .int .i64 i), (9, .sl 2 ((findR (l.take i) s c v).map Am.enc) (.buf n 200)), (2, .int .i64 c), (5, .ptr n 5 0), (7, .ptr n 7 0), (0, .sl 2 (l.map Am.enc) .any)], [(5, .box s.cs), (7, .box v.cs), (200, .buf 25 2 (findR (l.take i) s c v).length)], H⟩ ?_ ?_
    · repeat refine kn rfl ?_
      refine k_draw tok mixed drawO rfl rfl (by kernel_rfl) (by kernel_rfl) ?_
      simp only [go_sem, simprocAttr, Am.getD_enc _ _ h, h]
      refine callP (fun_of Tryz.func109 rfl rfl) (a109 l[i]) (by simp only [go_sem, simprocAttr]) ?_
      simp only [go_sem, simprocAttr]
      cases h1 : (l[i].sg == s) with
      | false =>
        simp only [go_sem, simprocAttr, klAll, AV.kls, AV.kl, kl_sg, h1]
        repeat refine kn rfl ?_
        refine k_nil ?_
        refine ⟨rfl, ?_⟩
        refine AWk_kept ?_ ?_ ?_ ?_ <;> repeat' first | exact trivial | refine q0 ?_ | exact qb | exact q1 | exact q2 | exact q3 | exact rfl | refine And.intro ?_ ?_ | exact q4 | exact q5 | exact q6 | exact q7 | exact Inside.ptr _ _ _ (.inr ⟨rfl, rfl⟩) | exact q8 | exact q9 | exact qd | exact Tm.ins _ | exact Tm.inss _ _ | exact Am.ins _ | exact Am.inss _ _ | refine ins_buf_str ?_ | refine Tm.ins_buf ?_ | refine Am.ins_buf ?_ | exact qf
        simp only [go_sem, simprocAttr, findP, h1]
        exact .refl _
      | true =>
      cases h2 : decide (0 ≤ c) with
      | false =>
        simp only [go_sem, simprocAttr, klAll, AV.kls, AV.kl, kl_sg, h1, h2]
        repeat refine kn rfl ?_
        refine k_nil ?_
        refine ⟨rfl, ?_⟩
        refine AWk_kept ?_ ?_ ?_ ?_ <;> repeat' first | exact trivial | refine q0 ?_ | exact qb | exact q1 | exact q2 | exact q3 | exact rfl | refine And.intro ?_ ?_ | exact q4 | exact q5 | exact q6 | exact q7 | exact Inside.ptr _ _ _ (.inr ⟨rfl, rfl⟩) | exact q8 | exact q9 | exact qd | exact Tm.ins _ | exact Tm.inss _ _ | exact Am.ins _ | exact Am.inss _ _ | refine ins_buf_str ?_ | refine Tm.ins_buf ?_ | refine Am.ins_buf ?_ | exact qf
        simp only [go_sem, simprocAttr, findP, h1, h2]
        exact .refl _
      | true =>
      cases h3 : decide (c < s.n) with
      | false =>
        simp only [go_sem, simprocAttr, klAll, AV.kls, AV.kl, kl_sg, h1, h2, h3]
        repeat refine kn rfl ?_
        refine k_nil ?_
        refine ⟨rfl, ?_⟩
        refine AWk_kept ?_ ?_ ?_ ?_ <;> repeat' first | exact trivial | refine q0 ?_ | exact qb | exact q1 | exact q2 | exact q3 | exact rfl | refine And.intro ?_ ?_ | exact q4 | exact q5 | exact q6 | exact q7 | exact Inside.ptr _ _ _ (.inr ⟨rfl, rfl⟩) | exact q8 | exact q9 | exact qd | exact Tm.ins _ | exact Tm.inss _ _ | exact Am.ins _ | exact Am.inss _ _ | refine ins_buf_str ?_ | refine Tm.ins_buf ?_ | refine Am.ins_buf ?_ | exact qf
        simp only [go_sem, simprocAttr, findP, h1, h2, h3]
        exact .refl _
      | true =>
        have e1 : l[i].sg = s := by simpa using h1
        have e2 : 0 ≤ c := of_decide_eq_true h2
        have e3 : c < l[i].args.length := by have := of_decide_eq_true h3; rw [← e1] at this; exact this
        have e4 : c.toNat < l[i].args.length := by omega
        have e5 : (c.toNat : Int) = c := by omega
        have e6 : colEq l[i] c v = eqT l[i].args[c.toNat] v := by unfold colEq; rw [List.getElem?_eq_getElem e4]
        have e7 : (l[i].args.map Tm.enc).getD c.toNat .dead = l[i].args[c.toNat].enc := Tm.getD_enc _ _ e4 _
        simp only [go_sem, simprocAttr, klAll, AV.kls, AV.kl, kl_sg, h1, h2, h3]
        simp only [go_sem, simprocAttr, Am.getD_enc _ _ h, h, e2, e3, e4, e7]
        refine callT (fun_of Tryz.func111 rfl rfl) (a111 l[i].args[c.toNat] v ((hg _ (List.getElem_mem h)).arg (List.getElem_mem e4)) hv) hn hT (by simp only [go_sem, simprocAttr]) ?_
        simp only [go_sem, simprocAttr]
        repeat refine kn rfl ?_
        refine k_nil ?_
        refine ⟨rfl, ?_⟩
        refine AWk_kept ?_ ?_ ?_ ?_ <;> repeat' first | exact trivial | refine q0 ?_ | exact qb | exact q1 | exact q2 | exact q3 | exact rfl | refine And.intro ?_ ?_ | exact q4 | exact q5 | exact q6 | exact q7 | exact Inside.ptr _ _ _ (.inr ⟨rfl, rfl⟩) | exact q8 | exact q9 | exact qd | exact Tm.ins _ | exact Tm.inss _ _ | exact Am.ins _ | exact Am.inss _ _ | refine ins_buf_str ?_ | refine Tm.ins_buf ?_ | refine Am.ins_buf ?_ | exact qf
        simp only [go_sem, simprocAttr, findP, h1, h2, h3, e6]
        exact .refl _
    refine k_st rfl ?_
    cases h5 : findP s c v l[i] with
    | true =>
      repeat refine kn rfl ?_
      refine k_cond_t rfl (by simp only [go_sem, simprocAttr, h5]) ?_
      repeat refine kn rfl ?_
      refine k_region tok rfl (by kernel_rfl) ?_
      simp only [go_sem, simprocAttr, Am.getD_enc _ _ h, h]
      refine ⟨by first | exact ⟨rfl, by decide⟩ | exact rfl, ⟨le_maxLen (by omega), by omega⟩, ?_⟩
      repeat refine kn rfl ?_
      refine k_region tok rfl (by kernel_rfl) ?_
      simp only [go_sem, simprocAttr]
      repeat refine kn rfl ?_
      refine k_nil ?_
      refine AWk_kept ?_ ?_ ?_ ?_ <;> repeat' first | exact trivial | refine q0 ?_ | exact qb | exact q1 | exact q2 | exact q3 | exact rfl | refine And.intro ?_ ?_ | exact q4 | exact q5 | exact q6 | exact q7 | exact Inside.ptr _ _ _ (.inr ⟨rfl, rfl⟩) | exact q8 | exact q9 | exact qd | exact Tm.ins _ | exact Tm.inss _ _ | exact Am.ins _ | exact Am.inss _ _ | refine ins_buf_str ?_ | refine Tm.ins_buf ?_ | refine Am.ins_buf ?_ | exact qf
      · simp only [go_sem, simprocAttr]
        rw [IntWalk.i64_in _ (by omega)]; exact .refl _
      · simp only [go_sem, simprocAttr, findR, filter_take _ _ _ h, h5, List.map_append, reduceIte]
        exact .refl _
      · simp only [go_sem, simprocAttr, findR, filter_take _ _ _ h, h5, List.length_append, reduceIte]
    | false =>
      repeat refine kn rfl ?_
      refine k_cond_f rfl (by simp only [go_sem, simprocAttr, h5]) ?_
      repeat refine kn rfl ?_
      refine k_region tok rfl (by kernel_rfl) ?_
      simp only [go_sem, simprocAttr]
      repeat refine kn rfl ?_
      refine k_nil ?_
      refine AWk_kept ?_ ?_ ?_ ?_ <;> repeat' first | exact trivial | refine q0 ?_ | exact qb | exact q1 | exact q2 | exact q3 | exact rfl | refine And.intro ?_ ?_ | exact q4 | exact q5 | exact q6 | exact q7 | exact Inside.ptr _ _ _ (.inr ⟨rfl, rfl⟩) | exact q8 | exact q9 | exact qd | exact Tm.ins _ | exact Tm.inss _ _ | exact Am.ins _ | exact Am.inss _ _ | refine ins_buf_str ?_ | refine Tm.ins_buf ?_ | refine Am.ins_buf ?_ | exact qf
      · simp only [go_sem, simprocAttr]
        rw [IntWalk.i64_in _ (by omega)]; exact .refl _
      · simp only [go_sem, simprocAttr, findR, filter_take _ _ _ h, h5, List.append_nil]
        exact .refl _
      · simp only [go_sem, simprocAttr, findR, filter_take _ _ _ h, h5, List.append_nil]
  · repeat refine kn rfl ?_
    refine k_region tok rfl (by kernel_rfl) ?_
    simp only [go_sem, simprocAttr, Nat.not_lt.2 h]
    repeat refine kn rfl ?_
    refine k_cond_f rfl (by simp only [go_sem, simprocAttr]) ?_
    repeat refine kn rfl ?_
    refine k_exit_round rfl rfl rfl ?_
    have hi' : i = l.length := by omega
    subst hi'
    repeat refine kn rfl ?_
    refine k_region tok rfl (by kernel_rfl) ?_
    simp only [go_sem, simprocAttr, List.take_length]
    repeat refine kn rfl ?_
    refine k_ret rfl ?_
    refine post_one ?_ (below_ams _) rfl
    simp only [go_sem, simprocAttr]
    exact .any _ _ _
end Go.Proofs.YtpoegdhgdgbmaaaGreatDoorR

/- Lists of elements of two cells each; sorting by insertion. No program, no condition. -/
namespace Go.Abs

/-- The cells of a list of elements. -/
def fl {α : Type} (cs : α → List AV) (l : List α) : List AV := l.flatMap cs

section
variable {α : Type} {cs : α → List AV} (hcs : ∀ x, (cs x).length = 2)
include hcs

theorem fl_len : ∀ l : List α, (fl cs l).length = l.length * 2
  | [] => rfl
  | x :: l => by
    have := fl_len l
    simp only [fl, List.flatMap_cons, List.length_append, List.length_cons, hcs] at this ⊢; omega

theorem fl_drop : ∀ (l : List α) (i : Nat), (fl cs l).drop (i * 2) = fl cs (l.drop i)
  | l, 0 => by simp
  | [], i + 1 => by simp [fl]
  | x :: l, i + 1 => by
    have h : (i + 1) * 2 = (cs x).length + i * 2 := by rw [hcs]; omega
    have := fl_drop l i
    simp only [fl, List.flatMap_cons, List.drop_succ_cons] at this ⊢
    rw [h, List.drop_append, Nat.add_sub_cancel_left, this, List.drop_eq_nil_of_le (by omega)]
    simp

theorem fl_take : ∀ (l : List α) (i : Nat), (fl cs l).take (i * 2) = fl cs (l.take i)
  | l, 0 => by simp [fl]
  | [], i + 1 => by simp [fl]
  | x :: l, i + 1 => by
    have h : (i + 1) * 2 = (cs x).length + i * 2 := by rw [hcs]; omega
    have := fl_take l i
    simp only [fl, List.flatMap_cons, List.take_succ_cons] at this ⊢
    rw [h, List.take_append, Nat.add_sub_cancel_left, this, List.take_of_length_le (by omega)]

theorem fl_get (l : List α) (i : Nat) (h : i < l.length) : ((fl cs l).drop (i * 2)).take 2 = cs l[i] := by
  rw [fl_drop hcs, List.drop_eq_getElem_cons h]
  simp only [fl, List.flatMap_cons]
  rw [List.take_append, List.take_of_length_le (by rw [hcs]; exact Nat.le_refl _), hcs]
  simp

theorem fl_splice (l : List α) (i : Nat) (h : i < l.length) (x : α) : splice (fl cs l) (i * 2) (cs x) = fl cs (l.set i x) := by
  have e : i * 2 + (cs x).length = (i + 1) * 2 := by rw [hcs]; omega
  rw [splice, e, fl_take hcs, fl_drop hcs, List.set_eq_take_append_cons_drop, if_pos h]
  simp [fl]
end

theorem fl_append {α : Type} (cs : α → List AV) (l r : List α) : fl cs (l ++ r) = fl cs l ++ fl cs r := by simp [fl]
theorem fl_flat {α : Type} (cs : α → List AV) (enc : α → AV) (h : ∀ x, (enc x).cells = cs x) (l : List α) : flat (l.map enc) = fl cs l := by
  induction l with
  | nil => rfl
  | cons x l ih => simp only [List.map_cons, flat_cons, h, ih]; rfl

section
variable {α : Type} (lt : α → α → Bool)

/-- Insertion from behind, in a list read backwards. -/
def insRev (s : α) : List α → List α
  | [] => [s]
  | x :: r => if lt s x = true then x :: insRev s r else s :: x :: r

/-- Insertion from behind. -/
def insB (s : α) (l : List α) : List α := (insRev lt s l.reverse).reverse

theorem insRev_at (s : α) : ∀ (p q : List α), (∀ x ∈ p, lt s x = true) → (∀ x, q.head? = some x → lt s x = false) → insRev lt s (p ++ q) = p ++ s :: q
  | [], [], _, _ => rfl
  | [], x :: q, _, h => by simp [insRev, h x rfl]
  | x :: p, q, h, h' => by
    rw [List.cons_append, insRev, if_pos (h x (by simp)), insRev_at s p q (fun y hy => h y (by simp [hy])) h']; rfl

theorem insB_at (s : α) (l : List α) (j : Nat) (hj : j ≤ l.length) (h : ∀ k (hk : k < l.length), j ≤ k → lt s l[k] = true) (h' : ∀ (k : Nat) (hk : k < l.length), j = k + 1 → lt s l[k] = false) : insB lt s l = l.take j ++ s :: l.drop j := by
  have e : l.reverse = (l.drop j).reverse ++ (l.take j).reverse := by rw [← List.reverse_append, List.take_append_drop]
  unfold insB
  rw [e, insRev_at lt s]
  · simp
  · intro x hx
    rw [List.mem_reverse] at hx
    obtain ⟨k, hk, rfl⟩ := List.getElem_of_mem hx
    rw [List.getElem_drop]
    exact h _ _ (by omega)
  · intro x hx
    rw [List.head?_reverse] at hx
    cases j with
    | zero => simp at hx
    | succ k =>
      have hk : k < l.length := by omega
      rw [List.getLast?_eq_getElem?] at hx
      have e : (l.take (k + 1)).length = k + 1 := List.length_take_of_le hj
      rw [e, Nat.add_sub_cancel, List.getElem?_take_of_lt (by omega), List.getElem?_eq_getElem hk] at hx
      cases hx
      exact h' k hk rfl

/-- All of a list inserted, one after the other. -/
def sortB (l : List α) : List α := l.foldl (fun out s => insB lt s out) []

theorem foldl_take {β : Type} (f : β → α → β) (b : β) (l : List α) (i : Nat) (h : i < l.length) : (l.take (i + 1)).foldl f b = f ((l.take i).foldl f b) l[i] := by
  rw [List.take_succ_eq_append_getElem h, List.foldl_append]; rfl

theorem insB_len (s : α) (l : List α) : (insB lt s l).length = l.length + 1 := by
  have : ∀ r : List α, (insRev lt s r).length = r.length + 1 := by
    intro r
    induction r with
    | nil => rfl
    | cons x r ih => rw [insRev]; split <;> simp [ih]
  unfold insB; rw [List.length_reverse, this, List.length_reverse]

theorem insB_perm (s : α) (l : List α) : (insB lt s l).Perm (s :: l) := by
  have : ∀ r : List α, (insRev lt s r).Perm (s :: r) := by
    intro r
    induction r with
    | nil => exact .refl _
    | cons x r ih =>
      rw [insRev]; split
      · exact (ih.cons x).trans (.swap s x r)
      · exact .refl _
  unfold insB
  exact (List.reverse_perm _).trans ((this _).trans ((List.reverse_perm l).cons s))

theorem sortB_perm (l : List α) : (sortB lt l).Perm l := by
  have : ∀ (l b : List α), (l.foldl (fun out s => insB lt s out) b).Perm (b ++ l) := by
    intro l
    induction l with
    | nil => intro b; simp
    | cons x l ih =>
      intro b
      refine (ih _).trans ?_
      refine ((insB_perm lt x b).append_right l).trans ?_
      exact List.perm_middle.symm
  exact this l []

theorem sortB_len_take (l : List α) (i : Nat) (h : i ≤ l.length) : (sortB lt (l.take i)).length = i := by
  rw [(sortB_perm lt (l.take i)).length_eq, List.length_take_of_le h]
end
end Go.Abs
