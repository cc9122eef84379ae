/- The text of an atom, copies. -/
import Derived.Test.YtpoegdhgdgbmaaaGreatDoorRM11
import Derived.Test.YtpoegdhgdgbmaaaGreatDoorRM09
import Derived.Lib.Bytealg
set_option linter.all false
namespace Go.Proofs.YtpoegdhgdgbmaaaGreatDoorR
open Go.Abs
set_option maxRecDepth 100000

/-- The text of an atom. -/
def atxt (a : Am) : List UInt8 := ((a.pred ++ [40]) ++ Lib.join (a.args.map txt) [44]) ++ [41]

theorem validA_cases {a : Am} (h : validA a = true) : sym a.pred = true ∧ a.args.length ≤ 8 ∧ a.args.all valueT = true := by
  simp only [validA, Bool.and_eq_true, decide_eq_true_eq] at h
  exact ⟨h.1.1, by omega, h.2⟩

theorem txts_len : ∀ l : List Tm, (∀ t ∈ l, t.all okv = true) → Lib.lens (l.map txt) ≤ 60 * Tm.sz.szs l
  | [], _ => by simp [Lib.lens]
  | t :: r, h => by
    have h1 := txt_len t (h t (by simp))
    have h2 := txts_len r (fun u hu => h u (by simp [hu]))
    simp only [Lib.lens, List.map_cons, List.sum_cons, Tm.sz.szs] at *
    omega

theorem join_len (l : List Tm) (h : ∀ t ∈ l, t.all okv = true) : (Lib.join (l.map txt) [44]).length ≤ 60 * Tm.sz.szs l + l.length := by
  have h1 := txts_len l h
  cases l with
  | nil => simp [Lib.join]
  | cons t r =>
    rw [List.map_cons, Lib.join_length]
    simp only [Lib.lens, List.map_cons, List.sum_cons, List.length_cons, List.length_nil, List.length_map] at *
    omega

theorem map58 (l : List Tm) (hl : ∀ t ∈ l, t.Good) (hv : l.all valueT = true) : MapF 58 [] Tm.enc eStr l txt :=
  ⟨⟨_, _, fun_of Tryz.func58 rfl rfl⟩, fun t ht => a58 t (hl t ht) (List.all_eq_true.1 hv t ht), fun _ => trivial⟩

theorem a57 (a : Am) (ha : a.Good) (hv : validA a = true) : PureT Tryz.prog 57 [a.enc] (.str (atxt a)) := by
  intro n H hn hT
  obtain ⟨h1, h2, h3⟩ := validA_cases hv
  have h4 := sym_len h1
  have h5 := join_len a.args (fun t ht => value_okv (List.all_eq_true.1 h3 t ht))
  have h6 := Tm.sz_len a.args
  have h7 : Tm.sz.szs a.args ≤ 1000000 := by have := ha.sz; simp only [Am.sz] at this; omega
  refine a_fun tok (fun_of Tryz.func57 rfl rfl) (by simp) fun B => ?_
  repeat refine kn rfl ?_
  refine k_region tok rfl (by kernel_rfl) ?_
  simp only [go_sem, simprocAttr]
  repeat refine kn rfl ?_
  refine k_draw tok mixed drawO rfl rfl (by kernel_rfl) (by kernel_rfl) ?_
  simp only [go_sem, simprocAttr]
  refine ⟨by omega, ?_⟩
  refine callT (fun_of Tryz.func93 rfl rfl) (a93 a.args (by omega) 58 [] txt (map58 a.args (fun t ht => ha.arg ht) h3)) hn hT (by simp only [go_sem, simprocAttr]) ?_
  simp only [go_sem, simprocAttr]
  have := a92 (a.args.map txt) [44] .any (by simp; omega) (by omega)
  refine callT (fun_of Tryz.func92 rfl rfl) (this) hn hT (by simp only [go_sem, simprocAttr]) ?_
  simp only [go_sem, simprocAttr]
  refine ⟨by simp only [List.length_append, List.length_cons, List.length_nil]; omega, by simp only [List.length_append, List.length_cons, List.length_nil]; omega, ?_⟩
  repeat refine kn rfl ?_
  refine k_ret rfl ?_
  refine post_one ?_ (.str _) rfl
  simp only [go_sem, simprocAttr, atxt]
  exact .refl _

theorem a96x (t : Tm) (ht : t.Good) (hm : MapF 96 [] Tm.enc Tm.enc t.args id) : PureT Tryz.prog 96 [t.enc] t.enc := by
  intro n H hn hT
  have hl := ht.len
  have ha := a95 t.args hl 96 [] id hm
  rw [List.map_id] at ha
  refine a_fun tok (fun_of Tryz.func96 rfl rfl) (by simp) fun B => ?_
  repeat refine kn rfl ?_
  refine k_region tok rfl (by kernel_rfl) ?_
  simp only [go_sem, simprocAttr]
  repeat refine kn rfl ?_
  refine k_region tok rfl (by kernel_rfl) ?_
  simp only [go_sem, simprocAttr]
  refine callT (fun_of Tryz.func95 rfl rfl) (ha) hn hT (by simp only [go_sem, simprocAttr]) ?_
  simp only [go_sem, simprocAttr]
  repeat refine kn rfl ?_
  refine k_region tok rfl (by kernel_rfl) ?_
  simp only [go_sem, simprocAttr]
  repeat refine kn rfl ?_
  refine k_ret rfl ?_
  refine post_cell (.inl rfl) _ n 2 0 t.cs (by simp only [go_sem, simprocAttr]) (by simp only [go_sem, simprocAttr, full]) rfl (Nat.le_refl _) (by simp only [go_sem, simprocAttr]) ?_ (Tm.blw _ t) rfl
  simp only [go_sem, simprocAttr]
  exact .refl _

theorem a59x (t : Am) (ht : t.Good) (hm : MapF 96 [] Tm.enc Tm.enc t.args id) : PureT Tryz.prog 59 [t.enc] t.enc := by
  intro n H hn hT
  have hl := ht.len
  have ha := a95 t.args hl 96 [] id hm
  rw [List.map_id] at ha
  refine a_fun tok (fun_of Tryz.func59 rfl rfl) (by simp) fun B => ?_
  repeat refine kn rfl ?_
  refine k_region tok rfl (by kernel_rfl) ?_
  simp only [go_sem, simprocAttr]
  repeat refine kn rfl ?_
  refine k_region tok rfl (by kernel_rfl) ?_
  simp only [go_sem, simprocAttr]
  refine callT (fun_of Tryz.func95 rfl rfl) (ha) hn hT (by simp only [go_sem, simprocAttr]) ?_
  simp only [go_sem, simprocAttr]
  repeat refine kn rfl ?_
  refine k_region tok rfl (by kernel_rfl) ?_
  simp only [go_sem, simprocAttr]
  repeat refine kn rfl ?_
  refine k_ret rfl ?_
  refine post_cell (.inl rfl) _ n 2 0 t.cs (by simp only [go_sem, simprocAttr]) (by simp only [go_sem, simprocAttr, full]) rfl (Nat.le_refl _) (by simp only [go_sem, simprocAttr]) ?_ (Am.blw _ t) rfl
  simp only [go_sem, simprocAttr]
  exact .refl _

theorem a96 (t : Tm) (ht : t.Good) : PureT Tryz.prog 96 [t.enc] t.enc :=
  a96x t ht ⟨⟨_, _, fun_of Tryz.func96 rfl rfl⟩, fun u hu => a96 u (ht.arg hu), fun _ => trivial⟩
termination_by SizeOf.sizeOf t
decreasing_by exact Tm.size_lt hu

theorem a59 (t : Am) (ht : t.Good) : PureT Tryz.prog 59 [t.enc] t.enc :=
  a59x t ht ⟨⟨_, _, fun_of Tryz.func96 rfl rfl⟩, fun u hu => a96 u (ht.arg hu), fun _ => trivial⟩
end Go.Proofs.YtpoegdhgdgbmaaaGreatDoorR

/- The reference's terms and atoms: depth, validity. -/
namespace Go.Proofs.YtpoegdhgdgbmaaaGreatDoorR
open Go.Abs
set_option maxRecDepth 100000

def operR (t : Tm) : Bool := ((t.name == [43]) || (t.name == [45]) || (t.name == [42]) || (t.name == [47]) || (t.name == [92]))

def shapeR (t : Tm) : Bool :=
  if t.kind = 1 then decide (-2147483647 ≤ t.num) && decide (t.num ≤ 2147483647) && (t.name == []) && ((t.args.length : Int) == 0)
  else if t.kind = 2 then (t.num == 0) && sym t.name && ((t.args.length : Int) == 0)
  else if t.kind = 3 then (t.num == 0) && vname t.name && ((t.args.length : Int) == 0)
  else if t.kind = 4 then (t.num == 0) && sym t.name && decide (1 ≤ (t.args.length : Int)) && decide ((t.args.length : Int) ≤ 8)
  else if t.kind = 5 then (t.num == 0) && ((operR t && ((t.args.length : Int) == 2)) || ((t.name == [45]) && ((t.args.length : Int) == 1)))
  else if t.kind = 6 then (t.num == 0) && (t.name == []) && ((t.args.length : Int) == 2)
  else false

set_option maxHeartbeats 1000000 in
theorem a117 (t : Tm) (ht : t.Good) : PureT Tryz.prog 117 [t.enc] (.bool (shapeR t)) := by
  intro n H hn hT
  have hs := ht.name
  have hl := ht.len
  refine a_fun tok (fun_of Tryz.func117 rfl rfl) (by simp) fun B => ?_
  repeat refine kn rfl ?_
  refine k_region tok rfl (by kernel_rfl) ?_
  simp only [go_sem, simprocAttr]
  repeat refine kn rfl ?_
  refine k_region tok rfl (by kernel_rfl) ?_
  simp only [go_sem, simprocAttr]
  repeat refine kn rfl ?_
  refine k_region tok rfl (by kernel_rfl) ?_
  simp only [go_sem, simprocAttr]
  cases k1 : (t.kind == 1) with
  | true =>
    have e1 : t.kind = 1 := by simpa using k1
    repeat refine kn rfl ?_
    refine k_region tok rfl (by kernel_rfl) ?_
    simp only [go_sem, simprocAttr, k1]
    repeat refine kn rfl ?_
    refine k_cond_t rfl (by simp only [go_sem, simprocAttr]) ?_
    cases h1 : decide (-2147483647 ≤ t.num) <;> cases h2 : decide (t.num ≤ 2147483647) <;> cases h3 : (t.name == []) <;> cases h4 : ((t.args.length : Int) == 0)
    all_goals
      repeat refine kn rfl ?_
      refine k_region tok rfl (by kernel_rfl) ?_
      simp only [go_sem, simprocAttr, h1, h2, h3, h4]
      repeat refine kn rfl ?_
      refine k_ret rfl ?_
      refine post_one ?_ (.bool _) rfl
      simp only [shapeR, e1, reduceIte, h1, h2, h3, h4, Bool.and_true, Bool.and_false, Bool.false_and, Bool.true_and]
      exact .refl _
  | false =>
  have e1 : t.kind ≠ 1 := by simpa using k1
  repeat refine kn rfl ?_
  refine k_region tok rfl (by kernel_rfl) ?_
  simp only [go_sem, simprocAttr, k1]
  repeat refine kn rfl ?_
  refine k_cond_f rfl (by simp only [go_sem, simprocAttr]) ?_
  cases k2 : (t.kind == 2) with
  | true =>
    have e2 : t.kind = 2 := by simpa using k2
    repeat refine kn rfl ?_
    refine k_region tok rfl (by kernel_rfl) ?_
    simp only [go_sem, simprocAttr, k2]
    repeat refine kn rfl ?_
    refine k_cond_t rfl (by simp only [go_sem, simprocAttr]) ?_
    cases h1 : (t.num == 0) with
    | false =>
      cases h4 : ((t.args.length : Int) == 0)
      all_goals
        repeat refine kn rfl ?_
        refine k_region tok rfl (by kernel_rfl) ?_
        simp only [go_sem, simprocAttr, h1, h4]
        repeat refine kn rfl ?_
        refine k_ret rfl ?_
        refine post_one ?_ (.bool _) rfl
        simp only [shapeR, e2, Int.reduceEq, reduceIte, h1, h4, Bool.and_true, Bool.and_false, Bool.false_and, Bool.true_and, Bool.or_true, Bool.or_false, Bool.false_or, Bool.true_or]
        exact .refl _
    | true =>
      repeat refine kn rfl ?_
      refine k_region tok rfl (by kernel_rfl) ?_
      simp only [go_sem, simprocAttr, h1]
      refine callP (fun_of Tryz.func47 rfl rfl) (a47 t.name (by omega)) (by simp only [go_sem, simprocAttr, h1]) ?_
      simp only [go_sem, simprocAttr, h1]
      cases h2 : sym t.name <;> cases h4 : ((t.args.length : Int) == 0)
      all_goals
        simp only [go_sem, simprocAttr, h2, h4]
        repeat refine kn rfl ?_
        refine k_ret rfl ?_
        refine post_one ?_ (.bool _) rfl
        simp only [shapeR, e2, Int.reduceEq, reduceIte, h1, h2, h4, Bool.and_true, Bool.and_false, Bool.false_and, Bool.true_and, Bool.or_true, Bool.or_false, Bool.false_or, Bool.true_or]
        exact .refl _
  | false =>
  have e2 : t.kind ≠ 2 := by simpa using k2
  repeat refine kn rfl ?_
  refine k_region tok rfl (by kernel_rfl) ?_
  simp only [go_sem, simprocAttr, k2]
  repeat refine kn rfl ?_
  refine k_cond_f rfl (by simp only [go_sem, simprocAttr]) ?_
  cases k3 : (t.kind == 3) with
  | true =>
    have e3 : t.kind = 3 := by simpa using k3
    repeat refine kn rfl ?_
    refine k_region tok rfl (by kernel_rfl) ?_
    simp only [go_sem, simprocAttr, k3]
    repeat refine kn rfl ?_
    refine k_cond_t rfl (by simp only [go_sem, simprocAttr]) ?_
    cases h1 : (t.num == 0) with
    | false =>
      cases h4 : ((t.args.length : Int) == 0)
      all_goals
        repeat refine kn rfl ?_
        refine k_region tok rfl (by kernel_rfl) ?_
        simp only [go_sem, simprocAttr, h1, h4]
        repeat refine kn rfl ?_
        refine k_ret rfl ?_
        refine post_one ?_ (.bool _) rfl
        simp only [shapeR, e3, Int.reduceEq, reduceIte, h1, h4, Bool.and_true, Bool.and_false, Bool.false_and, Bool.true_and, Bool.or_true, Bool.or_false, Bool.false_or, Bool.true_or]
        exact .refl _
    | true =>
      repeat refine kn rfl ?_
      refine k_region tok rfl (by kernel_rfl) ?_
      simp only [go_sem, simprocAttr, h1]
      refine callP (fun_of Tryz.func162 rfl rfl) (a162 t.name (by omega)) (by simp only [go_sem, simprocAttr, h1]) ?_
      simp only [go_sem, simprocAttr, h1]
      cases h2 : vname t.name <;> cases h4 : ((t.args.length : Int) == 0)
      all_goals
        simp only [go_sem, simprocAttr, h2, h4]
        repeat refine kn rfl ?_
        refine k_ret rfl ?_
        refine post_one ?_ (.bool _) rfl
        simp only [shapeR, e3, Int.reduceEq, reduceIte, h1, h2, h4, Bool.and_true, Bool.and_false, Bool.false_and, Bool.true_and, Bool.or_true, Bool.or_false, Bool.false_or, Bool.true_or]
        exact .refl _
  | false =>
  have e3 : t.kind ≠ 3 := by simpa using k3
  repeat refine kn rfl ?_
  refine k_region tok rfl (by kernel_rfl) ?_
  simp only [go_sem, simprocAttr, k3]
  repeat refine kn rfl ?_
  refine k_cond_f rfl (by simp only [go_sem, simprocAttr]) ?_
  cases k4 : (t.kind == 4) with
  | true =>
    have e4 : t.kind = 4 := by simpa using k4
    repeat refine kn rfl ?_
    refine k_region tok rfl (by kernel_rfl) ?_
    simp only [go_sem, simprocAttr, k4]
    repeat refine kn rfl ?_
    refine k_cond_t rfl (by simp only [go_sem, simprocAttr]) ?_
    cases h1 : (t.num == 0) with
    | false =>
      repeat refine kn rfl ?_
      refine k_region tok rfl (by kernel_rfl) ?_
      simp only [go_sem, simprocAttr, h1]
      repeat refine kn rfl ?_
      refine k_ret rfl ?_
      refine post_one ?_ (.bool _) rfl
      simp only [shapeR, e4, Int.reduceEq, reduceIte, h1, Bool.and_true, Bool.and_false, Bool.false_and, Bool.true_and, Bool.or_true, Bool.or_false, Bool.false_or, Bool.true_or]
      exact .refl _
    | true =>
      repeat refine kn rfl ?_
      refine k_region tok rfl (by kernel_rfl) ?_
      simp only [go_sem, simprocAttr, h1]
      refine callP (fun_of Tryz.func47 rfl rfl) (a47 t.name (by omega)) (by simp only [go_sem, simprocAttr, h1]) ?_
      simp only [go_sem, simprocAttr, h1]
      cases h2 : sym t.name <;> cases h4 : decide (1 ≤ (t.args.length : Int)) <;> cases h5 : decide ((t.args.length : Int) ≤ 8)
      all_goals
        simp only [go_sem, simprocAttr, h2, h4, h5]
        repeat refine kn rfl ?_
        refine k_ret rfl ?_
        refine post_one ?_ (.bool _) rfl
        simp only [shapeR, e4, Int.reduceEq, reduceIte, h1, h2, h4, h5, Bool.and_true, Bool.and_false, Bool.false_and, Bool.true_and, Bool.or_true, Bool.or_false, Bool.false_or, Bool.true_or]
        exact .refl _
  | false =>
  have e4 : t.kind ≠ 4 := by simpa using k4
  repeat refine kn rfl ?_
  refine k_region tok rfl (by kernel_rfl) ?_
  simp only [go_sem, simprocAttr, k4]
  repeat refine kn rfl ?_
  refine k_cond_f rfl (by simp only [go_sem, simprocAttr]) ?_
  cases k5 : (t.kind == 5) with
  | true =>
    have e5 : t.kind = 5 := by simpa using k5
    repeat refine kn rfl ?_
    refine k_region tok rfl (by kernel_rfl) ?_
    simp only [go_sem, simprocAttr, k5]
    repeat refine kn rfl ?_
    refine k_cond_t rfl (by simp only [go_sem, simprocAttr]) ?_
    repeat refine kn rfl ?_
    refine k_cut ⟨[(4, .bool (operR t)), (3, .int .i64 t.args.length), (1, .ptr n 1 0)], [(1, .box t.cs)], H⟩ ?_ ?_
    · cases h1 : (t.name == [43]) with
      | true =>
        repeat refine kn rfl ?_
        refine k_region tok rfl (by kernel_rfl) ?_
        simp only [go_sem, simprocAttr, h1]
        repeat refine kn rfl ?_
        refine k_nil ?_
        refine ⟨rfl, ?_⟩
        refine AWk_kept ?_ ?_ ?_ ?_ <;> repeat' first | exact trivial | refine q0 ?_ | exact qb | exact q1 | exact q2 | exact q3 | exact rfl | refine And.intro ?_ ?_ | exact q4 | exact q5 | exact q6 | exact q7 | exact Inside.ptr _ _ _ (.inr ⟨rfl, rfl⟩) | exact q8 | exact q9 | exact qd | exact Tm.ins _ | exact Tm.inss _ _ | exact Am.ins _ | exact Am.inss _ _ | refine ins_buf_str ?_ | refine Tm.ins_buf ?_ | refine Am.ins_buf ?_ | exact qf
        simp only [operR, h1, Bool.and_true, Bool.and_false, Bool.false_and, Bool.true_and, Bool.or_true, Bool.or_false, Bool.false_or, Bool.true_or]
        exact .refl _
      | false =>
      cases h2 : (t.name == [45]) with
      | true =>
        repeat refine kn rfl ?_
        refine k_region tok rfl (by kernel_rfl) ?_
        simp only [go_sem, simprocAttr, h1, h2]
        repeat refine kn rfl ?_
        refine k_nil ?_
        refine ⟨rfl, ?_⟩
        refine AWk_kept ?_ ?_ ?_ ?_ <;> repeat' first | exact trivial | refine q0 ?_ | exact qb | exact q1 | exact q2 | exact q3 | exact rfl | refine And.intro ?_ ?_ | exact q4 | exact q5 | exact q6 | exact q7 | exact Inside.ptr _ _ _ (.inr ⟨rfl, rfl⟩) | exact q8 | exact q9 | exact qd | exact Tm.ins _ | exact Tm.inss _ _ | exact Am.ins _ | exact Am.inss _ _ | refine ins_buf_str ?_ | refine Tm.ins_buf ?_ | refine Am.ins_buf ?_ | exact qf
        simp only [operR, h1, h2, Bool.and_true, Bool.and_false, Bool.false_and, Bool.true_and, Bool.or_true, Bool.or_false, Bool.false_or, Bool.true_or]
        exact .refl _
      | false =>
      cases h3 : (t.name == [42]) with
      | true =>
        repeat refine kn rfl ?_
        refine k_region tok rfl (by kernel_rfl) ?_
        simp only [go_sem, simprocAttr, h1, h2, h3]
        repeat refine kn rfl ?_
        refine k_nil ?_
        refine ⟨rfl, ?_⟩
        refine AWk_kept ?_ ?_ ?_ ?_ <;> repeat' first | exact trivial | refine q0 ?_ | exact qb | exact q1 | exact q2 | exact q3 | exact rfl | refine And.intro ?_ ?_ | exact q4 | exact q5 | exact q6 | exact q7 | exact Inside.ptr _ _ _ (.inr ⟨rfl, rfl⟩) | exact q8 | exact q9 | exact qd | exact Tm.ins _ | exact Tm.inss _ _ | exact Am.ins _ | exact Am.inss _ _ | refine ins_buf_str ?_ | refine Tm.ins_buf ?_ | refine Am.ins_buf ?_ | exact qf
        simp only [operR, h1, h2, h3, Bool.and_true, Bool.and_false, Bool.false_and, Bool.true_and, Bool.or_true, Bool.or_false, Bool.false_or, Bool.true_or]
        exact .refl _
      | false =>
      cases h4 : (t.name == [47]) with
      | true =>
        repeat refine kn rfl ?_
        refine k_region tok rfl (by kernel_rfl) ?_
        simp only [go_sem, simprocAttr, h1, h2, h3, h4]
        repeat refine kn rfl ?_
        refine k_nil ?_
        refine ⟨rfl, ?_⟩
        refine AWk_kept ?_ ?_ ?_ ?_ <;> repeat' first | exact trivial | refine q0 ?_ | exact qb | exact q1 | exact q2 | exact q3 | exact rfl | refine And.intro ?_ ?_ | exact q4 | exact q5 | exact q6 | exact q7 | exact Inside.ptr _ _ _ (.inr ⟨rfl, rfl⟩) | exact q8 | exact q9 | exact qd | exact Tm.ins _ | exact Tm.inss _ _ | exact Am.ins _ | exact Am.inss _ _ | refine ins_buf_str ?_ | refine Tm.ins_buf ?_ | refine Am.ins_buf ?_ | exact qf
        simp only [operR, h1, h2, h3, h4, Bool.and_true, Bool.and_false, Bool.false_and, Bool.true_and, Bool.or_true, Bool.or_false, Bool.false_or, Bool.true_or]
        exact .refl _
      | false =>
      cases h5 : (t.name == [92]) with
      | true =>
        repeat refine kn rfl ?_
        refine k_region tok rfl (by kernel_rfl) ?_
        simp only [go_sem, simprocAttr, h1, h2, h3, h4, h5]
        repeat refine kn rfl ?_
        refine k_nil ?_
        refine ⟨rfl, ?_⟩
        refine AWk_kept ?_ ?_ ?_ ?_ <;> repeat' first | exact trivial | refine q0 ?_ | exact qb | exact q1 | exact q2 | exact q3 | exact rfl | refine And.intro ?_ ?_ | exact q4 | exact q5 | exact q6 | exact q7 | exact Inside.ptr _ _ _ (.inr ⟨rfl, rfl⟩) | exact q8 | exact q9 | exact qd | exact Tm.ins _ | exact Tm.inss _ _ | exact Am.ins _ | exact Am.inss _ _ | refine ins_buf_str ?_ | refine Tm.ins_buf ?_ | refine Am.ins_buf ?_ | exact qf
        simp only [operR, h1, h2, h3, h4, h5, Bool.and_true, Bool.and_false, Bool.false_and, Bool.true_and, Bool.or_true, Bool.or_false, Bool.false_or, Bool.true_or]
        exact .refl _
      | false =>
      repeat refine kn rfl ?_
      refine k_region tok rfl (by kernel_rfl) ?_
      simp only [go_sem, simprocAttr, h1, h2, h3, h4, h5]
      repeat refine kn rfl ?_
      refine k_nil ?_
      refine ⟨rfl, ?_⟩
      refine AWk_kept ?_ ?_ ?_ ?_ <;> repeat' first | exact trivial | refine q0 ?_ | exact qb | exact q1 | exact q2 | exact q3 | exact rfl | refine And.intro ?_ ?_ | exact q4 | exact q5 | exact q6 | exact q7 | exact Inside.ptr _ _ _ (.inr ⟨rfl, rfl⟩) | exact q8 | exact q9 | exact qd | exact Tm.ins _ | exact Tm.inss _ _ | exact Am.ins _ | exact Am.inss _ _ | refine ins_buf_str ?_ | refine Tm.ins_buf ?_ | refine Am.ins_buf ?_ | exact qf
      simp only [operR, h1, h2, h3, h4, h5, Bool.and_true, Bool.and_false, Bool.false_and, Bool.true_and, Bool.or_true, Bool.or_false, Bool.false_or, Bool.true_or]
      exact .refl _
    cases h1 : (t.num == 0) with
    | false =>
      repeat refine kn rfl ?_
      refine k_region tok rfl (by kernel_rfl) ?_
      simp only [go_sem, simprocAttr, h1]
      repeat refine kn rfl ?_
      refine k_ret rfl ?_
      refine post_one ?_ (.bool _) rfl
      simp only [shapeR, e5, Int.reduceEq, reduceIte, h1, Bool.and_true, Bool.and_false, Bool.false_and, Bool.true_and, Bool.or_true, Bool.or_false, Bool.false_or, Bool.true_or]
      exact .refl _
    | true =>
    cases h2 : operR t with
    | true =>
      cases h3 : ((t.args.length : Int) == 2) with
      | true =>
        repeat refine kn rfl ?_
        refine k_region tok rfl (by kernel_rfl) ?_
        simp only [go_sem, simprocAttr, h1, h2, h3]
        repeat refine kn rfl ?_
        refine k_ret rfl ?_
        refine post_one ?_ (.bool _) rfl
        simp only [shapeR, e5, Int.reduceEq, reduceIte, h1, h2, h3, Bool.and_true, Bool.and_false, Bool.false_and, Bool.true_and, Bool.or_true, Bool.or_false, Bool.false_or, Bool.true_or]
        exact .refl _
      | false =>
        cases h5 : (t.name == [45]) <;> cases h4 : ((t.args.length : Int) == 1)
        all_goals
          repeat refine kn rfl ?_
          refine k_region tok rfl (by kernel_rfl) ?_
          simp only [go_sem, simprocAttr, h1, h2, h3, h4, h5]
          repeat refine kn rfl ?_
          refine k_ret rfl ?_
          refine post_one ?_ (.bool _) rfl
          simp only [shapeR, e5, Int.reduceEq, reduceIte, h1, h2, h3, h4, h5, Bool.and_true, Bool.and_false, Bool.false_and, Bool.true_and, Bool.or_true, Bool.or_false, Bool.false_or, Bool.true_or]
          exact .refl _
    | false =>
      cases h5 : (t.name == [45]) <;> cases h4 : ((t.args.length : Int) == 1)
      all_goals
        repeat refine kn rfl ?_
        refine k_region tok rfl (by kernel_rfl) ?_
        simp only [go_sem, simprocAttr, h1, h2, h4, h5]
        repeat refine kn rfl ?_
        refine k_ret rfl ?_
        refine post_one ?_ (.bool _) rfl
        simp only [shapeR, e5, Int.reduceEq, reduceIte, h1, h2, h4, h5, Bool.and_true, Bool.and_false, Bool.false_and, Bool.true_and, Bool.or_true, Bool.or_false, Bool.false_or, Bool.true_or]
        exact .refl _
  | false =>
  have e5 : t.kind ≠ 5 := by simpa using k5
  repeat refine kn rfl ?_
  refine k_region tok rfl (by kernel_rfl) ?_
  simp only [go_sem, simprocAttr, k5]
  repeat refine kn rfl ?_
  refine k_cond_f rfl (by simp only [go_sem, simprocAttr]) ?_
  cases k6 : (t.kind == 6) with
  | true =>
    have e6 : t.kind = 6 := by simpa using k6
    repeat refine kn rfl ?_
    refine k_region tok rfl (by kernel_rfl) ?_
    simp only [go_sem, simprocAttr, k6]
    repeat refine kn rfl ?_
    refine k_cond_t rfl (by simp only [go_sem, simprocAttr]) ?_
    cases h1 : (t.num == 0) <;> cases h2 : (t.name == []) <;> cases h3 : ((t.args.length : Int) == 2)
    all_goals
      repeat refine kn rfl ?_
      refine k_region tok rfl (by kernel_rfl) ?_
      simp only [go_sem, simprocAttr, h1, h2, h3]
      repeat refine kn rfl ?_
      refine k_ret rfl ?_
      refine post_one ?_ (.bool _) rfl
      simp only [shapeR, e6, Int.reduceEq, reduceIte, h1, h2, h3, Bool.and_true, Bool.and_false, Bool.false_and, Bool.true_and, Bool.or_true, Bool.or_false, Bool.false_or, Bool.true_or]
      exact .refl _
  | false =>
  have e6 : t.kind ≠ 6 := by simpa using k6
  repeat refine kn rfl ?_
  refine k_region tok rfl (by kernel_rfl) ?_
  simp only [go_sem, simprocAttr, k6]
  repeat refine kn rfl ?_
  refine k_cond_f rfl (by simp only [go_sem, simprocAttr]) ?_
  repeat refine kn rfl ?_
  refine k_region tok rfl (by kernel_rfl) ?_
  simp only [go_sem, simprocAttr]
  repeat refine kn rfl ?_
  refine k_ret rfl ?_
  refine post_one ?_ (.bool _) rfl
  simp only [shapeR, e1, e2, e3, e4, e5, e6, reduceIte]
  exact .refl _
end Go.Proofs.YtpoegdhgdgbmaaaGreatDoorR

/- The reference's terms and atoms: validity. -/
namespace Go.Proofs.YtpoegdhgdgbmaaaGreatDoorR
open Go.Abs
set_option maxRecDepth 100000

theorem index_ops (b : UInt8) : Lib.contains sOps [b] = (b == 43 || b == 45 || b == 42 || b == 47 || b == 92) := by
  revert b
  have : ∀ i : Fin 256, Lib.contains sOps [UInt8.ofNat i.val] = (UInt8.ofNat i.val == 43 || UInt8.ofNat i.val == 45 || UInt8.ofNat i.val == 42 || UInt8.ofNat i.val == 47 || UInt8.ofNat i.val == 92) := by decide +kernel
  intro b
  have h := this ⟨b.toNat, b.toNat_lt⟩
  simpa using h

theorem oper_eq (t : Tm) : oper t = operR t := by
  unfold oper operR
  rcases hs : t.name with _ | ⟨b, _ | ⟨c, r⟩⟩
  · rfl
  · rw [index_ops]
    simp
  · have : ((((b :: c :: r).length : Nat) : Int) == 1) = false := by
      rw [beq_eq_false_iff_ne]; simp only [List.length_cons]; omega
    rw [this]; simp

theorem sym_ne {s : List UInt8} (h : sym s = true) : (s == []) = false := by
  cases s with
  | nil => simp [sym, wd] at h
  | cons b r => rfl

theorem vname_ne {s : List UInt8} (h : vname s = true) : (s == []) = false := by
  cases s with
  | nil => simp [vname, wd, hpre] at h
  | cons b r => rfl

theorem len0 (l : List Tm) : (decide ((0 : Int) ≤ (l.length : Int)) && decide ((l.length : Int) ≤ 0)) = ((l.length : Int) == 0) := by
  rw [Bool.eq_iff_iff]; simp
theorem len2 (l : List Tm) (k : Int) : (decide (k ≤ (l.length : Int)) && decide ((l.length : Int) ≤ k)) = ((l.length : Int) == k) := by
  rw [Bool.eq_iff_iff]; simp; omega

theorem shapeR_eq (t : Tm) : shapeR t = shape t := by
  unfold shapeR shape
  simp only [nargs, len2]
  split
  · rfl
  split
  · cases h1 : sym t.name with
    | false => simp
    | true => simp [named, sym_ne h1]
  split
  · rename_i h1 h2 h3
    rw [if_neg (by omega)]
    cases h1 : vname t.name with
    | false => simp
    | true => simp [named, vname_ne h1]
  split
  · cases h1 : sym t.name with
    | false => simp
    | true => simp [named, sym_ne h1, Bool.and_assoc]
  split
  · rw [oper_eq]
    simp only [named, sMinus]
    cases h1 : operR t with
    | false =>
      have : (t.name == [45]) = false := by
        simp only [operR, Bool.or_eq_false_iff] at h1
        exact h1.1.1.1.2
      simp [this]
    | true =>
      have : (t.name == []) = false := by
        cases hs : t.name with
        | nil => simp [operR, hs] at h1
        | cons b r => rfl
      simp [this]
  split
  · rfl
  · rfl

def st84 (n : Nat) (t : Tm) (H : AHeap) (i : Nat) : AState :=
  ⟨[(4, .int .i64 i), (3, .int .i64 (dep.deps (t.args.take i) 0)), (1, .ptr n 1 0)], [(1, .box t.cs)], H⟩

theorem a84 (t : Tm) (ht : t.Good) : Pure Tryz.prog 84 [t.enc] (.int .i64 (dep t)) := by
  intro n H
  have hd := dep_eq t
  have hg := dep_sz t
  have hb := dep_lt ht
  have hl := ht.len
  refine a_fun tok (fun_of Tryz.func84 rfl rfl) (by simp) fun B => ?_
  repeat refine kn rfl ?_
  refine k_region tok rfl (by kernel_rfl) ?_
  simp only [go_sem, simprocAttr]
  repeat refine kn rfl ?_
  refine k_region tok rfl (by kernel_rfl) ?_
  simp only [go_sem, simprocAttr]
  repeat refine kn rfl ?_
  refine k_region tok rfl (by kernel_rfl) ?_
  simp only [go_sem, simprocAttr]
  repeat refine kn rfl ?_
  refine k_loop_ix (st84 n t H) t.args.length rfl ?_ ?_
  · refine AWk_kept ?_ ?_ ?_ ?_ <;> repeat' first | exact trivial | refine q0 ?_ | exact qb | exact q1 | exact q2 | exact q3 | exact rfl | refine And.intro ?_ ?_ | exact q4 | exact q5 | exact q6 | exact q7 | exact Inside.ptr _ _ _ (.inr ⟨rfl, rfl⟩) | exact q8 | exact q9 | exact qd | exact Tm.ins _ | exact Tm.inss _ _ | exact Am.ins _ | exact Am.inss _ _ | refine ins_buf_str ?_ | refine Tm.ins_buf ?_ | refine Am.ins_buf ?_ | exact qf
  intro i hi
  refine k_st rfl ?_
  rcases Nat.lt_or_ge i t.args.length with h | h
  · repeat refine kn rfl ?_
    refine k_region tok rfl (by kernel_rfl) ?_
    simp only [go_sem, simprocAttr, h]
    repeat refine kn rfl ?_
    refine k_cond_t rfl (by simp only [go_sem, simprocAttr]) ?_
    repeat refine kn rfl ?_
    refine k_region tok rfl (by kernel_rfl) ?_
    simp only [go_sem, simprocAttr, Tm.getD_enc _ _ h, h]
    refine callP (fun_of Tryz.func84 rfl rfl) (a84 t.args[i] (ht.arg (List.getElem_mem h))) (by simp only [go_sem, simprocAttr]) ?_
    simp only [go_sem, simprocAttr]
    repeat refine kn rfl ?_
    refine k_region tok rfl (by kernel_rfl) ?_
    simp only [go_sem, simprocAttr]
    repeat refine kn rfl ?_
    refine k_nil ?_
    refine AWk_kept ?_ ?_ ?_ ?_ <;> repeat' first | exact trivial | refine q0 ?_ | exact qb | exact q1 | exact q2 | exact q3 | exact rfl | refine And.intro ?_ ?_ | exact q4 | exact q5 | exact q6 | exact q7 | exact Inside.ptr _ _ _ (.inr ⟨rfl, rfl⟩) | exact q8 | exact q9 | exact qd | exact Tm.ins _ | exact Tm.inss _ _ | exact Am.ins _ | exact Am.inss _ _ | refine ins_buf_str ?_ | refine Tm.ins_buf ?_ | refine Am.ins_buf ?_ | exact qf
    · simp only [go_sem, simprocAttr]
      rw [IntWalk.i64_in _ (by omega)]; exact Wk.refl _
    · simp only [go_sem, simprocAttr]
      rw [deps_take _ _ _ h]; exact Wk.refl _
  · repeat refine kn rfl ?_
    refine k_region tok rfl (by kernel_rfl) ?_
    simp only [go_sem, simprocAttr, Nat.not_lt.2 h]
    repeat refine kn rfl ?_
    refine k_cond_f rfl (by simp only [go_sem, simprocAttr]) ?_
    repeat refine kn rfl ?_
    refine k_exit_round rfl rfl rfl ?_
    repeat refine kn rfl ?_
    refine k_region tok rfl (by kernel_rfl) ?_
    simp only [go_sem, simprocAttr]
    repeat refine kn rfl ?_
    refine k_ret rfl ?_
    have hi : i = t.args.length := by omega
    subst hi
    refine post_one ?_ (.int _ _) rfl
    rw [hd]
    simp only [go_sem, simprocAttr, List.take_length]
    rw [IntWalk.i64_in _ (by omega)]
    exact Wk.refl _
termination_by SizeOf.sizeOf t
decreasing_by exact Tm.size_lt (List.getElem_mem h)

def inR (t : Tm) : Bool := shape t && !decide (t.kind > 4) && !(t.kind == 3)

def st85 (n : Nat) (t : Tm) (H : AHeap) (i : Nat) : AState :=
  ⟨[(7, .int .i64 i), (3, .ptr n 3 0), (1, .int .u8 4), (2, .int .u8 3)], [(3, .box t.cs)], H⟩

theorem a85 (t : Tm) (ht : t.Good) : PureT Tryz.prog 85 [t.enc, .int .u8 4, .int .u8 3] (.bool (t.all inR)) := by
  intro n H hn hT
  have hl := ht.len
  have hx : t.all inR = (inR t && t.args.all (Tm.all inR)) := by rw [Tm.all_eq, Tm.alls_iff]
  refine a_fun tok (fun_of Tryz.func85 rfl rfl) (by simp) fun B => ?_
  repeat refine kn rfl ?_
  refine k_region tok rfl (by kernel_rfl) ?_
  simp only [go_sem, simprocAttr]
  repeat refine kn rfl ?_
  refine k_region tok rfl (by kernel_rfl) ?_
  simp only [go_sem, simprocAttr]
  refine callT (fun_of Tryz.func117 rfl rfl) (a117 t ht) hn hT (by simp only [go_sem, simprocAttr]) ?_
  simp only [go_sem, simprocAttr]
  rw [shapeR_eq]
  cases h1 : shape t with
  | false =>
    simp only [go_sem, simprocAttr]
    repeat refine kn rfl ?_
    refine k_cond_t rfl (by simp only [go_sem, simprocAttr]) ?_
    repeat refine kn rfl ?_
    refine k_region tok rfl (by kernel_rfl) ?_
    simp only [go_sem, simprocAttr]
    repeat refine kn rfl ?_
    refine k_ret rfl ?_
    refine post_one ?_ (.bool _) rfl
    try simp only [go_sem, simprocAttr, hx, inR, h1]
    exact .refl _
  | true =>
  cases h2 : decide (t.kind > 4) with
  | true =>
    simp only [go_sem, simprocAttr, h2]
    repeat refine kn rfl ?_
    refine k_cond_t rfl (by simp only [go_sem, simprocAttr]) ?_
    repeat refine kn rfl ?_
    refine k_region tok rfl (by kernel_rfl) ?_
    simp only [go_sem, simprocAttr]
    repeat refine kn rfl ?_
    refine k_ret rfl ?_
    refine post_one ?_ (.bool _) rfl
    try simp only [go_sem, simprocAttr, hx, inR, h1, h2]
    exact .refl _
  | false =>
  cases h3 : (t.kind == 3) with
  | true =>
    simp only [go_sem, simprocAttr, h2, h3]
    repeat refine kn rfl ?_
    refine k_cond_t rfl (by simp only [go_sem, simprocAttr]) ?_
    repeat refine kn rfl ?_
    refine k_region tok rfl (by kernel_rfl) ?_
    simp only [go_sem, simprocAttr]
    repeat refine kn rfl ?_
    refine k_ret rfl ?_
    refine post_one ?_ (.bool _) rfl
    try simp only [go_sem, simprocAttr, hx, inR, h1, h2, h3]
    exact .refl _
  | false =>
  simp only [go_sem, simprocAttr, h2, h3]
  repeat refine kn rfl ?_
  refine k_cond_f rfl (by simp only [go_sem, simprocAttr]) ?_
  repeat refine kn rfl ?_
  refine k_region tok rfl (by kernel_rfl) ?_
  simp only [go_sem, simprocAttr]
  have hy : t.all inR = t.args.all (Tm.all inR) := by rw [hx]; simp only [inR, h1, h2, h3]; rfl
  repeat refine kn rfl ?_
  refine k_loop_p (st85 n t H) (fun i => ∀ j (h : j < t.args.length), j < i → Tm.all inR t.args[j] = true) t.args.length rfl ?_ (fun j _ h => absurd h (Nat.not_lt_zero _)) ?_
  · refine AWk_kept ?_ ?_ ?_ ?_ <;> repeat' first | exact trivial | refine q0 ?_ | exact qb | exact q1 | exact q2 | exact q3 | exact rfl | refine And.intro ?_ ?_ | exact q4 | exact q5 | exact q6 | exact q7 | exact Inside.ptr _ _ _ (.inr ⟨rfl, rfl⟩) | exact q8 | exact q9 | exact qd | exact Tm.ins _ | exact Tm.inss _ _ | exact Am.ins _ | exact Am.inss _ _ | refine ins_buf_str ?_ | refine Tm.ins_buf ?_ | refine Am.ins_buf ?_ | exact qf
  intro i hi hq
  refine k_st rfl ?_
  rcases Nat.lt_or_ge i t.args.length with h | h
  · repeat refine kn rfl ?_
    refine k_region tok rfl (by kernel_rfl) ?_
    simp only [go_sem, simprocAttr, h]
    repeat refine kn rfl ?_
    refine k_cond_t rfl (by simp only [go_sem, simprocAttr]) ?_
    repeat refine kn rfl ?_
    refine k_region tok rfl (by kernel_rfl) ?_
    simp only [go_sem, simprocAttr, Tm.getD_enc _ _ h, h]
    refine callT (fun_of Tryz.func85 rfl rfl) (a85 t.args[i] (ht.arg (List.getElem_mem h))) hn hT (by simp only [go_sem, simprocAttr]) ?_
    simp only [go_sem, simprocAttr]
    cases h5 : t.args[i].all inR with
    | false =>
      simp only [go_sem, simprocAttr]
      repeat refine kn rfl ?_
      refine k_cond_t rfl (by simp only [go_sem, simprocAttr]) ?_
      repeat refine kn rfl ?_
      refine k_region tok rfl (by kernel_rfl) ?_
      simp only [go_sem, simprocAttr]
      repeat refine kn rfl ?_
      refine k_ret_round rfl ?_
      refine post_one ?_ (.bool _) rfl
      have : t.args.all (Tm.all inR) = false := by
        rw [List.all_eq_false]; exact ⟨_, List.getElem_mem h, by rw [h5]; simp⟩
      simp only [go_sem, simprocAttr, hy, this]
      exact .refl _
    | true =>
      simp only [go_sem, simprocAttr]
      repeat refine kn rfl ?_
      refine k_cond_f rfl (by simp only [go_sem, simprocAttr]) ?_
      repeat refine kn rfl ?_
      refine k_region tok rfl (by kernel_rfl) ?_
      simp only [go_sem, simprocAttr]
      repeat refine kn rfl ?_
      refine k_nil ?_
      refine ⟨fun j hj hji => ?_, ?_⟩
      · rcases Nat.lt_or_ge j i with h' | h'
        · exact hq j hj h'
        · have : j = i := by omega
          subst this; exact h5
      · refine AWk_kept ?_ ?_ ?_ ?_ <;> repeat' first | exact trivial | refine q0 ?_ | exact qb | exact q1 | exact q2 | exact q3 | exact rfl | refine And.intro ?_ ?_ | exact q4 | exact q5 | exact q6 | exact q7 | exact Inside.ptr _ _ _ (.inr ⟨rfl, rfl⟩) | exact q8 | exact q9 | exact qd | exact Tm.ins _ | exact Tm.inss _ _ | exact Am.ins _ | exact Am.inss _ _ | refine ins_buf_str ?_ | refine Tm.ins_buf ?_ | refine Am.ins_buf ?_ | exact qf
        · simp only [go_sem, simprocAttr]
          rw [IntWalk.i64_in _ (by omega)]; exact .refl _
  · repeat refine kn rfl ?_
    refine k_region tok rfl (by kernel_rfl) ?_
    simp only [go_sem, simprocAttr, Nat.not_lt.2 h]
    repeat refine kn rfl ?_
    refine k_cond_f rfl (by simp only [go_sem, simprocAttr]) ?_
    repeat refine kn rfl ?_
    refine k_exit_round rfl rfl rfl ?_
    repeat refine kn rfl ?_
    refine k_region tok rfl (by kernel_rfl) ?_
    simp only [go_sem, simprocAttr]
    repeat refine kn rfl ?_
    refine k_ret rfl ?_
    refine post_one ?_ (.bool _) rfl
    have : t.args.all (Tm.all inR) = true := by
      rw [List.all_eq_true]; intro x hx
      obtain ⟨j, hj, rfl⟩ := List.getElem_of_mem hx
      exact hq j hj (by omega)
    simp only [go_sem, simprocAttr, hy, this]
    exact .refl _
termination_by SizeOf.sizeOf t
decreasing_by exact Tm.size_lt (List.getElem_mem h)

theorem inR_eq : inR = fun t => plain t && shape t := by
  funext t
  unfold inR plain
  cases h : shape t with
  | false => simp
  | true =>
    have : t.kind = 1 ∨ t.kind = 2 ∨ t.kind = 3 ∨ t.kind = 4 ∨ t.kind = 5 ∨ t.kind = 6 := by
      simp only [shape] at h
      split at h
      · omega
      split at h
      · omega
      split at h
      · omega
      split at h
      · omega
      split at h
      · omega
      split at h
      · omega
      · cases h
    rcases this with h | h | h | h | h | h <;> simp [h]

theorem a48 (t : Tm) (ht : t.Good) : PureT Tryz.prog 48 [t.enc] (.bool (valueT t)) := by
  intro n H hn hT
  have hx : t.all inR = (t.all plain && t.all shape) := by rw [inR_eq, all_and]
  refine a_fun tok (fun_of Tryz.func48 rfl rfl) (by simp) fun B => ?_
  repeat refine kn rfl ?_
  refine k_region tok rfl (by kernel_rfl) ?_
  simp only [go_sem, simprocAttr]
  repeat refine kn rfl ?_
  refine k_region tok rfl (by kernel_rfl) ?_
  simp only [go_sem, simprocAttr]
  refine callP (fun_of Tryz.func84 rfl rfl) (a84 t ht) (by simp only [go_sem, simprocAttr]) ?_
  simp only [go_sem, simprocAttr]
  cases h1 : decide (dep t ≤ 12) with
  | false =>
    simp only [go_sem, simprocAttr]
    repeat refine kn rfl ?_
    refine k_ret rfl ?_
    refine post_one ?_ (.bool _) rfl
    try simp only [go_sem, simprocAttr, valueT, validT, h1]
    exact .refl _
  | true =>
    simp only [go_sem, simprocAttr]
    refine callT (fun_of Tryz.func85 rfl rfl) (a85 t ht) hn hT (by simp only [go_sem, simprocAttr]) ?_
    simp only [go_sem, simprocAttr]
    rw [hx]
    cases h2 : t.all plain <;> cases h3 : t.all shape
    all_goals
      repeat refine kn rfl ?_
      refine k_ret rfl ?_
      refine post_one ?_ (.bool _) rfl
      try simp only [go_sem, simprocAttr, valueT, validT, h1, h2, h3]
      exact .refl _

end Go.Proofs.YtpoegdhgdgbmaaaGreatDoorR

/- The order of terms and atoms. No program, no condition. -/
namespace Go.Abs

/-- The first that is not zero. -/
def thn (c d : Int) : Int := if c = 0 then d else c

theorem thn_zero (d : Int) : thn 0 d = d := rfl
theorem thn_ne {c : Int} (h : c ≠ 0) (d : Int) : thn c d = c := if_neg h
theorem thn_eq_zero {c d : Int} (h : thn c d = 0) : c = 0 ∧ d = 0 := by
  unfold thn at h; split at h
  · exact ⟨by assumption, h⟩
  · exact absurd h (by assumption)
theorem thn_assoc (a b c : Int) : thn (thn a b) c = thn a (thn b c) := by unfold thn; split <;> simp_all
theorem thn_right (a : Int) : thn a 0 = a := by unfold thn; split <;> simp_all

/-- Two numbers compared. -/
def ncmp (a b : Int) : Int := if a < b then -1 else if b < a then 1 else 0

theorem ncmp_self (a : Int) : ncmp a a = 0 := by simp [ncmp]
theorem ncmp_zero {a b : Int} (h : ncmp a b = 0) : a = b := by
  unfold ncmp at h; split at h
  · cases h
  · split at h
    · cases h
    · omega
theorem ncmp_anti (a b : Int) : ncmp b a = -ncmp a b := by
  unfold ncmp; split <;> split <;> first | omega | (split <;> omega) | rfl
theorem ncmp_val (a b : Int) : ncmp a b = -1 ∨ ncmp a b = 0 ∨ ncmp a b = 1 := by
  unfold ncmp; split
  · exact .inl rfl
  · split
    · exact .inr (.inr rfl)
    · exact .inr (.inl rfl)

/-- Two lists of numbers compared, place by place. -/
def lexI : List Int → List Int → Int
  | [], [] => 0
  | [], _ :: _ => -1
  | _ :: _, [] => 1
  | a :: x, b :: y => thn (ncmp a b) (lexI x y)

theorem lexI_self : ∀ x : List Int, lexI x x = 0
  | [] => rfl
  | a :: x => by rw [lexI, ncmp_self, thn_zero, lexI_self x]
theorem lexI_val : ∀ x y : List Int, lexI x y = -1 ∨ lexI x y = 0 ∨ lexI x y = 1
  | [], [] => .inr (.inl rfl)
  | [], _ :: _ => .inl rfl
  | _ :: _, [] => .inr (.inr rfl)
  | a :: x, b :: y => by
    rw [lexI]; unfold thn; split
    · exact lexI_val x y
    · exact ncmp_val a b
theorem lexI_anti : ∀ x y : List Int, lexI y x = -lexI x y
  | [], [] => rfl
  | [], _ :: _ => rfl
  | _ :: _, [] => rfl
  | a :: x, b :: y => by
    rw [lexI, lexI, ncmp_anti a b, lexI_anti x y]
    unfold thn; split <;> split <;> first | rfl | omega
theorem lexI_trans : ∀ x y z : List Int, lexI x y ≤ 0 → lexI y z ≤ 0 → lexI x z ≤ 0
  | [], [], [], _, _ => by decide
  | [], [], _ :: _, _, _ => by show (-1 : Int) ≤ 0; decide
  | [], _ :: _, [], _, _ => by decide
  | [], _ :: _, _ :: _, _, _ => by show (-1 : Int) ≤ 0; decide
  | _ :: _, [], _, h, _ => by exact absurd h (by show ¬ (1 : Int) ≤ 0; decide)
  | _ :: _, _ :: _, [], _, h => by exact absurd h (by show ¬ (1 : Int) ≤ 0; decide)
  | a :: x, b :: y, c :: z, h, h' => by
    have ih := lexI_trans x y z
    rw [lexI] at h h' ⊢
    unfold thn at *
    unfold ncmp at *
    rcases Int.lt_trichotomy a b with h1 | h1 | h1 <;> rcases Int.lt_trichotomy b c with h2 | h2 | h2
    all_goals
      first
      | subst h1
      | skip
      first
      | subst h2
      | skip
      repeat' split at h
      all_goals repeat' split at h'
      all_goals repeat' split
      all_goals first | omega | (exact ih h h') | skip

/-- The place of a kind in the order. -/
def rank (k : Int) : Int := if k = 1 then 0 else if k = 2 then 1 else if k = 4 then 2 else if k = 3 then 3 else if k = 5 then 4 else if k = 6 then 5 else 6 + k

theorem rank_inj {a b : Int} (ha : 0 ≤ a) (hb : 0 ≤ b) (h : rank a = rank b) : a = b := by
  unfold rank at h
  repeat' split at h
  all_goals omega

/-- Two terms compared. -/
def cmpT : Tm → Tm → Int
  | .mk k n s l, .mk k' n' s' l' => thn (ncmp (rank k) (rank k')) (thn (if k = 1 then ncmp n n' else 0) (thn (ncmp l.length l'.length) (thn (Lib.compareBytes s s') (thn (cmps l l') (ncmp n n')))))
where cmps : List Tm → List Tm → Int
  | [], [] => 0
  | [], _ :: _ => -1
  | _ :: _, [] => 1
  | a :: x, b :: y => thn (cmpT a b) (cmps x y)

theorem cmpT_eq (a b : Tm) : cmpT a b = thn (ncmp (rank a.kind) (rank b.kind)) (thn (if a.kind = 1 then ncmp a.num b.num else 0) (thn (ncmp a.args.length b.args.length) (thn (Lib.compareBytes a.name b.name) (thn (cmpT.cmps a.args b.args) (ncmp a.num b.num))))) := by
  cases a; cases b; rw [cmpT]; rfl

/-- A name's numbers: with an end. -/
def serS (s : List UInt8) : List Int := s.map (fun b => (b.toNat : Int) + 1) ++ [0]

theorem lex_serS : ∀ (s t : List UInt8) (x y : List Int), lexI (serS s ++ x) (serS t ++ y) = thn (Lib.compareBytes s t) (lexI x y)
  | [], [], x, y => by simp [serS, lexI, Lib.compareBytes, ncmp_self, thn_zero]
  | [], b :: t, x, y => by
    simp only [serS, List.map_nil, List.nil_append, List.map_cons, List.cons_append, lexI, Lib.compareBytes]
    have : ncmp 0 ((b.toNat : Int) + 1) = -1 := by unfold ncmp; rw [if_pos (by omega)]
    rw [this]; rfl
  | a :: s, [], x, y => by
    simp only [serS, List.map_nil, List.nil_append, List.map_cons, List.cons_append, lexI, Lib.compareBytes]
    have : ncmp ((a.toNat : Int) + 1) 0 = 1 := by unfold ncmp; rw [if_neg (by omega), if_pos (by omega)]
    rw [this]; rfl
  | a :: s, b :: t, x, y => by
    have ih := lex_serS s t x y
    simp only [serS, List.append_assoc, List.cons_append, List.nil_append] at ih
    simp only [serS, List.map_cons, List.cons_append, lexI, Lib.compareBytes, List.append_assoc, List.nil_append]
    rw [ih]
    by_cases h1 : a < b
    · have : ncmp ((a.toNat : Int) + 1) ((b.toNat : Int) + 1) = -1 := by unfold ncmp; rw [if_pos (by have := UInt8.lt_iff_toNat_lt.1 h1; omega)]
      rw [this, if_pos h1]; rfl
    · rw [if_neg h1]
      by_cases h2 : b < a
      · have : ncmp ((a.toNat : Int) + 1) ((b.toNat : Int) + 1) = 1 := by
          have := UInt8.lt_iff_toNat_lt.1 h2
          unfold ncmp; rw [if_neg (by omega), if_pos (by omega)]
        rw [this, if_pos h2]; rfl
      · have : ncmp ((a.toNat : Int) + 1) ((b.toNat : Int) + 1) = 0 := by
          have e1 : ¬ a.toNat < b.toNat := fun h => h1 (UInt8.lt_iff_toNat_lt.2 h)
          have e2 : ¬ b.toNat < a.toNat := fun h => h2 (UInt8.lt_iff_toNat_lt.2 h)
          unfold ncmp; rw [if_neg (by omega), if_neg (by omega)]
        rw [this, if_neg h2, thn_zero]

/-- A term's numbers. -/
def ser : Tm → List Int
  | .mk k n s l => rank k :: (if k = 1 then n else 0) :: (l.length : Int) :: (serS s ++ (sers l ++ [n]))
where sers : List Tm → List Int
  | [] => []
  | t :: r => ser t ++ sers r

theorem ser_eq (t : Tm) : ser t = rank t.kind :: (if t.kind = 1 then t.num else 0) :: (t.args.length : Int) :: (serS t.name ++ (ser.sers t.args ++ [t.num])) := by cases t; rw [ser]; rfl

theorem rank_one {a b : Int} (h : rank a = rank b) (ha : 0 ≤ a) (hb : 0 ≤ b) : (a = 1 ↔ b = 1) := by rw [rank_inj ha hb h]

/-- The comparison of two terms is that of their numbers. -/
theorem lex_ser : ∀ (a b : Tm) (_ : a.Nm) (_ : b.Nm) (x y : List Int), lexI (ser a ++ x) (ser b ++ y) = thn (cmpT a b) (lexI x y)
  | .mk k n s l, b, ha, hb, x, y => by
    have hl : ∀ (p q : List Tm), (∀ u ∈ p, u ∈ l) → (∀ u ∈ q, u.Nm) → p.length = q.length → ∀ x y : List Int, lexI (ser.sers p ++ x) (ser.sers q ++ y) = thn (cmpT.cmps p q) (lexI x y) := by
      intro p
      induction p with
      | nil =>
        intro q _ _ hlen x y
        have : q = [] := List.eq_nil_of_length_eq_zero hlen.symm
        subst this; rfl
      | cons t p ih =>
        intro q hp hq hlen x y
        cases q with
        | nil => cases hlen
        | cons u q =>
          have ht := lex_ser t u (by cases ha with | mk _ _ _ _ _ _ _ h => exact h t (hp t (by simp))) (hq u (by simp))
          simp only [ser.sers, List.append_assoc, cmpT.cmps]
          rw [ht, ih q (fun v hv => hp v (List.mem_cons_of_mem _ hv)) (fun v hv => hq v (List.mem_cons_of_mem _ hv)) (by simpa using hlen), thn_assoc]
    have hk : 0 ≤ k := by cases ha with | mk _ _ _ _ _ h _ _ => exact h.1
    have hk' : 0 ≤ b.kind := by cases hb with | mk _ _ _ _ _ h _ _ => exact h.1
    have hbn : ∀ u ∈ b.args, u.Nm := by cases hb with | mk _ _ _ _ _ _ _ h => exact h
    have e4 : (Tm.mk k n s l).kind = k := rfl
    have e5 : (Tm.mk k n s l).num = n := rfl
    have e6 : (Tm.mk k n s l).args = l := rfl
    have e7 : (Tm.mk k n s l).name = s := rfl
    rw [ser_eq b, ser, cmpT_eq, e4, e5, e6, e7]
    simp only [List.cons_append, List.append_assoc, List.nil_append, lexI]
    rw [lex_serS]
    by_cases h1 : ncmp (rank k) (rank b.kind) = 0
    · have hkk := rank_inj hk hk' (ncmp_zero h1)
      by_cases h3 : ncmp (l.length : Int) (b.args.length : Int) = 0
      · have hlen := ncmp_zero h3
        rw [hl l b.args (fun u h => h) hbn (by omega), lexI]
        subst hkk
        simp only [thn_assoc]
        by_cases h2 : b.kind = 1
        · simp [h2, thn_assoc, lexI]
        · simp [h2, thn_assoc, lexI, ncmp_self, thn_zero]
      · subst hkk
        by_cases h2 : b.kind = 1
        · simp [h2, thn_assoc, thn_ne h3]
        · simp [h2, thn_assoc, thn_ne h3, ncmp_self, thn_zero]
    · simp only [thn_ne h1]
termination_by a => SizeOf.sizeOf a
decreasing_by
  have := List.sizeOf_lt_of_mem (hp t (by simp))
  simp only [Tm.mk.sizeOf_spec]; omega

theorem cmpBytes_zero : ∀ {s t : List UInt8}, Lib.compareBytes s t = 0 → s = t
  | [], [], _ => rfl
  | [], _ :: _, h => by cases h
  | _ :: _, [], h => by cases h
  | a :: s, b :: t, h => by
    rw [Lib.compareBytes] at h
    split at h
    · cases h
    · split at h
      · cases h
      · rename_i h1 h2
        have : a = b := UInt8.le_antisymm (UInt8.not_lt.1 h2) (UInt8.not_lt.1 h1)
        rw [this, cmpBytes_zero h]

theorem cmpBytes_self : ∀ s : List UInt8, Lib.compareBytes s s = 0
  | [] => rfl
  | a :: s => by rw [Lib.compareBytes, if_neg (UInt8.lt_irrefl a), if_neg (UInt8.lt_irrefl a), cmpBytes_self s]

theorem cmpBytes_val : ∀ s t : List UInt8, Lib.compareBytes s t = -1 ∨ Lib.compareBytes s t = 0 ∨ Lib.compareBytes s t = 1
  | [], [] => .inr (.inl rfl)
  | [], _ :: _ => .inl rfl
  | _ :: _, [] => .inr (.inr rfl)
  | a :: s, b :: t => by
    rw [Lib.compareBytes]; split
    · exact .inl rfl
    · split
      · exact .inr (.inr rfl)
      · exact cmpBytes_val s t

/-- Less is a comparison below zero. -/
theorem less_cmp : ∀ s t : List UInt8, Op.bytesLess s t = decide (Lib.compareBytes s t = -1)
  | [], [] => rfl
  | [], _ :: _ => rfl
  | _ :: _, [] => rfl
  | a :: s, b :: t => by
    rw [Lib.compareBytes, Op.bytesLess, less_cmp s t]
    by_cases h1 : a < b
    · simp [h1]
    · rw [if_neg h1]
      by_cases h2 : b < a
      · have : a ≠ b := fun e => by subst e; exact UInt8.lt_irrefl _ h2
        simp [h1, h2, this]
      · have : a = b := UInt8.le_antisymm (UInt8.not_lt.1 h2) (UInt8.not_lt.1 h1)
        subst this; simp [h1]

theorem cmpT_lex {a b : Tm} (ha : a.Nm) (hb : b.Nm) : cmpT a b = lexI (ser a) (ser b) := by
  have := lex_ser a b ha hb [] []
  simp only [List.append_nil, lexI, thn_right] at this
  exact this.symm

theorem cmpT_zero : ∀ {a b : Tm}, a.Nm → b.Nm → cmpT a b = 0 → a = b
  | .mk k n s l, b, ha, hb, h => by
    have hl : ∀ (p q : List Tm), (∀ u ∈ p, u ∈ l) → (∀ u ∈ q, u.Nm) → cmpT.cmps p q = 0 → p = q := by
      intro p
      induction p with
      | nil => intro q _ _ h; cases q with
        | nil => rfl
        | cons u q => cases h
      | cons t p ih =>
        intro q hp hq h
        cases q with
        | nil => cases h
        | cons u q =>
          simp only [cmpT.cmps] at h
          obtain ⟨h1, h2⟩ := thn_eq_zero h
          rw [ih q (fun v hv => hp v (List.mem_cons_of_mem _ hv)) (fun v hv => hq v (List.mem_cons_of_mem _ hv)) h2]
          rw [cmpT_zero (a := t) (b := u) (by cases ha with | mk _ _ _ _ _ _ _ h => exact h t (hp t (by simp))) (hq u (by simp)) h1]
    have hk : 0 ≤ k := by cases ha with | mk _ _ _ _ _ h _ _ => exact h.1
    have hk' : 0 ≤ b.kind := by cases hb with | mk _ _ _ _ _ hh _ _ => exact hh.1
    have hbn : ∀ u ∈ b.args, u.Nm := by cases hb with | mk _ _ _ _ _ _ _ hh => exact hh
    rw [cmpT_eq] at h
    obtain ⟨h1, h⟩ := thn_eq_zero h
    obtain ⟨h2, h⟩ := thn_eq_zero h
    obtain ⟨h3, h⟩ := thn_eq_zero h
    obtain ⟨h4, h⟩ := thn_eq_zero h
    obtain ⟨h5, h⟩ := thn_eq_zero h
    cases b with
    | mk k' n' s' l' =>
      have e1 : k = k' := rank_inj hk hk' (ncmp_zero h1)
      have e2 : n = n' := ncmp_zero h
      have e3 : s = s' := cmpBytes_zero h4
      have e4 : l = l' := hl l l' (fun u h => h) hbn h5
      rw [e1, e2, e3, e4]
termination_by a => SizeOf.sizeOf a
decreasing_by
  have := List.sizeOf_lt_of_mem (hp t (by simp))
  simp only [Tm.mk.sizeOf_spec]; omega

/-- Two atoms compared. -/
def cmpA (a b : Am) : Int := thn (Lib.compareBytes a.pred b.pred) (thn (ncmp a.args.length b.args.length) (cmpT.cmps a.args b.args))
def serA (a : Am) : List Int := serS a.pred ++ ((a.args.length : Int) :: ser.sers a.args)

theorem lex_sers : ∀ (p q : List Tm), (∀ u ∈ p, u.Nm) → (∀ u ∈ q, u.Nm) → p.length = q.length → lexI (ser.sers p) (ser.sers q) = cmpT.cmps p q
  | [], q, _, _, h => by
    have : q = [] := List.eq_nil_of_length_eq_zero h.symm
    subst this; rfl
  | t :: p, [], _, _, h => by cases h
  | t :: p, u :: q, hp, hq, h => by
    simp only [ser.sers, cmpT.cmps]
    rw [lex_ser t u (hp t (by simp)) (hq u (by simp)), lex_sers p q (fun v hv => hp v (by simp [hv])) (fun v hv => hq v (by simp [hv])) (by simpa using h)]

theorem cmps_zero : ∀ {p q : List Tm}, (∀ u ∈ p, u.Nm) → (∀ u ∈ q, u.Nm) → cmpT.cmps p q = 0 → p = q
  | [], [], _, _, _ => rfl
  | [], _ :: _, _, _, h => by cases h
  | _ :: _, [], _, _, h => by cases h
  | t :: p, u :: q, hp, hq, h => by
    simp only [cmpT.cmps] at h
    obtain ⟨h1, h2⟩ := thn_eq_zero h
    rw [cmpT_zero (hp t (by simp)) (hq u (by simp)) h1, cmps_zero (fun v hv => hp v (by simp [hv])) (fun v hv => hq v (by simp [hv])) h2]

theorem cmpA_lex {a b : Am} (ha : ∀ t ∈ a.args, t.Nm) (hb : ∀ t ∈ b.args, t.Nm) : cmpA a b = lexI (serA a) (serA b) := by
  unfold serA cmpA
  rw [lex_serS, lexI]
  by_cases h : ncmp (a.args.length : Int) b.args.length = 0
  · rw [lex_sers _ _ ha hb (by have := ncmp_zero h; omega)]
  · rw [thn_ne h, thn_ne h]

theorem cmpA_zero {a b : Am} (ha : ∀ t ∈ a.args, t.Nm) (hb : ∀ t ∈ b.args, t.Nm) (h : cmpA a b = 0) : a = b := by
  obtain ⟨h1, h⟩ := thn_eq_zero h
  obtain ⟨h2, h⟩ := thn_eq_zero h
  cases a; cases b
  have e1 := cmpBytes_zero h1
  have e2 := cmps_zero ha hb h
  simp only at e1 e2
  rw [e1, e2]
end Go.Abs
