/- The reference's store: sorted lists. -/
import Derived.Test.YtpoegdhgdgbmaaaGreatDoorRM14
set_option linter.all false
namespace Go.Proofs.YtpoegdhgdgbmaaaGreatDoorR
open Go.Abs
set_option maxRecDepth 100000

/-- Less. -/
def ltA (a b : Am) : Bool := decide (cmpA a b < 0)

theorem Am.cs2 (a : Am) : a.cs.length = 2 := rfl
theorem insFA {n e i : Nat} {p : Nat → Prop} (l : List Am) : ABlk.Inside n p (.mbuf e 2 (fl Am.cs l) i) := ABlk.inside_mbuf fun c hc => by
  obtain ⟨u, _, hu⟩ := List.mem_flatMap.1 hc
  exact (u.bcs.mem _ hu).inside

theorem allP_mem {p : AV → Prop} : ∀ {l : List AV}, (∀ x ∈ l, p x) → AllP p l
  | [], _ => trivial
  | x :: l, h => ⟨h x (by simp), allP_mem fun y hy => h y (by simp [hy])⟩
theorem allFA {n : Nat} {p : Nat → Prop} (l : List Am) : AllP (fun c => Inside n p c) (fl Am.cs l) := allP_mem fun c hc => by
  obtain ⟨u, _, hu⟩ := List.mem_flatMap.1 hc
  exact (u.bcs.mem _ hu).inside

/-- The list while the new one moves to its place. -/
def mid {α : Type} (out : List α) (s : α) (j : Nat) : List α := out.take j ++ s :: out.drop j

theorem mid_len {α : Type} (out : List α) (s : α) (j : Nat) (h : j ≤ out.length) : (mid out s j).length = out.length + 1 := by
  simp only [mid, List.length_append, List.length_cons, List.length_take, List.length_drop]; omega
theorem mid_at {α : Type} (out : List α) (s : α) (j : Nat) (h : j ≤ out.length) (h' : j < (mid out s j).length) : (mid out s j)[j] = s := by
  simp only [mid]
  rw [List.getElem_append_right (by rw [List.length_take_of_le h]; exact Nat.le_refl _)]
  simp [List.length_take_of_le h]
theorem mid_before {α : Type} (out : List α) (s : α) (j k : Nat) (h : j ≤ out.length) (hk : k < j) (h' : k < (mid out s j).length) : (mid out s j)[k] = out[k] := by
  simp only [mid]
  rw [List.getElem_append_left (by rw [List.length_take_of_le h]; exact hk), List.getElem_take]
theorem mid_swap {α : Type} (out : List α) (s : α) (j : Nat) (h : j + 1 ≤ out.length) : ((mid out s (j + 1)).set (j + 1) out[j]).set j s = mid out s j := by
  apply List.ext_getElem
  · simp only [List.length_set]; rw [mid_len _ _ _ h, mid_len _ _ _ (by omega)]
  · intro k h1 h2
    simp only [List.length_set] at h1
    simp only [List.getElem_set]
    by_cases e : j = k
    · subst e; rw [if_pos rfl, mid_at _ _ _ (by omega)]
    · rw [if_neg e]
      by_cases e' : j + 1 = k
      · subst e'
        rw [if_pos rfl]
        simp only [mid]
        rw [List.getElem_append_right (by rw [List.length_take_of_le (by omega)]; omega)]
        simp [List.length_take_of_le (show j ≤ out.length by omega)]
      · rw [if_neg e']
        simp only [mid]
        rcases Nat.lt_or_ge k j with h3 | h3
        · rw [List.getElem_append_left (by rw [List.length_take_of_le h]; omega), List.getElem_append_left (by rw [List.length_take_of_le (by omega)]; omega)]
          simp
        · rw [List.getElem_append_right (by rw [List.length_take_of_le h]; omega), List.getElem_append_right (by rw [List.length_take_of_le (by omega)]; omega)]
          have t1 : (out.take (j + 1)).length = j + 1 := List.length_take_of_le h
          have t2 : (out.take j).length = j := List.length_take_of_le (by omega)
          simp only [List.getElem_cons, t1, t2]
          rw [dif_neg (by omega), dif_neg (by omega)]
          simp only [List.getElem_drop]
          congr 1; omega

def st76 (n : Nat) (l : List Am) (H : AHeap) (i : Nat) : AState :=
  ⟨[(4, .int .i64 i), (3, .msl 2 n 200 i), (0, .sl 2 (l.map Am.enc) .any)], [(200, .mbuf 25 2 (fl Am.cs (sortB ltA (l.take i))) i)], H⟩

def sb76 (n : Nat) (l : List Am) (H : AHeap) (i : Nat) (out : List Am) (s : Am) (r : Nat) : AState :=
  ⟨[(5, .int .i64 ((i - r : Nat) : Int)), (4, .int .i64 i), (3, .msl 2 n 200 (i + 1)), (0, .sl 2 (l.map Am.enc) .any)], [(200, .mbuf 25 2 (fl Am.cs (mid out s (i - r))) (i + 1))], H⟩

theorem a76 (l : List Am) (hl : l.length ≤ 1000000) (hg : GoodL l) : PureT Tryz.prog 76 [.sl 2 (l.map Am.enc) .any] (.sl 2 ((sortB ltA l).map Am.enc) .any) := by
  intro n H hn hT
  refine a_fun tok (fun_of Tryz.func76 rfl rfl) (by simp) fun B => ?_
  repeat refine kn rfl ?_
  refine k_region tok rfl (by kernel_rfl) ?_
  simp only [go_sem, simprocAttr]
  repeat refine kn rfl ?_
  refine k_region tok rfl (by kernel_rfl) ?_
  simp only [go_sem, simprocAttr]
  repeat refine kn rfl ?_
  refine k_region tok rfl (by kernel_rfl) ?_
  simp only [go_sem, simprocAttr]
  repeat refine kn rfl ?_
  refine k_adopt_m 3 200 25 2 rfl rfl ?_
  refine k_loop_ix (st76 n l H) l.length rfl ?_ ?_
  · refine AWk_kept ?_ ?_ ?_ ?_ <;> repeat' first | exact trivial | refine q0 ?_ | exact qb | exact q1 | exact q2 | exact q3 | exact rfl | refine And.intro ?_ ?_ | exact q4 | exact q5 | exact q6 | exact q7 | exact Inside.ptr _ _ _ (.inr ⟨rfl, rfl⟩) | exact q8 | exact q9 | exact qd | exact Tm.ins _ | exact Tm.inss _ _ | exact Am.ins _ | exact Am.inss _ _ | refine ins_buf_str ?_ | refine Tm.ins_buf ?_ | refine Am.ins_buf ?_ | exact qf
    all_goals first | exact insM rfl | exact insFA _ | exact allFA _ | skip
  intro i hi
  refine k_st rfl ?_
  have hlen := sortB_len_take ltA l i hi
  generalize ho : sortB ltA (l.take i) = out at hlen
  have hgo : GoodL out := by
    subst ho; intro a ha
    exact hg a (List.mem_of_mem_take ((sortB_perm ltA _).mem_iff.1 ha))
  rcases Nat.lt_or_ge i l.length with h | h
  · have hgi := hg _ (List.getElem_mem h)
    generalize hs : l[i] = s at hgi
    repeat refine kn rfl ?_
    refine k_region tok rfl (by kernel_rfl) ?_
    simp only [go_sem, simprocAttr, h]
    repeat refine kn rfl ?_
    refine k_cond_t rfl (by simp only [go_sem, simprocAttr]) ?_
    repeat refine kn rfl ?_
    refine k_region tok rfl (by kernel_rfl) ?_
    simp only [go_sem, simprocAttr, Am.getD_enc _ _ h, h, hs]
    refine ⟨by first | exact ⟨rfl, by decide⟩ | exact rfl, ⟨le_maxLen (by omega), by omega⟩, ?_⟩
    repeat refine kn rfl ?_
    refine k_region tok rfl (by kernel_rfl) ?_
    simp only [go_sem, simprocAttr]
    repeat refine kn rfl ?_
    have hm0 : mid out s i = out ++ [s] := by rw [← hlen]; simp [mid]
    refine k_loop_p (sb76 n l H i out s) (fun r => ∀ k (hk : k < out.length), i - r ≤ k → ltA s out[k] = true) i rfl ?_ (fun k hk h => by omega) ?_
    · refine AWk_kept ?_ ?_ ?_ ?_ <;> repeat' first | exact trivial | refine q0 ?_ | exact qb | exact q1 | exact q2 | exact q3 | exact rfl | refine And.intro ?_ ?_ | exact q4 | exact q5 | exact q6 | exact q7 | exact Inside.ptr _ _ _ (.inr ⟨rfl, rfl⟩) | exact q8 | exact q9 | exact qd | exact Tm.ins _ | exact Tm.inss _ _ | exact Am.ins _ | exact Am.inss _ _ | refine ins_buf_str ?_ | refine Tm.ins_buf ?_ | refine Am.ins_buf ?_ | exact qf
      all_goals first | exact insM rfl | exact insFA _ | exact allFA _ | skip
      · simp only [go_sem, simprocAttr]
        rw [IntWalk.i64_in _ (by omega), (by omega : ((i + 1 : Nat) : Int) - 1 = i)]; exact .refl _
      · rw [Nat.sub_zero, hm0, fl_append]
        simp only [go_sem, simprocAttr, flat_cons, flat_nil, fl, List.flatMap_cons, List.flatMap_nil]
    intro r hr hq
    refine k_st rfl ?_
    generalize hj : i - r = j at hq
    have hji : j ≤ out.length := by omega
    have hml := mid_len out s j hji
    have hgj := fl_get Am.cs2 (mid out s j) j (by omega)
    rw [mid_at out s j hji] at hgj
    have hfl := fl_len Am.cs2 (mid out s j)
    cases j with
    | zero =>
      repeat refine kn rfl ?_
      refine k_draw tok mixed drawO rfl rfl (by kernel_rfl) (by kernel_rfl) ?_
      simp only [go_sem, simprocAttr]
      repeat refine kn rfl ?_
      refine k_cond_f rfl (by simp only [go_sem, simprocAttr]) ?_
      repeat refine kn rfl ?_
      refine k_exit_round rfl rfl rfl ?_
      repeat refine kn rfl ?_
      refine k_region tok rfl (by kernel_rfl) ?_
      simp only [go_sem, simprocAttr]
      repeat refine kn rfl ?_
      refine k_nil ?_
      have hr' : insB ltA s out = mid out s 0 := insB_at ltA s out 0 (by omega) hq (fun k _ e => by omega)
      refine AWk_kept ?_ ?_ ?_ ?_ <;> repeat' first | exact trivial | refine q0 ?_ | exact qb | exact q1 | exact q2 | exact q3 | exact rfl | refine And.intro ?_ ?_ | exact q4 | exact q5 | exact q6 | exact q7 | exact Inside.ptr _ _ _ (.inr ⟨rfl, rfl⟩) | exact q8 | exact q9 | exact qd | exact Tm.ins _ | exact Tm.inss _ _ | exact Am.ins _ | exact Am.inss _ _ | refine ins_buf_str ?_ | refine Tm.ins_buf ?_ | refine Am.ins_buf ?_ | exact qf
      all_goals first | exact insM rfl | exact insFA _ | exact allFA _ | skip
      · simp only [go_sem, simprocAttr]
        rw [IntWalk.i64_in _ (by omega)]; exact .refl _
      · rw [sortB, foldl_take _ _ _ _ h, hs]
        rw [sortB] at ho
        rw [ho, hr']
        simp only [go_sem, simprocAttr]
    | succ k =>
      have hgk := fl_get Am.cs2 (mid out s (k + 1)) k (by omega)
      rw [mid_before out s (k + 1) k hji (by omega)] at hgk
      have hw : IntKind.i64.wrap (((k + 1 : Nat) : Int) - 1) = (k : Int) := by rw [IntWalk.i64_in _ (by omega)]; omega
      have hp : (0 : Int) < ((k + 1 : Nat) : Int) := by omega
      repeat refine kn rfl ?_
      refine k_draw tok mixed drawO rfl rfl (by kernel_rfl) (by kernel_rfl) ?_
      simp only [go_sem, simprocAttr, hw, hp, hgj, hgk]
      refine ⟨by omega, ⟨by omega, by omega⟩, by omega, ⟨by omega, by omega⟩, ?_⟩
      refine callT (fun_of Tryz.func17 rfl rfl) (a17 s out[k] hgi (hgo _ (List.getElem_mem _))) hn hT (by simp only [go_sem, simprocAttr]) ?_
      simp only [go_sem, simprocAttr]
      cases h5 : decide (cmpA s out[k] < 0) with
      | false =>
        repeat refine kn rfl ?_
        refine k_cond_f rfl (by simp only [go_sem, simprocAttr, h5]) ?_
        repeat refine kn rfl ?_
        refine k_exit_round rfl rfl rfl ?_
        repeat refine kn rfl ?_
        refine k_region tok rfl (by kernel_rfl) ?_
        simp only [go_sem, simprocAttr]
        repeat refine kn rfl ?_
        refine k_nil ?_
        have hr' : insB ltA s out = mid out s (k + 1) := insB_at ltA s out (k + 1) (by omega) hq (fun k' _ e => by
          have : k = k' := by omega
          subst this; exact h5)
        refine AWk_kept ?_ ?_ ?_ ?_ <;> repeat' first | exact trivial | refine q0 ?_ | exact qb | exact q1 | exact q2 | exact q3 | exact rfl | refine And.intro ?_ ?_ | exact q4 | exact q5 | exact q6 | exact q7 | exact Inside.ptr _ _ _ (.inr ⟨rfl, rfl⟩) | exact q8 | exact q9 | exact qd | exact Tm.ins _ | exact Tm.inss _ _ | exact Am.ins _ | exact Am.inss _ _ | refine ins_buf_str ?_ | refine Tm.ins_buf ?_ | refine Am.ins_buf ?_ | exact qf
        all_goals first | exact insM rfl | exact insFA _ | exact allFA _ | skip
        · simp only [go_sem, simprocAttr]
          rw [IntWalk.i64_in _ (by omega)]; exact .refl _
        · rw [sortB, foldl_take _ _ _ _ h, hs]
          rw [sortB] at ho
          rw [ho, hr']
          simp only [go_sem, simprocAttr]
      | true =>
        repeat refine kn rfl ?_
        refine k_cond_t rfl (by simp only [go_sem, simprocAttr, h5]) ?_
        repeat refine kn rfl ?_
        refine k_draw tok mixed drawO rfl rfl (by kernel_rfl) (by kernel_rfl) ?_
        simp only [go_sem, simprocAttr, hw, hp, hgj, hgk]
        have e1 := fl_splice Am.cs2 (mid out s (k + 1)) (k + 1) (by omega) out[k]
        have e2 := fl_splice Am.cs2 ((mid out s (k + 1)).set (k + 1) out[k]) k (by rw [List.length_set]; omega) s
        rw [mid_swap out s k hji] at e2
        simp only [go_sem, simprocAttr] at e1 e2
        have hl2 := fl_len Am.cs2 ((mid out s (k + 1)).set (k + 1) out[k])
        rw [List.length_set] at hl2
        simp only [e1, e2]
        refine ⟨by omega, ⟨by omega, by omega⟩, by omega, ⟨by omega, by omega⟩, by omega, ⟨by omega, by omega⟩, by omega, ⟨by omega, by omega⟩, ?_⟩
        repeat refine kn rfl ?_
        refine k_region tok rfl (by kernel_rfl) ?_
        simp only [go_sem, simprocAttr, hw]
        repeat refine kn rfl ?_
        refine k_nil ?_
        refine ⟨by omega, fun k' hk' hle => ?_, ?_⟩
        · rcases Nat.lt_or_ge k k' with h6 | h6
          · exact hq k' hk' (by omega)
          · have : k' = k := by omega
            subst this; exact h5
        · have hj' : i - (r + 1) = k := by omega
          refine AWk_kept ?_ ?_ ?_ ?_ <;> repeat' first | exact trivial | refine q0 ?_ | exact qb | exact q1 | exact q2 | exact q3 | exact rfl | refine And.intro ?_ ?_ | exact q4 | exact q5 | exact q6 | exact q7 | exact Inside.ptr _ _ _ (.inr ⟨rfl, rfl⟩) | exact q8 | exact q9 | exact qd | exact Tm.ins _ | exact Tm.inss _ _ | exact Am.ins _ | exact Am.inss _ _ | refine ins_buf_str ?_ | refine Tm.ins_buf ?_ | refine Am.ins_buf ?_ | exact qf
          all_goals first | exact insM rfl | exact insFA _ | exact allFA _ | skip
          · simp only [go_sem, simprocAttr, hj']
            exact .refl _
          · rw [hj']
            simp only [go_sem, simprocAttr]
  · repeat refine kn rfl ?_
    refine k_region tok rfl (by kernel_rfl) ?_
    simp only [go_sem, simprocAttr, Nat.not_lt.2 h]
    repeat refine kn rfl ?_
    refine k_cond_f rfl (by simp only [go_sem, simprocAttr]) ?_
    repeat refine kn rfl ?_
    refine k_exit_round rfl rfl rfl ?_
    have hi' : i = l.length := by omega
    subst hi'
    repeat refine kn rfl ?_
    refine k_region tok rfl (by kernel_rfl) ?_
    simp only [go_sem, simprocAttr]
    rw [List.take_length] at ho
    rw [ho]
    refine k_weak (AWk_freeze_mbuf (tm' := [(2, .sl 2 (out.map Am.enc) .any)]) (j := 200) (out.map Am.enc) rfl (fl_flat Am.cs Am.enc (fun _ => rfl) out) (by rw [List.length_map]; exact hlen) (fun x hx => ?_) (allFA out).mem (fun p hp => ?_) (fun p hp => ?_)) ?_
    · obtain ⟨u, _, rfl⟩ := List.mem_map.1 hx; rfl
    · simp only [List.mem_singleton] at hp; subst hp
      exact .inr ⟨2, rfl, rfl⟩
    · simp [delb] at hp
    repeat refine kn rfl ?_
    refine k_ret rfl ?_
    exact post_one (.refl _) (below_ams _) rfl
end Go.Proofs.YtpoegdhgdgbmaaaGreatDoorR

/- The reference's store: sorted predicates. -/
namespace Go.Proofs.YtpoegdhgdgbmaaaGreatDoorR
open Go.Abs
set_option maxRecDepth 100000

theorem Sg.cs2 (a : Sg) : a.cs.length = 2 := rfl
theorem allFS {n : Nat} {p : Nat → Prop} (l : List Sg) : AllP (fun c => Inside n p c) (fl Sg.cs l) := allP_mem fun c hc => by
  obtain ⟨u, _, hu⟩ := List.mem_flatMap.1 hc
  exact (u.bcs.mem _ hu).inside
theorem insFS {n e i : Nat} {p : Nat → Prop} (l : List Sg) : ABlk.Inside n p (.mbuf e 2 (fl Sg.cs l) i) := ABlk.inside_mbuf (allFS l).mem

def st154m (n q j K : Nat) (s : Sg) (H : AHeap) (i : Nat) : AState :=
  ⟨[(5, .int .i64 i), (3, .ptr n 3 0), (0, .msl 2 q j K)], [(3, .box s.cs)], H⟩

/-- The same, where the list is one that may be written. -/
theorem a154m (l : List Sg) (s : Sg) (hl : l.length ≤ 1000000) (n q j K : Nat) (H : AHeap) (hq : q < n) (hK : l.length = K) (hH : H q j = some (.mbuf 49 2 (fl Sg.cs l) K)) : PC Tryz.prog n 154 [.msl 2 q j K, s.enc] H (.bool (l.any (· == s))) := by
  have hne : ¬ q = n := by omega
  refine a_fun tok (fun_of Tryz.func154 rfl rfl) (by simp) fun B => ?_
  repeat refine kn rfl ?_
  refine k_region tok rfl (by kernel_rfl) ?_
  simp only [go_sem, simprocAttr]
  repeat refine kn rfl ?_
  refine k_region tok rfl (by kernel_rfl) ?_
  simp only [go_sem, simprocAttr]
  repeat refine kn rfl ?_
  refine k_loop_p (st154m n q j K s H) (fun i => ∀ j (h : j < l.length), j < i → (l[j] == s) = false) l.length rfl ?_ (fun j _ h => absurd h (Nat.not_lt_zero _)) ?_
  · refine AWk_kept ?_ ?_ ?_ ?_ <;> repeat' first | exact trivial | refine q0 ?_ | exact qb | exact q1 | exact q2 | exact q3 | exact rfl | refine And.intro ?_ ?_ | exact q4 | exact q5 | exact q6 | exact q7 | exact Inside.ptr _ _ _ (.inr ⟨rfl, rfl⟩) | exact q8 | exact q9 | exact qd | exact Tm.ins _ | exact Tm.inss _ _ | exact Am.ins _ | exact Am.inss _ _ | refine ins_buf_str ?_ | refine Tm.ins_buf ?_ | refine Am.ins_buf ?_ | exact qf
    all_goals exact Inside.msl _ _ _ _ (.inl hq)
  intro i hi hc
  refine k_st rfl ?_
  have hgj := fun h => fl_get Sg.cs2 l i h
  have hfl := fl_len Sg.cs2 l
  rcases Nat.lt_or_ge i l.length with h | h
  · have hgj := hgj h
    have hiK : i < K := by omega
    repeat refine kn rfl ?_
    refine k_region tok rfl (by kernel_rfl) ?_
    simp only [go_sem, simprocAttr, hiK]
    repeat refine kn rfl ?_
    refine k_cond_t rfl (by simp only [go_sem, simprocAttr]) ?_
    repeat refine kn rfl ?_
    refine k_draw tok mixed drawO rfl rfl (by kernel_rfl) (by kernel_rfl) ?_
    simp only [go_sem, simprocAttr, hne, hH, hgj, klAll, AV.kls, AV.kl, kl_sg]
    refine ⟨hiK, ⟨by omega, by omega⟩, ?_⟩
    cases h5 : (l[i] == s) with
    | true =>
      repeat refine kn rfl ?_
      refine k_cond_t rfl (by simp only [go_sem, simprocAttr, h5]) ?_
      repeat refine kn rfl ?_
      refine k_region tok rfl (by kernel_rfl) ?_
      simp only [go_sem, simprocAttr]
      repeat refine kn rfl ?_
      refine k_ret_round rfl ?_
      refine post_one ?_ (.bool _) rfl
      have : l.any (· == s) = true := List.any_eq_true.2 ⟨_, List.getElem_mem h, h5⟩
      simp only [go_sem, simprocAttr, this]
      exact .refl _
    | false =>
      repeat refine kn rfl ?_
      refine k_cond_f rfl (by simp only [go_sem, simprocAttr, h5]) ?_
      repeat refine kn rfl ?_
      refine k_region tok rfl (by kernel_rfl) ?_
      simp only [go_sem, simprocAttr]
      repeat refine kn rfl ?_
      refine k_nil ?_
      refine ⟨h, fun j hj hji => ?_, ?_⟩
      · rcases Nat.lt_or_ge j i with h' | h'
        · exact hc j hj h'
        · have : j = i := by omega
          subst this; exact h5
      · refine AWk_kept ?_ ?_ ?_ ?_ <;> repeat' first | exact trivial | refine q0 ?_ | exact qb | exact q1 | exact q2 | exact q3 | exact rfl | refine And.intro ?_ ?_ | exact q4 | exact q5 | exact q6 | exact q7 | exact Inside.ptr _ _ _ (.inr ⟨rfl, rfl⟩) | exact q8 | exact q9 | exact qd | exact Tm.ins _ | exact Tm.inss _ _ | exact Am.ins _ | exact Am.inss _ _ | refine ins_buf_str ?_ | refine Tm.ins_buf ?_ | refine Am.ins_buf ?_ | exact qf
        all_goals first | exact Inside.msl _ _ _ _ (.inl hq) | skip
        simp only [go_sem, simprocAttr]
        rw [IntWalk.i64_in _ (by omega)]; exact .refl _
  · repeat refine kn rfl ?_
    refine k_region tok rfl (by kernel_rfl) ?_
    simp only [go_sem, simprocAttr, Nat.not_lt.2 (hK ▸ h)]
    repeat refine kn rfl ?_
    refine k_cond_f rfl (by simp only [go_sem, simprocAttr]) ?_
    repeat refine kn rfl ?_
    refine k_exit_round rfl rfl rfl ?_
    repeat refine kn rfl ?_
    refine k_region tok rfl (by kernel_rfl) ?_
    simp only [go_sem, simprocAttr]
    repeat refine kn rfl ?_
    refine k_ret rfl ?_
    refine post_one ?_ (.bool _) rfl
    have : l.any (· == s) = false := by
      rw [List.any_eq_false]; intro x hx
      obtain ⟨j, hj, rfl⟩ := List.getElem_of_mem hx
      rw [hc j hj (by omega)]; simp
    simp only [go_sem, simprocAttr, this]
    exact .refl _
/-- Sorted, each once. -/
def sortD (l : List Sg) : List Sg := l.foldl (fun out s => if out.any (· == s) = true then out else insB ltS s out) []

theorem sortD_len : ∀ (l b : List Sg), (l.foldl (fun out s => if out.any (· == s) = true then out else insB ltS s out) b).length ≤ b.length + l.length
  | [], b => Nat.le_refl _
  | s :: l, b => by
    rw [List.foldl_cons]
    refine Nat.le_trans (sortD_len l _) ?_
    split
    · simp only [List.length_cons]; omega
    · rw [insB_len]; simp only [List.length_cons]; omega

theorem sortD_len_take (l : List Sg) (i : Nat) (h : i ≤ l.length) : (sortD (l.take i)).length ≤ i := by
  have := sortD_len (l.take i) []
  rw [List.length_take_of_le h, List.length_nil, Nat.zero_add] at this
  exact this

def st110 (n : Nat) (l : List Sg) (H : AHeap) (i : Nat) (out : List Sg) : AState :=
  ⟨[(4, .int .i64 i), (3, .msl 2 n 200 out.length), (0, .sl 2 (l.map Sg.enc) .any)], [(200, .mbuf 49 2 (fl Sg.cs out) out.length)], H⟩

def sb110 (n : Nat) (l : List Sg) (H : AHeap) (i : Nat) (out : List Sg) (s : Sg) (r : Nat) : AState :=
  ⟨[(5, .int .i64 ((out.length - r : Nat) : Int)), (4, .int .i64 i), (3, .msl 2 n 200 (out.length + 1)), (0, .sl 2 (l.map Sg.enc) .any)], [(200, .mbuf 49 2 (fl Sg.cs (mid out s (out.length - r))) (out.length + 1))], H⟩

theorem a110 (l : List Sg) (hl : l.length ≤ 1000000) : PureT Tryz.prog 110 [.sl 2 (l.map Sg.enc) .any] (.sl 2 ((sortD l).map Sg.enc) .any) := by
  intro n H hn hT
  refine a_fun tok (fun_of Tryz.func110 rfl rfl) (by simp) fun B => ?_
  repeat refine kn rfl ?_
  refine k_region tok rfl (by kernel_rfl) ?_
  simp only [go_sem, simprocAttr]
  repeat refine kn rfl ?_
  refine k_region tok rfl (by kernel_rfl) ?_
  simp only [go_sem, simprocAttr]
  repeat refine kn rfl ?_
  refine k_region tok rfl (by kernel_rfl) ?_
  simp only [go_sem, simprocAttr]
  repeat refine kn rfl ?_
  refine k_adopt_m 3 200 49 2 rfl rfl ?_
  refine k_loop_ix (fun i => st110 n l H i (sortD (l.take i))) l.length rfl ?_ ?_
  · refine AWk_kept ?_ ?_ ?_ ?_ <;> repeat' first | exact trivial | refine q0 ?_ | exact qb | exact q1 | exact q2 | exact q3 | exact rfl | refine And.intro ?_ ?_ | exact q4 | exact q5 | exact q6 | exact q7 | exact Inside.ptr _ _ _ (.inr ⟨rfl, rfl⟩) | exact q8 | exact q9 | exact qd | exact Tm.ins _ | exact Tm.inss _ _ | exact Am.ins _ | exact Am.inss _ _ | refine ins_buf_str ?_ | refine Tm.ins_buf ?_ | refine Am.ins_buf ?_ | exact qf
    all_goals first | exact insM rfl | exact insFS _ | exact allFS _ | exact Sg.inss _ _ | skip
  intro i hi
  refine k_st rfl ?_
  have hlen := sortD_len_take l i hi
  generalize ho : sortD (l.take i) = out at hlen
  rcases Nat.lt_or_ge i l.length with h | h
  · generalize hs : l[i] = s
    have hnext : sortD (l.take (i + 1)) = if out.any (· == s) = true then out else insB ltS s out := by
      rw [sortD, foldl_take _ _ _ _ h, hs]
      rw [sortD] at ho
      rw [ho]
    repeat refine kn rfl ?_
    refine k_region tok rfl (by kernel_rfl) ?_
    simp only [go_sem, simprocAttr, h]
    repeat refine kn rfl ?_
    refine k_cond_t rfl (by simp only [go_sem, simprocAttr]) ?_
    repeat refine kn rfl ?_
    refine k_region tok rfl (by kernel_rfl) ?_
    simp only [go_sem, simprocAttr, Sg.getD_enc _ _ h, h, hs]
    refine callH (fun_of Tryz.func154 rfl rfl) (a154m out s (by omega) (n + 1) n 200 out.length _ (Nat.lt_succ_self n) rfl (by simp [full, lkb])) (by simp only [go_sem, simprocAttr]) ?_
    simp only [go_sem, simprocAttr]
    cases hany : out.any (· == s) with
    | true =>
      rw [hany] at hnext
      simp only [reduceIte] at hnext
      repeat refine kn rfl ?_
      refine k_cond_t rfl (by simp only [go_sem, simprocAttr, hany]) ?_
      repeat refine kn rfl ?_
      refine k_exit rfl rfl ?_
      repeat refine kn rfl ?_
      refine k_region tok rfl (by kernel_rfl) ?_
      simp only [go_sem, simprocAttr]
      repeat refine kn rfl ?_
      refine k_nil ?_
      rw [hnext]
      refine AWk_kept ?_ ?_ ?_ ?_ <;> repeat' first | exact trivial | refine q0 ?_ | exact qb | exact q1 | exact q2 | exact q3 | exact rfl | refine And.intro ?_ ?_ | exact q4 | exact q5 | exact q6 | exact q7 | exact Inside.ptr _ _ _ (.inr ⟨rfl, rfl⟩) | exact q8 | exact q9 | exact qd | exact Tm.ins _ | exact Tm.inss _ _ | exact Am.ins _ | exact Am.inss _ _ | refine ins_buf_str ?_ | refine Tm.ins_buf ?_ | refine Am.ins_buf ?_ | exact qf
      all_goals first | exact insM rfl | exact insFS _ | exact allFS _ | exact Sg.inss _ _ | skip
      simp only [go_sem, simprocAttr]
      rw [IntWalk.i64_in _ (by omega)]; exact .refl _
    | false =>
    rw [hany] at hnext
    simp only [Bool.false_eq_true, reduceIte] at hnext
    repeat refine kn rfl ?_
    refine k_cond_f rfl (by simp only [go_sem, simprocAttr, hany]) ?_
    repeat refine kn rfl ?_
    refine k_region tok rfl (by kernel_rfl) ?_
    simp only [go_sem, simprocAttr, Sg.getD_enc _ _ h, h, hs]
    refine ⟨by first | exact ⟨rfl, by decide⟩ | exact rfl, ⟨le_maxLen (by omega), by omega⟩, ?_⟩
    repeat refine kn rfl ?_
    refine k_region tok rfl (by kernel_rfl) ?_
    simp only [go_sem, simprocAttr]
    repeat refine kn rfl ?_
    have hm0 : mid out s out.length = out ++ [s] := by simp [mid]
    refine k_loop_p (sb110 n l H i out s) (fun r => ∀ k (hk : k < out.length), out.length - r ≤ k → ltS s out[k] = true) out.length rfl ?_ (fun k hk h => by omega) ?_
    · refine AWk_kept ?_ ?_ ?_ ?_ <;> repeat' first | exact trivial | refine q0 ?_ | exact qb | exact q1 | exact q2 | exact q3 | exact rfl | refine And.intro ?_ ?_ | exact q4 | exact q5 | exact q6 | exact q7 | exact Inside.ptr _ _ _ (.inr ⟨rfl, rfl⟩) | exact q8 | exact q9 | exact qd | exact Tm.ins _ | exact Tm.inss _ _ | exact Am.ins _ | exact Am.inss _ _ | refine ins_buf_str ?_ | refine Tm.ins_buf ?_ | refine Am.ins_buf ?_ | exact qf
      all_goals first | exact insM rfl | exact insFS _ | exact allFS _ | exact Sg.inss _ _ | skip
      · simp only [go_sem, simprocAttr]
        rw [IntWalk.i64_in _ (by omega), (by omega : ((out.length + 1 : Nat) : Int) - 1 = out.length)]; exact .refl _
      · rw [Nat.sub_zero, hm0, fl_append]
        simp only [go_sem, simprocAttr, flat_cons, flat_nil, fl, List.flatMap_cons, List.flatMap_nil]
    intro r hr hq
    refine k_st rfl ?_
    generalize hj : out.length - r = j at hq
    have hji : j ≤ out.length := by omega
    have hml := mid_len out s j hji
    have hgj := fl_get Sg.cs2 (mid out s j) j (by omega)
    rw [mid_at out s j hji] at hgj
    have hfl := fl_len Sg.cs2 (mid out s j)
    cases j with
    | zero =>
      repeat refine kn rfl ?_
      refine k_draw tok mixed drawO rfl rfl (by kernel_rfl) (by kernel_rfl) ?_
      simp only [go_sem, simprocAttr]
      repeat refine kn rfl ?_
      refine k_cond_f rfl (by simp only [go_sem, simprocAttr]) ?_
      repeat refine kn rfl ?_
      refine k_exit_round rfl rfl rfl ?_
      repeat refine kn rfl ?_
      refine k_region tok rfl (by kernel_rfl) ?_
      simp only [go_sem, simprocAttr]
      repeat refine kn rfl ?_
      refine k_nil ?_
      have hr' : insB ltS s out = mid out s 0 := insB_at ltS s out 0 (by omega) hq (fun k _ e => by omega)
      simp only [hnext, hr', st110, hml]
      refine AWk_kept ?_ ?_ ?_ ?_ <;> repeat' first | exact trivial | refine q0 ?_ | exact qb | exact q1 | exact q2 | exact q3 | exact rfl | refine And.intro ?_ ?_ | exact q4 | exact q5 | exact q6 | exact q7 | exact Inside.ptr _ _ _ (.inr ⟨rfl, rfl⟩) | exact q8 | exact q9 | exact qd | exact Tm.ins _ | exact Tm.inss _ _ | exact Am.ins _ | exact Am.inss _ _ | refine ins_buf_str ?_ | refine Tm.ins_buf ?_ | refine Am.ins_buf ?_ | exact qf
      all_goals first | exact insM rfl | exact insFS _ | exact allFS _ | exact Sg.inss _ _ | skip
      · simp only [go_sem, simprocAttr]
        rw [IntWalk.i64_in _ (by omega)]; exact .refl _
    | succ k =>
      have hgk := fl_get Sg.cs2 (mid out s (k + 1)) k (by omega)
      rw [mid_before out s (k + 1) k hji (by omega)] at hgk
      have hw : IntKind.i64.wrap (((k + 1 : Nat) : Int) - 1) = (k : Int) := by rw [IntWalk.i64_in _ (by omega)]; omega
      have hp : (0 : Int) < ((k + 1 : Nat) : Int) := by omega
      repeat refine kn rfl ?_
      refine k_draw tok mixed drawO rfl rfl (by kernel_rfl) (by kernel_rfl) ?_
      simp only [go_sem, simprocAttr, hw, hp, hgj, hgk]
      refine ⟨by omega, ⟨by omega, by omega⟩, by omega, ⟨by omega, by omega⟩, ?_⟩
      refine callP (fun_of Tryz.func155 rfl rfl) (a155 s out[k]) (by simp only [go_sem, simprocAttr]) ?_
      simp only [go_sem, simprocAttr]
      cases h5 : ltS s out[k] with
      | false =>
        repeat refine kn rfl ?_
        refine k_cond_f rfl (by simp only [go_sem, simprocAttr, h5]) ?_
        repeat refine kn rfl ?_
        refine k_exit_round rfl rfl rfl ?_
        repeat refine kn rfl ?_
        refine k_region tok rfl (by kernel_rfl) ?_
        simp only [go_sem, simprocAttr]
        repeat refine kn rfl ?_
        refine k_nil ?_
        have hr' : insB ltS s out = mid out s (k + 1) := insB_at ltS s out (k + 1) (by omega) hq (fun k' _ e => by
          have : k = k' := by omega
          subst this; exact h5)
        simp only [hnext, hr', st110, hml]
        refine AWk_kept ?_ ?_ ?_ ?_ <;> repeat' first | exact trivial | refine q0 ?_ | exact qb | exact q1 | exact q2 | exact q3 | exact rfl | refine And.intro ?_ ?_ | exact q4 | exact q5 | exact q6 | exact q7 | exact Inside.ptr _ _ _ (.inr ⟨rfl, rfl⟩) | exact q8 | exact q9 | exact qd | exact Tm.ins _ | exact Tm.inss _ _ | exact Am.ins _ | exact Am.inss _ _ | refine ins_buf_str ?_ | refine Tm.ins_buf ?_ | refine Am.ins_buf ?_ | exact qf
        all_goals first | exact insM rfl | exact insFS _ | exact allFS _ | exact Sg.inss _ _ | skip
        · simp only [go_sem, simprocAttr]
          rw [IntWalk.i64_in _ (by omega)]; exact .refl _
        | true =>
        repeat refine kn rfl ?_
        refine k_cond_t rfl (by simp only [go_sem, simprocAttr, h5]) ?_
        repeat refine kn rfl ?_
        refine k_draw tok mixed drawO rfl rfl (by kernel_rfl) (by kernel_rfl) ?_
        simp only [go_sem, simprocAttr, hw, hp, hgj, hgk]
        have e1 := fl_splice Sg.cs2 (mid out s (k + 1)) (k + 1) (by omega) out[k]
        have e2 := fl_splice Sg.cs2 ((mid out s (k + 1)).set (k + 1) out[k]) k (by rw [List.length_set]; omega) s
        rw [mid_swap out s k hji] at e2
        simp only [go_sem, simprocAttr] at e1 e2
        have hl2 := fl_len Sg.cs2 ((mid out s (k + 1)).set (k + 1) out[k])
        rw [List.length_set] at hl2
        simp only [e1, e2]
        refine ⟨by omega, ⟨by omega, by omega⟩, by omega, ⟨by omega, by omega⟩, by omega, ⟨by omega, by omega⟩, by omega, ⟨by omega, by omega⟩, ?_⟩
        repeat refine kn rfl ?_
        refine k_region tok rfl (by kernel_rfl) ?_
        simp only [go_sem, simprocAttr, hw]
        repeat refine kn rfl ?_
        refine k_nil ?_
        refine ⟨by omega, fun k' hk' hle => ?_, ?_⟩
        · rcases Nat.lt_or_ge k k' with h6 | h6
          · exact hq k' hk' (by omega)
          · have : k' = k := by omega
            subst this; exact h5
        · have hj' : out.length - (r + 1) = k := by omega
          refine AWk_kept ?_ ?_ ?_ ?_ <;> repeat' first | exact trivial | refine q0 ?_ | exact qb | exact q1 | exact q2 | exact q3 | exact rfl | refine And.intro ?_ ?_ | exact q4 | exact q5 | exact q6 | exact q7 | exact Inside.ptr _ _ _ (.inr ⟨rfl, rfl⟩) | exact q8 | exact q9 | exact qd | exact Tm.ins _ | exact Tm.inss _ _ | exact Am.ins _ | exact Am.inss _ _ | refine ins_buf_str ?_ | refine Tm.ins_buf ?_ | refine Am.ins_buf ?_ | exact qf
          all_goals first | exact insM rfl | exact insFS _ | exact allFS _ | exact Sg.inss _ _ | skip
          · simp only [go_sem, simprocAttr, hj']
            exact .refl _
          · rw [hj']
            simp only [go_sem, simprocAttr]
  · repeat refine kn rfl ?_
    refine k_region tok rfl (by kernel_rfl) ?_
    simp only [go_sem, simprocAttr, Nat.not_lt.2 h]
    repeat refine kn rfl ?_
    refine k_cond_f rfl (by simp only [go_sem, simprocAttr]) ?_
    repeat refine kn rfl ?_
    refine k_exit_round rfl rfl rfl ?_
    have hi' : i = l.length := by omega
    subst hi'
    repeat refine kn rfl ?_
    refine k_region tok rfl (by kernel_rfl) ?_
    simp only [go_sem, simprocAttr]
    rw [List.take_length] at ho
    rw [ho]
    refine k_weak (AWk_freeze_mbuf (tm' := [(2, .sl 2 (out.map Sg.enc) .any)]) (j := 200) (out.map Sg.enc) rfl (fl_flat Sg.cs Sg.enc (fun _ => rfl) out) (by rw [List.length_map]) (fun x hx => ?_) (allFS out).mem (fun p hp => ?_) (fun p hp => ?_)) ?_
    · obtain ⟨u, _, rfl⟩ := List.mem_map.1 hx; rfl
    · simp only [List.mem_singleton] at hp; subst hp
      exact .inr ⟨2, rfl, rfl⟩
    · simp [delb] at hp
    repeat refine kn rfl ?_
    refine k_ret rfl ?_
    exact post_one (.refl _) (below_sgs _) rfl
end Go.Proofs.YtpoegdhgdgbmaaaGreatDoorR

/- The reference's store: all predicates. -/
namespace Go.Proofs.YtpoegdhgdgbmaaaGreatDoorR
open Go.Abs
set_option maxRecDepth 100000

def st74 (n : Nat) (l : List Am) (H : AHeap) (i : Nat) : AState :=
  ⟨[(4, .int .i64 i), (3, .sl 2 (((l.take i).map Am.sg).map Sg.enc) (.buf n 200)), (0, .sl 2 (l.map Am.enc) .any)], [(200, .buf 49 2 i)], H⟩

theorem a74 (l : List Am) (hl : l.length ≤ 1000000) : PureT Tryz.prog 74 [.sl 2 (l.map Am.enc) .any] (.sl 2 ((sortD (l.map Am.sg)).map Sg.enc) .any) := by
  intro n H hn hT
  refine a_fun tok (fun_of Tryz.func74 rfl rfl) (by simp) fun B => ?_
  repeat refine kn rfl ?_
  refine k_region tok rfl (by kernel_rfl) ?_
  simp only [go_sem, simprocAttr]
  repeat refine kn rfl ?_
  refine k_region tok rfl (by kernel_rfl) ?_
  simp only [go_sem, simprocAttr]
  repeat refine kn rfl ?_
  refine k_region tok rfl (by kernel_rfl) ?_
  simp only [go_sem, simprocAttr]
  repeat refine kn rfl ?_
  refine k_adopt 3 200 49 2 rfl rfl ?_
  refine k_loop_ix (st74 n l H) l.length rfl ?_ ?_
  · refine AWk_kept ?_ ?_ ?_ ?_ <;> repeat' first | exact trivial | refine q0 ?_ | exact qb | exact q1 | exact q2 | exact q3 | exact rfl | refine And.intro ?_ ?_ | exact q4 | exact q5 | exact q6 | exact q7 | exact Inside.ptr _ _ _ (.inr ⟨rfl, rfl⟩) | exact q8 | exact q9 | exact qd | exact Tm.ins _ | exact Tm.inss _ _ | exact Am.ins _ | exact Am.inss _ _ | refine ins_buf_str ?_ | refine Tm.ins_buf ?_ | refine Am.ins_buf ?_ | exact qf
    all_goals exact Sg.ins_buf rfl
  intro i hi
  refine k_st rfl ?_
  have hmin : (l.take i).length = i := List.length_take_of_le hi
  rcases Nat.lt_or_ge i l.length with h | h
  · repeat refine kn rfl ?_
    refine k_region tok rfl (by kernel_rfl) ?_
    simp only [go_sem, simprocAttr, h]
    repeat refine kn rfl ?_
    refine k_cond_t rfl (by simp only [go_sem, simprocAttr]) ?_
    repeat refine kn rfl ?_
    refine k_region tok rfl (by kernel_rfl) ?_
    simp only [go_sem, simprocAttr, Am.getD_enc _ _ h, h]
    refine callP (fun_of Tryz.func109 rfl rfl) (a109 l[i]) (by simp only [go_sem, simprocAttr, hmin]) ?_
    simp only [go_sem, simprocAttr, hmin]
    refine ⟨by first | exact ⟨rfl, by decide⟩ | exact rfl, ⟨le_maxLen (by omega), by omega⟩, ?_⟩
    repeat refine kn rfl ?_
    refine k_region tok rfl (by kernel_rfl) ?_
    simp only [go_sem, simprocAttr, hmin]
    repeat refine kn rfl ?_
    refine k_nil ?_
    refine AWk_kept ?_ ?_ ?_ ?_ <;> repeat' first | exact trivial | refine q0 ?_ | exact qb | exact q1 | exact q2 | exact q3 | exact rfl | refine And.intro ?_ ?_ | exact q4 | exact q5 | exact q6 | exact q7 | exact Inside.ptr _ _ _ (.inr ⟨rfl, rfl⟩) | exact q8 | exact q9 | exact qd | exact Tm.ins _ | exact Tm.inss _ _ | exact Am.ins _ | exact Am.inss _ _ | refine ins_buf_str ?_ | refine Tm.ins_buf ?_ | refine Am.ins_buf ?_ | exact qf
    · simp only [go_sem, simprocAttr]
      rw [IntWalk.i64_in _ (by omega)]; exact .refl _
    · simp only [go_sem, simprocAttr, List.take_succ_eq_append_getElem h, List.map_append]
      exact .refl _
    all_goals first | exact Sg.ins_buf rfl | skip
    all_goals simp only [go_sem, simprocAttr, hmin]
  · repeat refine kn rfl ?_
    refine k_region tok rfl (by kernel_rfl) ?_
    simp only [go_sem, simprocAttr, Nat.not_lt.2 h]
    repeat refine kn rfl ?_
    refine k_cond_f rfl (by simp only [go_sem, simprocAttr]) ?_
    repeat refine kn rfl ?_
    refine k_exit_round rfl rfl rfl ?_
    have hi' : i = l.length := by omega
    subst hi'
    rw [List.take_length]
    repeat refine kn rfl ?_
    refine k_weak (s' := ⟨[(3, .sl 2 ((l.map Am.sg).map Sg.enc) .any)], [], H⟩) ?_ ?_
    · refine AWk_kept ?_ ?_ ?_ ?_ <;> repeat' first | exact trivial | refine q0 ?_ | exact qb | exact q1 | exact q2 | exact q3 | exact rfl | refine And.intro ?_ ?_ | exact q4 | exact q5 | exact q6 | exact q7 | exact Inside.ptr _ _ _ (.inr ⟨rfl, rfl⟩) | exact q8 | exact q9 | exact qd | exact Tm.ins _ | exact Tm.inss _ _ | exact Am.ins _ | exact Am.inss _ _ | refine ins_buf_str ?_ | refine Tm.ins_buf ?_ | refine Am.ins_buf ?_ | exact qf
      all_goals exact Sg.inss _ _
    repeat refine kn rfl ?_
    refine k_region tok rfl (by kernel_rfl) ?_
    simp only [go_sem, simprocAttr]
    refine callT (fun_of Tryz.func110 rfl rfl) (a110 (l.map Am.sg) (by simp; omega)) hn hT (by simp only [go_sem, simprocAttr]) ?_
    simp only [go_sem, simprocAttr]
    repeat refine kn rfl ?_
    refine k_ret rfl ?_
    exact post_one (.refl _) (below_sgs _) rfl
end Go.Proofs.YtpoegdhgdgbmaaaGreatDoorR

/- Sizes of terms and atoms of any size. -/
namespace Go.Proofs.YtpoegdhgdgbmaaaGreatDoorR
open Go.Abs
set_option maxRecDepth 100000

/-- A size, cut off behind a limit. -/
def cutN (n : Nat) (m : Int) : Int := if (n : Int) ≤ m then n else m + 1

theorem szs_take (l : List Tm) (i : Nat) (h : i < l.length) : Tm.sz.szs (l.take (i + 1)) = Tm.sz.szs (l.take i) + l[i].sz := by
  have : ∀ p q : List Tm, Tm.sz.szs (p ++ q) = Tm.sz.szs p + Tm.sz.szs q := by
    intro p q
    induction p with
    | nil => simp [Tm.sz.szs]
    | cons x p ih => simp only [List.cons_append, Tm.sz.szs, ih]; omega
  rw [List.take_succ_eq_append_getElem h, this]
  simp [Tm.sz.szs]

theorem szs_take_le (l : List Tm) (i : Nat) : Tm.sz.szs (l.take i) ≤ Tm.sz.szs l := by
  have : ∀ p q : List Tm, Tm.sz.szs (p ++ q) = Tm.sz.szs p + Tm.sz.szs q := by
    intro p q
    induction p with
    | nil => simp [Tm.sz.szs]
    | cons x p ih => simp only [List.cons_append, Tm.sz.szs, ih]; omega
  have h := this (l.take i) (l.drop i)
  rw [List.take_append_drop] at h
  omega

def st39 (l : List Tm) (m : Int) (H : AHeap) (i : Nat) : AState :=
  ⟨[(6, .int .i64 i), (5, .int .i64 (cutN (Tm.sz.szs (l.take i)) m)), (0, .sl 4 (l.map Tm.enc) .any), (1, .int .i64 m)], [], H⟩

theorem a39 (l : List Tm) (m : Int) (h0 : -1 ≤ m) (h1 : m ≤ 1000000) (hc : ∀ t ∈ l, ∀ m : Int, 0 ≤ m → m ≤ 1000000 → Pure Tryz.prog 11 [t.enc, .int .i64 m] (.int .i64 (cutN t.sz m))) : Pure Tryz.prog 39 [.sl 4 (l.map Tm.enc) .any, .int .i64 m] (.int .i64 (cutN (Tm.sz.szs l) m)) := by
  intro n H
  refine a_fun tok (fun_of Tryz.func39 rfl rfl) (by simp) fun B => ?_
  repeat refine kn rfl ?_
  refine k_region tok rfl (by kernel_rfl) ?_
  simp only [go_sem, simprocAttr]
  repeat refine kn rfl ?_
  refine k_region tok rfl (by kernel_rfl) ?_
  simp only [go_sem, simprocAttr]
  repeat refine kn rfl ?_
  refine k_region tok rfl (by kernel_rfl) ?_
  simp only [go_sem, simprocAttr]
  repeat refine kn rfl ?_
  refine k_loop_ix (st39 l m H) l.length rfl ?_ ?_
  · refine AWk_kept ?_ ?_ ?_ ?_ <;> repeat' first | exact trivial | refine q0 ?_ | exact qb | exact q1 | exact q2 | exact q3 | exact rfl | refine And.intro ?_ ?_ | exact q4 | exact q5 | exact q6 | exact q7 | exact Inside.ptr _ _ _ (.inr ⟨rfl, rfl⟩) | exact q8 | exact q9 | exact qd | exact Tm.ins _ | exact Tm.inss _ _ | exact Am.ins _ | exact Am.inss _ _ | refine ins_buf_str ?_ | refine Tm.ins_buf ?_ | refine Am.ins_buf ?_ | exact qf
    simp only [List.take_zero, Tm.sz.szs, cutN, lkv]
    simp only [go_sem, simprocAttr]
    split
    · exact .refl _
    · rw [(by omega : m + 1 = 0)]; exact .refl _
  intro i hi
  refine k_st rfl ?_
  rcases Nat.lt_or_ge i l.length with h | h
  · rcases Int.lt_or_le m (Tm.sz.szs (l.take i)) with h2 | h2
    · have e : cutN (Tm.sz.szs (l.take i)) m = m + 1 := by rw [cutN, if_neg (by omega)]
      have hle : decide (m + 1 ≤ m) = false := by rw [decide_eq_false_iff_not]; omega
      repeat refine kn rfl ?_
      refine k_region tok rfl (by kernel_rfl) ?_
      simp only [go_sem, simprocAttr, h, e, hle]
      repeat refine kn rfl ?_
      refine k_cond_f rfl (by simp only [go_sem, simprocAttr]) ?_
      repeat refine kn rfl ?_
      refine k_exit_round rfl rfl rfl ?_
      repeat refine kn rfl ?_
      refine k_region tok rfl (by kernel_rfl) ?_
      simp only [go_sem, simprocAttr]
      repeat refine kn rfl ?_
      refine k_ret rfl ?_
      refine post_one ?_ (.int _ _) rfl
      have := szs_take_le l i
      rw [cutN, if_neg (by omega)]
      simp only [go_sem, simprocAttr, e]
      exact .refl _
    · have e : cutN (Tm.sz.szs (l.take i)) m = (Tm.sz.szs (l.take i) : Int) := by rw [cutN, if_pos h2]
      have hlen := Tm.sz_len (l.take i)
      rw [List.length_take_of_le hi] at hlen
      have hw : IntKind.i64.wrap (m - (Tm.sz.szs (l.take i) : Int)) = m - (Tm.sz.szs (l.take i) : Int) := IntWalk.i64_in _ (by omega)
      repeat refine kn rfl ?_
      refine k_region tok rfl (by kernel_rfl) ?_
      simp only [go_sem, simprocAttr, h, e, h2]
      repeat refine kn rfl ?_
      refine k_cond_t rfl (by simp only [go_sem, simprocAttr]) ?_
      repeat refine kn rfl ?_
      refine k_region tok rfl (by kernel_rfl) ?_
      simp only [go_sem, simprocAttr, Tm.getD_enc _ _ h, h, e, hw]
      refine callP (fun_of Tryz.func11 rfl rfl) (hc l[i] (List.getElem_mem h) (m - (Tm.sz.szs (l.take i) : Int)) (by omega) (by omega)) (by simp only [go_sem, simprocAttr, hw]) ?_
      simp only [go_sem, simprocAttr, hw]
      repeat refine kn rfl ?_
      refine k_region tok rfl (by kernel_rfl) ?_
      simp only [go_sem, simprocAttr]
      repeat refine kn rfl ?_
      refine k_nil ?_
      have hn : (Tm.sz.szs (l.take i) : Int) + cutN l[i].sz (m - (Tm.sz.szs (l.take i) : Int)) = cutN (Tm.sz.szs (l.take (i + 1))) m := by
        rw [szs_take l i h]
        unfold cutN
        split <;> split <;> omega
      have hb : cutN (Tm.sz.szs (l.take (i + 1))) m ≤ m + 1 ∧ 0 ≤ cutN (Tm.sz.szs (l.take (i + 1))) m := by unfold cutN; split <;> omega
      refine AWk_kept ?_ ?_ ?_ ?_ <;> repeat' first | exact trivial | refine q0 ?_ | exact qb | exact q1 | exact q2 | exact q3 | exact rfl | refine And.intro ?_ ?_ | exact q4 | exact q5 | exact q6 | exact q7 | exact Inside.ptr _ _ _ (.inr ⟨rfl, rfl⟩) | exact q8 | exact q9 | exact qd | exact Tm.ins _ | exact Tm.inss _ _ | exact Am.ins _ | exact Am.inss _ _ | refine ins_buf_str ?_ | refine Tm.ins_buf ?_ | refine Am.ins_buf ?_ | exact qf
      · simp only [go_sem, simprocAttr]
        rw [IntWalk.i64_in _ (by omega)]; exact .refl _
      · simp only [go_sem, simprocAttr]
        rw [hn, IntWalk.i64_in _ (by omega)]; exact .refl _
  · repeat refine kn rfl ?_
    refine k_region tok rfl (by kernel_rfl) ?_
    simp only [go_sem, simprocAttr, Nat.not_lt.2 h]
    repeat refine kn rfl ?_
    refine k_cond_f rfl (by simp only [go_sem, simprocAttr]) ?_
    repeat refine kn rfl ?_
    refine k_exit_round rfl rfl rfl ?_
    have hi' : i = l.length := by omega
    subst hi'
    repeat refine kn rfl ?_
    refine k_region tok rfl (by kernel_rfl) ?_
    simp only [go_sem, simprocAttr, List.take_length]
    repeat refine kn rfl ?_
    refine k_ret rfl ?_
    exact post_one (.refl _) (.int _ _) rfl

theorem a11 (t : Tm) (m : Int) (h0 : 0 ≤ m) (h1 : m ≤ 1000000) : Pure Tryz.prog 11 [t.enc, .int .i64 m] (.int .i64 (cutN t.sz m)) := by
  intro n H
  have hw : IntKind.i64.wrap (m - 1) = m - 1 := IntWalk.i64_in _ (by omega)
  have hc : cutN t.sz m = 1 + cutN (Tm.sz.szs t.args) (m - 1) := by rw [Tm.sz_eq]; unfold cutN; split <;> split <;> omega
  have hb : cutN (Tm.sz.szs t.args) (m - 1) ≤ m ∧ 0 ≤ cutN (Tm.sz.szs t.args) (m - 1) := by unfold cutN; split <;> omega
  refine a_fun tok (fun_of Tryz.func11 rfl rfl) (by simp) fun B => ?_
  repeat refine kn rfl ?_
  refine k_region tok rfl (by kernel_rfl) ?_
  simp only [go_sem, simprocAttr]
  repeat refine kn rfl ?_
  refine k_region tok rfl (by kernel_rfl) ?_
  simp only [go_sem, simprocAttr, hw]
  refine callP (fun_of Tryz.func39 rfl rfl) (a39 t.args (m - 1) (by omega) (by omega) (fun u hu m' h0' h1' => a11 u m' h0' h1')) (by simp only [go_sem, simprocAttr, hw]) ?_
  simp only [go_sem, simprocAttr, hw]
  repeat refine kn rfl ?_
  refine k_ret rfl ?_
  refine post_one ?_ (.int _ _) rfl
  simp only [go_sem, simprocAttr]
  rw [hc, IntWalk.i64_in _ (by omega)]
  exact .refl _
termination_by SizeOf.sizeOf t
decreasing_by exact Tm.size_lt hu

theorem a38 (t : Am) (m : Int) (h0 : 0 ≤ m) (h1 : m ≤ 1000000) : Pure Tryz.prog 38 [t.enc, .int .i64 m] (.int .i64 (cutN t.sz m)) := by
  intro n H
  have hw : IntKind.i64.wrap (m - 1) = m - 1 := IntWalk.i64_in _ (by omega)
  have hc : cutN t.sz m = 1 + cutN (Tm.sz.szs t.args) (m - 1) := by unfold Am.sz cutN; split <;> split <;> omega
  have hb : cutN (Tm.sz.szs t.args) (m - 1) ≤ m ∧ 0 ≤ cutN (Tm.sz.szs t.args) (m - 1) := by unfold cutN; split <;> omega
  refine a_fun tok (fun_of Tryz.func38 rfl rfl) (by simp) fun B => ?_
  repeat refine kn rfl ?_
  refine k_region tok rfl (by kernel_rfl) ?_
  simp only [go_sem, simprocAttr]
  repeat refine kn rfl ?_
  refine k_region tok rfl (by kernel_rfl) ?_
  simp only [go_sem, simprocAttr, hw]
  refine callP (fun_of Tryz.func39 rfl rfl) (a39 t.args (m - 1) (by omega) (by omega) (fun u hu m' h0' h1' => a11 u m' h0' h1')) (by simp only [go_sem, simprocAttr, hw]) ?_
  simp only [go_sem, simprocAttr, hw]
  repeat refine kn rfl ?_
  refine k_ret rfl ?_
  refine post_one ?_ (.int _ _) rfl
  simp only [go_sem, simprocAttr]
  rw [hc, IntWalk.i64_in _ (by omega)]
  exact .refl _

/-- The sizes of a list's atoms. -/
def szA : List Am → Nat
  | [] => 0
  | a :: r => a.sz + szA r

theorem szA_append : ∀ p q : List Am, szA (p ++ q) = szA p + szA q
  | [], q => by simp [szA]
  | a :: p, q => by rw [List.cons_append, szA, szA, szA_append p q]; omega
theorem szA_take (l : List Am) (i : Nat) (h : i < l.length) : szA (l.take (i + 1)) = szA (l.take i) + l[i].sz := by
  rw [List.take_succ_eq_append_getElem h, szA_append]; simp [szA]
theorem szA_take_le (l : List Am) (i : Nat) : szA (l.take i) ≤ szA l := by
  have h := szA_append (l.take i) (l.drop i)
  rw [List.take_append_drop] at h
  omega
theorem szA_len : ∀ l : List Am, l.length ≤ szA l
  | [] => Nat.le_refl _
  | a :: l => by have := szA_len l; simp only [List.length_cons, szA, Am.sz]; omega

/-- Too many atoms, or too large ones. -/
def great (l : List Am) : Bool := decide (150 < l.length) || decide (2000 < szA l)

def st10 (l : List Am) (H : AHeap) (i : Nat) : AState :=
  ⟨[(4, .int .i64 i), (3, .int .i64 (cutN (szA (l.take i)) 2000)), (0, .sl 2 (l.map Am.enc) .any)], [], H⟩

theorem a10 (l : List Am) : Pure Tryz.prog 10 [.sl 2 (l.map Am.enc) .any] (.bool (great l)) := by
  intro n H
  refine a_fun tok (fun_of Tryz.func10 rfl rfl) (by simp) fun B => ?_
  repeat refine kn rfl ?_
  refine k_region tok rfl (by kernel_rfl) ?_
  simp only [go_sem, simprocAttr]
  repeat refine kn rfl ?_
  refine k_region tok rfl (by kernel_rfl) ?_
  simp only [go_sem, simprocAttr]
  repeat refine kn rfl ?_
  refine k_region tok rfl (by kernel_rfl) ?_
  simp only [go_sem, simprocAttr]
  refine k_cut ⟨[(3, .int .i64 (cutN (szA l) 2000)), (0, .sl 2 (l.map Am.enc) .any)], [], H⟩ ?_ ?_
  · repeat refine kn rfl ?_
    refine k_loop_ix (st10 l H) l.length rfl ?_ ?_
    · refine AWk_kept ?_ ?_ ?_ ?_ <;> repeat' first | exact trivial | refine q0 ?_ | exact qb | exact q1 | exact q2 | exact q3 | exact rfl | refine And.intro ?_ ?_ | exact q4 | exact q5 | exact q6 | exact q7 | exact Inside.ptr _ _ _ (.inr ⟨rfl, rfl⟩) | exact q8 | exact q9 | exact qd | exact Tm.ins _ | exact Tm.inss _ _ | exact Am.ins _ | exact Am.inss _ _ | refine ins_buf_str ?_ | refine Tm.ins_buf ?_ | refine Am.ins_buf ?_ | exact qf
    intro i hi
    refine k_st rfl ?_
    rcases Nat.lt_or_ge i l.length with h | h
    · rcases Int.lt_or_le 2000 (szA (l.take i)) with h2 | h2
      · have e : cutN (szA (l.take i)) 2000 = 2001 := by rw [cutN, if_neg (by omega)]; rfl
        repeat refine kn rfl ?_
        refine k_region tok rfl (by kernel_rfl) ?_
        simp only [go_sem, simprocAttr, h, e]
        repeat refine kn rfl ?_
        refine k_cond_f rfl (by simp only [go_sem, simprocAttr]) ?_
        repeat refine kn rfl ?_
        refine k_exit_round rfl rfl rfl ?_
        repeat refine kn rfl ?_
        refine k_nil ?_
        refine ⟨rfl, ?_⟩
        have := szA_take_le l i
        refine AWk_kept ?_ ?_ ?_ ?_ <;> repeat' first | exact trivial | refine q0 ?_ | exact qb | exact q1 | exact q2 | exact q3 | exact rfl | refine And.intro ?_ ?_ | exact q4 | exact q5 | exact q6 | exact q7 | exact Inside.ptr _ _ _ (.inr ⟨rfl, rfl⟩) | exact q8 | exact q9 | exact qd | exact Tm.ins _ | exact Tm.inss _ _ | exact Am.ins _ | exact Am.inss _ _ | refine ins_buf_str ?_ | refine Tm.ins_buf ?_ | refine Am.ins_buf ?_ | exact qf
        simp only [go_sem, simprocAttr, e]
        rw [cutN, if_neg (by omega)]
        exact .refl _
      · have e : cutN (szA (l.take i)) 2000 = (szA (l.take i) : Int) := by rw [cutN, if_pos h2]
        have hlen := szA_len (l.take i)
        rw [List.length_take_of_le hi] at hlen
        have hw : IntKind.i64.wrap (2000 - (szA (l.take i) : Int)) = 2000 - (szA (l.take i) : Int) := IntWalk.i64_in _ (by omega)
        repeat refine kn rfl ?_
        refine k_region tok rfl (by kernel_rfl) ?_
        simp only [go_sem, simprocAttr, h, e, h2]
        repeat refine kn rfl ?_
        refine k_cond_t rfl (by simp only [go_sem, simprocAttr]) ?_
        repeat refine kn rfl ?_
        refine k_region tok rfl (by kernel_rfl) ?_
        simp only [go_sem, simprocAttr, Am.getD_enc _ _ h, h, e, hw]
        refine callP (fun_of Tryz.func38 rfl rfl) (a38 l[i] (2000 - (szA (l.take i) : Int)) (by omega) (by omega)) (by simp only [go_sem, simprocAttr, hw]) ?_
        simp only [go_sem, simprocAttr, hw]
        repeat refine kn rfl ?_
        refine k_region tok rfl (by kernel_rfl) ?_
        simp only [go_sem, simprocAttr]
        repeat refine kn rfl ?_
        refine k_nil ?_
        have hn : (szA (l.take i) : Int) + cutN l[i].sz (2000 - (szA (l.take i) : Int)) = cutN (szA (l.take (i + 1))) 2000 := by
          rw [szA_take l i h]
          unfold cutN
          split <;> split <;> omega
        have hb : cutN (szA (l.take (i + 1))) 2000 ≤ 2001 ∧ 0 ≤ cutN (szA (l.take (i + 1))) 2000 := by unfold cutN; split <;> omega
        refine AWk_kept ?_ ?_ ?_ ?_ <;> repeat' first | exact trivial | refine q0 ?_ | exact qb | exact q1 | exact q2 | exact q3 | exact rfl | refine And.intro ?_ ?_ | exact q4 | exact q5 | exact q6 | exact q7 | exact Inside.ptr _ _ _ (.inr ⟨rfl, rfl⟩) | exact q8 | exact q9 | exact qd | exact Tm.ins _ | exact Tm.inss _ _ | exact Am.ins _ | exact Am.inss _ _ | refine ins_buf_str ?_ | refine Tm.ins_buf ?_ | refine Am.ins_buf ?_ | exact qf
        · simp only [go_sem, simprocAttr]
          rw [IntWalk.i64_in _ (by omega)]; exact .refl _
        · simp only [go_sem, simprocAttr]
          rw [hn, IntWalk.i64_in _ (by omega)]; exact .refl _
    · repeat refine kn rfl ?_
      refine k_region tok rfl (by kernel_rfl) ?_
      simp only [go_sem, simprocAttr, Nat.not_lt.2 h]
      repeat refine kn rfl ?_
      refine k_cond_f rfl (by simp only [go_sem, simprocAttr]) ?_
      repeat refine kn rfl ?_
      refine k_exit_round rfl rfl rfl ?_
      repeat refine kn rfl ?_
      refine k_nil ?_
      have hi' : i = l.length := by omega
      subst hi'
      refine ⟨rfl, ?_⟩
      refine AWk_kept ?_ ?_ ?_ ?_ <;> repeat' first | exact trivial | refine q0 ?_ | exact qb | exact q1 | exact q2 | exact q3 | exact rfl | refine And.intro ?_ ?_ | exact q4 | exact q5 | exact q6 | exact q7 | exact Inside.ptr _ _ _ (.inr ⟨rfl, rfl⟩) | exact q8 | exact q9 | exact qd | exact Tm.ins _ | exact Tm.inss _ _ | exact Am.ins _ | exact Am.inss _ _ | refine ins_buf_str ?_ | refine Tm.ins_buf ?_ | refine Am.ins_buf ?_ | exact qf
      simp only [go_sem, simprocAttr, List.take_length]
      exact .refl _
  refine k_st rfl ?_
  have hg : great l = (decide ((150 : Int) < (l.length : Int)) || decide ((2000 : Int) < cutN (szA l) 2000)) := by
    unfold great cutN
    rw [Bool.eq_iff_iff]
    simp only [Bool.or_eq_true, decide_eq_true_eq]
    split <;> omega
  cases h1 : decide ((150 : Int) < (l.length : Int)) with
  | true =>
    rw [h1] at hg
    repeat refine kn rfl ?_
    refine k_region tok rfl (by kernel_rfl) ?_
    simp only [go_sem, simprocAttr, h1]
    repeat refine kn rfl ?_
    refine k_ret rfl ?_
    refine post_one ?_ (.bool _) rfl
    try simp only [go_sem, simprocAttr, hg, Bool.true_or]
    exact .refl _
  | false =>
    rw [h1] at hg
    repeat refine kn rfl ?_
    refine k_region tok rfl (by kernel_rfl) ?_
    simp only [go_sem, simprocAttr, h1]
    repeat refine kn rfl ?_
    refine k_ret rfl ?_
    refine post_one ?_ (.bool _) rfl
    try simp only [go_sem, simprocAttr, hg, Bool.false_or]
    exact .refl _
end Go.Proofs.YtpoegdhgdgbmaaaGreatDoorR
