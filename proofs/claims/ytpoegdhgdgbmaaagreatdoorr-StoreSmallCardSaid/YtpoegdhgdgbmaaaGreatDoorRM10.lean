/- Names, as the program says it. -/
import Derived.Test.YtpoegdhgdgbmaaaGreatDoorRM09
import Derived.Test.YtpoegdhgdgbmaaaGreatDoorRM08
import Derived.Shelf.Strings.OnBuilder
import Derived.Shelf.Small.Strs
import Derived.Shelf.LaysM
import Derived.Shelf.Strconv.Itoa3
import Derived.Shelf.Strings.Search3
import Derived.Ground.Names2Prog
import Derived.Shelf.Slices.SearchI
import Derived.KernelRfl
import Derived.Test.YtpoegdhgdgbmaaaGreatDoorRProg
set_option linter.all false
namespace Go.Proofs.YtpoegdhgdgbmaaaGreatDoorR
open Go.Abs
set_option maxRecDepth 100000

def st156 (s : List UInt8) (H : AHeap) (i : Nat) : AState := ⟨[(0, .str (s.drop i)), (1, .int .u8 95)], [], H⟩

theorem bt_drop (s : List UInt8) (i j : Nat) : bt (s.drop i) j = bt s (i + j) := by
  simp [bt, List.getD_eq_getElem?_getD, List.getElem?_drop]

theorem a156 (s : List UInt8) : Pure Tryz.prog 156 [.str s, .int .u8 95] (.str (s.drop (und s))) := by
  intro n H
  have hu := und_le s
  refine a_fun tok (fun_of Tryz.func156 rfl rfl) (by simp) fun B => ?_
  repeat refine kn rfl ?_
  refine k_region tok rfl (by kernel_rfl) ?_
  simp only [go_sem, simprocAttr]
  repeat refine kn rfl ?_
  refine k_loop_ix (st156 s H) (und s) rfl ?_ ?_
  · refine AWk_kept ?_ ?_ ?_ ?_ <;> repeat' first | exact trivial | refine q0 ?_ | exact qb | exact q1 | exact q2 | exact q3 | exact rfl | refine And.intro ?_ ?_ | exact q4 | exact q5 | exact q6 | exact q7 | exact Inside.ptr _ _ _ (.inr ⟨rfl, rfl⟩) | exact q8 | exact q9 | exact qd | exact Tm.ins _ | exact Tm.inss _ _ | exact Am.ins _ | exact Am.inss _ _ | refine ins_buf_str ?_ | refine Tm.ins_buf ?_ | refine Am.ins_buf ?_ | exact qf
  intro i hi
  refine k_st rfl ?_
  have hlen : (s.drop i).length = s.length - i := List.length_drop
  have hb0 : bt (s.drop i) 0 = bt s i := bt_drop s i 0
  rcases Nat.lt_or_ge i (und s) with h | h
  · have h1 : (decide (0 < ((s.drop i).length : Int))) = true := by rw [hlen]; simp; omega
    have h2 : (0 : Int) < ((s.drop i).length : Int) := by rw [hlen]; omega
    have h3 : (bt (s.drop i) 0 == 95) = true := by rw [hb0]; exact und_lt h
    repeat refine kn rfl ?_
    refine k_region tok rfl (by kernel_rfl) ?_
    simp only [go_sem, simprocAttr, h1, h2, h3]
    repeat refine kn rfl ?_
    refine k_cond_t rfl (by simp only [go_sem, simprocAttr]) ?_
    repeat refine kn rfl ?_
    refine k_region tok rfl (by kernel_rfl) ?_
    simp only [go_sem, simprocAttr, List.take_length]
    refine ⟨by omega, ?_⟩
    repeat refine kn rfl ?_
    refine k_nil ?_
    refine ⟨h, ?_⟩
    refine AWk_kept ?_ ?_ ?_ ?_ <;> repeat' first | exact trivial | refine q0 ?_ | exact qb | exact q1 | exact q2 | exact q3 | exact rfl | refine And.intro ?_ ?_ | exact q4 | exact q5 | exact q6 | exact q7 | exact Inside.ptr _ _ _ (.inr ⟨rfl, rfl⟩) | exact q8 | exact q9 | exact qd | exact Tm.ins _ | exact Tm.inss _ _ | exact Am.ins _ | exact Am.inss _ _ | refine ins_buf_str ?_ | refine Tm.ins_buf ?_ | refine Am.ins_buf ?_ | exact qf
    simp only [go_sem, simprocAttr, List.drop_drop, Nat.add_comm]
    exact .refl _
  · have hi : i = und s := by omega
    subst hi
    have fin : ∀ tm, lkv tm 0 = .str (s.drop (und s)) → AKc (cxP Tryz.prog ⟨none, B⟩ n Tryz.f156.ntmps) [.code (bodyOf Tryz.f156).snd.snd] (PostF Tryz.prog tt n Tryz.f156.results.toList fun r' H' => r' = .str (s.drop (und s)) ∧ H' = H) ⟨tm, [], H⟩ := by
      intro tm htm
      repeat refine kn rfl ?_
      refine k_region tok rfl (by kernel_rfl) ?_
      simp only [go_sem, simprocAttr, htm]
      repeat refine kn rfl ?_
      refine k_ret rfl ?_
      refine post_one ?_ (.str _) rfl
      simp only [go_sem, simprocAttr]
      exact .refl _
    rcases Nat.lt_or_ge (und s) s.length with hl | hl
    · have h1 : (decide (0 < ((s.drop (und s)).length : Int))) = true := by rw [hlen]; simp; omega
      have h2 : (0 : Int) < ((s.drop (und s)).length : Int) := by rw [hlen]; omega
      have h3 : (bt (s.drop (und s)) 0 == 95) = false := by rw [hb0]; exact und_at hl
      repeat refine kn rfl ?_
      refine k_region tok rfl (by kernel_rfl) ?_
      simp only [go_sem, simprocAttr, h1, h2, h3]
      repeat refine kn rfl ?_
      refine k_cond_f rfl (by simp only [go_sem, simprocAttr]) ?_
      refine k_exit_round rfl rfl rfl (fin _ ?_)
      simp only [go_sem, simprocAttr]
    · have h1 : (decide (0 < ((s.drop (und s)).length : Int))) = false := by rw [hlen]; simp; omega
      repeat refine kn rfl ?_
      refine k_region tok rfl (by kernel_rfl) ?_
      simp only [go_sem, simprocAttr, h1]
      repeat refine kn rfl ?_
      refine k_cond_f rfl (by simp only [go_sem, simprocAttr]) ?_
      refine k_exit_round rfl rfl rfl (fin _ ?_)
      simp only [go_sem, simprocAttr]
theorem a112 (s : List UInt8) : Pure Tryz.prog 112 [.str s, .str [95]] (.str (s.drop (und s))) := by
  intro n H
  refine a_fun tok (fun_of Tryz.func112 rfl rfl) (by simp) fun B => ?_
  repeat refine kn rfl ?_
  refine k_region tok rfl (by kernel_rfl) ?_
  simp only [go_sem, simprocAttr]
  cases h : s.isEmpty with
  | true =>
    have : s = [] := by simpa using h
    subst this
    repeat refine kn rfl ?_
    refine k_region tok rfl (by kernel_rfl) ?_
    simp only [go_sem, simprocAttr, List.beq_nil_eq, List.isEmpty_nil]
    repeat refine kn rfl ?_
    refine k_cond_t rfl (by simp only [go_sem, simprocAttr]) ?_
    repeat refine kn rfl ?_
    refine k_region tok rfl (by kernel_rfl) ?_
    simp only [go_sem, simprocAttr]
    repeat refine kn rfl ?_
    refine k_ret rfl ?_
    refine post_one ?_ (.str _) rfl
    simp only [go_sem, simprocAttr]
    exact .refl _
  | false =>
    repeat refine kn rfl ?_
    refine k_region tok rfl (by kernel_rfl) ?_
    simp only [go_sem, simprocAttr, h, List.beq_nil_eq, List.isEmpty_cons]
    repeat refine kn rfl ?_
    refine k_cond_f rfl (by simp only [go_sem, simprocAttr]) ?_
    repeat refine kn rfl ?_
    refine k_region tok rfl (by kernel_rfl) ?_
    simp only [go_sem, simprocAttr]
    repeat refine kn rfl ?_
    refine k_cond_t rfl (by simp only [go_sem, simprocAttr]) ?_
    repeat refine kn rfl ?_
    refine k_region tok rfl (by kernel_rfl) ?_
    simp only [go_sem, simprocAttr]
    refine callP (fun_of Tryz.func156 rfl rfl) (a156 s) (by simp only [go_sem, simprocAttr]) ?_
    simp only [go_sem, simprocAttr]
    repeat refine kn rfl ?_
    refine k_ret rfl ?_
    exact post_one (.refl _) (.str _) rfl

/-- A function value over bytes. -/
def ClassIs (f : Nat) (p : Int → Bool) : Prop := (∃ fn c, Fun Tryz.prog f fn c) ∧ ∀ b : Int, Pure Tryz.prog f [.int .u8 b] (.bool (p b))

theorem cls79 : ClassIs 79 isLow := ⟨⟨_, _, fun_of Tryz.func79 rfl rfl⟩, a79⟩
theorem cls160 : ClassIs 160 isUp := ⟨⟨_, _, fun_of Tryz.func160 rfl rfl⟩, a160⟩
theorem cls161 : ClassIs 161 isDig := ⟨⟨_, _, fun_of Tryz.func161 rfl rfl⟩, a161⟩
theorem cls114 : ClassIs 114 isIn := ⟨⟨_, _, fun_of Tryz.func114 rfl rfl⟩, a114⟩

def st113 (s : List UInt8) (f : Nat) (H : AHeap) (i : Nat) : AState := ⟨[(8, .int .i64 i), (7, .int .i64 s.length), (1, .fn (.func f) []), (0, .str s)], [], H⟩

theorem a113 (s : List UInt8) (f : Nat) (p : Int → Bool) (hp : ClassIs f p) (hs : s.length ≤ 9223372036854775807) : Pure Tryz.prog 113 [.str s, .fn (.func f) []] (.bool (s.all fun b => p (b.toNat : Int))) := by
  intro n H
  obtain ⟨⟨fn, c, hf⟩, hp⟩ := hp
  refine a_fun tok (fun_of Tryz.func113 rfl rfl) (by simp) fun B => ?_
  repeat refine kn rfl ?_
  refine k_region tok rfl (by kernel_rfl) ?_
  simp only [go_sem, simprocAttr]
  repeat refine kn rfl ?_
  refine k_region tok rfl (by kernel_rfl) ?_
  simp only [go_sem, simprocAttr]
  repeat refine kn rfl ?_
  refine k_loop_p (st113 s f H) (fun i => ∀ j, j < i → p (bt s j) = true) s.length rfl ?_ (fun j h => absurd h (Nat.not_lt_zero _)) ?_
  · refine AWk_kept ?_ ?_ ?_ ?_ <;> repeat' first | exact trivial | refine q0 ?_ | exact qb | exact q1 | exact q2 | exact q3 | exact rfl | refine And.intro ?_ ?_ | exact q4 | exact q5 | exact q6 | exact q7 | exact Inside.ptr _ _ _ (.inr ⟨rfl, rfl⟩) | exact q8 | exact q9 | exact qd | exact Tm.ins _ | exact Tm.inss _ _ | exact Am.ins _ | exact Am.inss _ _ | refine ins_buf_str ?_ | refine Tm.ins_buf ?_ | refine Am.ins_buf ?_ | exact qf
  intro i hi hq
  refine k_st rfl ?_
  have hall : (s.all fun b => p (b.toNat : Int)) = true ↔ ∀ j, j < s.length → p (bt s j) = true := by
    rw [List.all_eq_true]
    constructor
    · intro h j hj
      have := h s[j] (List.getElem_mem hj)
      simpa [bt, List.getD_eq_getElem?_getD, List.getElem?_eq_getElem hj] using this
    · intro h b hb
      obtain ⟨j, hj, rfl⟩ := List.getElem_of_mem hb
      have := h j hj
      simpa [bt, List.getD_eq_getElem?_getD, List.getElem?_eq_getElem hj] using this
  rcases Nat.lt_or_ge i s.length with h | h
  · repeat refine kn rfl ?_
    refine k_region tok rfl (by kernel_rfl) ?_
    simp only [go_sem, simprocAttr, h]
    repeat refine kn rfl ?_
    refine k_cond_t rfl (by simp only [go_sem, simprocAttr]) ?_
    repeat refine kn rfl ?_
    refine k_region tok rfl (by kernel_rfl) ?_
    simp only [go_sem, simprocAttr]
    repeat refine kn rfl ?_
    refine k_region tok rfl (by kernel_rfl) ?_
    simp only [go_sem, simprocAttr, h]
    refine callV (avs := [.int .u8 (bt s i)]) (by simp only [go_sem, simprocAttr]) hf (hp (bt s i) _ _) (by simp only [go_sem, simprocAttr]) ?_
    cases h1 : p (bt s i) with
    | false =>
      simp only [go_sem, simprocAttr, h1]
      repeat refine kn rfl ?_
      refine k_cond_t rfl (by simp only [go_sem, simprocAttr]) ?_
      repeat refine kn rfl ?_
      refine k_region tok rfl (by kernel_rfl) ?_
      simp only [go_sem, simprocAttr]
      repeat refine kn rfl ?_
      refine k_ret_round rfl ?_
      refine post_one ?_ (.bool _) rfl
      have : (s.all fun b => p (b.toNat : Int)) = false := by
        rw [← Bool.not_eq_true, hall]
        intro hh
        have := hh i h
        rw [h1] at this; cases this
      rw [this]; exact .refl _
    | true =>
      simp only [go_sem, simprocAttr, h1]
      repeat refine kn rfl ?_
      refine k_cond_f rfl (by simp only [go_sem, simprocAttr]) ?_
      repeat refine kn rfl ?_
      refine k_region tok rfl (by kernel_rfl) ?_
      simp only [go_sem, simprocAttr]
      repeat refine kn rfl ?_
      refine k_nil ?_
      refine ⟨fun j hj => ?_, ?_⟩
      · rcases Nat.lt_or_ge j i with h' | h'
        · exact hq j h'
        · have : j = i := by omega
          subst this; exact h1
      · refine AWk_kept ?_ ?_ ?_ ?_ <;> repeat' first | exact trivial | refine q0 ?_ | exact qb | exact q1 | exact q2 | exact q3 | exact rfl | refine And.intro ?_ ?_ | exact q4 | exact q5 | exact q6 | exact q7 | exact Inside.ptr _ _ _ (.inr ⟨rfl, rfl⟩) | exact q8 | exact q9 | exact qd | exact Tm.ins _ | exact Tm.inss _ _ | exact Am.ins _ | exact Am.inss _ _ | refine ins_buf_str ?_ | refine Tm.ins_buf ?_ | refine Am.ins_buf ?_ | exact qf
        · simp only [go_sem, simprocAttr]
          rw [IntWalk.i64_in _ (by omega)]; exact .refl _
  · repeat refine kn rfl ?_
    refine k_region tok rfl (by kernel_rfl) ?_
    simp only [go_sem, simprocAttr, Nat.not_lt.2 h]
    repeat refine kn rfl ?_
    refine k_cond_f rfl (by simp only [go_sem, simprocAttr]) ?_
    repeat refine kn rfl ?_
    refine k_exit_round rfl rfl rfl ?_
    repeat refine kn rfl ?_
    refine k_region tok rfl (by kernel_rfl) ?_
    simp only [go_sem, simprocAttr]
    repeat refine kn rfl ?_
    refine k_ret rfl ?_
    refine post_one ?_ (.bool _) rfl
    rw [hall.2 (fun j hj => hq j (by omega))]
    exact .refl _
theorem a78 (s : List UInt8) (f : Nat) (p : Int → Bool) (hp : ClassIs f p) (hs : s.length ≤ 9223372036854775807) :
    Pure Tryz.prog 78 [.str s, .fn (.func f) []] (.bool (decide (und s < s.length) && p (bt s (und s)) && wd s (und s))) := by
  intro n H
  have hu := und_le s
  obtain ⟨⟨fn, c, hf⟩, hp⟩ := hp
  have hlen : (s.drop (und s)).length = s.length - und s := List.length_drop
  have hb0 : bt (s.drop (und s)) 0 = bt s (und s) := bt_drop s (und s) 0
  refine a_fun tok (fun_of Tryz.func78 rfl rfl) (by simp) fun B => ?_
  repeat refine kn rfl ?_
  refine k_region tok rfl (by kernel_rfl) ?_
  simp only [go_sem, simprocAttr]
  repeat refine kn rfl ?_
  refine k_region tok rfl (by kernel_rfl) ?_
  simp only [go_sem, simprocAttr]
  refine callP (fun_of Tryz.func112 rfl rfl) (a112 s) (by simp only [go_sem, simprocAttr]) ?_
  simp only [go_sem, simprocAttr]
  rcases Nat.lt_or_ge (und s) s.length with h | h
  · have he : (s.drop (und s)).isEmpty = false := by
      rw [← Bool.not_eq_true, List.isEmpty_iff, ← List.length_eq_zero_iff, hlen]; omega
    have h2 : (0 : Int) < ((s.drop (und s)).length : Int) := by rw [hlen]; omega
    have h3 : 0 < (s.drop (und s)).length := by rw [hlen]; omega
    repeat refine kn rfl ?_
    refine k_region tok rfl (by kernel_rfl) ?_
    simp only [go_sem, simprocAttr, he, h2, h3, List.beq_nil_eq]
    refine callV (avs := [.int .u8 (bt s (und s))]) (by simp only [go_sem, simprocAttr]) hf (hp (bt s (und s)) _ _) (by simp only [go_sem, simprocAttr, hb0]) ?_
    cases h1 : p (bt s (und s)) with
    | false =>
      simp only [go_sem, simprocAttr, h1]
      repeat refine kn rfl ?_
      refine k_ret rfl ?_
      refine post_one ?_ (.bool _) rfl
      simp only [go_sem, simprocAttr, h]
      exact .refl _
    | true =>
      simp only [go_sem, simprocAttr, h1]
      refine callP (fun_of Tryz.func113 rfl rfl) (a113 (s.drop (und s)) 114 isIn cls114 (by rw [hlen]; omega)) (by simp only [go_sem, simprocAttr]) ?_
      simp only [go_sem, simprocAttr]
      cases h4 : (s.drop (und s)).all (fun b => isIn (b.toNat : Int)) with
      | false =>
        simp only [go_sem, simprocAttr, h4]
        repeat refine kn rfl ?_
        refine k_ret rfl ?_
        refine post_one ?_ (.bool _) rfl
        simp only [go_sem, simprocAttr, h, wd, h4]
        exact .refl _
      | true =>
        simp only [go_sem, simprocAttr, h4]
        repeat refine kn rfl ?_
        refine k_ret rfl ?_
        refine post_one ?_ (.bool _) rfl
        simp only [go_sem, simprocAttr, h, wd, h4]
        have e : decide ((s.length : Int) ≤ 32) = decide (s.length ≤ 32) := by congr 1; simp; omega
        first | exact .refl _ | (rw [e]; exact .refl _)
  · have he : (s.drop (und s)).isEmpty = true := by
      rw [List.isEmpty_iff, ← List.length_eq_zero_iff, hlen]; omega
    repeat refine kn rfl ?_
    refine k_region tok rfl (by kernel_rfl) ?_
    simp only [go_sem, simprocAttr, he, List.beq_nil_eq]
    repeat refine kn rfl ?_
    refine k_ret rfl ?_
    refine post_one ?_ (.bool _) rfl
    simp only [go_sem, simprocAttr, Nat.not_lt.2 h]
    exact .refl _

theorem a45 (s : List UInt8) (hs : s.length ≤ 9223372036854775807) : Pure Tryz.prog 45 [.str s] (.bool (sym s)) := by
  intro n H
  refine a_fun tok (fun_of Tryz.func45 rfl rfl) (by simp) fun B => ?_
  repeat refine kn rfl ?_
  refine k_region tok rfl (by kernel_rfl) ?_
  simp only [go_sem, simprocAttr]
  repeat refine kn rfl ?_
  refine k_region tok rfl (by kernel_rfl) ?_
  simp only [go_sem, simprocAttr]
  refine callP (fun_of Tryz.func78 rfl rfl) (a78 s 79 isLow cls79 hs) (by simp only [go_sem, simprocAttr]) ?_
  simp only [go_sem, simprocAttr]
  refine vcG_bool _ (fun hb => ?_) (fun hb => ?_) <;> simp only [go_sem, simprocAttr, hb]
  all_goals
    repeat refine kn rfl ?_
    refine k_ret rfl ?_
    refine post_one ?_ (.bool _) rfl
    simp only [go_sem, simprocAttr, sym, hb]
    exact .refl _
end Go.Proofs.YtpoegdhgdgbmaaaGreatDoorR

/- Variables' names; prefixes. -/
namespace Go.Proofs.YtpoegdhgdgbmaaaGreatDoorR
open Go.Abs
set_option maxRecDepth 100000

def hpre (s p : List UInt8) : Bool := decide (p.length ≤ s.length) && (s.take p.length == p)

theorem a198 (s p : List UInt8) : Pure Tryz.prog 198 [.str s, .str p] (.bool (hpre s p)) := by
  intro n H
  refine a_fun tok (fun_of Tryz.func198 rfl rfl) (by simp) fun B => ?_
  repeat refine kn rfl ?_
  refine k_region tok rfl (by kernel_rfl) ?_
  simp only [go_sem, simprocAttr]
  rcases Nat.lt_or_ge s.length p.length with h | h
  · repeat refine kn rfl ?_
    refine k_region tok rfl (by kernel_rfl) ?_
    simp only [go_sem, simprocAttr, Nat.not_le.2 h]
    repeat refine kn rfl ?_
    refine k_ret rfl ?_
    refine post_one ?_ (.bool _) rfl
    simp only [go_sem, simprocAttr, hpre, Nat.not_le.2 h]
    exact .refl _
  · repeat refine kn rfl ?_
    refine k_region tok rfl (by kernel_rfl) ?_
    simp only [go_sem, simprocAttr, h, List.drop_zero]
    repeat refine kn rfl ?_
    refine k_ret rfl ?_
    refine post_one ?_ (.bool _) rfl
    simp only [go_sem, simprocAttr, hpre, h]
    exact .refl _

theorem post_2 {P : Program} {T : TT} {n : Nat} {t u : Nat} {v w : AV} {H : AHeap} {s : AState} (hv : Wk (lkv s.tmps t) v) (hw : Wk (lkv s.tmps u) w) (hb : Below n v) (hc : Below n w) (hH : s.H = H) :
    PostF P T n [.tmp t, .tmp u] (fun r' H' => r' = .tup [v, w] ∧ H' = H) .ret s := post_two hv hw hb hc hH

theorem a187 (s p : List UInt8) : Pure Tryz.prog 187 [.str s, .str p] (.tup [.str (if hpre s p then s.drop p.length else s), .bool (hpre s p)]) := by
  intro n H
  refine a_fun tok (fun_of Tryz.func187 rfl rfl) (by simp) fun B => ?_
  repeat refine kn rfl ?_
  refine k_region tok rfl (by kernel_rfl) ?_
  simp only [go_sem, simprocAttr]
  repeat refine kn rfl ?_
  refine k_region tok rfl (by kernel_rfl) ?_
  simp only [go_sem, simprocAttr]
  refine callP (fun_of Tryz.func198 rfl rfl) (a198 s p) (by simp only [go_sem, simprocAttr]) ?_
  simp only [go_sem, simprocAttr]
  cases h : hpre s p with
  | false =>
    repeat refine kn rfl ?_
    refine k_cond_t rfl (by simp only [go_sem, simprocAttr]) ?_
    repeat refine kn rfl ?_
    refine k_region tok rfl (by kernel_rfl) ?_
    simp only [go_sem, simprocAttr]
    repeat refine kn rfl ?_
    refine k_ret rfl ?_
    refine post_2 ?_ ?_ (.str _) (.bool _) rfl
    · simp only [go_sem, simprocAttr]
      exact .refl _
    · simp only [go_sem, simprocAttr]
      exact .refl _
  | true =>
    have hl : p.length ≤ s.length := by
      simp only [hpre, Bool.and_eq_true, decide_eq_true_eq] at h; exact h.1
    repeat refine kn rfl ?_
    refine k_cond_f rfl (by simp only [go_sem, simprocAttr]) ?_
    repeat refine kn rfl ?_
    refine k_region tok rfl (by kernel_rfl) ?_
    simp only [go_sem, simprocAttr, hl, List.take_length]
    repeat refine kn rfl ?_
    refine k_ret rfl ?_
    refine post_2 ?_ ?_ (.str _) (.bool _) rfl
    · simp only [go_sem, simprocAttr]
      exact .refl _
    · simp only [go_sem, simprocAttr]
      exact .refl _

theorem a176 (s p : List UInt8) : Pure Tryz.prog 176 [.str s, .str p] (.tup [.str (if hpre s p then s.drop p.length else s), .bool (hpre s p)]) := by
  intro n H
  refine a_fun tok (fun_of Tryz.func176 rfl rfl) (by simp) fun B => ?_
  repeat refine kn rfl ?_
  refine k_region tok rfl (by kernel_rfl) ?_
  simp only [go_sem, simprocAttr]
  repeat refine kn rfl ?_
  refine k_region tok rfl (by kernel_rfl) ?_
  simp only [go_sem, simprocAttr]
  refine callP (fun_of Tryz.func187 rfl rfl) (a187 s p) (by simp only [go_sem, simprocAttr]) ?_
  simp only [go_sem, simprocAttr]
  repeat refine kn rfl ?_
  refine k_ret rfl ?_
  refine post_2 ?_ ?_ (.str _) (.bool _) rfl
  · simp only [go_sem, simprocAttr]
    exact .refl _
  · simp only [go_sem, simprocAttr]
    exact .refl _

/-- A variable's name. -/
def vname (s : List UInt8) : Bool :=
  (decide (und s < s.length) && isUp (bt s (und s)) && wd s (und s)) || (hpre s [95] && (s.drop 1).all (fun b => isDig (b.toNat : Int)) && decide (s.length ≤ 32))

theorem a150 (s : List UInt8) (hs : s.length ≤ 9223372036854775807) : Pure Tryz.prog 150 [.str s] (.bool (vname s)) := by
  intro n H
  refine a_fun tok (fun_of Tryz.func150 rfl rfl) (by simp) fun B => ?_
  repeat refine kn rfl ?_
  refine k_region tok rfl (by kernel_rfl) ?_
  simp only [go_sem, simprocAttr]
  repeat refine kn rfl ?_
  refine k_region tok rfl (by kernel_rfl) ?_
  simp only [go_sem, simprocAttr]
  refine callP (fun_of Tryz.func176 rfl rfl) (a176 s [95]) (by simp only [go_sem, simprocAttr]) ?_
  simp only [go_sem, simprocAttr]
  repeat refine kn rfl ?_
  refine k_region tok rfl (by kernel_rfl) ?_
  simp only [go_sem, simprocAttr]
  refine callP (fun_of Tryz.func78 rfl rfl) (a78 s 160 isUp cls160 hs) (by simp only [go_sem, simprocAttr]) ?_
  simp only [go_sem, simprocAttr]
  refine vcG_bool _ (fun h1 => ?_) (fun h1 => ?_) <;> simp only [go_sem, simprocAttr, h1]
  · repeat refine kn rfl ?_
    refine k_ret rfl ?_
    refine post_one ?_ (.bool _) rfl
    simp only [go_sem, simprocAttr, vname, h1, Bool.true_or]
    exact .refl _
  · cases h2 : hpre s [95] with
    | false =>
      simp only [go_sem, simprocAttr, h2]
      repeat refine kn rfl ?_
      refine k_ret rfl ?_
      refine post_one ?_ (.bool _) rfl
      simp only [go_sem, simprocAttr, vname, h1, h2, Bool.or_self]
      exact .refl _
    | true =>
      simp only [go_sem, simprocAttr, h2]
      refine callP (fun_of Tryz.func113 rfl rfl) (a113 (s.drop 1) 161 isDig cls161 (by rw [List.length_drop]; omega)) (by simp only [go_sem, simprocAttr]) ?_
      simp only [go_sem, simprocAttr]
      cases h3 : (s.drop 1).all (fun b => isDig (b.toNat : Int)) with
      | false =>
        simp only [go_sem, simprocAttr, h3]
        repeat refine kn rfl ?_
        refine k_ret rfl ?_
        refine post_one ?_ (.bool _) rfl
        simp only [go_sem, simprocAttr, vname, h1, h2, h3, Bool.or_self]
        exact .refl _
      | true =>
        simp only [go_sem, simprocAttr, h3]
        repeat refine kn rfl ?_
        refine k_ret rfl ?_
        refine post_one ?_ (.bool _) rfl
        simp only [go_sem, simprocAttr, vname, h1, h2, h3, Bool.false_or]
        have e : decide ((s.length : Int) ≤ 32) = decide (s.length ≤ 32) := by congr 1; simp; omega
        first | exact .refl _ | (rw [e]; exact .refl _)
def st162 (s : List UInt8) (H : AHeap) (i : Nat) : AState := ⟨[(4, .int .i64 ((1 + i : Nat) : Int)), (0, .str s)], [], H⟩

theorem und_one {s : List UInt8} : (und s = 1 ∨ und s = 0 ∨ 1 < und s) := by omega

theorem hpre_und (s : List UInt8) : hpre s [95] = decide (1 ≤ und s) := by
  cases s with
  | nil => rfl
  | cons b r =>
    simp only [hpre, und, List.length_cons, List.length_nil, List.take_succ_cons, List.take_zero]
    have : ([b] == [(95 : UInt8)]) = ((b.toNat : Int) == 95) := by
      rw [Bool.eq_iff_iff]; simp
      constructor
      · intro h; subst h; rfl
      · intro h; exact UInt8.toNat_inj.1 (by show b.toNat = 95; omega)
    rw [this]
    split
    · rename_i h; rw [h]; simp
    · rename_i h; simp at h ⊢; exact fun e => absurd e h

theorem und_zero_of {s : List UInt8} (h : 0 < s.length) (hb : (bt s 0 == 95) = false) : und s = 0 := by
  cases s with
  | nil => simp at h
  | cons b r => simp only [und]; rw [if_neg (by rw [show ((b.toNat : Int) == 95) = (bt (b :: r) 0 == 95) from rfl, hb]; simp)]

theorem und_drop {s : List UInt8} (h : 0 < und s) : und (s.drop 1) = und s - 1 := by
  cases s with
  | nil => simp [und] at h
  | cons b r =>
    simp only [und] at h ⊢
    split at h
    · rename_i hb; simp only [List.drop_succ_cons, List.drop_zero]; rw [if_pos hb]; rfl
    · omega

theorem dig_not_und {b : Int} (h : isDig b = true) : (b == 95) = false := by
  simp only [isDig, Bool.and_eq_true, decide_eq_true_eq] at h
  simp; omega

end Go.Proofs.YtpoegdhgdgbmaaaGreatDoorR

/- Variables' names, as the document's answer says it. -/
namespace Go.Proofs.YtpoegdhgdgbmaaaGreatDoorR
open Go.Abs
set_option maxRecDepth 100000

def digs (s : List UInt8) : Bool := (s.drop 1).all (fun b => isDig (b.toNat : Int))

theorem digs_iff {s : List UInt8} : digs s = true ↔ ∀ i, 1 + i < s.length → isDig (bt s (1 + i)) = true := by
  unfold digs
  rw [List.all_eq_true]
  constructor
  · intro h i hi
    have : s[1 + i] ∈ s.drop 1 := by
      rw [List.mem_iff_getElem]
      exact ⟨i, by rw [List.length_drop]; omega, by rw [List.getElem_drop]⟩
    have := h _ this
    simpa [bt, List.getD_eq_getElem?_getD, List.getElem?_eq_getElem hi] using this
  · intro h b hb
    obtain ⟨i, hi, rfl⟩ := List.getElem_of_mem hb
    rw [List.length_drop] at hi
    have hlt : 1 + i < s.length := by omega
    have := h i hlt
    rw [List.getElem_drop]
    simpa [bt, List.getD_eq_getElem?_getD, List.getElem?_eq_getElem hlt] using this

theorem vname_up {s : List UInt8} (h : und s < s.length) (hu : isUp (bt s (und s)) = true) : vname s = wd s (und s) := by
  have : (hpre s [95] && digs s) = false := by
    rw [hpre_und, ← Bool.not_eq_true, Bool.and_eq_true, decide_eq_true_eq, digs_iff]
    rintro ⟨h1, h2⟩
    have := h2 (und s - 1) (by omega)
    rw [show 1 + (und s - 1) = und s by omega] at this
    simp only [isDig, isUp, Bool.and_eq_true, decide_eq_true_eq] at this hu
    omega
  unfold vname
  rw [show (s.drop 1).all (fun b => isDig (b.toNat : Int)) = digs s from rfl, this]
  simp [h, hu]

theorem vname_not {s : List UInt8} (h : ¬(und s < s.length ∧ isUp (bt s (und s)) = true)) : vname s = (decide (und s = 1) && digs s && decide (s.length ≤ 32)) := by
  have h1 : (decide (und s < s.length) && isUp (bt s (und s))) = false := by
    rw [← Bool.not_eq_true, Bool.and_eq_true, decide_eq_true_eq]; exact h
  have h2 : (hpre s [95] && digs s) = (decide (und s = 1) && digs s) := by
    rw [hpre_und]
    cases hd : digs s with
    | false => simp
    | true =>
      have h3 : ¬ 1 < und s := by
        intro h3
        have hl := und_le s
        have := digs_iff.1 hd 0 (by omega)
        have := dig_not_und this
        rw [und_lt (s := s) (i := 1) h3] at this; cases this
      rw [Bool.and_true, Bool.and_true]
      congr 1
      simp; omega
  unfold vname
  rw [show (s.drop 1).all (fun b => isDig (b.toNat : Int)) = digs s from rfl, h2, h1]
  simp

theorem a162 (s : List UInt8) (hs : s.length ≤ 9223372036854775807) : Pure Tryz.prog 162 [.str s] (.bool (vname s)) := by
  intro n H
  have hu := und_le s
  refine a_fun tok (fun_of Tryz.func162 rfl rfl) (by simp) fun B => ?_
  repeat refine kn rfl ?_
  refine k_region tok rfl (by kernel_rfl) ?_
  simp only [go_sem, simprocAttr]
  repeat refine kn rfl ?_
  refine k_region tok rfl (by kernel_rfl) ?_
  simp only [go_sem, simprocAttr]
  refine callP (fun_of Tryz.func81 rfl rfl) (a81 s hs) (by simp only [go_sem, simprocAttr]) ?_
  simp only [go_sem, simprocAttr]
  have low : ¬(und s < s.length ∧ isUp (bt s (und s)) = true) → ∀ tm, lkv tm 3 = .int .i64 (und s) → lkv tm 0 = .str s →
      AKc (cxP Tryz.prog ⟨none, B⟩ n Tryz.f162.ntmps) [.code (bodyOf Tryz.f162).snd.snd.snd] (PostF Tryz.prog tt n Tryz.f162.results.toList fun r' H' => r' = .bool (vname s) ∧ H' = H) ⟨tm, [], H⟩ := by
    intro hno tm h3 h0
    rw [vname_not hno]
    cases h1 : decide (und s = 1) with
    | false =>
      have e1 : (((und s : Nat) : Int) == 1) = false := by simp only [decide_eq_false_iff_not] at h1; simp; omega
      repeat refine kn rfl ?_
      refine k_region tok rfl (by kernel_rfl) ?_
      simp only [go_sem, simprocAttr, h3, h0, e1, bne]
      repeat refine kn rfl ?_
      refine k_cond_t rfl (by simp only [go_sem, simprocAttr]) ?_
      repeat refine kn rfl ?_
      refine k_region tok rfl (by kernel_rfl) ?_
      simp only [go_sem, simprocAttr]
      repeat refine kn rfl ?_
      refine k_ret rfl ?_
      refine post_one ?_ (.bool _) rfl
      simp only [go_sem, simprocAttr, h1]
      exact .refl _
    | true =>
      have e1 : (((und s : Nat) : Int) == 1) = true := by simp only [decide_eq_true_eq] at h1; simp; omega
      have hl1 : 1 ≤ s.length := by simp only [decide_eq_true_eq] at h1; omega
      cases h2 : decide (s.length ≤ 32) with
      | false =>
        have e2 : decide ((32 : Int) < (s.length : Int)) = true := by simp only [decide_eq_false_iff_not] at h2; simp; omega
        repeat refine kn rfl ?_
        refine k_region tok rfl (by kernel_rfl) ?_
        simp only [go_sem, simprocAttr, h3, h0, e1, bne, e2]
        repeat refine kn rfl ?_
        refine k_cond_t rfl (by simp only [go_sem, simprocAttr, e2]) ?_
        repeat refine kn rfl ?_
        refine k_region tok rfl (by kernel_rfl) ?_
        simp only [go_sem, simprocAttr]
        repeat refine kn rfl ?_
        refine k_ret rfl ?_
        refine post_one ?_ (.bool _) rfl
        simp only [go_sem, simprocAttr, h1]
        exact .refl _
      | true =>
        have e2 : decide ((32 : Int) < (s.length : Int)) = false := by simp only [decide_eq_true_eq] at h2; simp; omega
        repeat refine kn rfl ?_
        refine k_region tok rfl (by kernel_rfl) ?_
        simp only [go_sem, simprocAttr, h3, h0, e1, bne, e2]
        repeat refine kn rfl ?_
        refine k_cond_f rfl (by simp only [go_sem, simprocAttr, e2]) ?_
        repeat refine kn rfl ?_
        refine k_region tok rfl (by kernel_rfl) ?_
        simp only [go_sem, simprocAttr]
        repeat refine kn rfl ?_
        refine k_loop_p (st162 s H) (fun i => ∀ j, j < i → isDig (bt s (1 + j)) = true) (s.length - 1) rfl ?_ (fun j h => absurd h (Nat.not_lt_zero _)) ?_
        · refine AWk_kept ?_ ?_ ?_ ?_ <;> repeat' first | exact trivial | refine q0 ?_ | exact qb | exact q1 | exact q2 | exact q3 | exact rfl | refine And.intro ?_ ?_ | exact q4 | exact q5 | exact q6 | exact q7 | exact Inside.ptr _ _ _ (.inr ⟨rfl, rfl⟩) | exact q8 | exact q9 | exact qd | exact Tm.ins _ | exact Tm.inss _ _ | exact Am.ins _ | exact Am.inss _ _ | refine ins_buf_str ?_ | refine Tm.ins_buf ?_ | refine Am.ins_buf ?_ | exact qf
          · simp only [go_sem, simprocAttr, h0]
            exact .refl _
        intro i hi hp
        refine k_st rfl ?_
        rcases Nat.lt_or_ge (1 + i) s.length with h | h
        · repeat refine kn rfl ?_
          refine k_region tok rfl (by kernel_rfl) ?_
          simp only [go_sem, simprocAttr, h]
          repeat refine kn rfl ?_
          refine k_cond_t rfl (by simp only [go_sem, simprocAttr]) ?_
          repeat refine kn rfl ?_
          refine k_region tok rfl (by kernel_rfl) ?_
          simp only [go_sem, simprocAttr, h]
          refine callP (fun_of Tryz.func116 rfl rfl) (a116 (bt s (1 + i))) (by simp only [go_sem, simprocAttr, h]) ?_
          simp only [go_sem, simprocAttr, h]
          cases h5 : isDig (bt s (1 + i)) with
          | false =>
            repeat refine kn rfl ?_
            refine k_cond_t rfl (by simp only [go_sem, simprocAttr, h5]) ?_
            repeat refine kn rfl ?_
            refine k_region tok rfl (by kernel_rfl) ?_
            simp only [go_sem, simprocAttr]
            repeat refine kn rfl ?_
            refine k_ret_round rfl ?_
            refine post_one ?_ (.bool _) rfl
            have : digs s = false := by
              rw [← Bool.not_eq_true, digs_iff]
              intro hh
              have := hh i h
              rw [h5] at this; cases this
            simp only [go_sem, simprocAttr, this]
            exact .refl _
          | true =>
            repeat refine kn rfl ?_
            refine k_cond_f rfl (by simp only [go_sem, simprocAttr, h5]) ?_
            repeat refine kn rfl ?_
            refine k_region tok rfl (by kernel_rfl) ?_
            simp only [go_sem, simprocAttr]
            repeat refine kn rfl ?_
            refine k_nil ?_
            refine ⟨by omega, fun j hj => ?_, ?_⟩
            · rcases Nat.lt_or_ge j i with h' | h'
              · exact hp j h'
              · have : j = i := by omega
                subst this; exact h5
            · refine AWk_kept ?_ ?_ ?_ ?_ <;> repeat' first | exact trivial | refine q0 ?_ | exact qb | exact q1 | exact q2 | exact q3 | exact rfl | refine And.intro ?_ ?_ | exact q4 | exact q5 | exact q6 | exact q7 | exact Inside.ptr _ _ _ (.inr ⟨rfl, rfl⟩) | exact q8 | exact q9 | exact qd | exact Tm.ins _ | exact Tm.inss _ _ | exact Am.ins _ | exact Am.inss _ _ | refine ins_buf_str ?_ | refine Tm.ins_buf ?_ | refine Am.ins_buf ?_ | exact qf
              simp only [go_sem, simprocAttr]
              rw [IntWalk.i64_in _ (by omega)]; exact .refl _
        · repeat refine kn rfl ?_
          refine k_region tok rfl (by kernel_rfl) ?_
          simp only [go_sem, simprocAttr, Nat.not_lt.2 h]
          repeat refine kn rfl ?_
          refine k_cond_f rfl (by simp only [go_sem, simprocAttr]) ?_
          repeat refine kn rfl ?_
          refine k_exit_round rfl rfl rfl ?_
          repeat refine kn rfl ?_
          refine k_region tok rfl (by kernel_rfl) ?_
          simp only [go_sem, simprocAttr]
          repeat refine kn rfl ?_
          refine k_ret rfl ?_
          refine post_one ?_ (.bool _) rfl
          have : digs s = true := digs_iff.2 (fun j hj => hp j (by omega))
          simp only [go_sem, simprocAttr, this]
          exact .refl _
  rcases Nat.lt_or_ge (und s) s.length with h | h
  · repeat refine kn rfl ?_
    refine k_region tok rfl (by kernel_rfl) ?_
    simp only [go_sem, simprocAttr, h]
    refine callP (fun_of Tryz.func115 rfl rfl) (a115 (bt s (und s))) (by simp only [go_sem, simprocAttr, h]) ?_
    simp only [go_sem, simprocAttr, h]
    cases h1 : isUp (bt s (und s)) with
    | true =>
      repeat refine kn rfl ?_
      refine k_cond_t rfl (by simp only [go_sem, simprocAttr, h1]) ?_
      repeat refine kn rfl ?_
      refine k_region tok rfl (by kernel_rfl) ?_
      simp only [go_sem, simprocAttr]
      refine callP (fun_of Tryz.func83 rfl rfl) (a83 s (und s) hu hs) (by simp only [go_sem, simprocAttr]) ?_
      simp only [go_sem, simprocAttr]
      repeat refine kn rfl ?_
      refine k_ret rfl ?_
      refine post_one ?_ (.bool _) rfl
      rw [vname_up h h1]
      exact .refl _
    | false =>
      repeat refine kn rfl ?_
      refine k_cond_f rfl (by simp only [go_sem, simprocAttr, h1]) ?_
      refine k_skip rfl ?_
      exact low (fun hc => by rw [h1] at hc; cases hc.2) _ (by simp only [go_sem, simprocAttr]) (by simp only [go_sem, simprocAttr])
  · repeat refine kn rfl ?_
    refine k_region tok rfl (by kernel_rfl) ?_
    simp only [go_sem, simprocAttr, Nat.not_lt.2 h]
    repeat refine kn rfl ?_
    refine k_cond_f rfl (by simp only [go_sem, simprocAttr]) ?_
    refine k_skip rfl ?_
    exact low (fun hc => absurd hc.1 (Nat.not_lt.2 h)) _ (by simp only [go_sem, simprocAttr]) (by simp only [go_sem, simprocAttr])
end Go.Proofs.YtpoegdhgdgbmaaaGreatDoorR

/- Walks over a term. -/
namespace Go.Proofs.YtpoegdhgdgbmaaaGreatDoorR
open Go.Abs
set_option maxRecDepth 100000

/-- The slots of a level, laid anew. -/
def _root_.Go.Abs.AHeap.setLv (H : AHeap) (x : Nat) (S : Nat → Option ABlk) : AHeap := fun l k => if l = x then S k else H l k

theorem full_setLv {n x : Nat} (h : x ≠ n) (L : List (Nat × ABlk)) (H : AHeap) (S : Nat → Option ABlk) : full n L (H.setLv x S) = (full n L H).setLv x S := by
  funext l k
  simp only [full, AHeap.setLv]
  by_cases h1 : l = n
  · subst h1; rw [if_pos rfl, if_neg (fun e => h e.symm), if_pos rfl]
  · rw [if_neg h1, if_neg h1]

theorem out_setLv {n x : Nat} {H : AHeap} {S : Nat → Option ABlk} (h : x < n) (hS : ∀ k b, S k = some b → b.Below (x + 1)) : OutStep n H (H.setLv x S) := fun l k b hl hb => by
  simp only [AHeap.setLv] at hb
  split at hb
  · have := hS k b hb
    exact .inr ⟨fun a ha => (this.1 a ha).mono h, fun p hp => Nat.lt_of_lt_of_le (this.2 p hp) h⟩
  · exact .inl hb

/-- What a loop's yield does: it says p; where that is no, the level x is laid anew. -/
def YSpec (P : Program) (x l : Nat) (p : Tm → Bool) (S : Nat → Option ABlk) (H0 : AHeap) : Prop :=
  ∀ m H (t : Tm), t.Good → x < m → (∀ l' k, l' ≤ x → H l' k = H0 l' k) → AYields P m l [t.enc] H fun r H1 => r = .bool (p t) ∧ H1 = if p t then H else H.setLv x S

def st145 (t : Tm) (l n : Nat) (H : AHeap) (i : Nat) : AState :=
  ⟨[(14, .int .i64 i), (13, .int .i64 t.args.length), (12, .sl 4 (t.args.map Tm.enc) .any), (1, .fn (.yield l) []), (2, .ptr n 2 0)], [(2, .box t.cs)], H⟩

theorem a145 {x l : Nat} {p : Tm → Bool} {S : Nat → Option ABlk} {H0 : AHeap} (hY : YSpec Tryz.prog x l p S H0) (hS : ∀ k b, S k = some b → b.Below (x + 1)) (t : Tm) (ht : t.Good) (n : Nat) (H : AHeap) (hx : x < n) (hH : ∀ l' k, l' ≤ x → H l' k = H0 l' k) :
    ACalls Tryz.prog n 145 [t.enc, .fn (.yield l) []] H fun r H1 => r = .bool (t.all p) ∧ H1 = if t.all p then H else H.setLv x S := by
  have hlen := ht.len
  refine a_fun tok (fun_of Tryz.func145 rfl rfl) (by simp) fun B => ?_
  have hf : ∀ (L : List (Nat × ABlk)) (l' k : Nat), l' ≤ x → full n L H l' k = H0 l' k := fun L l' k h => by
    simp only [full]; rw [if_neg (by omega)]; exact hH l' k h
  repeat refine kn rfl ?_
  refine k_region tok rfl (by kernel_rfl) ?_
  simp only [go_sem, simprocAttr]
  repeat refine kn rfl ?_
  refine k_region tok rfl (by kernel_rfl) ?_
  simp only [go_sem, simprocAttr]
  refine callY (by simp only [go_sem, simprocAttr]) (hY _ _ t ht (show x < n + 1 by omega) (hf _)) (by simp only [go_sem, simprocAttr]) ?_
  rintro _ _ ⟨rfl, rfl⟩
  have fail : ∀ (L : List (Nat × ABlk)) (tm : List (Nat × AV)), t.all p = false → lkv tm 4 = .bool false → PostF Tryz.prog tt n Tryz.f145.results.toList (fun r H1 => r = .bool (t.all p) ∧ H1 = if t.all p then H else H.setLv x S) .ret ⟨tm, L, H.setLv x S⟩ := by
    intro L tm hall h4
    refine ⟨by simp [okRes], [.bool false], ⟨?_, trivial⟩, by simp [below_bool], by rw [hall]; rfl, by rw [hall]; rfl⟩
    show Wk (lkv tm 4) _
    rw [h4]; exact .refl _
  cases hp : p t with
  | false =>
    have hall : t.all p = false := by rw [Tm.all_eq, hp]; rfl
    refine ⟨[(2, .box t.cs)], H.setLv x S, by rw [full_setLv (show x ≠ n by omega)]; rfl, out_setLv hx hS, ?_⟩
    simp only [go_sem, simprocAttr]
    repeat refine kn rfl ?_
    refine k_cond_t rfl (by simp only [go_sem, simprocAttr]) ?_
    repeat refine kn rfl ?_
    refine k_region tok rfl (by kernel_rfl) ?_
    simp only [go_sem, simprocAttr]
    repeat refine kn rfl ?_
    refine k_ret rfl ?_
    exact fail _ _ hall (by simp only [go_sem, simprocAttr])
  | true =>
    refine ⟨[(2, .box t.cs)], H, rfl, .refl _ _, ?_⟩
    simp only [go_sem, simprocAttr]
    repeat refine kn rfl ?_
    refine k_cond_f rfl (by simp only [go_sem, simprocAttr]) ?_
    repeat refine kn rfl ?_
    refine k_region tok rfl (by kernel_rfl) ?_
    simp only [go_sem, simprocAttr]
    repeat refine kn rfl ?_
    refine k_loop_p (st145 t l n H) (fun i => ∀ j (h : j < t.args.length), j < i → (t.args[j]).all p = true) t.args.length rfl ?_ (fun j _ h => absurd h (Nat.not_lt_zero _)) ?_
    · refine AWk_kept ?_ ?_ ?_ ?_ <;> repeat' first | exact trivial | refine q0 ?_ | exact qb | exact q1 | exact q2 | exact q3 | exact rfl | refine And.intro ?_ ?_ | exact q4 | exact q5 | exact q6 | exact q7 | exact Inside.ptr _ _ _ (.inr ⟨rfl, rfl⟩) | exact q8 | exact q9 | exact qd | exact Tm.ins _ | exact Tm.inss _ _ | exact Am.ins _ | exact Am.inss _ _ | refine ins_buf_str ?_ | refine Tm.ins_buf ?_ | refine Am.ins_buf ?_ | exact qf
    intro i hi hq
    refine k_st rfl ?_
    rcases Nat.lt_or_ge i t.args.length with h | h
    · repeat refine kn rfl ?_
      refine k_region tok rfl (by kernel_rfl) ?_
      simp only [go_sem, simprocAttr, h]
      repeat refine kn rfl ?_
      refine k_cond_t rfl (by simp only [go_sem, simprocAttr]) ?_
      repeat refine kn rfl ?_
      refine k_region tok rfl (by kernel_rfl) ?_
      simp only [go_sem, simprocAttr, Tm.getD_enc _ _ h, h]
      repeat refine kn rfl ?_
      refine k_region tok rfl (by kernel_rfl) ?_
      simp only [go_sem, simprocAttr]
      have hu := ht.arg (List.getElem_mem h)
      refine callR (caps := []) (avs := [t.args[i].enc, .fn (.yield l) []]) rfl (fun_of Tryz.func145 rfl rfl) (by rw [List.append_nil]; exact a145 hY hS t.args[i] hu (n + 1) _ (show x < n + 1 by omega) (hf _)) (by simp only [go_sem, simprocAttr]) ?_
      rintro _ _ ⟨rfl, rfl⟩
      cases h1 : (t.args[i]).all p with
      | false =>
        refine ⟨[(2, .box t.cs), (6, .box t.args[i].cs)], H.setLv x S, by rw [full_setLv (show x ≠ n by omega)]; rfl, out_setLv hx hS, ?_⟩
        simp only [go_sem, simprocAttr]
        repeat refine kn rfl ?_
        refine k_cond_t rfl (by simp only [go_sem, simprocAttr]) ?_
        repeat refine kn rfl ?_
        refine k_region tok rfl (by kernel_rfl) ?_
        simp only [go_sem, simprocAttr]
        repeat refine kn rfl ?_
        refine k_ret_round rfl ?_
        refine fail _ _ ?_ (by simp only [go_sem, simprocAttr])
        rw [Tm.all_eq, hp, Tm.alls_iff, Bool.true_and, ← Bool.not_eq_true, List.all_eq_true]
        intro hh
        have := hh _ (List.getElem_mem h)
        rw [h1] at this; cases this
      | true =>
        refine ⟨[(2, .box t.cs), (6, .box t.args[i].cs)], H, rfl, .refl _ _, ?_⟩
        simp only [go_sem, simprocAttr]
        repeat refine kn rfl ?_
        refine k_cond_f rfl (by simp only [go_sem, simprocAttr]) ?_
        repeat refine kn rfl ?_
        refine k_region tok rfl (by kernel_rfl) ?_
        simp only [go_sem, simprocAttr]
        repeat refine kn rfl ?_
        refine k_nil ?_
        refine ⟨fun j hj hji => ?_, ?_⟩
        · rcases Nat.lt_or_ge j i with h' | h'
          · exact hq j hj h'
          · have : j = i := by omega
            subst this; exact h1
        · refine AWk_kept ?_ ?_ ?_ ?_ <;> repeat' first | exact trivial | refine q0 ?_ | exact qb | exact q1 | exact q2 | exact q3 | exact rfl | refine And.intro ?_ ?_ | exact q4 | exact q5 | exact q6 | exact q7 | exact Inside.ptr _ _ _ (.inr ⟨rfl, rfl⟩) | exact q8 | exact q9 | exact qd | exact Tm.ins _ | exact Tm.inss _ _ | exact Am.ins _ | exact Am.inss _ _ | refine ins_buf_str ?_ | refine Tm.ins_buf ?_ | refine Am.ins_buf ?_ | exact qf
          · simp only [go_sem, simprocAttr]
            rw [IntWalk.i64_in _ (by omega)]; exact .refl _
    · repeat refine kn rfl ?_
      refine k_region tok rfl (by kernel_rfl) ?_
      simp only [go_sem, simprocAttr, Nat.not_lt.2 h]
      repeat refine kn rfl ?_
      refine k_cond_f rfl (by simp only [go_sem, simprocAttr]) ?_
      repeat refine kn rfl ?_
      refine k_exit_round rfl rfl rfl ?_
      repeat refine kn rfl ?_
      refine k_region tok rfl (by kernel_rfl) ?_
      simp only [go_sem, simprocAttr]
      repeat refine kn rfl ?_
      refine k_ret rfl ?_
      have hall : t.all p = true := by
        rw [Tm.all_eq, hp, Tm.alls_iff, Bool.true_and, List.all_eq_true]
        intro u hu
        obtain ⟨j, hj, rfl⟩ := List.getElem_of_mem hu
        exact hq j hj (by omega)
      refine ⟨by simp [okRes], [.bool true], ⟨?_, trivial⟩, by simp [below_bool], by rw [hall]; rfl, by rw [hall]; rfl⟩
      simp only [go_sem, simprocAttr]
      exact .refl _
termination_by SizeOf.sizeOf t
decreasing_by exact Tm.size_lt (List.getElem_mem h)

theorem a144 {x l : Nat} {p : Tm → Bool} {S : Nat → Option ABlk} {H0 : AHeap} (hY : YSpec Tryz.prog x l p S H0) (hS : ∀ k b, S k = some b → b.Below (x + 1)) (t : Tm) (ht : t.Good) (n : Nat) (H : AHeap) (hx : x < n) (hH : ∀ l' k, l' ≤ x → H l' k = H0 l' k) :
    ACalls Tryz.prog n 144 [.fn (.yield l) [], .iptr t.cs] H fun r H1 => H1 = if t.all p then H else H.setLv x S := by
  refine a_fun tok (fun_of Tryz.func144 rfl rfl) (by simp) fun B => ?_
  have hf : ∀ (L : List (Nat × ABlk)) (l' k : Nat), l' ≤ x → full n L H l' k = H0 l' k := fun L l' k h => by
    simp only [full]; rw [if_neg (by omega)]; exact hH l' k h
  repeat refine kn rfl ?_
  refine k_region tok rfl (by kernel_rfl) ?_
  simp only [go_sem, simprocAttr]
  refine callR (caps := []) (avs := [t.enc, .fn (.yield l) []]) rfl (fun_of Tryz.func145 rfl rfl) (by rw [List.append_nil]; exact a145 hY hS t ht (n + 1) _ (show x < n + 1 by omega) (hf _)) (by simp only [go_sem, simprocAttr]) ?_
  rintro _ _ ⟨rfl, rfl⟩
  refine ⟨[], if t.all p then H else H.setLv x S, ?_, ?_, ?_⟩
  · split
    · rfl
    · rw [full_setLv (show x ≠ n by omega)]
  · split
    · exact .refl _ _
    · exact out_setLv hx hS
  simp only [go_sem, simprocAttr]
  repeat refine kn rfl ?_
  refine k_nil ?_
  exact ⟨by simp [okRes], [], trivial, by simp, rfl⟩

theorem a104 (t : Tm) : Pure Tryz.prog 104 [t.enc] (.fn (.func 144) [.iptr t.cs]) := by
  intro n H
  refine a_fun tok (fun_of Tryz.func104 rfl rfl) (by simp) fun B => ?_
  repeat refine kn rfl ?_
  refine k_region tok rfl (by kernel_rfl) ?_
  simp only [go_sem, simprocAttr]
  refine k_freeze 1 t.cs [(1, .iptr t.cs)] rfl ?_ ?_ trivial ?_
  · exact ⟨.int _ _, .int _ _, .str _, Tm.inss _ _, trivial⟩
  · exact ⟨.inr ⟨0, rfl, rfl⟩, trivial⟩
  repeat refine kn rfl ?_
  refine k_region tok rfl (by kernel_rfl) ?_
  simp only [go_sem, simprocAttr]
  repeat refine kn rfl ?_
  refine k_ret rfl ?_
  refine post_one ?_ (.fn _ _ fun i hi => ?_) rfl
  · simp only [go_sem, simprocAttr]
    exact .refl _
  · have : i = 0 := by simp at hi; exact hi
    subst this
    have hb := (t.blw n)
    rw [Tm.enc_eq] at hb
    cases hb with
    | agg _ hb => exact .iptr _ hb

theorem eq_setLv {G H : AHeap} {n : Nat} {S : Nat → Option ABlk} (h1 : ∀ k, G n k = S k) (h2 : ∀ l k, l ≠ n → G l k = H l k) : G = H.setLv n S := by
  funext l k
  simp only [AHeap.setLv]
  split
  · rename_i e; subst e; exact h1 k
  · rename_i e; exact h2 l k e

theorem upd_back {H : AHeap} {n y : Nat} {b b' : ABlk} (h : H n y = some b) : (H.upd n y b').upd n y b = H := by
  funext l k
  simp only [AHeap.upd]
  split
  · rename_i e; rw [e.1, e.2, h]
  · rfl

theorem full_lv {n : Nat} {L : List (Nat × ABlk)} {H : AHeap} : (full n [] H).setLv n (lkb L) = full n L H := by
  funext l k
  simp only [AHeap.setLv, full]
  split <;> simp_all

/-- A loop over a term's terms, whose rounds change nothing till one stops it. -/
theorem k_terms {B n N : Nat} {g : Operand} {v : Nat} {c d : Code} {k : List Itm} {Q : Exit → AState → Prop} {tm : List (Nat × AV)} {L : List (Nat × ABlk)} {H : AHeap} (y : Nat) (t : Tm) (ht : t.Good) (p : Tm → Bool) (L2 : List (Nat × ABlk))
    (hc : c = .rangeFunc g #[v] c.fst c.snd) (hg : evT tm g = .fn (.func 144) [.iptr t.cs]) (hy : lkb L y = none) (hv : v < N)
    (hb : ∀ l, AllP (fun q => q.2.Below (n + 1)) (setb L2 y (.lrec l N tm #[v] c.fst c.snd .done (some d))))
    (hbody : ∀ l m B' (t' : Tm) H', t'.Good → n < m → (∀ j, H' n j = lkb (setb L y (.lrec l N tm #[v] c.fst c.snd .ready none)) j) → (∀ l' j, l' < n → H' l' j = H l' j) →
      AKc ⟨Tryz.prog, tt, ⟨some l, B'⟩, m, N⟩ [.code c.fst] (fun e s => e = .normal ∧ s.H n y = some (.lrec l N tm #[v] c.fst c.snd .ready none) ∧
        AKc ⟨Tryz.prog, tt, ⟨some l, B'⟩, m, N⟩ [.code c.snd] (RoundQ (fun r H1 => r = .bool (p t') ∧ H1 = if p t' then H' else H'.setLv n (lkb (setb L2 y (.lrec l N tm #[v] c.fst c.snd .done (some d))))) n y l N tm #[v] c.fst c.snd)
          ⟨s.tmps, s.L, s.H.upd n y (.lrec l N tm #[v] c.fst c.snd .busy none)⟩) ⟨(v, t'.enc) :: tm, [], H'⟩)
    (hgo : ∀ l, t.all p = true → AKc ⟨Tryz.prog, tt, ⟨none, B⟩, n, N⟩ k Q ⟨tm, setb L y (.lrec l N tm #[v] c.fst c.snd .exhausted none), H⟩)
    (hstop : ∀ l, t.all p = false → AKc ⟨Tryz.prog, tt, ⟨none, B⟩, n, N⟩ (.code d :: k) Q ⟨tm, setb L2 y (.lrec l N tm #[v] c.fst c.snd .exhausted (some d)), H⟩) :
    AKc ⟨Tryz.prog, tt, ⟨none, B⟩, n, N⟩ (.code c :: k) Q ⟨tm, L, H⟩ := by
  refine k_rangeFunc (caps := [.iptr t.cs]) y hc hg (fun_of Tryz.func144 rfl rfl) hy fun l => ?_
  refine ⟨_, a144 (x := n) (l := l) (p := p) (S := lkb (setb L2 y (.lrec l N tm #[v] c.fst c.snd .done (some d)))) (H0 := full n (setb L y (.lrec l N tm #[v] c.fst c.snd .ready none)) H) ?_ (fun j b h => (hb l).mem _ (lkb_mem h)) t ht (n + 1) _ (Nat.lt_succ_self n) (fun _ _ _ => rfl), ?_⟩
  · intro m H' t' ht' hm hag
    have hlv : ∀ j, H' n j = lkb (setb L y (.lrec l N tm #[v] c.fst c.snd .ready none)) j := fun j => by
      rw [hag n j (Nat.le_refl _)]; simp only [full, if_true]
    refine k_ayields tt (x := n) (y := y) (by rw [hlv y, lkb_setb, if_pos rfl]) hm rfl (by simpa using hv) fun B' => hbody l m B' t' H' ht' hm hlv (fun l' j h => by rw [hag l' j (Nat.le_of_lt h)]; simp only [full]; rw [if_neg (by omega)])
  · rintro r H1 rfl
    cases hall : t.all p with
    | true => exact ⟨_, H, .ready, none, rfl, .refl _ _, by rw [lkb_setb, if_pos rfl], by simp, by
        have : setb (setb L y (.lrec l N tm #[v] c.fst c.snd .ready none)) y (.lrec l N tm #[v] c.fst c.snd .exhausted none) = setb L y (.lrec l N tm #[v] c.fst c.snd .exhausted none) := setb_setb _ _ _ _
        simp only [this]; exact hgo l hall⟩
    | false =>
      refine ⟨setb L2 y (.lrec l N tm #[v] c.fst c.snd .done (some d)), H, .done, some d, ?_, .refl _ _, by rw [lkb_setb, if_pos rfl], by simp, by
        simp only [setb_setb]; exact hstop l hall⟩
      simp only [Bool.false_eq_true, if_false]
      funext l' j
      simp only [AHeap.setLv, full]
      by_cases e : l' = n
      · rw [if_pos e, if_pos e]
      · rw [if_neg e, if_neg e, if_neg e]

end Go.Proofs.YtpoegdhgdgbmaaaGreatDoorR

/- The rows of the kinds, as the program says them. -/
namespace Go.Proofs.YtpoegdhgdgbmaaaGreatDoorR
open Go.Abs
set_option maxRecDepth 100000

/-- The number of arguments is from lo to hi. -/
def nargs (t : Tm) (lo hi : Int) : Bool := decide (lo ≤ (t.args.length : Int)) && decide ((t.args.length : Int) ≤ hi)

theorem a125 (t : Tm) (lo hi : Int) : Pure Tryz.prog 125 [t.enc, .int .i64 lo, .int .i64 hi] (.bool (nargs t lo hi)) := by
  intro n H
  refine a_fun tok (fun_of Tryz.func125 rfl rfl) (by simp) fun B => ?_
  repeat refine kn rfl ?_
  refine k_region tok rfl (by kernel_rfl) ?_
  simp only [go_sem, simprocAttr]
  cases h : decide (lo ≤ (t.args.length : Int))
  all_goals
    repeat refine kn rfl ?_
    refine k_region tok rfl (by kernel_rfl) ?_
    simp only [go_sem, simprocAttr, h]
    repeat refine kn rfl ?_
    refine k_ret rfl ?_
    refine post_one ?_ (.bool _) rfl
    simp only [go_sem, simprocAttr, nargs, h]
    exact .refl _

def named (t : Tm) : Bool := (t.num == 0) && !(t.name == [])

theorem a147 (t : Tm) : Pure Tryz.prog 147 [.iptr t.cs] (.bool (decide (-2147483647 ≤ t.num) && decide (t.num ≤ 2147483647) && (t.name == []) && nargs t 0 0)) := by
  intro n H
  refine a_fun tok (fun_of Tryz.func147 rfl rfl) (by simp) fun B => ?_
  repeat refine kn rfl ?_
  refine k_region tok rfl (by kernel_rfl) ?_
  simp only [go_sem, simprocAttr]
  cases h1 : decide (-2147483647 ≤ t.num) with
  | false =>
    repeat refine kn rfl ?_
    refine k_region tok rfl (by kernel_rfl) ?_
    simp only [go_sem, simprocAttr, h1]
    repeat refine kn rfl ?_
    refine k_ret rfl ?_
    refine post_one ?_ (.bool _) rfl
    try simp only [go_sem, simprocAttr]
    exact .refl _
  | true =>
    cases h2 : decide (t.num ≤ 2147483647) with
    | false =>
      repeat refine kn rfl ?_
      refine k_region tok rfl (by kernel_rfl) ?_
      simp only [go_sem, simprocAttr, h1, h2]
      repeat refine kn rfl ?_
      refine k_ret rfl ?_
      refine post_one ?_ (.bool _) rfl
      try simp only [go_sem, simprocAttr]
      exact .refl _
    | true =>
      cases h3 : (t.name == []) with
      | false =>
        repeat refine kn rfl ?_
        refine k_region tok rfl (by kernel_rfl) ?_
        simp only [go_sem, simprocAttr, h1, h2, h3]
        repeat refine kn rfl ?_
        refine k_ret rfl ?_
        refine post_one ?_ (.bool _) rfl
        try simp only [go_sem, simprocAttr]
        exact .refl _
      | true =>
        repeat refine kn rfl ?_
        refine k_region tok rfl (by kernel_rfl) ?_
        simp only [go_sem, simprocAttr, h1, h2, h3]
        refine callP (fun_of Tryz.func125 rfl rfl) (a125 t 0 0) (by simp only [go_sem, simprocAttr]) ?_
        simp only [go_sem, simprocAttr]
        repeat refine kn rfl ?_
        refine k_ret rfl ?_
        refine post_one ?_ (.bool _) rfl
        try simp only [go_sem, simprocAttr]
        exact .refl _

theorem a148 (t : Tm) (ht : t.Good) : Pure Tryz.prog 148 [.iptr [.bool (named t)], .iptr t.cs] (.bool (named t && sym t.name && nargs t 0 0)) := by
  intro n H
  have hs := ht.name
  refine a_fun tok (fun_of Tryz.func148 rfl rfl) (by simp) fun B => ?_
  repeat refine kn rfl ?_
  refine k_region tok rfl (by kernel_rfl) ?_
  simp only [go_sem, simprocAttr]
  cases h1 : named t with
  | false =>
    repeat refine kn rfl ?_
    refine k_region tok rfl (by kernel_rfl) ?_
    simp only [go_sem, simprocAttr, h1]
    repeat refine kn rfl ?_
    refine k_ret rfl ?_
    refine post_one ?_ (.bool _) rfl
    try simp only [go_sem, simprocAttr]
    exact .refl _
  | true =>
    repeat refine kn rfl ?_
    refine k_region tok rfl (by kernel_rfl) ?_
    simp only [go_sem, simprocAttr, h1]
    refine callP (fun_of Tryz.func45 rfl rfl) (a45 t.name (by omega)) (by simp only [go_sem, simprocAttr]) ?_
    simp only [go_sem, simprocAttr]
    cases h2 : sym t.name with
    | false =>
      simp only [go_sem, simprocAttr]
      repeat refine kn rfl ?_
      refine k_ret rfl ?_
      refine post_one ?_ (.bool _) rfl
      try simp only [go_sem, simprocAttr]
      exact .refl _
    | true =>
      simp only [go_sem, simprocAttr]
      refine callP (fun_of Tryz.func125 rfl rfl) (a125 t 0 0) (by simp only [go_sem, simprocAttr]) ?_
      simp only [go_sem, simprocAttr]
      repeat refine kn rfl ?_
      refine k_ret rfl ?_
      refine post_one ?_ (.bool _) rfl
      try simp only [go_sem, simprocAttr]
      exact .refl _

theorem a149 (t : Tm) (ht : t.Good) : Pure Tryz.prog 149 [.iptr [.bool (named t)], .iptr t.cs] (.bool (named t && vname t.name && nargs t 0 0)) := by
  intro n H
  have hs := ht.name
  refine a_fun tok (fun_of Tryz.func149 rfl rfl) (by simp) fun B => ?_
  repeat refine kn rfl ?_
  refine k_region tok rfl (by kernel_rfl) ?_
  simp only [go_sem, simprocAttr]
  cases h1 : named t with
  | false =>
    repeat refine kn rfl ?_
    refine k_region tok rfl (by kernel_rfl) ?_
    simp only [go_sem, simprocAttr, h1]
    repeat refine kn rfl ?_
    refine k_ret rfl ?_
    refine post_one ?_ (.bool _) rfl
    try simp only [go_sem, simprocAttr]
    exact .refl _
  | true =>
    repeat refine kn rfl ?_
    refine k_region tok rfl (by kernel_rfl) ?_
    simp only [go_sem, simprocAttr, h1]
    refine callP (fun_of Tryz.func150 rfl rfl) (a150 t.name (by omega)) (by simp only [go_sem, simprocAttr]) ?_
    simp only [go_sem, simprocAttr]
    cases h2 : vname t.name with
    | false =>
      simp only [go_sem, simprocAttr]
      repeat refine kn rfl ?_
      refine k_ret rfl ?_
      refine post_one ?_ (.bool _) rfl
      try simp only [go_sem, simprocAttr]
      exact .refl _
    | true =>
      simp only [go_sem, simprocAttr]
      refine callP (fun_of Tryz.func125 rfl rfl) (a125 t 0 0) (by simp only [go_sem, simprocAttr]) ?_
      simp only [go_sem, simprocAttr]
      repeat refine kn rfl ?_
      refine k_ret rfl ?_
      refine post_one ?_ (.bool _) rfl
      try simp only [go_sem, simprocAttr]
      exact .refl _

theorem a151 (t : Tm) (ht : t.Good) : Pure Tryz.prog 151 [.iptr [.bool (named t)], .iptr t.cs] (.bool (named t && sym t.name && nargs t 1 8)) := by
  intro n H
  have hs := ht.name
  refine a_fun tok (fun_of Tryz.func151 rfl rfl) (by simp) fun B => ?_
  repeat refine kn rfl ?_
  refine k_region tok rfl (by kernel_rfl) ?_
  simp only [go_sem, simprocAttr]
  cases h1 : named t with
  | false =>
    repeat refine kn rfl ?_
    refine k_region tok rfl (by kernel_rfl) ?_
    simp only [go_sem, simprocAttr, h1]
    repeat refine kn rfl ?_
    refine k_ret rfl ?_
    refine post_one ?_ (.bool _) rfl
    try simp only [go_sem, simprocAttr]
    exact .refl _
  | true =>
    repeat refine kn rfl ?_
    refine k_region tok rfl (by kernel_rfl) ?_
    simp only [go_sem, simprocAttr, h1]
    refine callP (fun_of Tryz.func45 rfl rfl) (a45 t.name (by omega)) (by simp only [go_sem, simprocAttr]) ?_
    simp only [go_sem, simprocAttr]
    cases h2 : sym t.name with
    | false =>
      simp only [go_sem, simprocAttr]
      repeat refine kn rfl ?_
      refine k_ret rfl ?_
      refine post_one ?_ (.bool _) rfl
      try simp only [go_sem, simprocAttr]
      exact .refl _
    | true =>
      simp only [go_sem, simprocAttr]
      refine callP (fun_of Tryz.func125 rfl rfl) (a125 t 1 8) (by simp only [go_sem, simprocAttr]) ?_
      simp only [go_sem, simprocAttr]
      repeat refine kn rfl ?_
      refine k_ret rfl ?_
      refine post_one ?_ (.bool _) rfl
      try simp only [go_sem, simprocAttr]
      exact .refl _

def sMinus : List UInt8 := [45]

theorem a152 (t : Tm) (o : Bool) : Pure Tryz.prog 152 [.iptr [.bool (named t)], .iptr [.bool o], .iptr t.cs] (.bool (named t && o && (nargs t 2 2 || (t.name == sMinus) && nargs t 1 1))) := by
  intro n H
  refine a_fun tok (fun_of Tryz.func152 rfl rfl) (by simp) fun B => ?_
  repeat refine kn rfl ?_
  refine k_region tok rfl (by kernel_rfl) ?_
  simp only [go_sem, simprocAttr]
  cases h1 : named t with
  | false =>
    repeat refine kn rfl ?_
    refine k_region tok rfl (by kernel_rfl) ?_
    simp only [go_sem, simprocAttr, h1]
    repeat refine kn rfl ?_
    refine k_ret rfl ?_
    refine post_one ?_ (.bool _) rfl
    try simp only [go_sem, simprocAttr]
    exact .refl _
  | true =>
    cases h2 : o with
    | false =>
      repeat refine kn rfl ?_
      refine k_region tok rfl (by kernel_rfl) ?_
      simp only [go_sem, simprocAttr, h1, h2]
      repeat refine kn rfl ?_
      refine k_ret rfl ?_
      refine post_one ?_ (.bool _) rfl
      try simp only [go_sem, simprocAttr]
      exact .refl _
    | true =>
      repeat refine kn rfl ?_
      refine k_region tok rfl (by kernel_rfl) ?_
      simp only [go_sem, simprocAttr, h1, h2]
      refine callP (fun_of Tryz.func125 rfl rfl) (a125 t 2 2) (by simp only [go_sem, simprocAttr]) ?_
      simp only [go_sem, simprocAttr]
      cases h3 : nargs t 2 2 with
      | true =>
        simp only [go_sem, simprocAttr]
        repeat refine kn rfl ?_
        refine k_ret rfl ?_
        refine post_one ?_ (.bool _) rfl
        try simp only [go_sem, simprocAttr, Bool.true_or]
        exact .refl _
      | false =>
        cases h4 : (t.name == sMinus) with
        | false =>
          simp only [go_sem, simprocAttr, show (t.name == [45]) = false from h4]
          repeat refine kn rfl ?_
          refine k_ret rfl ?_
          refine post_one ?_ (.bool _) rfl
          try simp only [go_sem, simprocAttr, Bool.false_or]
          exact .refl _
        | true =>
          simp only [go_sem, simprocAttr, show (t.name == [45]) = true from h4]
          refine callP (fun_of Tryz.func125 rfl rfl) (a125 t 1 1) (by simp only [go_sem, simprocAttr]) ?_
          simp only [go_sem, simprocAttr]
          repeat refine kn rfl ?_
          refine k_ret rfl ?_
          refine post_one ?_ (.bool _) rfl
          try simp only [go_sem, simprocAttr, Bool.false_or]
          exact .refl _

theorem a153 (t : Tm) : Pure Tryz.prog 153 [.iptr t.cs] (.bool ((t.num == 0) && (t.name == []) && nargs t 2 2)) := by
  intro n H
  refine a_fun tok (fun_of Tryz.func153 rfl rfl) (by simp) fun B => ?_
  repeat refine kn rfl ?_
  refine k_region tok rfl (by kernel_rfl) ?_
  simp only [go_sem, simprocAttr]
  cases h1 : (t.num == 0) with
  | false =>
    repeat refine kn rfl ?_
    refine k_region tok rfl (by kernel_rfl) ?_
    simp only [go_sem, simprocAttr, h1]
    repeat refine kn rfl ?_
    refine k_ret rfl ?_
    refine post_one ?_ (.bool _) rfl
    try simp only [go_sem, simprocAttr]
    exact .refl _
  | true =>
    cases h2 : (t.name == []) with
    | false =>
      repeat refine kn rfl ?_
      refine k_region tok rfl (by kernel_rfl) ?_
      simp only [go_sem, simprocAttr, h1, h2]
      repeat refine kn rfl ?_
      refine k_ret rfl ?_
      refine post_one ?_ (.bool _) rfl
      try simp only [go_sem, simprocAttr]
      exact .refl _
    | true =>
      repeat refine kn rfl ?_
      refine k_region tok rfl (by kernel_rfl) ?_
      simp only [go_sem, simprocAttr, h1, h2]
      refine callP (fun_of Tryz.func125 rfl rfl) (a125 t 2 2) (by simp only [go_sem, simprocAttr]) ?_
      simp only [go_sem, simprocAttr]
      repeat refine kn rfl ?_
      refine k_ret rfl ?_
      refine post_one ?_ (.bool _) rfl
      try simp only [go_sem, simprocAttr]
      exact .refl _

end Go.Proofs.YtpoegdhgdgbmaaaGreatDoorR

/- Library functions of this translation, laid. -/
namespace Go.Proofs
open Go.Shelf
def Tryz.lays156_ren : Go.Shelf.Ren := ⟨fun | 156 => 92 | 165 => 120 | 166 => 121 | 169 => 122 | 240 => 163 | 241 => 164 | 276 => 180 | 277 => 181 | n => n, fun | 31 => 116 | 9 => 9 | 3 => 3 | 4 => 4 | 0 => 0 | 20 => 20 | 72 => 141 | 76 => 145 | 70 => 139 | 37 => 137 | 75 => 144 | 127 => 175 | 164 => 190 | 5 => 5 | 80 => 120 | n => n, fun | n => n⟩
theorem Tryz.lays156 : Go.Proofs.Lays.n156 Tryz.prog Tryz.lays156_ren := {
  mixed := by kernel_rfl
  f156 := Tryz.func92.trans (congrArg some (by kernel_rfl))
  f165 := Tryz.func120.trans (congrArg some (by kernel_rfl))
  f166 := Tryz.func121.trans (congrArg some (by kernel_rfl))
  f169 := Tryz.func122.trans (congrArg some (by kernel_rfl))
  f240 := Tryz.func163.trans (congrArg some (by kernel_rfl))
  f241 := Tryz.func164.trans (congrArg some (by kernel_rfl))
  f276 := Tryz.func180.trans (congrArg some (by kernel_rfl))
  f277 := Tryz.func181.trans (congrArg some (by kernel_rfl))
  t0 := Tryz.underlying0
  a0 := Tryz.isAgg0
  z0 := Tryz.sizeOf0
  v0 := Tryz.zeroValue0
  t3 := Tryz.underlying3
  a3 := Tryz.isAgg3
  z3 := Tryz.sizeOf3
  v3 := Tryz.zeroValue3
  t4 := Tryz.underlying4
  a4 := Tryz.isAgg4
  z4 := Tryz.sizeOf4
  v4 := Tryz.zeroValue4
  t9 := Tryz.underlying9
  a9 := Tryz.isAgg9
  z9 := Tryz.sizeOf9
  v9 := Tryz.zeroValue9
  t20 := Tryz.underlying20
  a20 := Tryz.isAgg20
  z20 := Tryz.sizeOf20
  v20 := Tryz.zeroValue20
  t31 := Tryz.underlying116
  a31 := Tryz.isAgg116
  z31 := Tryz.sizeOf116
  v31 := Tryz.zeroValue116
  t37 := Tryz.underlying137
  a37 := Tryz.isAgg137
  z37 := Tryz.sizeOf137
  v37 := Tryz.zeroValue137
  t70 := Tryz.underlying139
  a70 := Tryz.isAgg139
  z70 := Tryz.sizeOf139
  v70 := Tryz.zeroValue139
  t72 := Tryz.underlying141
  a72 := Tryz.isAgg141
  z72 := Tryz.sizeOf141
  v72 := Tryz.zeroValue141
  t75 := Tryz.underlying144
  a75 := Tryz.isAgg144
  z75 := Tryz.sizeOf144
  v75 := Tryz.zeroValue144
  t76 := Tryz.underlying145
  a76 := Tryz.isAgg145
  z76 := Tryz.sizeOf145
  v76 := Tryz.zeroValue145
  t127 := Tryz.underlying175
  a127 := Tryz.isAgg175
  z127 := Tryz.sizeOf175
  v127 := Tryz.zeroValue175
  t164 := Tryz.underlying190
  a164 := Tryz.isAgg190
  z164 := Tryz.sizeOf190
  v164 := Tryz.zeroValue190 }
theorem Tryz.Builder_Extra_156 : Builder.Extra Tryz.prog Tryz.lays156_ren := {
  sizeBuilder := by kernel_rfl
  liesBuilder := by kernel_rfl
  t5 := Tryz.underlying5
  a5 := Tryz.isAgg5
  z5 := Tryz.sizeOf5
  v5 := Tryz.zeroValue5
  infoByte := by kernel_rfl
  cellsByte := by kernel_rfl
  sizeByte := by kernel_rfl
  neB5 := by decide }
def Tryz.lays106_ren : Go.Shelf.Ren := ⟨fun | 106 => 50 | 213 => 86 | 265 => 118 | n => n, fun | 9 => 9 | 3 => 3 | n => n, fun | n => n⟩
theorem Tryz.lays106 : Go.Proofs.Lays.n106 Tryz.prog Tryz.lays106_ren := {
  mixed := by kernel_rfl
  f106 := Tryz.func50.trans (congrArg some (by kernel_rfl))
  f213 := Tryz.func86.trans (congrArg some (by kernel_rfl))
  f265 := Tryz.func118.trans (congrArg some (by kernel_rfl))
  t3 := Tryz.underlying3
  a3 := Tryz.isAgg3
  z3 := Tryz.sizeOf3
  v3 := Tryz.zeroValue3
  t9 := Tryz.underlying9
  a9 := Tryz.isAgg9
  z9 := Tryz.sizeOf9
  v9 := Tryz.zeroValue9 }
def Tryz.laysM171_ren : Go.Shelf.Ren := ⟨fun | 171 => 123 | 243 => 165 | 246 => 182 | 283 => 190 | 284 => 191 | 285 => 192 | 286 => 193 | 129 => 135 | 317 => 201 | 318 => 202 | 319 => 203 | 320 => 204 | 337 => 207 | 338 => 208 | n => n, fun | 3 => 3 | 9 => 9 | 2 => 2 | 4 => 4 | 171 => 199 | 0 => 0 | 53 => 159 | 37 => 137 | 5 => 5 | 173 => 201 | 212 => 211 | 51 => 157 | 20 => 20 | 213 => 212 | 46 => 128 | 232 => 215 | 233 => 216 | n => n, fun | 17 => 3 | 18 => 4 | 19 => 5 | n => n⟩
theorem Tryz.laysM171 : Go.Proofs.LaysM.n171 Tryz.prog Tryz.laysM171_ren := {
  mixed := by kernel_rfl
  f129 := Tryz.func135.trans (congrArg some (by kernel_rfl))
  f171 := Tryz.func123.trans (congrArg some (by kernel_rfl))
  f243 := Tryz.func165.trans (congrArg some (by kernel_rfl))
  f246 := Tryz.func182.trans (congrArg some (by kernel_rfl))
  f283 := Tryz.func190.trans (congrArg some (by kernel_rfl))
  f284 := Tryz.func191.trans (congrArg some (by kernel_rfl))
  f285 := Tryz.func192.trans (congrArg some (by kernel_rfl))
  f286 := Tryz.func193.trans (congrArg some (by kernel_rfl))
  f317 := Tryz.func201.trans (congrArg some (by kernel_rfl))
  f318 := Tryz.func202.trans (congrArg some (by kernel_rfl))
  f319 := Tryz.func203.trans (congrArg some (by kernel_rfl))
  f320 := Tryz.func204.trans (congrArg some (by kernel_rfl))
  f337 := Tryz.func207.trans (congrArg some (by kernel_rfl))
  f338 := Tryz.func208.trans (congrArg some (by kernel_rfl))
  t0 := Tryz.underlying0
  a0 := Tryz.isAgg0
  z0 := Tryz.sizeOf0
  v0 := Tryz.zeroValue0
  t2 := Tryz.underlying2
  a2 := Tryz.isAgg2
  z2 := Tryz.sizeOf2
  v2 := Tryz.zeroValue2
  t3 := Tryz.underlying3
  a3 := Tryz.isAgg3
  z3 := Tryz.sizeOf3
  v3 := Tryz.zeroValue3
  t4 := Tryz.underlying4
  a4 := Tryz.isAgg4
  z4 := Tryz.sizeOf4
  v4 := Tryz.zeroValue4
  t5 := Tryz.underlying5
  a5 := Tryz.isAgg5
  z5 := Tryz.sizeOf5
  v5 := Tryz.zeroValue5
  t9 := Tryz.underlying9
  a9 := Tryz.isAgg9
  z9 := Tryz.sizeOf9
  v9 := Tryz.zeroValue9
  t20 := Tryz.underlying20
  a20 := Tryz.isAgg20
  z20 := Tryz.sizeOf20
  v20 := Tryz.zeroValue20
  t37 := Tryz.underlying137
  a37 := Tryz.isAgg137
  z37 := Tryz.sizeOf137
  v37 := Tryz.zeroValue137
  t46 := Tryz.underlying128
  a46 := Tryz.isAgg128
  z46 := Tryz.sizeOf128
  v46 := Tryz.zeroValue128
  t51 := Tryz.underlying157
  a51 := Tryz.isAgg157
  z51 := Tryz.sizeOf157
  v51 := Tryz.zeroValue157
  t53 := Tryz.underlying159
  a53 := Tryz.isAgg159
  z53 := Tryz.sizeOf159
  v53 := Tryz.zeroValue159
  t171 := Tryz.underlying199
  a171 := Tryz.isAgg199
  z171 := Tryz.sizeOf199
  v171 := Tryz.zeroValue199
  t173 := Tryz.underlying201
  a173 := Tryz.isAgg201
  z173 := Tryz.sizeOf201
  v173 := Tryz.zeroValue201
  t212 := Tryz.underlying211
  a212 := Tryz.isAgg211
  z212 := Tryz.sizeOf211
  v212 := Tryz.zeroValue211
  t213 := Tryz.underlying212
  a213 := Tryz.isAgg212
  z213 := Tryz.sizeOf212
  t232 := Tryz.underlying215
  a232 := Tryz.isAgg215
  z232 := Tryz.sizeOf215
  v232 := Tryz.zeroValue215
  t233 := Tryz.underlying216
  a233 := Tryz.isAgg216
  z233 := Tryz.sizeOf216
  v233 := Tryz.zeroValue216
  g17 := by kernel_rfl
  g18 := by kernel_rfl
  g19 := by kernel_rfl
  i0 := by kernel_rfl
  i2 := by kernel_rfl
  i3 := by kernel_rfl
  i4 := by kernel_rfl
  i5 := by kernel_rfl
  i9 := by kernel_rfl
  i20 := by kernel_rfl
  i37 := by kernel_rfl
  i46 := by kernel_rfl
  i51 := by kernel_rfl
  i53 := by kernel_rfl
  i171 := by kernel_rfl
  i173 := by kernel_rfl
  i212 := by kernel_rfl
  i232 := by kernel_rfl
  i233 := by kernel_rfl
  m17 := by kernel_rfl
  m18 := by kernel_rfl
  m19 := by kernel_rfl }
def Tryz.lays144_ren : Go.Shelf.Ren := ⟨fun | 144 => 146 | 143 => 175 | 219 => 186 | 217 => 194 | 225 => 195 | 224 => 196 | 267 => 197 | 266 => 205 | 314 => 206 | n => n, fun | 9 => 9 | 4 => 4 | 3 => 3 | 5 => 5 | 46 => 128 | 146 => 213 | 51 => 157 | n => n, fun | 1 => 0 | n => n⟩
theorem Tryz.lays144 : Go.Proofs.Lays.n144 Tryz.prog Tryz.lays144_ren := {
  mixed := by kernel_rfl
  f143 := Tryz.func175.trans (congrArg some (by kernel_rfl))
  f144 := Tryz.func146.trans (congrArg some (by kernel_rfl))
  f217 := Tryz.func194.trans (congrArg some (by kernel_rfl))
  f219 := Tryz.func186.trans (congrArg some (by kernel_rfl))
  f224 := Tryz.func196.trans (congrArg some (by kernel_rfl))
  f225 := Tryz.func195.trans (congrArg some (by kernel_rfl))
  f266 := Tryz.func205.trans (congrArg some (by kernel_rfl))
  f267 := Tryz.func197.trans (congrArg some (by kernel_rfl))
  f314 := Tryz.func206.trans (congrArg some (by kernel_rfl))
  t3 := Tryz.underlying3
  a3 := Tryz.isAgg3
  z3 := Tryz.sizeOf3
  v3 := Tryz.zeroValue3
  t4 := Tryz.underlying4
  a4 := Tryz.isAgg4
  z4 := Tryz.sizeOf4
  v4 := Tryz.zeroValue4
  t5 := Tryz.underlying5
  a5 := Tryz.isAgg5
  z5 := Tryz.sizeOf5
  v5 := Tryz.zeroValue5
  t9 := Tryz.underlying9
  a9 := Tryz.isAgg9
  z9 := Tryz.sizeOf9
  v9 := Tryz.zeroValue9
  t46 := Tryz.underlying128
  a46 := Tryz.isAgg128
  z46 := Tryz.sizeOf128
  v46 := Tryz.zeroValue128
  t51 := Tryz.underlying157
  a51 := Tryz.isAgg157
  z51 := Tryz.sizeOf157
  v51 := Tryz.zeroValue157
  t146 := Tryz.underlying213
  a146 := Tryz.isAgg213
  z146 := Tryz.sizeOf213
  v146 := Tryz.zeroValue213
  g1 := by kernel_rfl }
end Go.Proofs
