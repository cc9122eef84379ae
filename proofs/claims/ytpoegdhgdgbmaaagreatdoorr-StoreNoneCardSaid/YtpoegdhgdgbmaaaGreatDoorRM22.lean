/- The store's functions at pointers that were not made. -/
import Derived.Test.YtpoegdhgdgbmaaaGreatDoorRM19
import Derived.Test.YtpoegdhgdgbmaaaGreatDoorRM18
import Derived.Test.YtpoegdhgdgbmaaaGreatDoorRM21
set_option linter.all false
namespace Go.Proofs.YtpoegdhgdgbmaaaGreatDoorR
open Go.Abs
set_option maxRecDepth 100000

/-- Nil, or a zero store. -/
def NotMade (n : Nat) (H : AHeap) (v : AV) : Prop := v = .nilp ∨ ∃ l b, l < n ∧ H l b = some (.box zeroCells) ∧ v = .ptr l b 0
theorem NotMade.full {n : Nat} {H : AHeap} {v : AV} (h : NotMade n H v) (L : List (Nat × ABlk)) : NotMade (n + 1) (full n L H) v := by
  rcases h with h | ⟨l, b, hl, hb, rfl⟩
  · exact .inl h
  · exact .inr ⟨l, b, by omega, by rw [full_lt hl]; exact hb, rfl⟩
theorem e55 {n : Nat} {H : AHeap} {v : AV} (h : NotMade n H v) : PC Tryz.prog n 55 [v] H (.bool false) := by
  rcases h with rfl | ⟨l, b, hl, hb, rfl⟩
  · exact a55n n H
  · exact a55z n H l b hl hb

theorem e24 (n : Nat) (H : AHeap) (v : AV) (h : NotMade n H v) : PC Tryz.prog n 24 [v] H (.int .i64 0) := by
  refine a_fun tok (fun_of Tryz.func24 rfl rfl) (by simp) fun B => ?_
  repeat refine kn rfl ?_
  refine k_region tok rfl (by kernel_rfl) ?_
  simp only [go_sem, simprocAttr]
  repeat refine kn rfl ?_
  refine k_region tok rfl (by kernel_rfl) ?_
  simp only [go_sem, simprocAttr]
  refine callH (fun_of Tryz.func55 rfl rfl) (e55 (h.full _)) (by simp only [go_sem, simprocAttr]) ?_
  simp only [go_sem, simprocAttr]
  repeat refine kn rfl ?_
  refine k_cond_t rfl (by simp only [go_sem, simprocAttr]) ?_
  repeat refine kn rfl ?_
  refine k_region tok rfl (by kernel_rfl) ?_
  simp only [go_sem, simprocAttr]
  repeat refine kn rfl ?_
  refine k_ret rfl ?_
  refine post_one ?_ (.int _ _) rfl
  try simp only [go_sem, simprocAttr]
  exact .refl _
theorem e23 (n : Nat) (H : AHeap) (v : AV) (h : NotMade n H v) (a : Am) : PC Tryz.prog n 23 [v, a.enc] H (.tup [.bool false, .int .i64 1]) := by
  refine a_fun tok (fun_of Tryz.func23 rfl rfl) (by simp) fun B => ?_
  repeat refine kn rfl ?_
  refine k_region tok rfl (by kernel_rfl) ?_
  simp only [go_sem, simprocAttr]
  repeat refine kn rfl ?_
  refine k_region tok rfl (by kernel_rfl) ?_
  simp only [go_sem, simprocAttr]
  refine callH (fun_of Tryz.func55 rfl rfl) (e55 (h.full _)) (by simp only [go_sem, simprocAttr]) ?_
  simp only [go_sem, simprocAttr]
  repeat refine kn rfl ?_
  refine k_cond_t rfl (by simp only [go_sem, simprocAttr]) ?_
  repeat refine kn rfl ?_
  refine k_region tok rfl (by kernel_rfl) ?_
  simp only [go_sem, simprocAttr]
  repeat refine kn rfl ?_
  refine k_ret rfl ?_
  exact post_two (.refl _) (.refl _) (.bool _) (.int _ _) rfl
theorem e26 (n : Nat) (H : AHeap) (v : AV) (h : NotMade n H v) (a : Am) : PC Tryz.prog n 26 [v, a.enc] H (.bool false) := by
  refine a_fun tok (fun_of Tryz.func26 rfl rfl) (by simp) fun B => ?_
  repeat refine kn rfl ?_
  refine k_region tok rfl (by kernel_rfl) ?_
  simp only [go_sem, simprocAttr]
  repeat refine kn rfl ?_
  refine k_region tok rfl (by kernel_rfl) ?_
  simp only [go_sem, simprocAttr]
  refine callH (fun_of Tryz.func55 rfl rfl) (e55 (h.full _)) (by simp only [go_sem, simprocAttr]) ?_
  simp only [go_sem, simprocAttr]
  repeat refine kn rfl ?_
  refine k_cond_t rfl (by simp only [go_sem, simprocAttr]) ?_
  repeat refine kn rfl ?_
  refine k_region tok rfl (by kernel_rfl) ?_
  simp only [go_sem, simprocAttr]
  repeat refine kn rfl ?_
  refine k_ret rfl ?_
  refine post_one ?_ (.bool _) rfl
  try simp only [go_sem, simprocAttr]
  exact .refl _
theorem e27 (n : Nat) (H : AHeap) (v : AV) (h : NotMade n H v) (i : Int) : PC Tryz.prog n 27 [v, .int .i64 i] H (.tup [(⟨[], []⟩ : Am).enc, .int .i64 1]) := by
  refine a_fun tok (fun_of Tryz.func27 rfl rfl) (by simp) fun B => ?_
  repeat refine kn rfl ?_
  refine k_region tok rfl (by kernel_rfl) ?_
  simp only [go_sem, simprocAttr]
  repeat refine kn rfl ?_
  refine k_region tok rfl (by kernel_rfl) ?_
  simp only [go_sem, simprocAttr]
  refine callH (fun_of Tryz.func55 rfl rfl) (e55 (h.full _)) (by simp only [go_sem, simprocAttr]) ?_
  simp only [go_sem, simprocAttr]
  repeat refine kn rfl ?_
  refine k_cond_t rfl (by simp only [go_sem, simprocAttr]) ?_
  repeat refine kn rfl ?_
  refine k_region tok rfl (by kernel_rfl) ?_
  simp only [go_sem, simprocAttr]
  repeat refine kn rfl ?_
  refine k_ret rfl ?_
  have hz : Wk (.agg [.str [], .sl 4 [] .full]) (Am.mk [] []).enc := .deep (.aggL ⟨.refl _, .nil _ _ _, trivial⟩)
  exact post_cell2 _ n 4 0 [.str [], .sl 4 [] .full] (by simp only [go_sem, simprocAttr]) (by simp only [go_sem, simprocAttr, Go.Abs.full]) rfl (Nat.le_refl _) (by simp only [go_sem, simprocAttr]) hz (by simp only [go_sem, simprocAttr]; exact .refl _) (Am.blw _ _) (.int _ _) rfl
theorem e30 (n : Nat) (H : AHeap) (v : AV) (h : NotMade n H v) (g : Sg) : PC Tryz.prog n 30 [v, g.enc] H (.sl 2 [] .any) := by
  refine a_fun tok (fun_of Tryz.func30 rfl rfl) (by simp) fun B => ?_
  repeat refine kn rfl ?_
  refine k_region tok rfl (by kernel_rfl) ?_
  simp only [go_sem, simprocAttr]
  repeat refine kn rfl ?_
  refine k_region tok rfl (by kernel_rfl) ?_
  simp only [go_sem, simprocAttr]
  refine callH (fun_of Tryz.func55 rfl rfl) (e55 (h.full _)) (by simp only [go_sem, simprocAttr]) ?_
  simp only [go_sem, simprocAttr]
  repeat refine kn rfl ?_
  refine k_cond_t rfl (by simp only [go_sem, simprocAttr]) ?_
  repeat refine kn rfl ?_
  refine k_region tok rfl (by kernel_rfl) ?_
  simp only [go_sem, simprocAttr]
  repeat refine kn rfl ?_
  refine k_ret rfl ?_
  exact post_one (.any _ _ _) (below_ams []) rfl
theorem e32 (n : Nat) (H : AHeap) (v : AV) (h : NotMade n H v) (g : Sg) (c : Int) (u : Tm) : PC Tryz.prog n 32 [v, g.enc, .int .i64 c, u.enc] H (.sl 2 [] .any) := by
  refine a_fun tok (fun_of Tryz.func32 rfl rfl) (by simp) fun B => ?_
  repeat refine kn rfl ?_
  refine k_region tok rfl (by kernel_rfl) ?_
  simp only [go_sem, simprocAttr]
  repeat refine kn rfl ?_
  refine k_region tok rfl (by kernel_rfl) ?_
  simp only [go_sem, simprocAttr]
  refine callH (fun_of Tryz.func55 rfl rfl) (e55 (h.full _)) (by simp only [go_sem, simprocAttr]) ?_
  simp only [go_sem, simprocAttr]
  repeat refine kn rfl ?_
  refine k_cond_t rfl (by simp only [go_sem, simprocAttr]) ?_
  repeat refine kn rfl ?_
  refine k_region tok rfl (by kernel_rfl) ?_
  simp only [go_sem, simprocAttr]
  repeat refine kn rfl ?_
  refine k_ret rfl ?_
  exact post_one (.any _ _ _) (below_ams []) rfl
theorem e33 (n : Nat) (H : AHeap) (v : AV) (h : NotMade n H v) : PC Tryz.prog n 33 [v] H (.sl 2 [] .any) := by
  refine a_fun tok (fun_of Tryz.func33 rfl rfl) (by simp) fun B => ?_
  repeat refine kn rfl ?_
  refine k_region tok rfl (by kernel_rfl) ?_
  simp only [go_sem, simprocAttr]
  repeat refine kn rfl ?_
  refine k_region tok rfl (by kernel_rfl) ?_
  simp only [go_sem, simprocAttr]
  refine callH (fun_of Tryz.func55 rfl rfl) (e55 (h.full _)) (by simp only [go_sem, simprocAttr]) ?_
  simp only [go_sem, simprocAttr]
  repeat refine kn rfl ?_
  refine k_cond_t rfl (by simp only [go_sem, simprocAttr]) ?_
  repeat refine kn rfl ?_
  refine k_region tok rfl (by kernel_rfl) ?_
  simp only [go_sem, simprocAttr]
  repeat refine kn rfl ?_
  refine k_ret rfl ?_
  exact post_one (.any _ _ _) (below_ams []) rfl
theorem e36 (n : Nat) (H : AHeap) (v : AV) (h : NotMade n H v) : PC Tryz.prog n 36 [v] H (.sl 2 [] .any) := by
  refine a_fun tok (fun_of Tryz.func36 rfl rfl) (by simp) fun B => ?_
  repeat refine kn rfl ?_
  refine k_region tok rfl (by kernel_rfl) ?_
  simp only [go_sem, simprocAttr]
  repeat refine kn rfl ?_
  refine k_region tok rfl (by kernel_rfl) ?_
  simp only [go_sem, simprocAttr]
  refine callH (fun_of Tryz.func55 rfl rfl) (e55 (h.full _)) (by simp only [go_sem, simprocAttr]) ?_
  simp only [go_sem, simprocAttr]
  repeat refine kn rfl ?_
  refine k_cond_t rfl (by simp only [go_sem, simprocAttr]) ?_
  repeat refine kn rfl ?_
  refine k_region tok rfl (by kernel_rfl) ?_
  simp only [go_sem, simprocAttr]
  repeat refine kn rfl ?_
  refine k_ret rfl ?_
  exact post_one (.any _ _ _) (below_ams []) rfl
theorem e34 (n : Nat) (H : AHeap) (v : AV) (h : NotMade n H v) : PC Tryz.prog n 34 [v] H .nilp := by
  refine a_fun tok (fun_of Tryz.func34 rfl rfl) (by simp) fun B => ?_
  repeat refine kn rfl ?_
  refine k_region tok rfl (by kernel_rfl) ?_
  simp only [go_sem, simprocAttr]
  repeat refine kn rfl ?_
  refine k_region tok rfl (by kernel_rfl) ?_
  simp only [go_sem, simprocAttr]
  refine callH (fun_of Tryz.func55 rfl rfl) (e55 (h.full _)) (by simp only [go_sem, simprocAttr]) ?_
  simp only [go_sem, simprocAttr]
  repeat refine kn rfl ?_
  refine k_cond_t rfl (by simp only [go_sem, simprocAttr]) ?_
  repeat refine kn rfl ?_
  refine k_region tok rfl (by kernel_rfl) ?_
  simp only [go_sem, simprocAttr]
  repeat refine kn rfl ?_
  refine k_ret rfl ?_
  exact post_one (.refl _) .nilp rfl
/-- As vcG_ft, not by unfolding alone (the kernel's comparison of a long row of unfoldings is dear). -/
theorem ft' (cx : Cx) (op : Opt) (o : Oper) (s : AState) (F : AState → Prop) : vcG cx op o s F false (.bool true) = F ⟨putT s.tmps o.dst (.tup []), s.L, s.H⟩ := (vcG_ft cx op o s F).trans rfl
/-- Nil, or a pointer to a lower level's place. -/
def PtrAt (n : Nat) (u : AV) : Prop := u = .nilp ∨ ∃ l b, l < n ∧ u = .ptr l b 0
theorem NotMade.at {n : Nat} {H : AHeap} {v : AV} (h : NotMade n H v) : PtrAt n v := h.imp id fun ⟨l, b, h1, _, h2⟩ => ⟨l, b, h1, h2⟩
theorem e35 (n : Nat) (H : AHeap) (v u : AV) (h : NotMade n H v) (hu : PtrAt n u) : PC Tryz.prog n 35 [v, u] H (.bool false) := by
  rcases hu with rfl | ⟨l, b, hl, rfl⟩
  · refine a_fun tok (fun_of Tryz.func35 rfl rfl) (by simp) fun B => ?_
    repeat refine kn rfl ?_
    refine k_region tok rfl (by kernel_rfl) ?_
    simp only [go_sem, simprocAttr]
    repeat refine kn rfl ?_
    refine k_draw tok mixed drawO rfl rfl (by kernel_rfl) (by kernel_rfl) ?_
    simp only [go_sem, simprocAttr]
    refine callH (fun_of Tryz.func55 rfl rfl) (e55 (h.full _)) (by simp only [go_sem, simprocAttr]) ?_
    simp only [go_sem, simprocAttr, ft']
    repeat refine kn rfl ?_
    refine k_cond_t rfl (by simp only [go_sem, simprocAttr]) ?_
    repeat refine kn rfl ?_
    refine k_region tok rfl (by kernel_rfl) ?_
    simp only [go_sem, simprocAttr]
    repeat refine kn rfl ?_
    refine k_ret rfl ?_
    refine post_one ?_ (.bool _) rfl
    try simp only [go_sem, simprocAttr]
    exact .refl _
  · refine a_fun tok (fun_of Tryz.func35 rfl rfl) (by simp) fun B => ?_
    repeat refine kn rfl ?_
    refine k_region tok rfl (by kernel_rfl) ?_
    simp only [go_sem, simprocAttr]
    repeat refine kn rfl ?_
    refine k_draw tok mixed drawO rfl rfl (by kernel_rfl) (by kernel_rfl) ?_
    simp only [go_sem, simprocAttr]
    refine callH (fun_of Tryz.func55 rfl rfl) (e55 (h.full _)) (by simp only [go_sem, simprocAttr]) ?_
    simp only [go_sem, simprocAttr, ft']
    repeat refine kn rfl ?_
    refine k_cond_t rfl (by simp only [go_sem, simprocAttr]) ?_
    repeat refine kn rfl ?_
    refine k_region tok rfl (by kernel_rfl) ?_
    simp only [go_sem, simprocAttr]
    repeat refine kn rfl ?_
    refine k_ret rfl ?_
    refine post_one ?_ (.bool _) rfl
    try simp only [go_sem, simprocAttr]
    exact .refl _
theorem e35r (n : Nat) (H : AHeap) (v : AV) (l b : Nat) (s : Sto) (hl : l < n) (hs : HasSto H l b s) (h : NotMade n H v) : PC Tryz.prog n 35 [.ptr l b 0, v] H (.bool false) := by
  have h' := h
  rcases h with rfl | ⟨l2, b2, hl2, hb2, rfl⟩
  · refine a_fun tok (fun_of Tryz.func35 rfl rfl) (by simp) fun B => ?_
    repeat refine kn rfl ?_
    refine k_region tok rfl (by kernel_rfl) ?_
    simp only [go_sem, simprocAttr]
    repeat refine kn rfl ?_
    refine k_draw tok mixed drawO rfl rfl (by kernel_rfl) (by kernel_rfl) ?_
    simp only [go_sem, simprocAttr]
    refine callH (fun_of Tryz.func55 rfl rfl) (a55 (n + 1) _ l b s (by omega) (hs.full hl _)) (by simp only [go_sem, simprocAttr]) ?_
    simp only [go_sem, simprocAttr]
    refine callH (fun_of Tryz.func55 rfl rfl) (e55 (h'.full _)) (by simp only [go_sem, simprocAttr]) ?_
    simp only [go_sem, simprocAttr, ft']
    repeat refine kn rfl ?_
    refine k_cond_t rfl (by simp only [go_sem, simprocAttr]) ?_
    repeat refine kn rfl ?_
    refine k_region tok rfl (by kernel_rfl) ?_
    simp only [go_sem, simprocAttr]
    repeat refine kn rfl ?_
    refine k_ret rfl ?_
    refine post_one ?_ (.bool _) rfl
    try simp only [go_sem, simprocAttr]
    exact .refl _
  · refine a_fun tok (fun_of Tryz.func35 rfl rfl) (by simp) fun B => ?_
    repeat refine kn rfl ?_
    refine k_region tok rfl (by kernel_rfl) ?_
    simp only [go_sem, simprocAttr]
    repeat refine kn rfl ?_
    refine k_draw tok mixed drawO rfl rfl (by kernel_rfl) (by kernel_rfl) ?_
    simp only [go_sem, simprocAttr]
    refine callH (fun_of Tryz.func55 rfl rfl) (a55 (n + 1) _ l b s (by omega) (hs.full hl _)) (by simp only [go_sem, simprocAttr]) ?_
    simp only [go_sem, simprocAttr]
    refine callH (fun_of Tryz.func55 rfl rfl) (e55 (h'.full _)) (by simp only [go_sem, simprocAttr]) ?_
    simp only [go_sem, simprocAttr, ft']
    repeat refine kn rfl ?_
    refine k_cond_t rfl (by simp only [go_sem, simprocAttr]) ?_
    repeat refine kn rfl ?_
    refine k_region tok rfl (by kernel_rfl) ?_
    simp only [go_sem, simprocAttr]
    repeat refine kn rfl ?_
    refine k_ret rfl ?_
    refine post_one ?_ (.bool _) rfl
    try simp only [go_sem, simprocAttr]
    exact .refl _
end Go.Proofs.YtpoegdhgdgbmaaaGreatDoorR

/- The law StoreNone. -/
namespace Go.Proofs.YtpoegdhgdgbmaaaGreatDoorR
open Go.Abs
set_option maxRecDepth 100000

def noneG : Sg := ⟨[110, 111, 110, 101, 32, 111, 102, 32, 116, 104, 101, 115, 101], 1⟩
theorem sym_none : sym noneG.p = false := by decide
theorem find_none (A : List Am) (hv : ∀ a ∈ A, validA a = true) (c : Int) (v : Tm) : findR A noneG c v = [] := by
  unfold findR
  rw [List.filter_eq_nil_iff]
  intro a ha h
  simp only [findP, Bool.and_eq_true, beq_iff_eq] at h
  have h1 := (validA_cases (hv a ha)).1
  have h2 : a.pred = noneG.p := congrArg Sg.p h.1.1.1
  rw [h2, sym_none] at h1
  exact absurd h1 (by simp)
theorem add_any (a : Am) : (addT sto0 a).1.A.any (eqA · a) = validA a := by
  have e : (addT sto0 a).1.A = (addR [] a).1 := congrArg Prod.fst (ok0.addT_eq a)
  rw [e]
  unfold addR
  cases h : validA a with
  | false => simp
  | true => simp [eqA_self]

def st9 (n : Nat) (xs : List AV) (a : Am) (v : Tm) (c : Int) (s : Sto) (H : AHeap) (i : Nat) : AState :=
  ⟨[(10, .int .i64 i), (9, .sl 1 xs .full), (7, .ptr n 0 0), (3, .ptr (n + 1) 3 0), (4, .ptr (n + 1) 4 0), (2, .int .i64 c)], [(3, .box a.cs), (4, .box v.cs), (33, .box zeroCells)], put (cutH n H) n 0 s⟩

theorem a9 (a : Am) (v : Tm) (c : Int) (ha : NmA a) (hv : v.Nm) : PureT Tryz.prog 9 [a.enc, v.enc, .int .i64 c] (.bool true) := by
  intro n H hn hT
  have hTc := hT.cut hn
  have hfr := FreeAt.cut n n H (Nat.le_refl _) 0
  refine PC.up 1 (.bool _) ?_
  refine a_fun tok (fun_of Tryz.func9 rfl rfl) (by simp) fun B => ?_
  repeat refine kn rfl ?_
  refine k_region tok rfl (by kernel_rfl) ?_
  simp only [go_sem, simprocAttr]
  repeat refine kn rfl ?_
  refine k_region tok rfl (by kernel_rfl) ?_
  simp only [go_sem, simprocAttr]
  refine callT (fun_of Tryz.func12 rfl rfl) a12 (Nat.succ_pos _) hTc (by simp only [go_sem, simprocAttr]) ?_
  simp only [go_sem, simprocAttr]
  repeat refine kn rfl ?_
  refine k_cond_f rfl (by simp only [go_sem, simprocAttr]) ?_
  repeat refine kn rfl ?_
  refine k_region tok rfl (by kernel_rfl) ?_
  simp only [go_sem, simprocAttr]
  refine ⟨by decide, ?_⟩
  refine callP (fun_of Tryz.func10 rfl rfl) (a10o [a] .full) (by simp only [go_sem, simprocAttr]) ?_
  simp only [go_sem, simprocAttr]
  cases h2 : great [a] with
  | true =>
    simp only [go_sem, simprocAttr, h2]
    repeat refine kn rfl ?_
    refine k_cond_t rfl (by simp only [go_sem, simprocAttr]) ?_
    repeat refine kn rfl ?_
    refine k_region tok rfl (by kernel_rfl) ?_
    simp only [go_sem, simprocAttr]
    repeat refine kn rfl ?_
    refine k_ret rfl ?_
    exact post_oneQ (.refl _) (.bool _) ⟨rfl, fun l' k h => by simp only [cutH, if_pos h]⟩
  | false =>
  simp only [go_sem, simprocAttr, h2]
  refine callP (fun_of Tryz.func11 rfl rfl) (a11 v 2000 (by decide) (by decide)) (by simp only [go_sem, simprocAttr]) ?_
  simp only [go_sem, simprocAttr]
  simp only [go_sem, simprocAttr, cut_le]
  cases h3 : decide ((2000 : Int) < (v.sz : Int)) with
  | true =>
    repeat refine kn rfl ?_
    refine k_cond_t rfl (by simp only [go_sem, simprocAttr, h3]) ?_
    repeat refine kn rfl ?_
    refine k_region tok rfl (by kernel_rfl) ?_
    simp only [go_sem, simprocAttr]
    repeat refine kn rfl ?_
    refine k_ret rfl ?_
    exact post_oneQ (.refl _) (.bool _) ⟨rfl, fun l' k h => by simp only [cutH, if_pos h]⟩
  | false =>
  obtain ⟨hg3, _, _⟩ := great_good h2 (by simpa using ha)
  have hga : a.Good := hg3 a (by simp)
  have hgv : v.Good := ⟨by simp at h3; omega, hv⟩
  repeat refine kn rfl ?_
  refine k_cond_f rfl (by simp only [go_sem, simprocAttr, h3]) ?_
  repeat refine kn rfl ?_
  refine k_region tok rfl (by kernel_rfl) ?_
  simp only [go_sem, simprocAttr]
  refine call22 rfl n 0 (Nat.lt_succ_self n) hfr (by simp only [go_sem, simprocAttr]) ?_
  simp only [go_sem, simprocAttr]
  repeat refine kn rfl ?_
  refine k_region tok rfl (by kernel_rfl) ?_
  simp only [go_sem, simprocAttr]
  refine call23 rfl n 0 sto0 a rfl (Nat.lt_succ_self n) hfr ok0.fit hga (Nat.succ_pos _) hTc (by simp only [go_sem, simprocAttr]) ?_
  simp only [go_sem, simprocAttr]
  repeat refine kn rfl ?_
  refine k_region tok rfl (by kernel_rfl) ?_
  simp only [go_sem, simprocAttr]
  repeat refine kn rfl ?_
  refine k_region tok rfl (by kernel_rfl) ?_
  simp only [go_sem, simprocAttr]
  refine ⟨by decide, ?_⟩
  repeat refine kn rfl ?_
  refine k_region tok rfl (by kernel_rfl) ?_
  simp only [go_sem, simprocAttr]
  repeat refine kn rfl ?_
  have hos := ok0.addT hga
  have hany := add_any a
  have hTp := hTc.put hfr (addT sto0 a).1
  have hst := HasSto.put (cutH n H) n 0 (addT sto0 a).1
  generalize (addT sto0 a).1 = s at *
  have hpi : ∀ q, Inside (n + 1) q (.ptr n 0 0) := fun q => .ptr _ _ _ (.inl (Nat.lt_succ_self n))
  obtain ⟨xs, hxs⟩ : ∃ xs, xs = [AV.nilp, .ptr (n + 1) 33 0] := ⟨_, rfl⟩
  rw [← hxs]
  have hxl : xs.length = 2 := by rw [hxs]; rfl
  have hxc : ∀ i, i < 2 → ∃ u, xs.getD i .dead = u ∧ u.cells = [u] ∧ PtrAt (n + 1 + 1) u ∧ ∀ L H', lkb L 33 = some (.box zeroCells) → NotMade (n + 1 + 1) (Go.Abs.full (n + 1) L H') u := by
    intro i hi
    subst hxs
    rcases i with _ | _ | i
    · exact ⟨.nilp, rfl, rfl, .inl rfl, fun _ _ _ => .inl rfl⟩
    · exact ⟨.ptr (n + 1) 33 0, rfl, rfl, .inr ⟨n + 1, 33, by omega, rfl⟩, fun L H' hL => .inr ⟨n + 1, 33, by omega, by unfold Go.Abs.full; rw [if_pos rfl]; exact hL, rfl⟩⟩
    · omega
  have hxi : ∀ q : Nat → Prop, q 33 → Inside (n + 1) q (.sl 1 xs .full) := fun q hq => by
    subst hxs
    refine .sl _ _ _ (fun i hi j hj => ?_) (fun l j e => by cases e)
    rcases i with _ | _ | i
    · simp only [List.getElem_cons_zero, AV.cells, List.length_singleton] at hj ⊢
      obtain rfl : j = 0 := by omega
      exact .nilp
    · simp only [List.getElem_cons_succ, List.getElem_cons_zero, AV.cells, List.length_singleton] at hj ⊢
      obtain rfl : j = 0 := by omega
      exact .ptr _ _ _ (.inr ⟨rfl, hq⟩)
    · simp only [List.length_cons, List.length_nil] at hi; omega
  have hz : ∀ q : Nat → Prop, Inside (n + 1) q (.sl 2 [] .full) := fun q => .sl _ _ _ (fun i hi => absurd hi (Nat.not_lt_zero _)) (fun l j e => by cases e)
  clear hxs
  refine k_loop_ix (st9 n xs a v c s H) 2 rfl ?_ ?_
  · refine AWk_kept ?_ ?_ ?_ ?_ <;> repeat' first | exact trivial | refine q0 ?_ | exact qb | exact q1 | exact q2 | exact q3 | exact rfl | refine And.intro ?_ ?_ | exact q4 | exact q5 | exact q6 | exact q7 | exact Inside.ptr _ _ _ (.inr ⟨rfl, rfl⟩) | exact q8 | exact q9 | exact qd | exact Tm.ins _ | exact Tm.inss _ _ | exact Am.ins _ | exact Am.inss _ _ | refine ins_buf_str ?_ | refine Tm.ins_buf ?_ | refine Am.ins_buf ?_ | exact qf
    all_goals first | exact hpi _ | exact hxi _ rfl | exact hz _ | skip
  intro i hi
  refine k_st rfl ?_
  rcases Nat.lt_or_ge i 2 with h | h
  · have hi2 : (i : Int) < 2 := by omega
    obtain ⟨u, hu, huc, hua, hun⟩ := hxc i h
    repeat refine kn rfl ?_
    refine k_region tok rfl (by kernel_rfl) ?_
    simp only [go_sem, simprocAttr, hi2]
    repeat refine kn rfl ?_
    refine k_cond_t rfl (by simp only [go_sem, simprocAttr]) ?_
    repeat refine kn rfl ?_
    refine k_region tok rfl (by kernel_rfl) ?_
    simp only [go_sem, simprocAttr, hxl, hu, huc]
    refine ⟨hi2, ?_⟩
    repeat refine kn rfl ?_
    refine k_region tok rfl (by kernel_rfl) ?_
    simp only [go_sem, simprocAttr]
    repeat refine kn rfl ?_
    refine k_region tok rfl (by kernel_rfl) ?_
    simp only [go_sem, simprocAttr]
    refine callH (fun_of Tryz.func23 rfl rfl) (e23 (n + 1 + 1) _ u (hun _ _ rfl) a) (by simp only [go_sem, simprocAttr]) ?_
    simp only [go_sem, simprocAttr]
    repeat refine kn rfl ?_
    refine k_region tok rfl (by kernel_rfl) ?_
    simp only [go_sem, simprocAttr]
    refine callH (fun_of Tryz.func27 rfl rfl) (e27 (n + 1 + 1) _ u (hun _ _ rfl) c) (by simp only [go_sem, simprocAttr]) ?_
    simp only [go_sem, simprocAttr]
    repeat refine kn rfl ?_
    refine k_draw tok mixed drawO rfl rfl (by kernel_rfl) (by kernel_rfl) ?_
    simp only [go_sem, simprocAttr, bne_self_eq_false, List.append_eq]
    refine callP (fun_of Tryz.func28 rfl rfl) (z28) (by simp only [go_sem, simprocAttr, eqA_self, Bool.not_true]) ?_
    simp only [go_sem, simprocAttr, eqA_self, Bool.not_true]
    refine callH (fun_of Tryz.func26 rfl rfl) (e26 (n + 1 + 1) _ u (hun _ _ rfl) a) (by simp only [go_sem, simprocAttr]) ?_
    simp only [go_sem, simprocAttr]
    refine callH (fun_of Tryz.func24 rfl rfl) (e24 (n + 1 + 1) _ u (hun _ _ rfl)) (by simp only [go_sem, simprocAttr]) ?_
    simp only [go_sem, simprocAttr, bne_self_eq_false]
    refine callH (fun_of Tryz.func36 rfl rfl) (e36 (n + 1 + 1) _ u (hun _ _ rfl)) (by simp only [go_sem, simprocAttr]) ?_
    simp only [go_sem, simprocAttr]
    refine callH (fun_of Tryz.func30 rfl rfl) (e30 (n + 1 + 1) _ u (hun _ _ rfl) a.sg) (by simp only [go_sem, simprocAttr, Am.sg]) ?_
    simp only [go_sem, simprocAttr]
    refine callH (fun_of Tryz.func32 rfl rfl) (e32 (n + 1 + 1) _ u (hun _ _ rfl) a.sg c v) (by simp only [go_sem, simprocAttr, Am.sg]) ?_
    simp only [go_sem, simprocAttr]
    refine callH (fun_of Tryz.func33 rfl rfl) (e33 (n + 1 + 1) _ u (hun _ _ rfl)) (by simp only [go_sem, simprocAttr]) ?_
    simp only [go_sem, simprocAttr, show IntKind.i64.wrap 0 = 0 from rfl, bne_self_eq_false]
    refine callH (fun_of Tryz.func34 rfl rfl) (e34 (n + 1 + 1) _ u (hun _ _ rfl)) (by simp only [go_sem, simprocAttr]) ?_
    simp only [go_sem, simprocAttr, bne_self_eq_false]
    refine callH (fun_of Tryz.func35 rfl rfl) (e35 (n + 1 + 1) _ u (.ptr n 0 0) (hun _ _ rfl) (.inr ⟨n, 0, by omega, rfl⟩)) (by simp only [go_sem, simprocAttr]) ?_
    simp only [go_sem, simprocAttr]
    refine callH (fun_of Tryz.func35 rfl rfl) (e35r (n + 1 + 1) _ u n 0 s (by omega) (hst.full (Nat.lt_succ_self n) _) (hun _ _ rfl)) (by simp only [go_sem, simprocAttr]) ?_
    simp only [go_sem, simprocAttr]
    refine callH (fun_of Tryz.func35 rfl rfl) (e35 (n + 1 + 1) _ u u (hun _ _ rfl) hua) (by simp only [go_sem, simprocAttr]) ?_
    simp only [go_sem, simprocAttr]
    repeat refine kn rfl ?_
    refine k_cond_f rfl (by simp only [go_sem, simprocAttr]) ?_
    repeat refine kn rfl ?_
    refine k_region tok rfl (by kernel_rfl) ?_
    simp only [go_sem, simprocAttr]
    repeat refine kn rfl ?_
    refine k_nil ?_
    refine ⟨h, ?_⟩
    refine AWk_kept ?_ ?_ ?_ ?_ <;> repeat' first | exact trivial | refine q0 ?_ | exact qb | exact q1 | exact q2 | exact q3 | exact rfl | refine And.intro ?_ ?_ | exact q4 | exact q5 | exact q6 | exact q7 | exact Inside.ptr _ _ _ (.inr ⟨rfl, rfl⟩) | exact q8 | exact q9 | exact qd | exact Tm.ins _ | exact Tm.inss _ _ | exact Am.ins _ | exact Am.inss _ _ | refine ins_buf_str ?_ | refine Tm.ins_buf ?_ | refine Am.ins_buf ?_ | exact qf
    all_goals first | exact hpi _ | exact hxi _ rfl | exact hz _ | skip
    simp only [go_sem, simprocAttr]
    rw [IntWalk.i64_in _ (by omega)]; exact .refl _
  · have hi2 : ¬ (i : Int) < 2 := by omega
    repeat refine kn rfl ?_
    refine k_region tok rfl (by kernel_rfl) ?_
    simp only [go_sem, simprocAttr, hi2]
    repeat refine kn rfl ?_
    refine k_cond_f rfl (by simp only [go_sem, simprocAttr]) ?_
    repeat refine kn rfl ?_
    refine k_exit_round rfl rfl rfl ?_
    repeat refine kn rfl ?_
    refine k_draw tok mixed drawO rfl rfl (by kernel_rfl) (by kernel_rfl) ?_
    simp only [go_sem, simprocAttr]
    refine callT (fun_of Tryz.func14 rfl rfl) (a14 a hga) (Nat.succ_pos _) hTp (by simp only [go_sem, simprocAttr]) ?_
    simp only [go_sem, simprocAttr]
    refine callH (fun_of Tryz.func26 rfl rfl) (a26 (n + 1 + 1) _ n 0 s a (by omega) (hst.full (Nat.lt_succ_self n) _) hga (Nat.succ_pos _) (hTp.full (Nat.succ_pos _))) (by simp only [go_sem, simprocAttr]) ?_
    rw [hos.has', hany]
    simp only [go_sem, simprocAttr, beq_self_eq_true]
    refine callT (fun_of Tryz.func37 rfl rfl) (a37 v hgv) (Nat.succ_pos _) hTp (by simp only [go_sem, simprocAttr]) ?_
    have hix := hos.ixR (⟨noneG, 0, txt v⟩ : Ak)
    cases h5 : valueT v with
    | false =>
      simp only [go_sem, simprocAttr]
      repeat refine kn rfl ?_
      refine k_ret rfl ?_
      exact post_oneQ (.refl _) (.bool _) ⟨rfl, put_cut (Nat.le_refl n)⟩
    | true =>
      simp only [go_sem, simprocAttr]
      refine callH (fun_of Tryz.func32 rfl rfl) (a32 (n + 1 + 1) _ n 0 s noneG 0 v hgv (by omega) (hst.full (Nat.lt_succ_self n) _) hos.g (Nat.succ_pos _) (hTp.full (Nat.succ_pos _)) hix.1 hix.2) (by simp only [go_sem, simprocAttr, noneG]) ?_
      rw [hos.find', find_none _ hos.v]
      simp only [go_sem, simprocAttr, beq_self_eq_true]
      repeat refine kn rfl ?_
      refine k_ret rfl ?_
      exact post_oneQ (.refl _) (.bool _) ⟨rfl, put_cut (Nat.le_refl n)⟩
end Go.Proofs.YtpoegdhgdgbmaaaGreatDoorR
