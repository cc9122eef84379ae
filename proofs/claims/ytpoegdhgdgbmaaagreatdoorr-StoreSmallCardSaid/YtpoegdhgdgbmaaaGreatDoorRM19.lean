/- The store's Sorted. -/
import Derived.Test.YtpoegdhgdgbmaaaGreatDoorRM18
import Derived.Test.YtpoegdhgdgbmaaaGreatDoorRM15
import Derived.Test.YtpoegdhgdgbmaaaGreatDoorRM16
set_option linter.all false
namespace Go.Proofs.YtpoegdhgdgbmaaaGreatDoorR
open Go.Abs
set_option maxRecDepth 100000

def st63m (n : Nat) (l : List Am) (o : Own) (H : AHeap) (i : Nat) : AState :=
  ⟨[(10, .int .i64 i), (8, .sl 2 (l.map Am.enc) o), (9, .int .i64 l.length), (5, .msl 2 n 200 i), (1, .fn (.func 59) [])], [(200, .mbuf 25 2 (fl Am.cs (l.take i)) i)], H⟩

/-- Copies of atoms, in a slice that may be written. -/
theorem a63m (n : Nat) (H : AHeap) (l : List Am) (o : Own) (hlen : l.length ≤ 1000000) (hg : GoodL l) (l2 k2 : Nat) (hl2 : l2 < n) (hf : H l2 k2 = none) (ho : ∀ q, Inside n q (.sl 2 (l.map Am.enc) o)) (hn : 0 < n) (hT : Tabs H) :
    ACalls Tryz.prog n 63 [.sl 2 (l.map Am.enc) o, .fn (.func 59) []] H (fun r H' => r = .msl 2 l2 k2 l.length ∧ H' = H.upd l2 k2 (.mbuf 25 2 (fl Am.cs l) l.length)) := by
  have hfi : ∀ q, Inside n q (.fn (.func 59) []) := fun q => Inside.fn _ _ (fun i h => absurd h (Nat.not_lt_zero _))
  refine a_fun tok (fun_of Tryz.func63 rfl rfl) (by simp) fun B => ?_
  repeat refine kn rfl ?_
  refine k_region tok rfl (by kernel_rfl) ?_
  simp only [go_sem, simprocAttr]
  repeat refine kn rfl ?_
  refine k_region tok rfl (by kernel_rfl) ?_
  simp only [go_sem, simprocAttr]
  repeat refine kn rfl ?_
  refine k_region tok rfl (by kernel_rfl) ?_
  simp only [go_sem, simprocAttr]
  repeat refine kn rfl ?_
  refine k_adopt_m 5 200 25 2 rfl rfl ?_
  refine k_loop_ix (st63m n l o H) l.length rfl ?_ ?_
  · refine AWk_kept ?_ ?_ ?_ ?_ <;> repeat' first | exact trivial | refine q0 ?_ | exact qb | exact q1 | exact q2 | exact q3 | exact rfl | refine And.intro ?_ ?_ | exact q4 | exact q5 | exact q6 | exact q7 | exact Inside.ptr _ _ _ (.inr ⟨rfl, rfl⟩) | exact q8 | exact q9 | exact qd | exact Tm.ins _ | exact Tm.inss _ _ | exact Am.ins _ | exact Am.inss _ _ | refine ins_buf_str ?_ | refine Tm.ins_buf ?_ | refine Am.ins_buf ?_ | exact qf
    all_goals first | exact insM rfl | exact insFA _ | exact allFA _ | exact hfi _ | exact ho _ | skip
  intro i hi
  refine k_st rfl ?_
  rcases Nat.lt_or_ge i l.length with h | h
  · repeat refine kn rfl ?_
    refine k_region tok rfl (by kernel_rfl) ?_
    simp only [go_sem, simprocAttr, h]
    repeat refine kn rfl ?_
    refine k_cond_t rfl (by simp only [go_sem, simprocAttr]) ?_
    repeat refine kn rfl ?_
    refine k_region tok rfl (by kernel_rfl) ?_
    simp only [go_sem, simprocAttr, Am.getD_enc _ _ h, h]
    repeat refine kn rfl ?_
    refine k_region tok rfl (by kernel_rfl) ?_
    simp only [go_sem, simprocAttr]
    refine callV (avs := [l[i].enc]) rfl (fun_of Tryz.func59 rfl rfl) (by rw [List.append_nil]; exact a59 l[i] (hg _ (List.getElem_mem h)) _ _ (Nat.succ_pos _) (hT.full hn)) rfl ?_
    simp only [go_sem, simprocAttr]
    refine ⟨by first | exact ⟨rfl, by decide⟩ | exact rfl, ⟨le_maxLen (by omega), by omega⟩, ?_⟩
    repeat refine kn rfl ?_
    refine k_region tok rfl (by kernel_rfl) ?_
    simp only [go_sem, simprocAttr]
    repeat refine kn rfl ?_
    refine k_nil ?_
    refine AWk_kept ?_ ?_ ?_ ?_ <;> repeat' first | exact trivial | refine q0 ?_ | exact qb | exact q1 | exact q2 | exact q3 | exact rfl | refine And.intro ?_ ?_ | exact q4 | exact q5 | exact q6 | exact q7 | exact Inside.ptr _ _ _ (.inr ⟨rfl, rfl⟩) | exact q8 | exact q9 | exact qd | exact Tm.ins _ | exact Tm.inss _ _ | exact Am.ins _ | exact Am.inss _ _ | refine ins_buf_str ?_ | refine Tm.ins_buf ?_ | refine Am.ins_buf ?_ | exact qf
    all_goals first | exact insM rfl | exact insFA _ | exact allFA _ | exact hfi _ | exact ho _ | skip
    · simp only [go_sem, simprocAttr]
      rw [IntWalk.i64_in _ (by omega)]; exact .refl _
    · rw [List.take_succ_eq_append_getElem h, fl_append]
      simp only [go_sem, simprocAttr, flat_cons, flat_nil, fl, List.flatMap_cons, List.flatMap_nil]
  · repeat refine kn rfl ?_
    refine k_region tok rfl (by kernel_rfl) ?_
    simp only [go_sem, simprocAttr, Nat.not_lt.2 h]
    repeat refine kn rfl ?_
    refine k_cond_f rfl (by simp only [go_sem, simprocAttr]) ?_
    repeat refine kn rfl ?_
    refine k_exit_round rfl rfl rfl ?_
    have hi' : i = l.length := by omega
    subst hi'
    repeat refine kn rfl ?_
    refine k_region tok rfl (by kernel_rfl) ?_
    simp only [go_sem, simprocAttr, List.take_length]
    repeat refine kn rfl ?_
    have hne : ¬ l2 = n := by omega
    refine k_give 200 l2 k2 _ [(4, .msl 2 l2 k2 l.length)] hl2 hf rfl ⟨fun a ha => ?_, by simp [ABlk.at_]⟩ ⟨⟨.inr (.inr (.inr ⟨2, _, rfl⟩)), by simp [lkv, ren]; exact .refl _⟩, trivial⟩ trivial ?_
    · obtain ⟨u, _, hu⟩ := List.mem_flatMap.1 ha
      exact u.bcs.mem _ hu
    repeat refine kn rfl ?_
    refine k_ret rfl ?_
    exact post_oneQ (.refl _) (.msl _ _ _ _ hl2) ⟨rfl, rfl⟩

theorem Am.cs1 : ∀ x : Am, ∀ c ∈ x.cs, c.one = true := fun x c hc => by
  simp only [Am.cs, List.mem_cons, List.not_mem_nil, or_false] at hc
  rcases hc with rfl | rfl <;> rfl
theorem Sg.cs1 : ∀ x : Sg, ∀ c ∈ x.cs, c.one = true := fun x c hc => by
  simp only [Sg.cs, List.mem_cons, List.not_mem_nil, or_false] at hc
  rcases hc with rfl | rfl <;> rfl

/-- The library's sort, at atoms. -/
theorem a64 (n : Nat) (H : AHeap) (l j sz0 : Nat) (A : List Am) (hl : l < n) (hg : GoodL A) (hlen : A.length ≤ 1000000) (hH : H l j = some (.mbuf 25 2 (fl Am.cs A) A.length)) :
    ACalls Tryz.prog n 64 [.msl sz0 l j A.length, .fn (.func 16) []] H (fun r H' => r = .tup [] ∧ H' = H.upd l j (.mbuf 25 2 (fl Am.cs (sortB ltA A)) A.length)) := by
  have h := msl_sort (P := Tryz.prog) (ρ := Tryz.sort64_ren) Tryz.sort64 2 (by decide) Tryz.isAgg25 Tryz.sizeOf25 Am.cs Am.cs2 Am.cs1 (fun x => x.bcs.mem) cmpA Am.Good swoA 16 _ _ (fun_of Tryz.func16 rfl rfl) (fun x y hx hy => a16 x y hx hy) n H l j 25 sz0 A hl hg hH (by omega)
  refine ACalls.mono h ?_
  rintro r H' ⟨rfl, ys, hp, ha, rfl⟩
  rw [sortA_unique hg hp ha]
  have : (sortB ltA A).length = A.length := (sortB_perm ltA A).length_eq
  rw [this]
  exact ⟨rfl, rfl⟩

theorem a33 (n : Nat) (H : AHeap) (l b : Nat) (s : Sto) (hl : l < n) (hs : HasSto H l b s) (ho : Ok s) (hn : 0 < n) (hT : Tabs H) : PC Tryz.prog n 33 [.ptr l b 0] H (.sl 2 ((sortB ltA s.A).map Am.enc) .any) := by
  have hne : ¬ l = n := by omega
  have hb := hs.box
  have hA := ho.A
  obtain ⟨o, hoA, hoi⟩ := atomsCell_eq l b s.A
  refine a_fun tok (fun_of Tryz.func33 rfl rfl) (by simp) fun B => ?_
  repeat refine kn rfl ?_
  refine k_region tok rfl (by kernel_rfl) ?_
  simp only [go_sem, simprocAttr]
  repeat refine kn rfl ?_
  refine k_region tok rfl (by kernel_rfl) ?_
  simp only [go_sem, simprocAttr]
  refine callH (fun_of Tryz.func55 rfl rfl) (a55 (n + 1) _ l b s (by omega) (hs.full hl _)) (by simp only [go_sem, simprocAttr]) ?_
  simp only [go_sem, simprocAttr]
  repeat refine kn rfl ?_
  refine k_cond_f rfl (by simp only [go_sem, simprocAttr]) ?_
  repeat refine kn rfl ?_
  refine k_region tok rfl (by kernel_rfl) ?_
  simp only [go_sem, simprocAttr, hne, hb, boxCells, hoA]
  refine callR (caps := []) (avs := [.sl 2 (s.A.map Am.enc) o, .fn (.func 59) []]) rfl (fun_of Tryz.func63 rfl rfl) (a63m (n + 1) _ s.A o (by omega) ho.g n 200 (Nat.lt_succ_self n) (by simp only [go_sem, simprocAttr]) (fun q => hoi _ _ (by omega)) (Nat.succ_pos _) (hT.full hn)) (by simp only [go_sem, simprocAttr]) ?_
  rintro r H1 ⟨rfl, rfl⟩
  refine ⟨[(200, .mbuf 25 2 (fl Am.cs s.A) s.A.length)], H, (full_setb n [] H 200 _).symm, .refl _ _, ?_⟩
  simp only [go_sem, simprocAttr]
  repeat refine kn rfl ?_
  refine k_region tok rfl (by kernel_rfl) ?_
  simp only [go_sem, simprocAttr]
  refine callR (caps := []) (avs := [.msl 2 n 200 s.A.length, .fn (.func 16) []]) rfl (fun_of Tryz.func64 rfl rfl) (a64 (n + 1) _ n 200 2 s.A (Nat.lt_succ_self n) ho.g (by omega) (by simp only [go_sem, simprocAttr])) (by simp only [go_sem, simprocAttr]) ?_
  rintro r H1 ⟨rfl, rfl⟩
  refine ⟨[(200, .mbuf 25 2 (fl Am.cs (sortB ltA s.A)) s.A.length)], H, (full_setb n _ H 200 _).symm, .refl _ _, ?_⟩
  simp only [go_sem, simprocAttr]
  repeat refine kn rfl ?_
  refine k_region tok rfl (by kernel_rfl) ?_
  simp only [go_sem, simprocAttr]
  have hlen : (sortB ltA s.A).length = s.A.length := (sortB_perm ltA s.A).length_eq
  generalize sortB ltA s.A = out at *
  repeat refine kn rfl ?_
  refine k_weak (AWk_freeze_mbuf (tm' := [(2, .sl 2 (out.map Am.enc) .any)]) (j := 200) (out.map Am.enc) rfl (fl_flat Am.cs Am.enc (fun _ => rfl) out) (by rw [List.length_map]; exact hlen) (fun x hx => ?_) (allFA out).mem (fun p hp => ?_) (fun p hp => ?_)) ?_
  · obtain ⟨u, _, rfl⟩ := List.mem_map.1 hx; rfl
  · simp only [List.mem_singleton] at hp; subst hp
    exact .inr ⟨2, rfl, rfl⟩
  · simp [delb] at hp
  repeat refine kn rfl ?_
  refine k_ret rfl ?_
  exact post_one (.refl _) (below_ams _) rfl
end Go.Proofs.YtpoegdhgdgbmaaaGreatDoorR

/- The store's Sigs. -/
namespace Go.Proofs.YtpoegdhgdgbmaaaGreatDoorR
open Go.Abs
set_option maxRecDepth 100000

theorem a67 (n : Nat) (H : AHeap) (l j sz0 : Nat) (A : List Sg) (hl : l < n) (hg : ∀ s ∈ A, s.small) (hlen : A.length ≤ 1000000) (hH : H l j = some (.mbuf 49 2 (fl Sg.cs A) A.length)) (R : List Sg) (hnd : A.Nodup) (hm : ∀ k, k ∈ A ↔ k ∈ R) :
    ACalls Tryz.prog n 67 [.msl sz0 l j A.length, .fn (.func 68) []] H (fun r H' => r = .tup [] ∧ H' = H.upd l j (.mbuf 49 2 (fl Sg.cs (sortD R)) A.length) ∧ (sortD R).length = A.length) := by
  have h := msl_sort (P := Tryz.prog) (ρ := Tryz.sort67_ren) Tryz.sort67 2 (by decide) Tryz.isAgg49 Tryz.sizeOf49 Sg.cs (fun _ => rfl) Sg.cs1 (fun x => x.bcs.mem) cmpS Sg.small swoS 68 _ _ (fun_of Tryz.func68 rfl rfl) (fun x y hx hy => a68 x y hx hy) n H l j 49 sz0 A hl hg hH (by omega)
  refine ACalls.mono h ?_
  rintro r H' ⟨rfl, ys, hp, ha, rfl⟩
  have e := sigs_unique hp hnd hm ha
  rw [← e, ← hp.length_eq]
  exact ⟨rfl, rfl, rfl⟩

/-- A store's predicates, in the map's order. -/
def keyAt (S : List (Sg × List Int)) (i : Nat) : Sg := (S.getD i (⟨[], 0⟩, [])).1

def st36 (n l b : Nat) (S : List (Sg × List Int)) (H : AHeap) (seen : List Nat) : AState :=
  ⟨[(12, .ptr n 12 0), (3, .msl 2 n 200 seen.length)], [(12, .iter l (b + 3) S.length seen), (200, .mbuf 49 2 (fl Sg.cs (seen.map (keyAt S))) seen.length)], H⟩

theorem keyAt_range (S : List (Sg × List Int)) : (List.range S.length).map (keyAt S) = S.map Prod.fst := by
  apply List.ext_getElem
  · simp
  · intro i h1 h2
    have h3 : i < S.length := by simpa using h2
    simp [keyAt, h3]

theorem sub_len {α : Type} [DecidableEq α] : ∀ {p q : List α}, p.Nodup → (∀ x ∈ p, x ∈ q) → p.length ≤ q.length
  | [], _, _, _ => Nat.zero_le _
  | x :: p, q, h, hs => by
    rw [List.nodup_cons] at h
    have hx := hs x (by simp)
    have := sub_len (q := q.erase x) h.2 (fun y hy => (List.mem_erase_of_ne (fun e => h.1 (by rw [← e]; exact hy))).2 (hs y (by simp [hy])))
    rw [List.length_erase_of_mem hx] at this
    have : 0 < q.length := List.length_pos_of_mem hx
    simp only [List.length_cons]; omega

theorem inside_iter {n l k s : Nat} {q : List Nat} {p : Nat → Prop} (h : l < n) : ABlk.Inside n p (.iter l k s q) := ⟨by simp [ABlk.avs], by simp only [ABlk.at_, List.mem_singleton, forall_eq]; exact .inl h⟩

theorem a36 (n : Nat) (H : AHeap) (l b : Nat) (s : Sto) (hl : l < n) (hs : HasSto H l b s) (ho : Ok s) : PC Tryz.prog n 36 [.ptr l b 0] H (.sl 2 ((sortD (s.A.map Am.sg)).map Sg.enc) .any) := by
  have hne : ¬ l = n := by omega
  have hb := hs.box
  have hA := ho.A
  have hsig := hs.sig
  have hel := ents_len Sg.enc l (b + 5) s.S 0
  have hgd := fun j h => ents_getD Sg.enc l (b + 5) s.S 0 j h (.dead, .dead)
  have hSlen : s.S.length ≤ 2000 := by
    have h1 : (s.S.map Prod.fst).length ≤ (s.A.map Am.sg).length := by
      exact sub_len ho.K (fun k hk => by obtain ⟨a, ha, e⟩ := (ho.KM k).1 hk; exact List.mem_map.2 ⟨a, ha, e⟩)
    simp only [List.length_map] at h1; omega
  generalize ents Sg.enc l (b + 5) 0 s.S = es at *
  refine a_fun tok (fun_of Tryz.func36 rfl rfl) (by simp) fun B => ?_
  repeat refine kn rfl ?_
  refine k_region tok rfl (by kernel_rfl) ?_
  simp only [go_sem, simprocAttr]
  repeat refine kn rfl ?_
  refine k_region tok rfl (by kernel_rfl) ?_
  simp only [go_sem, simprocAttr]
  refine callH (fun_of Tryz.func55 rfl rfl) (a55 (n + 1) _ l b s (by omega) (hs.full hl _)) (by simp only [go_sem, simprocAttr]) ?_
  simp only [go_sem, simprocAttr]
  repeat refine kn rfl ?_
  refine k_cond_f rfl (by simp only [go_sem, simprocAttr]) ?_
  repeat refine kn rfl ?_
  refine k_region tok rfl (by kernel_rfl) ?_
  simp only [go_sem, simprocAttr]
  repeat refine kn rfl ?_
  refine k_region tok rfl (by kernel_rfl) ?_
  simp only [go_sem, simprocAttr, hne, hb, boxCells, hsig]
  repeat refine kn rfl ?_
  refine k_adopt_m 3 200 49 2 rfl rfl ?_
  refine k_loop (fun m st => ∃ seen : List Nat, seen.Nodup ∧ (∀ i ∈ seen, i < s.S.length) ∧ m = s.S.length - seen.length ∧ st = st36 n l b s.S H seen) (m0 := s.S.length) (s0 := st36 n l b s.S H []) rfl ?_ ⟨[], by simp, by simp, by simp, rfl⟩ ?_
  · rw [hel]
    refine AWk_kept ?_ ?_ ?_ ?_ <;> repeat' first | exact trivial | refine q0 ?_ | exact qb | exact q1 | exact q2 | exact q3 | exact rfl | refine And.intro ?_ ?_ | exact q4 | exact q5 | exact q6 | exact q7 | exact Inside.ptr _ _ _ (.inr ⟨rfl, rfl⟩) | exact q8 | exact q9 | exact qd | exact Tm.ins _ | exact Tm.inss _ _ | exact Am.ins _ | exact Am.inss _ _ | refine ins_buf_str ?_ | refine Tm.ins_buf ?_ | refine Am.ins_buf ?_ | exact qf
    all_goals first | exact insM rfl | exact (inside_iter hl).1 | (intro q hq; simp only [ABlk.at_, List.mem_singleton] at hq; subst hq; exact .inl hl) | exact insFS _ | exact allFS _ | skip
  rintro m st ⟨seen, hnd, hlt, rfl, rfl⟩
  refine k_st rfl ?_
  have hlen : seen.length ≤ s.S.length := by
    have := sub_len hnd (q := List.range s.S.length) (fun i hi => by simpa using hlt i hi)
    simpa using this
  repeat refine kn rfl ?_
  refine k_region tok rfl (by kernel_rfl) ?_
  simp only [go_sem, simprocAttr]
  refine ⟨12, l, b + 3, es, seen, rfl, by simp only [go_sem, simprocAttr, hel], by simp only [go_sem, simprocAttr, hne, hsig], fun hall => ?_, fun i hi hni => ?_⟩
  · simp only [go_sem, simprocAttr]
    repeat refine kn rfl ?_
    refine k_cond_f rfl (by simp only [go_sem, simprocAttr]) ?_
    repeat refine kn rfl ?_
    refine k_exit_round rfl rfl rfl ?_
    have hp : (seen.map (keyAt s.S)).Perm (s.S.map Prod.fst) := by
      rw [← keyAt_range]
      refine List.Perm.map _ ((List.perm_ext_iff_of_nodup hnd List.nodup_range).2 fun i => ?_)
      rw [List.mem_range]
      exact ⟨hlt i, fun h => hall i (by omega)⟩
    have hll : seen.length = (seen.map (keyAt s.S)).length := by simp
    rw [hll]
    generalize seen.map (keyAt s.S) = ks at *
    have hks : ∀ k, k ∈ ks ↔ k ∈ s.A.map Am.sg := fun k => by
      rw [hp.mem_iff, ho.KM, List.mem_map]
    have hsm : ∀ k ∈ ks, k.small := fun k hk => by
      obtain ⟨a, ha, rfl⟩ := List.mem_map.1 ((hks k).1 hk)
      have := validA_len (ho.v a ha)
      exact ⟨by simp [Am.sg], by simp only [Am.sg]; omega⟩
    have hkl : ks.length ≤ 1000000 := by omega
    repeat refine kn rfl ?_
    refine k_region tok rfl (by kernel_rfl) ?_
    simp only [go_sem, simprocAttr]
    refine callR (caps := []) (avs := [.msl 2 n 200 ks.length, .fn (.func 68) []]) rfl (fun_of Tryz.func67 rfl rfl) (a67 (n + 1) _ n 200 2 ks (Nat.lt_succ_self n) hsm hkl (by simp only [go_sem, simprocAttr]) (s.A.map Am.sg) (hp.nodup_iff.2 ho.K) hks) (by simp only [go_sem, simprocAttr]) ?_
    rintro r H1 ⟨rfl, rfl, hol⟩
    refine ⟨[(12, .iter l (b + 3) s.S.length seen), (200, .mbuf 49 2 (fl Sg.cs (sortD (s.A.map Am.sg))) ks.length)], H, (full_setb n _ H 200 _).symm, .refl _ _, ?_⟩
    simp only [go_sem, simprocAttr]
    repeat refine kn rfl ?_
    refine k_region tok rfl (by kernel_rfl) ?_
    simp only [go_sem, simprocAttr]
    generalize sortD (s.A.map Am.sg) = out at *
    repeat refine kn rfl ?_
    refine k_weak (s' := ⟨[(2, .msl 2 n 200 ks.length)], [(200, .mbuf 49 2 (fl Sg.cs out) ks.length)], H⟩) ?_ ?_
    · refine AWk_kept ?_ ?_ ?_ ?_ <;> repeat' first | exact trivial | refine q0 ?_ | exact qb | exact q1 | exact q2 | exact q3 | exact rfl | refine And.intro ?_ ?_ | exact q4 | exact q5 | exact q6 | exact q7 | exact Inside.ptr _ _ _ (.inr ⟨rfl, rfl⟩) | exact q8 | exact q9 | exact qd | exact Tm.ins _ | exact Tm.inss _ _ | exact Am.ins _ | exact Am.inss _ _ | refine ins_buf_str ?_ | refine Tm.ins_buf ?_ | refine Am.ins_buf ?_ | exact qf
      all_goals first | exact insM rfl | exact insFS _ | exact allFS _ | skip
    refine k_weak (AWk_freeze_mbuf (tm' := [(2, .sl 2 (out.map Sg.enc) .any)]) (j := 200) (out.map Sg.enc) rfl (fl_flat Sg.cs Sg.enc (fun _ => rfl) out) (by rw [List.length_map]; exact hol) (fun x hx => ?_) (allFS out).mem (fun p hp => ?_) (fun p hp => ?_)) ?_
    · obtain ⟨u, _, rfl⟩ := List.mem_map.1 hx; rfl
    · simp only [List.mem_singleton] at hp; subst hp
      exact .inr ⟨2, rfl, rfl⟩
    · simp [delb] at hp
    repeat refine kn rfl ?_
    refine k_ret rfl ?_
    exact post_one (.refl _) (below_sgs _) rfl
  · have hi' : i < s.S.length := by omega
    have hgi := hgd i hi'
    have hka : keyAt s.S i = s.S[i].1 := by simp [keyAt, hi']
    simp only [go_sem, simprocAttr, hgi]
    repeat refine kn rfl ?_
    refine k_cond_t rfl (by simp only [go_sem, simprocAttr]) ?_
    obtain ⟨h0, t0, het⟩ : ∃ h0 t0, seen ++ [i] = h0 :: t0 := by
      cases seen with
      | nil => exact ⟨i, [], rfl⟩
      | cons x y => exact ⟨x, y ++ [i], rfl⟩
    have hgl : ∀ p, (h0 :: t0).getLast p = i := fun p => by
      have : ∀ (l : List Nat) (q : l ≠ []), l = seen ++ [i] → l.getLast q = i := fun l q e => by subst e; simp
      exact this _ p het.symm
    rw [het]
    repeat refine kn rfl ?_
    refine k_region tok rfl (by kernel_rfl) ?_
    simp only [go_sem, simprocAttr, hne, hsig, hel, hgl, hgi]
    refine ⟨hi', ?_⟩
    repeat refine kn rfl ?_
    refine k_region tok rfl (by kernel_rfl) ?_
    simp only [go_sem, simprocAttr]
    refine ⟨by first | exact ⟨rfl, by decide⟩ | exact rfl, ⟨le_maxLen (by omega), by omega⟩, ?_⟩
    rw [← het]
    repeat refine kn rfl ?_
    refine k_nil ?_
    have hnd' : (seen ++ [i]).Nodup := List.nodup_append.2 ⟨hnd, by simp, fun x hx y hy e => by
      simp only [List.mem_singleton] at hy; subst hy; subst e; exact hni hx⟩
    have hlt' : ∀ x ∈ seen ++ [i], x < s.S.length := fun x hx => by
      rcases List.mem_append.1 hx with hx | hx
      · exact hlt x hx
      · simp only [List.mem_singleton] at hx; subst hx; exact hi'
    have hl1 : (seen ++ [i]).length = seen.length + 1 := by simp
    have hle' := sub_len hnd' (q := List.range s.S.length) (fun x hx => by simpa using hlt' x hx)
    simp only [List.length_append, List.length_cons, List.length_nil, List.length_range, Nat.zero_add] at hle'
    refine ⟨s.S.length - (seen ++ [i]).length, st36 n l b s.S H (seen ++ [i]), by simp only [List.length_append, List.length_cons, List.length_nil]; omega, ?_, seen ++ [i], hnd', hlt', rfl, rfl⟩
    refine AWk_kept ?_ ?_ ?_ ?_ <;> repeat' first | exact trivial | refine q0 ?_ | exact qb | exact q1 | exact q2 | exact q3 | exact rfl | refine And.intro ?_ ?_ | exact q4 | exact q5 | exact q6 | exact q7 | exact Inside.ptr _ _ _ (.inr ⟨rfl, rfl⟩) | exact q8 | exact q9 | exact qd | exact Tm.ins _ | exact Tm.inss _ _ | exact Am.ins _ | exact Am.inss _ _ | refine ins_buf_str ?_ | refine Tm.ins_buf ?_ | refine Am.ins_buf ?_ | exact qf
    all_goals first | exact insM rfl | exact (inside_iter hl).1 | (intro q hq; simp only [ABlk.at_, List.mem_singleton] at hq; subst hq; exact .inl hl) | exact insFS _ | exact allFS _ | skip
    · rw [hl1]; exact .refl _
    · simp only [go_sem, simprocAttr, hl1, flat_cons, flat_nil, fl, List.flatMap_append, List.flatMap_cons, List.flatMap_nil, List.map_append, hka]
end Go.Proofs.YtpoegdhgdgbmaaaGreatDoorR

/- The laws' own filter. -/
namespace Go.Proofs.YtpoegdhgdgbmaaaGreatDoorR
open Go.Abs
set_option maxRecDepth 100000

def withP (s : Sg) (c : Int) (v : Tm) (a : Am) : Bool := (a.sg == s) && (decide (c < 0) || colEq a c v)
def withR (l : List Am) (s : Sg) (c : Int) (v : Tm) : List Am := l.filter (withP s c v)

def st31 (n : Nat) (l : List Am) (s : Sg) (c : Int) (v : Tm) (H : AHeap) (i : Nat) : AState :=
  ⟨[(10, .int .i64 i), (9, .sl 2 ((withR (l.take i) s c v).map Am.enc) (.buf n 200)), (2, .int .i64 c), (5, .ptr n 5 0), (7, .ptr n 7 0), (0, .sl 2 (l.map Am.enc) .any)], [(5, .box s.cs), (7, .box v.cs), (200, .buf 25 2 (withR (l.take i) s c v).length)], H⟩

theorem a31 (l : List Am) (s : Sg) (c : Int) (v : Tm) (hl : l.length ≤ 1000000) (hg : GoodL l) (hcs : c < s.n) : PureT Tryz.prog 31 [.sl 2 (l.map Am.enc) .any, s.enc, .int .i64 c, v.enc] (.sl 2 ((withR l s c v).map Am.enc) .any) := by
  intro n H hn hT
  refine a_fun tok (fun_of Tryz.func31 rfl rfl) (by simp) fun B => ?_
  repeat refine kn rfl ?_
  refine k_region tok rfl (by kernel_rfl) ?_
  simp only [go_sem, simprocAttr]
  repeat refine kn rfl ?_
  refine k_region tok rfl (by kernel_rfl) ?_
  simp only [go_sem, simprocAttr]
  repeat refine kn rfl ?_
  refine k_region tok rfl (by kernel_rfl) ?_
  simp only [go_sem, simprocAttr]
  repeat refine kn rfl ?_
  refine k_adopt 9 200 25 2 rfl rfl ?_
  refine k_loop_ix (st31 n l s c v H) l.length rfl ?_ ?_
  · refine AWk_kept ?_ ?_ ?_ ?_ <;> repeat' first | exact trivial | refine q0 ?_ | exact qb | exact q1 | exact q2 | exact q3 | exact rfl | refine And.intro ?_ ?_ | exact q4 | exact q5 | exact q6 | exact q7 | exact Inside.ptr _ _ _ (.inr ⟨rfl, rfl⟩) | exact q8 | exact q9 | exact qd | exact Tm.ins _ | exact Tm.inss _ _ | exact Am.ins _ | exact Am.inss _ _ | refine ins_buf_str ?_ | refine Tm.ins_buf ?_ | refine Am.ins_buf ?_ | exact qf
  intro i hi
  refine k_st rfl ?_
  rcases Nat.lt_or_ge i l.length with h | h
  · have hfl : (withR (l.take i) s c v).length ≤ i := by
      have := List.length_filter_le (withP s c v) (l.take i)
      have := List.length_take_le i l
      unfold withR; omega
    repeat refine kn rfl ?_
    refine k_region tok rfl (by kernel_rfl) ?_
    simp only [go_sem, simprocAttr, h]
    repeat refine kn rfl ?_
    refine k_cond_t rfl (by simp only [go_sem, simprocAttr]) ?_
    repeat refine kn rfl ?_
    refine k_cut ⟨[(51, .bool (withP s c v l[i])), (10, .int .i64 i), (9, .sl 2 ((withR (l.take i) s c v).map Am.enc) (.buf n 200)), (2, .int .i64 c), (5, .ptr n 5 0), (7, .ptr n 7 0), (0, .sl 2 (l.map Am.enc) .any)], [(5, .box s.cs), (7, .box v.cs), (200, .buf 25 2 (withR (l.take i) s c v).length)], H⟩ ?_ ?_
    · repeat refine kn rfl ?_
      refine k_draw tok mixed drawO rfl rfl (by kernel_rfl) (by kernel_rfl) ?_
      simp only [go_sem, simprocAttr, Am.getD_enc _ _ h, h]
      have hw : withP s c v l[i] = ((l[i].pred == s.p) && ((l[i].args.length : Int) == s.n) && (decide (c < 0) || colEq l[i] c v)) := by
        have : (l[i].sg == s) = ((l[i].pred == s.p) && ((l[i].args.length : Int) == s.n)) := by
          rw [Bool.eq_iff_iff]; obtain ⟨p, m⟩ := s; simp [Am.sg]
        rw [withP, this]
      cases h1 : (l[i].pred == s.p) with
      | false =>
        simp only [go_sem, simprocAttr, h1]
        repeat refine kn rfl ?_
        refine k_nil ?_
        refine ⟨rfl, ?_⟩
        refine AWk_kept ?_ ?_ ?_ ?_ <;> repeat' first | exact trivial | refine q0 ?_ | exact qb | exact q1 | exact q2 | exact q3 | exact rfl | refine And.intro ?_ ?_ | exact q4 | exact q5 | exact q6 | exact q7 | exact Inside.ptr _ _ _ (.inr ⟨rfl, rfl⟩) | exact q8 | exact q9 | exact qd | exact Tm.ins _ | exact Tm.inss _ _ | exact Am.ins _ | exact Am.inss _ _ | refine ins_buf_str ?_ | refine Tm.ins_buf ?_ | refine Am.ins_buf ?_ | exact qf
        simp only [go_sem, simprocAttr, hw, h1, Bool.or_true, Bool.true_or, Bool.or_false, Bool.false_or]
        exact .refl _
      | true =>
      cases h2 : ((l[i].args.length : Int) == s.n) with
      | false =>
        simp only [go_sem, simprocAttr, h1, Am.getD_enc _ _ h, h, h2]
        repeat refine kn rfl ?_
        refine k_nil ?_
        refine ⟨rfl, ?_⟩
        refine AWk_kept ?_ ?_ ?_ ?_ <;> repeat' first | exact trivial | refine q0 ?_ | exact qb | exact q1 | exact q2 | exact q3 | exact rfl | refine And.intro ?_ ?_ | exact q4 | exact q5 | exact q6 | exact q7 | exact Inside.ptr _ _ _ (.inr ⟨rfl, rfl⟩) | exact q8 | exact q9 | exact qd | exact Tm.ins _ | exact Tm.inss _ _ | exact Am.ins _ | exact Am.inss _ _ | refine ins_buf_str ?_ | refine Tm.ins_buf ?_ | refine Am.ins_buf ?_ | exact qf
        simp only [go_sem, simprocAttr, hw, h1, h2, Bool.or_true, Bool.true_or, Bool.or_false, Bool.false_or]
        exact .refl _
      | true =>
      cases h3 : decide (c < 0) with
      | true =>
        simp only [go_sem, simprocAttr, h1, Am.getD_enc _ _ h, h, h2, h3]
        repeat refine kn rfl ?_
        refine k_nil ?_
        refine ⟨rfl, ?_⟩
        refine AWk_kept ?_ ?_ ?_ ?_ <;> repeat' first | exact trivial | refine q0 ?_ | exact qb | exact q1 | exact q2 | exact q3 | exact rfl | refine And.intro ?_ ?_ | exact q4 | exact q5 | exact q6 | exact q7 | exact Inside.ptr _ _ _ (.inr ⟨rfl, rfl⟩) | exact q8 | exact q9 | exact qd | exact Tm.ins _ | exact Tm.inss _ _ | exact Am.ins _ | exact Am.inss _ _ | refine ins_buf_str ?_ | refine Tm.ins_buf ?_ | refine Am.ins_buf ?_ | exact qf
        simp only [go_sem, simprocAttr, hw, h1, h2, h3, Bool.or_true, Bool.true_or, Bool.or_false, Bool.false_or]
        exact .refl _
      | false =>
        have e2 : 0 ≤ c := by have := of_decide_eq_false h3; omega
        have e3 : c < l[i].args.length := by
          have : (l[i].args.length : Int) = s.n := by simpa using h2
          omega
        have e4 : c.toNat < l[i].args.length := by omega
        have e6 : colEq l[i] c v = eqT l[i].args[c.toNat] v := by unfold colEq; rw [List.getElem?_eq_getElem e4]
        have e7 : (l[i].args.map Tm.enc).getD c.toNat .dead = l[i].args[c.toNat].enc := Tm.getD_enc _ _ e4 _
        simp only [go_sem, simprocAttr, h1, h2, h3, Am.getD_enc _ _ h, h, e2, e3, e4, e7]
        refine callP (fun_of Tryz.func62 rfl rfl) (a62 l[i].args[c.toNat] v ((hg _ (List.getElem_mem h)).arg (List.getElem_mem e4))) (by simp only [go_sem, simprocAttr]) ?_
        simp only [go_sem, simprocAttr]
        repeat refine kn rfl ?_
        refine k_nil ?_
        refine ⟨rfl, ?_⟩
        refine AWk_kept ?_ ?_ ?_ ?_ <;> repeat' first | exact trivial | refine q0 ?_ | exact qb | exact q1 | exact q2 | exact q3 | exact rfl | refine And.intro ?_ ?_ | exact q4 | exact q5 | exact q6 | exact q7 | exact Inside.ptr _ _ _ (.inr ⟨rfl, rfl⟩) | exact q8 | exact q9 | exact qd | exact Tm.ins _ | exact Tm.inss _ _ | exact Am.ins _ | exact Am.inss _ _ | refine ins_buf_str ?_ | refine Tm.ins_buf ?_ | refine Am.ins_buf ?_ | exact qf
        simp only [go_sem, simprocAttr, hw, h1, h2, h3, e6, Bool.or_true, Bool.true_or, Bool.or_false, Bool.false_or]
        exact .refl _
    refine k_st rfl ?_
    cases h5 : withP s c v l[i] with
    | true =>
      repeat refine kn rfl ?_
      refine k_cond_t rfl (by simp only [go_sem, simprocAttr, h5]) ?_
      repeat refine kn rfl ?_
      refine k_region tok rfl (by kernel_rfl) ?_
      simp only [go_sem, simprocAttr, Am.getD_enc _ _ h, h]
      refine ⟨by first | exact ⟨rfl, by decide⟩ | exact rfl, ⟨le_maxLen (by omega), by omega⟩, ?_⟩
      repeat refine kn rfl ?_
      refine k_region tok rfl (by kernel_rfl) ?_
      simp only [go_sem, simprocAttr]
      repeat refine kn rfl ?_
      refine k_nil ?_
      refine AWk_kept ?_ ?_ ?_ ?_ <;> repeat' first | exact trivial | refine q0 ?_ | exact qb | exact q1 | exact q2 | exact q3 | exact rfl | refine And.intro ?_ ?_ | exact q4 | exact q5 | exact q6 | exact q7 | exact Inside.ptr _ _ _ (.inr ⟨rfl, rfl⟩) | exact q8 | exact q9 | exact qd | exact Tm.ins _ | exact Tm.inss _ _ | exact Am.ins _ | exact Am.inss _ _ | refine ins_buf_str ?_ | refine Tm.ins_buf ?_ | refine Am.ins_buf ?_ | exact qf
      · simp only [go_sem, simprocAttr]
        rw [IntWalk.i64_in _ (by omega)]; exact .refl _
      · simp only [go_sem, simprocAttr, withR, filter_take _ _ _ h, h5, List.map_append, reduceIte]
        exact .refl _
      · simp only [go_sem, simprocAttr, withR, filter_take _ _ _ h, h5, List.length_append, reduceIte]
    | false =>
      repeat refine kn rfl ?_
      refine k_cond_f rfl (by simp only [go_sem, simprocAttr, h5]) ?_
      repeat refine kn rfl ?_
      refine k_region tok rfl (by kernel_rfl) ?_
      simp only [go_sem, simprocAttr]
      repeat refine kn rfl ?_
      refine k_nil ?_
      refine AWk_kept ?_ ?_ ?_ ?_ <;> repeat' first | exact trivial | refine q0 ?_ | exact qb | exact q1 | exact q2 | exact q3 | exact rfl | refine And.intro ?_ ?_ | exact q4 | exact q5 | exact q6 | exact q7 | exact Inside.ptr _ _ _ (.inr ⟨rfl, rfl⟩) | exact q8 | exact q9 | exact qd | exact Tm.ins _ | exact Tm.inss _ _ | exact Am.ins _ | exact Am.inss _ _ | refine ins_buf_str ?_ | refine Tm.ins_buf ?_ | refine Am.ins_buf ?_ | exact qf
      · simp only [go_sem, simprocAttr]
        rw [IntWalk.i64_in _ (by omega)]; exact .refl _
      · simp only [go_sem, simprocAttr, withR, filter_take _ _ _ h, h5, List.append_nil]
        exact .refl _
      · simp only [go_sem, simprocAttr, withR, filter_take _ _ _ h, h5, List.append_nil]
  · repeat refine kn rfl ?_
    refine k_region tok rfl (by kernel_rfl) ?_
    simp only [go_sem, simprocAttr, Nat.not_lt.2 h]
    repeat refine kn rfl ?_
    refine k_cond_f rfl (by simp only [go_sem, simprocAttr]) ?_
    repeat refine kn rfl ?_
    refine k_exit_round rfl rfl rfl ?_
    have hi' : i = l.length := by omega
    subst hi'
    repeat refine kn rfl ?_
    refine k_region tok rfl (by kernel_rfl) ?_
    simp only [go_sem, simprocAttr, List.take_length]
    repeat refine kn rfl ?_
    refine k_ret rfl ?_
    refine post_one ?_ (below_ams _) rfl
    simp only [go_sem, simprocAttr]
    exact .any _ _ _
end Go.Proofs.YtpoegdhgdgbmaaaGreatDoorR

/- The law's comparison of a store with a list. -/
namespace Go.Proofs.YtpoegdhgdgbmaaaGreatDoorR
open Go.Abs
set_option maxRecDepth 100000

theorem eqA_self (a : Am) : eqA a a = true := (eqA_iff a a).2 rfl
theorem eqL_self {α : Type} {e : α → α → Bool} (he : ∀ a, e a a = true) : ∀ l : List α, eqL e l l = true
  | [] => rfl
  | a :: l => by rw [eqL, he, eqL_self he l]; rfl
theorem eqLA_self (l : List Am) : eqL eqA l l = true := eqL_self eqA_self l
theorem eqLS_self (l : List Sg) : eqL (fun a b : Sg => a == b) l l = true := eqL_self (e := fun a b : Sg => a == b) (fun a => by simp) l

theorem Ok.has' {s : Sto} (h : Ok s) (a : Am) : (validA a && (keyIx (atxt a) s.N 0).isSome) = s.A.any (eqA · a) := by
  cases h1 : validA a with
  | true => rw [Bool.true_and, h.has h1]
  | false =>
    rw [Bool.false_and]
    symm
    rw [List.any_eq_false]
    intro b hb e
    have := h.v b hb
    rw [(eqA_iff b a).1 e, h1] at this; cases this

theorem Ok.find' {s : Sto} (h : Ok s) (k : Sg) (c : Int) (v : Tm) : (if valueT v = true then pickR s.A (ixOf (⟨k, c, txt v⟩ : Ak) s.R) else []) = findR s.A k c v := by
  split
  · rename_i hv; exact h.find k c hv
  · rename_i hv; rw [h.find_none k c (by simpa using hv)]

theorem atR_in {A : List Am} {i : Nat} (h : i < A.length) : atR A (i : Int) = (A[i], 0) := by
  unfold atR; rw [if_pos (by omega)]; simp [h]
theorem atR_len (A : List Am) : atR A (A.length : Int) = (⟨[], []⟩, 6) := by
  unfold atR; rw [if_pos (by omega)]; simp
theorem atR_neg (A : List Am) : atR A (-1) = (⟨[], []⟩, 6) := by
  unfold atR; rw [if_neg (by omega)]

def st43 (n l b : Nat) (A : List Am) (H : AHeap) (i : Nat) : AState :=
  ⟨[(12, .int .i64 i), (1, .sl 2 (A.map Am.enc) .any), (0, .ptr l b 0)], [], H⟩

theorem filter_good {p : Am → Bool} {l : List Am} (h : GoodL l) : GoodL (l.filter p) := fun a ha => h a (List.mem_filter.1 ha).1

/-- The zero atom, compared with the zero atom. -/
theorem z28 : Abs.Pure Tryz.prog 28 [.agg [.str [], .sl 4 [] .any], .agg [.str [], .sl 4 [] .full]] (.bool (eqA ⟨[], []⟩ ⟨[], []⟩)) :=
  Pure.wk (a28 ⟨[], []⟩ ⟨[], []⟩ ⟨by simp, by simp [Am.sz, Tm.sz.szs], by simp⟩) ⟨.refl _, .deep (.aggL ⟨.refl _, .nil _ _ _, trivial⟩), trivial⟩

theorem a43 (n : Nat) (H : AHeap) (l b : Nat) (s : Sto) (a : Am) (c : Int) (v : Tm) (hl : l < n) (hs : HasSto H l b s) (ho : Ok s) (ha : a.Good) (hv : v.Good) (hn : 0 < n) (hT : Tabs H) :
    PC Tryz.prog n 43 [.ptr l b 0, .sl 2 (s.A.map Am.enc) .any, a.enc, .int .i64 c, v.enc] H (.bool true) := by
  have hA := ho.A
  have hAl : s.A.length ≤ 1000000 := by omega
  have hsg : (⟨a.pred, (a.args.length : Int)⟩ : Sg) = a.sg := rfl
  have hsd : (sortD (s.A.map Am.sg)).length ≤ 1000000 := by
    have := sortD_len_take (s.A.map Am.sg) _ (Nat.le_refl _)
    rw [List.take_length] at this
    simp only [List.length_map] at this; omega
  have hix := ho.ixS a.sg
  have hfl : (allR s.A a.sg).length ≤ 1000000 := Nat.le_trans (List.length_filter_le _ _) hAl
  have hfd : (findR s.A a.sg c v).length ≤ 1000000 := Nat.le_trans (List.length_filter_le _ _) hAl
  have hsb : (sortB ltA s.A).length ≤ 1000000 := by rw [(sortB_perm ltA s.A).length_eq]; exact hAl
  have hsbg : GoodL (sortB ltA s.A) := fun x hx => ho.g x ((sortB_perm ltA s.A).mem_iff.1 hx)
  have hixr := ho.ixR (⟨a.sg, c, txt v⟩ : Ak)
  refine a_fun tok (fun_of Tryz.func43 rfl rfl) (by simp) fun B => ?_
  repeat refine kn rfl ?_
  refine k_region tok rfl (by kernel_rfl) ?_
  simp only [go_sem, simprocAttr]
  repeat refine kn rfl ?_
  refine k_region tok rfl (by kernel_rfl) ?_
  simp only [go_sem, simprocAttr]
  repeat refine kn rfl ?_
  refine k_draw tok mixed drawO rfl rfl (by kernel_rfl) (by kernel_rfl) ?_
  simp only [go_sem, simprocAttr]
  refine callH (fun_of Tryz.func24 rfl rfl) (a24 (n + 1) _ l b s (by omega) (hs.full hl _)) (by simp only [go_sem, simprocAttr]) ?_
  simp only [go_sem, simprocAttr, bne_self_eq_false]
  refine callH (fun_of Tryz.func26 rfl rfl) (a26 (n + 1) _ l b s a (by omega) (hs.full hl _) ha (by omega) (hT.full hn)) (by simp only [go_sem, simprocAttr]) ?_
  rw [ho.has']
  simp only [go_sem, simprocAttr]
  refine callT (fun_of Tryz.func73 rfl rfl) (a73 s.A a hAl ho.g ha) hn hT (by simp only [go_sem, simprocAttr]) ?_
  simp only [go_sem, simprocAttr]
  refine callH (fun_of Tryz.func36 rfl rfl) (a36 (n + 1) _ l b s (by omega) (hs.full hl _) ho) (by simp only [go_sem, simprocAttr]) ?_
  simp only [go_sem, simprocAttr]
  refine callT (fun_of Tryz.func74 rfl rfl) (a74 s.A hAl) hn hT (by simp only [go_sem, simprocAttr]) ?_
  simp only [go_sem, simprocAttr]
  refine callP (fun_of Tryz.func41 rfl rfl) (a41 (sortD (s.A.map Am.sg)) (sortD (s.A.map Am.sg)) hsd) (by simp only [go_sem, simprocAttr, eqLS_self, Bool.not_true]) ?_
  simp only [go_sem, simprocAttr, eqLS_self, Bool.not_true]
  refine callH (fun_of Tryz.func30 rfl rfl) (a30 (n + 1) _ l b s a.sg (by omega) (hs.full hl _) ho.g (by omega) (hT.full hn) hix.1 hix.2) (by simp only [go_sem, simprocAttr, Am.sg]) ?_
  rw [ho.all]
  simp only [go_sem, simprocAttr]
  refine callT (fun_of Tryz.func75 rfl rfl) (a75 s.A a.sg hAl) hn hT (by simp only [go_sem, simprocAttr, Am.sg]) ?_
  simp only [go_sem, simprocAttr]
  refine callP (fun_of Tryz.func29 rfl rfl) (a29 (allR s.A a.sg) (allR s.A a.sg) hfl (filter_good ho.g)) (by simp only [go_sem, simprocAttr, eqLA_self, Bool.not_true]) ?_
  simp only [go_sem, simprocAttr, eqLA_self, Bool.not_true]
  refine callH (fun_of Tryz.func33 rfl rfl) (a33 (n + 1) _ l b s (by omega) (hs.full hl _) ho (by omega) (hT.full hn)) (by simp only [go_sem, simprocAttr]) ?_
  simp only [go_sem, simprocAttr]
  refine callT (fun_of Tryz.func76 rfl rfl) (a76 s.A hAl ho.g) hn hT (by simp only [go_sem, simprocAttr]) ?_
  simp only [go_sem, simprocAttr]
  refine callP (fun_of Tryz.func29 rfl rfl) (a29 (sortB ltA s.A) (sortB ltA s.A) hsb hsbg) (by simp only [go_sem, simprocAttr, eqLA_self, Bool.not_true]) ?_
  simp only [go_sem, simprocAttr, eqLA_self, Bool.not_true]
  refine callH (fun_of Tryz.func32 rfl rfl) (a32 (n + 1) _ l b s a.sg c v hv (by omega) (hs.full hl _) ho.g (by omega) (hT.full hn) hixr.1 hixr.2) (by simp only [go_sem, simprocAttr, Am.sg]) ?_
  rw [ho.find']
  simp only [go_sem, simprocAttr]
  refine callT (fun_of Tryz.func77 rfl rfl) (a77 s.A a.sg c v hAl ho.g hv) hn hT (by simp only [go_sem, simprocAttr, Am.sg]) ?_
  simp only [go_sem, simprocAttr]
  refine callP (fun_of Tryz.func29 rfl rfl) (a29 (findR s.A a.sg c v) (findR s.A a.sg c v) hfd (filter_good ho.g)) (by simp only [go_sem, simprocAttr, eqLA_self, Bool.not_true]) ?_
  simp only [go_sem, simprocAttr, eqLA_self, Bool.not_true]
  repeat refine kn rfl ?_
  refine k_cond_f rfl (by simp only [go_sem, simprocAttr]) ?_
  repeat refine kn rfl ?_
  refine k_region tok rfl (by kernel_rfl) ?_
  simp only [go_sem, simprocAttr]
  repeat refine kn rfl ?_
  refine k_loop_ix (st43 n l b s.A H) s.A.length rfl ?_ ?_
  · refine AWk_kept ?_ ?_ ?_ ?_ <;> repeat' first | exact trivial | refine q0 ?_ | exact qb | exact q1 | exact q2 | exact q3 | exact rfl | refine And.intro ?_ ?_ | exact q4 | exact q5 | exact q6 | exact q7 | exact Inside.ptr _ _ _ (.inr ⟨rfl, rfl⟩) | exact q8 | exact q9 | exact qd | exact Tm.ins _ | exact Tm.inss _ _ | exact Am.ins _ | exact Am.inss _ _ | refine ins_buf_str ?_ | refine Tm.ins_buf ?_ | refine Am.ins_buf ?_ | exact qf
    exact Inside.ptr _ _ _ (.inl hl)
  intro i hi
  refine k_st rfl ?_
  rcases Nat.lt_or_ge i s.A.length with h | h
  · repeat refine kn rfl ?_
    refine k_region tok rfl (by kernel_rfl) ?_
    simp only [go_sem, simprocAttr, h]
    repeat refine kn rfl ?_
    refine k_cond_t rfl (by simp only [go_sem, simprocAttr]) ?_
    repeat refine kn rfl ?_
    refine k_region tok rfl (by kernel_rfl) ?_
    simp only [go_sem, simprocAttr]
    refine callH (fun_of Tryz.func27 rfl rfl) (a27 (n + 1) _ l b s i (by omega) (hs.full hl _) ho.g (by omega) (hT.full hn)) (by simp only [go_sem, simprocAttr]) ?_
    rw [atR_in h]
    simp only [go_sem, simprocAttr]
    repeat refine kn rfl ?_
    refine k_draw tok mixed drawO rfl rfl (by kernel_rfl) (by kernel_rfl) ?_
    simp only [go_sem, simprocAttr, Am.getD_enc _ _ h, h, bne_self_eq_false]
    refine callP (fun_of Tryz.func28 rfl rfl) (a28 s.A[i] s.A[i] (ho.g _ (List.getElem_mem h))) (by simp only [go_sem, simprocAttr, eqA_self, Bool.not_true]) ?_
    simp only [go_sem, simprocAttr, eqA_self, Bool.not_true]
    repeat refine kn rfl ?_
    refine k_cond_f rfl (by simp only [go_sem, simprocAttr]) ?_
    repeat refine kn rfl ?_
    refine k_region tok rfl (by kernel_rfl) ?_
    simp only [go_sem, simprocAttr]
    repeat refine kn rfl ?_
    refine k_nil ?_
    refine AWk_kept ?_ ?_ ?_ ?_ <;> repeat' first | exact trivial | refine q0 ?_ | exact qb | exact q1 | exact q2 | exact q3 | exact rfl | refine And.intro ?_ ?_ | exact q4 | exact q5 | exact q6 | exact q7 | exact Inside.ptr _ _ _ (.inr ⟨rfl, rfl⟩) | exact q8 | exact q9 | exact qd | exact Tm.ins _ | exact Tm.inss _ _ | exact Am.ins _ | exact Am.inss _ _ | refine ins_buf_str ?_ | refine Tm.ins_buf ?_ | refine Am.ins_buf ?_ | exact qf
    all_goals first | exact Inside.ptr _ _ _ (.inl hl) | skip
    simp only [go_sem, simprocAttr]
    rw [IntWalk.i64_in _ (by omega)]; exact .refl _
  · repeat refine kn rfl ?_
    refine k_region tok rfl (by kernel_rfl) ?_
    simp only [go_sem, simprocAttr, Nat.not_lt.2 h]
    repeat refine kn rfl ?_
    refine k_cond_f rfl (by simp only [go_sem, simprocAttr]) ?_
    repeat refine kn rfl ?_
    refine k_exit_round rfl rfl rfl ?_
    repeat refine kn rfl ?_
    refine k_region tok rfl (by kernel_rfl) ?_
    simp only [go_sem, simprocAttr]
    refine callH (fun_of Tryz.func27 rfl rfl) (a27 (n + 1) _ l b s s.A.length (by omega) (hs.full hl _) ho.g (by omega) (hT.full hn)) (by simp only [go_sem, simprocAttr]) ?_
    rw [atR_len]
    simp only [go_sem, simprocAttr]
    repeat refine kn rfl ?_
    refine k_region tok rfl (by kernel_rfl) ?_
    simp only [go_sem, simprocAttr]
    refine callH (fun_of Tryz.func27 rfl rfl) (a27 (n + 1) _ l b s (-1) (by omega) (hs.full hl _) ho.g (by omega) (hT.full hn)) (by simp only [go_sem, simprocAttr]) ?_
    rw [atR_neg]
    simp only [go_sem, simprocAttr]
    repeat refine kn rfl ?_
    refine k_region tok rfl (by kernel_rfl) ?_
    simp only [go_sem, simprocAttr]
    refine callP (fun_of Tryz.func28 rfl rfl) (z28) (by simp only [go_sem, simprocAttr, eqA_self]) ?_
    simp only [go_sem, simprocAttr, eqA_self]
    refine callP (fun_of Tryz.func28 rfl rfl) (z28) (by simp only [go_sem, simprocAttr, eqA_self]) ?_
    simp only [go_sem, simprocAttr, eqA_self]
    repeat refine kn rfl ?_
    refine k_ret rfl ?_
    refine post_one ?_ (.bool _) rfl
    try simp only [go_sem, simprocAttr]
    exact .refl _
end Go.Proofs.YtpoegdhgdgbmaaaGreatDoorR

/- The law's adding of a list. -/
namespace Go.Proofs.YtpoegdhgdgbmaaaGreatDoorR
open Go.Abs
set_option maxRecDepth 100000

theorem Tabs.cut {n : Nat} {H : AHeap} (h : Tabs H) (hn : 0 < n) : Tabs (cutH n H) := by
  obtain ⟨m, t, t', h1, h2⟩ := h
  exact ⟨m, t, t', by rw [cutH, if_pos hn]; exact h1, by rw [cutH, if_pos hn]; exact h2⟩
theorem FreeAt.cut (n m : Nat) (H : AHeap) (h : n ≤ m) (b : Nat) : FreeAt (cutH n H) m b := fun k _ => by rw [cutH, if_neg (by omega)]
theorem put_cut {n b : Nat} {H : AHeap} {s : Sto} {l : Nat} (hl : n ≤ l) : ∀ l' k, l' < n → put (cutH n H) l b s l' k = H l' k := fun l' k h => by
  rw [put_other (by omega), cutH, if_pos h]

def st13 (n : Nat) (l : List Am) (a : Am) (c : Int) (v : Tm) (H : AHeap) (i : Nat) : AState :=
  ⟨[(11, .int .i64 i), (10, .sl 2 ((addL sto0 (l.take i)).A.map Am.enc) .any), (9, .ptr n 0 0), (0, .sl 2 (l.map Am.enc) .any), (2, .int .i64 c), (5, .ptr (n + 1) 5 0), (7, .ptr (n + 1) 7 0)], [(5, .box a.cs), (7, .box v.cs)], put (cutH n H) n 0 (addL sto0 (l.take i))⟩
def st13b (n : Nat) (l : List Am) (s : Sto) (H : AHeap) (i : Nat) : AState :=
  ⟨[(17, .int .i64 i), (10, .sl 2 (s.A.map Am.enc) .any), (9, .ptr n 0 0), (0, .sl 2 (l.map Am.enc) .any)], [], put (cutH n H) n 0 s⟩
def st13c (n : Nat) (l : List Am) (s : Sto) (H : AHeap) (i j : Nat) : AState :=
  ⟨[(18, .int .i64 j), (17, .int .i64 i), (10, .sl 2 (s.A.map Am.enc) .any), (9, .ptr n 0 0), (0, .sl 2 (l.map Am.enc) .any)], [], put (cutH n H) n 0 s⟩

theorem a13 (l : List Am) (a : Am) (c : Int) (v : Tm) (hlen : l.length ≤ 1000000) (hg : GoodL l) (ha : a.Good) (hv : v.Good) : PureT Tryz.prog 13 [.sl 2 (l.map Am.enc) .any, a.enc, .int .i64 c, v.enc] (.bool true) := by
  intro n H hn hT
  have hTc := hT.cut hn
  have hfr := FreeAt.cut n n H (Nat.le_refl _) 0
  have hgt : ∀ i, GoodL (l.take i) := fun i x hx => hg x (List.mem_of_mem_take hx)
  have hok : ∀ i, Ok (addL sto0 (l.take i)) := fun i => ok0.addL (hgt i)
  have hok' : Ok (addL sto0 l) := ok0.addL hg
  refine PC.up 1 (.bool _) ?_
  refine a_fun tok (fun_of Tryz.func13 rfl rfl) (by simp) fun B => ?_
  repeat refine kn rfl ?_
  refine k_region tok rfl (by kernel_rfl) ?_
  simp only [go_sem, simprocAttr]
  repeat refine kn rfl ?_
  refine k_region tok rfl (by kernel_rfl) ?_
  simp only [go_sem, simprocAttr]
  refine call22 rfl n 0 (Nat.lt_succ_self n) hfr (by simp only [go_sem, simprocAttr]) ?_
  simp only [go_sem, simprocAttr]
  repeat refine kn rfl ?_
  refine k_region tok rfl (by kernel_rfl) ?_
  simp only [go_sem, simprocAttr]
  repeat refine kn rfl ?_
  refine k_region tok rfl (by kernel_rfl) ?_
  simp only [go_sem, simprocAttr]
  repeat refine kn rfl ?_
  have hpi : ∀ q, Inside (n + 1) q (.ptr n 0 0) := fun q => .ptr _ _ _ (.inl (Nat.lt_succ_self n))
  refine k_loop_ix (st13 n l a c v H) l.length rfl ?_ ?_
  · refine AWk_kept ?_ ?_ ?_ ?_ <;> repeat' first | exact trivial | refine q0 ?_ | exact qb | exact q1 | exact q2 | exact q3 | exact rfl | refine And.intro ?_ ?_ | exact q4 | exact q5 | exact q6 | exact q7 | exact Inside.ptr _ _ _ (.inr ⟨rfl, rfl⟩) | exact q8 | exact q9 | exact qd | exact Tm.ins _ | exact Tm.inss _ _ | exact Am.ins _ | exact Am.inss _ _ | refine ins_buf_str ?_ | refine Tm.ins_buf ?_ | refine Am.ins_buf ?_ | exact qf
    all_goals first | exact hpi _ | exact .nil _ _ _ | skip
  intro i hi
  refine k_st rfl ?_
  rcases Nat.lt_or_ge i l.length with h | h
  · have hgi := hg _ (List.getElem_mem h)
    have hoi := hok i
    have hadd := hoi.addT_eq l[i]
    have hnx := addL_take sto0 l i h
    repeat refine kn rfl ?_
    refine k_region tok rfl (by kernel_rfl) ?_
    simp only [go_sem, simprocAttr, h]
    repeat refine kn rfl ?_
    refine k_cond_t rfl (by simp only [go_sem, simprocAttr]) ?_
    repeat refine kn rfl ?_
    refine k_region tok rfl (by kernel_rfl) ?_
    simp only [go_sem, simprocAttr, Am.getD_enc _ _ h, h]
    refine call23 rfl n 0 _ l[i] rfl (Nat.lt_succ_self n) hfr hoi.fit hgi (Nat.succ_pos _) hTc (by simp only [go_sem, simprocAttr]) ?_
    simp only [go_sem, simprocAttr]
    rw [← hnx]
    have hTp := hTc.put hfr (addL sto0 (l.take (i + 1)))
    have hA := hoi.A
    repeat refine kn rfl ?_
    refine k_region tok rfl (by kernel_rfl) ?_
    simp only [go_sem, simprocAttr, Am.getD_enc _ _ h, h]
    refine callT (fun_of Tryz.func42 rfl rfl) (a42 (addL sto0 (l.take i)).A l[i] (by omega) hoi.g hgi) (Nat.succ_pos _) hTp (by simp only [go_sem, simprocAttr]) ?_
    rw [← hadd, ← hnx]
    simp only [go_sem, simprocAttr]
    generalize (addT (addL sto0 (l.take i)) l[i]).2.1 = is
    generalize (addT (addL sto0 (l.take i)) l[i]).2.2 = er
    repeat refine kn rfl ?_
    refine k_region tok rfl (by kernel_rfl) ?_
    simp only [go_sem, simprocAttr, eInt, bne_self_eq_false]
    repeat refine kn rfl ?_
    refine k_cond_f rfl (by simp only [go_sem, simprocAttr]) ?_
    repeat refine kn rfl ?_
    refine k_region tok rfl (by kernel_rfl) ?_
    simp only [go_sem, simprocAttr]
    repeat refine kn rfl ?_
    refine k_region tok rfl (by kernel_rfl) ?_
    simp only [go_sem, simprocAttr]
    repeat refine kn rfl ?_
    refine k_nil ?_
    refine AWk_kept ?_ ?_ ?_ ?_ <;> repeat' first | exact trivial | refine q0 ?_ | exact qb | exact q1 | exact q2 | exact q3 | exact rfl | refine And.intro ?_ ?_ | exact q4 | exact q5 | exact q6 | exact q7 | exact Inside.ptr _ _ _ (.inr ⟨rfl, rfl⟩) | exact q8 | exact q9 | exact qd | exact Tm.ins _ | exact Tm.inss _ _ | exact Am.ins _ | exact Am.inss _ _ | refine ins_buf_str ?_ | refine Tm.ins_buf ?_ | refine Am.ins_buf ?_ | exact qf
    all_goals first | exact hpi _ | skip
    simp only [go_sem, simprocAttr]
    rw [IntWalk.i64_in _ (by omega)]; exact .refl _
  · repeat refine kn rfl ?_
    refine k_region tok rfl (by kernel_rfl) ?_
    simp only [go_sem, simprocAttr, Nat.not_lt.2 h]
    repeat refine kn rfl ?_
    refine k_cond_f rfl (by simp only [go_sem, simprocAttr]) ?_
    repeat refine kn rfl ?_
    refine k_exit_round rfl rfl rfl ?_
    have hi' : i = l.length := by omega
    subst hi'
    rw [List.take_length]
    generalize addL sto0 l = s at *
    have hTp := hTc.put hfr s
    have hst := HasSto.put (cutH n H) n 0 s
    repeat refine kn rfl ?_
    refine k_region tok rfl (by kernel_rfl) ?_
    simp only [go_sem, simprocAttr]
    refine callH (fun_of Tryz.func43 rfl rfl) (a43 (n + 1 + 1) _ n 0 s a c v (by omega) (hst.full (Nat.lt_succ_self n) _) hok' ha hv (Nat.succ_pos _) (hTp.full (Nat.succ_pos _))) (by simp only [go_sem, simprocAttr]) ?_
    simp only [go_sem, simprocAttr]
    repeat refine kn rfl ?_
    refine k_cond_f rfl (by simp only [go_sem, simprocAttr]) ?_
    repeat refine kn rfl ?_
    refine k_region tok rfl (by kernel_rfl) ?_
    simp only [go_sem, simprocAttr]
    repeat refine kn rfl ?_
    refine k_loop_ix (st13b n l s H) (min l.length 10) rfl ?_ ?_
    · refine AWk_kept ?_ ?_ ?_ ?_ <;> repeat' first | exact trivial | refine q0 ?_ | exact qb | exact q1 | exact q2 | exact q3 | exact rfl | refine And.intro ?_ ?_ | exact q4 | exact q5 | exact q6 | exact q7 | exact Inside.ptr _ _ _ (.inr ⟨rfl, rfl⟩) | exact q8 | exact q9 | exact qd | exact Tm.ins _ | exact Tm.inss _ _ | exact Am.ins _ | exact Am.inss _ _ | refine ins_buf_str ?_ | refine Tm.ins_buf ?_ | refine Am.ins_buf ?_ | exact qf
      all_goals first | exact hpi _ | skip
    intro i hi
    refine k_st rfl ?_
    have hm1 : min l.length 10 ≤ l.length := Nat.min_le_left _ _
    have hm2 : min l.length 10 ≤ 10 := Nat.min_le_right _ _
    rcases Nat.lt_or_ge i (min l.length 10) with h | h
    · have h1 : i < l.length := by omega
      have h2 : (i : Int) < 10 := by omega
      have hgi := hg _ (List.getElem_mem h1)
      repeat refine kn rfl ?_
      refine k_region tok rfl (by kernel_rfl) ?_
      simp only [go_sem, simprocAttr, h1, h2]
      repeat refine kn rfl ?_
      refine k_cond_t rfl (by simp only [go_sem, simprocAttr]) ?_
      repeat refine kn rfl ?_
      refine k_region tok rfl (by kernel_rfl) ?_
      simp only [go_sem, simprocAttr]
      refine k_cut (st13b n l s H i) ?_ ?_
      · repeat refine kn rfl ?_
        refine k_loop_ix (st13c n l s H i) l[i].args.length rfl ?_ ?_
        · refine AWk_kept ?_ ?_ ?_ ?_ <;> repeat' first | exact trivial | refine q0 ?_ | exact qb | exact q1 | exact q2 | exact q3 | exact rfl | refine And.intro ?_ ?_ | exact q4 | exact q5 | exact q6 | exact q7 | exact Inside.ptr _ _ _ (.inr ⟨rfl, rfl⟩) | exact q8 | exact q9 | exact qd | exact Tm.ins _ | exact Tm.inss _ _ | exact Am.ins _ | exact Am.inss _ _ | refine ins_buf_str ?_ | refine Tm.ins_buf ?_ | refine Am.ins_buf ?_ | exact qf
          all_goals first | exact hpi _ | skip
        intro j hj
        refine k_st rfl ?_
        have hgl := hgi.len
        rcases Nat.lt_or_ge j l[i].args.length with h3 | h3
        · repeat refine kn rfl ?_
          refine k_region tok rfl (by kernel_rfl) ?_
          simp only [go_sem, simprocAttr, Am.getD_enc _ _ h1, h1, h3]
          repeat refine kn rfl ?_
          refine k_cond_t rfl (by simp only [go_sem, simprocAttr]) ?_
          repeat refine kn rfl ?_
          refine k_draw tok mixed drawO rfl rfl (by kernel_rfl) (by kernel_rfl) ?_
          simp only [go_sem, simprocAttr, Am.getD_enc _ _ h1, h1, h3, Tm.getD_enc _ _ h3]
          refine callH (fun_of Tryz.func43 rfl rfl) (a43 (n + 1 + 1) _ n 0 s l[i] j l[i].args[j] (by omega) (hst.full (Nat.lt_succ_self n) _) hok' hgi (hgi.arg (List.getElem_mem h3)) (Nat.succ_pos _) (hTp.full (Nat.succ_pos _))) (by simp only [go_sem, simprocAttr]) ?_
          simp only [go_sem, simprocAttr]
          repeat refine kn rfl ?_
          refine k_cond_f rfl (by simp only [go_sem, simprocAttr]) ?_
          repeat refine kn rfl ?_
          refine k_region tok rfl (by kernel_rfl) ?_
          simp only [go_sem, simprocAttr]
          repeat refine kn rfl ?_
          refine k_nil ?_
          refine AWk_kept ?_ ?_ ?_ ?_ <;> repeat' first | exact trivial | refine q0 ?_ | exact qb | exact q1 | exact q2 | exact q3 | exact rfl | refine And.intro ?_ ?_ | exact q4 | exact q5 | exact q6 | exact q7 | exact Inside.ptr _ _ _ (.inr ⟨rfl, rfl⟩) | exact q8 | exact q9 | exact qd | exact Tm.ins _ | exact Tm.inss _ _ | exact Am.ins _ | exact Am.inss _ _ | refine ins_buf_str ?_ | refine Tm.ins_buf ?_ | refine Am.ins_buf ?_ | exact qf
          all_goals first | exact hpi _ | skip
          simp only [go_sem, simprocAttr]
          rw [IntWalk.i64_in _ (by omega)]; exact .refl _
        · repeat refine kn rfl ?_
          refine k_region tok rfl (by kernel_rfl) ?_
          simp only [go_sem, simprocAttr, Am.getD_enc _ _ h1, h1, Nat.not_lt.2 h3]
          repeat refine kn rfl ?_
          refine k_cond_f rfl (by simp only [go_sem, simprocAttr]) ?_
          repeat refine kn rfl ?_
          refine k_exit_round rfl rfl rfl ?_
          repeat refine kn rfl ?_
          refine k_nil ?_
          refine ⟨rfl, ?_⟩
          refine AWk_kept ?_ ?_ ?_ ?_ <;> repeat' first | exact trivial | refine q0 ?_ | exact qb | exact q1 | exact q2 | exact q3 | exact rfl | refine And.intro ?_ ?_ | exact q4 | exact q5 | exact q6 | exact q7 | exact Inside.ptr _ _ _ (.inr ⟨rfl, rfl⟩) | exact q8 | exact q9 | exact qd | exact Tm.ins _ | exact Tm.inss _ _ | exact Am.ins _ | exact Am.inss _ _ | refine ins_buf_str ?_ | refine Tm.ins_buf ?_ | refine Am.ins_buf ?_ | exact qf
          all_goals first | exact hpi _ | skip
      · refine k_st rfl ?_
        repeat refine kn rfl ?_
        refine k_region tok rfl (by kernel_rfl) ?_
        simp only [go_sem, simprocAttr]
        repeat refine kn rfl ?_
        refine k_nil ?_
        refine ⟨h, ?_⟩
        refine AWk_kept ?_ ?_ ?_ ?_ <;> repeat' first | exact trivial | refine q0 ?_ | exact qb | exact q1 | exact q2 | exact q3 | exact rfl | refine And.intro ?_ ?_ | exact q4 | exact q5 | exact q6 | exact q7 | exact Inside.ptr _ _ _ (.inr ⟨rfl, rfl⟩) | exact q8 | exact q9 | exact qd | exact Tm.ins _ | exact Tm.inss _ _ | exact Am.ins _ | exact Am.inss _ _ | refine ins_buf_str ?_ | refine Tm.ins_buf ?_ | refine Am.ins_buf ?_ | exact qf
        all_goals first | exact hpi _ | skip
        simp only [go_sem, simprocAttr]
        rw [IntWalk.i64_in _ (by omega)]; exact .refl _
    · have hi' : i = min l.length 10 := by omega
      have hf : (decide (i < l.length) && decide ((i : Int) < 10)) = false := by
        rw [← Bool.not_eq_true, Bool.and_eq_true, decide_eq_true_eq, decide_eq_true_eq]; omega
      cases h1 : decide (i < l.length)
      all_goals
        rw [h1] at hf
        try simp only [Bool.true_and] at hf
        repeat refine kn rfl ?_
        refine k_region tok rfl (by kernel_rfl) ?_
        simp only [go_sem, simprocAttr, h1, hf]
        repeat refine kn rfl ?_
        refine k_cond_f rfl (by simp only [go_sem, simprocAttr]) ?_
        repeat refine kn rfl ?_
        refine k_exit_round rfl rfl rfl ?_
        repeat refine kn rfl ?_
        refine k_region tok rfl (by kernel_rfl) ?_
        simp only [go_sem, simprocAttr]
        repeat refine kn rfl ?_
        refine k_ret rfl ?_
        exact post_oneQ (.refl _) (.bool _) ⟨rfl, put_cut (Nat.le_refl n)⟩
end Go.Proofs.YtpoegdhgdgbmaaaGreatDoorR

/- The laws' filled store. -/
namespace Go.Proofs.YtpoegdhgdgbmaaaGreatDoorR
open Go.Abs
set_option maxRecDepth 100000

/-- Are all atoms taken? -/
def okL (s : Sto) (l : List Am) : Sto × Bool := l.foldl (fun p a => ((addT p.1 a).1, p.2 && ((addT p.1 a).2.2 == 0))) (s, true)
theorem okL_fst (s : Sto) (l : List Am) : (okL s l).1 = addL s l := by
  have key : ∀ (l : List Am) (p : Sto × Bool), (l.foldl (fun p a => ((addT p.1 a).1, p.2 && ((addT p.1 a).2.2 == 0))) p).1 = addL p.1 l := by
    intro l
    induction l with
    | nil => intro p; rfl
    | cons a l ih => intro p; rw [List.foldl_cons, ih]; rfl
  exact key l (s, true)
theorem okL_take (s : Sto) (l : List Am) (i : Nat) (h : i < l.length) : okL s (l.take (i + 1)) = ((addT (addL s (l.take i)) l[i]).1, (okL s (l.take i)).2 && ((addT (addL s (l.take i)) l[i]).2.2 == 0)) := by
  unfold okL
  rw [foldl_take _ _ _ _ h]
  have := okL_fst s (l.take i)
  unfold okL at this
  rw [this]

def st40 (n l2 b2 : Nat) (l : List Am) (o : Own) (H : AHeap) (i : Nat) : AState :=
  ⟨[(6, .int .i64 i), (5, .bool (okL sto0 (l.take i)).2), (4, .ptr l2 b2 0), (0, .sl 2 (l.map Am.enc) o)], [], put H l2 b2 (addL sto0 (l.take i))⟩

theorem a40 (n : Nat) (H : AHeap) (l2 b2 : Nat) (l : List Am) (hl2 : l2 < n) (hf : FreeAt H l2 b2) (hg : GoodL l) (hlen : l.length ≤ 1000000) (hn : 0 < n) (hT : Tabs H) :
    ACalls Tryz.prog n 40 [.sl 2 (l.map Am.enc) .any] H (fun r H' => r = .tup [.ptr l2 b2 0, .bool (okL sto0 l).2] ∧ H' = put H l2 b2 (addL sto0 l)) := by
  refine a_fun tok (fun_of Tryz.func40 rfl rfl) (by simp) fun B => ?_
  repeat refine kn rfl ?_
  refine k_region tok rfl (by kernel_rfl) ?_
  simp only [go_sem, simprocAttr]
  repeat refine kn rfl ?_
  refine k_region tok rfl (by kernel_rfl) ?_
  simp only [go_sem, simprocAttr]
  refine call22 rfl l2 b2 hl2 hf (by simp only [go_sem, simprocAttr]) ?_
  simp only [go_sem, simprocAttr]
  repeat refine kn rfl ?_
  refine k_region tok rfl (by kernel_rfl) ?_
  simp only [go_sem, simprocAttr]
  repeat refine kn rfl ?_
  refine k_region tok rfl (by kernel_rfl) ?_
  simp only [go_sem, simprocAttr]
  repeat refine kn rfl ?_
  have hpi : ∀ q, Inside n q (.ptr l2 b2 0) := fun q => .ptr _ _ _ (.inl hl2)
  refine k_loop_ix (st40 n l2 b2 l .any H) l.length rfl ?_ ?_
  · refine AWk_kept ?_ ?_ ?_ ?_ <;> repeat' first | exact trivial | refine q0 ?_ | exact qb | exact q1 | exact q2 | exact q3 | exact rfl | refine And.intro ?_ ?_ | exact q4 | exact q5 | exact q6 | exact q7 | exact Inside.ptr _ _ _ (.inr ⟨rfl, rfl⟩) | exact q8 | exact q9 | exact qd | exact Tm.ins _ | exact Tm.inss _ _ | exact Am.ins _ | exact Am.inss _ _ | refine ins_buf_str ?_ | refine Tm.ins_buf ?_ | refine Am.ins_buf ?_ | exact qf
    all_goals first | exact hpi _ | skip
  intro i hi
  refine k_st rfl ?_
  have hok : Ok (addL sto0 (l.take i)) := ok0.addL fun x hx => hg x (List.mem_of_mem_take hx)
  rcases Nat.lt_or_ge i l.length with h | h
  · have hgi := hg _ (List.getElem_mem h)
    have hnx := okL_take sto0 l i h
    have hnx2 := addL_take sto0 l i h
    repeat refine kn rfl ?_
    refine k_region tok rfl (by kernel_rfl) ?_
    simp only [go_sem, simprocAttr, h]
    repeat refine kn rfl ?_
    refine k_cond_t rfl (by simp only [go_sem, simprocAttr]) ?_
    repeat refine kn rfl ?_
    refine k_region tok rfl (by kernel_rfl) ?_
    simp only [go_sem, simprocAttr, Am.getD_enc _ _ h, h]
    refine call23 rfl l2 b2 _ l[i] rfl hl2 hf hok.fit hgi hn hT (by simp only [go_sem, simprocAttr]) ?_
    simp only [go_sem, simprocAttr]
    generalize hb : (okL sto0 (l.take i)).2 = bb at *
    cases bb with
    | true =>
      repeat refine kn rfl ?_
      refine k_region tok rfl (by kernel_rfl) ?_
      simp only [go_sem, simprocAttr, eInt]
      repeat refine kn rfl ?_
      refine k_region tok rfl (by kernel_rfl) ?_
      simp only [go_sem, simprocAttr]
      rw [← hnx2]
      repeat refine kn rfl ?_
      refine k_nil ?_
      refine AWk_kept ?_ ?_ ?_ ?_ <;> repeat' first | exact trivial | refine q0 ?_ | exact qb | exact q1 | exact q2 | exact q3 | exact rfl | refine And.intro ?_ ?_ | exact q4 | exact q5 | exact q6 | exact q7 | exact Inside.ptr _ _ _ (.inr ⟨rfl, rfl⟩) | exact q8 | exact q9 | exact qd | exact Tm.ins _ | exact Tm.inss _ _ | exact Am.ins _ | exact Am.inss _ _ | refine ins_buf_str ?_ | refine Tm.ins_buf ?_ | refine Am.ins_buf ?_ | exact qf
      all_goals first | exact hpi _ | skip
      · simp only [go_sem, simprocAttr]
        rw [IntWalk.i64_in _ (by omega)]; exact .refl _
      · simp only [go_sem, simprocAttr, hnx]
        exact .refl _
    | false =>
      repeat refine kn rfl ?_
      refine k_region tok rfl (by kernel_rfl) ?_
      simp only [go_sem, simprocAttr, eInt]
      repeat refine kn rfl ?_
      refine k_region tok rfl (by kernel_rfl) ?_
      simp only [go_sem, simprocAttr]
      rw [← hnx2]
      repeat refine kn rfl ?_
      refine k_nil ?_
      refine AWk_kept ?_ ?_ ?_ ?_ <;> repeat' first | exact trivial | refine q0 ?_ | exact qb | exact q1 | exact q2 | exact q3 | exact rfl | refine And.intro ?_ ?_ | exact q4 | exact q5 | exact q6 | exact q7 | exact Inside.ptr _ _ _ (.inr ⟨rfl, rfl⟩) | exact q8 | exact q9 | exact qd | exact Tm.ins _ | exact Tm.inss _ _ | exact Am.ins _ | exact Am.inss _ _ | refine ins_buf_str ?_ | refine Tm.ins_buf ?_ | refine Am.ins_buf ?_ | exact qf
      all_goals first | exact hpi _ | skip
      · simp only [go_sem, simprocAttr]
        rw [IntWalk.i64_in _ (by omega)]; exact .refl _
      · simp only [go_sem, simprocAttr, hnx]
        exact .refl _
  · repeat refine kn rfl ?_
    refine k_region tok rfl (by kernel_rfl) ?_
    simp only [go_sem, simprocAttr, Nat.not_lt.2 h]
    repeat refine kn rfl ?_
    refine k_cond_f rfl (by simp only [go_sem, simprocAttr]) ?_
    repeat refine kn rfl ?_
    refine k_exit_round rfl rfl rfl ?_
    have hi' : i = l.length := by omega
    subst hi'
    rw [List.take_length]
    repeat refine kn rfl ?_
    refine k_region tok rfl (by kernel_rfl) ?_
    simp only [go_sem, simprocAttr]
    repeat refine kn rfl ?_
    refine k_ret rfl ?_
    exact post_twoQ (.refl _) (.refl _) (.ptr _ _ _ hl2) (.bool _) ⟨rfl, rfl⟩

theorem call40 {cx : Cx} {op : Oper} {args : List Operand} {ts : List TypeId} {F : AState → Prop} {tm : List (Nat × AV)} {L : List (Nat × ABlk)} {H : AHeap} (hP : cx.P = Tryz.prog) (l2 b2 : Nat) (l : List Am) (o : Own) (hl2 : l2 < cx.n) (hf : FreeAt H l2 b2) (hg : GoodL l) (hlen : l.length ≤ 1000000)
    (hn : 0 < cx.n) (hT : Tabs H) (ha : argsA cx.T (evT tm) args ts = [.sl 2 (l.map Am.enc) o]) (hF : F ⟨putT tm op.dst (.tup [.ptr l2 b2 0, .bool (okL sto0 l).2]), L, put H l2 b2 (addL sto0 l)⟩) : CallG cx false op (.func 40) args ts ⟨tm, L, H⟩ F := by
  obtain ⟨P, T, φ, n, N⟩ := cx
  subst hP
  have h := a40 (n + 1) (full n L H) l2 b2 l (Nat.lt_succ_of_lt hl2) (hf.full hl2 L) hg hlen (Nat.succ_pos _) (hT.full hn)
  rw [full_put n l2 b2 _ L H (Nat.ne_of_lt hl2)] at h
  refine callR (caps := []) (avs := [.sl 2 (l.map Am.enc) o]) (Qc := fun r H' => r = .tup [.ptr l2 b2 0, .bool (okL sto0 l).2] ∧ H' = full n L (put H l2 b2 (addL sto0 l))) rfl (fun_of Tryz.func40 rfl rfl) (ACalls.wk h ⟨.any _ _ _, trivial⟩) ha ?_
  rintro r H1 ⟨rfl, rfl⟩
  exact ⟨L, _, rfl, outStep_put0 hl2, hF⟩
end Go.Proofs.YtpoegdhgdgbmaaaGreatDoorR

/- The laws' example of the chapter. -/
namespace Go.Proofs.YtpoegdhgdgbmaaaGreatDoorR
open Go.Abs
set_option maxRecDepth 100000

def tInt (n : Int) : Tm := .mk 1 n [] []
def tSym (s : List UInt8) : Tm := .mk 2 0 s []
def awA : Am := ⟨[112], [tInt 1, tSym [97]]⟩
def awB : Am := ⟨[112], [tInt 2, tSym [97]]⟩
def awC : Am := ⟨[112], [.mk 4 0 [102] [tInt 1], tSym [98]]⟩
def awQ : Am := ⟨[113], []⟩
def awX : Am := ⟨[112], [.mk 3 0 [88] []]⟩
def awL : List Am := [awA, awQ, awB, awA, awC]
def awS : List Am := [awA, awQ, awB, awC]
def awG : Sg := ⟨[112], 2⟩

theorem aw_list : addLR [] awL = awS := by kernel_rfl
theorem aw_all : allR awS awG = [awA, awB, awC] := by kernel_rfl
theorem aw_find : findR awS awG 1 (tSym [97]) = [awA, awB] := by kernel_rfl
theorem aw_sigs : sortD (awS.map Am.sg) = [awG, ⟨[113], 0⟩] := by kernel_rfl
theorem aw_sort : sortB ltA awS = [awA, awB, awC, awQ] := by kernel_rfl
theorem aw_x : validA awX = false := by kernel_rfl
theorem aw_v : valueT (tSym [97]) = true := by kernel_rfl
theorem aw_ok : (okL sto0 awL).2 = true := by kernel_rfl

theorem nmI (n : Int) (h : -9223372036854775808 ≤ n ∧ n ≤ 9223372036854775807) : (tInt n).Nm := .mk _ _ _ _ (by simp) (by decide) h (by simp)
theorem nmS (s : List UInt8) (h : s.length ≤ 140737488355328) : (tSym s).Nm := .mk _ _ _ _ h (by decide) (by decide) (by simp)
theorem goodA {a : Am} (h1 : a.pred.length ≤ 140737488355328) (h2 : a.sz ≤ 1000000) (h3 : AllP Tm.Nm a.args) : a.Good := ⟨h1, h2, h3.mem⟩
theorem gA : awA.Good := goodA (by decide) (by decide) ⟨nmI 1 (by decide), nmS _ (by decide), trivial⟩
theorem gB : awB.Good := goodA (by decide) (by decide) ⟨nmI 2 (by decide), nmS _ (by decide), trivial⟩
theorem gC : awC.Good := goodA (by decide) (by decide) ⟨.mk _ _ _ _ (by decide) (by decide) (by decide) (by simp only [List.mem_singleton, forall_eq]; exact nmI 1 (by decide)), nmS _ (by decide), trivial⟩
theorem gQ : awQ.Good := goodA (by decide) (by decide) trivial
theorem gX : awX.Good := goodA (by decide) (by decide) ⟨.mk _ _ _ _ (by decide) (by decide) (by decide) (by simp), trivial⟩
theorem gL : GoodL awL := by
  intro a ha
  simp only [awL, List.mem_cons, List.not_mem_nil, or_false] at ha
  rcases ha with rfl | rfl | rfl | rfl | rfl
  · exact gA
  · exact gQ
  · exact gB
  · exact gA
  · exact gC
theorem gSl : GoodL awS := by
  intro a ha
  simp only [awS, List.mem_cons, List.not_mem_nil, or_false] at ha
  rcases ha with rfl | rfl | rfl | rfl
  · exact gA
  · exact gQ
  · exact gB
  · exact gC

theorem a18o (p : List UInt8) (l : List Tm) (o : Own) : Abs.Pure Tryz.prog 18 [.str p, .sl 4 (l.map Tm.enc) o] (Am.mk p l).enc := Pure.wk (a18 p l) ⟨.refl _, .any _ _ _, trivial⟩
theorem a21o (p : List UInt8) (l : List Tm) (o : Own) : Abs.Pure Tryz.prog 21 [.str p, .sl 4 (l.map Tm.enc) o] (Tm.mk 4 0 p l).enc := Pure.wk (a21 p l) ⟨.refl _, .any _ _ _, trivial⟩

theorem a19t (n : Int) : Abs.Pure Tryz.prog 19 [.int .i64 n] (tInt n).enc := a19 n
theorem a20t (s : List UInt8) : Abs.Pure Tryz.prog 20 [.str s] (tSym s).enc := a20 s

theorem a29o (p : List Am) (o : Own) (hl : p.length ≤ 1000000) (hg : GoodL p) : Abs.Pure Tryz.prog 29 [.sl 2 (p.map Am.enc) .any, .sl 2 (p.map Am.enc) o] (.bool true) := by
  have := Pure.wk (args := [.sl 2 (p.map Am.enc) .any, .sl 2 (p.map Am.enc) o]) (a29 p p hl hg) ⟨.refl _, .any _ _ _, trivial⟩
  rwa [eqLA_self] at this
theorem a41o (p : List Sg) (o : Own) (hl : p.length ≤ 1000000) : Abs.Pure Tryz.prog 41 [.sl 2 (p.map Sg.enc) .any, .sl 2 (p.map Sg.enc) o] (.bool true) := by
  have := Pure.wk (args := [.sl 2 (p.map Sg.enc) .any, .sl 2 (p.map Sg.enc) o]) (a41 p p hl) ⟨.refl _, .any _ _ _, trivial⟩
  rwa [eqLS_self] at this

theorem g3 : GoodL [awA, awB, awC] := by
  intro a ha
  simp only [List.mem_cons, List.not_mem_nil, or_false] at ha
  rcases ha with rfl | rfl | rfl
  · exact gA
  · exact gB
  · exact gC
theorem g2 : GoodL [awA, awB] := fun a ha => g3 a (by simp at ha ⊢; rcases ha with rfl | rfl <;> simp)
theorem g4 : GoodL [awA, awB, awC, awQ] := by
  intro a ha
  simp only [List.mem_cons, List.not_mem_nil, or_false] at ha
  rcases ha with rfl | rfl | rfl | rfl
  · exact gA
  · exact gB
  · exact gC
  · exact gQ

theorem xWk : Wks [.str [112], .sl 4 [.agg [.int .u8 3, .int .i64 0, .str [88], .sl 4 [] .full]] .full] [.str [112], .sl 4 ([Tm.mk 3 0 [88] []].map Tm.enc) .any] :=
  ⟨.refl _, .deep (WkS.slL ⟨WkS.aggL ⟨.refl _, .refl _, .refl _, .nil _ _ _, trivial⟩, trivial⟩), trivial⟩

theorem a12 : PureT Tryz.prog 12 [] (.bool true) := by
  intro n H hn hT
  have hTc := hT.cut hn
  have hfr := FreeAt.cut n n H (Nat.le_refl _) 0
  refine PC.up 1 (.bool _) ?_
  refine a_fun tok (fun_of Tryz.func12 rfl rfl) (by simp) fun B => ?_
  repeat refine kn rfl ?_
  refine k_region tok rfl (by kernel_rfl) ?_
  simp only [go_sem, simprocAttr]
  repeat refine kn rfl ?_
  refine k_region tok rfl (by kernel_rfl) ?_
  simp only [go_sem, simprocAttr]
  refine callP (fun_of Tryz.func19 rfl rfl) (a19t 1) (by simp only [go_sem, simprocAttr]) ?_
  simp only [go_sem, simprocAttr]
  refine callP (fun_of Tryz.func20 rfl rfl) (a20t [97]) (by simp only [go_sem, simprocAttr]) ?_
  simp only [go_sem, simprocAttr]
  refine ⟨by decide, ?_⟩
  refine callP (fun_of Tryz.func18 rfl rfl) (a18o [112] [tInt 1, tSym [97]] .full) (by simp only [go_sem, simprocAttr]) ?_
  simp only [go_sem, simprocAttr]
  refine callP (fun_of Tryz.func19 rfl rfl) (a19t 2) (by simp only [go_sem, simprocAttr]) ?_
  simp only [go_sem, simprocAttr]
  refine callP (fun_of Tryz.func20 rfl rfl) (a20t [97]) (by simp only [go_sem, simprocAttr]) ?_
  simp only [go_sem, simprocAttr]
  refine ⟨by decide, ?_⟩
  refine callP (fun_of Tryz.func18 rfl rfl) (a18o [112] [tInt 2, tSym [97]] .full) (by simp only [go_sem, simprocAttr]) ?_
  simp only [go_sem, simprocAttr]
  refine callP (fun_of Tryz.func19 rfl rfl) (a19t 1) (by simp only [go_sem, simprocAttr]) ?_
  simp only [go_sem, simprocAttr]
  refine ⟨by decide, ?_⟩
  refine callP (fun_of Tryz.func21 rfl rfl) (a21o [102] [tInt 1] .full) (by simp only [go_sem, simprocAttr]) ?_
  simp only [go_sem, simprocAttr]
  refine callP (fun_of Tryz.func20 rfl rfl) (a20t [98]) (by simp only [go_sem, simprocAttr]) ?_
  simp only [go_sem, simprocAttr]
  refine ⟨by decide, ?_⟩
  refine callP (fun_of Tryz.func18 rfl rfl) (a18o [112] [.mk 4 0 [102] [tInt 1], tSym [98]] .full) (by simp only [go_sem, simprocAttr]) ?_
  simp only [go_sem, simprocAttr]
  refine callP (fun_of Tryz.func18 rfl rfl) (a18o [113] [] .full) (by simp only [go_sem, simprocAttr]) ?_
  simp only [go_sem, simprocAttr]
  repeat refine kn rfl ?_
  have hN : ¬ n = n + 1 := by omega
  refine k_weak (s' := ⟨[(4, .ptr (n + 1) 4 0), (3, .ptr (n + 1) 3 0), (2, .ptr (n + 1) 2 0), (1, .ptr (n + 1) 1 0)], [(1, .box awA.cs), (2, .box awB.cs), (3, .box awC.cs), (4, .box awQ.cs)], cutH n H⟩) ?_ ?_
  · refine AWk_kept ?_ ?_ ?_ ?_ <;> repeat' first | exact trivial | refine q0 ?_ | exact qb | exact q1 | exact q2 | exact q3 | exact rfl | refine And.intro ?_ ?_ | exact q4 | exact q5 | exact q6 | exact q7 | exact Inside.ptr _ _ _ (.inr ⟨rfl, rfl⟩) | exact q8 | exact q9 | exact qd | exact Tm.ins _ | exact Tm.inss _ _ | exact Am.ins _ | exact Am.inss _ _ | refine ins_buf_str ?_ | refine Tm.ins_buf ?_ | refine Am.ins_buf ?_ | exact qf
  have hA : ∀ x : Am, AV.agg x.cs = x.enc := fun _ => rfl
  have hlen : ∀ x : Am, 2 ≤ x.cs.length := fun _ => Nat.le_refl _
  have htk : ∀ x : Am, List.take 2 x.cs = x.cs := fun _ => rfl
  repeat refine kn rfl ?_
  refine k_region tok rfl (by kernel_rfl) ?_
  simp only [go_sem, simprocAttr, hA, htk, hlen]
  refine ⟨by decide, ?_⟩
  refine call40 rfl n 0 awL .full (Nat.lt_succ_self n) hfr gL (by decide) (Nat.succ_pos _) hTc (by simp only [go_sem, simprocAttr, awL]) ?_
  rw [aw_ok]
  have hok : Ok (addL sto0 awL) := ok0.addL gL
  have hsA : (addL sto0 awL).A = awS := (ok0.addL_A gL).trans aw_list
  generalize addL sto0 awL = s at *
  have hl : n < n + 1 := Nat.lt_succ_self n
  have hst := HasSto.put (cutH n H) n 0 s
  have hTp := hTc.put hfr s
  have hsl : (s.A.length : Int) = 4 := by rw [hsA]; rfl
  simp only [go_sem, simprocAttr]
  repeat refine kn rfl ?_
  refine k_region tok rfl (by kernel_rfl) ?_
  simp only [go_sem, simprocAttr]
  refine callH (fun_of Tryz.func24 rfl rfl) (a24 (n + 1 + 1) _ n 0 s (by omega) (hst.full hl _)) (by simp only [go_sem, simprocAttr]) ?_
  simp only [go_sem, simprocAttr, hsl, bne_self_eq_false]
  repeat refine kn rfl ?_
  refine k_cond_f rfl (by simp only [go_sem, simprocAttr]) ?_
  repeat refine kn rfl ?_
  refine k_region tok rfl (by kernel_rfl) ?_
  simp only [go_sem, simprocAttr]
  repeat refine kn rfl ?_
  refine k_region tok rfl (by kernel_rfl) ?_
  simp only [go_sem, simprocAttr]
  refine callH (fun_of Tryz.func27 rfl rfl) (a27 (n + 1 + 1) _ n 0 s 2 (by omega) (hst.full hl _) hok.g (Nat.succ_pos _) (hTp.full (Nat.succ_pos _))) (by simp only [go_sem, simprocAttr]) ?_
  have hat : atR s.A 2 = (awB, 0) := by rw [hsA]; rfl
  rw [hat]
  simp only [go_sem, simprocAttr]
  repeat refine kn rfl ?_
  refine k_region tok rfl (by kernel_rfl) ?_
  simp only [go_sem, simprocAttr]
  refine ⟨by decide, ?_⟩
  refine callP (fun_of Tryz.func18 rfl rfl) (Pure.wk (a18 [112] [.mk 3 0 [88] []]) xWk) (by simp only [go_sem, simprocAttr]) ?_
  simp only [go_sem, simprocAttr]
  refine call23 rfl n 0 s awX rfl hl hfr hok.fit gX (Nat.succ_pos _) hTc (by simp only [go_sem, simprocAttr, awX]) ?_
  have hadd : addT s awX = (s, false, 2) := by simp [addT, aw_x]
  rw [hadd]
  simp only [go_sem, simprocAttr, eInt]
  repeat refine kn rfl ?_
  refine k_draw tok mixed drawO rfl rfl (by kernel_rfl) (by kernel_rfl) ?_
  simp only [go_sem, simprocAttr, hA, htk, hlen]
  refine callP (fun_of Tryz.func28 rfl rfl) (a28 awB awB gB) (by simp only [go_sem, simprocAttr, eqA_self]) ?_
  simp only [go_sem, simprocAttr, eqA_self]
  have hix := hok.ixS awG
  have hixr := hok.ixR (⟨awG, 1, txt (tSym [97])⟩ : Ak)
  refine callH (fun_of Tryz.func30 rfl rfl) (a30 (n + 1 + 1) _ n 0 s awG (by omega) (hst.full hl _) hok.g (Nat.succ_pos _) (hTp.full (Nat.succ_pos _)) hix.1 hix.2) (by simp only [go_sem, simprocAttr, awG]) ?_
  rw [hok.all, hsA, aw_all]
  simp only [go_sem, simprocAttr, hA, htk, hlen]
  refine ⟨by decide, ?_⟩
  refine callP (fun_of Tryz.func29 rfl rfl) (a29o [awA, awB, awC] .full (by decide) g3) (by simp only [go_sem, simprocAttr]) ?_
  simp only [go_sem, simprocAttr]
  refine callP (fun_of Tryz.func20 rfl rfl) (a20t [97]) (by simp only [go_sem, simprocAttr]) ?_
  simp only [go_sem, simprocAttr]
  refine callH (fun_of Tryz.func32 rfl rfl) (a32 (n + 1 + 1) _ n 0 s awG 1 (tSym [97]) ⟨by decide, nmS _ (by decide)⟩ (by omega) (hst.full hl _) hok.g (Nat.succ_pos _) (hTp.full (Nat.succ_pos _)) hixr.1 hixr.2) (by simp only [go_sem, simprocAttr, awG]) ?_
  rw [hok.find', hsA, aw_find]
  simp only [go_sem, simprocAttr, hA, htk, hlen]
  refine ⟨by decide, ?_⟩
  refine callP (fun_of Tryz.func29 rfl rfl) (a29o [awA, awB] .full (by decide) g2) (by simp only [go_sem, simprocAttr]) ?_
  simp only [go_sem, simprocAttr]
  refine callH (fun_of Tryz.func36 rfl rfl) (a36 (n + 1 + 1) _ n 0 s (by omega) (hst.full hl _) hok) (by simp only [go_sem, simprocAttr]) ?_
  rw [hsA, aw_sigs]
  simp only [go_sem, simprocAttr, hA, htk, hlen]
  refine ⟨by decide, ?_⟩
  refine callP (fun_of Tryz.func41 rfl rfl) (a41o [awG, ⟨[113], 0⟩] .full (by decide)) (by simp only [go_sem, simprocAttr, awG]) ?_
  simp only [go_sem, simprocAttr]
  refine callH (fun_of Tryz.func33 rfl rfl) (a33 (n + 1 + 1) _ n 0 s (by omega) (hst.full hl _) hok (Nat.succ_pos _) (hTp.full (Nat.succ_pos _))) (by simp only [go_sem, simprocAttr]) ?_
  rw [hsA, aw_sort]
  simp only [go_sem, simprocAttr, hA, htk, hlen]
  refine ⟨by decide, ?_⟩
  refine callP (fun_of Tryz.func29 rfl rfl) (a29o [awA, awB, awC, awQ] .full (by decide) g4) (by simp only [go_sem, simprocAttr]) ?_
  simp only [go_sem, simprocAttr]
  repeat refine kn rfl ?_
  refine k_ret rfl ?_
  exact post_oneQ (.refl _) (.bool _) ⟨rfl, put_cut (Nat.le_refl n)⟩
end Go.Proofs.YtpoegdhgdgbmaaaGreatDoorR
