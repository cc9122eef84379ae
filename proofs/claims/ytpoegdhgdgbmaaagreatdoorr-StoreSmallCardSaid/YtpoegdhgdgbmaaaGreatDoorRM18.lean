/- A store's plain law: what it holds after atoms were added. No program. -/
import Derived.Test.YtpoegdhgdgbmaaaGreatDoorRM17
import Derived.Test.YtpoegdhgdgbmaaaGreatDoorRM08
import Derived.Test.YtpoegdhgdgbmaaaGreatDoorRM11
import Derived.Shelf.SlSortCmp.NoneTotal
import Derived.Test.YtpoegdhgdgbmaaaGreatDoorRM15
import Derived.Shelf.SlGeneric
import Derived.Ground.SlsfProg
import Derived.Ground.NamesProg
import Derived.KernelRfl
import Derived.Test.YtpoegdhgdgbmaaaGreatDoorRProg
set_option linter.all false
namespace Go.Proofs.YtpoegdhgdgbmaaaGreatDoorR
open Go.Abs

/-- Atoms added one by one. -/
def addL (s : Sto) (l : List Am) : Sto := l.foldl (fun s a => (addT s a).1) s

/-- The places of a list's members with a property. -/
def plc (p : Am → Bool) : Nat → List Am → List Int
  | _, [] => []
  | i, a :: r => if p a = true then (i : Int) :: plc p (i + 1) r else plc p (i + 1) r

theorem plc_snoc (p : Am → Bool) (a : Am) : ∀ (A : List Am) (i : Nat), plc p i (A ++ [a]) = plc p i A ++ (if p a = true then [((i + A.length : Nat) : Int)] else [])
  | [], i => by simp only [List.nil_append, plc, List.length_nil, Nat.add_zero]
  | b :: A, i => by
    simp only [List.cons_append, plc, plc_snoc p a A (i + 1), List.length_cons]
    rw [show i + 1 + A.length = i + (A.length + 1) by omega]
    split <;> simp

theorem plc_bd (p : Am → Bool) : ∀ (A : List Am) (i : Nat), ∀ x ∈ plc p i A, (i : Int) ≤ x ∧ x < i + A.length
  | [], _, x, h => by simp [plc] at h
  | b :: A, i, x, h => by
    simp only [plc] at h
    have key : x ∈ plc p (i + 1) A → (i : Int) ≤ x ∧ x < i + (b :: A).length := fun h => by
      have := plc_bd p A (i + 1) x h
      simp only [List.length_cons]; omega
    split at h
    · rcases List.mem_cons.1 h with rfl | h
      · simp only [List.length_cons]; omega
      · exact key h
    · exact key h

theorem plc_len (p : Am → Bool) : ∀ (A : List Am) (i : Nat), (plc p i A).length ≤ A.length
  | [], _ => Nat.le_refl _
  | b :: A, i => by
    have := plc_len p A (i + 1)
    simp only [plc]
    split <;> simp only [List.length_cons] <;> omega

theorem pick_plc (p : Am → Bool) : ∀ (A pre : List Am), (plc p pre.length A).map (fun j => (pre ++ A).getD j.toNat ⟨[], []⟩) = A.filter p
  | [], _ => rfl
  | b :: A, pre => by
    have ih := pick_plc p A (pre ++ [b])
    simp only [List.length_append, List.length_cons, List.length_nil, Nat.zero_add, List.append_assoc, List.cons_append, List.nil_append] at ih
    simp only [plc, List.filter_cons]
    split
    · rw [List.map_cons, ih]
      congr 1
      simp
    · exact ih

theorem pickR_plc (p : Am → Bool) (A : List Am) : pickR A (plc p 0 A) = A.filter p := pick_plc p A []

/-- Numbers by text. -/
def nums : Nat → List Am → List (List UInt8 × Int)
  | _, [] => []
  | i, a :: r => (atxt a, (i : Int)) :: nums (i + 1) r
theorem nums_snoc (a : Am) : ∀ (A : List Am) (i : Nat), nums i (A ++ [a]) = nums i A ++ [(atxt a, ((i + A.length : Nat) : Int))]
  | [], i => by simp [nums]
  | b :: A, i => by
    simp only [List.cons_append, nums, nums_snoc a A (i + 1), List.length_cons]
    rw [show i + 1 + A.length = i + (A.length + 1) by omega]

theorem keyIx_nums (t : List UInt8) : ∀ (A : List Am) (i j : Nat), (keyIx t (nums i A) j).isSome = true ↔ ∃ a ∈ A, atxt a = t
  | [], _, _ => by simp [nums, keyIx]
  | b :: A, i, j => by
    simp only [nums, keyIx]
    split
    · rename_i h; simp [h]
    · rename_i h
      rw [keyIx_nums t A (i + 1) (j + 1)]
      simp [h]

section
variable {κ : Type} [DecidableEq κ]

theorem keyIx_mem {k : κ} {β : Type} : ∀ {es : List (κ × β)} {i : Nat}, keyIx k es i = none ↔ k ∉ es.map Prod.fst
  | [], _ => by simp [keyIx]
  | p :: r, i => by
    simp only [keyIx, List.map_cons, List.mem_cons, not_or]
    split
    · rename_i h; simp [h]
    · rename_i h
      rw [keyIx_mem (es := r)]
      simp [Ne.symm h]

theorem keyIx_set {k k' : κ} {β : Type} (x : β) : ∀ (es : List (κ × β)) (i j : Nat), keyIx k es i = some (i + j) → keyIx k' (es.set j (k, x)) i = keyIx k' es i
  | [], _, _, h => by cases h
  | p :: r, i, 0, h => by
    simp only [keyIx] at h
    split at h
    · rename_i hp
      subst hp
      simp only [List.set_cons_zero, keyIx]
    · have := (keyIx_lt h).1; omega
  | p :: r, i, j + 1, h => by
    simp only [keyIx] at h
    split at h
    · simp only [Option.some.injEq] at h; omega
    · rw [show i + (j + 1) = i + 1 + j by omega] at h
      simp only [List.set_cons_succ, keyIx, keyIx_set x r (i + 1) j h]

theorem keyIx_snoc_ne {k k' : κ} {β : Type} (x : β) (hne : k' ≠ k) : ∀ (es : List (κ × β)) (i : Nat), keyIx k' (es ++ [(k, x)]) i = keyIx k' es i
  | [], i => by simp [keyIx, Ne.symm hne]
  | p :: r, i => by simp only [List.cons_append, keyIx, keyIx_snoc_ne x hne r (i + 1)]
theorem keyIx_snoc {k : κ} {β : Type} (x : β) : ∀ (es : List (κ × β)) (i : Nat), keyIx k es i = none → keyIx k (es ++ [(k, x)]) i = some (i + es.length)
  | [], i, _ => by simp [keyIx]
  | p :: r, i, h => by
    simp only [keyIx] at h
    split at h
    · cases h
    · rename_i hp
      simp only [List.cons_append, keyIx, if_neg hp, keyIx_snoc x r (i + 1) h, List.length_cons]
      congr 1; omega

theorem ixOf_none {k : κ} {es : List (κ × List Int)} (h : keyIx k es 0 = none) : ixOf k es = [] := by rw [ixOf, h]

theorem ixOf_some {k : κ} {es : List (κ × List Int)} {j : Nat} (h : keyIx k es 0 = some j) : ixOf k es = ((es[j]?).map Prod.snd).getD [] := by rw [ixOf, h]

theorem ixOf_add (k k' : κ) (x : Int) (es : List (κ × List Int)) : ixOf k' (addIx k x es) = if k' = k then ixOf k es ++ [x] else ixOf k' es := by
  unfold addIx
  cases hk : keyIx k es 0 with
  | some j =>
    obtain ⟨hj, he⟩ := ixOf_at hk
    have hs := fun k' => keyIx_set (k' := k') (ixOf k es ++ [x]) es 0 j (by rw [hk, Nat.zero_add])
    by_cases h : k' = k
    · subst h
      rw [if_pos rfl]
      simp only
      rw [ixOf_some ((hs k').trans hk)]
      simp [hj]
    · rw [if_neg h]
      simp only
      cases hk' : keyIx k' es 0 with
      | none => rw [ixOf_none ((hs k').trans hk'), ixOf_none hk']
      | some j' =>
        obtain ⟨hj', he'⟩ := ixOf_at hk'
        have hne : j ≠ j' := fun e => by subst e; rw [he] at he'; exact h (congrArg Prod.fst he').symm
        rw [ixOf_some ((hs k').trans hk'), ixOf_some hk', List.getElem?_set_ne hne]
  | none =>
    by_cases h : k' = k
    · subst h
      rw [if_pos rfl, ixOf_none hk]
      simp only
      rw [ixOf_some (keyIx_snoc [x] es 0 hk)]
      simp
    · rw [if_neg h]
      simp only
      have hs := keyIx_snoc_ne [x] h es 0
      cases hk' : keyIx k' es 0 with
      | none => rw [ixOf_none (hs.trans hk'), ixOf_none hk']
      | some j' =>
        have := keyIx_lt hk'
        rw [ixOf_some (hs.trans hk'), ixOf_some hk', List.getElem?_append_left (by omega)]

theorem keys_add (k : κ) (x : Int) (es : List (κ × List Int)) : (addIx k x es).map Prod.fst = if k ∈ es.map Prod.fst then es.map Prod.fst else es.map Prod.fst ++ [k] := by
  unfold addIx
  cases hk : keyIx k es 0 with
  | some j =>
    obtain ⟨hj, he⟩ := ixOf_at hk
    have hm : k ∈ es.map Prod.fst := List.mem_map.2 ⟨es[j], List.getElem_mem hj, by rw [he]⟩
    rw [if_pos hm]
    simp only [List.map_set]
    have : (es.map Prod.fst)[j]'(by simpa using hj) = k := by simp [he]
    conv => lhs; rw [← this]
    exact List.set_getElem_self _
  | none =>
    rw [if_neg (keyIx_mem.1 hk)]
    simp

theorem ixOf_fold (x : Int) (k' : κ) : ∀ (ks : List κ) (es : List (κ × List Int)), ks.Nodup → ixOf k' (ks.foldl (fun R k => addIx k x R) es) = ixOf k' es ++ (if k' ∈ ks then [x] else [])
  | [], es, _ => by simp
  | k :: ks, es, h => by
    rw [List.nodup_cons] at h
    rw [List.foldl_cons, ixOf_fold x k' ks _ h.2, ixOf_add]
    by_cases e : k' = k
    · subst e
      rw [if_pos rfl, if_neg h.1, if_pos (by simp)]; simp
    · rw [if_neg e]
      simp [e]
end

theorem Bd.fold {x : Int} : ∀ {ks : List Ak} {es : List (Ak × List Int)} {m : Nat}, Bd es m → Bd (ks.foldl (fun R k => addIx k x R) es) (m + ks.length)
  | [], _, _, h => h
  | k :: ks, es, m, h => by
    have := Bd.fold (x := x) (ks := ks) (h.add (k := k) (x := x))
    rw [List.foldl_cons, List.length_cons]
    rw [show m + (ks.length + 1) = m + 1 + ks.length by omega]; exact this

/-- A store as the adding of atoms leaves it. -/
structure Ok (s : Sto) : Prop where
  A : s.A.length ≤ 2000
  g : GoodL s.A
  v : ∀ a ∈ s.A, validA a = true
  nd : s.A.Nodup
  N : s.N = nums 0 s.A
  S : ∀ k, ixOf k s.S = plc (fun a => a.sg == k) 0 s.A
  R : ∀ k, ixOf k s.R = plc (fun a => decide (k ∈ argKeys a)) 0 s.A
  BS : Bd s.S s.A.length
  BR : Bd s.R (8 * s.A.length)
  K : (s.S.map Prod.fst).Nodup
  KM : ∀ k, k ∈ s.S.map Prod.fst ↔ ∃ a ∈ s.A, a.sg = k

theorem Bd.le {κ : Type} {es : List (κ × List Int)} {m n : Nat} (h : Bd es m) (hmn : m ≤ n) : Bd es n := fun p hp => Nat.le_trans (h p hp) hmn

theorem Ok.fit {s : Sto} (h : Ok s) : Fit s := ⟨h.A, h.BS.le (by have := h.A; omega), h.BR.le (by have := h.A; omega), h.g⟩

theorem ok0 : Ok sto0 := ⟨by simp [sto0], fun a h => by simp [sto0] at h, fun a h => by simp [sto0] at h, by simp [sto0], rfl, fun _ => rfl, fun _ => rfl, fun p h => by simp [sto0] at h, fun p h => by simp [sto0] at h, by simp [sto0], fun k => by simp [sto0]⟩

/-- Is an atom in it? By its text. -/
theorem Ok.has {s : Sto} (h : Ok s) {a : Am} (ha : validA a = true) : (keyIx (atxt a) s.N 0).isSome = s.A.any (eqA · a) := by
  rw [Bool.eq_iff_iff, h.N, keyIx_nums, List.any_eq_true]
  constructor
  · rintro ⟨b, hb, e⟩
    exact ⟨b, hb, (eqA_iff b a).2 (atxt_inj (h.v b hb) ha e)⟩
  · rintro ⟨b, hb, e⟩
    exact ⟨b, hb, by rw [(eqA_iff b a).1 e]⟩

theorem argKeys_nodup (a : Am) : (argKeys a).Nodup := by
  unfold argKeys
  rw [List.nodup_iff_pairwise_ne, List.pairwise_map]
  refine List.Pairwise.imp_of_mem ?_ (List.pairwise_iff_getElem (R := fun (p q : Tm × Nat) => p.2 < q.2) |>.2 fun i j hi hj hij => by simpa using hij)
  intro p q _ _ hlt e
  simp only [Ak.mk.injEq] at e
  omega

theorem Ok.add {s : Sto} (h : Ok s) {a : Am} (hg : a.Good) (hv : validA a = true) (hn : s.A.any (eqA · a) = false) (hl : s.A.length ≠ 2000) : Ok (addS s a) := by
  have hA := h.A
  have hlen := validA_len hv
  refine ⟨by simp [addS]; omega, fun x hx => ?_, fun x hx => ?_, ?_, ?_, fun k => ?_, fun k => ?_, ?_, ?_, ?_, fun k => ?_⟩
  · simp only [addS, List.mem_append, List.mem_singleton] at hx
    rcases hx with hx | rfl
    · exact h.g x hx
    · exact hg
  · simp only [addS, List.mem_append, List.mem_singleton] at hx
    rcases hx with hx | rfl
    · exact h.v x hx
    · exact hv
  · simp only [addS]
    rw [List.nodup_append]
    refine ⟨h.nd, by simp, fun x hx y hy e => ?_⟩
    simp only [List.mem_singleton] at hy; subst hy; subst e
    rw [List.any_eq_false] at hn
    exact hn x hx ((eqA_iff x x).2 rfl)
  · simp only [addS]
    rw [nums_snoc, h.N, Nat.zero_add]
  · simp only [addS]
    rw [ixOf_add, plc_snoc, Nat.zero_add]
    by_cases e : k = a.sg
    · subst e; rw [if_pos rfl, h.S]; simp
    · rw [if_neg e, h.S]
      have : (a.sg == k) = false := by rw [beq_eq_false_iff_ne]; exact Ne.symm e
      simp [this]
  · simp only [addS]
    rw [ixOf_fold _ _ _ _ (argKeys_nodup a), plc_snoc, Nat.zero_add, h.R]
    simp
  · simp only [addS, List.length_append, List.length_cons, List.length_nil]
    exact h.BS.add
  · simp only [addS, List.length_append, List.length_cons, List.length_nil]
    exact (h.BR.fold).le (by rw [argKeys_len]; omega)
  · simp only [addS]
    rw [keys_add]
    split
    · exact h.K
    · rename_i hm
      rw [List.nodup_append]
      refine ⟨h.K, by simp, fun x hx y hy e => ?_⟩
      simp only [List.mem_singleton] at hy; subst hy; subst e
      exact hm hx
  · simp only [addS]
    rw [keys_add]
    have : k ∈ (if a.sg ∈ s.S.map Prod.fst then s.S.map Prod.fst else s.S.map Prod.fst ++ [a.sg]) ↔ k ∈ s.S.map Prod.fst ∨ k = a.sg := by
      split
      · rename_i hm
        exact ⟨.inl, fun h => h.elim id fun e => e ▸ hm⟩
      · simp
    rw [this, h.KM]
    constructor
    · rintro (⟨x, hx, e⟩ | e)
      · exact ⟨x, by simp [hx], e⟩
      · exact ⟨a, by simp, e.symm⟩
    · rintro ⟨x, hx, e⟩
      simp only [List.mem_append, List.mem_singleton] at hx
      rcases hx with hx | rfl
      · exact .inl ⟨x, hx, e⟩
      · exact .inr e.symm

/-- Adding an atom to a store and to a list come to the same. -/
theorem Ok.addT_eq {s : Sto} (h : Ok s) (a : Am) : ((addT s a).1.A, (addT s a).2.1, (addT s a).2.2) = addR s.A a := by
  unfold addT addR
  cases h1 : validA a with
  | false => simp
  | true =>
    simp only [Bool.true_eq_false, if_false]
    rw [h.has h1]
    split
    · rfl
    · split
      · rfl
      · simp [addS]

theorem Ok.addT {s : Sto} (h : Ok s) {a : Am} (hg : a.Good) : Ok (addT s a).1 := by
  unfold Go.Proofs.YtpoegdhgdgbmaaaGreatDoorR.addT
  split
  · exact h
  · split
    · exact h
    · rename_i h1 h2
      split
      · exact h
      · rename_i h3
        have hv : validA a = true := by simpa using h1
        rw [h.has hv] at h2
        exact h.add hg hv (by simpa using h2) h3

theorem addL_snoc (s : Sto) (l : List Am) (a : Am) : addL s (l ++ [a]) = (addT (addL s l) a).1 := by
  unfold addL; rw [List.foldl_append]; rfl
theorem addL_take (s : Sto) (l : List Am) (i : Nat) (h : i < l.length) : addL s (l.take (i + 1)) = (addT (addL s (l.take i)) l[i]).1 := by
  rw [List.take_succ_eq_append_getElem h, addL_snoc]

theorem Ok.addL {s : Sto} (h : Ok s) : ∀ {l : List Am}, GoodL l → Ok (addL s l) := by
  intro l
  induction l generalizing s with
  | nil => intro _; exact h
  | cons a l ih =>
    intro hg
    exact ih (h.addT (hg a (by simp))) (fun x hx => hg x (by simp [hx]))

/-- Lists of atoms added one by one. -/
def addLR (l0 l : List Am) : List Am := l.foldl (fun s a => (addR s a).1) l0
theorem Ok.addL_A {s : Sto} (h : Ok s) : ∀ {l : List Am}, GoodL l → (Go.Proofs.YtpoegdhgdgbmaaaGreatDoorR.addL s l).A = addLR s.A l := by
  intro l
  induction l generalizing s with
  | nil => intro _; rfl
  | cons a l ih =>
    intro hg
    have h1 := ih (h.addT (hg a (by simp))) (fun x hx => hg x (by simp [hx]))
    have h2 := h.addT_eq a
    show (Go.Proofs.YtpoegdhgdgbmaaaGreatDoorR.addL (Go.Proofs.YtpoegdhgdgbmaaaGreatDoorR.addT s a).1 l).A = addLR (addR s.A a).1 l
    rw [h1, ← h2]

/-- The store's answers, as lists. -/
theorem Ok.all {s : Sto} (h : Ok s) (k : Sg) : pickR s.A (ixOf k s.S) = allR s.A k := by
  rw [h.S, pickR_plc]; rfl

theorem mem_argKeys (a : Am) (k : Ak) : k ∈ argKeys a ↔ a.sg = k.s ∧ 0 ≤ k.c ∧ ∃ t, a.args[k.c.toNat]? = some t ∧ txt t = k.t := by
  unfold argKeys
  rw [List.mem_map]
  constructor
  · rintro ⟨⟨t, i⟩, hm, rfl⟩
    rw [List.mem_zipIdx_iff_getElem?] at hm
    exact ⟨rfl, by simp, t, by simpa using hm, rfl⟩
  · rintro ⟨h1, h2, t, h3, h4⟩
    refine ⟨(t, k.c.toNat), by rw [List.mem_zipIdx_iff_getElem?]; exact h3, ?_⟩
    obtain ⟨s, c, x⟩ := k
    simp only at *
    subst h1 h4
    congr 1; omega

theorem Ok.find {s : Sto} (h : Ok s) (k : Sg) (c : Int) {v : Tm} (hv : valueT v = true) : pickR s.A (ixOf (⟨k, c, txt v⟩ : Ak) s.R) = findR s.A k c v := by
  rw [h.R, pickR_plc]
  unfold findR
  refine List.filter_congr fun a ha => ?_
  rw [Bool.eq_iff_iff, decide_eq_true_eq, mem_argKeys]
  simp only [findP, Bool.and_eq_true, beq_iff_eq, decide_eq_true_eq, colEq]
  have hav := h.v a ha
  constructor
  · rintro ⟨h1, h2, t, h3, h4⟩
    have ht := validA_arg hav (List.mem_of_getElem? h3)
    have hlt := (List.getElem?_eq_some_iff.1 h3).1
    refine ⟨⟨⟨h1, h2⟩, ?_⟩, ?_⟩
    · rw [← h1]; simp only [Am.sg]; omega
    · rw [h3]; exact (eqT_iff t v).2 (txt_inj ht hv h4)
  · rintro ⟨⟨⟨h1, h2⟩, h3⟩, h4⟩
    refine ⟨h1, h2, ?_⟩
    cases hx : a.args[c.toNat]? with
    | none => rw [hx] at h4; cases h4
    | some t => rw [hx] at h4; exact ⟨t, rfl, by rw [(eqT_iff t v).1 h4]⟩

/-- A value that is none occurs nowhere. -/
theorem Ok.find_none {s : Sto} (h : Ok s) (k : Sg) (c : Int) {v : Tm} (hv : valueT v = false) : findR s.A k c v = [] := by
  unfold findR
  rw [List.filter_eq_nil_iff]
  intro a ha hp
  simp only [findP, Bool.and_eq_true, colEq] at hp
  cases hx : a.args[c.toNat]? with
  | none => rw [hx] at hp; cases hp.2
  | some t =>
    rw [hx] at hp
    have := validA_arg (h.v a ha) (List.mem_of_getElem? hx)
    rw [(eqT_iff t v).1 hp.2, hv] at this; cases this

theorem Ok.ixS {s : Sto} (h : Ok s) (k : Sg) : (∀ i ∈ ixOf k s.S, 0 ≤ i ∧ i < s.A.length) ∧ (ixOf k s.S).length ≤ 1000000 := by
  rw [h.S]
  refine ⟨fun i hi => ?_, ?_⟩
  · have := plc_bd _ _ _ i hi; omega
  · have := plc_len (fun a => a.sg == k) s.A 0; have := h.A; omega
theorem Ok.ixR {s : Sto} (h : Ok s) (k : Ak) : (∀ i ∈ ixOf k s.R, 0 ≤ i ∧ i < s.A.length) ∧ (ixOf k s.R).length ≤ 1000000 := by
  rw [h.R]
  refine ⟨fun i hi => ?_, ?_⟩
  · have := plc_bd _ _ _ i hi; omega
  · have := plc_len (fun a => decide (k ∈ argKeys a)) s.A 0; have := h.A; omega
end Go.Proofs.YtpoegdhgdgbmaaaGreatDoorR

/- Calls on stores; Copy, Equal. -/
namespace Go.Proofs.YtpoegdhgdgbmaaaGreatDoorR
open Go.Abs
set_option maxRecDepth 100000

theorem full_put (n l b : Nat) (s : Sto) (L : List (Nat × ABlk)) (H : AHeap) (h : l ≠ n) : put (full n L H) l b s = full n L (put H l b s) := by
  funext l' k
  simp only [put_at, full]
  by_cases h1 : l' = n
  · subst h1; simp [Ne.symm h]
  · simp only [if_neg h1]

theorem below_lst {n l b : Nat} {s : Sto} (hl : l < n) {k : Nat} {x : ABlk} (h : lkb (lst l b s) k = some x) : x.Below n := by
  rw [lkb_lst] at h
  split at h
  · cases h; exact below_boxCells hl _
  split at h
  · cases h; exact below_map (below_num s.N)
  split at h
  · cases h; exact below_map (below_ents Sg.enc hl (Sg.blw n) _ _)
  split at h
  · cases h; exact below_map (below_ents Ak.enc hl (Ak.blw n) _ _)
  split at h
  · split at h
    · cases h
    · cases h; exact below_buf _ _ _ _
  split at h
  · simp only [Option.map_eq_some_iff] at h
    obtain ⟨p, _, rfl⟩ := h; exact below_buf _ _ _ _
  split at h
  · simp only [Option.map_eq_some_iff] at h
    obtain ⟨p, _, rfl⟩ := h; exact below_buf _ _ _ _
  · cases h

theorem outStep_put0 {n : Nat} {H : AHeap} {l b : Nat} {s : Sto} (hl : l < n) : OutStep n H (put H l b s) := fun l' k x _ hx => by
  rw [put_at] at hx
  split at hx
  · rcases Option.or_eq_some_iff.1 hx with h | ⟨_, h⟩
    · exact .inr (below_lst hl h)
    · exact .inl h
  · exact .inl hx

theorem outStep_put {n : Nat} {H : AHeap} {l b : Nat} {s s' : Sto} (hl : l < n) (hf : FreeAt H l b) : OutStep n (put H l b s) (put H l b s') := fun l' k x _ hx => by
  by_cases h1 : l' = l
  · subst h1
    rcases Nat.lt_or_ge k b with h2 | h2
    · rw [put_lt h2] at hx ⊢; exact .inl hx
    · rw [put_free hf h2] at hx; exact .inr (below_lst hl hx)
  · rw [put_other h1] at hx ⊢; exact .inl hx

theorem FreeAt.full {n l b : Nat} {H : AHeap} (hf : FreeAt H l b) (h : l < n) (L : List (Nat × ABlk)) : FreeAt (full n L H) l b := fun k hk => by rw [full_lt h]; exact hf k hk

section
variable {cx : Cx} {o : Oper} {args : List Operand} {ts : List TypeId} {F : AState → Prop} {tm : List (Nat × AV)} {L : List (Nat × ABlk)} {H : AHeap}

/-- A call of New: the store lies at a place of a lower level. -/
theorem call22 (hP : cx.P = Tryz.prog) (l b : Nat) (hl : l < cx.n) (hf : FreeAt H l b) (ha : argsA cx.T (evT tm) args ts = []) (hF : F ⟨putT tm o.dst (.ptr l b 0), L, put H l b sto0⟩) : CallG cx false o (.func 22) args ts ⟨tm, L, H⟩ F := by
  obtain ⟨P, T, φ, n, N⟩ := cx
  subst hP
  refine callW (avs := []) L (put H l b sto0) (fun_of Tryz.func22 rfl rfl) ?_ ha (outStep_put0 hl) hF
  have h := a22 (n + 1) (full n L H) l b (Nat.lt_succ_of_lt hl) (hf.full hl L)
  rw [full_put n l b sto0 L H (Nat.ne_of_lt hl)] at h
  exact h

/-- A call of Add. -/
theorem call23 (hP : cx.P = Tryz.prog) (l b : Nat) (s : Sto) (a : Am) {g : Operand} (hg : evT tm g = .fn (.func 23) []) (hl : l < cx.n) (hf : FreeAt H l b) (hs : Fit s) (hga : a.Good) (hn : 0 < cx.n) (hT : Tabs H) (ha : argsA cx.T (evT tm) args ts = [.ptr l b 0, a.enc])
    (hF : F ⟨putT tm o.dst (.tup [.bool (addT s a).2.1, eInt (addT s a).2.2]), L, put H l b (addT s a).1⟩) : CallG cx false o g args ts ⟨tm, L, put H l b s⟩ F := by
  obtain ⟨P, T, φ, n, N⟩ := cx
  subst hP
  have h := a23 (n + 1) (full n L H) l b s a (Nat.lt_succ_of_lt hl) (hf.full hl L) hs hga (Nat.succ_pos _) (hT.full hn)
  rw [full_put n l b s L H (Nat.ne_of_lt hl), full_put n l b _ L H (Nat.ne_of_lt hl)] at h
  refine callR (caps := []) (avs := [.ptr l b 0, a.enc]) (Qc := fun r H' => r = .tup [.bool (addT s a).2.1, eInt (addT s a).2.2] ∧ H' = full n L (put H l b (addT s a).1)) hg (fun_of Tryz.func23 rfl rfl) h ha ?_
  rintro r H1 ⟨rfl, rfl⟩
  exact ⟨L, _, rfl, outStep_put hl hf, hF⟩
end

def st34 (n l b l2 b2 : Nat) (H : AHeap) (A : List Am) (o : Own) (i : Nat) : AState :=
  ⟨[(17, .int .i64 i), (15, .sl 2 (A.map Am.enc) o), (16, .int .i64 A.length), (3, .ptr l2 b2 0), (4, .fn (.func 23) [])], [], put H l2 b2 (addL sto0 (A.take i))⟩

/-- The atoms of a store, as its cell holds them. -/
theorem atomsCell_eq (l b : Nat) (A : List Am) : ∃ o, atomsCell l b A = .sl 2 (A.map Am.enc) o ∧ ∀ n q, l < n → Inside n q (.sl 2 (A.map Am.enc) o) := by
  unfold atomsCell
  by_cases h : A = []
  · subst h
    exact ⟨.full, rfl, fun n q hl => Below.inside (.sl _ _ _ (fun i h => absurd h (Nat.not_lt_zero _)) (fun _ _ e => by cases e))⟩
  · rw [if_neg h]
    exact ⟨.buf l (b + 1), rfl, fun n q hl => Below.inside (below_sl (fun x hx => by obtain ⟨u, _, rfl⟩ := List.mem_map.1 hx; exact u.blw n) (fun _ _ e => by cases e; exact hl))⟩

theorem a34 (n : Nat) (H : AHeap) (l b l2 b2 : Nat) (s : Sto) (hl : l < n) (hl2 : l2 < n) (hs : HasSto H l b s) (hf : FreeAt H l2 b2) (ho : Ok s) (hn : 0 < n) (hT : Tabs H) :
    ACalls Tryz.prog n 34 [.ptr l b 0] H (fun r H' => r = .ptr l2 b2 0 ∧ H' = put H l2 b2 (addL sto0 s.A)) := by
  have hne : ¬ l = n := by omega
  have hb := hs.box
  have hA := ho.A
  obtain ⟨o, hoA, hoi⟩ := atomsCell_eq l b s.A
  have hpb : put H l2 b2 sto0 l b = H l b := by
    by_cases e : l = l2
    · subst e
      refine put_lt ?_
      rcases Nat.lt_or_ge b b2 with h | h
      · exact h
      · rw [hf b h] at hb; cases hb
    · exact put_other e
  refine a_fun tok (fun_of Tryz.func34 rfl rfl) (by simp) fun B => ?_
  repeat refine kn rfl ?_
  refine k_region tok rfl (by kernel_rfl) ?_
  simp only [go_sem, simprocAttr]
  repeat refine kn rfl ?_
  refine k_region tok rfl (by kernel_rfl) ?_
  simp only [go_sem, simprocAttr]
  refine callH (fun_of Tryz.func55 rfl rfl) (a55 (n + 1) _ l b s (by omega) (hs.full hl _)) (by simp only [go_sem, simprocAttr]) ?_
  simp only [go_sem, simprocAttr]
  repeat refine kn rfl ?_
  refine k_cond_f rfl (by simp only [go_sem, simprocAttr]) ?_
  repeat refine kn rfl ?_
  refine k_region tok rfl (by kernel_rfl) ?_
  simp only [go_sem, simprocAttr]
  refine call22 rfl l2 b2 hl2 hf (by simp only [go_sem, simprocAttr]) ?_
  simp only [go_sem, simprocAttr]
  repeat refine kn rfl ?_
  refine k_region tok rfl (by kernel_rfl) ?_
  simp only [go_sem, simprocAttr]
  repeat refine kn rfl ?_
  refine k_region tok rfl (by kernel_rfl) ?_
  simp only [go_sem, simprocAttr, hne, hpb, hb, boxCells, hoA]
  repeat refine kn rfl ?_
  refine k_loop_ix (st34 n l b l2 b2 H s.A o) s.A.length rfl ?_ ?_
  · refine AWk_kept ?_ ?_ ?_ ?_ <;> repeat' first | exact trivial | refine q0 ?_ | exact qb | exact q1 | exact q2 | exact q3 | exact rfl | refine And.intro ?_ ?_ | exact q4 | exact q5 | exact q6 | exact q7 | exact Inside.ptr _ _ _ (.inr ⟨rfl, rfl⟩) | exact q8 | exact q9 | exact qd | exact Tm.ins _ | exact Tm.inss _ _ | exact Am.ins _ | exact Am.inss _ _ | refine ins_buf_str ?_ | refine Tm.ins_buf ?_ | refine Am.ins_buf ?_ | exact qf
    all_goals first | exact hoi _ _ hl | exact Inside.ptr _ _ _ (.inl hl2) | skip
  intro i hi
  refine k_st rfl ?_
  have hgt : GoodL (s.A.take i) := fun x hx => ho.g x (List.mem_of_mem_take hx)
  have hok : Ok (addL sto0 (s.A.take i)) := ok0.addL hgt
  rcases Nat.lt_or_ge i s.A.length with h | h
  · repeat refine kn rfl ?_
    refine k_region tok rfl (by kernel_rfl) ?_
    simp only [go_sem, simprocAttr, h]
    repeat refine kn rfl ?_
    refine k_cond_t rfl (by simp only [go_sem, simprocAttr]) ?_
    repeat refine kn rfl ?_
    refine k_region tok rfl (by kernel_rfl) ?_
    simp only [go_sem, simprocAttr, Am.getD_enc _ _ h, h]
    repeat refine kn rfl ?_
    refine k_region tok rfl (by kernel_rfl) ?_
    simp only [go_sem, simprocAttr]
    refine call23 rfl l2 b2 _ s.A[i] rfl hl2 hf hok.fit (ho.g _ (List.getElem_mem h)) hn hT (by simp only [go_sem, simprocAttr]) ?_
    simp only [go_sem, simprocAttr]
    repeat refine kn rfl ?_
    refine k_region tok rfl (by kernel_rfl) ?_
    simp only [go_sem, simprocAttr]
    rw [← addL_take _ _ _ h]
    repeat refine kn rfl ?_
    refine k_nil ?_
    refine AWk_kept ?_ ?_ ?_ ?_ <;> repeat' first | exact trivial | refine q0 ?_ | exact qb | exact q1 | exact q2 | exact q3 | exact rfl | refine And.intro ?_ ?_ | exact q4 | exact q5 | exact q6 | exact q7 | exact Inside.ptr _ _ _ (.inr ⟨rfl, rfl⟩) | exact q8 | exact q9 | exact qd | exact Tm.ins _ | exact Tm.inss _ _ | exact Am.ins _ | exact Am.inss _ _ | refine ins_buf_str ?_ | refine Tm.ins_buf ?_ | refine Am.ins_buf ?_ | exact qf
    all_goals first | exact hoi _ _ hl | exact Inside.ptr _ _ _ (.inl hl2) | skip
    simp only [go_sem, simprocAttr]
    rw [IntWalk.i64_in _ (by omega)]; exact .refl _
  · repeat refine kn rfl ?_
    refine k_region tok rfl (by kernel_rfl) ?_
    simp only [go_sem, simprocAttr, Nat.not_lt.2 h]
    repeat refine kn rfl ?_
    refine k_cond_f rfl (by simp only [go_sem, simprocAttr]) ?_
    repeat refine kn rfl ?_
    refine k_exit_round rfl rfl rfl ?_
    have hi' : i = s.A.length := by omega
    subst hi'
    repeat refine kn rfl ?_
    refine k_region tok rfl (by kernel_rfl) ?_
    simp only [go_sem, simprocAttr, List.take_length]
    repeat refine kn rfl ?_
    refine k_ret rfl ?_
    exact post_oneQ (.refl _) (.ptr _ _ _ hl2) ⟨rfl, rfl⟩
end Go.Proofs.YtpoegdhgdgbmaaaGreatDoorR

/- The store's Equal. -/
namespace Go.Proofs.YtpoegdhgdgbmaaaGreatDoorR
open Go.Abs
set_option maxRecDepth 100000

/-- A condition as a function value that looks at slots below a level. -/
structure TestH {α : Type} (m : Nat) (H0 : AHeap) (f : Nat) (caps : List AV) (ea : α → AV) (l : List α) (p : α → Bool) : Prop where
  fn : ∃ fn c, Fun Tryz.prog f fn c
  on : ∀ x ∈ l, ∀ n H, m ≤ n → AgreeB m H H0 → PC Tryz.prog n f (ea x :: caps) H (.bool (p x))
  below : ∀ n, m ≤ n → AllP (fun c => Below n c) caps

def st101 (l : List Am) (o : Own) (f : Nat) (caps : List AV) (H : AHeap) (i : Nat) : AState :=
  ⟨[(8, .int .i64 i), (7, .int .i64 l.length), (1, .fn (.func f) caps), (0, .sl 2 (l.map Am.enc) o)], [], H⟩

theorem a101 (l : List Am) (o : Own) (hl : l.length ≤ 1000000) (m : Nat) (H0 : AHeap) (f : Nat) (caps : List AV) (p : Am → Bool) (hp : TestH m H0 f caps Am.enc l p) (ho : ∀ n, m ≤ n → Below n (.sl 2 (l.map Am.enc) o)) (n : Nat) (H : AHeap) (hmn : m ≤ n) (hH : AgreeB m H H0) :
    PC Tryz.prog n 101 [.sl 2 (l.map Am.enc) o, .fn (.func f) caps] H (.int .i64 (idxF p l)) := by
  obtain ⟨⟨fn, c, hf⟩, hp, hbl⟩ := hp
  have hfi : ∀ q, Inside n q (.fn (.func f) caps) := fun q => (Below.fn _ _ fun i hi => (hbl n hmn).mem _ (List.getElem_mem hi)).inside
  have hoi : ∀ q, Inside n q (.sl 2 (l.map Am.enc) o) := fun q => (ho n hmn).inside
  refine a_fun tok (fun_of Tryz.func101 rfl rfl) (by simp) fun B => ?_
  repeat refine kn rfl ?_
  refine k_region tok rfl (by kernel_rfl) ?_
  simp only [go_sem, simprocAttr]
  repeat refine kn rfl ?_
  refine k_region tok rfl (by kernel_rfl) ?_
  simp only [go_sem, simprocAttr]
  repeat refine kn rfl ?_
  refine k_loop_p (st101 l o f caps H) (fun i => ∀ j (h : j < l.length), j < i → p l[j] = false) l.length rfl ?_ (fun j _ h => absurd h (Nat.not_lt_zero _)) ?_
  · refine AWk_kept ?_ ?_ ?_ ?_ <;> repeat' first | exact trivial | refine q0 ?_ | exact qb | exact q1 | exact q2 | exact q3 | exact rfl | refine And.intro ?_ ?_ | exact q4 | exact q5 | exact q6 | exact q7 | exact Inside.ptr _ _ _ (.inr ⟨rfl, rfl⟩) | exact q8 | exact q9 | exact qd | exact Tm.ins _ | exact Tm.inss _ _ | exact Am.ins _ | exact Am.inss _ _ | refine ins_buf_str ?_ | refine Tm.ins_buf ?_ | refine Am.ins_buf ?_ | exact qf
    all_goals first | exact hfi _ | exact hoi _
  intro i hi hq
  refine k_st rfl ?_
  rcases Nat.lt_or_ge i l.length with h | h
  · repeat refine kn rfl ?_
    refine k_region tok rfl (by kernel_rfl) ?_
    simp only [go_sem, simprocAttr, h]
    repeat refine kn rfl ?_
    refine k_cond_t rfl (by simp only [go_sem, simprocAttr]) ?_
    repeat refine kn rfl ?_
    refine k_region tok rfl (by kernel_rfl) ?_
    simp only [go_sem, simprocAttr]
    repeat refine kn rfl ?_
    refine k_region tok rfl (by kernel_rfl) ?_
    simp only [go_sem, simprocAttr, Am.getD_enc _ _ h, h]
    refine callV (avs := [l[i].enc]) rfl hf (hp l[i] (List.getElem_mem h) _ _ (by show m ≤ n + 1; omega) (hH.full hmn _)) rfl ?_
    cases h1 : p l[i] with
    | true =>
      simp only [go_sem, simprocAttr]
      repeat refine kn rfl ?_
      refine k_cond_t rfl (by simp only [go_sem, simprocAttr]) ?_
      repeat refine kn rfl ?_
      refine k_region tok rfl (by kernel_rfl) ?_
      simp only [go_sem, simprocAttr]
      repeat refine kn rfl ?_
      refine k_ret_round rfl ?_
      refine post_one ?_ (.int _ _) rfl
      rw [idxF_at h h1 hq]
      exact .refl _
    | false =>
      simp only [go_sem, simprocAttr]
      repeat refine kn rfl ?_
      refine k_cond_f rfl (by simp only [go_sem, simprocAttr]) ?_
      repeat refine kn rfl ?_
      refine k_region tok rfl (by kernel_rfl) ?_
      simp only [go_sem, simprocAttr]
      repeat refine kn rfl ?_
      refine k_nil ?_
      refine ⟨fun j hj hji => ?_, ?_⟩
      · rcases Nat.lt_or_ge j i with h' | h'
        · exact hq j hj h'
        · have : j = i := by omega
          subst this; exact h1
      · refine AWk_kept ?_ ?_ ?_ ?_ <;> repeat' first | exact trivial | refine q0 ?_ | exact qb | exact q1 | exact q2 | exact q3 | exact rfl | refine And.intro ?_ ?_ | exact q4 | exact q5 | exact q6 | exact q7 | exact Inside.ptr _ _ _ (.inr ⟨rfl, rfl⟩) | exact q8 | exact q9 | exact qd | exact Tm.ins _ | exact Tm.inss _ _ | exact Am.ins _ | exact Am.inss _ _ | refine ins_buf_str ?_ | refine Tm.ins_buf ?_ | refine Am.ins_buf ?_ | exact qf
        · simp only [go_sem, simprocAttr]
          rw [IntWalk.i64_in _ (by omega)]; exact .refl _
        all_goals first | exact hfi _ | exact hoi _
  · repeat refine kn rfl ?_
    refine k_region tok rfl (by kernel_rfl) ?_
    simp only [go_sem, simprocAttr, Nat.not_lt.2 h]
    repeat refine kn rfl ?_
    refine k_cond_f rfl (by simp only [go_sem, simprocAttr]) ?_
    repeat refine kn rfl ?_
    refine k_exit_round rfl rfl rfl ?_
    repeat refine kn rfl ?_
    refine k_region tok rfl (by kernel_rfl) ?_
    simp only [go_sem, simprocAttr]
    repeat refine kn rfl ?_
    refine k_ret rfl ?_
    refine post_one ?_ (.int _ _) rfl
    rw [idxF_none (fun j hj => hq j hj (by omega))]
    exact .refl _

theorem a65 (l : List Am) (o : Own) (hl : l.length ≤ 1000000) (m : Nat) (H0 : AHeap) (f : Nat) (caps : List AV) (p : Am → Bool) (hp : TestH m H0 f caps Am.enc l p) (ho : ∀ n, m ≤ n → Below n (.sl 2 (l.map Am.enc) o)) (n : Nat) (H : AHeap) (hmn : m ≤ n) (hH : AgreeB m H H0) :
    PC Tryz.prog n 65 [.sl 2 (l.map Am.enc) o, .fn (.func f) caps] H (.bool (l.any p)) := by
  refine a_fun tok (fun_of Tryz.func65 rfl rfl) (by simp) fun B => ?_
  repeat refine kn rfl ?_
  refine k_region tok rfl (by kernel_rfl) ?_
  simp only [go_sem, simprocAttr]
  repeat refine kn rfl ?_
  refine k_region tok rfl (by kernel_rfl) ?_
  simp only [go_sem, simprocAttr]
  refine callH (fun_of Tryz.func101 rfl rfl) (a101 l o hl m H0 f caps p hp ho (n + 1) _ (by omega) (hH.full hmn _)) (by simp only [go_sem, simprocAttr]) ?_
  simp only [go_sem, simprocAttr]
  repeat refine kn rfl ?_
  refine k_ret rfl ?_
  refine post_one ?_ (.bool _) rfl
  simp only [go_sem, simprocAttr, idxF_ge]
  exact .refl _

theorem a66 (n : Nat) (H : AHeap) (l b q j : Nat) (s : Sto) (a : Am) (hl : l < n) (hq : q < n) (hs : HasSto H l b s) (hbx : H q j = some (.box [.ptr l b 0])) (ha : a.Good) (hn : 0 < n) (hT : Tabs H) :
    PC Tryz.prog n 66 [a.enc, .ptr q j 0] H (.bool (!(validA a && (keyIx (atxt a) s.N 0).isSome))) := by
  have hne : ¬ l = n := by omega
  have hqn : ¬ q = n := by omega
  refine a_fun tok (fun_of Tryz.func66 rfl rfl) (by simp) fun B => ?_
  repeat refine kn rfl ?_
  refine k_region tok rfl (by kernel_rfl) ?_
  simp only [go_sem, simprocAttr]
  repeat refine kn rfl ?_
  refine k_region tok rfl (by kernel_rfl) ?_
  simp only [go_sem, simprocAttr, hne, hqn, hbx]
  refine callH (fun_of Tryz.func26 rfl rfl) (a26 (n + 1) _ l b s a (by omega) (hs.full hl _) ha (by omega) (hT.full hn)) (by simp only [go_sem, simprocAttr]) ?_
  simp only [go_sem, simprocAttr]
  repeat refine kn rfl ?_
  refine k_ret rfl ?_
  refine post_one ?_ (.bool _) rfl
  try simp only [go_sem, simprocAttr]
  exact .refl _

/-- The same atoms in both? -/
def eqS (A A2 : List Am) : Bool := ((A.length : Int) == A2.length) && A.all fun a => A2.any (eqA · a)

theorem a35 (n : Nat) (H : AHeap) (l b l2 b2 : Nat) (s s2 : Sto) (hl : l < n) (hl2 : l2 < n) (hs : HasSto H l b s) (hs2 : HasSto H l2 b2 s2) (ho : Ok s) (ho2 : Ok s2) (hn : 0 < n) (hT : Tabs H) :
    PC Tryz.prog n 35 [.ptr l b 0, .ptr l2 b2 0] H (.bool (eqS s.A s2.A)) := by
  have hne : ¬ l = n := by omega
  have hne2 : ¬ l2 = n := by omega
  have hb := hs.box
  have hb2 := hs2.box
  have hA := ho.A
  obtain ⟨o, hoA, hoi⟩ := atomsCell_eq l b s.A
  obtain ⟨o2, hoA2, _⟩ := atomsCell_eq l2 b2 s2.A
  have hob : ∀ n, l < n → Below n (.sl 2 (s.A.map Am.enc) o) := fun n hn => by
    have := (below_boxCells (n := n) (b := b) hn s.A).1 (atomsCell l b s.A) (by simp [ABlk.avs, boxCells])
    rw [hoA] at this; exact this
  refine a_fun tok (fun_of Tryz.func35 rfl rfl) (by simp) fun B => ?_
  repeat refine kn rfl ?_
  refine k_region tok rfl (by kernel_rfl) ?_
  simp only [go_sem, simprocAttr]
  repeat refine kn rfl ?_
  refine k_draw tok mixed drawO rfl rfl (by kernel_rfl) (by kernel_rfl) ?_
  simp only [go_sem, simprocAttr]
  refine callH (fun_of Tryz.func55 rfl rfl) (a55 (n + 1) _ l b s (by omega) (hs.full hl _)) (by simp only [go_sem, simprocAttr]) ?_
  simp only [go_sem, simprocAttr]
  refine callH (fun_of Tryz.func55 rfl rfl) (a55 (n + 1) _ l2 b2 s2 (by omega) (hs2.full hl2 _)) (by simp only [go_sem, simprocAttr]) ?_
  cases h1 : ((s.A.length : Int) == s2.A.length) with
  | false =>
    simp only [go_sem, simprocAttr, hne, hne2, hb, hb2, boxCells, hoA, hoA2, bne, h1]
    repeat refine kn rfl ?_
    refine k_cond_t rfl (by simp only [go_sem, simprocAttr]) ?_
    repeat refine kn rfl ?_
    refine k_region tok rfl (by kernel_rfl) ?_
    simp only [go_sem, simprocAttr]
    repeat refine kn rfl ?_
    refine k_ret rfl ?_
    refine post_one ?_ (.bool _) rfl
    try simp only [go_sem, simprocAttr, eqS, h1, Bool.false_and]
    exact .refl _
  | true =>
    simp only [go_sem, simprocAttr, hne, hne2, hb, hb2, boxCells, hoA, hoA2, bne, h1]
    repeat refine kn rfl ?_
    refine k_cond_f rfl (by simp only [go_sem, simprocAttr]) ?_
    repeat refine kn rfl ?_
    refine k_region tok rfl (by kernel_rfl) ?_
    simp only [go_sem, simprocAttr, hne, hne2, hb, hb2, boxCells, hoA, hoA2]
    refine callH (fun_of Tryz.func65 rfl rfl) (a65 s.A o (by omega) (n + 1) _ 66 [.ptr n 3 0] (fun a => !(validA a && (keyIx (atxt a) s2.N 0).isSome)) ⟨⟨_, _, fun_of Tryz.func66 rfl rfl⟩, fun x hx m H1 hm hH1 => ?_, fun m hm => ⟨.ptr _ _ _ (by omega), trivial⟩⟩ (fun m hm => hob m (by omega)) (n + 1) _ (Nat.le_refl _) (fun _ _ _ => rfl)) (by simp only [go_sem, simprocAttr]) ?_
    · refine a66 m H1 l2 b2 n 3 s2 x (by omega) (by omega) (fun k x hk => ?_) ?_ (ho.g x hx) (by omega) ?_
      · rw [hH1 _ _ (by omega), full_lt hl2]; exact hs2 k x hk
      · rw [hH1 _ _ (by omega)]; simp only [go_sem, simprocAttr, Go.Abs.full]
      · exact hT.up (fun k => by rw [hH1 _ _ (by omega)]; exact full_lt hn _ _ _)
    have e : (!(s.A.any fun a => !(validA a && (keyIx (atxt a) s2.N 0).isSome))) = eqS s.A s2.A := by
      rw [eqS, h1, Bool.true_and, Bool.eq_iff_iff, Bool.not_eq_true', List.any_eq_false, List.all_eq_true]
      constructor
      · intro h a ha
        have := h a ha
        rw [ho.v a ha, Bool.true_and, ho2.has (ho.v a ha)] at this
        simpa using this
      · intro h a ha
        have := h a ha
        rw [ho.v a ha, Bool.true_and, ho2.has (ho.v a ha), this]; simp
    simp only [go_sem, simprocAttr]
    repeat refine kn rfl ?_
    refine k_ret rfl ?_
    refine post_one ?_ (.bool _) rfl
    try simp only [go_sem, simprocAttr, e]
    exact .refl _
end Go.Proofs.YtpoegdhgdgbmaaaGreatDoorR

/- The library's sort of a slice that may be written, as the layer says it. -/
namespace Go.Abs
open Go.Proofs Go.Shelf Go.Sort

/-- The environment's immutable cells alone, the draws counted. -/
def bare (E : Env) : Env := { F := E.F, m := fun _ _ => none, hist := fun _ _ _ => none, g := fun _ _ => none, qd := true }

theorem VR.qdset {E : Env} (q : Bool) {a : AV} {v : Value} (hv : VR E a v) : VR { E with qd := q } a v := by
  induction hv with
  | int k n => exact .int k n
  | bool b => exact .bool b
  | str l => exact .str l
  | nilp => exact .nilp
  | ptr l k off b hm => exact .ptr l k off b hm
  | iptr cs b off c hc _ ih => exact .iptr cs b off c hc ih
  | slnil k o a ho ha => exact .slnil k o a (by cases o <;> exact ho) ha
  | sl k xs o b off cap c hk hc _ hcap hm ho ih => exact .sl k xs o b off cap c hk hc ih hcap hm (by cases o <;> exact ho)
  | nilf => exact .nilf
  | fn f caps vs hl _ ih => exact .fn f caps vs hl ih
  | nilm => exact .nilm
  | map l k b hm => exact .map l k b hm
  | mnil sz l k a hh ha => exact .mnil sz l k a hh ha
  | msl sz l k n g cap hh => exact .msl sz l k n g cap hh
  | eptr l k n off g cap hh => exact .eptr l k n off g cap hh
  | agg cs vs hl _ ih => exact .agg cs vs hl ih
  | tup cs vs hl _ ih => exact .tup cs vs hl ih
  | dead v => exact .dead v

theorem bare_eq (E : Env) : bare E = { (E.cut 0) with qd := true } := by
  simp [bare, Env.cut]

theorem VR.bare {E : Env} {a : AV} {v : Value} (hv : VR E a v) (hb : Below 0 a) : VR (bare E) a v := by
  rw [bare_eq]; exact (hv.cut hb).qdset true

theorem hrel_bare {E : Env} {w : World} (hF : ∀ b o v, E.F b o = some v → w.cell? ⟨b, o, none⟩ = some v) : HRel 0 (fun _ _ => none) (bare E) w where
  norm := ⟨fun _ _ _ => rfl, fun _ _ _ => rfl, fun _ _ _ _ => rfl⟩
  F := hF
  blk l k b hl _ := absurd hl (Nat.not_lt_zero _)
  dom l k hl _ := absurd hl (Nat.not_lt_zero _)
  nobuf l k h := absurd rfl h
  inj l k l' k' b h := by cases h
  injg l k l' k' b h := by cases h
  mg l k l' k' b h := by cases h
  mF l k b o h := by cases h
  lt b h := by rcases h with ⟨_, _, h⟩ | ⟨_, _, h⟩ <;> cases h

/-- A call by plain values, in any world in which the immutable cells stand: it draws and lays, and turns nothing. -/
theorem calls_bare {P : Program} {g : FuncId} {args : List AV} {r : AV} {E : Env} {w : World} {vs : List Value} (h : Pure P g args r) (hv : VRs E args vs) (hb : ∀ a ∈ args, Below 0 a)
    (hF : ∀ b o v, E.F b o = some v → w.cell? ⟨b, o, none⟩ = some v) : Calls P g vs.toArray w fun e w' => (∃ v E', e = .returned v ∧ VR E' r v) ∧ ∃ q os, w' = grow (w.drewN q) os := by
  have hv' : VRs (bare E) args vs := ⟨hv.1, fun i h1 h2 => (hv.2 i h1 h2).bare (hb _ (List.getElem_mem h1))⟩
  refine (h 0 _ (bare E) w vs (hrel_bare hF) hv').mono ?_
  rintro e w' ⟨r', v, H', E', rfl, ⟨rfl, _⟩, h1, h2, hx⟩
  refine ⟨⟨v, E', rfl, h1⟩, w'.drawn - w.drawn, w'.heap.extract w.heap.size w'.heap.size, ?_⟩
  obtain ⟨heap, tape, drawn, os, output⟩ := w'
  have e1 := hx.os; have e2 := hx.tape; have e3 := hx.output; have e4 := hx.drawn rfl; have e5 := hx.size; have e6 := hx.block
  simp only at e1 e2 e3 e4 e5 e6
  subst e1 e2 e3
  have e7 : heap = w.heap ++ heap.extract w.heap.size heap.size := by
    apply Array.ext_getElem?
    intro i
    rcases Nat.lt_or_ge i w.heap.size with hi | hi
    · rw [Array.getElem?_append_left hi]
      exact e6 i hi (by rintro (⟨_, _, h⟩ | ⟨_, _, h⟩) <;> cases h)
    · rw [Array.getElem?_append_right hi, Array.getElem?_extract]
      rcases Nat.lt_or_ge i heap.size with hj | hj
      · rw [if_pos (by omega)]; congr 1; omega
      · rw [if_neg (by omega), Array.getElem?_eq_none hj]
  simp only [grow, World.drewN, World.mk.injEq, true_and, and_true]
  exact ⟨e7, by omega⟩

theorem flatMap_at {α β : Type} (f : α → List β) (k : Nat) (hk : ∀ x, (f x).length = k) (k0 : 0 < k) : ∀ (l : List α) (t : Nat), (l.flatMap f)[t]? = (l[t / k]?).bind fun x => (f x)[t % k]?
  | [], t => by simp
  | x :: l, t => by
    rw [List.flatMap_cons]
    rcases Nat.lt_or_ge t k with h | h
    · rw [List.getElem?_append_left (by rw [hk]; exact h), Nat.div_eq_of_lt h, Nat.mod_eq_of_lt h]; rfl
    · rw [List.getElem?_append_right (by rw [hk]; exact h), hk, flatMap_at f k hk k0 l (t - k)]
      have e1 : t / k = (t - k) / k + 1 := by rw [Nat.div_eq_sub_div k0 h]
      have e2 : t % k = (t - k) % k := Nat.mod_eq_sub_mod h
      rw [e1, e2, List.getElem?_cons_succ]

section
variable {X : Type} {P : Program} {ρ : Ren}

/-- A strict weak order among those that are such. -/
structure SWOn (G : X → Prop) (lt : X → X → Bool) : Prop where
  irrefl : ∀ x, G x → lt x x = false
  trans : ∀ x y z, G x → G y → G z → lt x y = true → lt y z = true → lt x z = true
  ntrans : ∀ x y z, G x → G y → G z → lt x y = false → lt y z = false → lt x z = false

/-- An element of the row: its cells, and what they stand for. -/
def Elt (E : Env) (cs : X → List AV) (G : X → Prop) := { p : List Value × X // G p.2 ∧ VRs E (cs p.2) p.1 }

theorem msl_sort (L : SlLaysF0.n6 P ρ) (k : Nat) (k0 : 0 < k) (aE : ∀ w, (isAgg (ρ.t 24)).run P w = .ok true w) (zE : ∀ w, (Go.sizeOf (ρ.t 24)).run P w = .ok k w) (cs : X → List AV) (hk : ∀ x, (cs x).length = k) (hone : ∀ x, ∀ c ∈ cs x, c.one = true)
    (hbl : ∀ x, ∀ c ∈ cs x, Below 0 c) (cf : X → X → Int) (G : X → Prop) (hO : SWOn G (ltOf cf)) (g : Nat) (fn : Func) (c : Code) (hf : Fun P g fn c) (hp : ∀ x y, G x → G y → Pure P g [.agg (cs x), .agg (cs y)] (.int .i64 (cf x y)))
    (n : Nat) (H : AHeap) (l j e sz0 : Nat) (xs : List X) (hl : l < n) (hG : ∀ x ∈ xs, G x) (hH : H l j = some (.mbuf e k (xs.flatMap cs) xs.length)) (hlen : xs.length ≤ 1000000000) :
    ACalls P n (ρ.f 6) [.msl sz0 l j xs.length, .fn (.func g) []] H fun r H' => r = .tup [] ∧ ∃ ys : List X, ys.Perm xs ∧ (∀ i i' (h : i < ys.length) (h' : i' < ys.length), i < i' → ltOf cf ys[i'] ys[i] = false) ∧ H' = H.upd l j (.mbuf e k (ys.flatMap cs) ys.length) := fun E w vs hr hv => by
  obtain ⟨v1, r1, rfl, h1, hv⟩ := hv.uncons
  obtain ⟨v2, r2, rfl, h2, hv⟩ := hv.uncons
  rw [hv.of_nil]
  cases h2 with | fn _ _ vs2 hl2 hv2 =>
  have e2 : vs2 = [] := by simpa using hl2
  subst e2
  have hfl : ∀ (l : List X), (l.flatMap cs).length = l.length * k := fun l => by
    induction l with
    | nil => simp
    | cons x l ih => rw [List.flatMap_cons, List.length_append, hk, ih, List.length_cons, Nat.add_mul]; omega
  cases hxs : xs with
  | nil =>
    subst hxs
    have hnone : ∀ a cap, Calls P (ρ.f 6) #[.slice a 0 cap, .func (.func g) #[] #[]] w fun e' w' => ∃ r v H' E', e' = .returned v ∧ (r = .tup [] ∧ ∃ ys : List X, ys.Perm [] ∧ (∀ i i' (h : i < ys.length) (h' : i' < ys.length), i < i' → ltOf cf ys[i'] ys[i] = false) ∧ H' = H.upd l j (.mbuf e k (ys.flatMap cs) ys.length)) ∧ VR E' r v ∧ HRel n H' E' w' ∧ Ext n E w E' w' := fun a cap =>
      (AnyF.slices_SortFunc_none L a cap _ w).mono fun e' w' ⟨he, hw⟩ => by
        subst hw he
        exact ⟨.tup [], _, H, E, rfl, ⟨rfl, [], .refl _, fun i _ h => absurd h (Nat.not_lt_zero _), (upd_self hH).symm⟩, .tup [] [] rfl (fun i h => absurd h (Nat.not_lt_zero _)), hr, .refl _ _ _⟩
    generalize hz : AV.msl sz0 l j ([] : List X).length = av at h1
    cases h1 <;> cases hz
    · exact hnone _ _
    · exact hnone _ _
  | cons x0 xr =>
    rw [← hxs]
    have hpos : 0 < xs.length := by rw [hxs]; simp
    obtain ⟨nx, hnx⟩ : ∃ m, m = xs.length := ⟨_, rfl⟩
    rw [← hnx] at h1
    generalize hz : AV.msl sz0 l j nx = av at h1
    cases h1 <;> cases hz
    · omega
    rename_i gb cap hh
    subst hnx
    obtain ⟨cc, q1, q2, q3, q4, q5, q6, q7, q8⟩ := hr.mrow hh hH hpos
    have hle : xs.length * k ≤ cap * k := Nat.mul_le_mul_right _ q3
    have hcs : xs.length * k ≤ cc.size := by omega
    have hgb : gb < w.heap.size := (Array.getElem?_eq_some_iff.1 q2).1
    have elt : ∀ i (hi : i < xs.length), G xs[i] ∧ VRs E (cs xs[i]) ((cc.toList.drop (i * k)).take k) := fun i hi => by
      refine ⟨hG _ (List.getElem_mem hi), ?_⟩
      have hik : i * k + k ≤ xs.length * k := by
        have := Nat.mul_le_mul_right k (show i + 1 ≤ xs.length from hi); rwa [Nat.add_mul, Nat.one_mul] at this
      refine ⟨by rw [hk, List.length_take, List.length_drop, Array.length_toList]; omega, fun t ht ht' => ?_⟩
      have htk : t < k := by rw [hk] at ht; exact ht
      have hd : (i * k + t) / k = i := by rw [Nat.mul_comm, Nat.mul_add_div k0, Nat.div_eq_of_lt htk, Nat.add_zero]
      have hm : (i * k + t) % k = t := by rw [Nat.mul_comm, Nat.mul_add_mod, Nat.mod_eq_of_lt htk]
      have a1 := flatMap_at cs k hk k0 xs (i * k + t)
      rw [hd, hm, List.getElem?_eq_getElem hi, Option.bind_some, List.getElem?_eq_getElem ht] at a1
      obtain ⟨a2, a3⟩ := List.getElem?_eq_some_iff.1 a1
      have a4 := q7.2 (i * k + t) a2 (by rw [q7.1]; exact a2)
      rw [a3] at a4
      simpa [List.getElem_take, List.getElem_drop] using a4
    letI inh : Inhabited (Elt E cs G) := ⟨⟨((cc.toList.drop (0 * k)).take k, xs[0]), elt 0 hpos⟩⟩
    let enc : Elt E cs G → List Value := fun p => p.1.1
    let cf' : Elt E cs G → Elt E cs G → Int := fun p q => cf p.1.2 q.1.2
    let d : Array (Elt E cs G) := Array.ofFn fun i : Fin xs.length => ⟨((cc.toList.drop (i.1 * k)).take k, xs[i.1]), elt i.1 i.2⟩
    have hds : d.size = xs.length := Array.size_ofFn
    have hdg : ∀ i (hi : i < xs.length), d[i]! = ⟨((cc.toList.drop (i * k)).take k, xs[i]), elt i hi⟩ := fun i hi => by
      rw [getElem!_pos d i (by rw [hds]; exact hi)]; exact Array.getElem_ofFn _
    have hek : ∀ x, (enc x).length = k := fun x => by have := x.2.2.1; rw [hk] at this; exact this
    have he1 : ∀ x, ∀ v ∈ enc x, v.oneCell' = true := fun x v hv => by
      obtain ⟨t, ht, rfl⟩ := List.getElem_of_mem hv
      have h0 := x.2.2.2 t (by rw [← x.2.2.1]; exact ht) ht
      exact h0.one (hone _ _ (List.getElem_mem _))
    have hO' : SWO (ltOf cf') := ⟨fun x => hO.irrefl _ x.2.1, fun x y z => hO.trans _ _ _ x.2.1 y.2.1 z.2.1, fun x y z => hO.ntrans _ _ _ x.2.1 y.2.1 z.2.1⟩
    have hH0 : HoldsK enc k w gb 0 d := fun t ht => by
      rw [size_flatK, hds] at ht
      have hi : t / k < xs.length := Nat.div_lt_of_lt_mul (by rw [Nat.mul_comm]; exact ht)
      have htm : t % k < k := Nat.mod_lt _ k0
      have hcell : w.cell? ⟨gb, 0 + t, none⟩ = cc[t]? := by simp only [World.cell?, q2]; simp
      have hfro : w.frozen? ⟨gb, 0 + t, none⟩ = false := by simp [World.frozen?, q2]
      refine ⟨?_, hfro⟩
      rw [hcell, get_flatK _ _ _ _ (by rw [hds]; exact ht), hdg _ hi]
      have htt : t / k * k + t % k = t := by rw [Nat.mul_comm]; exact Nat.div_add_mod t k
      have hlt : t % k < ((cc.toList.drop (t / k * k)).take k).length := by rw [List.length_take, List.length_drop, Array.length_toList]; omega
      show cc[t]? = some (((cc.toList.drop (t / k * k)).take k)[t % k]!)
      have hgp : ((cc.toList.drop (t / k * k)).take k)[t % k]! = ((cc.toList.drop (t / k * k)).take k)[t % k]'hlt := getElem!_pos ((cc.toList.drop (t / k * k)).take k) (t % k) hlt
      rw [hgp, List.getElem_take, List.getElem_drop]
      rw [Array.getElem?_eq_getElem (by omega)]
      simp [htt]
    have hcmp : CmpLays P g #[] enc k cf' gb 0 d.size w := fun m os dk hdk x y => by
      have hs0 : w.heap.size ≤ (sortWorldK enc k w gb 0 m dk os).heap.size := size_sortWorldK_c enc k w gb 0 m dk os
      have hcb := calls_bare (E := E) (w := sortWorldK enc k w gb 0 m dk os) (vs := [.agg (enc x).toArray, .agg (enc y).toArray]) (hp _ _ x.2.1 y.2.1)
        (VRs.cons (.agg _ _ (by have := x.2.2.1; exact this) x.2.2.2) (VRs.cons (.agg _ _ (by have := y.2.2.1; exact this) y.2.2.2) (VRs.nil _)))
        (fun a ha => by
          simp only [List.mem_cons, List.not_mem_nil, or_false] at ha
          rcases ha with rfl | rfl <;> exact below_agg (hbl _))
        (fun b o v hFv => by
          have hne : b ≠ gb := fun e' => by subst e'; rw [q6] at hFv; cases hFv
          have hlt := hr.F_lt hFv
          unfold sortWorldK
          rw [cell?_grow _ _ _ (by rw [size_putRowK]; exact hlt), cell?_putRowK_other _ _ _ _ _ _ _ hne]
          exact hr.F _ _ _ hFv)
      refine Calls.mono hcb ?_
      rintro e' w' ⟨⟨v, E', rfl, hvv⟩, hw⟩
      cases hvv
      exact ⟨rfl, hw⟩
    have hs := AnyQ.slices_SortFunc L k aE zE enc hek he1 cf' hO' g #[] gb 0 cap d w (callFunc_run hf) hcmp hH0 hgb (by rw [hds]; omega)
    rw [hds] at hs
    refine Calls.mono hs ?_
    rintro e' w' ⟨rfl, d', m, os, ⟨p1, p2, p3⟩, hso, rfl⟩
    have hd's : d'.size = xs.length := by rw [p1, hds]
    have pe1 : d'.extract 0 xs.length = d' := by rw [← hd's]; simp
    have pe2 : d.extract 0 xs.length = d := by rw [← hds]; simp
    rw [pe1, pe2] at p3
    have hdx : d.toList.map (fun p => p.1.2) = xs := by
      apply List.ext_getElem
      · simp [hds]
      · intro i h1 h2
        have hi : i < xs.length := by simpa [hds] using h1
        have := hdg i hi
        rw [getElem!_pos d i (by rw [hds]; exact hi)] at this
        simp only [List.getElem_map, Array.getElem_toList, this]
    obtain ⟨ys, hys⟩ : ∃ ys, ys = d'.toList.map (fun p => p.1.2) := ⟨_, rfl⟩
    have hyl : ys.length = xs.length := by rw [hys]; simp [hd's]
    have hyg : ∀ i (hi : i < ys.length), ys[i] = (d'[i]!).1.2 := fun i hi => by
      subst hys; rw [getElem!_pos d' i (by simpa using hi)]; simp
    have hyp : ys.Perm xs := by rw [hys, ← hdx]; exact p3.map _
    -- the row turned
    have hc' : (putRowK enc k (Go.Sort.ahead w m) gb 0 d').heap[gb]? = some (.cells (putCells id 0 (flatK enc k d') cc) e (0, 0)) := by
      simp only [putRowK, putRow, mapBlock, Array.getElem?_modify, if_true, Go.Sort.ahead, q2, Option.map_some, onCells]
    have hsz' : (putCells id 0 (flatK enc k d') cc).size = cc.size := by simp [putCells]
    obtain ⟨hh2, hx2⟩ := hr.turn (w' := putRowK enc k (Go.Sort.ahead w m) gb 0 d') (.inr q1) (.mbuf e k (ys.flatMap cs) ys.length) (fun _ => rfl) rfl rfl rfl (fun _ => Nat.le_add_right _ _) (by rw [size_putRowK]; rfl)
      (fun b' hb' => by simp only [putRowK, putRow, mapBlock, Array.getElem?_modify, Go.Sort.ahead]; rw [if_neg (fun e => hb' e.symm)]) q6 (by
        obtain ⟨⟨_, v0, hv0, hj0, _⟩, hm0⟩ := hr.mbuf l j e k (xs.flatMap cs) xs.length (hr.norm.hist_lt hh) hH
        rw [hh] at hv0
        cases hv0
        rw [hyl]
        refine ⟨⟨by rw [hfl, hyl], _, hh, hj0, .inr ⟨gb, cap, _, rfl, q1, hc', q3, q4, by rw [hsz', q5], q6, ?_⟩⟩, hm0⟩
        have hpl : (putCells id 0 (flatK enc k d') cc).toList.length = cc.size := by rw [Array.length_toList]; exact hsz'
        refine ⟨by rw [hfl, hyl, List.length_take, hpl]; omega, fun t ht ht' => ?_⟩
        rw [hfl, hyl] at ht
        have hi : t / k < xs.length := Nat.div_lt_of_lt_mul (by rw [Nat.mul_comm]; exact ht)
        have htm : t % k < k := Nat.mod_lt _ k0
        have a1 := flatMap_at cs k hk k0 ys t
        rw [List.getElem?_eq_getElem (l := ys) (i := t / k) (by omega), Option.bind_some, List.getElem?_eq_getElem (l := cs ys[t / k]) (i := t % k) (by rw [hk]; exact htm), List.getElem?_eq_getElem (l := ys.flatMap cs) (i := t) (by rw [hfl, hyl]; exact ht)] at a1
        have a2 := Option.some.inj a1
        rw [a2]
        have a3 : ((putCells id 0 (flatK enc k d') cc).toList.take (xs.length * k))[t] = (enc d'[t / k]!)[t % k]! := by
          rw [List.getElem_take]
          simp only [putCells, Array.getElem_toList, Array.getElem_mapIdx, size_flatK, hd's]
          rw [if_pos ⟨Nat.zero_le _, by omega⟩, Nat.sub_zero, get_flatK _ _ _ _ (by rw [hd's]; exact ht)]; rfl
        rw [a3]
        have a4 := (d'[t / k]!).2.2
        have hyq := hyg (t / k) (by omega)
        have a5 := a4.2 (t % k) (by rw [hk]; exact htm) (by rw [a4.1, hk]; exact htm)
        have a6 : (enc d'[t / k]!)[t % k]! = (d'[t / k]!).1.1[t % k]'(by rw [a4.1, hk]; exact htm) := getElem!_pos _ _ _
        rw [a6]
        simp only [hyq]
        exact a5)
    obtain ⟨hh3, hx3⟩ := hh2.below (w' := sortWorldK enc k w gb 0 m d' os) ⟨rfl, rfl, rfl, by simp [sortWorldK], fun b hb => by simp [sortWorldK, grow, Array.getElem?_append, hb]⟩ (fun _ => Nat.le_refl _)
    refine ⟨.tup [], _, _, E, rfl, ⟨rfl, ys, hyp, fun i i' hi hi' hii => ?_, rfl⟩, .tup [] [] rfl (fun i h => absurd h (Nat.not_lt_zero _)), hh3, hx2.trans hx3⟩
    have := hso i i' (Nat.zero_le _) hii (by omega)
    rw [hyg i hi, hyg i' hi']; exact this
end
end Go.Abs

/- Orders by lists of numbers; sorted lists that are permutations of each other. -/
namespace Go.Proofs.YtpoegdhgdgbmaaaGreatDoorR
open Go.Abs

section
variable {X : Type} {G : X → Prop} {cf : X → X → Int} {f : X → List Int}

theorem lexI_trans' {x y z : List Int} (h : lexI x y < 0) (h' : lexI y z < 0) : lexI x z < 0 := by
  have h1 := lexI_trans x y z (by omega) (by omega)
  rcases Int.lt_or_eq_of_le h1 with h2 | h2
  · exact h2
  · have h3 := lexI_anti x z
    have h4 := lexI_trans z x y (by omega) (by omega)
    have h5 := lexI_anti z y
    omega

theorem swo_lex (h : ∀ x y, G x → G y → cf x y = lexI (f x) (f y)) : SWOn G (ltOf cf) where
  irrefl x hx := by rw [ltOf, h x x hx hx, lexI_self]; rfl
  trans x y z hx hy hz h1 h2 := by
    rw [ltOf, decide_eq_true_eq] at *
    rw [h _ _ hx hy] at h1
    rw [h _ _ hy hz] at h2
    rw [h _ _ hx hz]
    exact lexI_trans' h1 h2
  ntrans x y z hx hy hz h1 h2 := by
    rw [ltOf, decide_eq_false_iff_not] at *
    rw [h _ _ hx hy] at h1
    rw [h _ _ hy hz] at h2
    rw [h _ _ hx hz]
    have a1 := lexI_anti (f x) (f y)
    have a2 := lexI_anti (f y) (f z)
    have a3 := lexI_anti (f x) (f z)
    have := lexI_trans (f z) (f y) (f x) (by omega) (by omega)
    omega
end

/-- Ascending: no later one is less than an earlier one. -/
def Asc {X : Type} (lt : X → X → Bool) (l : List X) : Prop := l.Pairwise fun a b => lt b a = false

theorem asc_of {X : Type} {lt : X → X → Bool} {l : List X} (h : ∀ i i' (h : i < l.length) (h' : i' < l.length), i < i' → lt l[i'] l[i] = false) : Asc lt l :=
  List.pairwise_iff_getElem.2 fun i j hi hj hij => h i j hi hj hij

/-- Two ascending lists with the same members. -/
theorem asc_unique {X : Type} {lt : X → X → Bool} {p q : List X} (hp : p.Perm q) (h1 : Asc lt p) (h2 : Asc lt q) (hT : ∀ x ∈ p, ∀ y ∈ p, lt x y = false → lt y x = false → x = y) : p = q :=
  hp.eq_of_pairwise (fun a b ha hb hab hba => (hT a ha b (hp.mem_iff.2 hb) hba hab)) h1 h2

section
variable {X : Type} {G : X → Prop} {lt : X → X → Bool}

theorem insRev_mem {s x : X} : ∀ {r : List X}, x ∈ insRev lt s r → x = s ∨ x ∈ r
  | [], h => by simp [insRev] at h; exact .inl h
  | y :: r, h => by
    simp only [insRev] at h
    split at h
    · rcases List.mem_cons.1 h with rfl | h
      · exact .inr (by simp)
      · rcases insRev_mem h with h | h
        · exact .inl h
        · exact .inr (by simp [h])
    · rcases List.mem_cons.1 h with rfl | h
      · exact .inl rfl
      · exact .inr h

theorem insRev_asc (hO : SWOn G lt) {s : X} (hs : G s) : ∀ {r : List X}, (∀ x ∈ r, G x) → r.Pairwise (fun a b => lt a b = false) → (insRev lt s r).Pairwise (fun a b => lt a b = false)
  | [], _, _ => by simp [insRev]
  | x :: r, hr, h => by
    rw [List.pairwise_cons] at h
    simp only [insRev]
    split
    · rename_i hsx
      rw [List.pairwise_cons]
      refine ⟨fun y hy => ?_, insRev_asc hO hs (fun y hy => hr y (by simp [hy])) h.2⟩
      rcases insRev_mem hy with rfl | hy
      · cases hxy : lt x y with
        | false => rfl
        | true =>
          have := hO.trans x y x (hr x (by simp)) hs (hr x (by simp)) hxy hsx
          rw [hO.irrefl x (hr x (by simp))] at this; cases this
      · exact h.1 y hy
    · rename_i hsx
      rw [List.pairwise_cons]
      have hsx' : lt s x = false := by simpa using hsx
      refine ⟨fun y hy => ?_, List.pairwise_cons.2 h⟩
      rcases List.mem_cons.1 hy with rfl | hy
      · exact hsx'
      · exact hO.ntrans s x y hs (hr x (by simp)) (hr y (by simp [hy])) hsx' (h.1 y hy)

theorem insB_asc (hO : SWOn G lt) {s : X} (hs : G s) {l : List X} (hl : ∀ x ∈ l, G x) (h : Asc lt l) : Asc lt (insB lt s l) := by
  unfold Asc insB at *
  rw [List.pairwise_reverse]
  exact insRev_asc hO hs (fun x hx => hl x (by simpa using hx)) (by rw [List.pairwise_reverse]; exact h)

theorem sortB_asc (hO : SWOn G lt) {l : List X} (hl : ∀ x ∈ l, G x) : Asc lt (sortB lt l) := by
  have key : ∀ (l b : List X), (∀ x ∈ l, G x) → (∀ x ∈ b, G x) → Asc lt b → Asc lt (l.foldl (fun out s => insB lt s out) b) := by
    intro l
    induction l with
    | nil => intro b _ _ h; exact h
    | cons s l ih =>
      intro b hl hb h
      have hs := hl s (by simp)
      refine ih _ (fun x hx => hl x (by simp [hx])) (fun x hx => ?_) (insB_asc hO hs hb h)
      rcases List.mem_cons.1 ((insB_perm lt s b).mem_iff.1 hx) with rfl | hx
      · exact hs
      · exact hb x hx
  exact key l [] hl (by simp) .nil
end

/-- Atoms in order. -/
theorem swoA : SWOn Am.Good (ltOf cmpA) := swo_lex (f := serA) fun x y hx hy => cmpA_lex hx.nm hy.nm
theorem ltA_eq : ltA = ltOf cmpA := rfl
theorem sortA_unique {l ys : List Am} (hg : ∀ a ∈ l, a.Good) (hp : ys.Perm l) (ha : ∀ i i' (h : i < ys.length) (h' : i' < ys.length), i < i' → ltOf cmpA ys[i'] ys[i] = false) : ys = sortB ltA l := by
  refine asc_unique (lt := ltA) (hp.trans (sortB_perm ltA l).symm) (asc_of ha) (sortB_asc swoA hg) fun x hx y hy h1 h2 => ?_
  have gx := hg x (hp.mem_iff.1 hx)
  have gy := hg y (hp.mem_iff.1 hy)
  rw [ltA, decide_eq_false_iff_not] at h1 h2
  refine cmpA_zero gx.nm gy.nm ?_
  have := cmpA_lex gx.nm gy.nm
  have a := lexI_anti (serA x) (serA y)
  have b := cmpA_lex gy.nm gx.nm
  omega

/-- Predicates in order. -/
theorem cmpS_lex (s t : Sg) : cmpS s t = lexI (serS s.p ++ [s.n]) (serS t.p ++ [t.n]) := by
  rw [lex_serS, cmpS]
  simp only [lexI, thn_right]
theorem swoS {G : Sg → Prop} : SWOn G (ltOf cmpS) := swo_lex (f := fun s => serS s.p ++ [s.n]) fun x y _ _ => cmpS_lex x y

theorem sortD_spec (l : List Sg) : Asc ltS (sortD l) ∧ (sortD l).Nodup ∧ ∀ x, x ∈ sortD l ↔ x ∈ l := by
  have key : ∀ (l b : List Sg), Asc ltS b → b.Nodup → Asc ltS (l.foldl (fun out s => if out.any (· == s) = true then out else insB ltS s out) b) ∧
      (l.foldl (fun out s => if out.any (· == s) = true then out else insB ltS s out) b).Nodup ∧ ∀ x, x ∈ l.foldl (fun out s => if out.any (· == s) = true then out else insB ltS s out) b ↔ x ∈ b ∨ x ∈ l := by
    intro l
    induction l with
    | nil => intro b h1 h2; exact ⟨h1, h2, fun x => by simp⟩
    | cons s l ih =>
      intro b h1 h2
      rw [List.foldl_cons]
      cases hs : b.any (· == s) with
      | true =>
        have hm : s ∈ b := by simpa using hs
        obtain ⟨a1, a2, a3⟩ := ih b h1 h2
        simp only [if_true]
        refine ⟨a1, a2, fun x => ?_⟩
        rw [a3, List.mem_cons]
        constructor
        · rintro (h | h)
          · exact .inl h
          · exact .inr (.inr h)
        · rintro (h | rfl | h)
          · exact .inl h
          · exact .inl hm
          · exact .inr h
      | false =>
        have hm : s ∉ b := fun hm => by
          rw [List.any_eq_false] at hs
          exact hs s hm (by simp)
        have hp := insB_perm ltS s b
        obtain ⟨a1, a2, a3⟩ := ih (insB ltS s b) (insB_asc (G := fun _ => True) (lt := ltS) swoS trivial (fun _ _ => trivial) h1) (hp.nodup_iff.2 (List.nodup_cons.2 ⟨hm, h2⟩))
        simp only [Bool.false_eq_true, if_false]
        refine ⟨a1, a2, fun x => ?_⟩
        rw [a3, hp.mem_iff, List.mem_cons, List.mem_cons]
        constructor
        · rintro ((h | h) | h)
          · exact .inr (.inl h)
          · exact .inl h
          · exact .inr (.inr h)
        · rintro (h | h | h)
          · exact .inl (.inr h)
          · exact .inl (.inl h)
          · exact .inr h
  obtain ⟨h1, h2, h3⟩ := key l [] .nil .nil
  exact ⟨h1, h2, fun x => by rw [sortD, h3]; simp⟩

theorem sigs_unique {ys keys l : List Sg} (hp : ys.Perm keys) (hnd : keys.Nodup) (hm : ∀ k, k ∈ keys ↔ k ∈ l) (ha : ∀ i i' (h : i < ys.length) (h' : i' < ys.length), i < i' → ltOf cmpS ys[i'] ys[i] = false) : ys = sortD l := by
  obtain ⟨h1, h2, h3⟩ := sortD_spec l
  refine asc_unique (lt := ltS) (hp.trans ((List.perm_ext_iff_of_nodup hnd h2).2 fun k => by rw [hm, h3])) (asc_of ha) h1 fun x _ y _ h1 h2 => ?_
  rw [ltS, decide_eq_false_iff_not] at h1 h2
  have a := cmpS_lex x y
  have b := cmpS_lex y x
  have c := lexI_anti (serS x.p ++ [x.n]) (serS y.p ++ [y.n])
  have hz : cmpS x y = 0 := by omega
  have := thn_eq_zero hz
  have e1 := cmpBytes_zero this.1
  have e2 := ncmp_zero this.2
  cases x; cases y; simp only at e1 e2; subst e1 e2; rfl
end Go.Proofs.YtpoegdhgdgbmaaaGreatDoorR

/- slices.SortFunc of this translation, laid at atoms and at predicates. -/
namespace Go.Proofs
open Go.Shelf
def Tryz.sort64_ren : Go.Shelf.Ren := ⟨fun | 6 => 64 | 15 => 100 | 14 => 99 | 28 => 134 | 29 => 135 | 20 => 126 | 21 => 127 | 22 => 128 | 23 => 129 | 24 => 130 | 25 => 131 | 26 => 132 | 27 => 133 | 46 => 167 | 47 => 168 | 48 => 169 | 49 => 170 | 50 => 171 | 57 => 184 | n => n, fun | 22 => 22 | 24 => 25 | 25 => 33 | 3 => 3 | 39 => 128 | 0 => 0 | 53 => 157 | 55 => 159 | 4 => 4 | 46 => 151 | 45 => 150 | 50 => 91 | 5 => 5 | 9 => 9 | 66 => 177 | 70 => 181 | 76 => 194 | 77 => 195 | n => n, fun | n => n⟩
theorem Tryz.sort64 : Go.Proofs.SlLaysF0.n6 Tryz.prog Tryz.sort64_ren := {
  mixed := by kernel_rfl
  f6 := ⟨Tryz.f64.name, by decide, Tryz.func64.trans (congrArg some (by kernel_rfl))⟩
  f14 := ⟨Tryz.f99.name, by decide, Tryz.func99.trans (congrArg some (by kernel_rfl))⟩
  f15 := Tryz.func100.trans (congrArg some (by kernel_rfl))
  f20 := ⟨Tryz.f126.name, by decide, Tryz.func126.trans (congrArg some (by kernel_rfl))⟩
  f21 := ⟨Tryz.f127.name, by decide, Tryz.func127.trans (congrArg some (by kernel_rfl))⟩
  f22 := ⟨Tryz.f128.name, by decide, Tryz.func128.trans (congrArg some (by kernel_rfl))⟩
  f23 := ⟨Tryz.f129.name, by decide, Tryz.func129.trans (congrArg some (by kernel_rfl))⟩
  f24 := ⟨Tryz.f130.name, by decide, Tryz.func130.trans (congrArg some (by kernel_rfl))⟩
  f25 := ⟨Tryz.f131.name, by decide, Tryz.func131.trans (congrArg some (by kernel_rfl))⟩
  f26 := ⟨Tryz.f132.name, by decide, Tryz.func132.trans (congrArg some (by kernel_rfl))⟩
  f27 := ⟨Tryz.f133.name, by decide, Tryz.func133.trans (congrArg some (by kernel_rfl))⟩
  f28 := Tryz.func134.trans (congrArg some (by kernel_rfl))
  f29 := Tryz.func135.trans (congrArg some (by kernel_rfl))
  f46 := ⟨Tryz.f167.name, by decide, Tryz.func167.trans (congrArg some (by kernel_rfl))⟩
  f47 := Tryz.func168.trans (congrArg some (by kernel_rfl))
  f48 := Tryz.func169.trans (congrArg some (by kernel_rfl))
  f49 := ⟨Tryz.f170.name, by decide, Tryz.func170.trans (congrArg some (by kernel_rfl))⟩
  f50 := ⟨Tryz.f171.name, by decide, Tryz.func171.trans (congrArg some (by kernel_rfl))⟩
  f57 := ⟨Tryz.f184.name, by decide, Tryz.func184.trans (congrArg some (by kernel_rfl))⟩
  t0 := Tryz.underlying0
  a0 := Tryz.isAgg0
  z0 := Tryz.sizeOf0
  v0 := Tryz.zeroValue0
  t3 := Tryz.underlying3
  a3 := Tryz.isAgg3
  z3 := Tryz.sizeOf3
  v3 := Tryz.zeroValue3
  t4 := Tryz.underlying4
  a4 := Tryz.isAgg4
  z4 := Tryz.sizeOf4
  v4 := Tryz.zeroValue4
  t5 := Tryz.underlying5
  a5 := Tryz.isAgg5
  z5 := Tryz.sizeOf5
  v5 := Tryz.zeroValue5
  t9 := Tryz.underlying9
  a9 := Tryz.isAgg9
  z9 := Tryz.sizeOf9
  v9 := Tryz.zeroValue9
  t22 := Tryz.underlying22
  a22 := Tryz.isAgg22
  z22 := Tryz.sizeOf22
  v22 := Tryz.zeroValue22
  t25 := Tryz.underlying33
  a25 := Tryz.isAgg33
  z25 := Tryz.sizeOf33
  v25 := Tryz.zeroValue33
  t39 := Tryz.underlying128
  a39 := Tryz.isAgg128
  z39 := Tryz.sizeOf128
  v39 := Tryz.zeroValue128
  t45 := Tryz.underlying150
  a45 := Tryz.isAgg150
  z45 := Tryz.sizeOf150
  v45 := Tryz.zeroValue150
  t46 := Tryz.underlying151
  a46 := Tryz.isAgg151
  z46 := Tryz.sizeOf151
  v46 := Tryz.zeroValue151
  t50 := Tryz.underlying91
  a50 := Tryz.isAgg91
  z50 := Tryz.sizeOf91
  v50 := Tryz.zeroValue91
  t53 := Tryz.underlying157
  a53 := Tryz.isAgg157
  z53 := Tryz.sizeOf157
  v53 := Tryz.zeroValue157
  t55 := Tryz.underlying159
  a55 := Tryz.isAgg159
  z55 := Tryz.sizeOf159
  v55 := Tryz.zeroValue159
  t66 := Tryz.underlying177
  a66 := Tryz.isAgg177
  z66 := Tryz.sizeOf177
  v66 := Tryz.zeroValue177
  t70 := Tryz.underlying181
  a70 := Tryz.isAgg181
  z70 := Tryz.sizeOf181
  v70 := Tryz.zeroValue181
  t76 := Tryz.underlying194
  a76 := Tryz.isAgg194
  z76 := Tryz.sizeOf194
  v76 := Tryz.zeroValue194
  t77 := Tryz.underlying195
  a77 := Tryz.isAgg195
  z77 := Tryz.sizeOf195
  v77 := Tryz.zeroValue195 }
def Tryz.sort67_ren : Go.Shelf.Ren := ⟨fun | 6 => 67 | 15 => 100 | 14 => 102 | 28 => 134 | 29 => 135 | 20 => 136 | 21 => 137 | 22 => 138 | 23 => 139 | 24 => 140 | 25 => 141 | 26 => 142 | 27 => 143 | 46 => 172 | 47 => 168 | 48 => 169 | 49 => 173 | 50 => 174 | 57 => 185 | n => n, fun | 22 => 65 | 24 => 49 | 25 => 101 | 3 => 3 | 39 => 128 | 0 => 0 | 53 => 157 | 55 => 159 | 4 => 4 | 46 => 151 | 45 => 150 | 50 => 91 | 5 => 5 | 9 => 9 | 66 => 177 | 70 => 181 | 76 => 194 | 77 => 195 | n => n, fun | n => n⟩
theorem Tryz.sort67 : Go.Proofs.SlLaysF0.n6 Tryz.prog Tryz.sort67_ren := {
  mixed := by kernel_rfl
  f6 := ⟨Tryz.f67.name, by decide, Tryz.func67.trans (congrArg some (by kernel_rfl))⟩
  f14 := ⟨Tryz.f102.name, by decide, Tryz.func102.trans (congrArg some (by kernel_rfl))⟩
  f15 := Tryz.func100.trans (congrArg some (by kernel_rfl))
  f20 := ⟨Tryz.f136.name, by decide, Tryz.func136.trans (congrArg some (by kernel_rfl))⟩
  f21 := ⟨Tryz.f137.name, by decide, Tryz.func137.trans (congrArg some (by kernel_rfl))⟩
  f22 := ⟨Tryz.f138.name, by decide, Tryz.func138.trans (congrArg some (by kernel_rfl))⟩
  f23 := ⟨Tryz.f139.name, by decide, Tryz.func139.trans (congrArg some (by kernel_rfl))⟩
  f24 := ⟨Tryz.f140.name, by decide, Tryz.func140.trans (congrArg some (by kernel_rfl))⟩
  f25 := ⟨Tryz.f141.name, by decide, Tryz.func141.trans (congrArg some (by kernel_rfl))⟩
  f26 := ⟨Tryz.f142.name, by decide, Tryz.func142.trans (congrArg some (by kernel_rfl))⟩
  f27 := ⟨Tryz.f143.name, by decide, Tryz.func143.trans (congrArg some (by kernel_rfl))⟩
  f28 := Tryz.func134.trans (congrArg some (by kernel_rfl))
  f29 := Tryz.func135.trans (congrArg some (by kernel_rfl))
  f46 := ⟨Tryz.f172.name, by decide, Tryz.func172.trans (congrArg some (by kernel_rfl))⟩
  f47 := Tryz.func168.trans (congrArg some (by kernel_rfl))
  f48 := Tryz.func169.trans (congrArg some (by kernel_rfl))
  f49 := ⟨Tryz.f173.name, by decide, Tryz.func173.trans (congrArg some (by kernel_rfl))⟩
  f50 := ⟨Tryz.f174.name, by decide, Tryz.func174.trans (congrArg some (by kernel_rfl))⟩
  f57 := ⟨Tryz.f185.name, by decide, Tryz.func185.trans (congrArg some (by kernel_rfl))⟩
  t0 := Tryz.underlying0
  a0 := Tryz.isAgg0
  z0 := Tryz.sizeOf0
  v0 := Tryz.zeroValue0
  t3 := Tryz.underlying3
  a3 := Tryz.isAgg3
  z3 := Tryz.sizeOf3
  v3 := Tryz.zeroValue3
  t4 := Tryz.underlying4
  a4 := Tryz.isAgg4
  z4 := Tryz.sizeOf4
  v4 := Tryz.zeroValue4
  t5 := Tryz.underlying5
  a5 := Tryz.isAgg5
  z5 := Tryz.sizeOf5
  v5 := Tryz.zeroValue5
  t9 := Tryz.underlying9
  a9 := Tryz.isAgg9
  z9 := Tryz.sizeOf9
  v9 := Tryz.zeroValue9
  t22 := Tryz.underlying65
  a22 := Tryz.isAgg65
  z22 := Tryz.sizeOf65
  v22 := Tryz.zeroValue65
  t25 := Tryz.underlying101
  a25 := Tryz.isAgg101
  z25 := Tryz.sizeOf101
  v25 := Tryz.zeroValue101
  t39 := Tryz.underlying128
  a39 := Tryz.isAgg128
  z39 := Tryz.sizeOf128
  v39 := Tryz.zeroValue128
  t45 := Tryz.underlying150
  a45 := Tryz.isAgg150
  z45 := Tryz.sizeOf150
  v45 := Tryz.zeroValue150
  t46 := Tryz.underlying151
  a46 := Tryz.isAgg151
  z46 := Tryz.sizeOf151
  v46 := Tryz.zeroValue151
  t50 := Tryz.underlying91
  a50 := Tryz.isAgg91
  z50 := Tryz.sizeOf91
  v50 := Tryz.zeroValue91
  t53 := Tryz.underlying157
  a53 := Tryz.isAgg157
  z53 := Tryz.sizeOf157
  v53 := Tryz.zeroValue157
  t55 := Tryz.underlying159
  a55 := Tryz.isAgg159
  z55 := Tryz.sizeOf159
  v55 := Tryz.zeroValue159
  t66 := Tryz.underlying177
  a66 := Tryz.isAgg177
  z66 := Tryz.sizeOf177
  v66 := Tryz.zeroValue177
  t70 := Tryz.underlying181
  a70 := Tryz.isAgg181
  z70 := Tryz.sizeOf181
  v70 := Tryz.zeroValue181
  t76 := Tryz.underlying194
  a76 := Tryz.isAgg194
  z76 := Tryz.sizeOf194
  v76 := Tryz.zeroValue194
  t77 := Tryz.underlying195
  a77 := Tryz.isAgg195
  z77 := Tryz.sizeOf195
  v77 := Tryz.zeroValue195 }
end Go.Proofs
