/- A store's slots, turned part by part. -/
import Derived.Test.YtpoegdhgdgbmaaaGreatDoorRM16
import Derived.Test.YtpoegdhgdgbmaaaGreatDoorRM14
set_option linter.all false
namespace Go.Proofs.YtpoegdhgdgbmaaaGreatDoorR
open Go.Abs
set_option maxRecDepth 100000

section
variable {κ : Type} [DecidableEq κ]

/-- One more index for a key. -/
def addIx (k : κ) (x : Int) (es : List (κ × List Int)) : List (κ × List Int) := match keyIx k es 0 with
  | some j => es.set j (k, ixOf k es ++ [x])
  | none => es ++ [(k, [x])]

theorem ents_len (enc : κ → AV) (l b : Nat) : ∀ (es : List (κ × List Int)) (i : Nat), (ents enc l b i es).length = es.length
  | [], _ => rfl
  | p :: r, i => by simp only [ents, List.length_cons, ents_len enc l b r]

theorem ents_append (enc : κ → AV) (l b : Nat) (p : κ × List Int) : ∀ (es : List (κ × List Int)) (i : Nat), ents enc l b i (es ++ [p]) = ents enc l b i es ++ [(enc p.1, .sl 1 (intsOf p.2) (.buf l (b + 2 * (i + es.length))))]
  | [], i => by simp [ents]
  | q :: r, i => by
    simp only [List.cons_append, ents, ents_append enc l b p r (i + 1), List.length_cons]
    rw [show i + 1 + r.length = i + (r.length + 1) by omega]

theorem ents_set (enc : κ → AV) (l b : Nat) (p : κ × List Int) : ∀ (es : List (κ × List Int)) (i j : Nat), ents enc l b i (es.set j p) = (ents enc l b i es).set j (enc p.1, .sl 1 (intsOf p.2) (.buf l (b + 2 * (i + j))))
  | [], i, j => rfl
  | q :: r, i, 0 => by simp [ents]
  | q :: r, i, j + 1 => by
    simp only [List.set_cons_succ, ents, ents_set enc l b p r (i + 1) j]
    rw [show i + 1 + j = i + (j + 1) by omega]

theorem keyIx_at {k : κ} {β : Type} : ∀ {es : List (κ × β)} {i j : Nat}, keyIx k es i = some j → ∃ h : j - i < es.length, (es[j - i]).1 = k
  | [], _, _, h => by cases h
  | p :: r, i, j, h => by
    simp only [keyIx] at h
    split at h
    · rename_i e; cases h
      exact ⟨by simp, by simpa using e⟩
    · obtain ⟨h1, h2⟩ := keyIx_at h
      have h3 := (keyIx_lt h).1
      have e : j - i = (j - (i + 1)) + 1 := by omega
      refine ⟨by rw [e]; simp only [List.length_cons]; omega, ?_⟩
      simp only [e, List.getElem_cons_succ]; exact h2

theorem ixOf_at {k : κ} {es : List (κ × List Int)} {j : Nat} (h : keyIx k es 0 = some j) : ∃ hj : j < es.length, es[j] = (k, ixOf k es) := by
  obtain ⟨h1, h2⟩ := keyIx_at h
  refine ⟨h1, ?_⟩
  have : ixOf k es = es[j].2 := by
    unfold ixOf; rw [h]; simp [List.getElem?_eq_getElem (show j < es.length from h1)]
  rw [this]; exact Prod.ext h2 rfl

/-- No key has more indices than that. -/
def Bd (es : List (κ × List Int)) (m : Nat) : Prop := ∀ p ∈ es, p.2.length ≤ m

theorem Bd.ix {k : κ} {es : List (κ × List Int)} {m : Nat} (h : Bd es m) : (ixOf k es).length ≤ m := by
  unfold ixOf
  cases hk : keyIx k es 0 with
  | none => simp
  | some j =>
    have hj := keyIx_lt hk
    have : j < es.length := by omega
    simp only [List.getElem?_eq_getElem this, Option.map_some, Option.getD_some]
    exact h _ (List.getElem_mem this)

theorem Bd.add {k : κ} {x : Int} {es : List (κ × List Int)} {m : Nat} (h : Bd es m) : Bd (addIx k x es) (m + 1) := by
  intro p hp
  unfold addIx at hp
  split at hp
  · rcases List.mem_or_eq_of_mem_set hp with hp | rfl
    · exact Nat.le_succ_of_le (h p hp)
    · have := h.ix (k := k)
      simp; exact this
  · rcases List.mem_append.1 hp with hp | hp
    · exact Nat.le_succ_of_le (h p hp)
    · simp only [List.mem_singleton] at hp; subst hp; simp

theorem below_ents {n l b : Nat} (enc : κ → AV) (hl : l < n) (he : ∀ k, Below n (enc k)) : ∀ (es : List (κ × List Int)) (i : Nat), ∀ p ∈ ents enc l b i es, Below n p.1 ∧ Below n p.2
  | [], _, p, h => by cases h
  | q :: r, i, p, h => by
    simp only [ents, List.mem_cons] at h
    rcases h with rfl | h
    · exact ⟨he _, below_ints_o _ (fun _ _ e => by cases e; exact hl)⟩
    · exact below_ents enc hl he r (i + 1) p h
end

theorem below_map {n : Nat} {es : List (AV × AV)} (h : ∀ p ∈ es, Below n p.1 ∧ Below n p.2) : ABlk.Below n (.map es) := by
  refine ⟨fun a ha => ?_, by simp [ABlk.at_]⟩
  rcases List.mem_append.1 ha with ha | ha <;> obtain ⟨p, hp, rfl⟩ := List.mem_map.1 ha
  · exact (h p hp).1
  · exact (h p hp).2

theorem below_buf (n e sz fr : Nat) : ABlk.Below n (.buf e sz fr) := ⟨by simp [ABlk.avs], by simp [ABlk.at_]⟩
theorem Ak.blw (n : Nat) (k : Ak) : Below n k.enc := below_agg (by simp only [List.mem_cons, List.not_mem_nil, or_false, forall_eq_or_imp, forall_eq]; exact ⟨.str _, .int _ _, .int _ _, .str _⟩)
theorem below_num {n : Nat} (N : List (List UInt8 × Int)) : ∀ p ∈ N.map numE, Below n p.1 ∧ Below n p.2 := fun p hp => by
  obtain ⟨q, _, rfl⟩ := List.mem_map.1 hp; exact ⟨.str _, .int _ _⟩
theorem below_boxCells {n l b : Nat} (hl : l < n) (A : List Am) : ABlk.Below n (.box (boxCells l b A)) := by
  refine ABlk.below_box ⟨?_, .map _ _ hl, .map _ _ hl, .map _ _ hl, trivial⟩
  unfold atomsCell
  split
  · exact .sl _ _ _ (fun i h => absurd h (Nat.not_lt_zero _)) (fun _ _ e => by cases e)
  · exact below_sl (fun x hx => by obtain ⟨u, _, rfl⟩ := List.mem_map.1 hx; exact u.blw n) (fun _ _ e => by cases e; exact hl)

section
variable {H : AHeap} {l b : Nat} {s : Sto}

theorem put_free (hf : FreeAt H l b) {k : Nat} (hk : b ≤ k) : put H l b s l k = lkb (lst l b s) k := by
  unfold put; rw [if_pos rfl, hf k hk, Option.or_none]

theorem put_num (hf : FreeAt H l b) (N : List (List UInt8 × Int)) : (put H l b s).upd l (b + 2) (.map (N.map numE)) = put H l b ⟨s.A, N, s.S, s.R⟩ := by
  funext l' k
  unfold AHeap.upd put
  by_cases hl : l' = l
  · subst hl
    simp only [true_and, if_true, lkb_lst]
    by_cases h : k = b + 2
    · subst h; simp [numE]
    · simp [h]
  · simp [hl]

theorem put_at (H : AHeap) (l b : Nat) (s : Sto) (l' k : Nat) : put H l b s l' k = if l' = l then (lkb (lst l b s) k).or (H l' k) else H l' k := rfl

theorem put_sig_new (hf : FreeAt H l b) (p : Sg × List Int) (m : ABlk) :
    (((put H l b s).upd l (b + 3) m).upd l (b + 5 + 2 * s.S.length) (.buf 3 1 p.2.length)).upd l (b + 3) (.map (ents Sg.enc l (b + 5) 0 (s.S ++ [p]))) = put H l b ⟨s.A, s.N, s.S ++ [p], s.R⟩ := by
  funext l' k
  simp only [AHeap.upd, put_at]
  by_cases hl : l' = l
  · subst hl
    simp only [true_and, if_true, lkb_lst]
    by_cases h : k = b + 3
    · subst h; simp
    · simp only [h, if_false]
      by_cases h2 : k = b + 5 + 2 * s.S.length
      · subst h2
        rw [if_pos rfl, if_neg (by omega), if_neg (by omega), if_neg (by omega), if_neg (by omega), if_pos (by omega)]
        have : (b + 5 + 2 * s.S.length - (b + 5)) / 2 = s.S.length := by omega
        rw [this]; simp
      · rw [if_neg h2]
        by_cases h3 : b + 5 ≤ k ∧ (k - (b + 5)) % 2 = 0
        · rw [if_pos h3, if_pos h3]
          have : (k - (b + 5)) / 2 ≠ s.S.length := by omega
          have e : (s.S ++ [p])[(k - (b + 5)) / 2]? = s.S[(k - (b + 5)) / 2]? := by
            rcases Nat.lt_or_ge ((k - (b + 5)) / 2) s.S.length with h4 | h4
            · rw [List.getElem?_append_left h4]
            · rw [List.getElem?_eq_none (by simp; omega), List.getElem?_eq_none h4]
          rw [e]
        · rw [if_neg h3, if_neg h3]
  · simp [hl]

theorem put_sig_set (hf : FreeAt H l b) (p : Sg × List Int) (j : Nat) (hj : j < s.S.length) (m : ABlk) :
    (((put H l b s).upd l (b + 3) m).upd l (b + 5 + 2 * j) (.buf 3 1 p.2.length)).upd l (b + 3) (.map (ents Sg.enc l (b + 5) 0 (s.S.set j p))) = put H l b ⟨s.A, s.N, s.S.set j p, s.R⟩ := by
  funext l' k
  simp only [AHeap.upd, put_at]
  by_cases hl : l' = l
  · subst hl
    simp only [true_and, if_true, lkb_lst]
    by_cases h : k = b + 3
    · subst h; simp
    · simp only [h, if_false]
      by_cases h2 : k = b + 5 + 2 * j
      · subst h2
        rw [if_pos rfl, if_neg (by omega), if_neg (by omega), if_neg (by omega), if_neg (by omega), if_pos (by omega)]
        have : (b + 5 + 2 * j - (b + 5)) / 2 = j := by omega
        rw [this]; simp [hj]
      · rw [if_neg h2]
        by_cases h3 : b + 5 ≤ k ∧ (k - (b + 5)) % 2 = 0
        · rw [if_pos h3, if_pos h3]
          rw [List.getElem?_set_ne (by omega)]
        · rw [if_neg h3, if_neg h3]
  · simp [hl]

theorem put_arg_new (hf : FreeAt H l b) (p : Ak × List Int) (m : ABlk) :
    (((put H l b s).upd l (b + 4) m).upd l (b + 6 + 2 * s.R.length) (.buf 3 1 p.2.length)).upd l (b + 4) (.map (ents Ak.enc l (b + 6) 0 (s.R ++ [p]))) = put H l b ⟨s.A, s.N, s.S, s.R ++ [p]⟩ := by
  funext l' k
  simp only [AHeap.upd, put_at]
  by_cases hl : l' = l
  · subst hl
    simp only [true_and, if_true, lkb_lst]
    by_cases h : k = b + 4
    · subst h; simp
    · simp only [h, if_false]
      by_cases h2 : k = b + 6 + 2 * s.R.length
      · subst h2
        rw [if_pos rfl, if_neg (by omega), if_neg (by omega), if_neg (by omega), if_neg (by omega), if_neg (by omega), if_pos (by omega)]
        have : (b + 6 + 2 * s.R.length - (b + 6)) / 2 = s.R.length := by omega
        rw [this]; simp
      · rw [if_neg h2]
        by_cases h3 : b + 6 ≤ k ∧ (k - (b + 6)) % 2 = 0
        · rw [if_pos h3, if_pos h3]
          have : (k - (b + 6)) / 2 ≠ s.R.length := by omega
          have e : (s.R ++ [p])[(k - (b + 6)) / 2]? = s.R[(k - (b + 6)) / 2]? := by
            rcases Nat.lt_or_ge ((k - (b + 6)) / 2) s.R.length with h4 | h4
            · rw [List.getElem?_append_left h4]
            · rw [List.getElem?_eq_none (by simp; omega), List.getElem?_eq_none h4]
          rw [e]
        · rw [if_neg h3, if_neg h3]
  · simp [hl]

theorem put_arg_set (hf : FreeAt H l b) (p : Ak × List Int) (j : Nat) (hj : j < s.R.length) (m : ABlk) :
    (((put H l b s).upd l (b + 4) m).upd l (b + 6 + 2 * j) (.buf 3 1 p.2.length)).upd l (b + 4) (.map (ents Ak.enc l (b + 6) 0 (s.R.set j p))) = put H l b ⟨s.A, s.N, s.S, s.R.set j p⟩ := by
  funext l' k
  simp only [AHeap.upd, put_at]
  by_cases hl : l' = l
  · subst hl
    simp only [true_and, if_true, lkb_lst]
    by_cases h : k = b + 4
    · subst h; simp
    · simp only [h, if_false]
      by_cases h2 : k = b + 6 + 2 * j
      · subst h2
        rw [if_pos rfl, if_neg (by omega), if_neg (by omega), if_neg (by omega), if_neg (by omega), if_neg (by omega), if_pos (by omega)]
        have : (b + 6 + 2 * j - (b + 6)) / 2 = j := by omega
        rw [this]; simp [hj]
      · rw [if_neg h2]
        by_cases h3 : b + 6 ≤ k ∧ (k - (b + 6)) % 2 = 0
        · rw [if_pos h3, if_pos h3]
          rw [List.getElem?_set_ne (by omega)]
        · rw [if_neg h3, if_neg h3]
  · simp [hl]

theorem put_atoms (hf : FreeAt H l b) (a : Am) :
    ((put H l b s).upd l (b + 1) (.buf 25 2 (s.A.length + 1))).upd l b (.box (boxCells l b (s.A ++ [a]))) = put H l b ⟨s.A ++ [a], s.N, s.S, s.R⟩ := by
  funext l' k
  simp only [AHeap.upd, put_at]
  by_cases hl : l' = l
  · subst hl
    simp only [true_and, if_true, lkb_lst]
    by_cases h : k = b
    · subst h; simp
    · simp only [h, if_false]
      by_cases h2 : k = b + 1
      · subst h2
        rw [if_pos rfl, if_neg (by omega), if_neg (by omega), if_neg (by omega), if_pos rfl, if_neg (by simp)]
        simp
      · simp only [if_neg h2]
  · simp [hl]
end
end Go.Proofs.YtpoegdhgdgbmaaaGreatDoorR

/- The store's Add. -/
namespace Go.Proofs.YtpoegdhgdgbmaaaGreatDoorR
open Go.Abs
set_option maxRecDepth 100000

/-- The keys of an atom's arguments. -/
def argKeys (a : Am) : List Ak := a.args.zipIdx.map fun p => ⟨a.sg, p.2, txt p.1⟩

def addS (s : Sto) (a : Am) : Sto := ⟨s.A ++ [a], s.N ++ [(atxt a, (s.A.length : Int))], addIx a.sg s.A.length s.S, (argKeys a).foldl (fun R k => addIx k (s.A.length : Int) R) s.R⟩

/-- One atom added to a store. -/
def addT (s : Sto) (a : Am) : Sto × Bool × Int :=
  if validA a = false then (s, false, 2) else if (keyIx (atxt a) s.N 0).isSome = true then (s, false, 0) else if s.A.length = 2000 then (s, false, 5) else (addS s a, true, 0)

/-- A store that is not too large. -/
structure Fit (s : Sto) : Prop where
  A : s.A.length ≤ 2000
  S : Bd s.S 100000
  R : Bd s.R 100000
  g : GoodL s.A

theorem findA_ents {κ : Type} [DecidableEq κ] (enc : κ → AV) (hi : ∀ a b, (enc a).kls = (enc b).kls → a = b) (k : κ) (l b : Nat) (es : List (κ × List Int)) : findA (enc k) (ents enc l b 0 es) = keyIx k es 0 := findL_ents enc hi k l b es 0 0

theorem keyIx_none {κ β : Type} [DecidableEq κ] {k : κ} {es : List (κ × β)} (h : (keyIx k es 0).isSome = false) : keyIx k es 0 = none := by
  cases hk : keyIx k es 0 with
  | none => rfl
  | some j => rw [hk] at h; cases h

def op9 : Opt := ⟨true, true, fun _ => .auto, [7]⟩
def op15 : Opt := ⟨true, true, fun d => if d = 68 then .heap else .auto, [10]⟩
def opS (l q : Nat) (nw : Bool) : Opt := ⟨true, false, fun d => if d = 55 then (if nw then .place l q false else .heap) else .auto, []⟩
def opR (l q : Nat) (nw : Bool) : Opt := ⟨true, false, fun d => if d = 79 then (if nw then .place l q false else .heap) else .auto, []⟩
def opA (l q : Nat) (nw : Bool) : Opt := ⟨true, false, fun d => if d = 91 then (if nw then .place l q false else .heap) else .auto, []⟩

/-- The arguments' indices, i of them added. -/
def Rat (s : Sto) (a : Am) (i : Nat) : List (Ak × List Int) := ((argKeys a).take i).foldl (fun R k => addIx k (s.A.length : Int) R) s.R

def st23 (n l b : Nat) (s : Sto) (a : Am) (H : AHeap) (i : Nat) : AState :=
  ⟨[(60, .int .i64 i), (58, .sl 4 (a.args.map Tm.enc) .any), (59, .int .i64 a.args.length), (0, .ptr l b 0), (3, .ptr n 3 0), (6, .int .i64 s.A.length), (7, .ptr n 7 0)], [(3, .box a.cs), (7, .box a.sg.cs)],
    put H l b ⟨s.A, s.N, s.S, Rat s a i⟩⟩

theorem put_lt {H : AHeap} {l b : Nat} {s : Sto} {k : Nat} (h : k < b) : put H l b s l k = H l k := by
  rw [put_at, if_pos rfl, lkb_lst, if_neg (by omega), if_neg (by omega), if_neg (by omega), if_neg (by omega), if_neg (by omega), if_neg (by omega), if_neg (by omega)]; rfl
theorem put_other {H : AHeap} {l b : Nat} {s : Sto} {l' k : Nat} (h : l' ≠ l) : put H l b s l' k = H l' k := by
  rw [put_at, if_neg h]

theorem Tabs.put {H : AHeap} {l b : Nat} (hT : Tabs H) (hf : FreeAt H l b) (s : Sto) : Tabs (Go.Abs.put H l b s) := by
  have key : ∀ k x, H 0 k = some x → Go.Abs.put H l b s 0 k = H 0 k := fun k x hx => by
    by_cases h : 0 = l
    · subst h
      refine put_lt ?_
      rcases Nat.lt_or_ge k b with h1 | h1
      · exact h1
      · rw [hf k h1] at hx; cases hx
    · exact put_other h
  obtain ⟨m, t, t', h1, h2⟩ := hT
  exact ⟨m, t, t', by rw [key _ _ h1]; exact h1, by rw [key _ _ h2]; exact h2⟩

/-- A key's entry, looked at for a writing. -/
theorem ent_old {κ : Type} [DecidableEq κ] (enc : κ → AV) (hi : ∀ a b, (enc a).kls = (enc b).kls → a = b) (k : κ) (l b : Nat) (es : List (κ × List Int)) (re : TRow) {j : Nat} (h : keyIx k es 0 = some j) :
    entA re (enc k) (ents enc l b 0 es) = (.tup [.sl 1 (intsOf (ixOf k es)) (.buf l (b + 2 * j)), .int .i64 j], ents enc l b 0 es) := by
  obtain ⟨hj, he⟩ := ixOf_at h
  have h1 := ents_getD enc l b es 0 j hj (.dead, .dead)
  rw [he, Nat.zero_add] at h1
  unfold entA
  rw [findA_ents enc hi, h]
  simp only [h1]
  refine Prod.ext rfl ?_
  have h2 := ents_set enc l b es[j] es 0 j
  rw [List.set_getElem_self, he, Nat.zero_add] at h2
  exact h2.symm

theorem ent_new {κ : Type} [DecidableEq κ] (enc : κ → AV) (hi : ∀ a b, (enc a).kls = (enc b).kls → a = b) (k : κ) (l b : Nat) (es : List (κ × List Int)) (re : TRow) (h : keyIx k es 0 = none) :
    entA re (enc k) (ents enc l b 0 es) = (.tup [zeroA re, .int .i64 es.length], ents enc l b 0 es ++ [(enc k, zeroA re)]) := by
  unfold entA
  rw [findA_ents enc hi, h, ents_len]

theorem getD_last {α : Type} (es : List α) (m : Nat) (h : es.length = m) (x d : α) : (es ++ [x]).getD m d = x := by
  subst h; rw [List.getD_eq_getElem?_getD]; simp
theorem set_last {α : Type} (es : List α) (m : Nat) (h : es.length = m) (x q : α) : (es ++ [x]).set m q = es ++ [q] := by
  subst h; simp

theorem ents_snoc {κ : Type} [DecidableEq κ] (enc : κ → AV) (l b : Nat) (es : List (κ × List Int)) (k : κ) (x : Int) : ents enc l b 0 es ++ [(enc k, .sl 1 [.int .i64 x] (.buf l (b + 2 * es.length)))] = ents enc l b 0 (es ++ [(k, [x])]) := by
  rw [ents_append, Nat.zero_add]; rfl

/-- What stands behind the last part. -/
def Q23 (n : Nat) (H' : AHeap) : Exit → AState → Prop := PostF Tryz.prog tt n Tryz.f23.results.toList fun r G => r = AV.tup [AV.bool true, eInt 0] ∧ G = H'

theorem free_sig {H : AHeap} {l b : Nat} (s : Sto) (hf : FreeAt H l b) (X : ABlk) : ((put H l b s).upd l (b + 3) X) l (b + 5 + 2 * s.S.length) = none := by
  rw [AHeap.upd_ne _ _ (by omega), put_free hf (by omega), lkb_lst, if_neg (by omega), if_neg (by omega), if_neg (by omega), if_neg (by omega), if_neg (by omega), if_pos (by omega)]
  have : (b + 5 + 2 * s.S.length - (b + 5)) / 2 = s.S.length := by omega
  rw [this]; simp
theorem free_arg {H : AHeap} {l b : Nat} (s : Sto) (hf : FreeAt H l b) (X : ABlk) : ((put H l b s).upd l (b + 4) X) l (b + 6 + 2 * s.R.length) = none := by
  rw [AHeap.upd_ne _ _ (by omega), put_free hf (by omega), lkb_lst, if_neg (by omega), if_neg (by omega), if_neg (by omega), if_neg (by omega), if_neg (by omega), if_neg (by omega), if_pos (by omega)]
  have : (b + 6 + 2 * s.R.length - (b + 6)) / 2 = s.R.length := by omega
  rw [this]; simp
theorem old_sig {H : AHeap} {l b : Nat} (s : Sto) {j : Nat} (hj : j < s.S.length) (X : ABlk) : ((put H l b s).upd l (b + 3) X) l (b + 5 + 2 * j) = some (.buf 3 1 s.S[j].2.length) := by
  rw [AHeap.upd_ne _ _ (by omega)]
  refine HasSto.put H l b s _ _ ?_
  rw [lkb_lst, if_neg (by omega), if_neg (by omega), if_neg (by omega), if_neg (by omega), if_neg (by omega), if_pos (by omega)]
  have : (b + 5 + 2 * j - (b + 5)) / 2 = j := by omega
  rw [this, List.getElem?_eq_getElem hj]; rfl
theorem old_arg {H : AHeap} {l b : Nat} (s : Sto) {j : Nat} (hj : j < s.R.length) (X : ABlk) : ((put H l b s).upd l (b + 4) X) l (b + 6 + 2 * j) = some (.buf 3 1 s.R[j].2.length) := by
  rw [AHeap.upd_ne _ _ (by omega)]
  refine HasSto.put H l b s _ _ ?_
  rw [lkb_lst, if_neg (by omega), if_neg (by omega), if_neg (by omega), if_neg (by omega), if_neg (by omega), if_neg (by omega), if_pos (by omega)]
  have : (b + 6 + 2 * j - (b + 6)) / 2 = j := by omega
  rw [this, List.getElem?_eq_getElem hj]; rfl

theorem intsOf_append (p : List Int) (x : Int) : intsOf p ++ [.int .i64 x] = intsOf (p ++ [x]) := by simp [intsOf]
theorem intsOf_len (p : List Int) : (intsOf p).length = p.length := by simp [intsOf]

/-- The last part: the atom itself. -/
theorem a23c (n : Nat) (H : AHeap) (l b : Nat) (s : Sto) (a : Am) (hl : l < n) (hf : FreeAt H l b) (hA2 : s.A.length ≤ 2000) (ha : a.Good) (hn : 0 < n) (hT0 : Tabs H) (B : Nat) (tm : List (Nat × AV)) (h0 : lkv tm 0 = .ptr l b 0) (h3 : lkv tm 3 = .ptr n 3 0) (L : List (Nat × ABlk)) (hL : lkb L 3 = some (.box a.cs)) :
    AKc ⟨Tryz.prog, tt, ⟨none, B⟩, n, Tryz.f23.ntmps⟩ [.code (bodyOf Tryz.f23).snd.snd.snd.snd.snd.snd] (Q23 n (put H l b ⟨s.A ++ [a], s.N, s.S, s.R⟩)) ⟨tm, L, put H l b s⟩ := by
  have hne : ¬ l = n := by omega
  have hst := HasSto.put H l b s
  have hb := hst.box
  have hT := hT0.put hf s
  have hab := put_atoms (s := s) hf a
  unfold Q23
  by_cases hA : s.A = []
  · have hq : put H l b s l (b + 1) = none := by rw [put_free hf (by omega), lkb_lst, if_neg (by omega), if_neg (by omega), if_neg (by omega), if_neg (by omega), if_pos rfl, if_pos hA]
    have hq' : ∀ Y, ((put H l b s).upd l (b + 1) Y) l b = (put H l b s) l b := fun Y => AHeap.upd_ne _ _ (by omega)
    generalize put H l b s = G at *
    repeat refine kn rfl ?_
    refine k_draw tok mixed (opA l (b + 1) true) rfl rfl (by kernel_rfl) (by kernel_rfl) ?_
    simp only [go_sem, simprocAttr, opA, List.contains_cons, Nat.reduceBEq, Bool.or_false, Bool.or_self, Nat.reduceEqDiff, hne, hb, h0, h3, hL, boxCells, atomsCell, hA]
    refine callT (fun_of Tryz.func59 rfl rfl) (a59 a ha) hn hT (by simp only [go_sem, simprocAttr]) ?_
    simp only [go_sem, simprocAttr]
    simp only [go_sem, simprocAttr, opA, List.contains_cons, Nat.reduceBEq, Bool.or_false, Bool.or_self, Nat.reduceEqDiff, hne, hb, h0, h3, hL, boxCells, atomsCell, hA, hq, hq']
    refine ⟨by decide, ⟨by omega, le_maxLen (by omega)⟩, .inr (below_buf _ _ _ _), .inr ?_, ?_⟩
    · refine ABlk.below_box ⟨below_sl (fun x hx => ?_) (fun _ _ e => by cases e; exact hl), .map _ _ hl, .map _ _ hl, .map _ _ hl, trivial⟩
      simp only [List.mem_singleton] at hx; subst hx; exact a.blw n
    have hab' : (G.upd l (b + 1) (.buf 25 2 1)).upd l b (.box [.sl 2 [a.enc] (.buf l (b + 1)), .map l (b + 2), .map l (b + 3), .map l (b + 4)]) = put H l b ⟨s.A ++ [a], s.N, s.S, s.R⟩ := by
      rw [← hab, hA]; rfl
    rw [hab', hA]
    repeat refine kn rfl ?_
    refine k_region tok rfl (by kernel_rfl) ?_
    simp only [go_sem, simprocAttr]
    repeat refine kn rfl ?_
    refine k_ret rfl ?_
    exact post_two (.refl _) (.refl _) (.bool _) (.int _ _) rfl
  · have hq : put H l b s l (b + 1) = some (.buf 25 2 s.A.length) := HasSto.put H l b s _ _ (by rw [lkb_lst, if_neg (by omega), if_neg (by omega), if_neg (by omega), if_neg (by omega), if_pos rfl, if_neg hA])
    have hq' : ∀ Y, ((put H l b s).upd l (b + 1) Y) l b = (put H l b s) l b := fun Y => AHeap.upd_ne _ _ (by omega)
    generalize put H l b s = G at *
    repeat refine kn rfl ?_
    refine k_draw tok mixed (opA l (b + 1) false) rfl rfl (by kernel_rfl) (by kernel_rfl) ?_
    simp only [go_sem, simprocAttr, opA, List.contains_cons, Nat.reduceBEq, Bool.or_false, Bool.or_self, Nat.reduceEqDiff, hne, hb, h0, h3, hL, boxCells, atomsCell, hA]
    refine callT (fun_of Tryz.func59 rfl rfl) (a59 a ha) hn hT (by simp only [go_sem, simprocAttr]) ?_
    simp only [go_sem, simprocAttr]
    simp only [go_sem, simprocAttr, opA, List.contains_cons, Nat.reduceBEq, Bool.or_false, Bool.or_self, Nat.reduceEqDiff, hne, hb, h0, h3, hL, boxCells, atomsCell, hA, hq, hq']
    refine ⟨by decide, ⟨le_maxLen (by omega), by omega⟩, .inr (below_buf _ _ _ _), .inr ?_, ?_⟩
    · refine ABlk.below_box ⟨below_sl (fun x hx => ?_) (fun _ _ e => by cases e; exact hl), .map _ _ hl, .map _ _ hl, .map _ _ hl, trivial⟩
      rcases List.mem_append.1 hx with hx | hx
      · obtain ⟨u, _, rfl⟩ := List.mem_map.1 hx; exact u.blw n
      · simp only [List.mem_singleton] at hx; subst hx; exact a.blw n
    have hab' : (G.upd l (b + 1) (.buf 25 2 (s.A.length + 1))).upd l b (.box [.sl 2 (s.A.map Am.enc ++ [a.enc]) (.buf l (b + 1)), .map l (b + 2), .map l (b + 3), .map l (b + 4)]) = put H l b ⟨s.A ++ [a], s.N, s.S, s.R⟩ := by
      rw [← hab]; simp [boxCells, atomsCell]
    rw [hab']
    repeat refine kn rfl ?_
    refine k_region tok rfl (by kernel_rfl) ?_
    simp only [go_sem, simprocAttr]
    repeat refine kn rfl ?_
    refine k_ret rfl ?_
    exact post_two (.refl _) (.refl _) (.bool _) (.int _ _) rfl

theorem validA_arg {a : Am} {t : Tm} (h : validA a = true) (ht : t ∈ a.args) : valueT t = true := by
  simp only [validA, Bool.and_eq_true, List.all_eq_true] at h
  exact h.2 t ht
theorem validA_len {a : Am} (h : validA a = true) : a.args.length ≤ 8 := by
  simp only [validA, Bool.and_eq_true, decide_eq_true_eq] at h
  omega

theorem Rat_bd {s : Sto} {a : Am} {m : Nat} (h : Bd s.R m) : ∀ i, Bd (Rat s a i) (m + i)
  | 0 => by rw [Rat, List.take_zero, List.foldl_nil]; exact h
  | i + 1 => by
    rcases Nat.lt_or_ge i (argKeys a).length with hi | hi
    · rw [Rat, foldl_take _ _ _ _ hi]; exact (Rat_bd h i).add
    · have := Rat_bd (a := a) h i
      rw [Rat, List.take_of_length_le (by omega)]
      rw [Rat, List.take_of_length_le hi] at this
      exact fun p hp => Nat.le_succ_of_le (this p hp)

theorem argKeys_len (a : Am) : (argKeys a).length = a.args.length := by simp [argKeys]
theorem argKeys_at (a : Am) (i : Nat) (h : i < a.args.length) : (argKeys a)[i]'(by rw [argKeys_len]; exact h) = ⟨a.sg, i, txt a.args[i]⟩ := by simp [argKeys]

theorem keyAk' (p : List UInt8) (m c : Int) (t : List UInt8) : keyOK tt 89 (.agg [.str p, .int .i64 m, .int .i64 c, .str t]) = true := keyAk p m c t

/-- The arguments. -/
theorem a23b (n : Nat) (H : AHeap) (l b : Nat) (s : Sto) (a : Am) (hl : l < n) (hf : FreeAt H l b) (hA2 : s.A.length ≤ 2000) (hR : Bd s.R 100000) (ha : a.Good) (hva : validA a = true) (hn : 0 < n) (hT0 : Tabs H) (B : Nat) :
    AKc ⟨Tryz.prog, tt, ⟨none, B⟩, n, Tryz.f23.ntmps⟩ [.code (bodyOf Tryz.f23).snd.snd.snd.snd.snd] (Q23 n (put H l b ⟨s.A ++ [a], s.N, s.S, Rat s a a.args.length⟩))
      ⟨[(0, .ptr l b 0), (3, .ptr n 3 0), (6, .int .i64 s.A.length), (7, .ptr n 7 0)], [(3, .box a.cs), (7, .box a.sg.cs)], put H l b s⟩ := by
  have hne : ¬ l = n := by omega
  have hlen := ha.len
  obtain ⟨Q, hQ⟩ : ∃ Q, Q = Q23 n (put H l b ⟨s.A ++ [a], s.N, s.S, Rat s a a.args.length⟩) := ⟨_, rfl⟩
  rw [← hQ]
  have hR0 : s = ⟨s.A, s.N, s.S, Rat s a 0⟩ := rfl
  refine k_seq rfl ?_
  refine k_cut (st23 n l b s a H a.args.length) ?_ ?_
  · repeat refine kn rfl ?_
    refine k_region tok rfl (by kernel_rfl) ?_
    simp only [go_sem, simprocAttr]
    repeat refine kn rfl ?_
    refine k_loop_ix (st23 n l b s a H) a.args.length rfl ?_ ?_
    · refine AWk_kept ?_ ?_ ?_ ?_ <;> repeat' first | exact trivial | refine q0 ?_ | exact qb | exact q1 | exact q2 | exact q3 | exact rfl | refine And.intro ?_ ?_ | exact q4 | exact q5 | exact q6 | exact q7 | exact Inside.ptr _ _ _ (.inr ⟨rfl, rfl⟩) | exact q8 | exact q9 | exact qd | exact Tm.ins _ | exact Tm.inss _ _ | exact Am.ins _ | exact Am.inss _ _ | refine ins_buf_str ?_ | refine Tm.ins_buf ?_ | refine Am.ins_buf ?_ | exact qf
      all_goals exact Inside.ptr _ _ _ (.inl hl)
    intro i hi
    refine k_st rfl ?_
    rcases Nat.lt_or_ge i a.args.length with h | h
    · repeat refine kn rfl ?_
      refine k_region tok rfl (by kernel_rfl) ?_
      simp only [go_sem, simprocAttr, h]
      repeat refine kn rfl ?_
      refine k_cond_t rfl (by simp only [go_sem, simprocAttr]) ?_
      repeat refine kn rfl ?_
      refine k_region tok rfl (by kernel_rfl) ?_
      simp only [go_sem, simprocAttr, Tm.getD_enc _ _ h, h]
      repeat refine kn rfl ?_
      have hst := HasSto.put H l b ⟨s.A, s.N, s.S, Rat s a i⟩
      have hb := hst.box
      have harg := hst.arg
      have hT := hT0.put hf ⟨s.A, s.N, s.S, Rat s a i⟩
      have hRi := Rat_bd (a := a) hR i
      simp only at harg
      have hva' : valueT a.args[i] = true := validA_arg hva (List.getElem_mem h)
      have hrat : Rat s a (i + 1) = addIx ⟨a.sg, i, txt a.args[i]⟩ s.A.length (Rat s a i) := by
        rw [Rat, foldl_take _ _ _ _ (by rw [argKeys_len]; exact h), argKeys_at a i h]; rfl
      refine k_draw tok mixed op15 rfl rfl (by kernel_rfl) (by kernel_rfl) ?_
      simp only [go_sem, simprocAttr, op15, List.contains_cons, Nat.reduceBEq, Bool.or_false, Bool.or_self, Nat.reduceEqDiff, hne]
      refine callTP (fun_of Tryz.func58 rfl rfl) (fun G hG => a58 _ (ha.arg (List.getElem_mem h)) hva' _ _ (Nat.succ_pos _) (hT.up (fun k => ?_))) (by simp only [go_sem, simprocAttr]) ?_
      · rw [hG 0 k (fun e => absurd e (Nat.ne_of_lt hn))]; exact full_lt hn _ _ _
      simp only [go_sem, simprocAttr, op15, List.contains_cons, Nat.reduceBEq, Bool.or_false, Bool.or_self, Nat.reduceEqDiff, hne]
      have hbox2 : ∃ c0, boxCells l b s.A = [c0, .map l (b + 2), .map l (b + 3), .map l (b + 4)] := ⟨_, rfl⟩
      obtain ⟨c0, hbc⟩ := hbox2
      simp only [hbc] at hb
      obtain ⟨k, hkk0⟩ : ∃ k : Ak, k = ⟨a.sg, i, txt a.args[i]⟩ := ⟨_, rfl⟩
      have hke : k.enc = .agg [.str a.sg.p, .int .i64 a.sg.n, .int .i64 i, .str (txt a.args[i])] := by rw [hkk0]; rfl
      rw [← hkk0] at hrat
      generalize hRR : Rat s a i = R at *
      have hkk : ∀ p, p ∈ ents Ak.enc l (b + 6) 0 R → keyOK tt 89 p.1 = true := fun p hp => by
        obtain ⟨k, hk⟩ := ents_mem _ _ _ _ _ _ hp
        rw [hk]; exact keyAk _ _ _ _
      have hbe := below_ents (b := b + 6) Ak.enc hl (Ak.blw n) R 0
      have hel := ents_len Ak.enc l (b + 6) R 0
      have hq3 : ∀ G : AHeap, ∀ X, (G.upd l (b + 4) X) l (b + 4) = some X := fun G X => AHeap.upd_same _ _ _ _
      have hq' : ∀ (G : AHeap) (X Y) (j : Nat), ((G.upd l (b + 4) X).upd l (b + 6 + 2 * j) Y) l (b + 4) = some X := fun G X Y j => by
        rw [AHeap.upd_ne _ _ (by omega), AHeap.upd_same]
      cases hk : keyIx k R 0 with
      | none =>
        have hent := fun re => ent_new Ak.enc kls_ak k l (b + 6) R re hk
        have hsn := ents_snoc Ak.enc l (b + 6) R k s.A.length
        have hfr := fun X => free_arg ⟨s.A, s.N, s.S, R⟩ hf (l := l) X
        have hnew := put_arg_new (s := ⟨s.A, s.N, s.S, R⟩) hf (k, [(s.A.length : Int)])
        have hadd : addIx k (s.A.length : Int) R = R ++ [(k, [(s.A.length : Int)])] := by rw [addIx, hk]
        have hgl := fun x d => getD_last (α := AV × AV) _ _ hel x d
        have hsl := fun x q => set_last (α := AV × AV) _ _ hel x q
        have hbk := Ak.blw n k
        simp only [hke] at hent hsn hbk
        simp only at hfr hnew
        generalize ents Ak.enc l (b + 6) 0 R = es at *
        generalize put H l b ⟨s.A, s.N, s.S, R⟩ = G at *
        repeat refine kn rfl ?_
        refine k_draw tok mixed (opR l (b + 6 + 2 * R.length) true) rfl rfl (by kernel_rfl) (by kernel_rfl) ?_
        simp only [go_sem, simprocAttr, opR, List.contains_cons, Nat.reduceBEq, Bool.or_false, Bool.or_self, Nat.reduceEqDiff, hne, hb, harg, hent, hfr, hq', hq3, zeroA, hel, keyAk', hgl, hsl]
        refine ⟨by decide, fun p hp => hkk p hp, .inr (below_map fun p hp => ?_), ⟨by omega, le_maxLen (by omega)⟩, .inr (below_buf _ _ _ _), by simp [hel], .inr (below_map fun p hp => ?_), ?_⟩
        · rcases List.mem_append.1 hp with hp | hp
          · exact hbe p hp
          · simp only [List.mem_singleton] at hp; subst hp
            exact ⟨hbk, .sl _ _ _ (fun i h => absurd h (Nat.not_lt_zero _)) (fun _ _ e => by cases e)⟩
        · rcases List.mem_append.1 hp with hp | hp
          · exact hbe p hp
          · simp only [List.mem_singleton] at hp; subst hp
            exact ⟨hbk, below_ints_o [(s.A.length : Int)] (fun _ _ e => by cases e; exact hl)⟩
        rw [hsn]
        have hnew' := hnew (.map (es ++ [(AV.agg [AV.str a.sg.p, AV.int .i64 a.sg.n, AV.int .i64 i, AV.str (txt a.args[i])], AV.sl 1 [] .full)]))
        simp only [List.length_cons, List.length_nil, Nat.zero_add] at hnew'
        rw [hnew', ← hadd, ← hrat]
        repeat refine kn rfl ?_
        refine k_region tok rfl (by kernel_rfl) ?_
        simp only [go_sem, simprocAttr]
        repeat refine kn rfl ?_
        refine k_nil ?_
        refine AWk_kept ?_ ?_ ?_ ?_ <;> repeat' first | exact trivial | refine q0 ?_ | exact qb | exact q1 | exact q2 | exact q3 | exact rfl | refine And.intro ?_ ?_ | exact q4 | exact q5 | exact q6 | exact q7 | exact Inside.ptr _ _ _ (.inr ⟨rfl, rfl⟩) | exact q8 | exact q9 | exact qd | exact Tm.ins _ | exact Tm.inss _ _ | exact Am.ins _ | exact Am.inss _ _ | refine ins_buf_str ?_ | refine Tm.ins_buf ?_ | refine Am.ins_buf ?_ | exact qf
        all_goals first | exact Inside.ptr _ _ _ (.inl hl) | skip
        simp only [go_sem, simprocAttr]
        rw [IntWalk.i64_in _ (by omega)]; exact .refl _
      | some j =>
        obtain ⟨hj, hje⟩ := ixOf_at hk
        have hent := fun re => ent_old Ak.enc kls_ak k l (b + 6) R re hk
        have hgd := ents_getD Ak.enc l (b + 6) R 0 j hj (.dead, .dead)
        have hold := fun X => old_arg (l := l) (b := b) (H := H) ⟨s.A, s.N, s.S, R⟩ (j := j) hj X
        have hixb := hRi.ix (k := k)
        have hadd : addIx k (s.A.length : Int) R = R.set j (k, ixOf k R ++ [(s.A.length : Int)]) := by rw [addIx, hk]
        have hset := ents_set Ak.enc l (b + 6) (k, ixOf k R ++ [(s.A.length : Int)]) R 0 j
        have hnew := put_arg_set (s := ⟨s.A, s.N, s.S, R⟩) hf (k, ixOf k R ++ [(s.A.length : Int)]) j hj
        simp only [hje, Nat.zero_add] at hold hgd hset
        have hbk := Ak.blw n k
        simp only [hke] at hent hgd hset hbk
        simp only [List.length_append, List.length_cons, List.length_nil, Nat.zero_add] at hnew
        have hsetb : ∀ p ∈ (ents Ak.enc l (b + 6) 0 R).set j (AV.agg [AV.str a.sg.p, AV.int .i64 a.sg.n, AV.int .i64 i, AV.str (txt a.args[i])], .sl 1 (intsOf (ixOf k R ++ [(s.A.length : Int)])) (.buf l (b + 6 + 2 * j))), Below n p.1 ∧ Below n p.2 := fun p hp => by
          rcases List.mem_or_eq_of_mem_set hp with hp | rfl
          · exact hbe p hp
          · exact ⟨hbk, below_ints_o _ (fun _ _ e => by cases e; exact hl)⟩
        generalize ixOf k R = ix at *
        generalize ents Ak.enc l (b + 6) 0 R = es at *
        generalize put H l b ⟨s.A, s.N, s.S, R⟩ = G at *
        repeat refine kn rfl ?_
        refine k_draw tok mixed (opR 0 0 false) rfl rfl (by kernel_rfl) (by kernel_rfl) ?_
        simp only [go_sem, simprocAttr, opR, List.contains_cons, Nat.reduceBEq, Bool.or_false, Bool.or_self, Nat.reduceEqDiff, hne, hb, harg, hent, hold, hq', hq3, zeroA, hel, keyAk', hgd, intsOf_len, intsOf_append]
        refine ⟨by decide, fun p hp => hkk p hp, .inr (below_map hbe), ⟨le_maxLen (by omega), by omega⟩, .inr (below_buf _ _ _ _), by omega, .inr (below_map hsetb), ?_⟩
        rw [← hset, hnew, ← hadd, ← hrat]
        repeat refine kn rfl ?_
        refine k_region tok rfl (by kernel_rfl) ?_
        simp only [go_sem, simprocAttr]
        repeat refine kn rfl ?_
        refine k_nil ?_
        refine AWk_kept ?_ ?_ ?_ ?_ <;> repeat' first | exact trivial | refine q0 ?_ | exact qb | exact q1 | exact q2 | exact q3 | exact rfl | refine And.intro ?_ ?_ | exact q4 | exact q5 | exact q6 | exact q7 | exact Inside.ptr _ _ _ (.inr ⟨rfl, rfl⟩) | exact q8 | exact q9 | exact qd | exact Tm.ins _ | exact Tm.inss _ _ | exact Am.ins _ | exact Am.inss _ _ | refine ins_buf_str ?_ | refine Tm.ins_buf ?_ | refine Am.ins_buf ?_ | exact qf
        all_goals first | exact Inside.ptr _ _ _ (.inl hl) | skip
        simp only [go_sem, simprocAttr]
        rw [IntWalk.i64_in _ (by omega)]; exact .refl _
    · repeat refine kn rfl ?_
      refine k_region tok rfl (by kernel_rfl) ?_
      simp only [go_sem, simprocAttr, Nat.not_lt.2 h]
      repeat refine kn rfl ?_
      refine k_cond_f rfl (by simp only [go_sem, simprocAttr]) ?_
      repeat refine kn rfl ?_
      refine k_exit_round rfl rfl rfl ?_
      repeat refine kn rfl ?_
      refine k_nil ?_
      refine ⟨rfl, ?_⟩
      have hi' : i = a.args.length := by omega
      subst hi'
      refine AWk_kept ?_ ?_ ?_ ?_ <;> repeat' first | exact trivial | refine q0 ?_ | exact qb | exact q1 | exact q2 | exact q3 | exact rfl | refine And.intro ?_ ?_ | exact q4 | exact q5 | exact q6 | exact q7 | exact Inside.ptr _ _ _ (.inr ⟨rfl, rfl⟩) | exact q8 | exact q9 | exact qd | exact Tm.ins _ | exact Tm.inss _ _ | exact Am.ins _ | exact Am.inss _ _ | refine ins_buf_str ?_ | refine Tm.ins_buf ?_ | refine Am.ins_buf ?_ | exact qf
      all_goals exact Inside.ptr _ _ _ (.inl hl)
  · rw [hQ]
    exact a23c n H l b ⟨s.A, s.N, s.S, Rat s a a.args.length⟩ a hl hf hA2 ha hn hT0 B _ rfl rfl _ rfl

theorem a23 (n : Nat) (H : AHeap) (l b : Nat) (s : Sto) (a : Am) (hl : l < n) (hf : FreeAt H l b) (hs : Fit s) (ha : a.Good) (hn : 0 < n) (hT : Tabs H) :
    ACalls Tryz.prog n 23 [.ptr l b 0, a.enc] (put H l b s) (fun r H' => r = .tup [.bool (addT s a).2.1, eInt (addT s a).2.2] ∧ H' = put H l b (addT s a).1) := by
  have hne : ¬ l = n := by omega
  have hne' : ¬ n = l := by omega
  have hst := HasSto.put H l b s
  have hb := hst.box
  have hTp := hT.put hf s
  have hkk : ∀ p, p ∈ s.N.map numE → keyOK tt 9 p.1 = true := fun p hp => by
    obtain ⟨q, _, rfl⟩ := List.mem_map.1 hp; exact keyStr _
  obtain ⟨G, hG⟩ : ∃ G, G = put H l b s := ⟨_, rfl⟩
  rw [← hG] at hst hb hTp ⊢
  have hT0 := hT
  replace hT := hTp
  refine a_fun tok (fun_of Tryz.func23 rfl rfl) (by simp) fun B => ?_
  repeat refine kn rfl ?_
  refine k_region tok rfl (by kernel_rfl) ?_
  simp only [go_sem, simprocAttr]
  repeat refine kn rfl ?_
  refine k_region tok rfl (by kernel_rfl) ?_
  simp only [go_sem, simprocAttr]
  refine callH (fun_of Tryz.func55 rfl rfl) (a55 (n + 1) _ l b s (by omega) (hst.full hl _)) (by simp only [go_sem, simprocAttr]) ?_
  simp only [go_sem, simprocAttr]
  repeat refine kn rfl ?_
  refine k_cond_f rfl (by simp only [go_sem, simprocAttr]) ?_
  repeat refine kn rfl ?_
  refine k_region tok rfl (by kernel_rfl) ?_
  simp only [go_sem, simprocAttr]
  refine callT (fun_of Tryz.func14 rfl rfl) (a14 a ha) hn hT (by simp only [go_sem, simprocAttr]) ?_
  simp only [go_sem, simprocAttr]
  cases h1 : validA a with
  | false =>
    repeat refine kn rfl ?_
    refine k_cond_t rfl (by simp only [go_sem, simprocAttr, h1]) ?_
    repeat refine kn rfl ?_
    refine k_region tok rfl (by kernel_rfl) ?_
    simp only [go_sem, simprocAttr]
    repeat refine kn rfl ?_
    refine k_ret rfl ?_
    have e : addT s a = (s, false, 2) := by simp [addT, h1]
    rw [e]
    exact post_two (.refl _) (.refl _) (.bool _) (.int _ _) hG
  | true =>
  repeat refine kn rfl ?_
  refine k_cond_f rfl (by simp only [go_sem, simprocAttr, h1]) ?_
  repeat refine kn rfl ?_
  refine k_region tok rfl (by kernel_rfl) ?_
  simp only [go_sem, simprocAttr]
  refine callH (fun_of Tryz.func26 rfl rfl) (a26 (n + 1) _ l b s a (by omega) (hst.full hl _) ha (by omega) (hT.full hn)) (by simp only [go_sem, simprocAttr]) ?_
  cases h2 : (keyIx (atxt a) s.N 0).isSome with
  | true =>
    simp only [go_sem, simprocAttr, h1, h2]
    repeat refine kn rfl ?_
    refine k_cond_t rfl (by simp only [go_sem, simprocAttr]) ?_
    repeat refine kn rfl ?_
    refine k_region tok rfl (by kernel_rfl) ?_
    simp only [go_sem, simprocAttr]
    repeat refine kn rfl ?_
    refine k_ret rfl ?_
    have e : addT s a = (s, false, 0) := by simp [addT, h1, h2]
    rw [e]
    exact post_two (.refl _) (.refl _) (.bool _) (.int _ _) hG
  | false =>
  simp only [go_sem, simprocAttr, h1, h2]
  repeat refine kn rfl ?_
  refine k_cond_f rfl (by simp only [go_sem, simprocAttr]) ?_
  have hlen : (if s.A = [] then (AV.sl 2 [] .full) else .sl 2 (s.A.map Am.enc) (.buf l (b + 1))) = atomsCell l b s.A := rfl
  have hk2 := keyIx_none h2
  cases h3 : ((s.A.length : Int) == 2000) with
  | true =>
    by_cases hA : s.A = []
    · rw [hA] at h3; cases h3
    repeat refine kn rfl ?_
    refine k_region tok rfl (by kernel_rfl) ?_
    simp only [go_sem, simprocAttr, hne, hb, boxCells, atomsCell, hA, h3]
    repeat refine kn rfl ?_
    refine k_cond_t rfl (by simp only [go_sem, simprocAttr]) ?_
    repeat refine kn rfl ?_
    refine k_region tok rfl (by kernel_rfl) ?_
    simp only [go_sem, simprocAttr]
    repeat refine kn rfl ?_
    refine k_ret rfl ?_
    have e : addT s a = (s, false, 5) := by simp [addT, h1, h2, nat_eq h3]
    rw [e]
    exact post_two (.refl _) (.refl _) (.bool _) (.int _ _) hG
  | false =>
  have e : addT s a = (addS s a, true, 0) := by simp [addT, h1, h2, nat_ne h3]
  rw [e]
  -- the number of the atom and its predicate
  have hbox2 : ∃ xs o, boxCells l b s.A = [.sl 2 xs o, .map l (b + 2), .map l (b + 3), .map l (b + 4)] ∧ xs.length = s.A.length := by
    by_cases hA : s.A = []
    · exact ⟨[], .full, by simp [boxCells, atomsCell, hA], by simp [hA]⟩
    · exact ⟨s.A.map Am.enc, .buf l (b + 1), by simp [boxCells, atomsCell, hA], by simp⟩
  obtain ⟨xs, ow, hbc, hxl⟩ := hbox2
  rw [hbc] at hb
  repeat refine kn rfl ?_
  refine k_region tok rfl (by kernel_rfl) ?_
  simp only [go_sem, simprocAttr, hne, hb, hxl, h3]
  repeat refine kn rfl ?_
  refine k_cond_f rfl (by simp only [go_sem, simprocAttr]) ?_
  repeat refine kn rfl ?_
  refine k_draw tok mixed op9 rfl rfl (by kernel_rfl) (by kernel_rfl) ?_
  simp only [go_sem, simprocAttr, op9, List.contains_cons, Nat.reduceBEq, Bool.or_false, Bool.or_self, Nat.reduceEqDiff, hne, hb, hxl]
  refine callPP (fun_of Tryz.func56 rfl rfl) (a56 a) (by simp only [go_sem, simprocAttr]) ?_
  simp only [go_sem, simprocAttr, op9, List.contains_cons, Nat.reduceBEq, Bool.or_false, Bool.or_self, Nat.reduceEqDiff, hne, hb, hxl]
  repeat refine kn rfl ?_
  refine k_draw tok mixed drawO rfl rfl (by kernel_rfl) (by kernel_rfl) ?_
  simp only [go_sem, simprocAttr, hne, hb, hxl]
  refine callT (fun_of Tryz.func57 rfl rfl) (a57 a ha h1) hn hT (by simp only [go_sem, simprocAttr]) ?_
  simp only [go_sem, simprocAttr]
  have hnum := hst.num
  change G l (b + 2) = some (ABlk.map (s.N.map numE)) at hnum
  simp only [go_sem, simprocAttr, hne, hb, hnum]
  refine ⟨fun p hp => hkk p hp, ?_⟩
  have hput : putA (AV.str (atxt a)) (AV.int IntKind.i64 s.A.length) (s.N.map numE) = (s.N ++ [(atxt a, (s.A.length : Int))]).map numE := by
    have : findA (AV.str (atxt a)) (s.N.map numE) = none := (findL_key AV.str kls_str (atxt a) numE (fun _ => rfl) s.N 0).trans hk2
    unfold putA; rw [this]; simp [numE]
  rw [hput]
  refine ⟨.inr (below_map (below_num _)), ?_⟩
  rw [hG, put_num hf]
  -- the predicate's indices
  obtain ⟨N1, hN1⟩ : ∃ N1, N1 = s.N ++ [(atxt a, (s.A.length : Int))] := ⟨_, rfl⟩
  rw [← hN1]
  clear hst hb hT hkk hnum hput hG hTp
  obtain ⟨G1, hG1⟩ : ∃ G1, G1 = put H l b ⟨s.A, N1, s.S, s.R⟩ := ⟨_, rfl⟩
  have hT := hT0.put hf ⟨s.A, N1, s.S, s.R⟩
  have hst := HasSto.put H l b ⟨s.A, N1, s.S, s.R⟩
  rw [← hG1] at hT hst ⊢
  have hb := hst.box
  have hsig := hst.sig
  simp only at hb hsig
  rw [hbc] at hb
  have hq3 : ∀ X, (G1.upd l (b + 3) X) l (b + 3) = some X := fun X => AHeap.upd_same _ _ _ _
  have hS1 := a23b n H l b ⟨s.A, N1, addIx a.sg s.A.length s.S, s.R⟩ a hl hf hs.A hs.R ha h1 hn hT0 B
  have hfin : (⟨s.A ++ [a], N1, addIx a.sg s.A.length s.S, Rat ⟨s.A, N1, addIx a.sg s.A.length s.S, s.R⟩ a a.args.length⟩ : Sto) = addS s a := by
    rw [addS, Rat, List.take_of_length_le (by rw [argKeys_len]; exact Nat.le_refl _), hN1]
  simp only at hS1
  rw [hfin] at hS1
  have hkk : ∀ p, p ∈ ents Sg.enc l (b + 5) 0 s.S → keyOK tt 49 p.1 = true := fun p hp => by
    obtain ⟨k, hk⟩ := ents_mem _ _ _ _ _ _ hp
    rw [hk]; exact keySig _ _
  have hbe := below_ents (b := b + 5) Sg.enc hl (Sg.blw n) s.S 0
  have hel := ents_len Sg.enc l (b + 5) s.S 0
  have hq3 : ∀ G : AHeap, ∀ X, (G.upd l (b + 3) X) l (b + 3) = some X := fun G X => AHeap.upd_same _ _ _ _
  have hq' : ∀ (G : AHeap) (X Y) (j : Nat), ((G.upd l (b + 3) X).upd l (b + 5 + 2 * j) Y) l (b + 3) = some X := fun G X Y j => by
    rw [AHeap.upd_ne _ _ (by omega), AHeap.upd_same]
  have hA2 := hs.A
  have hSb := hs.S
  obtain ⟨k, hk0⟩ : ∃ k : Sg, k = a.sg := ⟨_, rfl⟩
  have hke : k.enc = .agg [.str a.sg.p, .int .i64 a.sg.n] := by rw [hk0]; rfl
  rw [← hk0] at hS1
  have hbk := Sg.blw n k
  rw [hke] at hbk
  cases hk : keyIx k s.S 0 with
  | none =>
    have hent := fun re => ent_new Sg.enc kls_sg k l (b + 5) s.S re hk
    have hsn := ents_snoc Sg.enc l (b + 5) s.S k s.A.length
    have hfr := fun X => free_sig ⟨s.A, N1, s.S, s.R⟩ hf (l := l) X
    have hnew := put_sig_new (s := ⟨s.A, N1, s.S, s.R⟩) hf (k, [(s.A.length : Int)])
    have hadd : addIx k (s.A.length : Int) s.S = s.S ++ [(k, [(s.A.length : Int)])] := by rw [addIx, hk]
    have hgl := fun x d => getD_last (α := AV × AV) _ _ hel x d
    have hsl := fun x q => set_last (α := AV × AV) _ _ hel x q
    simp only [hke] at hent hsn
    simp only at hfr hnew
    rw [← hG1] at hfr hnew
    generalize hes : ents Sg.enc l (b + 5) 0 s.S = es at *
    clear hG1
    repeat refine kn rfl ?_
    refine k_draw tok mixed (opS l (b + 5 + 2 * s.S.length) true) rfl rfl (by kernel_rfl) (by kernel_rfl) ?_
    simp only [go_sem, simprocAttr, opS, List.contains_cons, Nat.reduceBEq, Bool.or_false, Bool.or_self, Nat.reduceEqDiff, hne, hb, hsig, hent, hfr, hq', hq3, zeroA, hel, hgl, hsl]
    refine ⟨by decide, fun p hp => hkk p hp, .inr (below_map fun p hp => ?_), ⟨by omega, le_maxLen (by omega)⟩, .inr (below_buf _ _ _ _), by simp [hel], .inr (below_map fun p hp => ?_), ?_⟩
    · rcases List.mem_append.1 hp with hp | hp
      · exact hbe p hp
      · simp only [List.mem_singleton] at hp; subst hp
        exact ⟨hbk, .sl _ _ _ (fun i h => absurd h (Nat.not_lt_zero _)) (fun _ _ e => by cases e)⟩
    · rcases List.mem_append.1 hp with hp | hp
      · exact hbe p hp
      · simp only [List.mem_singleton] at hp; subst hp
        exact ⟨hbk, below_ints_o [(s.A.length : Int)] (fun _ _ e => by cases e; exact hl)⟩
    rw [hsn]
    have hnew' := hnew (.map (es ++ [(AV.agg [AV.str a.sg.p, AV.int .i64 a.sg.n], AV.sl 1 [] .full)]))
    simp only [List.length_cons, List.length_nil, Nat.zero_add] at hnew'
    rw [hnew', ← hadd]
    refine k_weak ?_ hS1
    refine AWk_kept ?_ ?_ ?_ ?_ <;> repeat' first | exact trivial | refine q0 ?_ | exact qb | exact q1 | exact q2 | exact q3 | exact rfl | refine And.intro ?_ ?_ | exact q4 | exact q5 | exact q6 | exact q7 | exact Inside.ptr _ _ _ (.inr ⟨rfl, rfl⟩) | exact q8 | exact q9 | exact qd | exact Tm.ins _ | exact Tm.inss _ _ | exact Am.ins _ | exact Am.inss _ _ | refine ins_buf_str ?_ | refine Tm.ins_buf ?_ | refine Am.ins_buf ?_ | exact qf
    all_goals first | exact Inside.ptr _ _ _ (.inl hl) | (subst hk0; rfl)
  | some j =>
    obtain ⟨hj, hje⟩ := ixOf_at hk
    have hent := fun re => ent_old Sg.enc kls_sg k l (b + 5) s.S re hk
    have hgd := ents_getD Sg.enc l (b + 5) s.S 0 j hj (.dead, .dead)
    have hold := fun X => old_sig (l := l) (b := b) (H := H) ⟨s.A, N1, s.S, s.R⟩ (j := j) hj X
    have hixb := hSb.ix (k := k)
    have hadd : addIx k (s.A.length : Int) s.S = s.S.set j (k, ixOf k s.S ++ [(s.A.length : Int)]) := by rw [addIx, hk]
    have hset := ents_set Sg.enc l (b + 5) (k, ixOf k s.S ++ [(s.A.length : Int)]) s.S 0 j
    have hnew := put_sig_set (s := ⟨s.A, N1, s.S, s.R⟩) hf (k, ixOf k s.S ++ [(s.A.length : Int)]) j hj
    simp only [hje, Nat.zero_add] at hold hgd hset
    simp only [hke] at hent hgd hset
    simp only [List.length_append, List.length_cons, List.length_nil, Nat.zero_add] at hnew
    have hsetb : ∀ p ∈ (ents Sg.enc l (b + 5) 0 s.S).set j (AV.agg [AV.str a.sg.p, AV.int .i64 a.sg.n], .sl 1 (intsOf (ixOf k s.S ++ [(s.A.length : Int)])) (.buf l (b + 5 + 2 * j))), Below n p.1 ∧ Below n p.2 := fun p hp => by
      rcases List.mem_or_eq_of_mem_set hp with hp | rfl
      · exact hbe p hp
      · exact ⟨hbk, below_ints_o _ (fun _ _ e => by cases e; exact hl)⟩
    rw [← hG1] at hold hnew
    generalize ixOf k s.S = ix at *
    generalize hes : ents Sg.enc l (b + 5) 0 s.S = es at *
    clear hG1
    repeat refine kn rfl ?_
    refine k_draw tok mixed (opS 0 0 false) rfl rfl (by kernel_rfl) (by kernel_rfl) ?_
    simp only [go_sem, simprocAttr, opS, List.contains_cons, Nat.reduceBEq, Bool.or_false, Bool.or_self, Nat.reduceEqDiff, hne, hb, hsig, hent, hold, hq', hq3, zeroA, hel, hgd, intsOf_len, intsOf_append]
    refine ⟨by decide, fun p hp => hkk p hp, .inr (below_map hbe), ⟨le_maxLen (by omega), by omega⟩, .inr (below_buf _ _ _ _), by omega, .inr (below_map hsetb), ?_⟩
    rw [← hset, hnew, ← hadd]
    refine k_weak ?_ hS1
    refine AWk_kept ?_ ?_ ?_ ?_ <;> repeat' first | exact trivial | refine q0 ?_ | exact qb | exact q1 | exact q2 | exact q3 | exact rfl | refine And.intro ?_ ?_ | exact q4 | exact q5 | exact q6 | exact q7 | exact Inside.ptr _ _ _ (.inr ⟨rfl, rfl⟩) | exact q8 | exact q9 | exact qd | exact Tm.ins _ | exact Tm.inss _ _ | exact Am.ins _ | exact Am.inss _ _ | refine ins_buf_str ?_ | refine Tm.ins_buf ?_ | refine Am.ins_buf ?_ | exact qf
    all_goals first | exact Inside.ptr _ _ _ (.inl hl) | (subst hk0; rfl)
end Go.Proofs.YtpoegdhgdgbmaaaGreatDoorR

/- The texts of values and ground atoms tell them apart. No program. -/
namespace Go.Proofs.YtpoegdhgdgbmaaaGreatDoorR
open Go.Abs

def isStop (b : UInt8) : Bool := b == 40 || b == 41 || b == 44

theorem tok_split : ∀ (p q r s : List UInt8), (∀ b ∈ p, isStop b = false) → (∀ b ∈ q, isStop b = false) → (∀ b r', r = b :: r' → isStop b = true) → (∀ b s', s = b :: s' → isStop b = true) → p ++ r = q ++ s → p = q ∧ r = s
  | [], [], r, s, _, _, _, _, h => ⟨rfl, h⟩
  | [], b :: q, r, s, _, hq, hr, _, h => by
    have := hr b (q ++ s) (by simpa using h)
    rw [hq b (by simp)] at this; cases this
  | a :: p, [], r, s, hp, _, _, hs, h => by
    have := hs a (p ++ r) (by simpa using h.symm)
    rw [hp a (by simp)] at this; cases this
  | a :: p, b :: q, r, s, hp, hq, hr, hs, h => by
    simp only [List.cons_append, List.cons.injEq] at h
    obtain ⟨h1, h2⟩ := tok_split p q r s (fun b hb => hp b (by simp [hb])) (fun b hb => hq b (by simp [hb])) hr hs h.2
    exact ⟨by rw [h.1, h1], h2⟩

theorem isIn_stop {b : UInt8} (h : isIn (b.toNat : Int) = true) : isStop b = false := by
  rcases b.toNat_lt with _
  simp only [isIn, isLow, isUp, isDig, Bool.or_eq_true, Bool.and_eq_true, decide_eq_true_eq, beq_iff_eq] at h
  simp only [isStop, Bool.or_eq_false_iff, beq_eq_false_iff_ne]
  refine ⟨⟨?_, ?_⟩, ?_⟩ <;> (rintro rfl; simp at h)

theorem und_take : ∀ (s : List UInt8), ∀ b ∈ s.take (und s), b = 95
  | [], b, h => by simp at h
  | c :: r, b, h => by
    simp only [und] at h
    split at h
    · rename_i hc
      simp only [List.take_succ_cons, List.mem_cons] at h
      rcases h with rfl | h
      · have : (b.toNat : Int) = 95 := by simpa using hc
        exact UInt8.toNat_inj.1 (by show b.toNat = 95; omega)
      · exact und_take r b h
    · simp at h

/-- A name of a symbol: its bytes, its first byte. -/
theorem sym_tok {s : List UInt8} (h : sym s = true) : (∀ b ∈ s, isStop b = false) ∧ ∃ b r, s = b :: r ∧ (b = 95 ∨ isLow (b.toNat : Int) = true) := by
  simp only [sym, Bool.and_eq_true, decide_eq_true_eq] at h
  obtain ⟨⟨⟨h1, h2⟩, h3⟩, _⟩ := h
  simp only [wd, Bool.and_eq_true, List.all_eq_true] at h3
  refine ⟨fun b hb => ?_, ?_⟩
  · rw [← List.take_append_drop (und s) s] at hb
    rcases List.mem_append.1 hb with hb | hb
    · rw [und_take s b hb]; rfl
    · exact isIn_stop (h3.1 b hb)
  · cases s with
    | nil => simp at h1
    | cons b r =>
      refine ⟨b, r, rfl, ?_⟩
      simp only [und] at h2
      split at h2
      · rename_i hc
        left
        have : (b.toNat : Int) = 95 := by simpa using hc
        exact UInt8.toNat_inj.1 (by show b.toNat = 95; omega)
      · right; simpa [bt] using h2

open Go.Lib in
theorem dec_bytes (u : Nat) : ∀ b ∈ decDigits u, 48 ≤ b.toNat ∧ b.toNat ≤ 57 := by
  induction u using Nat.strongRecOn with
  | _ u ih =>
    intro b hb
    rw [decDigits] at hb
    split at hb
    · rename_i h
      simp only [List.mem_singleton] at hb; subst hb
      rw [UInt8.toNat_ofNat']; omega
    · rcases List.mem_append.1 hb with hb | hb
      · exact ih (u / 10) (by omega) b hb
      · simp only [List.mem_singleton] at hb; subst hb
        rw [UInt8.toNat_ofNat']; omega
open Go.Lib in
theorem dec_ne (u : Nat) : decDigits u ≠ [] := by
  rw [decDigits]; split <;> simp
def valD (l : List UInt8) : Nat := l.foldl (fun n b => 10 * n + (b.toNat - 48)) 0
open Go.Lib in
theorem valD_dec (u : Nat) : valD (decDigits u) = u := by
  induction u using Nat.strongRecOn with
  | _ u ih =>
    rw [decDigits]
    split
    · simp only [valD, List.foldl_cons, List.foldl_nil, UInt8.toNat_ofNat']; omega
    · have := ih (u / 10) (by omega)
      simp only [valD, List.foldl_append, List.foldl_cons, List.foldl_nil] at this ⊢
      rw [this, UInt8.toNat_ofNat']; omega
open Go.Lib in
theorem dec_inj {u v : Nat} (h : decDigits u = decDigits v) : u = v := by rw [← valD_dec u, h, valD_dec]
open Go.Lib in
theorem dec_first (u : Nat) : ∃ b r, decDigits u = b :: r ∧ 48 ≤ b.toNat ∧ b.toNat ≤ 57 := by
  cases h : decDigits u with
  | nil => exact absurd h (dec_ne u)
  | cons b r => exact ⟨b, r, rfl, dec_bytes u b (by rw [h]; simp)⟩

/-- A numeral: its bytes, its first byte. -/
theorem itoa_tok (n : Int) : (∀ b ∈ Lib.itoa n, isStop b = false) ∧ ∃ b r, Lib.itoa n = b :: r ∧ (b = 45 ∨ (48 ≤ b.toNat ∧ b.toNat ≤ 57)) := by
  have hd : ∀ b : UInt8, 48 ≤ b.toNat ∧ b.toNat ≤ 57 → isStop b = false := fun b hb => by
    simp only [isStop, Bool.or_eq_false_iff, beq_eq_false_iff_ne]
    refine ⟨⟨?_, ?_⟩, ?_⟩ <;> (rintro rfl; simp at hb)
  unfold Lib.itoa
  split
  · refine ⟨fun b hb => ?_, 45, _, rfl, .inl rfl⟩
    rcases List.mem_cons.1 hb with rfl | hb
    · rfl
    · exact hd b (dec_bytes _ b hb)
  · refine ⟨fun b hb => hd b (dec_bytes _ b hb), ?_⟩
    obtain ⟨b, r, h1, h2⟩ := dec_first n.toNat
    exact ⟨b, r, h1, .inr h2⟩
theorem itoa_inj {m n : Int} (h : Lib.itoa m = Lib.itoa n) : m = n := by
  unfold Lib.itoa at h
  split at h <;> split at h
  · have := dec_inj (by simpa using h); omega
  · obtain ⟨b, r, h1, h2⟩ := dec_first n.toNat
    rw [h1] at h
    simp only [List.cons.injEq] at h
    rw [← h.1] at h2; simp at h2
  · obtain ⟨b, r, h1, h2⟩ := dec_first m.toNat
    rw [h1] at h
    simp only [List.cons.injEq] at h
    rw [h.1] at h2; simp at h2
  · have := dec_inj h; omega
theorem itoa_sym (n : Int) {s : List UInt8} (h : sym s = true) : Lib.itoa n ≠ s := fun e => by
  obtain ⟨_, b, r, h1, h2⟩ := itoa_tok n
  obtain ⟨_, c, q, h3, h4⟩ := sym_tok h
  rw [h1, h3] at e
  simp only [List.cons.injEq] at e
  obtain ⟨rfl, _⟩ := e
  simp only [isLow, Bool.and_eq_true, decide_eq_true_eq] at h4
  rcases h2 with rfl | h2
  · rcases h4 with h4 | h4
    · cases h4
    · simp at h4
  · rcases h4 with rfl | h4
    · simp at h2
    · omega

/-- The kinds of values. -/
theorem okv_kinds {t : Tm} (h : okv t = true) : (t.kind = 1 ∧ t.name = [] ∧ t.args = []) ∨ (t.kind = 2 ∧ t.num = 0 ∧ sym t.name = true ∧ t.args = []) ∨ (t.kind = 4 ∧ t.num = 0 ∧ sym t.name = true ∧ t.args ≠ []) := by
  simp only [okv, Bool.and_eq_true, plain, Bool.or_eq_true, beq_iff_eq] at h
  obtain ⟨hk, hs⟩ := h
  have nil : ∀ {l : List Tm}, l.length ≤ 0 → l = [] := fun h => by simpa using h
  rcases hk with (hk | hk) | hk
  · left
    simp only [shape, hk, if_true, nargs, Bool.and_eq_true, decide_eq_true_eq, beq_iff_eq] at hs
    exact ⟨hk, hs.1.2, nil (by omega)⟩
  · right; left
    simp only [shape, hk, Int.reduceEq, if_false, if_true, nargs, named, Bool.and_eq_true, decide_eq_true_eq, beq_iff_eq] at hs
    exact ⟨hk, hs.1.1.1, hs.1.2, nil (by omega)⟩
  · right; right
    simp only [shape, hk, Int.reduceEq, if_false, if_true, nargs, named, Bool.and_eq_true, decide_eq_true_eq, beq_iff_eq] at hs
    refine ⟨hk, hs.1.1.1, hs.1.2, fun e => ?_⟩
    rw [e] at hs; simp at hs

theorem joinTail_cons (x : List UInt8) (r : List (List UInt8)) : Lib.joinTail [44] (x :: r) = 44 :: Lib.join (x :: r) [44] := by
  rw [Lib.join_cons]; simp [Lib.joinTail]

/-- What a text ends before. -/
def Hd (r : List UInt8) : Prop := ∀ b r', r = b :: r' → b = 41 ∨ b = 44
theorem Hd.stop {r : List UInt8} (h : Hd r) : ∀ b r', r = b :: r' → isStop b = true := fun b r' e => by
  rcases h b r' e with rfl | rfl <;> rfl
theorem Hd.nil : Hd [] := fun _ _ e => by cases e
theorem Hd.close (r : List UInt8) : Hd (41 :: r) := fun _ _ e => by cases e; exact .inl rfl
theorem Hd.tail (l : List (List UInt8)) (r : List UInt8) : Hd (Lib.joinTail [44] l ++ 41 :: r) := by
  cases l with
  | nil => exact Hd.close r
  | cons x l => rw [joinTail_cons]; exact fun _ _ e => by cases e; exact .inr rfl

theorem join_split : ∀ (p q : List Tm) (r s : List UInt8), (∀ t ∈ p, ∀ u ∈ q, ∀ r s, Hd r → Hd s → txt t ++ r = txt u ++ s → t = u ∧ r = s) → p ≠ [] → q ≠ [] →
    Lib.join (p.map txt) [44] ++ 41 :: r = Lib.join (q.map txt) [44] ++ 41 :: s → p = q ∧ r = s
  | [], _, _, _, _, h, _, _ => absurd rfl h
  | _, [], _, _, _, _, h, _ => absurd rfl h
  | t :: p, u :: q, r, s, ih, _, _, h => by
    rw [List.map_cons, List.map_cons, Lib.join_cons, Lib.join_cons, List.append_assoc, List.append_assoc] at h
    obtain ⟨h1, h2⟩ := ih t (by simp) u (by simp) _ _ (Hd.tail _ _) (Hd.tail _ _) h
    subst h1
    cases p with
    | nil =>
      cases q with
      | nil => simp [Lib.joinTail] at h2; exact ⟨rfl, h2⟩
      | cons x q => rw [List.map_cons, joinTail_cons] at h2; simp [Lib.joinTail] at h2
    | cons y p =>
      cases q with
      | nil => rw [List.map_cons, joinTail_cons] at h2; simp [Lib.joinTail] at h2
      | cons x q =>
        rw [List.map_cons, List.map_cons, joinTail_cons, joinTail_cons, List.cons_append, List.cons_append, List.cons.injEq] at h2
        have := join_split (y :: p) (x :: q) r s (fun t ht u hu => ih t (by simp at ht ⊢; right; exact ht) u (by simp at hu ⊢; right; exact hu)) (by simp) (by simp) h2.2
        exact ⟨by rw [this.1], this.2⟩

theorem tm_ext {t u : Tm} (h1 : t.kind = u.kind) (h2 : t.num = u.num) (h3 : t.name = u.name) (h4 : t.args = u.args) : t = u := by
  cases t; cases u; simp only [Tm.kind, Tm.num, Tm.name, Tm.args] at *; subst h1 h2 h3 h4; rfl

theorem txt_int {t : Tm} (h : t.kind = 1) : txt t = Lib.itoa t.num := by rw [txt_eq, if_pos h]
theorem txt_sym {t : Tm} (h : t.kind = 2) : txt t = t.name := by rw [txt_eq, if_neg (by omega), if_neg (by omega)]
theorem txt_fun {t : Tm} (h : t.kind = 4) (r : List UInt8) : txt t ++ r = t.name ++ (40 :: (Lib.join (t.args.map txt) [44] ++ 41 :: r)) := by
  rw [txt_eq, if_neg (by omega), if_pos h]; simp

theorem txt_split (t : Tm) : ∀ (u : Tm) (r s : List UInt8), t.all okv = true → u.all okv = true → Hd r → Hd s → txt t ++ r = txt u ++ s → t = u ∧ r = s := by
  intro u r s ht hu hr hs h
  have h40 : ∀ x : List UInt8, ∀ b r', (40 :: x) = b :: r' → isStop b = true := fun x b r' e => by cases e; rfl
  rcases okv_kinds (all_here ht) with ⟨k1, k2, k3⟩ | ⟨k1, k2, k3, k4⟩ | ⟨k1, k2, k3, k4⟩ <;> rcases okv_kinds (all_here hu) with ⟨l1, l2, l3⟩ | ⟨l1, l2, l3, l4⟩ | ⟨l1, l2, l3, l4⟩
  · rw [txt_int k1, txt_int l1] at h
    obtain ⟨e1, e2⟩ := tok_split _ _ _ _ (itoa_tok _).1 (itoa_tok _).1 hr.stop hs.stop h
    exact ⟨tm_ext (by rw [k1, l1]) (itoa_inj e1) (by rw [k2, l2]) (by rw [k3, l3]), e2⟩
  · rw [txt_int k1, txt_sym l1] at h
    exact absurd (tok_split _ _ _ _ (itoa_tok _).1 (sym_tok l3).1 hr.stop hs.stop h).1 (itoa_sym _ l3)
  · rw [txt_int k1, txt_fun l1] at h
    exact absurd (tok_split _ _ _ _ (itoa_tok _).1 (sym_tok l3).1 hr.stop (h40 _) h).1 (itoa_sym _ l3)
  · rw [txt_sym k1, txt_int l1] at h
    exact absurd (tok_split _ _ _ _ (sym_tok k3).1 (itoa_tok _).1 hr.stop hs.stop h).1.symm (itoa_sym _ k3)
  · rw [txt_sym k1, txt_sym l1] at h
    obtain ⟨e1, e2⟩ := tok_split _ _ _ _ (sym_tok k3).1 (sym_tok l3).1 hr.stop hs.stop h
    exact ⟨tm_ext (by rw [k1, l1]) (by rw [k2, l2]) e1 (by rw [k4, l4]), e2⟩
  · rw [txt_sym k1, txt_fun l1] at h
    have := (tok_split _ _ _ _ (sym_tok k3).1 (sym_tok l3).1 hr.stop (h40 _) h).2
    rcases hr _ _ this with e | e <;> cases e
  · rw [txt_fun k1, txt_int l1] at h
    exact absurd (tok_split _ _ _ _ (sym_tok k3).1 (itoa_tok _).1 (h40 _) hs.stop h).1.symm (itoa_sym _ k3)
  · rw [txt_fun k1, txt_sym l1] at h
    have := (tok_split _ _ _ _ (sym_tok k3).1 (sym_tok l3).1 (h40 _) hs.stop h).2
    rcases hs _ _ this.symm with e | e <;> cases e
  · rw [txt_fun k1, txt_fun l1] at h
    obtain ⟨e1, e2⟩ := tok_split _ _ _ _ (sym_tok k3).1 (sym_tok l3).1 (h40 _) (h40 _) h
    obtain ⟨e3, e4⟩ := join_split t.args u.args r s (fun x hx y hy r s => txt_split x y r s (all_arg ht hx) (all_arg hu hy)) k4 l4 (List.cons.inj e2).2
    exact ⟨tm_ext (by rw [k1, l1]) (by rw [k2, l2]) e1 e3, e4⟩
termination_by SizeOf.sizeOf t
decreasing_by exact Tm.size_lt hx

theorem okv_all {t : Tm} (h : valueT t = true) : t.all okv = true := by
  simp only [valueT, validT, Bool.and_eq_true] at h
  have := all_and plain shape t
  rw [h.1, h.2.2, Bool.and_self] at this
  exact this

/-- The text of a value. -/
theorem txt_inj {t u : Tm} (ht : valueT t = true) (hu : valueT u = true) (h : txt t = txt u) : t = u :=
  (txt_split t u [] [] (okv_all ht) (okv_all hu) Hd.nil Hd.nil (by rw [h])).1

/-- The text of a ground atom. -/
theorem atxt_inj {a b : Am} (ha : validA a = true) (hb : validA b = true) (h : atxt a = atxt b) : a = b := by
  obtain ⟨a1, _, a3⟩ := validA_cases ha
  obtain ⟨b1, _, b3⟩ := validA_cases hb
  rw [List.all_eq_true] at a3 b3
  have e : a.pred ++ (40 :: (Lib.join (a.args.map txt) [44] ++ [41])) = b.pred ++ (40 :: (Lib.join (b.args.map txt) [44] ++ [41])) := by
    simpa [atxt] using h
  obtain ⟨e1, e2⟩ := tok_split _ _ _ _ (sym_tok a1).1 (sym_tok b1).1 (fun b r e => by cases e; rfl) (fun b r e => by cases e; rfl) e
  have e3 := (List.cons.inj e2).2
  have first : ∀ (t : Tm) (l : List Tm), valueT t = true → ∃ c r, Lib.join ((t :: l).map txt) [44] = c :: r ∧ isStop c = false := fun t l ht => by
    have ho := okv_all ht
    have key : ∀ x : List UInt8, (∀ b ∈ x, isStop b = false) → (∃ b r, x = b :: r) → ∀ y, ∃ c r, x ++ y = c :: r ∧ isStop c = false := fun x hx ⟨b, r, e⟩ y => ⟨b, r ++ y, by rw [e]; rfl, hx b (by rw [e]; simp)⟩
    rw [List.map_cons, Lib.join_cons]
    rcases okv_kinds (all_here ho) with ⟨k1, k2, k3⟩ | ⟨k1, k2, k3, k4⟩ | ⟨k1, k2, k3, k4⟩
    · rw [txt_int k1]; obtain ⟨h1, b, r, h2, _⟩ := itoa_tok t.num; exact key _ h1 ⟨b, r, h2⟩ _
    · rw [txt_sym k1]; obtain ⟨h1, b, r, h2, _⟩ := sym_tok k3; exact key _ h1 ⟨b, r, h2⟩ _
    · rw [txt_fun k1]; obtain ⟨h1, b, r, h2, _⟩ := sym_tok k3; exact key _ h1 ⟨b, r, h2⟩ _
  cases a with
  | mk ap al =>
  cases b with
  | mk bp bl =>
  simp only at e1 e3 a3 b3
  subst e1
  congr 1
  cases al with
  | nil =>
    cases bl with
    | nil => rfl
    | cons u m =>
      obtain ⟨c, r, h1, h2⟩ := first u m (b3 u (by simp))
      rw [h1, List.map_nil, Lib.join_nil] at e3
      simp only [List.nil_append, List.cons_append, List.cons.injEq] at e3
      rw [← e3.1] at h2; cases h2
  | cons t l =>
    cases bl with
    | nil =>
      obtain ⟨c, r, h1, h2⟩ := first t l (a3 t (by simp))
      rw [h1, List.map_nil, Lib.join_nil] at e3
      simp only [List.nil_append, List.cons_append, List.cons.injEq] at e3
      rw [e3.1] at h2; cases h2
    | cons u m => exact (join_split _ _ [] [] (fun x hx y hy r s => txt_split x y r s (okv_all (a3 x hx)) (okv_all (b3 y hy))) (by simp) (by simp) e3).1
end Go.Proofs.YtpoegdhgdgbmaaaGreatDoorR
