/- Regions that draw their order: if the edges order whatever meddles, the text's order tells all. No program, no condition. -/
import Derived.Test.YthgbkalgmicniaaGreatDoorM01
set_option linter.all false
namespace Go.Abs

def dstAt (ops : List Oper) (k : Nat) : Option Nat := (ops[k]?).bind (·.dst)

def va (ops : List Oper) (t0 : Nat → AV) (V : Nat → AV) (L : Nat → Bool) : Nat → Nat → AV
  | 0, t => t0 t
  | k + 1, t => if L k = true ∧ dstAt ops k = some t then V k else va ops t0 V L k t

def hv (n : Nat) (kd : Nat → Kd) (G : Nat → AHeap) (L : Nat → Bool) : Nat → AHeap
  | 0 => G 0
  | k + 1 => fun l s => if L k = true ∧ (kd k).touches n l s = true then G (k + 1) l s else hv n kd G L k l s

theorem hv_succ (n : Nat) (kd : Nat → Kd) (G : Nat → AHeap) (L : Nat → Bool) (k l s : Nat) :
    hv n kd G L (k + 1) l s = if L k = true ∧ (kd k).touches n l s = true then G (k + 1) l s else hv n kd G L k l s := rfl

section
variable {P : Program} {m nl : Nat} {A : Nat → Bool} {ops : List Oper} {kd : Nat → Kd} {T : Nat → List (Nat × AV)} {G : Nat → AHeap} {V : Nat → AV}

theorem va_low (hc : Course P m nl A ops kd T G V 0 ops) {L : Nat → Bool} {t : Nat} : ∀ {i : Nat}, i ≤ ops.length → (∀ k, k < i → dstAt ops k = some t → L k = true) →
    va ops (lkv (T 0)) V L i t = lkv (T i) t := by
  intro i
  induction i with
  | zero => intro _ _; rfl
  | succ i ih =>
    intro hi h
    have ho : ops[i]? = some ops[i] := List.getElem?_eq_getElem (by omega)
    rw [(hc.step i _ ho).1, lkv_putT, va, ih (by omega) (fun k hk => h k (by omega))]
    have hd : dstAt ops i = ops[i].dst := by simp [dstAt, ho]
    by_cases hx : ops[i].dst = some t
    · rw [if_pos ⟨h i (by omega) (hd.trans hx), hd.trans hx⟩, if_pos hx]
    · rw [if_neg (fun c => hx (hd ▸ c.2)), if_neg hx]

theorem va_high {L : Nat → Bool} {t i : Nat} {t0 : Nat → AV} : ∀ {n : Nat}, i ≤ n → (∀ k, i ≤ k → k < n → dstAt ops k = some t → L k = false) →
    va ops t0 V L n t = va ops t0 V L i t := by
  intro n
  induction n with
  | zero => intro hi _; have : i = 0 := by omega
            subst this; rfl
  | succ n ih =>
    intro hi h
    rcases Nat.lt_or_ge n i with hlt | hge
    · have : i = n + 1 := by omega
      subst this; rfl
    · rw [va, if_neg, ih hge (fun k h1 h2 => h k h1 (by omega))]
      rintro ⟨h1, h2⟩
      rw [h n hge (by omega) h2] at h1; cases h1

theorem va_congr {L L' : Nat → Bool} {t : Nat} {t0 : Nat → AV} : ∀ {n : Nat}, (∀ k, k < n → dstAt ops k = some t → L k = L' k) → va ops t0 V L n t = va ops t0 V L' n t := by
  intro n
  induction n with
  | zero => intro _; rfl
  | succ n ih =>
    intro h
    simp only [va]
    rw [ih (fun k hk => h k (by omega))]
    by_cases hd : dstAt ops n = some t
    · rw [h n (by omega) hd]
    · simp [hd]

theorem sem_off {o : Oper} {ρ : Operand → AV} {H H' : AHeap} {v : AV} {κ : Kd} (h : κ.sem P m nl A o ρ H v H') {l s : Nat} (ht : κ.touches nl l s = false) : H' l s = H l s := by
  cases κ with
  | p => exact congrFun (congrFun h.2 l) s
  | t => exact congrFun (congrFun h.2 l) s
  | w => cases ht
  | a d =>
    obtain ⟨b, _, _, rfl⟩ := h
    simp only [AHeap.upd]
    rw [if_neg]
    rintro ⟨rfl, rfl⟩
    simp [Kd.touches] at ht

theorem hv_low (hc : Course P m nl A ops kd T G V 0 ops) {L : Nat → Bool} {l s : Nat} : ∀ {i : Nat}, i ≤ ops.length → (∀ k, k < i → (kd k).touches nl l s = true → L k = true) → hv nl kd G L i l s = G i l s := by
  intro i
  induction i with
  | zero => intro _ _; rfl
  | succ i ih =>
    intro hi h
    have ho : ops[i]? = some ops[i] := List.getElem?_eq_getElem (by omega)
    have hs := (hc.step i _ ho).2
    rw [hv_succ, ih (by omega) (fun k hk => h k (by omega))]
    by_cases hw : (kd i).touches nl l s = true
    · rw [if_pos ⟨h i (by omega) hw, hw⟩]
    · rw [if_neg (fun c => hw c.2)]
      rcases hs with ⟨_, hs⟩ | ⟨_, _, hs⟩
      · rw [Nat.zero_add] at hs
        exact (sem_off hs (by simpa using hw)).symm
      · exact (congrFun (congrFun hs l) s).symm

theorem hv_high {L : Nat → Bool} {i l s : Nat} : ∀ {n : Nat}, i ≤ n → (∀ k, i ≤ k → k < n → (kd k).touches nl l s = true → L k = false) → hv nl kd G L n l s = hv nl kd G L i l s := by
  intro n
  induction n with
  | zero => intro hi _; have : i = 0 := by omega
            subst this; rfl
  | succ n ih =>
    intro hi h
    rcases Nat.lt_or_ge n i with hlt | hge
    · have : i = n + 1 := by omega
      subst this; rfl
    · rw [hv_succ, if_neg, ih hge (fun k h1 h2 => h k h1 (by omega))]
      rintro ⟨h1, h2⟩
      rw [h n hge (by omega) h2] at h1; cases h1

theorem hv_congr {L L' : Nat → Bool} {l s : Nat} : ∀ {n : Nat}, (∀ k, k < n → (kd k).touches nl l s = true → L k = L' k) → hv nl kd G L n l s = hv nl kd G L' n l s := by
  intro n
  induction n with
  | zero => intro _; rfl
  | succ n ih =>
    intro h
    simp only [hv_succ]
    rw [ih (fun k hk => h k (by omega))]
    by_cases hd : (kd n).touches nl l s = true
    · rw [h n (by omega) hd]
    · simp [hd]
end

def unl (l : Array Bool) : Nat := l.toList.countP (· == false)

theorem unl_set {l : Array Bool} {i : Nat} (h : i < l.size) (hf : l.getD i true = false) : unl (l.setIfInBounds i true) + 1 = unl l := by
  have hx : l.toList[i]'(by simpa using h) = false := by simpa [Array.getD_eq_getD_getElem?, h] using hf
  unfold unl
  rw [Array.toList_setIfInBounds]
  have key : ∀ (l : List Bool) (i : Nat) (h : i < l.length), l[i] = false → (l.set i true).countP (· == false) + 1 = l.countP (· == false) := by
    intro l
    induction l with
    | nil => intro i h; simp at h
    | cons a l ih =>
      intro i h hx
      cases i with
      | zero =>
        have ha : a = false := by simpa using hx
        subst ha
        rw [List.set_cons_zero, List.countP_cons, List.countP_cons]; rfl
      | succ i =>
        have := ih i (by simpa using h) (by simpa using hx)
        rw [List.set_cons_succ, List.countP_cons, List.countP_cons]
        omega
  exact key _ _ _ hx

theorem unl_zero {l : Array Bool} (h : unl l = 0) (i : Nat) (hi : i < l.size) : l.getD i true = true := by
  unfold unl at h
  rw [List.countP_eq_zero] at h
  have := h (l.toList[i]'(by simpa using hi)) (List.getElem_mem _)
  simpa [Array.getD_eq_getD_getElem?, hi] using this

theorem wpAny_course {P : Program} (ro : Option Nat) (ds : List Deferred) {m nl N : Nat} {ops : Array Oper} {Q : Exit → Act → World → Prop} {kd : Nat → Kd} {T : Nat → List (Nat × AV)} {G : Nat → AHeap} {V : Nat → AV}
    (hd : ∀ o ∈ ops.toList, ∀ x, o.dst = some x → x < N) (hc : Course P m nl (laysOf ops.toList.length kd) ops.toList kd T G V 0 ops.toList) (hO : Ordered ops.toList kd) (E0 : Env) (w0 : World)
    (hQ : ∀ E' w' a', a'.tmps.size = N → a'.defers = ds → (∀ t, VR E' (lkv (T ops.size) t) (a'.tmps.getD t undef)) → HRel m (G ops.size) E' w' → Ext m E0 w0 E' w' → Q .normal a' w') :
    ∀ (fuel : Nat) (listed : Array Bool) (E : Env) (w : World) (a : Act), unl listed ≤ fuel → listed.size = ops.size → Closed ops.toList (fun i => listed.getD i false = true) →
      a.tmps.size = N → a.defers = ds → (∀ t, VR E (va ops.toList (lkv (T 0)) V (listed.getD · false) ops.size t) (a.tmps.getD t undef)) →
      HRel m (hv nl kd G (listed.getD · false) ops.size) E w → Ext m E0 w0 E w → wpAnyIn (fr ro) 0 P .any ops Q fuel listed a w := by
  intro fuel
  induction fuel with
  | zero =>
    intro listed E w a hu hsz hcl h1 h2 h3 h4 h5
    have hall : ∀ i, i < ops.size → listed.getD i false = true := fun i hi => by
      have := unl_zero (Nat.le_zero.1 hu) i (by omega)
      simpa [Array.getD_eq_getD_getElem?, hsz, hi] using this
    refine ⟨?_, hQ E w a h1 h2 (fun t => ?_) ?_ h5⟩
    · simp only [Region.ready]
      rw [List.filter_eq_nil_iff]
      intro i hi
      have hi' : i < ops.size := by simpa using hi
      have := unl_zero (Nat.le_zero.1 hu) i (by omega)
      simp [this]
    · have := h3 t
      rwa [show ops.size = ops.toList.length by simp, va_low hc (Nat.le_refl _) (fun k hk _ => hall k (by simpa using hk)), ← show ops.size = ops.toList.length by simp] at this
    · rwa [show hv nl kd G (listed.getD · false) ops.size = G ops.size from funext fun l => funext fun s => by
        rw [show ops.size = ops.toList.length by simp]; exact hv_low hc (Nat.le_refl _) (fun k hk _ => hall k (by simpa using hk))] at h4
  | succ fuel ih =>
    intro listed E w a hu hsz hcl h1 h2 h3 h4 h5
    refine ⟨fun hnil => ?_, fun i hi => ?_⟩
    · -- nothing is ready: all are done
      have hall : ∀ i, i < ops.size → listed.getD i false = true := by
        intro i
        induction i using Nat.strongRecOn with
        | _ i hi =>
          intro hlt
          cases hli : listed.getD i false with
          | true => rfl
          | false =>
            exfalso
            simp only [Region.ready] at hnil
            rw [List.filter_eq_nil_iff] at hnil
            refine hnil i (by simpa using hlt) ?_
            have ho : ops[i]? = some ops[i] := Array.getElem?_eq_getElem hlt
            have hlt' : listed.getD i true = false := by simpa [Array.getD_eq_getD_getElem?, hsz, hlt] using hli
            simp only [hlt', Bool.not_false, Bool.true_and, ho, Option.map_some, Option.getD_some]
            rw [← Array.all_toList, List.all_eq_true]
            intro e he
            cases hb : Region.binds .any e with
            | false => rfl
            | true =>
              have hlt2 := hO.back i ops[i] (by rw [Array.getElem?_toList]; exact ho) e he hb
              simp [hi e.on hlt2 (by omega)]
      refine hQ E w a h1 h2 (fun t => ?_) ?_ h5
      · have := h3 t
        rwa [show ops.size = ops.toList.length by simp, va_low hc (Nat.le_refl _) (fun k hk _ => hall k (by simpa using hk)), ← show ops.size = ops.toList.length by simp] at this
      · rwa [show hv nl kd G (listed.getD · false) ops.size = G ops.size from funext fun l => funext fun s => by
          rw [show ops.size = ops.toList.length by simp]; exact hv_low hc (Nat.le_refl _) (fun k hk _ => hall k (by simpa using hk))] at h4
    · -- one that is ready
      simp only [Region.ready, List.mem_filter, List.mem_range, Bool.and_eq_true, Bool.not_eq_true'] at hi
      obtain ⟨hlt, hun, haft⟩ := hi
      have ho : ops[i]? = some ops[i] := Array.getElem?_eq_getElem hlt
      generalize hoi : ops[i] = o at ho
      have hol : ops.toList[i]? = some o := by rw [Array.getElem?_toList]; exact ho
      have hmem : o ∈ ops.toList := List.mem_of_getElem? hol
      simp only [ho, Option.map_some, Option.getD_some] at haft
      rw [← Array.all_toList, List.all_eq_true] at haft
      have hLi : listed.getD i false = false := by
        have := hun
        simpa [Array.getD_eq_getD_getElem?, hsz, hlt] using this
      -- downward closure with i
      have hcl' : Closed ops.toList (fun j => listed.getD j false = true ∨ j = i) := by
        intro j o' hj hjD e he hb
        rcases hjD with hjD | rfl
        · exact .inl (hcl j o' hj hjD e he hb)
        · rw [hol] at hj; cases hj
          have := haft e he
          simp only [hb, Bool.not_true, Bool.false_or] at this
          exact .inl this
      have hbefore : ∀ j x, j < i → ops.toList[j]? = some x → clash ops.toList kd j i x o = true → listed.getD j false = true := by
        intro j x hji hx hcl2
        rcases hO.cmp j i x o hji hx hol hcl2 _ hcl' (.inr rfl) with h | h
        · exact h
        · omega
      have hafter : ∀ j y, i < j → ops.toList[j]? = some y → clash ops.toList kd i j o y = true → listed.getD j false = false := by
        intro j y hij hy hcl2
        cases hlj : listed.getD j false with
        | false => rfl
        | true =>
          have := hO.cmp i j o y hij hol hy hcl2 _ hcl hlj
          rw [hLi] at this; cases this
      have hlen : ops.toList.length = ops.size := by simp
      -- what it looks at
      have hlook : ∀ t, t ∈ looks ops.toList o → va ops.toList (lkv (T 0)) V (listed.getD · false) ops.size t = lkv (T i) t := by
        intro t ht
        rw [va_high (i := i) (by omega), va_low hc (by omega)]
        · intro k hk hdk
          obtain ⟨x, hx, hxd⟩ := Option.bind_eq_some_iff.1 hdk
          refine hbefore k x hk hx ?_
          simp [clash, hxd, ht]
        · intro k hk hkn hdk
          obtain ⟨x, hx, hxd⟩ := Option.bind_eq_some_iff.1 hdk
          rcases Nat.lt_or_eq_of_le hk with hk | rfl
          · refine hafter k x hk hx ?_
            simp [clash, hxd, ht]
          · exact hLi
      -- the heap, slot by slot
      have hslot : ∀ l s, (∀ k x, ops.toList[k]? = some x → k ≠ i → (kd k).touches nl l s = true → clash ops.toList kd k i x o = true ∧ clash ops.toList kd i k o x = true) → hv nl kd G (listed.getD · false) ops.size l s = G i l s := by
        intro l s hcl3
        rw [hv_high (i := i) (by omega), hv_low hc (by omega)]
        · intro k hk hkw
          have hx : ops.toList[k]? = some ops.toList[k] := List.getElem?_eq_getElem (by omega)
          exact hbefore k _ hk hx (hcl3 k _ hx (by omega) hkw).1
        · intro k hk hkn hkw
          rcases Nat.lt_or_eq_of_le hk with hk | rfl
          · have hx : ops.toList[k]? = some ops.toList[k] := List.getElem?_eq_getElem (by omega)
            exact hafter k _ hk hx (hcl3 k _ hx (by omega) hkw).2
          · exact hLi
      have hoff : kd i ≠ .p → AgreeOff nl (laysOf ops.toList.length kd) (hv nl kd G (listed.getD · false) ops.size) (G i) := by
        intro hp l s hA
        refine hslot l s (fun k x hx hki hkt => ?_)
        have hkw : kd k = .w := by
          cases hkk : kd k with
          | p => rw [hkk] at hkt; cases hkt
          | t => rw [hkk] at hkt; cases hkt
          | w => rfl
          | a d =>
            rw [hkk] at hkt
            simp only [Kd.touches, Bool.and_eq_true, beq_iff_eq] at hkt
            have hlt2 : k < ops.toList.length := by
              rcases Nat.lt_or_ge k ops.toList.length with h | h
              · exact h
              · rw [List.getElem?_eq_none h] at hx; cases hx
            have := hA hkt.1
            simp only [laysOf, List.any_eq_false, List.mem_range, beq_iff_eq] at this
            exact absurd (by rw [hkk, hkt.2]) (this k hlt2)
        exact ⟨clash_heap (by rw [hkw]; exact (Kd.clash_w hp).1), clash_heap (by rw [hkw]; exact (Kd.clash_w hp).2)⟩
      have hall2 : kd i = .w → hv nl kd G (listed.getD · false) ops.size = G i := by
        intro hw
        funext l s
        refine hslot l s (fun k x hx hki hkt => ?_)
        exact ⟨clash_heap (by rw [hw]; exact (Kd.clash_w (Kd.ne_p hkt)).2), clash_heap (by rw [hw]; exact (Kd.clash_w (Kd.ne_p hkt)).1)⟩
      have hown : ∀ d, kd i = .a d → hv nl kd G (listed.getD · false) ops.size nl d = G i nl d := by
        intro d hd'
        refine hslot nl d (fun k x hx hki hkt => ?_)
        have h0 : (kd i).touches nl nl d = true := by rw [hd']; simp [Kd.touches]
        exact ⟨clash_heap (Kd.clash_touch hkt h0), clash_heap (Kd.clash_touch h0 hkt)⟩
      have hset : ∀ k, (listed.setIfInBounds i true).getD k false = if k = i then true else listed.getD k false := by
        intro k
        rw [Array.getD_eq_getD_getElem?, Array.getD_eq_getD_getElem?]
        by_cases hk : i = k
        · subst hk; simp [hsz, hlt]
        · rw [Array.getElem?_setIfInBounds_ne hk, if_neg (fun e => hk e.symm)]
      have hcl2 : Closed ops.toList (fun j => (listed.setIfInBounds i true).getD j false = true) := by
        intro j o' hj hjD e he hb
        rw [hset] at hjD ⊢
        have := hcl' j o' hj (by split at hjD; · exact .inr ‹_›
                                 · exact .inl hjD) e he hb
        split
        · rfl
        · rcases this with h | h
          · exact h
          · rename_i hne; exact absurd h hne
      have hu2 : unl (listed.setIfInBounds i true) ≤ fuel := by
        have := unl_set (l := listed) (i := i) (by omega) hun
        omega
      obtain ⟨hT, hstep⟩ := hc.step i o hol
      rw [Nat.zero_add] at hstep
      -- the temporaries behind it
      have htm : ∀ t, va ops.toList (lkv (T 0)) V ((listed.setIfInBounds i true).getD · false) ops.size t =
          if o.dst = some t then V i else va ops.toList (lkv (T 0)) V (listed.getD · false) ops.size t := by
        intro t
        have hdi : dstAt ops.toList i = o.dst := by simp [dstAt, hol]
        by_cases hdt : o.dst = some t
        · rw [if_pos hdt, va_high (i := i + 1) (by omega)]
          · rw [va, if_pos ⟨by rw [hset, if_pos rfl], hdi.trans hdt⟩]
          · intro k hk hkn hdk
            obtain ⟨x, hx, hxd⟩ := Option.bind_eq_some_iff.1 hdk
            rw [hset, if_neg (by omega)]
            refine hafter k x (by omega) hx ?_
            simp [clash, hdt, hxd]
        · rw [if_neg hdt]
          refine va_congr (fun k _ hdk => ?_)
          rw [hset, if_neg]
          rintro rfl
          exact hdt (hdi ▸ hdk)
      -- the heap behind it
      have hhp : hv nl kd G ((listed.setIfInBounds i true).getD · false) ops.size = fun l s => if (kd i).touches nl l s = true then G (i + 1) l s else hv nl kd G (listed.getD · false) ops.size l s := by
        funext l s
        by_cases hw : (kd i).touches nl l s = true
        · rw [if_pos hw, hv_high (i := i + 1) (by omega)]
          · rw [hv_succ, if_pos ⟨by rw [hset, if_pos rfl], hw⟩]
          · intro k hk hkn hkw
            have hx : ops.toList[k]? = some ops.toList[k] := List.getElem?_eq_getElem (by omega)
            rw [hset, if_neg (by omega)]
            exact hafter k _ (by omega) hx (clash_heap (Kd.clash_touch hw hkw))
        · rw [if_neg hw]
          refine hv_congr (fun k _ hkw => ?_)
          rw [hset, if_neg]
          rintro rfl
          exact hw hkw
      simp only [wpOpIn, ho]
      have hguard : ∀ j w d, o.guard = some (j, w) → (ops[j]?).bind (·.dst) = some d → VR E (lkv (T i) d) (a.tmps.getD d undef) := by
        intro j w' d hg hdj
        have hin : d ∈ looks ops.toList o := by
          simp only [looks, hg, Array.getElem?_toList, hdj, List.mem_append]
          exact .inr (by simp)
        rw [← hlook d hin]; exact h3 d
      rcases hstep with ⟨hg, hs⟩ | ⟨hg, hV, hGi⟩
      · rw [wanted_of_guardB hguard hg]
        simp only [if_true]
        have hops : ∀ x ∈ o.op.operands, VR E (evT (T i) x) (a.eval x) := by
          intro x hx
          cases x with
          | tmp t =>
            have hin : t ∈ looks ops.toList o := by
              simp only [looks, List.mem_append, List.mem_filterMap]
              exact .inl ⟨.tmp t, by simpa using hx, rfl⟩
            simp only [evT]
            rw [← hlook t hin]; exact h3 t
          | const v => exact VR_ofValue E v
          | global g => exact .dead _
          | func f => exact VR.fn _ [] [] rfl (fun i h => absurd h (Nat.not_lt_zero _))
        have fin : ∀ (H' : AHeap), hv nl kd G ((listed.setIfInBounds i true).getD · false) ops.size = H' → ∀ E' w' cv, VR E' (V i) cv → HRel m H' E' w' → Ext m E w E' w' →
            wpAnyIn (fr ro) 0 P .any ops Q fuel (listed.setIfInBounds i true) (a.put o.dst cv) w' := by
          intro H' hH E' w' cv hcv hh hx
          refine ih (listed.setIfInBounds i true) E' w' (a.put o.dst cv) hu2 (by simp [hsz]) hcl2 (by rw [size_put]; exact h1) (by rw [defers_put]; exact h2) ?_ (hH ▸ hh) (h5.trans hx)
          intro t
          rw [htm, getD_put h1 (hd o hmem)]
          split
          · exact hcv
          · exact (h3 t).mono h4.norm hx.le
        cases hk : kd i with
        | p =>
          rw [hk] at hs
          refine hs.1 _ E w a Q _ h4 hops (fin _ ?_) ro
          rw [hhp, hk]; funext l s; simp [Kd.touches]
        | t =>
          rw [hk] at hs
          refine hs.1 _ (hoff (by rw [hk]; simp)) E w a Q _ h4 hops (fin _ ?_) ro
          rw [hhp, hk]; funext l s; simp [Kd.touches]
        | w =>
          rw [hk] at hs
          rw [hall2 hk] at h4
          refine hs E w a Q _ h4 hops (fin _ ?_) ro
          rw [hhp, hk]; funext l s; simp [Kd.touches]
        | a d =>
          rw [hk] at hs
          obtain ⟨b, hb1, hb2, hb3⟩ := hs
          refine hb1 _ (by rw [hown d hk]; exact hb2) E w a Q _ h4 hops (fin _ ?_) ro
          rw [hhp, hk, hb3]
          funext l s
          simp only [Kd.touches, AHeap.upd, Bool.and_eq_true, beq_iff_eq]
          by_cases hc' : l = nl ∧ s = d
          · simp [hc']
          · simp [hc']
      · rw [wanted_of_guardB hguard hg]
        simp only [Bool.false_eq_true, if_false]
        refine ⟨fun _ _ => trivial, ?_⟩
        refine ih (listed.setIfInBounds i true) E w (a.put o.dst undef) hu2 (by simp [hsz]) hcl2 (by rw [size_put]; exact h1) (by rw [defers_put]; exact h2) ?_ ?_ h5
        · intro t
          rw [htm, getD_put h1 (hd o hmem)]
          split
          · rw [hV]; exact VR_undef E
          · exact h3 t
        · have : hv nl kd G ((listed.setIfInBounds i true).getD · false) ops.size = hv nl kd G (listed.getD · false) ops.size := by
            rw [hhp]
            funext l s
            split
            · rename_i hw
              rw [hGi]
              cases hk : kd i with
              | p => rw [hk] at hw; cases hw
              | t => rw [hk] at hw; cases hw
              | w => rw [hall2 hk]
              | a d =>
                rw [hk] at hw
                simp only [Kd.touches, Bool.and_eq_true, beq_iff_eq] at hw
                obtain ⟨rfl, rfl⟩ := hw
                exact (hown _ hk).symm
            · rfl
          rw [this]; exact h4

theorem Env.le_of_drew (n : Nat) (E : Env) (w : World) : Ext n E w E { w with drawn := w.drawn + 1 } :=
  ⟨.refl n E, rfl, rfl, rfl, fun _ => Nat.le_succ _, Nat.le_refl _, fun _ _ _ => rfl, fun _ _ h => h⟩

theorem HRel.drew {n : Nat} {H : AHeap} {E : Env} {w : World} (h : HRel n H E w) : HRel n H E { w with drawn := w.drawn + 1 } :=
  { norm := h.norm, F := h.F, blk := fun l k b hl hb => (h.blk l k b hl hb).keep rfl rfl (fun _ => rfl) (fun _ _ _ h => h) (fun _ _ => rfl) (fun _ _ _ h => h) (fun _ _ _ h => h), dom := h.dom, nobuf := h.nobuf, inj := h.inj, injg := h.injg, mg := h.mg, mF := h.mF, lt := h.lt }

end Go.Abs

/- What the rules ask of the program's table of types: a small table of one's own, held against it. -/
namespace Go.Abs
inductive TD where
 | int (k:IntKind)
 | bool
 | str
 | ptr
 | slice (e:TypeId)
 | array (n:Nat) (e:TypeId)
 | map (k e:TypeId)
 | struct (fs:List (Nat × TypeId))
 | func
 | tuple
 | iface
 deriving DecidableEq
def TD.fits:TD → TypeDesc → Bool
 | .int k,.int k'=>k == k'
 | .bool,.bool=>true
 | .str,.string=>true
 | .ptr,.pointer _=>true
 | .slice e,.slice e'=>e == e'
 | .array n e,.array n' e'=>n == n' && e == e'
 | .map k e,.map k' e'=>k == k' && e == e'
 | .struct fs, .struct gs => gs.toList.map (fun g => (g.offset, g.type)) == fs && gs.toList.all (fun g => g.name != "_")
 | .func,.func ..=>true
 | .tuple,.tuple _=>true
 | .iface,.interface _=>true
 | _,_=>false
structure TRow where
 td:TD
 size:Nat
 bytes:Nat
 zero:List AV
def TRow.isAgg (r:TRow):Bool:=match r.td with | .struct _ | .array _ _=>true | _=>false
def fitsConst:AV → Value → Bool
 | .int k n,.int k' n'=>k == k' && n == n'
 | .bool b,.bool b'=>b == b'
 | .str l,.string s=>l == s.data.toList
 | .nilp,.pointer none=>true
 | .sl _ [] .full,.slice none 0 0=>true
 | .nilf,.nilFunc=>true
 | .nilm,.map none=>true
 | .nili,.nilIface=>true
 | _,_=>false
theorem fitsConst_VR {E:Env} {a:AV} {v:Value} (h:fitsConst a v = true):VR E a v:=by
 unfold fitsConst at h
 split at h <;> try (cases h; done)
 ·simp only [Bool.and_eq_true,beq_iff_eq] at h; obtain ⟨rfl,rfl⟩:=h; exact .int _ _
 ·simp only [beq_iff_eq] at h; subst h; exact .bool _
 ·rename_i l s
  simp only [beq_iff_eq] at h; subst h
  have:s = ⟨s.data.toList.toArray⟩:=by simp
  rw [this]; exact .str _
 ·exact .nilp
 ·exact .slnil _ _ none rfl (fun _=>rfl)
 ·exact .nilf
 ·exact .nilm
 ·exact .nili
theorem fitsConst_one {a:AV} {v:Value} (h:fitsConst a v = true):a.one = true:=by
 unfold fitsConst at h
 split at h <;> first | rfl | (cases h; done)
def fitsAll:List AV → List Value → Bool
 | [],[]=>true
 | a :: as,v :: vs=>fitsConst a v && fitsAll as vs
 | _,_=>false
theorem fitsAll_VRs {E:Env}:∀ {as:List AV} {vs:List Value},fitsAll as vs = true → VRs E as vs
 | [],[],_=>VRs.nil E
 | a :: as,v :: vs,h=>by
  simp only [fitsAll,Bool.and_eq_true] at h
  exact VRs.cons (fitsConst_VR h.1) (fitsAll_VRs h.2)
 | [],_ :: _,h=>by simp [fitsAll] at h
 | _ :: _,[],h=>by simp [fitsAll] at h
theorem fitsAll_one:∀ {as:List AV} {vs:List Value},fitsAll as vs = true → ∀ a ∈ as,a.one = true
 | [],_,_=>by simp
 | a :: as,v :: vs,h=>by
  simp only [fitsAll,Bool.and_eq_true] at h
  intro x hx
  rcases List.mem_cons.1 hx with rfl | hx
  ·exact fitsConst_one h.1
  ·exact fitsAll_one h.2 x hx
 | _ :: _,[],h=>by simp [fitsAll] at h
def isAggV:Value → Bool
 | .agg _=>true
 | _=>false
def rowOK (P:Program) (t:TypeId) (r:TRow):Bool :=
 match P.underlying t,P.info? t with
 | some d,some i=>r.td.fits d && i.size == r.size && i.bytes == r.bytes && (match i.zero with | some z=>fitsAll r.zero z.cells.toList && z.cells.size == r.size && (r.isAgg == isAggV z) | none=>false) && (match r.td with | .struct _=>!P.stoodInHeld t && !P.eqGuardType P.depth t | _=>true)
 | _,_=>false
abbrev TT:=TypeId → Option TRow
def TOK (P:Program) (T:TT):Prop:=∀ t r,T t = some r → rowOK P t r = true
structure RowFacts (P:Program) (t:TypeId) (r:TRow) (d:TypeDesc) (i:TypeInfo) (z:Value):Prop where
 und:P.underlying t = some d
 info:P.info? t = some i
 fits:r.td.fits d = true
 size:i.size = r.size
 bytes:i.bytes = r.bytes
 zero:i.zero = some z
 zfits:fitsAll r.zero z.cells.toList = true
 zsize:z.cells.size = r.size
 zagg:r.isAgg = isAggV z
 stood:∀ fs,r.td = .struct fs → P.stoodInHeld t = false ∧ P.eqGuardType P.depth t = false
theorem rowOK_facts {P:Program} {t:TypeId} {r:TRow} (h:rowOK P t r = true):∃ d i z,RowFacts P t r d i z:=by
 unfold rowOK at h
 split at h
 ·rename_i d i hd hi
  split at h
  ·rename_i z hz
   simp only [Bool.and_eq_true,beq_iff_eq] at h
   obtain ⟨⟨h,h2⟩,h3⟩:=h
   refine ⟨d,i,z,hd,hi,h.1.1,h.1.2,h.2,hz,h2.1.1,h2.1.2,h2.2,fun fs hfs=>?_⟩
   rw [hfs] at h3
   simpa using h3
  ·simp at h
 ·simp at h
theorem tok_of_table {P:Program} {l:List (TypeId × TRow)} (h:l.all (fun x=>rowOK P x.1 x.2) = true):TOK P (fun t=>(l.find? (·.1 == t)).map (·.2)):=by
 intro t r hr
 simp only [Option.map_eq_some_iff] at hr
 obtain ⟨x,hx,rfl⟩:=hr
 have h1:=List.find?_some hx
 have h2:=List.mem_of_find?_eq_some hx
 have h3:=(List.all_eq_true.1 h) x h2
 have:x.1 = t:=by simpa using h1
 exact this ▸ h3
def isAggD:TypeDesc → Bool
 | .struct _ | .array _ _=>true
 | _=>false
theorem TD.isAgg_eq {r:TRow} {d:TypeDesc} (h:r.td.fits d = true):isAggD d = r.isAgg:=by
 obtain ⟨td,s,b,z⟩:=r
 cases td <;> cases d <;> first | rfl | (simp [TD.fits] at h; done)
section runs
variable {P:Program}
theorem run_isAgg' {t:TypeId} {r:TRow} {d:TypeDesc} {i:TypeInfo} {z:Value} (h:RowFacts P t r d i z) (w:World):(isAgg t).run P w = .ok r.isAgg w:=by
 rw [← TD.isAgg_eq h.fits]
 unfold isAgg
 rw [Sem.run_bind,run_underlying h.und,Result.andThen_ok]
 cases d <;> rfl
theorem run_sizeOf' {t:TypeId} {r:TRow} {d:TypeDesc} {i:TypeInfo} {z:Value} (h:RowFacts P t r d i z) (w:World):(sizeOf t).run P w = .ok r.size w:=by
 simp [sizeOf,typeInfo,h.info,h.size]
theorem run_zeroValue' {t:TypeId} {r:TRow} {d:TypeDesc} {i:TypeInfo} {z:Value} (h:RowFacts P t r d i z) (w:World):(zeroValue t).run P w = .ok z w:=by
 simp [zeroValue,typeInfo,h.info,h.zero]
end runs
end Go.Abs

/- Operations that have nothing to do with the abstract heap. No program, no condition. -/
namespace Go.Abs
theorem HRel.grow {m:Nat} {H:AHeap} {E:Env} {w w':World} {F':Nat → Nat → Option Value} (h:HRel m H E w) (os:w'.os = w.os) (tape:w'.tape = w.tape) (output:w'.output = w.output)
  (drawn:E.qd = true → w.drawn ≤ w'.drawn) (size:w.heap.size ≤ w'.heap.size) (hb:∀ b,b < w.heap.size → w'.heap[b]? = w.heap[b]?) (hF:∀ b o v,E.F b o = some v → F' b o = some v)
  (hF':∀ b o v,F' b o = some v → w'.cell? ⟨b,o,none⟩ = some v) (hnew:∀ b o,b < w.heap.size → F' b o = E.F b o) :
  HRel m H { E with F:=F' } w' ∧ Ext m E w { E with F:=F' } w':=by
 have hle:E.le m { E with F:=F' }:=⟨hF,fun _ _ _ _ h=>h,fun _ _ _ _ _ h=>h,rfl⟩
 have hlt:∀ l k b,E.m l k = some b → b < w.heap.size:=fun l k b hm=>h.lt b (.inl ⟨l,k,hm⟩)
 have hgt:∀ l k b,E.g l k = some b → b < w.heap.size:=fun l k b hm=>h.lt b (.inr ⟨l,k,hm⟩)
 refine ⟨{ norm:=⟨h.norm.m,h.norm.g,h.norm.hist⟩,F:=hF',blk:=?_,dom:=h.dom,nobuf:=h.nobuf,inj:=h.inj,injg:=h.injg,mg:=h.mg,mF:=?_,lt:=?_ },⟨hle,os,tape,output,drawn,size,fun b hb' _=>hb b hb',fun b _ ho=>ho⟩⟩
 ·intro l k b hl hH
  exact (h.blk l k b hl hH).keep rfl rfl (fun _=>rfl) (fun _ _ _ h=>h) (fun r hr=>hb r (hr.elim (hlt _ _ _) (hgt _ _ _))) (fun g o hg hf=>(hnew g o (hgt _ _ _ hg)).trans hf) (fun a _ v hv=>hv.mono h.norm hle)
 ·intro l k b o hm
  exact (hnew b o (hlt l k b hm)).trans (h.mF l k b o hm)
 ·intro b ho
  exact Nat.lt_of_lt_of_le (h.lt b ho) size
theorem HRel.F_lt {m:Nat} {H:AHeap} {E:Env} {w:World} (h:HRel m H E w) {b o:Nat} {v:Value} (hf:E.F b o = some v):b < w.heap.size :=
 World.block_lt_of_cell? w _ (h.F b o v hf)
def Env.addRow (E:Env) (b:Nat) (vs:Array Value):Env:={ E with F:=fun b' o=>if b' = b then vs[o]? else E.F b' o }
theorem HRel.newRow {m:Nat} {H:AHeap} {E:Env} {w w1:World} (h:HRel m H E w) (vs:Array Value) (e:TypeId) (os:w1.os = w.os) (tape:w1.tape = w.tape) (output:w1.output = w.output)
  (drawn:E.qd = true → w.drawn ≤ w1.drawn) (hh:w1.heap = w.heap) :
  HRel m H (E.addRow w.heap.size vs) (w1.alloc (.cells vs e)) ∧ Ext m E w (E.addRow w.heap.size vs) (w1.alloc (.cells vs e)):=by
 refine h.grow os tape output drawn (by simp [World.alloc,hh]) ?_ ?_ ?_ ?_
 ·intro b hb
  simp only [World.alloc,hh,Array.getElem?_push]
  rw [if_neg (by omega)]
 ·intro b o v hf
  have:=h.F_lt hf
  rw [if_neg (by omega)]; exact hf
 ·intro b o v hf
  split at hf
  ·rename_i hbe; subst hbe
   simp only [World.cell?,World.alloc,hh,Array.getElem?_push]
   simpa using hf
  ·have:=h.F_lt hf
   have hc:=h.F b o v hf
   simp only [World.cell?,World.alloc,hh,Array.getElem?_push] at hc ⊢
   rw [if_neg (by omega)]; exact hc
 ·intro b o hb
  rw [if_neg (by omega)]
def OpRun (P:Program) (m:Nat) (o:Oper) (ρ:Operand → AV) (H:AHeap) (v:AV) (H':AHeap):Prop :=
 ∀ E w (a:Act),HRel m H E w → (∀ x ∈ o.op.operands,VR E (ρ x) (a.eval x)) →
  ∃ cv E' w',((execOp a.eval o).run P w = .ok (.value cv) w' ∨ ((execOp a.eval o).run P w = .ok .skip w' ∧ cv = undef)) ∧ VR E' v cv ∧ HRel m H' E' w' ∧ Ext m E w E' w'
theorem semAt_of {ro:Option Nat} {ρ:Operand → Value} {o:Oper} (h:∀ c,o.op ≠ .defer c):o.semAt ro ρ = execOp ρ o:=by
 cases ro with
 | none=>rfl
 | some l=>unfold Oper.semAt; split <;> first | rfl | (rename_i h'; exact absurd h' (h _))
theorem not_defer {P:Program} {o:Oper} {ρ:Operand → Value} {w w':World} {x:Next} (h:(execOp ρ o).run P w = .ok x w') (hx:∀ d,x ≠ .defer d):∀ c,o.op ≠ .defer c:=fun c hc=>by
 simp only [execOp,hc,Sem.run_bind] at h
 cases hr:(resolve ρ c o.type).run P w with
 | ok d w2=>rw [hr] at h; simp only [Result.andThen,Sem.run_pure,Result.ok.injEq] at h; exact hx _ h.1.symm
 | halt u w2=>rw [hr] at h; cases h
theorem wpIn_of_run {P:Program} {ro:Option Nat} {o:Oper} {a:Act} {w w':World} {K:Act → World → Prop} {Q:Exit → Act → World → Prop} {x:Next} (hrun:(execOp a.eval o).run P w = .ok x w') (hx:∀ d,x ≠ .defer d)
  (h:o.uponIn (fr ro) 0 P a K Q (.ok x w')):o.wpIn (fr ro) 0 P a w K Q :=
 ⟨fun _ _=>trivial,by rw [semAt_of (not_defer hrun hx),hrun]; exact h⟩
theorem OpRun.sem {P:Program} {m:Nat} {o:Oper} {ρ:Operand → AV} {H:AHeap} {v:AV} {H':AHeap} (h:OpRun P m o ρ H v H'):OpSem P m o ρ H v H':=by
 intro E w a Q K hr ho hk ro
 obtain ⟨cv,E',w',hrun,hv,hh,hx⟩:=h E w a hr ho
 rcases hrun with hrun | ⟨hrun,rfl⟩
 ·exact wpIn_of_run hrun (fun _ e=>by cases e) (hk E' w' cv hv hh hx)
 ·exact wpIn_of_run hrun (fun _ e=>by cases e) (hk E' w' undef hv hh hx)
def PRun (P:Program) (o:Oper) (ρ:Operand → AV) (v:AV):Prop :=
 ∀ E (a:Act),(∀ x ∈ o.op.operands,VR E (ρ x) (a.eval x)) → ∃ cv,(∀ w,(execOp a.eval o).run P w = .ok (.value cv) w) ∧ VR E v cv
theorem PRun.run {P:Program} {o:Oper} {ρ:Operand → AV} {v:AV} (h:PRun P o ρ v) (m:Nat) (H:AHeap):OpRun P m o ρ H v H:=by
 intro E w a hr ho
 obtain ⟨cv,h1,h2⟩:=h E a ho
 exact ⟨cv,E,w,.inl (h1 w),h2,hr,.refl m E w⟩
def tyFix (T:TT) (ty:TypeId) (v:AV):AV :=
 match v with
 | .sl k [] o=>match T ty with
  | some r=>match r.td with
   | .slice e=>match T e with
    | some q=>.sl q.size [] o
    | none=>.sl k [] o
   | _=>.sl k [] o
  | none=>.sl k [] o
 | v=>v
theorem VR_nil_any {E:Env} {k k':Nat} {o:Own} {v:Value} (h:VR E (.sl k [] o) v):VR E (.sl k' [] o) v:=by
 cases h with
 | slnil _ _ a ho ha=>exact .slnil k' o a ho ha
 | sl _ _ _ b off cap c hk hc hv hcap hm ho=>exact .sl k' [] o b off cap c (fun i h=>absurd h (Nat.not_lt_zero _)) (fun i j h=>absurd h (Nat.not_lt_zero _)) (fun i h=>absurd h (Nat.not_lt_zero _)) hcap hm ho
theorem VR_tyFix {E:Env} {T:TT} {ty:TypeId} {v:AV} {x:Value} (h:VR E v x):VR E (tyFix T ty v) x:=by
 unfold tyFix
 split
 ·split
  ·split
   ·split
    ·exact VR_nil_any h
    ·exact h
   ·exact h
  ·exact h
 ·exact h
def mv (T:TT) (ty:TypeId) (x:Operand) (v:AV):AV :=
 match x with
 | .const _=>tyFix T ty v
 | _=>v
theorem VR_mv {E:Env} {T:TT} {ty:TypeId} {x:Operand} {v:AV} {y:Value} (h:VR E v y):VR E (mv T ty x v) y:=by
 unfold mv; split
 ·exact VR_tyFix h
 ·exact h
section ops
variable {P:Program} {T:TT} {o:Oper} {ρ:Operand → AV}
theorem pr_move {x:Operand} (ho:o.op = .move x):PRun P o ρ (mv T o.type x (ρ x)):=fun E a h =>
 ⟨a.eval x,fun w=>by simp [execOp,ho],VR_mv (h x (by simp [ho,Op.operands]))⟩
theorem pr_assign {x:Operand} (ho:o.op = .assign x):PRun P o ρ (mv T o.type x (ρ x)):=fun E a h =>
 ⟨a.eval x,fun w=>by simp [execOp,ho],VR_mv (h x (by simp [ho,Op.operands]))⟩
theorem pr_pick {c x y:Operand} {t:Bool} (ho:o.op = .pick c x y) (hc:ρ c = .bool t):PRun P o ρ (if t then mv T o.type x (ρ x) else mv T o.type y (ρ y)):=fun E a h=>by
 have h1:=h c (by simp [ho,Op.operands])
 rw [hc] at h1
 cases hb:a.eval c <;> rw [hb] at h1 <;> cases h1
 refine ⟨if t then a.eval x else a.eval y,fun w=>by simp [execOp,ho,hb,asBool],?_⟩
 cases t
 ·exact VR_mv (h y (by simp [ho,Op.operands]))
 ·exact VR_mv (h x (by simp [ho,Op.operands]))
theorem pr_nilCheck {x:Operand} {v:AV} (ho:o.op = .nilCheck x) (hv:ρ x = v) (hk:(match v with | .ptr ..=>true | .iptr _=>true | .eptr ..=>true | .fn (.func _) _=>true | .fn (.yield _) _=>true | _=>false) = true):PRun P o ρ v:=fun E a h=>by
 have h1:=h x (by simp [ho,Op.operands])
 rw [hv] at h1
 refine ⟨a.eval x,fun w=>?_,h1⟩
 have hex:execOp a.eval o = match a.eval x with
  | .pointer none | .nilIface | .nilFunc=>runtimePanic .nilDeref
  | .func (.method name) first captured =>
   match (first[0]?:Option Value) with
   | some .nilIface=>runtimePanic .nilDeref
   | some (.iface t w)=>do
    if (← nilAhead ((← program).types.size + Made.depth) t w name) != some false then
     unsupported (.noEntry "op/nilCheck.the method's receiver behind this interface value is a nil pointer, or cannot be seen to be none, and the arguments act or may panic (ledger 612)")
    pure (.value (.func (.method name) first captured))
   | _=>pure (.value (.func (.method name) first captured))
  | x=>pure (.value x):=by simp only [execOp,ho]; rfl
 rw [hex]
 clear hex
 generalize a.eval x = y at *
 cases h1 with
 | ptr l k off b hm=>rfl
 | iptr cs b off c hc hv=>rfl
 | eptr l k n off g cap hh=>rfl
 | fn f caps vs hl hvs=>cases f <;> first | rfl | (simp at hk; done)
 | _=>simp at hk
theorem addr_add_lit (b off n:Nat):(⟨b,off,none⟩:Addr).add n = ⟨b,off + n,none⟩:=by
 unfold Addr.add; split
 ·rename_i h; subst h; rfl
 ·rfl
theorem pr_fieldAddr_ptr {t:TypeId} {x:Operand} {f:Nat} {r rf:TRow} {fs:List (Nat × TypeId)} {fo ft l k off:Nat} (hT:TOK P T) (ho:o.op = .fieldAddr t x f) (h1:T t = some r) (h2:r.td = .struct fs)
  (h3:fs[f]? = some (fo,ft)) (h4:T ft = some rf) (h5:rf.size ≠ 0) (hv:ρ x = .ptr l k off):PRun P o ρ (.ptr l k (off + fo)):=fun E a h=>by
 have hx:=h x (by simp [ho,Op.operands])
 rw [hv] at hx
 obtain ⟨d,i,z,hf⟩:=rowOK_facts (hT t r h1)
 obtain ⟨d',i',z',hf'⟩:=rowOK_facts (hT ft rf h4)
 have hfit:=hf.fits
 rw [h2] at hfit
 cases d <;> try (simp [TD.fits] at hfit; done)
 rename_i gs
 simp only [TD.fits,Bool.and_eq_true,beq_iff_eq] at hfit
 have hg:∃ g,gs[f]? = some g ∧ g.offset = fo ∧ g.type = ft:=by
  have h3':=h3
  rw [← hfit.1,List.getElem?_map] at h3'
  cases hq:gs.toList[f]? with
  | none=>simp [hq] at h3'
  | some g=>rw [hq] at h3'; simp at h3'; exact ⟨g,by rw [← Array.getElem?_toList]; exact hq,h3'.1,h3'.2⟩
 obtain ⟨g,hg1,hg2,hg3⟩:=hg
 cases hy:a.eval x <;> rw [hy] at hx <;> cases hx
 rename_i b hm
 refine ⟨.pointer (some ⟨b,off + fo,none⟩),fun w=>?_,.ptr l k _ b hm⟩
 simp [execOp,ho,hy,Instr.fieldAt,run_underlying hf.und,hg1,Instr.sureAddr,fieldPlace,hg3,run_sizeOf' hf',h5,addr_add_lit,hg2]
theorem pr_fieldAddr_iptr {t:TypeId} {x:Operand} {f:Nat} {r rf:TRow} {fs:List (Nat × TypeId)} {fo ft:Nat} {cs:List AV} (hT:TOK P T) (ho:o.op = .fieldAddr t x f) (h1:T t = some r) (h2:r.td = .struct fs)
  (h3:fs[f]? = some (fo,ft)) (h4:T ft = some rf) (h5:rf.size ≠ 0) (hv:ρ x = .iptr cs):PRun P o ρ (.iptr (cs.drop fo)):=fun E a h=>by
 have hx:=h x (by simp [ho,Op.operands])
 rw [hv] at hx
 obtain ⟨d,i,z,hf⟩:=rowOK_facts (hT t r h1)
 obtain ⟨d',i',z',hf'⟩:=rowOK_facts (hT ft rf h4)
 have hfit:=hf.fits
 rw [h2] at hfit
 cases d <;> try (simp [TD.fits] at hfit; done)
 rename_i gs
 simp only [TD.fits,Bool.and_eq_true,beq_iff_eq] at hfit
 have hg:∃ g,gs[f]? = some g ∧ g.offset = fo ∧ g.type = ft:=by
  have h3':=h3
  rw [← hfit.1,List.getElem?_map] at h3'
  cases hq:gs.toList[f]? with
  | none=>simp [hq] at h3'
  | some g=>rw [hq] at h3'; simp at h3'; exact ⟨g,by rw [← Array.getElem?_toList]; exact hq,h3'.1,h3'.2⟩
 obtain ⟨g,hg1,hg2,hg3⟩:=hg
 generalize hy:a.eval x = y at hx
 cases hx with | iptr _ b off c hc hv =>
 refine ⟨.pointer (some ⟨b,off + fo,none⟩),fun w=>?_,?_⟩
 ·simp [execOp,ho,hy,Instr.fieldAt,run_underlying hf.und,hg1,Instr.sureAddr,fieldPlace,hg3,run_sizeOf' hf',h5,addr_add_lit,hg2]
 ·refine .iptr _ b (off + fo) (fun j=>c (fo + j)) (fun j hj=>?_) (fun j hj=>?_)
  ·rw [List.length_drop] at hj
   rw [Nat.add_assoc]; exact hc (fo + j) (by omega)
  ·rw [List.length_drop] at hj
   have:=hv (fo + j) (by omega)
   simpa using this
theorem slice_fits {d:TypeDesc} {e:TypeId} (h:(TD.slice e).fits d = true):d = .slice e:=by
 cases d <;> simp [TD.fits] at h
 subst h; rfl
theorem pr_indexAddr_sl {t:TypeId} {x ix:Operand} {r re:TRow} {e:TypeId} {k:Nat} {xs:List AV} {ow:Own} {kk:IntKind} {i:Int} (hT:TOK P T) (ho:o.op = .indexAddr t x ix)
  (h1:T t = some r) (h2:r.td = .slice e) (h3:T e = some re) (hk:k = re.size) (hv:ρ x = .sl k xs ow) (hi:ρ ix = .int kk i) (hlo:0 ≤ i) (hhi:i < xs.length) :
  PRun P o ρ (.iptr (xs.getD i.toNat .dead).cells):=fun E a h=>by
 have hx:=h x (by simp [ho,Op.operands])
 have hix:=h ix (by simp [ho,Op.operands])
 rw [hv] at hx
 rw [hi] at hix
 obtain ⟨d,inf,z,hf⟩:=rowOK_facts (hT t r h1)
 obtain ⟨d',i',z',hf'⟩:=rowOK_facts (hT e re h3)
 have hd:=slice_fits (h2 ▸ hf.fits)
 subst hd
 cases hyi:a.eval ix <;> rw [hyi] at hix <;> cases hix
 have hlt:i.toNat < xs.length:=by omega
 have hg:xs.getD i.toNat .dead = xs[i.toNat]:=by simp [List.getD_eq_getElem?_getD,List.getElem?_eq_getElem hlt]
 generalize hy:a.eval x = y at hx
 cases hx with
 | slnil _ _ _ ho' _=>simp at hhi; omega
 | sl _ _ _ b off cap c hkk hc hvv hcap hm how =>
  refine ⟨.pointer (some ⟨b,off + i.toNat * re.size,none⟩),fun w=>?_,?_⟩
  ·simp [execOp,ho,hy,hyi,Instr.indexAt,asIntOf,run_underlying hf.und,hlo,hhi,run_sizeOf' hf',addr_add_lit]
  ·rw [hg]
   refine .iptr _ b _ (fun j=>c i.toNat j) (fun j hj=>?_) (fun j hj=>hvv i.toNat hlt j hj)
   have:=hc i.toNat j hlt (by rw [← hkk i.toNat hlt]; exact hj)
   rw [← hk,Nat.add_assoc]; exact this
theorem pr_len_sl {t:TypeId} {x:Operand} {r:TRow} {e:TypeId} {k:Nat} {xs:List AV} {ow:Own} (hT:TOK P T) (ho:o.op = .call { callee:=.builtin .len,args:=#[x],argTypes:=#[t] })
  (h1:T t = some r) (h2:r.td = .slice e) (hv:ρ x = .sl k xs ow):PRun P o ρ (.int .i64 xs.length):=fun E a h=>by
 have hx:=h x (by simp [ho,Op.operands,Call.operands])
 rw [hv] at hx
 obtain ⟨d,inf,z,hf⟩:=rowOK_facts (hT t r h1)
 have hd:=slice_fits (h2 ▸ hf.fits)
 subst hd
 cases hy:a.eval x <;> rw [hy] at hx <;> cases hx
 ·exact ⟨_,fun w=>by simp [execOp,ho,hy,resolve,invoke,builtin,Builtin.len_,run_underlying hf.und,goInt],.int _ _⟩
 ·exact ⟨_,fun w=>by simp [execOp,ho,hy,resolve,invoke,builtin,Builtin.len_,run_underlying hf.und,goInt],.int _ _⟩
theorem str_fits {d:TypeDesc} (h:TD.str.fits d = true):d = .string:=by
 cases d <;> simp [TD.fits] at h; rfl
theorem pr_len_str {t:TypeId} {x:Operand} {r:TRow} {s:List UInt8} (hT:TOK P T) (ho:o.op = .call { callee:=.builtin .len,args:=#[x],argTypes:=#[t] })
  (h1:T t = some r) (h2:r.td = .str) (hv:ρ x = .str s):PRun P o ρ (.int .i64 s.length):=fun E a h=>by
 have hx:=h x (by simp [ho,Op.operands,Call.operands])
 rw [hv] at hx
 obtain ⟨d,inf,z,hf⟩:=rowOK_facts (hT t r h1)
 have hd:=str_fits (h2 ▸ hf.fits)
 subst hd
 cases hy:a.eval x <;> rw [hy] at hx <;> cases hx
 have hsz:(⟨s.toArray⟩:ByteArray).size = s.length:=by show s.toArray.size = s.length; simp
 exact ⟨.int .i64 s.length,fun w=>by simp [execOp,ho,hy,resolve,invoke,builtin,Builtin.len_,run_underlying hf.und,goInt,hsz],.int _ _⟩
theorem pr_index_str {t:TypeId} {x ix:Operand} {r:TRow} {s:List UInt8} {kk:IntKind} {i:Int} (hT:TOK P T) (ho:o.op = .index t x ix)
  (h1:T t = some r) (h2:r.td = .str) (hv:ρ x = .str s) (hi:ρ ix = .int kk i) (hlo:0 ≤ i) (hhi:i < s.length):PRun P o ρ (.int .u8 (s.getD i.toNat 0).toNat):=fun E a h=>by
 have hx:=h x (by simp [ho,Op.operands])
 have hix:=h ix (by simp [ho,Op.operands])
 rw [hv] at hx
 rw [hi] at hix
 obtain ⟨d,inf,z,hf⟩:=rowOK_facts (hT t r h1)
 have hd:=str_fits (h2 ▸ hf.fits)
 subst hd
 have hlt:i.toNat < s.length:=by omega
 cases hyi:a.eval ix <;> rw [hyi] at hix <;> cases hix
 cases hy:a.eval x <;> rw [hy] at hx <;> cases hx
 refine ⟨.int .u8 (s.getD i.toNat 0).toNat,fun w=>?_,.int _ _⟩
 have hget:(⟨s.toArray⟩:ByteArray)[i.toNat]? = some s[i.toNat]:=by
  rw [getElem?_pos (⟨s.toArray⟩:ByteArray) i.toNat (by show i.toNat < s.toArray.size; simpa using hlt)]
  rfl
 simp [execOp,ho,hy,hyi,Instr.index,asIntOf,run_underlying hf.und,hlo,hget,List.getD_eq_getElem?_getD,List.getElem?_eq_getElem hlt]
theorem pr_extract {x:Operand} {i:Nat} {vs:List AV} (ho:o.op = .extract x i) (hv:ρ x = .tup vs) (hi:i < vs.length):PRun P o ρ (vs.getD i .dead):=fun E a h=>by
 have hx:=h x (by simp [ho,Op.operands])
 rw [hv] at hx
 generalize hy:a.eval x = y at hx
 cases hx with | tup _ us hl hvs =>
 refine ⟨us[i]'(by omega),fun w=>?_,?_⟩
 ·simp [execOp,ho,hy,Instr.extract,List.getElem?_eq_getElem (show i < us.length by omega)]
 ·have:=hvs i hi (by omega)
  simpa [List.getD_eq_getElem?_getD,List.getElem?_eq_getElem hi] using this
theorem pr_not {x:Operand} {t:TypeId} {b:Bool} (ho:o.op = .unOp .not t x) (hv:ρ x = .bool b):PRun P o ρ (.bool (!b)):=fun E a h=>by
 have hx:=h x (by simp [ho,Op.operands])
 rw [hv] at hx
 cases hy:a.eval x <;> rw [hy] at hx <;> cases hx
 exact ⟨.bool (!b),fun w=>by simp [execOp,ho,hy,Op.unary],.bool _⟩
theorem pr_neg {x:Operand} {t:TypeId} {k:IntKind} {n:Int} (ho:o.op = .unOp .neg t x) (hv:ρ x = .int k n):PRun P o ρ (.int k (k.wrap (0 - n))):=fun E a h=>by
 have hx:=h x (by simp [ho,Op.operands])
 rw [hv] at hx
 cases hy:a.eval x <;> rw [hy] at hx <;> cases hx
 exact ⟨.int k (k.wrap (0 - n)),fun w=>by simp [execOp,ho,hy,Op.unary,Op.intArith],.int _ _⟩
theorem int_fits {d:TypeDesc} {k:IntKind} (h:(TD.int k).fits d = true):d = .int k:=by
 cases d <;> simp [TD.fits] at h
 subst h; rfl
theorem pr_convert_int {src dst:TypeId} {x:Operand} {rs r:TRow} {k0 k k':IntKind} {n:Int} (hT:TOK P T) (ho:o.op = .convert src dst x) (h0:T src = some rs) (h0':rs.td = .int k0) (h1:T dst = some r) (h2:r.td = .int k) (hv:ρ x = .int k' n) :
  PRun P o ρ (.int k (k.wrap n)):=fun E a h=>by
 have hx:=h x (by simp [ho,Op.operands])
 rw [hv] at hx
 obtain ⟨d,inf,z,hf⟩:=rowOK_facts (hT dst r h1)
 have hd:=int_fits (h2 ▸ hf.fits)
 subst hd
 obtain ⟨d0,inf0,z0,hf0⟩:=rowOK_facts (hT src rs h0)
 have hd0:=int_fits (h0' ▸ hf0.fits)
 subst hd0
 cases hy:a.eval x <;> rw [hy] at hx <;> cases hx
 exact ⟨.int k (k.wrap n),fun w=>by simp [execOp,ho,hy,convert,run_underlying hf.und,run_underlying hf0.und,Conv.intToInt],.int _ _⟩
theorem pr_convert_str {src dst:TypeId} {x:Operand} {rs r:TRow} {s:List UInt8} (hT:TOK P T) (ho:o.op = .convert src dst x) (h0:T src = some rs) (h0':rs.td = .str) (h1:T dst = some r) (h2:r.td = .str) (hv:ρ x = .str s) :
  PRun P o ρ (.str s):=fun E a h=>by
 have hx:=h x (by simp [ho,Op.operands])
 rw [hv] at hx
 obtain ⟨d,inf,z,hf⟩:=rowOK_facts (hT dst r h1)
 have hd:=str_fits (h2 ▸ hf.fits)
 subst hd
 obtain ⟨d0,inf0,z0,hf0⟩:=rowOK_facts (hT src rs h0)
 have hd0:=str_fits (h0' ▸ hf0.fits)
 subst hd0
 cases hy:a.eval x <;> rw [hy] at hx <;> cases hx
 exact ⟨.string ⟨s.toArray⟩,fun w=>by simp [execOp,ho,hy,convert,run_underlying hf.und,run_underlying hf0.und],.str _⟩
theorem pr_makeFunc {f:Fn} {cs:Array Operand} (ho:o.op = .makeFunc f #[] cs):PRun P o ρ (.fn f (cs.toList.map ρ)):=fun E a h=>by
 refine ⟨.func f #[] (cs.toList.map a.eval).toArray,fun w=>?_,?_⟩
 ·have:execOp a.eval o = (do let v ← Instr.makeFunc f (#[].map a.eval) (cs.map a.eval); pure (Next.value v)):=by simp only [execOp,ho]
  rw [this]; simp [Instr.makeFunc]
  rw [← Array.toList_map]
 ·refine .fn f (cs.toList.map ρ) (cs.toList.map a.eval) (by rw [List.length_map,List.length_map]) (fun i h1 h2=>?_)
  rw [List.getElem_map,List.getElem_map]
  have hm:cs.toList[i]'(by simpa using h1) ∈ o.op.operands:=by
   rw [ho]; simp only [Op.operands]; simp
  exact h _ hm
theorem pr_makeFuncB {f:Fn} {fs:Array Operand} (ho:o.op = .makeFunc f fs #[]):PRun P o ρ (.bfn f (fs.toList.map ρ)):=fun E a h=>by
 refine ⟨.func f (fs.toList.map a.eval).toArray #[],fun w=>?_,?_⟩
 ·have:execOp a.eval o = (do let v ← Instr.makeFunc f (fs.map a.eval) (#[].map a.eval); pure (Next.value v)):=by simp only [execOp,ho]
  rw [this]; simp [Instr.makeFunc]
  rw [← Array.toList_map]
 ·refine .bfn f (fs.toList.map ρ) (fs.toList.map a.eval) (by rw [List.length_map,List.length_map]) (fun i h1 h2=>?_)
  rw [List.getElem_map,List.getElem_map]
  have hm:fs.toList[i]'(by simpa using h1) ∈ o.op.operands:=by
   rw [ho]; simp only [Op.operands]; simp
  exact h _ hm
end ops
end Go.Abs

/- More operations that have nothing to do with the abstract heap: binary operators, slices, composites, append. No program, no condition. -/
namespace Go.Abs
def intOp (op:BinOp) (k:IntKind) (x y:Int):Option AV :=
 match op with
 | .add=>some (.int k (k.wrap (x + y)))
 | .sub=>some (.int k (k.wrap (x - y)))
 | .mul=>some (.int k (k.wrap (x * y)))
 | .eql=>some (.bool (x == y))
 | .neq=>some (.bool (x != y))
 | .lss=>some (.bool (decide (x < y)))
 | .leq=>some (.bool (decide (x ≤ y)))
 | .gtr=>some (.bool (decide (x > y)))
 | .geq=>some (.bool (decide (x ≥ y)))
 | _=>none
def strOp (op:BinOp) (x y:List UInt8):Option AV :=
 match op with
 | .eql=>some (.bool (x == y))
 | .neq=>some (.bool (!(x == y)))
 | .lss=>some (.bool (Op.bytesLess x y))
 | .leq=>some (.bool (Op.bytesLess x y || x == y))
 | .gtr=>some (.bool (!(Op.bytesLess x y || x == y)))
 | .geq=>some (.bool (!(Op.bytesLess x y)))
 | _=>none
section ops
variable {P:Program} {T:TT} {o:Oper} {ρ:Operand → AV}
def guardy:Value → Value → Bool
 | .nilIface,.nilIface=>true
 | .agg _,.agg _=>true
 | _,_=>false
theorem eqGuard_pure {op:BinOp} {t:TypeId} {x y:Operand} {a b:Value} (w:World) (h:guardy a b = false) :
  (eqGuard op t x y a b).run P w = .ok () w:=by
 unfold eqGuard
 cases op <;> simp only [] <;> first | rfl | (cases a <;> cases b <;> first | rfl | (cases h; done))
theorem bin_run {op:BinOp} {t yt:TypeId} {x y:Operand} {a:Act} {u v r:Value} (ho:o.op = .binOp op t x y yt) (hx:a.eval x = u) (hy:a.eval y = v)
  (h:guardy u v = false) (hr:∀ w,(binOp op t u v).run P w = .ok r w) (w:World) :
  (execOp a.eval o).run P w = .ok (.value r) w:=by
 have he:execOp a.eval o = (do let v ← (do eqGuard op t x y (a.eval x) (a.eval y); binOp op t (a.eval x) (a.eval y)); pure (Next.value v)):=by simp only [execOp,ho]
 rw [he,hx,hy]
 simp only [Sem.run_bind,eqGuard_pure (P:=P) w h,Result.andThen_ok,hr w,Sem.run_pure]
theorem pr_bin_int {op:BinOp} {t yt:TypeId} {x y:Operand} {k:IntKind} {m n:Int} {v:AV} (ho:o.op = .binOp op t x y yt) (hx:ρ x = .int k m) (hy:ρ y = .int k n) (hv:intOp op k m n = some v):PRun P o ρ v:=fun E a h=>by
 have h1:=h x (by simp [ho,Op.operands])
 have h2:=h y (by simp [ho,Op.operands])
 rw [hx] at h1
 rw [hy] at h2
 cases ha:a.eval x <;> rw [ha] at h1 <;> cases h1
 cases hb:a.eval y <;> rw [hb] at h2 <;> cases h2
 cases op <;> simp only [intOp,Option.some.injEq,reduceCtorEq] at hv <;> subst hv
 ·exact ⟨.int k (k.wrap (m + n)),bin_run ho ha hb rfl (fun w=>by simp [binOp,Op.intArith]),.int _ _⟩
 ·exact ⟨.int k (k.wrap (m - n)),bin_run ho ha hb rfl (fun w=>by simp [binOp,Op.intArith]),.int _ _⟩
 ·exact ⟨.int k (k.wrap (m * n)),bin_run ho ha hb rfl (fun w=>by simp [binOp,Op.intArith]),.int _ _⟩
 ·exact ⟨.bool (m == n),bin_run ho ha hb rfl (fun w=>by simp [binOp,Op.intCmp]),.bool _⟩
 ·exact ⟨.bool (m != n),bin_run ho ha hb rfl (fun w=>by simp [binOp,Op.intCmp]),.bool _⟩
 ·exact ⟨.bool (decide (m < n)),bin_run ho ha hb rfl (fun w=>by simp [binOp,Op.intCmp]),.bool _⟩
 ·exact ⟨.bool (decide (m ≤ n)),bin_run ho ha hb rfl (fun w=>by simp [binOp,Op.intCmp]),.bool _⟩
 ·exact ⟨.bool (decide (m > n)),bin_run ho ha hb rfl (fun w=>by simp [binOp,Op.intCmp]),.bool _⟩
 ·exact ⟨.bool (decide (m ≥ n)),bin_run ho ha hb rfl (fun w=>by simp [binOp,Op.intCmp]),.bool _⟩
theorem pr_div {op:BinOp} {t yt:TypeId} {x y:Operand} {k:IntKind} {m n:Int} (ho:o.op = .binOp op t x y yt) (hx:ρ x = .int k m) (hy:ρ y = .int k n) (hop:op = .quo) (hn:n ≠ 0):PRun P o ρ (.int k (k.wrap (m.tdiv n))):=fun E a h=>by
 have h1:=h x (by simp [ho,Op.operands])
 have h2:=h y (by simp [ho,Op.operands])
 rw [hx] at h1
 rw [hy] at h2
 cases ha:a.eval x <;> rw [ha] at h1 <;> cases h1
 cases hb:a.eval y <;> rw [hb] at h2 <;> cases h2
 subst hop
 exact ⟨.int k (k.wrap (m.tdiv n)),bin_run ho ha hb rfl (fun w=>by simp [binOp,Op.intDiv,hn]),.int _ _⟩
theorem pr_rem {op:BinOp} {t yt:TypeId} {x y:Operand} {k:IntKind} {m n:Int} (ho:o.op = .binOp op t x y yt) (hx:ρ x = .int k m) (hy:ρ y = .int k n) (hop:op = .rem) (hn:n ≠ 0):PRun P o ρ (.int k (m.tmod n)):=fun E a h=>by
 have h1:=h x (by simp [ho,Op.operands])
 have h2:=h y (by simp [ho,Op.operands])
 rw [hx] at h1
 rw [hy] at h2
 cases ha:a.eval x <;> rw [ha] at h1 <;> cases h1
 cases hb:a.eval y <;> rw [hb] at h2 <;> cases h2
 subst hop
 exact ⟨.int k (m.tmod n),bin_run ho ha hb rfl (fun w=>by simp [binOp,Op.intDiv,hn]),.int _ _⟩
theorem pr_bin_str {op:BinOp} {t yt:TypeId} {x y:Operand} {m n:List UInt8} {v:AV} (ho:o.op = .binOp op t x y yt) (hx:ρ x = .str m) (hy:ρ y = .str n) (hv:strOp op m n = some v):PRun P o ρ v:=fun E a h=>by
 have h1:=h x (by simp [ho,Op.operands])
 have h2:=h y (by simp [ho,Op.operands])
 rw [hx] at h1
 rw [hy] at h2
 cases ha:a.eval x <;> rw [ha] at h1 <;> cases h1
 cases hb:a.eval y <;> rw [hb] at h2 <;> cases h2
 cases op <;> simp only [strOp,Option.some.injEq,reduceCtorEq] at hv <;> subst hv
 ·exact ⟨.bool (m == n),bin_run ho ha hb rfl (fun w=>by simp only [binOp,Op.stringOp,ByteArray.toList_mk,Sem.run_pure]),.bool _⟩
 ·exact ⟨.bool (!(m == n)),bin_run ho ha hb rfl (fun w=>by simp only [binOp,Op.stringOp,ByteArray.toList_mk,Sem.run_pure]),.bool _⟩
 ·exact ⟨.bool (Op.bytesLess m n),bin_run ho ha hb rfl (fun w=>by simp only [binOp,Op.stringOp,ByteArray.toList_mk,Sem.run_pure]),.bool _⟩
 ·exact ⟨.bool (Op.bytesLess m n || m == n),bin_run ho ha hb rfl (fun w=>by simp only [binOp,Op.stringOp,ByteArray.toList_mk,Sem.run_pure]),.bool _⟩
 ·exact ⟨.bool (!(Op.bytesLess m n || m == n)),bin_run ho ha hb rfl (fun w=>by simp only [binOp,Op.stringOp,ByteArray.toList_mk,Sem.run_pure]),.bool _⟩
 ·exact ⟨.bool (!(Op.bytesLess m n)),bin_run ho ha hb rfl (fun w=>by simp only [binOp,Op.stringOp,ByteArray.toList_mk,Sem.run_pure]),.bool _⟩
theorem pr_concat {op:BinOp} {t yt:TypeId} {x y:Operand} {m n:List UInt8} (ho:o.op = .binOp op t x y yt) (hx:ρ x = .str m) (hy:ρ y = .str n) (hop:op = .add) (hl:m.length + n.length ≤ 9223372036854775807):PRun P o ρ (.str (m ++ n)):=fun E a h=>by
 have h1:=h x (by simp [ho,Op.operands])
 have h2:=h y (by simp [ho,Op.operands])
 rw [hx] at h1
 rw [hy] at h2
 cases ha:a.eval x <;> rw [ha] at h1 <;> cases h1
 cases hb:a.eval y <;> rw [hb] at h2 <;> cases h2
 subst hop
 refine ⟨.string ⟨(m ++ n).toArray⟩,bin_run ho ha hb rfl (fun w=>?_),.str _⟩
 have hs1:(⟨m.toArray⟩:ByteArray).size = m.length:=by show m.toArray.size = _; simp
 have hs2:(⟨n.toArray⟩:ByteArray).size = n.length:=by show n.toArray.size = _; simp
 have hmx:IntKind.i64.max = 9223372036854775807:=by decide
 have hs:¬ (((⟨m.toArray⟩:ByteArray).size + (⟨n.toArray⟩:ByteArray).size:Nat):Int) > IntKind.i64.max:=by rw [hs1,hs2,hmx]; omega
 have happ:(⟨m.toArray⟩:ByteArray) ++ ⟨n.toArray⟩ = ⟨(m ++ n).toArray⟩:=by
  apply ByteArray.ext
  rw [ByteArray.data_append]; simp
 simp only [binOp,Op.stringOp,if_neg hs,happ,Sem.run_pure]
theorem bool_fits {d:TypeDesc} (h:TD.bool.fits d = true):d = .bool:=by
 cases d <;> simp [TD.fits] at h; rfl
theorem equalIn_bool (d:Nat) {t:TypeId} {m n:Bool} (hd:P.underlying t = some .bool) (w:World):(Op.equalIn (d + 1) t (.bool m) (.bool n)).run P w = .ok (m == n) w:=by
 simp [Op.equalIn,run_underlying hd]
theorem pr_bin_bool {op:BinOp} {t yt:TypeId} {x y:Operand} {r:TRow} {m n:Bool} (hT:TOK P T) (ho:o.op = .binOp op t x y yt) (h1:T t = some r) (h2:r.td = .bool) (hx:ρ x = .bool m) (hy:ρ y = .bool n)
  (hop:op = .eql ∨ op = .neq):PRun P o ρ (.bool (if op = .eql then m == n else !(m == n))):=fun E a h=>by
 have k1:=h x (by simp [ho,Op.operands])
 have k2:=h y (by simp [ho,Op.operands])
 obtain ⟨d,inf,z,hf⟩:=rowOK_facts (hT t r h1)
 have hd:=bool_fits (h2 ▸ hf.fits)
 subst hd
 rw [hx] at k1
 rw [hy] at k2
 cases ha:a.eval x <;> rw [ha] at k1 <;> cases k1
 cases hb:a.eval y <;> rw [hb] at k2 <;> cases k2
 have he:∀ w,(Op.equal t (.bool m) (.bool n)).run P w = .ok (m == n) w:=fun w=>equalIn_bool 9999 hf.und w
 rcases hop with rfl | rfl
 ·exact ⟨.bool (m == n),bin_run ho ha hb rfl (fun w=>by simp [binOp,he w]),.bool _⟩
 ·exact ⟨.bool (!(m == n)),bin_run ho ha hb rfl (fun w=>by simp [binOp,he w]),.bool _⟩
inductive NilK:TD → AV → AV → Bool → Prop
 | pp:NilK .ptr .nilp .nilp true
 | pq (l k o:Nat):NilK .ptr (.ptr l k o) .nilp false
 | pi (cs:List AV):NilK .ptr (.iptr cs) .nilp false
 | ff:NilK .func .nilf .nilf true
 | fg (f:Fn) (c:List AV):NilK .func (.fn f c) .nilf false
 | mm (k e:Nat):NilK (.map k e) .nilm .nilm true
 | mn (k e l i:Nat):NilK (.map k e) (.map l i) .nilm false
 | ss (e:Nat):NilK (.slice e) .nils .nils true
 | sx (e k:Nat):NilK (.slice e) (.sln k) .nils false
 | sn (e k:Nat) (x:AV) (xs:List AV) (o:Own):NilK (.slice e) (.sl k (x :: xs) o) .nils false
theorem equalIn_nil (n:Nat) {t:TypeId} {d:TypeDesc} {td:TD} {E:Env} {u v:AV} {b:Bool} {p q:Value} (hd:P.underlying t = some d) (hfit:td.fits d = true) (k1:VR E u p) (k2:VR E v q)
  (hk:NilK td u v b) (w:World):(Op.equalIn (n + 1) t p q).run P w = .ok b w:=by
 cases hk <;> cases k1 <;> cases k2 <;> cases d <;> (try (cases hfit; done)) <;> simp [Op.equalIn,run_underlying hd]
theorem bin_eq_nil {t:TypeId} {d:TypeDesc} {td:TD} {E:Env} {u v:AV} {b:Bool} {p q:Value} {op:BinOp} (hd:P.underlying t = some d) (hfit:td.fits d = true) (k1:VR E u p) (k2:VR E v q)
  (hk:NilK td u v b) (hop:op = .eql ∨ op = .neq):(∀ w,(binOp op t p q).run P w = .ok (.bool (if op = .eql then b else !b)) w) ∧ guardy p q = false:=by
 have he:∀ w,(Op.equal t p q).run P w = .ok b w:=fun w=>equalIn_nil 9999 hd hfit k1 k2 hk w
 cases hk <;> cases k1 <;> cases k2 <;> refine ⟨fun w=>?_,rfl⟩ <;> rcases hop with rfl | rfl <;> first | (simp [binOp,he w]; done) | (have h:=he w; simp only [List.length_cons] at h; simp [binOp,h])
theorem pr_eq_nil {op:BinOp} {t yt:TypeId} {x y:Operand} {r:TRow} {u v:AV} {b:Bool} (hT:TOK P T) (ho:o.op = .binOp op t x y yt) (h1:T t = some r) (hx:ρ x = u) (hy:ρ y = v)
  (hk:NilK r.td u v b) (hop:op = .eql ∨ op = .neq):PRun P o ρ (.bool (if op = .eql then b else !b)):=fun E a h=>by
 have k1:=h x (by simp [ho,Op.operands])
 have k2:=h y (by simp [ho,Op.operands])
 obtain ⟨d,inf,z,hf⟩:=rowOK_facts (hT t r h1)
 rw [hx] at k1
 rw [hy] at k2
 obtain ⟨h3,h4⟩:=bin_eq_nil (P:=P) hf.und hf.fits k1 k2 hk hop
 exact ⟨_,bin_run ho rfl rfl h4 h3,.bool _⟩
end ops
end Go.Abs

/- Slices as rows of cells; composites; slices cut; append where the capacity is known to be used up. No program, no condition. -/
namespace Go.Abs
def flat (xs:List AV):List AV:=xs.flatMap AV.cells
theorem flat_cons (x:AV) (xs:List AV):flat (x :: xs) = x.cells ++ flat xs:=by simp [flat]
theorem flat_append (xs ys:List AV):flat (xs ++ ys) = flat xs ++ flat ys:=by simp [flat]
theorem flat_length {k:Nat}:∀ {xs:List AV},(∀ x ∈ xs,x.cells.length = k) → (flat xs).length = xs.length * k
 | [],_=>by simp [flat]
 | x :: xs,h=>by
  rw [flat_cons,List.length_append,flat_length (fun y hy=>h y (List.mem_cons_of_mem _ hy)),h x (by simp),List.length_cons,Nat.succ_mul,Nat.add_comm]
theorem flat_get {k:Nat}:∀ {xs:List AV},(∀ x ∈ xs,x.cells.length = k) → ∀ i (h:i < xs.length) j,j < k → (flat xs)[i * k + j]? = xs[i].cells[j]?
 | x :: xs,h,0,hi,j,hj=>by
  rw [flat_cons,Nat.zero_mul,Nat.zero_add,List.getElem?_append_left (by rw [h x (by simp)]; exact hj)]; rfl
 | x :: xs,h,i + 1,hi,j,hj=>by
  have hx:=h x (by simp)
  rw [flat_cons,List.getElem?_append_right (by rw [hx,Nat.succ_mul]; omega),hx]
  rw [show (i + 1) * k + j - k = i * k + j by rw [Nat.succ_mul]; omega]
  exact flat_get (fun y hy=>h y (List.mem_cons_of_mem _ hy)) i (by simpa using hi) j hj
theorem VR.sl_elim {E:Env} {k:Nat} {xs:List AV} {o:Own} {v:Value} (h:VR E (.sl k xs o) v) :
  ((∃ a,v = .slice a 0 0 ∧ (o ≠ .any → a = none)) ∧ xs = [] ∧ OwnR E 0 v 0 o) ∨
  ∃ b off cap cs,v = .slice (some ⟨b,off,none⟩) xs.length cap ∧ (∀ x ∈ xs,x.cells.length = k) ∧ VRs E (flat xs) cs ∧ (∀ j u,cs[j]? = some u → E.F b (off + j) = some u) ∧
   xs.length ≤ cap ∧ xs.length ≤ maxLen ∧ OwnR E xs.length v cap o:=by
 cases h with
 | slnil _ _ a ho ha=>exact .inl ⟨⟨a,rfl,ha⟩,rfl,ho⟩
 | sl _ _ _ b off cap c hk hc hv hcap hm ho =>
  have hk':∀ x ∈ xs,x.cells.length = k:=fun x hx=>by
   obtain ⟨i,hi,rfl⟩:=List.getElem_of_mem hx; exact hk i hi
  have hlen:=flat_length hk'
  refine .inr ⟨b,off,cap,(List.range (xs.length * k)).map (fun q=>c (q / k) (q % k)),rfl,hk',⟨by simp [hlen],fun q h1 h2=>?_⟩,fun q u hq=>?_,hcap,hm,ho⟩
  ·rw [hlen] at h1
   have hk0:0 < k:=by
    rcases Nat.eq_zero_or_pos k with h0 | h0
    ·subst h0; simp at h1
    ·exact h0
   have hi:q / k < xs.length:=Nat.div_lt_of_lt_mul (by rwa [Nat.mul_comm] at h1)
   have hj:q % k < k:=Nat.mod_lt _ hk0
   have hq:q / k * k + q % k = q:=by rw [Nat.mul_comm]; exact Nat.div_add_mod q k
   have hg:=flat_get hk' (q / k) hi (q % k) hj
   rw [hq] at hg
   have hjl:q % k < xs[q / k].cells.length:=by rw [hk (q / k) hi]; exact hj
   rw [List.getElem?_eq_getElem hjl,List.getElem?_eq_getElem (by rw [hlen]; exact h1),Option.some.injEq] at hg
   rw [hg]
   simpa using hv (q / k) hi (q % k) hjl
  ·rw [List.getElem?_map] at hq
   cases hr:(List.range (xs.length * k))[q]? with
   | none=>simp [hr] at hq
   | some q' =>
    rw [hr] at hq
    obtain ⟨hlt,hqq⟩:=List.getElem?_eq_some_iff.1 hr
    simp only [List.getElem_range] at hqq
    subst hqq
    simp only [List.length_range] at hlt
    simp only [Option.map_some,Option.some.injEq] at hq
    subst hq
    have hk0:0 < k:=by
     rcases Nat.eq_zero_or_pos k with h0 | h0
     ·subst h0; simp at hlt
     ·exact h0
    have hi:q / k < xs.length:=Nat.div_lt_of_lt_mul (by rwa [Nat.mul_comm] at hlt)
    have hq2:q / k * k + q % k = q:=by rw [Nat.mul_comm]; exact Nat.div_add_mod q k
    have:=hc (q / k) (q % k) hi (Nat.mod_lt _ hk0)
    rwa [hq2] at this
theorem VR.sl_intro {E:Env} {k:Nat} {xs:List AV} {o:Own} {b off cap:Nat} {cs:List Value} (hk:∀ x ∈ xs,x.cells.length = k) (hv:VRs E (flat xs) cs)
  (hF:∀ j u,cs[j]? = some u → E.F b (off + j) = some u) (hcap:xs.length ≤ cap) (hm:xs.length ≤ maxLen) (ho:OwnR E xs.length (.slice (some ⟨b,off,none⟩) xs.length cap) cap o) :
  VR E (.sl k xs o) (.slice (some ⟨b,off,none⟩) xs.length cap):=by
 have hlen:=flat_length hk
 have key:∀ i j (hi:i < xs.length),j < k → i * k + j < xs.length * k:=fun i j hi hj=>by
  have:(i + 1) * k ≤ xs.length * k:=Nat.mul_le_mul_right k hi
  rw [Nat.succ_mul] at this; omega
 refine .sl k xs o b off cap (fun i j=>cs.getD (i * k + j) undef) (fun i hi=>hk _ (List.getElem_mem hi)) (fun i j hi hj=>?_) (fun i hi j hj=>?_) hcap hm ho
 ·have hlt:=key i j hi hj
  have:cs[i * k + j]? = some (cs.getD (i * k + j) undef):=by
   rw [List.getD_eq_getElem?_getD,List.getElem?_eq_getElem (by rw [hv.1,hlen]; exact hlt)]; rfl
  exact hF _ _ this
 ·rw [hk _ (List.getElem_mem hi)] at hj
  have hlt:=key i j hi hj
  have h1:i * k + j < (flat xs).length:=by rw [hlen]; exact hlt
  have h2:i * k + j < cs.length:=by rw [hv.1]; exact h1
  have hg:=flat_get hk i hi j hj
  rw [List.getElem?_eq_getElem h1,List.getElem?_eq_getElem (by rw [hk _ (List.getElem_mem hi)]; exact hj),Option.some.injEq] at hg
  have:=hv.2 _ h1 h2
  rw [hg] at this
  simpa [List.getD_eq_getElem?_getD,List.getElem?_eq_getElem h2] using this
theorem VRs.take {E:Env} {as:List AV} {vs:List Value} (h:VRs E as vs) (n:Nat):VRs E (as.take n) (vs.take n) :=
 ⟨by simp [h.1],fun i h1 h2=>by simp only [List.getElem_take]; exact h.2 i _ _⟩
theorem VRs.drop {E:Env} {as:List AV} {vs:List Value} (h:VRs E as vs) (n:Nat):VRs E (as.drop n) (vs.drop n) :=
 ⟨by simp [h.1],fun i h1 h2=>by simp only [List.getElem_drop]; exact h.2 (n + i) _ _⟩
theorem flat_take {k:Nat}:∀ {xs:List AV},(∀ x ∈ xs,x.cells.length = k) → ∀ n,flat (xs.take n) = (flat xs).take (n * k)
 | [],_,n=>by simp [flat]
 | x :: xs,h,0=>by simp [flat]
 | x :: xs,h,n + 1=>by
  have hx:=h x (by simp)
  rw [List.take_succ_cons,flat_cons,flat_cons,flat_take (fun y hy=>h y (List.mem_cons_of_mem _ hy)) n,List.take_append,hx,Nat.succ_mul,List.take_of_length_le (l:=x.cells) (by omega),show n * k + k - k = n * k by omega]
theorem flat_drop {k:Nat}:∀ {xs:List AV},(∀ x ∈ xs,x.cells.length = k) → ∀ n,flat (xs.drop n) = (flat xs).drop (n * k)
 | [],_,n=>by simp [flat]
 | x :: xs,h,0=>by simp
 | x :: xs,h,n + 1=>by
  have hx:=h x (by simp)
  rw [List.drop_succ_cons,flat_cons,flat_drop (fun y hy=>h y (List.mem_cons_of_mem _ hy)) n,List.drop_append,hx,Nat.succ_mul,List.drop_of_length_le (l:=x.cells) (by omega),List.nil_append,show n * k + k - k = n * k by omega]
def bnd (ρ:Operand → AV):Option Operand → Int → Option Int
 | none,d=>some d
 | some x,_=>match ρ x with
  | .int _ i=>some i
  | _=>none
section ops
variable {P:Program} {T:TT} {o:Oper} {ρ:Operand → AV}
theorem run_bound {E:Env} {a:Act} {x:Operand} {i:Int} {y:Nat} {c:BoundsCode} (h:VR E (ρ x) (a.eval x)) (hi:(match ρ x with | .int _ i=>some i | _=>none) = some i) (h0:0 ≤ i) (h1:i ≤ y) (w:World) :
  (Instr.sliceBound (a.eval x) y c).run P w = .ok i.toNat w:=by
 generalize ρ x = v at *
 generalize a.eval x = y' at *
 cases h <;> simp only [reduceCtorEq,Option.some.injEq] at hi
 subst hi
 simp [Instr.sliceBound,asIntOf,h0,h1]
theorem run_bounds {E:Env} {a:Act} {lo hi:Option Operand} {l h:Int} {len cap:Nat} {s:Bool} (hv:∀ x,lo = some x ∨ hi = some x → VR E (ρ x) (a.eval x)) (hl:bnd ρ lo 0 = some l) (hh:bnd ρ hi len = some h)
  (h0:0 ≤ l) (h1:l ≤ h) (h2:h ≤ cap) (w:World):(Instr.sliceBounds s len cap (lo.map a.eval) (hi.map a.eval) none).run P w = .ok (l.toNat,h.toNat,cap) w:=by
 cases hi with
 | none =>
  simp only [bnd,Option.some.injEq] at hh
  subst hh
  cases lo with
  | none =>
   simp only [bnd,Option.some.injEq] at hl
   subst hl
   simp [Instr.sliceBounds]
  | some x =>
   have:=run_bound (P:=P) (c:=.sliceB) (y:=len) (hv x (.inl rfl)) hl h0 h1 w
   simp [Instr.sliceBounds,this]
 | some y =>
  have hy:=run_bound (P:=P) (c:=if s then .sliceAcap else .sliceAlen) (y:=cap) (hv y (.inr rfl)) hh (by omega) h2 w
  cases lo with
  | none =>
   simp only [bnd,Option.some.injEq] at hl
   subst hl
   cases s <;> simp [Instr.sliceBounds] at hy ⊢ <;> simp [hy]
  | some x =>
   have:=run_bound (P:=P) (c:=.sliceB) (y:=h.toNat) (hv x (.inl rfl)) hl h0 (by omega) w
   cases s <;> simp [Instr.sliceBounds] at hy ⊢ <;> simp [hy,this]
theorem pr_slice_str {t:TypeId} {x:Operand} {lo hi:Option Operand} {r:TRow} {s:List UInt8} {l h:Int} (hT:TOK P T) (ho:o.op = .slice t x lo hi none) (h1:T t = some r) (h2:r.td = .str) (hv:ρ x = .str s)
  (hl:bnd ρ lo 0 = some l) (hh:bnd ρ hi s.length = some h) (h3:0 ≤ l) (h4:l ≤ h) (h5:h ≤ s.length):PRun P o ρ (.str ((s.take h.toNat).drop l.toNat)):=fun E a hops=>by
 have hx:=hops x (by simp [ho,Op.operands])
 have hb:∀ y,lo = some y ∨ hi = some y → VR E (ρ y) (a.eval y):=fun y hy=>hops y (by rcases hy with rfl | rfl <;> simp [ho,Op.operands])
 rw [hv] at hx
 obtain ⟨d,inf,z,hf⟩:=rowOK_facts (hT t r h1)
 have hd:=str_fits (h2 ▸ hf.fits)
 subst hd
 generalize hy:a.eval x = y at hx
 cases hx with | str _ =>
 have hsz:(⟨s.toArray⟩:ByteArray).size = s.length:=by show s.toArray.size = s.length; simp
 refine ⟨.string ⟨((s.take h.toNat).drop l.toNat).toArray⟩,fun w=>?_,.str _⟩
 have hrun:=run_bounds (P:=P) (s:=false) hb hl hh h3 h4 h5 w
 have he:execOp a.eval o = (do let v ← Instr.sliceAt t (a.eval x) (lo.map a.eval) (hi.map a.eval) none; pure (Next.value v)):=by simp only [execOp,ho]; rfl
 rw [he,hy]
 have hex:(⟨s.toArray⟩:ByteArray).extract l.toNat h.toNat = ⟨((s.take h.toNat).drop l.toNat).toArray⟩:=by
  apply ByteArray.ext
  rw [ByteArray.data_extract]
  simp [List.extract_eq_take_drop,List.drop_take]
 simp [Instr.sliceAt,Instr.slice,run_underlying hf.und,hsz,hrun,hex]
theorem pr_slice_sl {t:TypeId} {x:Operand} {lo hi:Option Operand} {r re:TRow} {e:TypeId} {k:Nat} {xs:List AV} {ow:Own} {l h:Int} (hT:TOK P T) (ho:o.op = .slice t x lo hi none) (h1:T t = some r) (h2:r.td = .slice e)
  (h2':T e = some re) (hk:k = re.size) (hv:ρ x = .sl k xs ow)
  (hl:bnd ρ lo 0 = some l) (hh:bnd ρ hi xs.length = some h) (h3:0 ≤ l) (h4:l ≤ h) (h5:h ≤ xs.length):PRun P o ρ (.sl k ((xs.take h.toNat).drop l.toNat) .any):=fun E a hops=>by
 have hx:=hops x (by simp [ho,Op.operands])
 have hb:∀ y,lo = some y ∨ hi = some y → VR E (ρ y) (a.eval y):=fun y hy=>hops y (by rcases hy with rfl | rfl <;> simp [ho,Op.operands])
 rw [hv] at hx
 obtain ⟨d,inf,z,hf⟩:=rowOK_facts (hT t r h1)
 obtain ⟨d',i',z',hf'⟩:=rowOK_facts (hT e re h2')
 have hd:=slice_fits (h2 ▸ hf.fits)
 subst hd
 have he:execOp a.eval o = (do let v ← Instr.sliceAt t (a.eval x) (lo.map a.eval) (hi.map a.eval) none; pure (Next.value v)):=by simp only [execOp,ho]; rfl
 have hlen:((xs.take h.toNat).drop l.toNat).length = h.toNat - l.toNat:=by simp; omega
 rcases hx.sl_elim with ⟨⟨ad,hy,_⟩,rfl,_⟩ | ⟨b,off,cap,cs,hy,hkk,hvs,hF,hcap,hm,_⟩
 ·have hl0:l = 0:=by simp at h5; omega
  have hh0:h = 0:=by simp at h5; omega
  subst hl0 hh0
  have hrun:=fun w=>run_bounds (P:=P) (s:=true) (cap:=0) hb hl hh h3 h4 (by simp) w
  refine ⟨.slice ad 0 0,fun w=>?_,.slnil _ _ _ trivial (fun h=>absurd rfl h)⟩
  have hrun:=hrun w
  rw [he,hy]
  simp at hrun
  cases ad <;> simp [Instr.sliceAt,Instr.slice,run_underlying hf.und,hrun,run_sizeOf' hf']
 ·have hrun:=fun w=>run_bounds (P:=P) (s:=true) (cap:=cap) hb hl hh h3 h4 (by omega) w
  have hsub:∀ y ∈ (xs.take h.toNat).drop l.toNat,y.cells.length = k:=fun y hy=>hkk y (List.mem_of_mem_take (List.mem_of_mem_drop hy))
  have hflat:flat ((xs.take h.toNat).drop l.toNat) = ((flat xs).take (h.toNat * k)).drop (l.toNat * k):=by
   rw [flat_drop (fun y hy=>hkk y (List.mem_of_mem_take hy)),flat_take hkk]
  by_cases hml:cap = l.toNat
  ·refine ⟨.slice (some ⟨b,off,none⟩) (h.toNat - l.toNat) (cap - l.toNat),fun w=>?_,?_⟩
   ·have hr:=hrun w
    rw [he,hy]
    simp only [Instr.sliceAt,Instr.slice,run_underlying hf.und,Sem.run_bind,Result.andThen_ok,hr,run_sizeOf' hf',if_pos hml,Sem.run_pure]
   ·have h0:h.toNat - l.toNat = 0:=by omega
    have hnil:(xs.take h.toNat).drop l.toNat = []:=List.eq_nil_of_length_eq_zero (by omega)
    rw [hnil,h0]
    exact VR.sl_intro (cs:=[]) (by simp) (VRs.nil E) (by simp) (by simp) (by simp) trivial
  ·refine ⟨.slice (some ⟨b,off + l.toNat * k,none⟩) (h.toNat - l.toNat) (cap - l.toNat),fun w=>?_,?_⟩
   ·have hr:=hrun w
    rw [he,hy]
    simp only [Instr.sliceAt,Instr.slice,run_underlying hf.und,Sem.run_bind,Result.andThen_ok,hr,run_sizeOf' hf',if_neg hml,Sem.run_pure,Option.map_some,addr_add_lit,hk]
   ·have:=VR.sl_intro (E:=E) (k:=k) (xs:=(xs.take h.toNat).drop l.toNat) (o:=.any) (b:=b) (off:=off + l.toNat * k) (cap:=cap - l.toNat) (cs:=(cs.take (h.toNat * k)).drop (l.toNat * k)) hsub
     (by rw [hflat]; exact (hvs.take _).drop _) ?_ (by omega) (by omega) trivial
    ·rwa [hlen] at this
    ·intro j u hj
     rw [List.getElem?_drop] at hj
     have hj2:cs[l.toNat * k + j]? = some u:=by
      rcases Nat.lt_or_ge (l.toNat * k + j) (h.toNat * k) with hlt | hge
      ·rwa [List.getElem?_take_of_lt hlt] at hj
      ·rw [List.getElem?_take,if_neg (by omega)] at hj; cases hj
     have:=hF _ _ hj2
     rwa [← Nat.add_assoc] at this
end ops
end Go.Abs
