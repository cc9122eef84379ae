/- The laws' rows: from a walk that ends with true to the row's statement. -/
import Derived.Test.YtmdeagmbfhbbnaaGreatDoorRQ13
import Derived.Deep.DeepHandedRow
import Derived.WalkKit
import Derived.ProofKit
import Derived.Stop.Joined
set_option linter.all false
namespace Go.Proofs.YtmdeagmbfhbbnaaGreatDoorR
open Go.Abs Go.ChangeShapes Go.WideShapes Go.ChangeAt Go.RowKit
set_option maxRecDepth 100000

theorem laidOut : laidOutB Tryz.prog = true := by kernel_rfl
theorem ZrJ : rdS.all (fun t => Tryz.prog.readableRec t && decide (t < Tryz.prog.types.size)) = true := by kernel_rfl
theorem Zt4 {t : TypeId} (h : t ∈ rdS) : Tryz.prog.readableRec t = true ∧ t < Tryz.prog.types.size := by
  have := List.all_eq_true.1 ZrJ t h
  simpa using this

theorem ZdO {H : Type} {enc : TypeId × Value → H} {P : Program} {W : World} {b : Nat} {sp : Nat → Bool} {hd : Bool} : ∀ {ts : List TypeId} {vs : List Value} {ds : List (DataW H)} {ps : List MemPlace}, DataW.TrodAll enc P W b sp hd ts vs ds ps → ds.length = ts.length
  | [], [], [], _, _ => rfl
  | t :: ts, v :: vs, d :: ds, ps, h => by
    obtain ⟨p, q, _, h2, _⟩ := h
    simp only [List.length_cons, ZdO h2]
  | [], _ :: _, _, _, h => h.elim
  | [], [], _ :: _, _, h => h.elim
  | _ :: _, [], _, _, h => h.elim
  | _ :: _, _ :: _, [], _, h => h.elim

theorem Zhv {H : Type} {enc : TypeId × Value → H} {W W' : World} (hb : Go.RowKit.Below W.heap.size W W') : ∀ {ts : List TypeId} {vs : List Value} {ds : List (DataW H)} {ps : List MemPlace}, (∀ t ∈ ts, t ∈ rdS) →
    DataW.TrodAll enc Tryz.prog W 0 (fun _ => true) true ts vs ds ps → (∀ x ∈ ps, x.block < W.heap.size) → DataW.TrodAll enc Tryz.prog W' 0 (fun b => decide (b < W.heap.size)) true ts vs ds ps
  | [], [], [], _, _, h, _ => h
  | t :: ts, v :: vs, d :: ds, ps, hts, h, hlt => by
    obtain ⟨p, q, h1, h2, rfl⟩ := h
    have hr := Zt4 (hts t (List.mem_cons_self ..))
    exact ⟨p, q, Go.RowKit.Below.trod laidOut hr.1 hr.2 h1 hb (fun x hx => hlt x (List.mem_append_left _ hx)), Zhv hb (fun t h => hts t (List.mem_cons_of_mem _ h)) h2 (fun x hx => hlt x (List.mem_append_right _ hx)), rfl⟩
  | [], _ :: _, _, _, _, h, _ => h.elim
  | [], [], _ :: _, _, _, h, _ => h.elim
  | _ :: _, [], _, _, _, h, _ => h.elim
  | _ :: _, _ :: _, [], _, _, h, _ => h.elim

theorem ZvI : Tryz.prog.underlying 4 = some .bool := by kernel_rfl

/-- A law's post, from its walk. -/
theorem ZoQ {H : Type} {enc : TypeId × Value → H} (f : Nat) (fn : Func) (s : ChangeSpec) (ts : List TypeId) (hp : fn.params.toList = ts) (hr : fn.resultTypes = #[4]) (hs : s.vars = [])
    (hfn : ∀ ds : List (DataW H), ds.length = ts.length → s.fn H ds = { results := [.lit (.bool true)], args := ds })
    (hts : ∀ t ∈ ts, t ∈ rdS) (h : ∀ cs, ZjR tt ts cs → Z4 Tryz.prog f (wraps tt ts cs) (.bool true))
    (W : World) (base : Nat) (args : Array Value) (ds gs : List (DataW H)) (before : List MemPlace)
    (hval : ∀ (j : Nat) t v, fn.params[j]? = some t → args[j]? = some v → Value.okWide Tryz.prog W .any base t v)
    (hW : DataW.Whole enc Tryz.prog fn.params.toList s.vars false W args.toList ds gs before)
    (hw : ∀ n ∈ DataW.weightsEach Tryz.prog ts ds, n ≤ reachBytes)
    (hsh : W.ShapedOpen Tryz.prog) (hL : Lib.TabIs Tryz.prog W "internal/strconv.uint64pow10" .u64 Lib.pow10Tab) :
    Calls Tryz.prog f args W fun e W' => ∃ v, e = .returned v ∧ s.post enc Tryz.prog fn false true false false W args v W' := by
  have hlt := hW.lt
  have hW' := hW
  obtain ⟨p, q, hA, hV, rfl, hfz, hnd⟩ := hW
  rw [hs] at hV
  obtain ⟨rfl, rfl⟩ := trodVars_none hV
  rw [hp] at hA
  simp only [List.append_nil] at hlt hW'
  have hval' : ∀ (j : Nat) t v, ts[j]? = some t → args.toList[j]? = some v → Value.okWide Tryz.prog W .any base t v := fun j t v h1 h2 =>
    hval j t v (by rw [← hp] at h1; simpa using h1) (by simpa using h2)
  have w := Zpu f ts hts h W base args ds p hA hval' hw hsh hL
  refine w.mono fun e W' ⟨he, hg⟩ => ?_
  subst he
  refine ⟨_, rfl, ds, [], p, [], p, [], hW', ?_, ?_, ?_, hg.frame _, fun h => by cases h⟩
  · rw [List.append_nil, hfn ds (ZdO hA), hr]
    exact trodAll_mk1 (shut_bool ZvI true)
  · rw [List.append_nil, hfn ds (ZdO hA), hp]
    exact Zhv hg hts hA hlt
  · rw [List.append_nil, hfn ds (ZdO hA), hs]
    exact rfl

theorem ZkV {H : Type} {ts : List TypeId} {ds : List (DataW H)} (h : (DataW.weightsEach Tryz.prog (ts ++ []) (ds ++ [])).all (· ≤ reachBytes) = true) : ∀ n ∈ DataW.weightsEach Tryz.prog ts ds, n ≤ reachBytes := by
  intro n hn
  rw [List.append_nil, List.append_nil] at h
  simpa using List.all_eq_true.1 h n hn

def Zrq : DataW Unit → List Value
  | .lit (.int k n) => [.int k n]
  | _ => []
def Zrx : DataW Unit → List Value
  | .agg l => l.flatMap Zrq
  | d => Zrq d
def ZtU : DataW Unit → List Value
  | .agg l => l.flatMap Zrx
  | d => Zrx d
def lay (d : DataW Unit) : Obj → Obj
  | .cells _ t frozen => .cells (ZtU d).toArray t frozen
  | o => o
/-- A world for the witness: the settled one, Go's own tables holding what their initialisers lay. -/
noncomputable def laidWorld (os : Os) : World :=
  { World.holding Tryz.prog os ⟨#[], #[], []⟩ with heap := (((((World.holding Tryz.prog os ⟨#[], #[], []⟩).heap.modify 4 (lay Rows.laid_math_bits_deBruijn32tab)).modify 5 (lay Rows.laid_math_bits_deBruijn64tab)).modify 1
      (lay Rows.laid_internal_strconv_uint64pow10)).modify 3 (lay Rows.laid_unicode_utf8_acceptRanges)).modify 2 (lay Rows.laid_unicode_utf8_first) }
theorem laid_met (os : Os) (args : Array Value) : laidMet Tryz.prog Rows.joinAllRow.laid ((laidWorld os).forCall (fun _ _ => 0) ⟨#[], args, []⟩).memory :=
  laidMet_of_run' 8 (by kernel_rfl) (by kernel_rfl)
end Go.Proofs.YtmdeagmbfhbbnaaGreatDoorR
