/- Abstract values, the ghost environment, and the relation of abstract values to the model's values. No program, no condition. -/
import Derived.WalkKit
import Derived.RangeFuncLeaves
import Derived.RangeFuncRecord
import Derived.OrdersIn
import Derived.TacticsIn
import Derived.Orders
set_option linter.all false
namespace Go.Abs
inductive Own where
 | any
 | full
 | buf (l k:Nat)
inductive AV where
 | int (k:IntKind) (n:Int)
 | bool (b:Bool)
 | str (s:List UInt8)
 | nilp
 | ptr (l k off:Nat)
 | ZA (cs:List AV)
 | sl (k:Nat) (xs:List AV) (o:Own)
 | nilf
 | fn (f:Fn) (caps:List AV)
 | bfn (f:Fn) (caps:List AV)
 | nilm
 | map (l k:Nat)
 | msl (sz l k n:Nat)
 | eptr (l k n off:Nat)
 | ssl (k:Nat) (xs ys:List AV)
 | nili
 | ifc (t:TypeId) (v:AV)
 | Y8
 | sln (k:Nat)
 | sub (sz l k n off m:Nat)
 | agg (cs:List AV)
 | tup (vs:List AV)
 | dead
def AV.cells:AV → List AV
 | .agg cs=>cs
 | v=>[v]
def AV.one:AV → Bool
 | .agg _ | .tup _ | .dead=>false
 | _=>true
structure Env where
 F:Nat → Nat → Option Value
 m:Nat → Nat → Option Nat
 hist:Nat → Nat → Nat → Option Value
 g:Nat → Nat → Option Nat
 qd:Bool
def JD (E:Env) (n:Nat) (v:Value) (cap:Nat):Own → Prop
 | .any=>True
 | .full=>cap = n
 | .buf l k=>E.hist l k n = some v
inductive VR (E:Env):AV → Value → Prop
 | int (k:IntKind) (n:Int):VR E (.int k n) (.int k n)
 | bool (b:Bool):VR E (.bool b) (.bool b)
 | str (l:List UInt8):VR E (.str l) (.string ⟨l.toArray⟩)
 | nilp:VR E .nilp (.pointer none)
 | ptr (l k off b:Nat) (h:E.m l k = some b):VR E (.ptr l k off) (.pointer (some ⟨b,off,none⟩))
 | ZA (cs:List AV) (b off:Nat) (c:Nat → Value) (hc:∀ j,j < cs.length → E.F b (off + j) = some (c j))
   (hv:∀ j (h:j < cs.length),VR E cs[j] (c j)):VR E (.ZA cs) (.pointer (some ⟨b,off,none⟩))
 | slnil (k:Nat) (o:Own) (a:Option Addr) (ho:JD E 0 (.slice a 0 0) 0 o) (ha:o ≠ .any → a = none):VR E (.sl k [] o) (.slice a 0 0)
 | sl (k:Nat) (xs:List AV) (o:Own) (b off cap:Nat) (c:Nat → Nat → Value) (hk:∀ i (h:i < xs.length),xs[i].cells.length = k)
   (hc:∀ i j,i < xs.length → j < k → E.F b (off + (i * k + j)) = some (c i j))
   (hv:∀ i (h:i < xs.length) j (h':j < xs[i].cells.length),VR E xs[i].cells[j] (c i j))
   (hcap:xs.length ≤ cap) (hm:xs.length ≤ maxLen) (ho:JD E xs.length (.slice (some ⟨b,off,none⟩) xs.length cap) cap o) :
   VR E (.sl k xs o) (.slice (some ⟨b,off,none⟩) xs.length cap)
 | nilf:VR E .nilf .nilFunc
 | fn (f:Fn) (caps:List AV) (vs:List Value) (hl:vs.length = caps.length) (hv:∀ i (h:i < caps.length) (h':i < vs.length),VR E caps[i] vs[i]):VR E (.fn f caps) (.func f #[] vs.toArray)
 | bfn (f:Fn) (caps:List AV) (vs:List Value) (hl:vs.length = caps.length) (hv:∀ i (h:i < caps.length) (h':i < vs.length),VR E caps[i] vs[i]):VR E (.bfn f caps) (.func f vs.toArray #[])
 | nilm:VR E .nilm (.map none)
 | map (l k b:Nat) (h:E.m l k = some b):VR E (.map l k) (.map (some b))
 | mnil (sz l k:Nat) (a:Option Addr) (h:E.hist l k 0 = some (.slice a 0 0)) (ha:∀ x,a = some x → x.spot = none):VR E (.msl sz l k 0) (.slice a 0 0)
 | msl (sz l k n g cap:Nat) (h:E.hist l k n = some (.slice (some ⟨g,0,none⟩) n cap)):VR E (.msl sz l k n) (.slice (some ⟨g,0,none⟩) n cap)
 | eptr (l k n off g cap:Nat) (h:E.hist l k n = some (.slice (some ⟨g,0,none⟩) n cap)):VR E (.eptr l k n off) (.pointer (some ⟨g,off,none⟩))
 | ssl (k:Nat) (xs ys:List AV) (b off cap:Nat) (c:Nat → Nat → Value) (hk:∀ i (h:i < (xs ++ ys).length),(xs ++ ys)[i].cells.length = k)
   (hc:∀ i j,i < (xs ++ ys).length → j < k → E.F b (off + (i * k + j)) = some (c i j))
   (hv:∀ i (h:i < (xs ++ ys).length) j (h':j < (xs ++ ys)[i].cells.length),VR E (xs ++ ys)[i].cells[j] (c i j))
   (hcap:(xs ++ ys).length ≤ cap) (hm:(xs ++ ys).length ≤ maxLen):VR E (.ssl k xs ys) (.slice (some ⟨b,off,none⟩) xs.length cap)
 | nili:VR E .nili .nilIface
 | Y8:VR E .Y8 (.slice none 0 0)
 | sln (k:Nat) (a:Addr) (cap:Nat) (h:cap = 0 ∨ a.spot = none):VR E (.sln k) (.slice (some a) 0 cap)
 | sub (sz l k n off m g cap:Nat) (h:E.hist l k n = some (.slice (some ⟨g,0,none⟩) n cap)) (hm:off + m ≤ n):VR E (.sub sz l k n off m) (.slice (some ⟨g,off * sz,none⟩) m (cap - off))
 | ifc (t:TypeId) (a:AV) (v:Value) (h:VR E a v):VR E (.ifc t a) (.iface t v)
 | agg (cs:List AV) (vs:List Value) (hl:vs.length = cs.length) (hv:∀ i (h:i < cs.length) (h':i < vs.length),VR E cs[i] vs[i]):VR E (.agg cs) (.agg vs.toArray)
 | tup (cs:List AV) (vs:List Value) (hl:vs.length = cs.length) (hv:∀ i (h:i < cs.length) (h':i < vs.length),VR E cs[i] vs[i]):VR E (.tup cs) (.tuple vs.toArray)
 | dead (v:Value):VR E .dead v
def VRs (E:Env) (as:List AV) (vs:List Value):Prop:=vs.length = as.length ∧ ∀ i (h:i < as.length) (h':i < vs.length),VR E as[i] vs[i]
theorem VRs.nil (E:Env):VRs E [] []:=⟨rfl,fun _ h=>absurd h (Nat.not_lt_zero _)⟩
theorem VRs.cons {E:Env} {a:AV} {v:Value} {as:List AV} {vs:List Value} (h:VR E a v) (hs:VRs E as vs):VRs E (a :: as) (v :: vs):=by
 refine ⟨by simp [hs.1],fun i h1 h2=>?_⟩
 cases i with
 | zero=>exact h
 | succ i=>exact hs.2 i (by simpa using h1) (by simpa using h2)
theorem VRs.YR {E:Env} {a:AV} {as:List AV} {vs:List Value} (h:VRs E (a :: as) vs):∃ v r,vs = v :: r ∧ VR E a v ∧ VRs E as r:=by
 obtain ⟨hl,hv⟩:=h
 cases vs with
 | nil=>simp at hl
 | cons v r =>
  refine ⟨v,r,rfl,hv 0 (by simp) (by simp),by simpa using hl,fun i h1 h2=>?_⟩
  exact hv (i + 1) (by simpa using h1) (by simpa using h2)
theorem VRs.of_nil {E:Env} {vs:List Value} (h:VRs E [] vs):vs = []:=by
 have:=h.1; simpa using this
theorem VRs.append {E:Env} {as bs:List AV} {vs us:List Value} (h:VRs E as vs) (h':VRs E bs us):VRs E (as ++ bs) (vs ++ us):=by
 induction as generalizing vs with
 | nil=>rw [h.of_nil]; exact h'
 | cons a as ih=>obtain ⟨v,r,rfl,hv,hr⟩:=h.YR; exact VRs.cons hv (ih hr)
theorem VRs.get {E:Env} {as:List AV} {vs:List Value} (h:VRs E as vs) (i:Nat) (hi:i < as.length):∃ v,vs[i]? = some v ∧ VR E as[i] v :=
 ⟨vs[i]'(by rw [h.1]; exact hi),by simp [h.1,hi],h.2 i hi (by rw [h.1]; exact hi)⟩
structure Env.le (n:Nat) (E E':Env):Prop where
 F:∀ b o v,E.F b o = some v → E'.F b o = some v
 m:∀ l k b,l < n → E.m l k = some b → E'.m l k = some b
 hist:∀ l k j v,l < n → E.hist l k j = some v → E'.hist l k j = some v
 qd:E'.qd = E.qd
theorem Env.le.refl (n:Nat) (E:Env):E.le n E:=⟨fun _ _ _ h=>h,fun _ _ _ _ h=>h,fun _ _ _ _ _ h=>h,rfl⟩
theorem Env.le.trans {n:Nat} {A B C:Env} (h:A.le n B) (h':B.le n C):A.le n C :=
 ⟨fun b o v x=>h'.F _ _ _ (h.F b o v x),fun l k b hl x=>h'.m _ _ _ hl (h.m l k b hl x),fun l k j v hl x=>h'.hist _ _ _ _ hl (h.hist l k j v hl x),h'.qd.trans h.qd⟩
theorem Env.le.mono {n n':Nat} {A B:Env} (h:A.le n B) (hn:n' ≤ n):A.le n' B :=
 ⟨h.F,fun l k b hl=>h.m l k b (Nat.lt_of_lt_of_le hl hn),fun l k j v hl=>h.hist l k j v (Nat.lt_of_lt_of_le hl hn),h.qd⟩
structure Env.norm (n:Nat) (E:Env):Prop where
 m:∀ l k,n ≤ l → E.m l k = none
 g:∀ l k,n ≤ l → E.g l k = none
 hist:∀ l k j,n ≤ l → E.hist l k j = none
theorem Env.norm.Jj {n:Nat} {E:Env} (h:E.norm n) {l k b:Nat} (hm:E.m l k = some b):l < n:=by
 rcases Nat.lt_or_ge l n with hl | hl
 ·exact hl
 ·rw [h.m l k hl] at hm; cases hm
theorem Env.norm.Xx {n:Nat} {E:Env} (h:E.norm n) {l k j:Nat} {v:Value} (hm:E.hist l k j = some v):l < n:=by
 rcases Nat.lt_or_ge l n with hl | hl
 ·exact hl
 ·rw [h.hist l k j hl] at hm; cases hm
theorem Env.norm.Zl3 {n:Nat} {E:Env} (h:E.norm n) {l k b:Nat} (hm:E.g l k = some b):l < n:=by
 rcases Nat.lt_or_ge l n with hl | hl
 ·exact hl
 ·rw [h.g l k hl] at hm; cases hm
theorem Env.norm.mono {n n':Nat} {E:Env} (h:E.norm n) (hn:n ≤ n'):E.norm n' :=
 ⟨fun l k hl=>h.m l k (Nat.le_trans hn hl),fun l k hl=>h.g l k (Nat.le_trans hn hl),fun l k j hl=>h.hist l k j (Nat.le_trans hn hl)⟩
theorem JD.mono {n N:Nat} {E E':Env} {v:Value} {c:Nat} {o:Own} (hn:E.norm n) (h:E.le n E') (ho:JD E N v c o):JD E' N v c o:=by
 cases o with
 | any=>exact ho
 | full=>exact ho
 | buf l k=>exact h.hist l k N v (hn.Xx ho) ho
theorem VR.mono {n:Nat} {E E':Env} (hn:E.norm n) (h:E.le n E') {a:AV} {v:Value} (hv:VR E a v):VR E' a v:=by
 induction hv with
 | int k n=>exact .int k n
 | bool b=>exact .bool b
 | str l=>exact .str l
 | nilp=>exact .nilp
 | ptr l k off b hm=>exact .ptr l k off b (h.m l k b (hn.Jj hm) hm)
 | ZA cs b off c hc _ ih=>exact .ZA cs b off c (fun j hj=>h.F _ _ _ (hc j hj)) ih
 | slnil k o a ho ha=>exact .slnil k o a (ho.mono hn h) ha
 | sl k xs o b off cap c hk hc _ hcap hm ho ih=>exact .sl k xs o b off cap c hk (fun i j hi hj=>h.F _ _ _ (hc i j hi hj)) ih hcap hm (ho.mono hn h)
 | nilf=>exact .nilf
 | fn f caps vs hl _ ih=>exact .fn f caps vs hl ih
 | bfn f caps vs hl _ ih=>exact .bfn f caps vs hl ih
 | nilm=>exact .nilm
 | map l k b hm=>exact .map l k b (h.m l k b (hn.Jj hm) hm)
 | mnil sz l k a hh ha=>exact .mnil sz l k a (h.hist _ _ _ _ (hn.Xx hh) hh) ha
 | msl sz l k n g cap hh=>exact .msl sz l k n g cap (h.hist _ _ _ _ (hn.Xx hh) hh)
 | eptr l k n off g cap hh=>exact .eptr l k n off g cap (h.hist _ _ _ _ (hn.Xx hh) hh)
 | ssl k xs ys b off cap c hk hc _ hcap hm ih=>exact .ssl k xs ys b off cap c hk (fun i j hi hj=>h.F _ _ _ (hc i j hi hj)) ih hcap hm
 | nili=>exact .nili
 | Y8=>exact .Y8
 | sln k a cap hc=>exact .sln k a cap hc
 | sub sz l k n off m g cap hh hm=>exact .sub sz l k n off m g cap (h.hist _ _ _ _ (hn.Xx hh) hh) hm
 | ifc t a v _ ih=>exact .ifc t a v ih
 | agg cs vs hl _ ih=>exact .agg cs vs hl ih
 | tup cs vs hl _ ih=>exact .tup cs vs hl ih
 | dead v=>exact .dead v
theorem VRs.mono {n:Nat} {E E':Env} (hn:E.norm n) (h:E.le n E') {as:List AV} {vs:List Value} (hv:VRs E as vs):VRs E' as vs :=
 ⟨hv.1,fun i h1 h2=>(hv.2 i h1 h2).mono hn h⟩
inductive Below (n:Nat):AV → Prop
 | int (k:IntKind) (i:Int):Below n (.int k i)
 | bool (b:Bool):Below n (.bool b)
 | str (l:List UInt8):Below n (.str l)
 | nilp:Below n .nilp
 | ptr (l k off:Nat) (h:l < n):Below n (.ptr l k off)
 | ZA (cs:List AV) (hv:∀ j (h:j < cs.length),Below n cs[j]):Below n (.ZA cs)
 | sl (k:Nat) (xs:List AV) (o:Own) (hv:∀ i (h:i < xs.length) j (h':j < xs[i].cells.length),Below n xs[i].cells[j])
   (ho:∀ l j,o = .buf l j → l < n):Below n (.sl k xs o)
 | nilf:Below n .nilf
 | fn (f:Fn) (caps:List AV) (hv:∀ i (h:i < caps.length),Below n caps[i]):Below n (.fn f caps)
 | bfn (f:Fn) (caps:List AV) (hv:∀ i (h:i < caps.length),Below n caps[i]):Below n (.bfn f caps)
 | nilm:Below n .nilm
 | map (l k:Nat) (h:l < n):Below n (.map l k)
 | msl (sz l k i:Nat) (h:l < n):Below n (.msl sz l k i)
 | eptr (l k i off:Nat) (h:l < n):Below n (.eptr l k i off)
 | ssl (k:Nat) (xs ys:List AV) (hv:∀ i (h:i < (xs ++ ys).length) j (h':j < (xs ++ ys)[i].cells.length),Below n (xs ++ ys)[i].cells[j]):Below n (.ssl k xs ys)
 | nili:Below n .nili
 | Y8:Below n .Y8
 | sln (k:Nat):Below n (.sln k)
 | sub (sz l k i off m:Nat) (h:l < n):Below n (.sub sz l k i off m)
 | ifc (t:TypeId) (a:AV) (h:Below n a):Below n (.ifc t a)
 | agg (cs:List AV) (hv:∀ i (h:i < cs.length),Below n cs[i]):Below n (.agg cs)
 | tup (cs:List AV) (hv:∀ i (h:i < cs.length),Below n cs[i]):Below n (.tup cs)
 | dead:Below n .dead
theorem Below.mono {n n':Nat} (hn:n ≤ n') {a:AV} (h:Below n a):Below n' a:=by
 induction h with
 | int k i=>exact .int k i
 | bool b=>exact .bool b
 | str l=>exact .str l
 | nilp=>exact .nilp
 | ptr l k off h=>exact .ptr l k off (Nat.lt_of_lt_of_le h hn)
 | ZA cs _ ih=>exact .ZA cs ih
 | sl k xs o _ ho ih=>exact .sl k xs o ih (fun l j e=>Nat.lt_of_lt_of_le (ho l j e) hn)
 | nilf=>exact .nilf
 | fn f caps _ ih=>exact .fn f caps ih
 | bfn f caps _ ih=>exact .bfn f caps ih
 | nilm=>exact .nilm
 | map l k h=>exact .map l k (Nat.lt_of_lt_of_le h hn)
 | msl sz l k i h=>exact .msl sz l k i (Nat.lt_of_lt_of_le h hn)
 | eptr l k i off h=>exact .eptr l k i off (Nat.lt_of_lt_of_le h hn)
 | ssl k xs ys _ ih=>exact .ssl k xs ys ih
 | nili=>exact .nili
 | Y8=>exact .Y8
 | sln k=>exact .sln k
 | sub sz l k i off m h=>exact .sub sz l k i off m (Nat.lt_of_lt_of_le h hn)
 | ifc t a _ ih=>exact .ifc t a ih
 | agg cs _ ih=>exact .agg cs ih
 | tup cs _ ih=>exact .tup cs ih
 | dead=>exact .dead
theorem VR.lvl {n:Nat} {E:Env} (hn:E.norm n) {a:AV} {v:Value} (hv:VR E a v):Below n a:=by
 induction hv with
 | int k n=>exact .int k n
 | bool b=>exact .bool b
 | str l=>exact .str l
 | nilp=>exact .nilp
 | ptr l k off b hm=>exact .ptr l k off (hn.Jj hm)
 | ZA cs b off c hc _ ih=>exact .ZA cs ih
 | slnil k o a ho ha=>exact .sl k [] o (fun i h=>absurd h (Nat.not_lt_zero _)) (fun l j e=>by subst e; exact hn.Xx ho)
 | sl k xs o b off cap c hk hc _ hcap hm ho ih=>exact .sl k xs o ih (fun l j e=>by subst e; exact hn.Xx ho)
 | nilf=>exact .nilf
 | fn f caps vs hl _ ih=>exact .fn f caps (fun i h=>ih i h (by omega))
 | bfn f caps vs hl _ ih=>exact .bfn f caps (fun i h=>ih i h (by omega))
 | nilm=>exact .nilm
 | map l k b hm=>exact .map l k (hn.Jj hm)
 | mnil sz l k a hh ha=>exact .msl _ _ _ _ (hn.Xx hh)
 | msl sz l k n g cap hh=>exact .msl _ _ _ _ (hn.Xx hh)
 | eptr l k n off g cap hh=>exact .eptr _ _ _ _ (hn.Xx hh)
 | ssl k xs ys b off cap c hk hc _ hcap hm ih=>exact .ssl k xs ys ih
 | nili=>exact .nili
 | Y8=>exact .Y8
 | sln k a cap hc=>exact .sln k
 | sub sz l k n off m g cap hh hm=>exact .sub _ _ _ _ _ _ (hn.Xx hh)
 | ifc t a v _ ih=>exact .ifc t a ih
 | agg cs vs hl _ ih=>exact .agg cs (fun i h=>ih i h (by omega))
 | tup cs vs hl _ ih=>exact .tup cs (fun i h=>ih i h (by omega))
 | dead v=>exact .dead
def Env.cut (n:Nat) (E:Env):Env :=
 { F:=E.F,m:=fun l k=>if l < n then E.m l k else none,hist:=fun l k j=>if l < n then E.hist l k j else none,g:=fun l k=>if l < n then E.g l k else none,qd:=E.qd }
theorem Env.ZfL (n:Nat) (E:Env):(E.cut n).norm n :=
 ⟨fun l k h=>if_neg (by omega),fun l k h=>if_neg (by omega),fun l k j h=>if_neg (by omega)⟩
theorem Env.Zf9 {n:Nat} {E E':Env} (h:E.le n E'):E.le n (E'.cut n) :=
 ⟨h.F,fun l k b hl hm=>by simp only [Env.cut,if_pos hl]; exact h.m l k b hl hm,fun l k j v hl hm=>by simp only [Env.cut,if_pos hl]; exact h.hist l k j v hl hm,h.qd⟩
theorem VR.cut {n:Nat} {E:Env} {a:AV} {v:Value} (hv:VR E a v) (hb:Below n a):VR (E.cut n) a v:=by
 induction hv with
 | int k n=>exact .int k n
 | bool b=>exact .bool b
 | str l=>exact .str l
 | nilp=>exact .nilp
 | ptr l k off b hm=>cases hb with | ptr _ _ _ hl=>exact .ptr l k off b (by simp only [Env.cut,if_pos hl]; exact hm)
 | ZA cs b off c hc _ ih=>cases hb with | ZA _ hb=>exact .ZA cs b off c hc (fun j h=>ih j h (hb j h))
 | slnil k o a ho ha =>
  cases hb with
  | sl _ _ _ _ hb =>
   refine .slnil k o a ?_ ha
   cases o with
   | any=>trivial
   | full=>exact ho
   | buf l j=>simp only [JD,Env.cut,if_pos (hb l j rfl)]; exact ho
 | sl k xs o b off cap c hk hc _ hcap hm ho ih =>
  cases hb with
  | sl _ _ _ hx hb =>
   refine .sl k xs o b off cap c hk hc (fun i h j h'=>ih i h j h' (hx i h j h')) hcap hm ?_
   cases o with
   | any=>trivial
   | full=>exact ho
   | buf l j=>simp only [JD,Env.cut,if_pos (hb l j rfl)]; exact ho
 | nilf=>exact .nilf
 | fn f caps vs hl _ ih=>cases hb with | fn _ _ hb=>exact .fn f caps vs hl (fun i h h'=>ih i h h' (hb i h))
 | bfn f caps vs hl _ ih=>cases hb with | bfn _ _ hb=>exact .bfn f caps vs hl (fun i h h'=>ih i h h' (hb i h))
 | nilm=>exact .nilm
 | map l k b hm=>cases hb with | map _ _ hl=>exact .map l k b (by simp only [Env.cut,if_pos hl]; exact hm)
 | mnil sz l k a hh ha=>cases hb with | msl _ _ _ _ hl=>exact .mnil _ _ _ _ (by simp only [Env.cut,if_pos hl]; exact hh) ha
 | msl sz l k n g cap hh=>cases hb with | msl _ _ _ _ hl=>exact .msl _ _ _ _ _ _ (by simp only [Env.cut,if_pos hl]; exact hh)
 | eptr l k n off g cap hh=>cases hb with | eptr _ _ _ _ hl=>exact .eptr _ _ _ _ _ _ (by simp only [Env.cut,if_pos hl]; exact hh)
 | ssl k xs ys b off cap c hk hc _ hcap hm ih=>cases hb with | ssl _ _ _ hx=>exact .ssl k xs ys b off cap c hk hc (fun i h j h'=>ih i h j h' (hx i h j h')) hcap hm
 | nili=>exact .nili
 | Y8=>exact .Y8
 | sln k a cap hc=>exact .sln k a cap hc
 | sub sz l k n off m g cap hh hm=>cases hb with | sub _ _ _ _ _ _ hl=>exact .sub _ _ _ _ _ _ _ _ (by simp only [Env.cut,if_pos hl]; exact hh) hm
 | ifc t a v _ ih=>cases hb with | ifc _ _ hb=>exact .ifc t a v (ih hb)
 | agg cs vs hl _ ih=>cases hb with | agg _ hb=>exact .agg cs vs hl (fun i h h'=>ih i h h' (hb i h))
 | tup cs vs hl _ ih=>cases hb with | tup _ hb=>exact .tup cs vs hl (fun i h h'=>ih i h h' (hb i h))
 | dead v=>exact .dead v
theorem VR.any {E:Env} {k:Nat} {xs:List AV} {o:Own} {v:Value} (h:VR E (.sl k xs o) v):VR E (.sl k xs .any) v:=by
 cases h with
 | slnil _ _ a ho ha=>exact .slnil k .any a trivial (fun h=>absurd rfl h)
 | sl _ _ _ b off cap c hk hc hv hcap hm ho=>exact .sl k xs .any b off cap c hk hc hv hcap hm trivial
theorem VR.ZeJ {E:Env} {k:Nat} {o:Own} {v:Value} (h:VR E (.sl k [] o) v):VR E .Y8 v ∨ VR E (.sln k) v:=by
 cases h with
 | slnil _ _ a ho ha=>cases a with
  | none=>exact .inl .Y8
  | some a=>exact .inr (.sln k a 0 (.inl rfl))
 | sl _ _ _ b off cap c hk hc hv hcap hm ho=>exact .inr (.sln k _ cap (.inr rfl))
theorem VR.ZjI {E:Env} {k:Nat} {v:Value} (h:VR E .Y8 v):VR E (.sl k [] .full) v:=by
 cases h; exact .slnil k .full none rfl (fun _=>rfl)
theorem VR.Zlx {E:Env} {k:Nat} {v:Value} (h:VR E (.sln k) v):VR E (.sl k [] .any) v:=by
 cases h with | sln _ a cap h =>
 rcases h with rfl | h
 ·exact .slnil k .any _ trivial (fun h=>absurd rfl h)
 ·obtain ⟨b,off,sp⟩:=a
  cases h
  exact .sl k [] .any b off cap (fun _ _=>undef) (fun i h=>absurd h (Nat.not_lt_zero _)) (fun i j h=>absurd h (Nat.not_lt_zero _)) (fun i h=>absurd h (Nat.not_lt_zero _)) (Nat.zero_le _) (Nat.zero_le _) trivial
theorem VR.one {E:Env} {a:AV} {v:Value} (h:VR E a v) (ha:a.one = true):v.oneCell' = true:=by
 cases h <;> first | rfl | (simp [AV.one] at ha)
theorem VR.cells {E:Env} {a:AV} {v:Value} (h:VR E a v) (ha:∀ c ∈ a.cells,c.one = true):VRs E a.cells v.cells.toList:=by
 cases h with
 | agg cs vs hl hv=>exact ⟨by simpa [Value.cells,AV.cells] using hl,by simpa [Value.cells,AV.cells] using hv⟩
 | tup cs vs hl hv=>simp [AV.cells,AV.one] at ha
 | dead v=>simp [AV.cells,AV.one] at ha
 | _=>exact VRs.cons (by constructor <;> assumption) (VRs.nil E)
end Go.Abs

/- The abstract heap, its relation to the model's world, abstract states, calls and code, and the rules for code without loops. No program, no condition. -/
namespace Go.Abs
inductive Zk where
 | box (cs:List AV)
 | map (es:List (AV × AV))
 | buf (e sz fr:Nat)
 | ZN (e sz:Nat) (cs:List AV) (n:Nat)
 | iter (l k since:Nat) (seen:List Nat)
 | var (b:Nat) (t:TypeId) (cs:List AV)
 | lrec (l N:Nat) (tm:List (Nat × AV)) (ps:Array Tmp) (ca cb:Code) (st:LoopState) (pend:Option Code)
def lkv:List (Nat × AV) → Nat → AV
 | [],_=>.dead
 | (i,v) :: r,t=>if i = t then v else lkv r t
def Zk.avs:Zk → List AV
 | .box cs=>cs
 | .map es=>es.map (·.1) ++ es.map (·.2)
 | .ZN _ _ cs _=>cs
 | .var _ _ cs=>cs
 | .lrec _ _ tm _ _ _ _ _=>tm.map fun p=>lkv tm p.1
 | _=>[]
def Zk.at_:Zk → List (Nat × Nat)
 | .iter l k _ _=>[(l,k)]
 | _=>[]
def Zk.isRec:Zk → Bool
 | .lrec _ _ _ _ _ _ _ _=>true
 | _=>false
def Zk.isBuf:Zk → Bool
 | .buf _ _ _=>true
 | .ZN _ _ _ _=>true
 | _=>false
def Zk.Below (n:Nat) (b:Zk):Prop:=(∀ a ∈ b.avs,Abs.Below n a) ∧ ∀ p ∈ b.at_,p.1 < n
abbrev Zf:=Nat → Nat → Option Zk
def Zf.upd (H:Zf) (l k:Nat) (b:Zk):Zf:=fun l' k'=>if l' = l ∧ k' = k then some b else H l' k'
def Env.own (E:Env) (b:Nat):Prop:=(∃ l k,E.m l k = some b) ∨ (∃ l k,E.g l k = some b)
def Zl5 (E:Env) (w:World) (cs:List AV) (b:Nat):Prop:=∃ c t,w.heap[b]? = some (.cells c t (0,0)) ∧ VRs E cs c.toList
def ZlM (E:Env) (w:World) (es:List (AV × AV)) (b:Nat):Prop :=
 ∃ ent:Array MapEntry,w.heap[b]? = some (.map ent es.length) ∧ ent.size = es.length ∧
  ∀ i (h:i < es.length) (h':i < ent.size),VR E es[i].1 ent[i].key ∧ VR E es[i].2 ent[i].val ∧ ent[i].born = i
def ZlO (E:Env) (w:World) (l k e sz fr:Nat):Prop :=
 ∃ v,E.hist l k fr = some v ∧ (∀ j,fr < j → E.hist l k j = none) ∧
  ((∃ a,v = .slice a 0 0 ∧ fr = 0 ∧ E.g l k = none) ∨
   ∃ g cap cur,v = .slice (some ⟨g,0,none⟩) fr cap ∧ E.g l k = some g ∧ w.heap[g]? = some (.cells cur e (0,0)) ∧ fr ≤ cap ∧ cap ≤ maxLen ∧ cur.size = cap * sz ∧
    ∀ o,fr * sz ≤ o → E.F g o = none)
def Zkx (E:Env) (w:World) (l k e sz:Nat) (cs:List AV) (n:Nat):Prop :=
 cs.length = n * sz ∧ ∃ v,E.hist l k n = some v ∧ (∀ j,n < j → E.hist l k j = none) ∧
  ((∃ a,v = .slice a 0 0 ∧ n = 0 ∧ E.g l k = none) ∨
   ∃ g cap cur,v = .slice (some ⟨g,0,none⟩) n cap ∧ E.g l k = some g ∧ w.heap[g]? = some (.cells cur e (0,0)) ∧ n ≤ cap ∧ cap ≤ maxLen ∧ cur.size = cap * sz ∧
    (∀ o,E.F g o = none) ∧ VRs E cs (cur.toList.take (n * sz)))
theorem lkv_mem:∀ {tm:List (Nat × AV)} {t:Nat},lkv tm t = .dead ∨ (t,lkv tm t) ∈ tm
 | [],t=>.inl rfl
 | (i,v) :: r,t=>by
  simp only [lkv]
  split
  ·rename_i h; subst h; exact .inr (by simp)
  ·rcases lkv_mem (tm:=r) (t:=t) with h | h
   ·exact .inl h
   ·exact .inr (List.mem_cons_of_mem _ h)
def Zmv (E:Env) (w:World) (b N:Nat) (tm:List (Nat × AV)) (ps:Array Tmp) (ca cb:Code) (st:LoopState) (pend:Option Code):Prop :=
 ∃ rc:Loop,w.heap[b]? = some (.loop rc) ∧ rc.params = ps ∧ rc.assign = ca ∧ rc.body = cb ∧ rc.state = st ∧ rc.pending = pend ∧ rc.tmps.size = N ∧ ∀ t,VR E (lkv tm t) (rc.tmps.getD t undef)
def Zct (E:Env) (w:World) (l k:Nat):Zk → Prop
 | .box cs=>∃ b,E.m l k = some b ∧ Zl5 E w cs b
 | .map es=>∃ b,E.m l k = some b ∧ ZlM E w es b
 | .buf e sz fr=>ZlO E w l k e sz fr ∧ E.m l k = none
 | .ZN e sz cs n=>Zkx E w l k e sz cs n ∧ E.m l k = none
 | .iter l' k' since seen=>∃ b b',E.m l k = some b ∧ E.m l' k' = some b' ∧ w.heap[b]? = some (.mapIter (some b') since seen.toArray since)
 | .var b t cs=>E.qd = false ∧ E.m l k = some b ∧ ∃ c,w.heap[b]? = some (.cells c t (0,0)) ∧ VRs E cs c.toList
 | .lrec b N tm ps ca cb st pend=>E.m l k = some b ∧ Zmv E w b N tm ps ca cb st pend
theorem Zct.keep {E E':Env} {w w':World} {l k:Nat} {b:Zk} (h:Zct E w l k b) (hm:E'.m l k = E.m l k) (hg:E'.g l k = E.g l k) (hh:∀ j,E'.hist l k j = E.hist l k j)
  (hi:∀ p ∈ b.at_,∀ r,E.m p.1 p.2 = some r → E'.m p.1 p.2 = some r) (hb:∀ r,E.m l k = some r ∨ E.g l k = some r → w'.heap[r]? = w.heap[r]?)
  (hF:∀ g o,E.g l k = some g → E.F g o = none → E'.F g o = none) (hv:∀ a ∈ b.avs,∀ v,VR E a v → VR E' a v) (hqd:E'.qd = E.qd:=by rfl):Zct E' w' l k b:=by
 cases b with
 | box cs =>
  obtain ⟨r,h1,c,t,h2,h3⟩:=h
  exact ⟨r,hm.trans h1,c,t,by rw [hb r (.inl h1)]; exact h2,h3.1,fun i x y=>hv _ (by simpa [Zk.avs] using List.getElem_mem x) _ (h3.2 i x y)⟩
 | map es =>
  obtain ⟨r,h1,ent,h2,h3,h4⟩:=h
  refine ⟨r,hm.trans h1,ent,by rw [hb r (.inl h1)]; exact h2,h3,fun i x y=>?_⟩
  obtain ⟨q1,q2,q3⟩:=h4 i x y
  exact ⟨hv _ (List.mem_append_left _ (List.mem_map.2 ⟨_,List.getElem_mem x,rfl⟩)) _ q1,hv _ (List.mem_append_right _ (List.mem_map.2 ⟨_,List.getElem_mem x,rfl⟩)) _ q2,q3⟩
 | buf e sz fr =>
  obtain ⟨⟨v,h1,h2,h3⟩,h4⟩:=h
  refine ⟨⟨v,(hh fr).trans h1,fun j hj=>(hh j).trans (h2 j hj),?_⟩,hm.trans h4⟩
  rcases h3 with ⟨a,q1,q2,q3⟩ | ⟨g,cap,cur,q1,q2,q3,q4,q5,q6,q7⟩
  ·exact .inl ⟨a,q1,q2,hg.trans q3⟩
  ·exact .inr ⟨g,cap,cur,q1,hg.trans q2,by rw [hb g (.inr q2)]; exact q3,q4,q5,q6,fun o ho=>hF g o q2 (q7 o ho)⟩
 | ZN e sz cs n =>
  obtain ⟨⟨h0,v,h1,h2,h3⟩,h4⟩:=h
  refine ⟨⟨h0,v,(hh n).trans h1,fun j hj=>(hh j).trans (h2 j hj),?_⟩,hm.trans h4⟩
  rcases h3 with ⟨a,q1,q2,q3⟩ | ⟨g,cap,cur,q1,q2,q3,q4,q5,q6,q7,q8⟩
  ·exact .inl ⟨a,q1,q2,hg.trans q3⟩
  ·exact .inr ⟨g,cap,cur,q1,hg.trans q2,by rw [hb g (.inr q2)]; exact q3,q4,q5,q6,fun o=>hF g o q2 (q7 o),q8.1,fun i x y=>hv _ (by simpa [Zk.avs] using List.getElem_mem x) _ (q8.2 i x y)⟩
 | iter l' k' since seen =>
  obtain ⟨r,r',h1,h2,h3⟩:=h
  exact ⟨r,r',hm.trans h1,hi (l',k') (by simp [Zk.at_]) r' h2,by rw [hb r (.inl h1)]; exact h3⟩
 | var b t cs =>
  obtain ⟨h0,h1,c,h2,h3⟩:=h
  exact ⟨hqd.trans h0,hm.trans h1,c,by rw [hb b (.inl h1)]; exact h2,h3.1,fun i x y=>hv _ (by simpa [Zk.avs] using List.getElem_mem x) _ (h3.2 i x y)⟩
 | lrec b N tm ps ca cb st pend =>
  obtain ⟨h1,rc,h2,h3,h4,h5,h6,h7,h8,h9⟩:=h
  refine ⟨hm.trans h1,rc,by rw [hb b (.inl h1)]; exact h2,h3,h4,h5,h6,h7,h8,fun t=>?_⟩
  rcases lkv_mem (tm:=tm) (t:=t) with hd | hd
  ·rw [hd]; exact .dead _
  ·exact hv _ (by simp only [Zk.avs]; exact List.mem_map.2 ⟨_,hd,rfl⟩) _ (h9 t)
structure ZJ (n:Nat) (H:Zf) (E:Env) (w:World):Prop where
 norm:E.norm n
 F:∀ b o v,E.F b o = some v → w.cell? ⟨b,o,none⟩ = some v
 blk:∀ l k b,l < n → H l k = some b → Zct E w l k b
 dom:∀ l k,l < n → H l k = none → E.m l k = none ∧ E.g l k = none ∧ ∀ j,E.hist l k j = none
 nobuf:∀ l k,E.g l k ≠ none → ∃ b,H l k = some b ∧ b.isBuf = true
 inj:∀ l k l' k' b,E.m l k = some b → E.m l' k' = some b → l = l' ∧ k = k'
 injg:∀ l k l' k' b,E.g l k = some b → E.g l' k' = some b → l = l' ∧ k = k'
 mg:∀ l k l' k' b,E.m l k = some b → E.g l' k' = some b → False
 mF:∀ l k b o,E.m l k = some b → E.F b o = none
 lt:∀ b,E.own b → b < w.heap.size
theorem ZJ.box {n:Nat} {H:Zf} {E:Env} {w:World} (h:ZJ n H E w) (l k:Nat) (cs:List AV) (hl:l < n) (hb:H l k = some (.box cs)):∃ b,E.m l k = some b ∧ Zl5 E w cs b:=h.blk l k _ hl hb
theorem ZJ.map {n:Nat} {H:Zf} {E:Env} {w:World} (h:ZJ n H E w) (l k:Nat) (es:List (AV × AV)) (hl:l < n) (hb:H l k = some (.map es)):∃ b,E.m l k = some b ∧ ZlM E w es b:=h.blk l k _ hl hb
theorem ZJ.buf {n:Nat} {H:Zf} {E:Env} {w:World} (h:ZJ n H E w) (l k e sz fr:Nat) (hl:l < n) (hb:H l k = some (.buf e sz fr)):ZlO E w l k e sz fr ∧ E.m l k = none:=h.blk l k _ hl hb
theorem ZJ.ZN {n:Nat} {H:Zf} {E:Env} {w:World} (h:ZJ n H E w) (l k e sz:Nat) (cs:List AV) (i:Nat) (hl:l < n) (hb:H l k = some (.ZN e sz cs i)):Zkx E w l k e sz cs i ∧ E.m l k = none:=h.blk l k _ hl hb
structure Ext (n:Nat) (E:Env) (w:World) (E':Env) (w':World):Prop where
 le:E.le n E'
 os:w'.os = w.os
 tape:w'.tape = w.tape
 output:w'.output = w.output
 drawn:E.qd = true → w.drawn ≤ w'.drawn
 size:w.heap.size ≤ w'.heap.size
 block:∀ b,b < w.heap.size → ¬ E.own b → w'.heap[b]? = w.heap[b]?
 own:∀ b,b < w.heap.size → E'.own b → E.own b
theorem Ext.refl (n:Nat) (E:Env) (w:World):Ext n E w E w:=⟨.refl n E,rfl,rfl,rfl,fun _=>Nat.le_refl _,Nat.le_refl _,fun _ _ _=>rfl,fun _ _ h=>h⟩
theorem Ext.trans {n:Nat} {A B C:Env} {u v w:World} (h:Ext n A u B v) (h':Ext n B v C w):Ext n A u C w :=
 ⟨h.le.trans h'.le,h'.os.trans h.os,h'.tape.trans h.tape,h'.output.trans h.output,fun hq=>Nat.le_trans (h.drawn hq) (h'.drawn (h.le.qd.trans hq)),Nat.le_trans h.size h'.size,
  fun b hb ho=>(h'.block b (Nat.lt_of_lt_of_le hb h.size) (fun x=>ho (h.own b hb x))).trans (h.block b hb ho),
  fun b hb ho=>h.own b hb (h'.own b (Nat.lt_of_lt_of_le hb h.size) ho)⟩
theorem Ext.mono {n n':Nat} {A B:Env} {u v:World} (h:Ext n A u B v) (hn:n' ≤ n):Ext n' A u B v :=
 ⟨h.le.mono hn,h.os,h.tape,h.output,h.drawn,h.size,h.block,h.own⟩
theorem ZJ.congr {n:Nat} {H H':Zf} {E:Env} {w:World} (h:ZJ n H E w) (he:∀ l k,l < n → H' l k = H l k):ZJ n H' E w where
 norm:=h.norm
 F:=h.F
 blk l k b hl hH:=h.blk l k b hl (by rw [← he l k hl]; exact hH)
 dom l k hl hH:=h.dom l k hl (by rw [← he l k hl]; exact hH)
 nobuf l k hg:=by
  have hl:l < n:=by
   cases hx:E.g l k with
   | none=>exact absurd hx hg
   | some b=>exact h.norm.Zl3 hx
  rw [he l k hl]; exact h.nobuf l k hg
 inj:=h.inj
 injg:=h.injg
 mg:=h.mg
 mF:=h.mF
 lt:=h.lt
theorem Zct.lvl {n:Nat} {E:Env} {w:World} {l k:Nat} {b:Zk} (hn:E.norm n) (h:Zct E w l k b):b.Below n:=by
 cases b with
 | box cs =>
  obtain ⟨r,_,c,t,_,hv⟩:=h
  refine ⟨fun a ha=>?_,by simp [Zk.at_]⟩
  obtain ⟨i,hi,rfl⟩:=List.getElem_of_mem ha
  exact (hv.2 i hi (by rw [hv.1]; exact hi)).lvl hn
 | map es =>
  obtain ⟨r,_,ent,_,hs,hv⟩:=h
  refine ⟨fun a ha=>?_,by simp [Zk.at_]⟩
  rcases List.mem_append.1 ha with ha | ha <;> obtain ⟨x,hx,rfl⟩:=List.mem_map.1 ha <;> obtain ⟨i,hi,rfl⟩:=List.getElem_of_mem hx
  ·exact (hv i hi (by omega)).1.lvl hn
  ·exact (hv i hi (by omega)).2.1.lvl hn
 | buf e sz fr=>exact ⟨by simp [Zk.avs],by simp [Zk.at_]⟩
 | ZN e sz cs i =>
  obtain ⟨⟨h0,v,_,_,h3⟩,_⟩:=h
  refine ⟨fun a ha=>?_,by simp [Zk.at_]⟩
  obtain ⟨j,hj,rfl⟩:=List.getElem_of_mem ha
  rcases h3 with ⟨a,_,q2,_⟩ | ⟨g,cap,cur,_,_,_,_,_,_,_,q8⟩
  ·simp only [Zk.avs] at hj; subst q2; simp at h0; simp [h0] at hj
  ·exact (q8.2 j hj (by rw [q8.1]; exact hj)).lvl hn
 | iter l' k' since seen =>
  obtain ⟨r,r',_,h2,_⟩:=h
  exact ⟨by simp [Zk.avs],fun p hp=>by simp [Zk.at_] at hp; subst hp; exact hn.Jj h2⟩
 | var b t cs =>
  obtain ⟨_,r,c,_,hv⟩:=h
  refine ⟨fun a ha=>?_,by simp [Zk.at_]⟩
  obtain ⟨i,hi,rfl⟩:=List.getElem_of_mem ha
  exact (hv.2 i hi (by rw [hv.1]; exact hi)).lvl hn
 | lrec b N tm ps ca cb st pend =>
  obtain ⟨_,rc,_,_,_,_,_,_,_,h9⟩:=h
  refine ⟨fun a ha=>?_,by simp [Zk.at_]⟩
  simp only [Zk.avs] at ha
  obtain ⟨p,hp,rfl⟩:=List.mem_map.1 ha
  exact (h9 p.1).lvl hn
theorem ZJ.out {n:Nat} {H:Zf} {E:Env} {w:World} (h:ZJ n H E w) {l k:Nat} {b:Zk} (hl:l < n) (hb:H l k = some b):b.Below n:=(h.blk l k b hl hb).lvl h.norm
structure Zh where
 tmps:List (Nat × AV)
 L:List (Nat × Zk)
 H:Zf
def lkb:List (Nat × Zk) → Nat → Option Zk
 | [],_=>none
 | (i,v) :: r,t=>if i = t then some v else lkb r t
def full (n:Nat) (L:List (Nat × Zk)) (H:Zf):Zf:=fun l k=>if l = n then lkb L k else H l k
structure Fm where
 ro:Option Nat
 B:Nat
def fr (ro:Option Nat):Fence:={ fn:=fun _=>True,depth:=none,alive:=false,round:=ro }
def mark (D:Nat):Deferred:={ target:=.collected D,args:=#[] }
def Zcu (B:Nat) (E:Env) (ds:List Deferred) (w:World):Prop :=
 B ≤ w.heap.size ∧ ∃ l:List Nat,ds = l.map mark ∧ l.Nodup ∧ ∀ D ∈ l,B ≤ D ∧ w.heap[D]? = some (.deferred (some [])) ∧ ¬ E.own D
theorem Zcu.nil {B:Nat} (E:Env) {w:World} (h:B ≤ w.heap.size):Zcu B E [] w:=⟨h,[],rfl,List.nodup_nil,fun _ h=>by cases h⟩
theorem Zcu.ext {B n:Nat} {E E':Env} {ds:List Deferred} {w w':World} (h:Zcu B E ds w) (hx:Ext n E w E' w'):Zcu B E' ds w':=by
 obtain ⟨h0,l,h1,h2,h3⟩:=h
 refine ⟨Nat.le_trans h0 hx.size,l,h1,h2,fun D hD=>?_⟩
 obtain ⟨a1,a2,a3⟩:=h3 D hD
 have hlt:D < w.heap.size:=(Array.getElem?_eq_some_iff.1 a2).1
 exact ⟨a1,(hx.block D hlt a3).trans a2,fun ho=>a3 (hx.own D hlt ho)⟩
theorem Zcu.sub {B:Nat} {E E':Env} {ds:List Deferred} {w:World} (h:Zcu B E ds w) (ho:∀ b,E'.own b → E.own b):Zcu B E' ds w:=by
 obtain ⟨h0,l,h1,h2,h3⟩:=h
 exact ⟨h0,l,h1,h2,fun D hD=>⟨(h3 D hD).1,(h3 D hD).2.1,fun h=>(h3 D hD).2.2 (ho D h)⟩⟩
structure WZ (B n N:Nat) (s:Zh) (E:Env) (a:Act) (w:World):Prop where
 size:a.tmps.size = N
 defs:Zcu B E a.defers w
 tmps:∀ t,VR E (lkv s.tmps t) (a.tmps.getD t undef)
 heap:ZJ (n + 1) (full n s.L s.H) E w
 out:∀ l k b,l < n → s.H l k = some b → b.Below n
def AC (P:Program) (φ:Fm) (n N:Nat) (c:Code) (Q:Exit → Zh → Prop) (s:Zh):Prop :=
 ∀ E w a,WZ φ.B n N s E a w → c.wpIn (fr φ.ro) 0 P (fun e a' w'=>∃ s' E',Q e s' ∧ WZ φ.B n N s' E' a' w' ∧ Ext n E w E' w') a w
def Zr (P:Program) (n:Nat) (f:FuncId) (args:List AV) (H:Zf) (Q:AV → Zf → Prop):Prop :=
 ∀ E w vs,ZJ n H E w → VRs E args vs →
  Calls P f vs.toArray w fun e w'=>∃ r v H' E',e = .returned v ∧ Q r H' ∧ VR E' r v ∧ ZJ n H' E' w' ∧ Ext n E w E' w'
def PC (P:Program) (n:Nat) (f:FuncId) (args:List AV) (H:Zf) (r:AV):Prop:=Zr P n f args H fun r' H'=>r' = r ∧ H' = H
def Pure (P:Program) (f:FuncId) (args:List AV) (r:AV):Prop:=∀ n H,PC P n f args H r
theorem Zr.mono {P:Program} {n:Nat} {f:FuncId} {args:List AV} {H:Zf} {Q Q':AV → Zf → Prop} (h:Zr P n f args H Q)
  (hq:∀ r H',Q r H' → Q' r H'):Zr P n f args H Q':=fun E w vs hr hv =>
 (h E w vs hr hv).mono fun e w' ⟨r,v,H',E',he,hQ,rest⟩=>⟨r,v,H',E',he,hq _ _ hQ,rest⟩
theorem AC.mono {P:Program} {φ:Fm} {n N:Nat} {c:Code} {Q Q':Exit → Zh → Prop} {s:Zh} (h:AC P φ n N c Q s) (hq:∀ e s',Q e s' → Q' e s'):AC P φ n N c Q' s :=
 fun E w a hs=>wpIn_mono (h E w a hs) fun e a' w' ⟨s',E',hQ,rest⟩=>⟨s',E',hq _ _ hQ,rest⟩
theorem AC.run {P:Program} {φ:Fm} {n N:Nat} {c:Code} {Q:Exit → Zh → Prop} {s:Zh} (h:AC P φ n N c Q s) {E0 E:Env} {w0 w:World} {a:Act}
  (hs:WZ φ.B n N s E a w) (hx:Ext n E0 w0 E w):c.wpIn (fr φ.ro) 0 P (fun e a' w'=>∃ s' E',Q e s' ∧ WZ φ.B n N s' E' a' w' ∧ Ext n E0 w0 E' w') a w :=
 wpIn_mono (h E w a hs) fun e a' w' ⟨s',E',hQ,hr,he⟩=>⟨s',E',hQ,hr,hx.trans he⟩
theorem AC.seq {P:Program} {φ:Fm} {n N:Nat} {x y:Code} {Q:Exit → Zh → Prop} {s:Zh}
  (h:AC P φ n N x (fun e s'=>match e with | .normal=>AC P φ n N y Q s' | e=>Q e s') s):AC P φ n N (.seq x y) Q s:=fun E w a hs=>by
 refine wpIn_seq (wpIn_mono (h E w a hs) ?_)
 rintro e a' w' ⟨s',E',hQ,hr,he⟩
 cases e with
 | normal=>exact AC.run hQ hr he
 | _=>exact ⟨s',E',hQ,hr,he⟩
theorem AC.block {P:Program} {φ:Fm} {n N:Nat} {id:Nat} {c:Code} {Q:Exit → Zh → Prop} {s:Zh}
  (h:AC P φ n N c (fun e s'=>match e with | .exit id'=>if id' = id then Q .normal s' else Q (.exit id') s' | e=>Q e s') s):AC P φ n N (.block id c) Q s:=fun E w a hs=>by
 refine wpIn_block (wpIn_mono (h E w a hs) ?_)
 rintro e a' w' ⟨s',E',hQ,hr,he⟩
 cases e with
 | exit id' =>
  simp only [Exit.inBlock]
  by_cases hid:id' = id
  ·simp only [hid,if_true] at hQ ⊢; exact ⟨s',E',hQ,hr,he⟩
  ·simp only [hid,if_false] at hQ ⊢; exact ⟨s',E',hQ,hr,he⟩
 | _=>exact ⟨s',E',hQ,hr,he⟩
theorem AC.skip {P:Program} {φ:Fm} {n N:Nat} {Q:Exit → Zh → Prop} {s:Zh} (h:Q .normal s):AC P φ n N .skip Q s :=
 fun E w _ hs=>wpIn_skip ⟨s,E,h,hs,.refl n E w⟩
theorem AC.exit {P:Program} {φ:Fm} {n N id:Nat} {Q:Exit → Zh → Prop} {s:Zh} (h:Q (.exit id) s):AC P φ n N (.exit id) Q s :=
 fun E w _ hs=>wpIn_exit ⟨s,E,h,hs,.refl n E w⟩
theorem AC.ret {P:Program} {φ:Fm} {n N:Nat} {Q:Exit → Zh → Prop} {s:Zh} (h:Q .ret s):AC P φ n N .ret Q s :=
 fun E w _ hs=>wpIn_ret ⟨s,E,h,hs,.refl n E w⟩
inductive Itm where
 | code (c:Code)
 | blk (id:Nat)
def AX (P:Program) (φ:Fm) (n N:Nat) (Q:Exit → Zh → Prop):List Itm → Exit → Zh → Prop
 | [],e,s=>Q e s
 | .code d :: k,e,s=>match e with
  | .normal=>AC P φ n N d (AX P φ n N Q k) s
  | e=>AX P φ n N Q k e s
 | .blk id :: k,e,s=>match e with
  | .exit id'=>if id' = id then AX P φ n N Q k .normal s else AX P φ n N Q k (.exit id') s
  | e=>AX P φ n N Q k e s
def AK (P:Program) (φ:Fm) (n N:Nat) (k:List Itm) (Q:Exit → Zh → Prop) (s:Zh):Prop:=AX P φ n N Q k .normal s
def JJ (id:Nat):List Itm → Option (List Itm)
 | []=>none
 | .blk j :: k=>if id = j then some k else JJ id k
 | .code _ :: k=>JJ id k
section
variable {P:Program} {φ:Fm} {n N:Nat} {Q:Exit → Zh → Prop} {s:Zh} {k k':List Itm}
theorem ZaX (h:Q .ret s):∀ k,AX P φ n N Q k .ret s
 | []=>h
 | .code _ :: k=>ZaX h k
 | .blk _ :: k=>ZaX h k
theorem ZeT {id:Nat}:∀ {k:List Itm},JJ id k = some k' → AK P φ n N k' Q s → AX P φ n N Q k (.exit id) s
 | [],h,_=>by simp [JJ] at h
 | .code _ :: k,h,hk=>ZeT (k:=k) h hk
 | .blk j :: k,h,hk=>by
  simp only [JJ] at h
  by_cases hj:id = j
  ·simp only [hj,if_true,Option.some.injEq] at h; subst h
   simp only [AX,hj,if_true]; exact hk
  ·simp only [hj,if_false] at h
   simp only [AX,hj,if_false]; exact ZeT (k:=k) h hk
theorem Zk1 {a b:Code} (h:AK P φ n N (.code a :: .code b :: k) Q s):AK P φ n N (.code (.seq a b) :: k) Q s :=
 AC.seq (AC.mono h fun e s' hq=>by cases e <;> exact hq)
theorem Zi2 {id:Nat} {c:Code} (h:AK P φ n N (.code c :: .blk id :: k) Q s):AK P φ n N (.code (.block id c) :: k) Q s :=
 AC.block (AC.mono h fun e s' hq=>by cases e <;> exact hq)
theorem ZjJ (h:AK P φ n N k Q s):AK P φ n N (.code .skip :: k) Q s:=AC.skip h
theorem ZlG {id:Nat} (h:AK P φ n N k Q s):AK P φ n N (.blk id :: k) Q s:=h
theorem Zix (h:Q .ret s):AK P φ n N (.code .ret :: k) Q s:=AC.ret (ZaX h k)
theorem JG {Q':Exit → Zh → Prop} (hq:∀ e s',Q e s' → Q' e s'):∀ {k:List Itm} {e:Exit} {s:Zh},AX P φ n N Q k e s → AX P φ n N Q' k e s
 | [],_,_,h=>hq _ _ h
 | .code _ :: k,e,s,h=>by
  cases e with
  | normal=>exact AC.mono h fun e s'=>JG hq (k:=k)
  | _=>exact JG hq (k:=k) h
 | .blk id :: k,e,s,h=>by
  cases e with
  | exit id' =>
   simp only [AX] at h ⊢
   split at h
   ·rename_i he; simp only [he,if_true]; exact JG hq (k:=k) h
   ·rename_i he; simp only [he,if_false]; exact JG hq (k:=k) h
  | _=>exact JG hq (k:=k) h
end
def AV.ofValue:Value → AV
 | .int k n=>.int k n
 | .bool b=>.bool b
 | .string s=>.str s.data.toList
 | .pointer none=>.nilp
 | .slice none n c=>if n = 0 ∧ c = 0 then .sl 0 [] .full else .dead
 | .nilFunc=>.nilf
 | .map none=>.nilm
 | .func f a b=>if a.size = 0 ∧ b.size = 0 then .fn f [] else .dead
 | _=>.dead
theorem ZcL (E:Env) (v:Value):VR E (.ofValue v) v:=by
 cases v with
 | int k n=>exact .int _ _
 | bool b=>exact .bool _
 | string s =>
  have:s = ⟨s.data.toList.toArray⟩:=by simp
  simp only [AV.ofValue]
  rw [this]; exact .str _
 | pointer a=>cases a with
  | none=>exact .nilp
  | some a=>exact .dead _
 | slice a n c=>cases a with
  | none =>
   simp only [AV.ofValue]
   split
   ·rename_i h; obtain ⟨rfl,rfl⟩:=h; exact .slnil 0 .full none rfl (fun _=>rfl)
   ·exact .dead _
  | some a=>exact .dead _
 | nilFunc=>exact .nilf
 | map r=>cases r with
  | none=>exact .nilm
  | some r=>exact .dead _
 | func f a b =>
  simp only [AV.ofValue]
  split
  ·rename_i h
   obtain ⟨h1,h2⟩:=h
   have e1:a = #[]:=Array.eq_empty_of_size_eq_zero h1
   have e2:b = #[]:=Array.eq_empty_of_size_eq_zero h2
   subst e1 e2
   exact VR.fn _ [] [] rfl (fun i h=>absurd h (Nat.not_lt_zero _))
  ·exact .dead _
 | _=>exact .dead _
def Zh.ev (s:Zh):Operand → AV
 | .tmp t=>lkv s.tmps t
 | .const v=>.ofValue v
 | .global _=>.dead
 | .func f=>.fn (.func f) []
def evT (tm:List (Nat × AV)):Operand → AV
 | .tmp t=>lkv tm t
 | .const v=>.ofValue v
 | .global _=>.dead
 | .func f=>.fn (.func f) []
theorem ZiD {E:Env} {tm:List (Nat × AV)} {a:Act} (h:∀ t,VR E (lkv tm t) (a.tmps.getD t undef)) (x:Operand):VR E (evT tm x) (a.eval x):=by
 cases x with
 | tmp t=>exact h t
 | const v=>exact ZcL E v
 | global g=>exact .dead _
 | func f=>exact VR.fn _ [] [] rfl (fun i h=>absurd h (Nat.not_lt_zero _))
theorem Zhe {P:Program} {φ:Fm} {n N:Nat} {Q:Exit → Zh → Prop} {s:Zh} {k:List Itm} {c:Operand} {x y:Code} {t:Bool} (hc:evT s.tmps c = .bool t)
  (ht:t = true → AK P φ n N (.code x :: k) Q s) (hf:t = false → AK P φ n N (.code y :: k) Q s):AK P φ n N (.code (.cond c x y) :: k) Q s:=fun E w a hs=>by
 have hv:=ZiD hs.tmps c
 rw [hc] at hv
 cases hb:a.eval c <;> rw [hb] at hv <;> cases hv
 exact wpIn_cond_split hb (fun h=>ht h E w a hs) (fun h=>hf h E w a hs)
def AWk (n N:Nat) (s s':Zh):Prop:=∀ B E w a,WZ B n N s E a w → ∃ E',WZ B n N s' E' a w ∧ Ext n E w E' w
theorem Zka {P:Program} {φ:Fm} {n N:Nat} {c:Code} {Q:Exit → Zh → Prop} {s s':Zh}
  (hw:AWk n N s s') (h:AC P φ n N c Q s'):AC P φ n N c Q s:=fun E w a hs=>by
 obtain ⟨E',hs',hx⟩:=hw _ E w a hs
 exact AC.run h hs' hx
end Go.Abs

/- Regions: operations in the text's order, and in whatever order the region's edges allow. No program, no condition. -/
namespace Go.Abs
def Wi (P:Program) (m:Nat) (o:Oper) (ρ:Operand → AV) (H:Zf) (v:AV) (H':Zf):Prop :=
 ∀ E w (a:Act) (Q:Exit → Act → World → Prop) (K:Act → World → Prop),ZJ m H E w → (∀ x ∈ o.op.operands,VR E (ρ x) (a.eval x)) →
  (∀ E' w' cv,VR E' v cv → ZJ m H' E' w' → Ext m E w E' w' → K (a.put o.dst cv) w') → ∀ ro,o.wpIn (fr ro) 0 P a w K Q
def YD (ops:List Oper) (tm:List (Nat × AV)) (o:Oper):Option Bool :=
 match o.guard with
 | none=>some true
 | some (j,want)=>match (ops[j]?).bind (·.dst) with
  | none=>some false
  | some d=>match lkv tm d with
   | .bool b=>some (b == want)
   | .tup []=>some false
   | _=>none
def YP (tm:List (Nat × AV)) (d:Option Nat) (v:AV):List (Nat × AV) :=
 match d with
 | none=>tm
 | some d=>(d,v) :: tm
theorem Zc8 (tm:List (Nat × AV)) (d:Option Nat) (v:AV) (t:Nat):lkv (YP tm d v) t = if d = some t then v else lkv tm t:=by
 cases d with
 | none=>simp [YP]
 | some d=>simp only [YP,lkv,Option.some.injEq]
theorem Zbz {a:Act} {d:Option Nat} {cv:Value} {N t:Nat} (hs:a.tmps.size = N) (hd:∀ x,d = some x → x < N) :
  (a.put d cv).tmps.getD t undef = if d = some t then cv else a.tmps.getD t undef:=by
 cases d with
 | none=>simp [Act.put]
 | some d =>
  have hlt:=hd d rfl
  simp only [Act.put,Option.some.injEq,Array.getD_eq_getD_getElem?]
  by_cases h:d = t
  ·subst h; simp [hs,hlt]
  ·simp [h,Array.getElem?_setIfInBounds_ne h]
theorem size_put {a:Act} {d:Option Nat} {cv:Value}:(a.put d cv).tmps.size = a.tmps.size:=by
 cases d <;> simp [Act.put]
theorem Jt {a:Act} {d:Option Nat} {cv:Value}:(a.put d cv).defers = a.defers:=by
 cases d <;> rfl
theorem XR {E:Env} {ops:Array Oper} {tm:List (Nat × AV)} {a:Act} {o:Oper} {g:Bool}
  (hv:∀ j w d,o.guard = some (j,w) → (ops[j]?).bind (·.dst) = some d → VR E (lkv tm d) (a.tmps.getD d undef)) (hg:YD ops.toList tm o = some g) :
  Region.wanted o (yielded ops a.tmps) = g:=by
 unfold YD at hg
 unfold Region.wanted
 cases hgd:o.guard with
 | none=>simp only [hgd,Option.some.injEq] at hg; simpa using hg
 | some jw =>
  obtain ⟨j,want⟩:=jw
  simp only [hgd,Array.getElem?_toList] at hg
  simp only [yielded]
  cases hd:(ops[j]?).bind (·.dst) with
  | none=>simp only [hd,Option.some.injEq] at hg; subst hg; simp
  | some d =>
   simp only [hd] at hg
   have h1:=hv j want d hgd hd
   simp only [Option.bind_some]
   rw [Array.getD_eq_getD_getElem?] at h1
   cases hx:a.tmps[d]? with
   | none =>
    rw [hx] at h1
    simp only [Option.getD_none,undef] at h1
    split at hg
    ·rename_i b hb; rw [hb] at h1; cases h1
    ·simp only [Option.some.injEq] at hg; subst hg; simp
    ·cases hg
   | some x =>
    rw [hx] at h1
    simp only [Option.getD_some] at h1
    split at hg
    ·rename_i b hb; rw [hb] at h1; cases h1
     simp only [Option.some.injEq] at hg; subst hg
     cases b <;> cases want <;> rfl
    ·rename_i hb; rw [hb] at h1
     simp only [Option.some.injEq] at hg; subst hg
     cases h1 with
     | tup _ vs hl _ =>
      have:vs = []:=by simpa using hl
      subst this; rfl
    ·cases hg
theorem VP (E:Env):VR E (.tup []) undef:=VR.tup [] [] rfl (fun i h=>absurd h (Nat.not_lt_zero _))
inductive Kd where
 | p | t | w
 | a (d:Nat)
 deriving DecidableEq
def Kd.touches (n:Nat):Kd → Nat → Nat → Bool
 | .w,_,_=>true
 | .a d,l,s=>l == n && s == d
 | _,_,_=>false
def VF (n:Nat) (A:Nat → Bool) (G H:Zf):Prop:=∀ l s,(l = n → A s = false) → G l s = H l s
def Kd.sem (P:Program) (m n:Nat) (A:Nat → Bool) (o:Oper) (ρ:Operand → AV) (H:Zf) (v:AV) (H':Zf):Kd → Prop
 | .p=>(∀ G,Wi P m o ρ G v G) ∧ H' = H
 | .t=>(∀ G,VF n A G H → Wi P m o ρ G v G) ∧ H' = H
 | .w=>Wi P m o ρ H v H'
 | .a d=>∃ b,(∀ G,G n d = none → Wi P m o ρ G v (G.upd n d b)) ∧ H n d = none ∧ H' = H.upd n d b
def ZcI (len:Nat) (kd:Nat → Kd) (s:Nat):Bool:=(List.range len).any fun i=>kd i == .a s
inductive Wj (P:Program) (m n:Nat) (A:Nat → Bool) (all:List Oper) (kd:Nat → Kd):Nat → List Oper → List (Nat × AV) → Zf → List (Nat × AV) → Zf → Prop
 | nil (i:Nat) (tm:List (Nat × AV)) (H:Zf):Wj P m n A all kd i [] tm H tm H
 | run (i:Nat) (o:Oper) (r:List Oper) (tm tm':List (Nat × AV)) (H H1 H':Zf) (v:AV) (hg:YD all tm o = some true) (h:(kd i).sem P m n A o (evT tm) H v H1)
   (hr:Wj P m n A all kd (i + 1) r (YP tm o.dst v) H1 tm' H'):Wj P m n A all kd i (o :: r) tm H tm' H'
 | pass (i:Nat) (o:Oper) (r:List Oper) (tm tm':List (Nat × AV)) (H H':Zf) (hg:YD all tm o = some false)
   (hr:Wj P m n A all kd (i + 1) r (YP tm o.dst (.tup [])) H tm' H'):Wj P m n A all kd i (o :: r) tm H tm' H'
structure Zeq (P:Program) (m n:Nat) (A:Nat → Bool) (all:List Oper) (kd:Nat → Kd) (tm:Nat → List (Nat × AV)) (H:Nat → Zf) (val:Nat → AV) (i0:Nat) (l:List Oper):Prop where
 step:∀ j o,l[j]? = some o → tm (j + 1) = YP (tm j) o.dst (val j) ∧
  ((YD all (tm j) o = some true ∧ (kd (i0 + j)).sem P m n A o (evT (tm j)) (H j) (val j) (H (j + 1))) ∨
   (YD all (tm j) o = some false ∧ val j = .tup [] ∧ H (j + 1) = H j))
theorem Wj.course {P:Program} {m n:Nat} {A:Nat → Bool} {all:List Oper} {kd:Nat → Kd} {i:Nat} {l:List Oper} {tm tm':List (Nat × AV)} {H H':Zf}
  (h:Wj P m n A all kd i l tm H tm' H'):∃ T G V,T 0 = tm ∧ G 0 = H ∧ T l.length = tm' ∧ G l.length = H' ∧ Zeq P m n A all kd T G V i l:=by
 induction h with
 | nil i tm H=>exact ⟨fun _=>tm,fun _=>H,fun _=>.dead,rfl,rfl,rfl,rfl,⟨fun j o h=>by simp at h⟩⟩
 | run i o r tm tm' H H1 H' v hg h _ ih =>
  obtain ⟨T,G,V,t0,g0,t1,g1,hc⟩:=ih
  refine ⟨fun j=>match j with | 0=>tm | j + 1=>T j,fun j=>match j with | 0=>H | j + 1=>G j,fun j=>match j with | 0=>v | j + 1=>V j,rfl,rfl,t1,g1,⟨?_⟩⟩
  intro j o' hj
  cases j with
  | zero =>
   simp only [List.getElem?_cons_zero,Option.some.injEq] at hj; subst hj
   exact ⟨t0,.inl ⟨hg,by simp only [g0]; exact h⟩⟩
  | succ j =>
   simp only [List.getElem?_cons_succ] at hj
   have:=hc.step j o' hj
   rw [show i + 1 + j = i + (j + 1) by omega] at this
   exact this
 | pass i o r tm tm' H H' hg _ ih =>
  obtain ⟨T,G,V,t0,g0,t1,g1,hc⟩:=ih
  refine ⟨fun j=>match j with | 0=>tm | j + 1=>T j,fun j=>match j with | 0=>H | j + 1=>G j,fun j=>match j with | 0=>.tup [] | j + 1=>V j,rfl,rfl,t1,g1,⟨?_⟩⟩
  intro j o' hj
  cases j with
  | zero =>
   simp only [List.getElem?_cons_zero,Option.some.injEq] at hj; subst hj
   exact ⟨t0,.inr ⟨hg,rfl,g0⟩⟩
  | succ j =>
   simp only [List.getElem?_cons_succ] at hj
   have:=hc.step j o' hj
   rw [show i + 1 + j = i + (j + 1) by omega] at this
   exact this
def Zer (o:Oper) (acc:List Nat):Nat :=
 o.after.toList.foldl (fun m e=>if Region.binds .any e then (m ||| (2 ^ e.on)) ||| (acc.getD e.on 0) else m) 0
def ancL:List Oper → List Nat → List Nat
 | [],acc=>acc
 | o :: r,acc=>ancL r (acc ++ [Zer o acc])
def Closed (ops:List Oper) (D:Nat → Prop):Prop:=∀ i o,ops[i]? = some o → D i → ∀ e ∈ o.after.toList,Region.binds .any e = true → D e.on
theorem ZeA {o:Oper} {acc:List Nat} {D:Nat → Prop} (hacc:∀ i,D i → ∀ j,(acc.getD i 0).testBit j = true → D j)
  (ho:∀ e ∈ o.after.toList,Region.binds .any e = true → D e.on) (j:Nat) (hj:(Zer o acc).testBit j = true):D j:=by
 have key:∀ (l:List Edge) (m:Nat),(∀ j,m.testBit j = true → D j) → (∀ e ∈ l,Region.binds .any e = true → D e.on) →
   ∀ j,(l.foldl (fun m e=>if Region.binds .any e then (m ||| (2 ^ e.on)) ||| (acc.getD e.on 0) else m) m).testBit j = true → D j:=by
  intro l
  induction l with
  | nil=>intro m hm _ j hj; exact hm j hj
  | cons e l ih =>
   intro m hm hl j hj
   simp only [List.foldl_cons] at hj
   refine ih _ ?_ (fun e' he'=>hl e' (List.mem_cons_of_mem _ he')) j hj
   intro j hj
   split at hj
   ·rename_i hb
    have hd:=hl e (by simp) hb
    simp only [Nat.testBit_or,Bool.or_eq_true] at hj
    rcases hj with (h | h) | h
    ·exact hm j h
    ·rw [Nat.testBit_two_pow] at h
     have:e.on = j:=by simpa using h
     exact this ▸ hd
    ·exact hacc _ hd j h
   ·exact hm j hj
 exact key _ 0 (fun j h=>by simp at h) ho j hj
theorem ZgC {ops:List Oper} {D:Nat → Prop} (hD:Closed ops D):∀ (r:List Oper) (acc:List Nat),ops.drop acc.length = r →
  (∀ i,D i → ∀ j,(acc.getD i 0).testBit j = true → D j) → ∀ i,D i → ∀ j,((ancL r acc).getD i 0).testBit j = true → D j:=by
 intro r
 induction r with
 | nil=>intro acc _ h; exact h
 | cons o r ih =>
  intro acc hr h
  refine ih (acc ++ [Zer o acc]) (by rw [List.length_append,← List.drop_drop,hr]; rfl) ?_
  intro i hi j hj
  rcases Nat.lt_trichotomy i acc.length with hlt | heq | hgt
  ·rw [List.getD_eq_getElem?_getD,List.getElem?_append_left hlt,← List.getD_eq_getElem?_getD] at hj
   exact h i hi j hj
  ·subst heq
   rw [List.getD_eq_getElem?_getD,List.getElem?_append_right (Nat.le_refl _)] at hj
   simp at hj
   have ho:ops[acc.length]? = some o:=by
    have:=congrArg (·[0]?) hr
    simpa [List.getElem?_drop] using this
   exact ZeA h (fun e he hb=>hD _ _ ho hi e he hb) j hj
  ·rw [List.getD_eq_getElem?_getD,List.getElem?_eq_none (by simp; omega)] at hj
   simp at hj
def looks (ops:List Oper) (o:Oper):List Nat :=
 (o.op.operands.toList.filterMap fun | .tmp t=>some t | _=>none) ++ (match o.guard with | some (g,_)=>((ops[g]?).bind (·.dst)).toList | none=>[])
def Kd.clash:Kd → Kd → Bool
 | .w,.p=>false
 | .w,_=>true
 | .p,.w=>false
 | _,.w=>true
 | .a d,.a d'=>d == d'
 | _,_=>false
def clash (ops:List Oper) (kd:Nat → Kd) (i j:Nat) (x y:Oper):Bool :=
 (match x.dst with | some d=>(looks ops y).contains d || y.dst == some d | none=>false) ||
 (match y.dst with | some d=>(looks ops x).contains d | none=>false) ||
 (kd i).clash (kd j)
theorem X8 {ops:List Oper} {kd:Nat → Kd} {i j:Nat} {x y:Oper} (h:(kd i).clash (kd j) = true):clash ops kd i j x y = true:=by
 unfold clash; rw [h]; simp
theorem Kd.Zbo {κ:Kd} (h:κ ≠ .p):Kd.clash .w κ = true ∧ Kd.clash κ .w = true:=by
 cases κ <;> first | exact absurd rfl h | exact ⟨rfl,rfl⟩
theorem Kd.Zll {κ:Kd} {n l s:Nat} (h:κ.touches n l s = true):κ ≠ .p:=by
 intro e; subst e; cases h
theorem Kd.Zae {κ κ':Kd} {n l s:Nat} (h:κ.touches n l s = true) (h':κ'.touches n l s = true):κ.clash κ' = true:=by
 cases κ with
 | p=>cases h
 | t=>cases h
 | w=>exact (Kd.Zbo (Kd.Zll h')).1
 | a d=>cases κ' with
  | p=>cases h'
  | t=>cases h'
  | w=>rfl
  | a d' =>
   simp only [Kd.touches,Bool.and_eq_true,beq_iff_eq] at h h'
   simp [Kd.clash,← h.2,← h'.2]
def Zi6 {β:Type} (x:Nat) (f:Nat → β):β:=match x with
 | 0=>f 0
 | n + 1=>f (n + 1)
theorem Zh7 {β:Type} (x:Nat) (f:Nat → β):Zi6 x f = f x:=by cases x <;> rfl
def ancK:List Oper → List Nat → (List Nat → Bool) → Bool
 | [],acc,k=>k acc
 | o :: r,acc,k=>Zi6 (Zer o acc) fun m=>ancK r (acc ++ [m]) k
theorem ancK_eq:∀ (ops:List Oper) (acc:List Nat) (k:List Nat → Bool),ancK ops acc k = k (ancL ops acc)
 | [],acc,k=>rfl
 | o :: r,acc,k=>by rw [ancK,Zh7,ancK_eq r,ancL]
def VI (ops:List Oper) (kd:Nat → Kd):Bool :=
 ancK ops [] fun ms=>ops.zipIdx.all fun (y,j)=>y.after.toList.all (fun e=>!Region.binds .any e || e.on < j) &&
  ops.zipIdx.all fun (x,i)=>!(i < j) || !clash ops kd i j x y || (ms.getD j 0).testBit i
structure Ordered (ops:List Oper) (kd:Nat → Kd):Prop where
 back:∀ j y,ops[j]? = some y → ∀ e ∈ y.after.toList,Region.binds .any e = true → e.on < j
 cmp:∀ i j x y,i < j → ops[i]? = some x → ops[j]? = some y → clash ops kd i j x y = true → ∀ D,Closed ops D → D j → D i
theorem ZaS {ops:List Oper} {kd:Nat → Kd} (h:VI ops kd = true):Ordered ops kd:=by
 simp only [VI,ancK_eq,List.all_eq_true,Bool.and_eq_true] at h
 have hz:∀ j y,ops[j]? = some y → (y,j) ∈ ops.zipIdx:=fun j y hy=>by
  rw [List.mem_zipIdx_iff_getElem?]; exact hy
 constructor
 ·intro j y hy e he hb
  have:=(h (y,j) (hz j y hy)).1 e he
  simpa [hb] using this
 ·intro i j x y hij hx hy hc D hD hDj
  have:=(h (y,j) (hz j y hy)).2 (x,i) (hz i x hx)
  simp only [hc,hij,decide_true,Bool.not_true,Bool.false_or] at this
  exact ZgC hD ops [] rfl (fun i _ j hj=>by simp at hj) j hDj i this
end Go.Abs

/- Regions that draw their order: if the edges order whatever meddles, the text's order tells all. No program, no condition. -/
namespace Go.Abs

def Zbd (ops : List Oper) (k : Nat) : Option Nat := (ops[k]?).bind (·.dst)

def va (ops : List Oper) (t0 : Nat → AV) (V : Nat → AV) (L : Nat → Bool) : Nat → Nat → AV
  | 0, t => t0 t
  | k + 1, t => if L k = true ∧ Zbd ops k = some t then V k else va ops t0 V L k t

def hv (n : Nat) (kd : Nat → Kd) (G : Nat → Zf) (L : Nat → Bool) : Nat → Zf
  | 0 => G 0
  | k + 1 => fun l s => if L k = true ∧ (kd k).touches n l s = true then G (k + 1) l s else hv n kd G L k l s

theorem Zax (n : Nat) (kd : Nat → Kd) (G : Nat → Zf) (L : Nat → Bool) (k l s : Nat) :
    hv n kd G L (k + 1) l s = if L k = true ∧ (kd k).touches n l s = true then G (k + 1) l s else hv n kd G L k l s := rfl

section
variable {P : Program} {m nl : Nat} {A : Nat → Bool} {ops : List Oper} {kd : Nat → Kd} {T : Nat → List (Nat × AV)} {G : Nat → Zf} {V : Nat → AV}

theorem ZgN (hc : Zeq P m nl A ops kd T G V 0 ops) {L : Nat → Bool} {t : Nat} : ∀ {i : Nat}, i ≤ ops.length → (∀ k, k < i → Zbd ops k = some t → L k = true) →
    va ops (lkv (T 0)) V L i t = lkv (T i) t := by
  intro i
  induction i with
  | zero => intro _ _; rfl
  | succ i ih =>
    intro hi h
    have ho : ops[i]? = some ops[i] := List.getElem?_eq_getElem (by omega)
    rw [(hc.step i _ ho).1, Zc8, va, ih (by omega) (fun k hk => h k (by omega))]
    have hd : Zbd ops i = ops[i].dst := by simp [Zbd, ho]
    by_cases hx : ops[i].dst = some t
    · rw [if_pos ⟨h i (by omega) (hd.trans hx), hd.trans hx⟩, if_pos hx]
    · rw [if_neg (fun c => hx (hd ▸ c.2)), if_neg hx]

theorem Zhj {L : Nat → Bool} {t i : Nat} {t0 : Nat → AV} : ∀ {n : Nat}, i ≤ n → (∀ k, i ≤ k → k < n → Zbd ops k = some t → L k = false) →
    va ops t0 V L n t = va ops t0 V L i t := by
  intro n
  induction n with
  | zero => intro hi _; have : i = 0 := by omega
            subst this; rfl
  | succ n ih =>
    intro hi h
    rcases Nat.lt_or_ge n i with hlt | hge
    · have : i = n + 1 := by omega
      subst this; rfl
    · rw [va, if_neg, ih hge (fun k h1 h2 => h k h1 (by omega))]
      rintro ⟨h1, h2⟩
      rw [h n hge (by omega) h2] at h1; cases h1

theorem ZiX {L L' : Nat → Bool} {t : Nat} {t0 : Nat → AV} : ∀ {n : Nat}, (∀ k, k < n → Zbd ops k = some t → L k = L' k) → va ops t0 V L n t = va ops t0 V L' n t := by
  intro n
  induction n with
  | zero => intro _; rfl
  | succ n ih =>
    intro h
    simp only [va]
    rw [ih (fun k hk => h k (by omega))]
    by_cases hd : Zbd ops n = some t
    · rw [h n (by omega) hd]
    · simp [hd]

theorem ZjD {o : Oper} {ρ : Operand → AV} {H H' : Zf} {v : AV} {κ : Kd} (h : κ.sem P m nl A o ρ H v H') {l s : Nat} (ht : κ.touches nl l s = false) : H' l s = H l s := by
  cases κ with
  | p => exact congrFun (congrFun h.2 l) s
  | t => exact congrFun (congrFun h.2 l) s
  | w => cases ht
  | a d =>
    obtain ⟨b, _, _, rfl⟩ := h
    simp only [Zf.upd]
    rw [if_neg]
    rintro ⟨rfl, rfl⟩
    simp [Kd.touches] at ht

theorem ZgJ (hc : Zeq P m nl A ops kd T G V 0 ops) {L : Nat → Bool} {l s : Nat} : ∀ {i : Nat}, i ≤ ops.length → (∀ k, k < i → (kd k).touches nl l s = true → L k = true) → hv nl kd G L i l s = G i l s := by
  intro i
  induction i with
  | zero => intro _ _; rfl
  | succ i ih =>
    intro hi h
    have ho : ops[i]? = some ops[i] := List.getElem?_eq_getElem (by omega)
    have hs := (hc.step i _ ho).2
    rw [Zax, ih (by omega) (fun k hk => h k (by omega))]
    by_cases hw : (kd i).touches nl l s = true
    · rw [if_pos ⟨h i (by omega) hw, hw⟩]
    · rw [if_neg (fun c => hw c.2)]
      rcases hs with ⟨_, hs⟩ | ⟨_, _, hs⟩
      · rw [Nat.zero_add] at hs
        exact (ZjD hs (by simpa using hw)).symm
      · exact (congrFun (congrFun hs l) s).symm

theorem Zhb {L : Nat → Bool} {i l s : Nat} : ∀ {n : Nat}, i ≤ n → (∀ k, i ≤ k → k < n → (kd k).touches nl l s = true → L k = false) → hv nl kd G L n l s = hv nl kd G L i l s := by
  intro n
  induction n with
  | zero => intro hi _; have : i = 0 := by omega
            subst this; rfl
  | succ n ih =>
    intro hi h
    rcases Nat.lt_or_ge n i with hlt | hge
    · have : i = n + 1 := by omega
      subst this; rfl
    · rw [Zax, if_neg, ih hge (fun k h1 h2 => h k h1 (by omega))]
      rintro ⟨h1, h2⟩
      rw [h n hge (by omega) h2] at h1; cases h1

theorem ZiG {L L' : Nat → Bool} {l s : Nat} : ∀ {n : Nat}, (∀ k, k < n → (kd k).touches nl l s = true → L k = L' k) → hv nl kd G L n l s = hv nl kd G L' n l s := by
  intro n
  induction n with
  | zero => intro _; rfl
  | succ n ih =>
    intro h
    simp only [Zax]
    rw [ih (fun k hk => h k (by omega))]
    by_cases hd : (kd n).touches nl l s = true
    · rw [h n (by omega) hd]
    · simp [hd]
end

def unl (l : Array Bool) : Nat := l.toList.countP (· == false)

theorem Zj2 {l : Array Bool} {i : Nat} (h : i < l.size) (hf : l.getD i true = false) : unl (l.setIfInBounds i true) + 1 = unl l := by
  have hx : l.toList[i]'(by simpa using h) = false := by simpa [Array.getD_eq_getD_getElem?, h] using hf
  unfold unl
  rw [Array.toList_setIfInBounds]
  have key : ∀ (l : List Bool) (i : Nat) (h : i < l.length), l[i] = false → (l.set i true).countP (· == false) + 1 = l.countP (· == false) := by
    intro l
    induction l with
    | nil => intro i h; simp at h
    | cons a l ih =>
      intro i h hx
      cases i with
      | zero =>
        have ha : a = false := by simpa using hx
        subst ha
        rw [List.set_cons_zero, List.countP_cons, List.countP_cons]; rfl
      | succ i =>
        have := ih i (by simpa using h) (by simpa using hx)
        rw [List.set_cons_succ, List.countP_cons, List.countP_cons]
        omega
  exact key _ _ _ hx

theorem Zfu {l : Array Bool} (h : unl l = 0) (i : Nat) (hi : i < l.size) : l.getD i true = true := by
  unfold unl at h
  rw [List.countP_eq_zero] at h
  have := h (l.toList[i]'(by simpa using hi)) (List.getElem_mem _)
  simpa [Array.getD_eq_getD_getElem?, hi] using this

theorem Zbe {P : Program} (ro : Option Nat) (ds : List Deferred) {m nl N : Nat} {ops : Array Oper} {Q : Exit → Act → World → Prop} {kd : Nat → Kd} {T : Nat → List (Nat × AV)} {G : Nat → Zf} {V : Nat → AV}
    (hd : ∀ o ∈ ops.toList, ∀ x, o.dst = some x → x < N) (hc : Zeq P m nl (ZcI ops.toList.length kd) ops.toList kd T G V 0 ops.toList) (hO : Ordered ops.toList kd) (E0 : Env) (w0 : World)
    (hQ : ∀ E' w' a', a'.tmps.size = N → a'.defers = ds → (∀ t, VR E' (lkv (T ops.size) t) (a'.tmps.getD t undef)) → ZJ m (G ops.size) E' w' → Ext m E0 w0 E' w' → Q .normal a' w') :
    ∀ (fuel : Nat) (listed : Array Bool) (E : Env) (w : World) (a : Act), unl listed ≤ fuel → listed.size = ops.size → Closed ops.toList (fun i => listed.getD i false = true) →
      a.tmps.size = N → a.defers = ds → (∀ t, VR E (va ops.toList (lkv (T 0)) V (listed.getD · false) ops.size t) (a.tmps.getD t undef)) →
      ZJ m (hv nl kd G (listed.getD · false) ops.size) E w → Ext m E0 w0 E w → wpAnyIn (fr ro) 0 P .any ops Q fuel listed a w := by
  intro fuel
  induction fuel with
  | zero =>
    intro listed E w a hu hsz hcl h1 h2 h3 h4 h5
    have hall : ∀ i, i < ops.size → listed.getD i false = true := fun i hi => by
      have := Zfu (Nat.le_zero.1 hu) i (by omega)
      simpa [Array.getD_eq_getD_getElem?, hsz, hi] using this
    refine ⟨?_, hQ E w a h1 h2 (fun t => ?_) ?_ h5⟩
    · simp only [Region.ready]
      rw [List.filter_eq_nil_iff]
      intro i hi
      have hi' : i < ops.size := by simpa using hi
      have := Zfu (Nat.le_zero.1 hu) i (by omega)
      simp [this]
    · have := h3 t
      rwa [show ops.size = ops.toList.length by simp, ZgN hc (Nat.le_refl _) (fun k hk _ => hall k (by simpa using hk)), ← show ops.size = ops.toList.length by simp] at this
    · rwa [show hv nl kd G (listed.getD · false) ops.size = G ops.size from funext fun l => funext fun s => by
        rw [show ops.size = ops.toList.length by simp]; exact ZgJ hc (Nat.le_refl _) (fun k hk _ => hall k (by simpa using hk))] at h4
  | succ fuel ih =>
    intro listed E w a hu hsz hcl h1 h2 h3 h4 h5
    refine ⟨fun hnil => ?_, fun i hi => ?_⟩
    · -- nothing is ready: all are done
      have hall : ∀ i, i < ops.size → listed.getD i false = true := by
        intro i
        induction i using Nat.strongRecOn with
        | _ i hi =>
          intro hlt
          cases hli : listed.getD i false with
          | true => rfl
          | false =>
            exfalso
            simp only [Region.ready] at hnil
            rw [List.filter_eq_nil_iff] at hnil
            refine hnil i (by simpa using hlt) ?_
            have ho : ops[i]? = some ops[i] := Array.getElem?_eq_getElem hlt
            have hlt' : listed.getD i true = false := by simpa [Array.getD_eq_getD_getElem?, hsz, hlt] using hli
            simp only [hlt', Bool.not_false, Bool.true_and, ho, Option.map_some, Option.getD_some]
            rw [← Array.all_toList, List.all_eq_true]
            intro e he
            cases hb : Region.binds .any e with
            | false => rfl
            | true =>
              have hlt2 := hO.back i ops[i] (by rw [Array.getElem?_toList]; exact ho) e he hb
              simp [hi e.on hlt2 (by omega)]
      refine hQ E w a h1 h2 (fun t => ?_) ?_ h5
      · have := h3 t
        rwa [show ops.size = ops.toList.length by simp, ZgN hc (Nat.le_refl _) (fun k hk _ => hall k (by simpa using hk)), ← show ops.size = ops.toList.length by simp] at this
      · rwa [show hv nl kd G (listed.getD · false) ops.size = G ops.size from funext fun l => funext fun s => by
          rw [show ops.size = ops.toList.length by simp]; exact ZgJ hc (Nat.le_refl _) (fun k hk _ => hall k (by simpa using hk))] at h4
    · -- one that is ready
      simp only [Region.ready, List.mem_filter, List.mem_range, Bool.and_eq_true, Bool.not_eq_true'] at hi
      obtain ⟨hlt, hun, haft⟩ := hi
      have ho : ops[i]? = some ops[i] := Array.getElem?_eq_getElem hlt
      generalize hoi : ops[i] = o at ho
      have hol : ops.toList[i]? = some o := by rw [Array.getElem?_toList]; exact ho
      have hmem : o ∈ ops.toList := List.mem_of_getElem? hol
      simp only [ho, Option.map_some, Option.getD_some] at haft
      rw [← Array.all_toList, List.all_eq_true] at haft
      have hLi : listed.getD i false = false := by
        have := hun
        simpa [Array.getD_eq_getD_getElem?, hsz, hlt] using this
      -- downward closure with i
      have hcl' : Closed ops.toList (fun j => listed.getD j false = true ∨ j = i) := by
        intro j o' hj hjD e he hb
        rcases hjD with hjD | rfl
        · exact .inl (hcl j o' hj hjD e he hb)
        · rw [hol] at hj; cases hj
          have := haft e he
          simp only [hb, Bool.not_true, Bool.false_or] at this
          exact .inl this
      have hbefore : ∀ j x, j < i → ops.toList[j]? = some x → clash ops.toList kd j i x o = true → listed.getD j false = true := by
        intro j x hji hx hcl2
        rcases hO.cmp j i x o hji hx hol hcl2 _ hcl' (.inr rfl) with h | h
        · exact h
        · omega
      have hafter : ∀ j y, i < j → ops.toList[j]? = some y → clash ops.toList kd i j o y = true → listed.getD j false = false := by
        intro j y hij hy hcl2
        cases hlj : listed.getD j false with
        | false => rfl
        | true =>
          have := hO.cmp i j o y hij hol hy hcl2 _ hcl hlj
          rw [hLi] at this; cases this
      have hlen : ops.toList.length = ops.size := by simp
      -- what it looks at
      have hlook : ∀ t, t ∈ looks ops.toList o → va ops.toList (lkv (T 0)) V (listed.getD · false) ops.size t = lkv (T i) t := by
        intro t ht
        rw [Zhj (i := i) (by omega), ZgN hc (by omega)]
        · intro k hk hdk
          obtain ⟨x, hx, hxd⟩ := Option.bind_eq_some_iff.1 hdk
          refine hbefore k x hk hx ?_
          simp [clash, hxd, ht]
        · intro k hk hkn hdk
          obtain ⟨x, hx, hxd⟩ := Option.bind_eq_some_iff.1 hdk
          rcases Nat.lt_or_eq_of_le hk with hk | rfl
          · refine hafter k x hk hx ?_
            simp [clash, hxd, ht]
          · exact hLi
      -- the heap, slot by slot
      have hslot : ∀ l s, (∀ k x, ops.toList[k]? = some x → k ≠ i → (kd k).touches nl l s = true → clash ops.toList kd k i x o = true ∧ clash ops.toList kd i k o x = true) → hv nl kd G (listed.getD · false) ops.size l s = G i l s := by
        intro l s hcl3
        rw [Zhb (i := i) (by omega), ZgJ hc (by omega)]
        · intro k hk hkw
          have hx : ops.toList[k]? = some ops.toList[k] := List.getElem?_eq_getElem (by omega)
          exact hbefore k _ hk hx (hcl3 k _ hx (by omega) hkw).1
        · intro k hk hkn hkw
          rcases Nat.lt_or_eq_of_le hk with hk | rfl
          · have hx : ops.toList[k]? = some ops.toList[k] := List.getElem?_eq_getElem (by omega)
            exact hafter k _ hk hx (hcl3 k _ hx (by omega) hkw).2
          · exact hLi
      have hoff : kd i ≠ .p → VF nl (ZcI ops.toList.length kd) (hv nl kd G (listed.getD · false) ops.size) (G i) := by
        intro hp l s hA
        refine hslot l s (fun k x hx hki hkt => ?_)
        have hkw : kd k = .w := by
          cases hkk : kd k with
          | p => rw [hkk] at hkt; cases hkt
          | t => rw [hkk] at hkt; cases hkt
          | w => rfl
          | a d =>
            rw [hkk] at hkt
            simp only [Kd.touches, Bool.and_eq_true, beq_iff_eq] at hkt
            have hlt2 : k < ops.toList.length := by
              rcases Nat.lt_or_ge k ops.toList.length with h | h
              · exact h
              · rw [List.getElem?_eq_none h] at hx; cases hx
            have := hA hkt.1
            simp only [ZcI, List.any_eq_false, List.mem_range, beq_iff_eq] at this
            exact absurd (by rw [hkk, hkt.2]) (this k hlt2)
        exact ⟨X8 (by rw [hkw]; exact (Kd.Zbo hp).1), X8 (by rw [hkw]; exact (Kd.Zbo hp).2)⟩
      have hall2 : kd i = .w → hv nl kd G (listed.getD · false) ops.size = G i := by
        intro hw
        funext l s
        refine hslot l s (fun k x hx hki hkt => ?_)
        exact ⟨X8 (by rw [hw]; exact (Kd.Zbo (Kd.Zll hkt)).2), X8 (by rw [hw]; exact (Kd.Zbo (Kd.Zll hkt)).1)⟩
      have hown : ∀ d, kd i = .a d → hv nl kd G (listed.getD · false) ops.size nl d = G i nl d := by
        intro d hd'
        refine hslot nl d (fun k x hx hki hkt => ?_)
        have h0 : (kd i).touches nl nl d = true := by rw [hd']; simp [Kd.touches]
        exact ⟨X8 (Kd.Zae hkt h0), X8 (Kd.Zae h0 hkt)⟩
      have hset : ∀ k, (listed.setIfInBounds i true).getD k false = if k = i then true else listed.getD k false := by
        intro k
        rw [Array.getD_eq_getD_getElem?, Array.getD_eq_getD_getElem?]
        by_cases hk : i = k
        · subst hk; simp [hsz, hlt]
        · rw [Array.getElem?_setIfInBounds_ne hk, if_neg (fun e => hk e.symm)]
      have hcl2 : Closed ops.toList (fun j => (listed.setIfInBounds i true).getD j false = true) := by
        intro j o' hj hjD e he hb
        rw [hset] at hjD ⊢
        have := hcl' j o' hj (by split at hjD; · exact .inr ‹_›
                                 · exact .inl hjD) e he hb
        split
        · rfl
        · rcases this with h | h
          · exact h
          · rename_i hne; exact absurd h hne
      have hu2 : unl (listed.setIfInBounds i true) ≤ fuel := by
        have := Zj2 (l := listed) (i := i) (by omega) hun
        omega
      obtain ⟨hT, hstep⟩ := hc.step i o hol
      rw [Nat.zero_add] at hstep
      -- the temporaries behind it
      have htm : ∀ t, va ops.toList (lkv (T 0)) V ((listed.setIfInBounds i true).getD · false) ops.size t =
          if o.dst = some t then V i else va ops.toList (lkv (T 0)) V (listed.getD · false) ops.size t := by
        intro t
        have hdi : Zbd ops.toList i = o.dst := by simp [Zbd, hol]
        by_cases hdt : o.dst = some t
        · rw [if_pos hdt, Zhj (i := i + 1) (by omega)]
          · rw [va, if_pos ⟨by rw [hset, if_pos rfl], hdi.trans hdt⟩]
          · intro k hk hkn hdk
            obtain ⟨x, hx, hxd⟩ := Option.bind_eq_some_iff.1 hdk
            rw [hset, if_neg (by omega)]
            refine hafter k x (by omega) hx ?_
            simp [clash, hdt, hxd]
        · rw [if_neg hdt]
          refine ZiX (fun k _ hdk => ?_)
          rw [hset, if_neg]
          rintro rfl
          exact hdt (hdi ▸ hdk)
      -- the heap behind it
      have hhp : hv nl kd G ((listed.setIfInBounds i true).getD · false) ops.size = fun l s => if (kd i).touches nl l s = true then G (i + 1) l s else hv nl kd G (listed.getD · false) ops.size l s := by
        funext l s
        by_cases hw : (kd i).touches nl l s = true
        · rw [if_pos hw, Zhb (i := i + 1) (by omega)]
          · rw [Zax, if_pos ⟨by rw [hset, if_pos rfl], hw⟩]
          · intro k hk hkn hkw
            have hx : ops.toList[k]? = some ops.toList[k] := List.getElem?_eq_getElem (by omega)
            rw [hset, if_neg (by omega)]
            exact hafter k _ (by omega) hx (X8 (Kd.Zae hw hkw))
        · rw [if_neg hw]
          refine ZiG (fun k _ hkw => ?_)
          rw [hset, if_neg]
          rintro rfl
          exact hw hkw
      simp only [wpOpIn, ho]
      have hguard : ∀ j w d, o.guard = some (j, w) → (ops[j]?).bind (·.dst) = some d → VR E (lkv (T i) d) (a.tmps.getD d undef) := by
        intro j w' d hg hdj
        have hin : d ∈ looks ops.toList o := by
          simp only [looks, hg, Array.getElem?_toList, hdj, List.mem_append]
          exact .inr (by simp)
        rw [← hlook d hin]; exact h3 d
      rcases hstep with ⟨hg, hs⟩ | ⟨hg, hV, hGi⟩
      · rw [XR hguard hg]
        simp only [if_true]
        have hops : ∀ x ∈ o.op.operands, VR E (evT (T i) x) (a.eval x) := by
          intro x hx
          cases x with
          | tmp t =>
            have hin : t ∈ looks ops.toList o := by
              simp only [looks, List.mem_append, List.mem_filterMap]
              exact .inl ⟨.tmp t, by simpa using hx, rfl⟩
            simp only [evT]
            rw [← hlook t hin]; exact h3 t
          | const v => exact ZcL E v
          | global g => exact .dead _
          | func f => exact VR.fn _ [] [] rfl (fun i h => absurd h (Nat.not_lt_zero _))
        have fin : ∀ (H' : Zf), hv nl kd G ((listed.setIfInBounds i true).getD · false) ops.size = H' → ∀ E' w' cv, VR E' (V i) cv → ZJ m H' E' w' → Ext m E w E' w' →
            wpAnyIn (fr ro) 0 P .any ops Q fuel (listed.setIfInBounds i true) (a.put o.dst cv) w' := by
          intro H' hH E' w' cv hcv hh hx
          refine ih (listed.setIfInBounds i true) E' w' (a.put o.dst cv) hu2 (by simp [hsz]) hcl2 (by rw [size_put]; exact h1) (by rw [Jt]; exact h2) ?_ (hH ▸ hh) (h5.trans hx)
          intro t
          rw [htm, Zbz h1 (hd o hmem)]
          split
          · exact hcv
          · exact (h3 t).mono h4.norm hx.le
        cases hk : kd i with
        | p =>
          rw [hk] at hs
          refine hs.1 _ E w a Q _ h4 hops (fin _ ?_) ro
          rw [hhp, hk]; funext l s; simp [Kd.touches]
        | t =>
          rw [hk] at hs
          refine hs.1 _ (hoff (by rw [hk]; simp)) E w a Q _ h4 hops (fin _ ?_) ro
          rw [hhp, hk]; funext l s; simp [Kd.touches]
        | w =>
          rw [hk] at hs
          rw [hall2 hk] at h4
          refine hs E w a Q _ h4 hops (fin _ ?_) ro
          rw [hhp, hk]; funext l s; simp [Kd.touches]
        | a d =>
          rw [hk] at hs
          obtain ⟨b, hb1, hb2, hb3⟩ := hs
          refine hb1 _ (by rw [hown d hk]; exact hb2) E w a Q _ h4 hops (fin _ ?_) ro
          rw [hhp, hk, hb3]
          funext l s
          simp only [Kd.touches, Zf.upd, Bool.and_eq_true, beq_iff_eq]
          by_cases hc' : l = nl ∧ s = d
          · simp [hc']
          · simp [hc']
      · rw [XR hguard hg]
        simp only [Bool.false_eq_true, if_false]
        refine ⟨fun _ _ => trivial, ?_⟩
        refine ih (listed.setIfInBounds i true) E w (a.put o.dst undef) hu2 (by simp [hsz]) hcl2 (by rw [size_put]; exact h1) (by rw [Jt]; exact h2) ?_ ?_ h5
        · intro t
          rw [htm, Zbz h1 (hd o hmem)]
          split
          · rw [hV]; exact VP E
          · exact h3 t
        · have : hv nl kd G ((listed.setIfInBounds i true).getD · false) ops.size = hv nl kd G (listed.getD · false) ops.size := by
            rw [hhp]
            funext l s
            split
            · rename_i hw
              rw [hGi]
              cases hk : kd i with
              | p => rw [hk] at hw; cases hw
              | t => rw [hk] at hw; cases hw
              | w => rw [hall2 hk]
              | a d =>
                rw [hk] at hw
                simp only [Kd.touches, Bool.and_eq_true, beq_iff_eq] at hw
                obtain ⟨rfl, rfl⟩ := hw
                exact (hown _ hk).symm
            · rfl
          rw [this]; exact h4

theorem Env.Jp (n : Nat) (E : Env) (w : World) : Ext n E w E { w with drawn := w.drawn + 1 } :=
  ⟨.refl n E, rfl, rfl, rfl, fun _ => Nat.le_succ _, Nat.le_refl _, fun _ _ _ => rfl, fun _ _ h => h⟩

theorem ZJ.drew {n : Nat} {H : Zf} {E : Env} {w : World} (h : ZJ n H E w) : ZJ n H E { w with drawn := w.drawn + 1 } :=
  { norm := h.norm, F := h.F, blk := fun l k b hl hb => (h.blk l k b hl hb).keep rfl rfl (fun _ => rfl) (fun _ _ _ h => h) (fun _ _ => rfl) (fun _ _ _ h => h) (fun _ _ _ h => h), dom := h.dom, nobuf := h.nobuf, inj := h.inj, injg := h.injg, mg := h.mg, mF := h.mF, lt := h.lt }

end Go.Abs
