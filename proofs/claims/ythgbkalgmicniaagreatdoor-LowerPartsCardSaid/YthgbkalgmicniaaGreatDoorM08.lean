/- A slot of the own level is handed down. No program, no condition. -/
import Derived.Test.YthgbkalgmicniaaGreatDoorM07
import Derived.Carry
import Derived.ChangeArms
import Derived.Deep.DeepHandedRow
import Derived.Lib.LaidTab
set_option linter.all false
namespace Go.Abs
def sw (n j l k x y:Nat):Nat × Nat:=if x = n ∧ y = j then (l,k) else if x = l ∧ y = k then (n,j) else (x,y)
def Env.swap (E:Env) (n j l k:Nat):Env where
 F:=E.F
 m:=fun x y=>E.m (sw n j l k x y).1 (sw n j l k x y).2
 hist:=fun x y=>E.hist (sw n j l k x y).1 (sw n j l k x y).2
 g:=fun x y=>E.g (sw n j l k x y).1 (sw n j l k x y).2
 qd:=E.qd
def ren (n j l k:Nat):AV → AV
 | .ptr x y o=>if x = n ∧ y = j then .ptr l k o else .ptr x y o
 | .map x y=>if x = n ∧ y = j then .map l k else .map x y
 | .msl sz x y i=>if x = n ∧ y = j then .msl sz l k i else .msl sz x y i
 | v=>v
def Zew (n j:Nat) (v:AV):Prop:=Inside n (fun x=>x ≠ j) v ∨ (∃ o,v = .ptr n j o) ∨ v = .map n j ∨ ∃ sz i,v = .msl sz n j i
theorem Yl {n j l k x y:Nat} (h1:¬(x = n ∧ y = j)) (h2:¬(x = l ∧ y = k)):sw n j l k x y = (x,y):=by
 unfold sw; rw [if_neg h1,if_neg h2]
theorem ZcD (n j l k:Nat):sw n j l k n j = (l,k):=by unfold sw; simp
theorem JK {n j l k:Nat} (h:l ≠ n):sw n j l k l k = (n,j):=by
 unfold sw; rw [if_neg (fun c=>h c.1),if_pos ⟨rfl,rfl⟩]
theorem Ze3 {n j l k:Nat} (h:l ≠ n) {x y x' y':Nat} (e:sw n j l k x y = sw n j l k x' y'):x = x' ∧ y = y':=by
 unfold sw at e
 split at e <;> split at e <;> (try split at e) <;> (try split at e) <;> simp only [Prod.mk.injEq] at e <;> omega
section
variable {n j l k:Nat} {E:Env}
theorem VR.swap (hl:l < n) (hm0:E.m l k = none) (hh0:∀ i,E.hist l k i = none) {a:AV} {v:Value} (hv:VR E a v) (hb:Inside n (fun x=>x ≠ j) a):VR (E.swap n j l k) a v:=by
 have km:∀ x y b,(x < n ∨ (x = n ∧ y ≠ j)) → E.m x y = some b → (E.swap n j l k).m x y = some b:=fun x y b h hm=>by
  have h1:¬(x = n ∧ y = j):=fun c=>by
   rcases h with h | h
   ·omega
   ·exact h.2 c.2
  have h2:¬(x = l ∧ y = k):=fun c=>by rw [c.1,c.2,hm0] at hm; cases hm
  simp only [Env.swap,Yl h1 h2]; exact hm
 have kh:∀ x y i b,(x < n ∨ (x = n ∧ y ≠ j)) → E.hist x y i = some b → (E.swap n j l k).hist x y i = some b:=fun x y i b h hm=>by
  have h1:¬(x = n ∧ y = j):=fun c=>by
   rcases h with h | h
   ·omega
   ·exact h.2 c.2
  have h2:¬(x = l ∧ y = k):=fun c=>by rw [c.1,c.2,hh0] at hm; cases hm
  simp only [Env.swap,Yl h1 h2]; exact hm
 induction hv with
 | int k n=>exact .int k n
 | bool b=>exact .bool b
 | str l=>exact .str l
 | nilp=>exact .nilp
 | ptr x y off b hm=>cases hb with | ptr _ _ _ hl=>exact .ptr x y off b (km _ _ _ hl hm)
 | ZA cs b off c hc _ ih=>cases hb with | ZA _ hb=>exact .ZA cs b off c hc (fun i h=>ih i h (hb i h))
 | slnil q o a ho ha =>
  cases hb with
  | sl _ _ _ _ hb =>
   refine .slnil q o a ?_ ha
   cases o with
   | any=>trivial
   | full=>exact ho
   | buf x i=>exact kh _ _ _ _ (hb x i rfl) ho
 | sl q xs o b off cap c hk hc _ hcap hm ho ih =>
  cases hb with
  | sl _ _ _ hx hb =>
   refine .sl q xs o b off cap c hk hc (fun i h i' h'=>ih i h i' h' (hx i h i' h')) hcap hm ?_
   cases o with
   | any=>trivial
   | full=>exact ho
   | buf x i=>exact kh _ _ _ _ (hb x i rfl) ho
 | nilf=>exact .nilf
 | fn f caps vs hl _ ih=>cases hb with | fn _ _ hb=>exact .fn f caps vs hl (fun i h h'=>ih i h h' (hb i h))
 | bfn f caps vs hl _ ih=>cases hb with | bfn _ _ hb=>exact .bfn f caps vs hl (fun i h h'=>ih i h h' (hb i h))
 | nilm=>exact .nilm
 | map x y b hm=>cases hb with | map _ _ hl=>exact .map x y b (km _ _ _ hl hm)
 | mnil sz x y a hh ha=>cases hb with | msl _ _ _ _ hl=>exact .mnil _ _ _ _ (kh _ _ _ _ hl hh) ha
 | msl sz x y i g cap hh=>cases hb with | msl _ _ _ _ hl=>exact .msl _ _ _ _ _ _ (kh _ _ _ _ hl hh)
 | eptr x y i off g cap hh=>cases hb with | eptr _ _ _ _ hl=>exact .eptr _ _ _ _ _ _ (kh _ _ _ _ hl hh)
 | ssl k xs ys b off cap c hk hc _ hcap hm ih=>cases hb with | ssl _ _ _ hx=>exact .ssl k xs ys b off cap c hk hc (fun i h j h'=>ih i h j h' (hx i h j h')) hcap hm
 | nili=>exact .nili
 | Y8=>exact .Y8
 | sln k a cap hc=>exact .sln k a cap hc
 | sub sz x y i off m g cap hh hm=>cases hb with | sub _ _ _ _ _ _ hl=>exact .sub _ _ _ _ _ _ _ _ (kh _ _ _ _ hl hh) hm
 | ifc t a v _ ih=>cases hb with | ifc _ _ hb=>exact .ifc t a v (ih hb)
 | agg cs vs hl _ ih=>cases hb with | agg _ hb=>exact .agg cs vs hl (fun i h h'=>ih i h h' (hb i h))
 | tup cs vs hl _ ih=>cases hb with | tup _ hb=>exact .tup cs vs hl (fun i h h'=>ih i h h' (hb i h))
 | dead v=>exact .dead v
theorem Zk9 {a:AV} (h:Inside n (fun x=>x ≠ j) a):ren n j l k a = a:=by
 cases h with
 | ptr x y o h=>simp only [ren]; rw [if_neg]; rintro ⟨rfl,rfl⟩; rcases h with h | h; exact absurd h (Nat.lt_irrefl _); exact h.2 rfl
 | map x y h=>simp only [ren]; rw [if_neg]; rintro ⟨rfl,rfl⟩; rcases h with h | h; exact absurd h (Nat.lt_irrefl _); exact h.2 rfl
 | msl sz x y i h=>simp only [ren]; rw [if_neg]; rintro ⟨rfl,rfl⟩; rcases h with h | h; exact absurd h (Nat.lt_irrefl _); exact h.2 rfl
 | _=>rfl
theorem VR.ren (hl:l < n) (hm0:E.m l k = none) (hh0:∀ i,E.hist l k i = none) {a:AV} {v:Value} (hv:VR E a v) (ht:Zew n j a):VR (E.swap n j l k) (ren n j l k a) v:=by
 rcases ht with h | ⟨o,rfl⟩ | rfl | ⟨sz,i,rfl⟩
 ·rw [Zk9 h]; exact hv.swap hl hm0 hh0 h
 ·cases hv with
  | ptr _ _ _ b hm =>
   simp only [Abs.ren]; rw [if_pos ⟨trivial,trivial⟩]
   refine .ptr l k o b ?_
   simp only [Env.swap,JK (show l ≠ n by omega)]; exact hm
 ·cases hv with
  | map _ _ b hm =>
   simp only [Abs.ren]; rw [if_pos ⟨trivial,trivial⟩]
   refine .map l k b ?_
   simp only [Env.swap,JK (show l ≠ n by omega)]; exact hm
 ·simp only [Abs.ren]; rw [if_pos ⟨trivial,trivial⟩]
  cases hv with
  | mnil _ _ _ a hh ha=>exact .mnil _ _ _ _ (by simp only [Env.swap,JK (show l ≠ n by omega)]; exact hh) ha
  | msl _ _ _ _ g cap hh=>exact .msl _ _ _ _ _ _ (by simp only [Env.swap,JK (show l ≠ n by omega)]; exact hh)
end
def Zk.WI (f:AV → AV):Zk → Zk
 | .box cs=>.box (cs.map f)
 | .map es=>.map (es.map fun p=>(f p.1,f p.2))
 | .buf e sz fr=>.buf e sz fr
 | .ZN e sz cs n=>.ZN e sz (cs.map f) n
 | .iter l k s q=>.iter l k s q
 | .var b t cs=>.var b t (cs.map f)
 | .lrec l N tm ps ca cb st pend=>.lrec l N tm ps ca cb st pend
theorem VRs.WI {E E':Env} {f:AV → AV} {as:List AV} {vs:List Value} (h:VRs E as vs) (hv:∀ a ∈ as,∀ v,VR E a v → VR E' (f a) v):VRs E' (as.map f) vs :=
 ⟨by simpa using h.1,fun i h1 h2=>by simp only [List.getElem_map]; exact hv _ (List.getElem_mem _) _ (h.2 i (by simpa using h1) h2)⟩
theorem Zct.ZfH {E E':Env} {w w':World} {l k l' k':Nat} {b:Zk} (f:AV → AV) (h:Zct E w l k b) (hm:E'.m l' k' = E.m l k) (hg:E'.g l' k' = E.g l k) (hh:∀ j,E'.hist l' k' j = E.hist l k j)
  (hi:∀ p ∈ b.at_,∀ r,E.m p.1 p.2 = some r → E'.m p.1 p.2 = some r) (hb:∀ r,E.m l k = some r ∨ E.g l k = some r → w'.heap[r]? = w.heap[r]?)
  (hF:∀ g o,E.g l k = some g → E.F g o = none → E'.F g o = none) (hv:∀ a ∈ b.avs,∀ v,VR E a v → VR E' (f a) v) (hrec:b.isRec = true → ∀ a ∈ b.avs,f a = a) (hqd:E'.qd = E.qd:=by rfl):Zct E' w' l' k' (b.WI f):=by
 cases b with
 | box cs =>
  obtain ⟨r,h1,c,t,h2,h3⟩:=h
  exact ⟨r,hm.trans h1,c,t,by rw [hb r (.inl h1)]; exact h2,h3.WI hv⟩
 | map es =>
  obtain ⟨r,h1,ent,h2,h3,h4⟩:=h
  refine ⟨r,hm.trans h1,ent,by rw [hb r (.inl h1),List.length_map]; exact h2,by rw [List.length_map]; exact h3,fun i x y=>?_⟩
  have x':i < es.length:=by simpa using x
  obtain ⟨q1,q2,q3⟩:=h4 i x' y
  simp only [List.getElem_map]
  exact ⟨hv _ (List.mem_append_left _ (List.mem_map.2 ⟨_,List.getElem_mem x',rfl⟩)) _ q1,hv _ (List.mem_append_right _ (List.mem_map.2 ⟨_,List.getElem_mem x',rfl⟩)) _ q2,q3⟩
 | buf e sz fr =>
  obtain ⟨⟨v,h1,h2,h3⟩,h4⟩:=h
  refine ⟨⟨v,(hh fr).trans h1,fun j hj=>(hh j).trans (h2 j hj),?_⟩,hm.trans h4⟩
  rcases h3 with ⟨a,q1,q2,q3⟩ | ⟨g,cap,cur,q1,q2,q3,q4,q5,q6,q7⟩
  ·exact .inl ⟨a,q1,q2,hg.trans q3⟩
  ·exact .inr ⟨g,cap,cur,q1,hg.trans q2,by rw [hb g (.inr q2)]; exact q3,q4,q5,q6,fun o ho=>hF g o q2 (q7 o ho)⟩
 | ZN e sz cs n =>
  obtain ⟨⟨h0,v,h1,h2,h3⟩,h4⟩:=h
  refine ⟨⟨by rw [List.length_map]; exact h0,v,(hh n).trans h1,fun j hj=>(hh j).trans (h2 j hj),?_⟩,hm.trans h4⟩
  rcases h3 with ⟨a,q1,q2,q3⟩ | ⟨g,cap,cur,q1,q2,q3,q4,q5,q6,q7,q8⟩
  ·exact .inl ⟨a,q1,q2,hg.trans q3⟩
  ·exact .inr ⟨g,cap,cur,q1,hg.trans q2,by rw [hb g (.inr q2)]; exact q3,q4,q5,q6,fun o=>hF g o q2 (q7 o),q8.WI hv⟩
 | iter x y since seen =>
  obtain ⟨r,r',h1,h2,h3⟩:=h
  exact ⟨r,r',hm.trans h1,hi (x,y) (by simp [Zk.at_]) r' h2,by rw [hb r (.inl h1)]; exact h3⟩
 | var b t cs =>
  obtain ⟨h0,h1,c,h2,h3⟩:=h
  exact ⟨hqd.trans h0,hm.trans h1,c,by rw [hb b (.inl h1)]; exact h2,h3.WI hv⟩
 | lrec b N tm ps ca cb st pend =>
  obtain ⟨h1,rc,h2,h3,h4,h5,h6,h7,h8,h9⟩:=h
  refine ⟨hm.trans h1,rc,by rw [hb b (.inl h1)]; exact h2,h3,h4,h5,h6,h7,h8,fun t=>?_⟩
  rcases lkv_mem (tm:=tm) (t:=t) with hd | hd
  ·rw [hd]; exact .dead _
  ·have hmem:lkv tm t ∈ (Zk.lrec b N tm ps ca cb st pend).avs:=by simp only [Zk.avs]; exact List.mem_map.2 ⟨_,hd,rfl⟩
   have:=hv _ hmem _ (h9 t)
   rw [hrec rfl _ hmem] at this; exact this
theorem Zg9 {f:AV → AV} {b:Zk} (h:∀ a ∈ b.avs,f a = a):b.WI f = b:=by
 cases b with
 | box cs=>simp only [Zk.WI]; congr 1; exact (List.map_congr_left h).trans (List.map_id' cs)
 | map es =>
  simp only [Zk.WI]; congr 1
  refine (List.map_congr_left (fun p hp=>?_)).trans (List.map_id' es)
  exact Prod.ext (h _ (List.mem_append_left _ (List.mem_map.2 ⟨p,hp,rfl⟩))) (h _ (List.mem_append_right _ (List.mem_map.2 ⟨p,hp,rfl⟩)))
 | buf e sz fr=>rfl
 | ZN e sz cs n=>simp only [Zk.WI]; congr 1; exact (List.map_congr_left h).trans (List.map_id' cs)
 | iter x y s q=>rfl
 | var b t cs=>simp only [Zk.WI]; congr 1; exact (List.map_congr_left h).trans (List.map_id' cs)
 | lrec l N tm ps ca cb st pend=>rfl
theorem Inside.mono {n:Nat} {p q:Nat → Prop} (hpq:∀ x,p x → q x) {a:AV} (h:Inside n p a):Inside n q a:=by
 have f:∀ l k:Nat,(l < n ∨ (l = n ∧ p k)) → (l < n ∨ (l = n ∧ q k)):=fun l k h=>h.imp id fun h=>⟨h.1,hpq _ h.2⟩
 induction h with
 | int k i=>exact .int k i
 | bool b=>exact .bool b
 | str l=>exact .str l
 | nilp=>exact .nilp
 | ptr l k off h=>exact .ptr l k off (f _ _ h)
 | ZA cs _ ih=>exact .ZA cs ih
 | sl k xs o _ ho ih=>exact .sl k xs o ih (fun l j e=>f _ _ (ho l j e))
 | nilf=>exact .nilf
 | fn g caps _ ih=>exact .fn g caps ih
 | bfn g caps _ ih=>exact .bfn g caps ih
 | nilm=>exact .nilm
 | map l k h=>exact .map l k (f _ _ h)
 | msl sz l k i h=>exact .msl sz l k i (f _ _ h)
 | eptr l k i off h=>exact .eptr l k i off (f _ _ h)
 | ssl k xs ys _ ih=>exact .ssl k xs ys ih
 | nili=>exact .nili
 | Y8=>exact .Y8
 | sln k=>exact .sln k
 | sub sz l k i off m h=>exact .sub sz l k i off m (f _ _ h)
 | ifc t a _ ih=>exact .ifc t a ih
 | agg cs _ ih=>exact .agg cs ih
 | tup cs _ ih=>exact .tup cs ih
 | dead=>exact .dead
def JU (n j l k:Nat) (L:List (Nat × Zk)):List (Nat × Zk):=(delb L j).map fun p=>(p.1,p.2.WI (ren n j l k))
theorem ZbM {f:Zk → Zk}:∀ (L:List (Nat × Zk)) (t:Nat),lkb (L.map fun p=>(p.1,f p.2)) t = (lkb L t).map f
 | [],t=>rfl
 | (i,b) :: r,t=>by
  simp only [List.map_cons,lkb]
  split
  ·rfl
  ·exact ZbM r t
theorem ZiR {n N:Nat} {tm tm':List (Nat × AV)} {L:List (Nat × Zk)} {H:Zf} {b:Zk} (j l k:Nat) (hl:l < n) (hfree:H l k = none) (hj:lkb L j = some b) (hb:b.Below n)
  (h1:∀ p ∈ tm',Zew n j (lkv tm p.1) ∧ Wk (ren n j l k (lkv tm p.1)) p.2) (hL:∀ p ∈ delb L j,(∀ a ∈ p.2.avs,Zew n j a) ∧ (∀ q ∈ p.2.at_,¬(q.1 = n ∧ q.2 = j)) ∧ p.2.isRec = false) :
  AWk n N ⟨tm,L,H⟩ ⟨tm',JU n j l k L,H.upd l k b⟩:=fun B E w a hs=>by
 have h:=hs.heap
 have hne:l ≠ n:=by omega
 obtain ⟨hm0,hg0,hh0⟩:=h.dom l k (by omega) (by simp only [full,if_neg hne]; exact hfree)
 have hmx:∀ x y,(E.swap n j l k).m x y = E.m (sw n j l k x y).1 (sw n j l k x y).2:=fun _ _=>rfl
 have hgx:∀ x y,(E.swap n j l k).g x y = E.g (sw n j l k x y).1 (sw n j l k x y).2:=fun _ _=>rfl
 have hf:full n (JU n j l k L) (H.upd l k b) n j = none:=by
  simp only [full,if_true,JU,ZbM,lkb_delb]; rfl
 have hto:full n (JU n j l k L) (H.upd l k b) l k = some b:=by
  simp only [full,if_neg hne,Zf.upd_same]
 have hot:∀ x y,¬(x = n ∧ y = j) → ¬(x = l ∧ y = k) → full n (JU n j l k L) (H.upd l k b) x y = if x = n then (lkb L y).map (fun b=>b.WI (ren n j l k)) else H x y:=fun x y c1 c2=>by
  simp only [full]
  split
  ·rename_i e
   simp only [JU,ZbM,lkb_delb]
   rw [if_neg (fun e'=>c1 ⟨e,e'⟩)]
  ·exact Zf.upd_ne _ _ c2
 have hnone:∀ x y,¬(x = n ∧ y = j) → ¬(x = l ∧ y = k) → full n (JU n j l k L) (H.upd l k b) x y = none → full n L H x y = none:=fun x y c1 c2 e=>by
  rw [hot x y c1 c2] at e
  simp only [full]
  split
  ·rename_i e'; rw [if_pos e'] at e; simpa using e
  ·rename_i e'; rw [if_neg e'] at e; exact e
 have hfn:full n L H n j = some b:=by simp only [full,if_true]; exact hj
 have hfl:full n L H l k = none:=by simp only [full,if_neg hne]; exact hfree
 refine ⟨E.swap n j l k,⟨hs.size,hs.defs.sub (fun b ho=>ho.elim (fun ⟨x,y,hm⟩=>.inl ⟨_,_,hm⟩) (fun ⟨x,y,hm⟩=>.inr ⟨_,_,hm⟩)),fun t=>?_,{ norm:=?_,F:=h.F,blk:=fun x y bb hx hbb=>?_,dom:=fun x y hx hbb=>?_,nobuf:=fun x y hg=>?_,inj:=?_,injg:=?_,mg:=?_,mF:=?_,lt:=?_ },fun x y bb hx hbb=>?_⟩,
  ⟨⟨fun _ _ _ h=>h,fun x y r hx hm=>?_,fun x y i v hx hm=>?_,rfl⟩,rfl,rfl,rfl,fun _=>Nat.le_refl _,Nat.le_refl _,fun _ _ _=>rfl,fun r _ ho=>?_⟩⟩
 ·show VR _ (lkv tm' t) _
  rcases lkv_mem (tm:=tm') (t:=t) with hd | hm
  ·rw [hd]; exact .dead _
  ·obtain ⟨q1,q2⟩:=h1 _ hm
   exact q2.vr ((hs.tmps t).ren hl hm0 hh0 q1)
 ·refine ⟨fun x y hx=>?_,fun x y hx=>?_,fun x y i hx=>?_⟩ <;> simp only [Env.swap] <;> rw [Yl (by omega) (by omega)]
  ·exact h.norm.m x y hx
  ·exact h.norm.g x y hx
  ·exact h.norm.hist x y i hx
 ·by_cases c2:x = l ∧ y = k
  ·obtain ⟨rfl,rfl⟩:=c2
   rw [hto] at hbb; cases hbb
   have:=(h.blk n j b (Nat.lt_succ_self n) hfn).ZfH (E':=E.swap n j x y) (w':=w) (l':=x) (k':=y) (fun a=>a) (by rw [hmx,JK hne]) (by rw [hgx,JK hne]) (fun i=>by simp only [Env.swap,JK hne]) (fun p hp r hr=>?_) (fun _ _=>rfl) (fun _ _ _ h=>h)
    (fun a ha v hv=>hv.swap hl hm0 hh0 ((hb.1 a ha).inside)) (fun _ _ _=>rfl)
   ·rw [Zg9 (fun _ _=>rfl)] at this; exact this
   ·have:=hb.2 p hp
    rw [hmx,Yl (by omega) (fun c=>by rw [c.1,c.2,hm0] at hr; cases hr)]; exact hr
  ·by_cases c1:x = n ∧ y = j
   ·obtain ⟨rfl,rfl⟩:=c1
    rw [hf] at hbb; cases hbb
   ·rw [hot x y c1 c2] at hbb
    have e0:sw n j l k x y = (x,y):=Yl c1 c2
    split at hbb
    ·rename_i e; subst e
     simp only [Option.map_eq_some_iff] at hbb
     obtain ⟨b0,hb0,rfl⟩:=hbb
     have hmem:(y,b0) ∈ delb L j:=by
      have:=lkb_delb L j y
      rw [if_neg (fun e'=>c1 ⟨rfl,e'⟩),hb0] at this
      exact lkb_mem this
     obtain ⟨t1,t2,t3⟩:=hL _ hmem
     refine (h.blk x y b0 hx (by simp only [full,if_true]; exact hb0)).ZfH _ (by rw [hmx,e0]) (by rw [hgx,e0]) (fun i=>by simp only [Env.swap,e0]) (fun p hp r hr=>?_) (fun _ _=>rfl) (fun _ _ _ h=>h) (fun a ha v hv=>hv.ren hl hm0 hh0 (t1 a ha)) (fun e=>by rw [t3] at e; cases e)
     rw [hmx,Yl (t2 p hp) (fun c=>by rw [c.1,c.2,hm0] at hr; cases hr)]; exact hr
    ·rename_i e
     have hbl:=hs.out x y bb (by omega) hbb
     refine (h.blk x y bb hx (by simp only [full,if_neg e]; exact hbb)).keep (by rw [hmx,e0]) (by rw [hgx,e0]) (fun i=>by simp only [Env.swap,e0]) (fun p hp r hr=>?_) (fun _ _=>rfl) (fun _ _ _ h=>h) (fun a ha v hv=>hv.swap hl hm0 hh0 (hbl.1 a ha).inside)
     have:=hbl.2 p hp
     rw [hmx,Yl (by omega) (fun c=>by rw [c.1,c.2,hm0] at hr; cases hr)]; exact hr
 ·by_cases c2:x = l ∧ y = k
  ·rw [c2.1,c2.2,hto] at hbb; cases hbb
  ·by_cases c1:x = n ∧ y = j
   ·simp only [Env.swap,c1.1,c1.2,ZcD]; exact ⟨hm0,hg0,hh0⟩
   ·have e0:sw n j l k x y = (x,y):=Yl c1 c2
    simp only [Env.swap,e0]
    exact h.dom x y hx (hnone x y c1 c2 hbb)
 ·by_cases c2:x = l ∧ y = k
  ·rw [c2.1,c2.2]
   rw [hgx,c2.1,c2.2,JK hne] at hg
   obtain ⟨b',hb',hbi⟩:=h.nobuf n j hg
   rw [hfn] at hb'; cases hb'
   exact ⟨b,hto,hbi⟩
  ·by_cases c1:x = n ∧ y = j
   ·rw [hgx,c1.1,c1.2,ZcD] at hg; exact absurd hg0 hg
   ·rw [hgx,Yl c1 c2] at hg
    obtain ⟨b',hb',hbi⟩:=h.nobuf x y hg
    rw [hot x y c1 c2]
    simp only [full] at hb'
    split
    ·rename_i e; rw [if_pos e] at hb'
     refine ⟨_,by rw [hb']; rfl,?_⟩
     cases b' <;> first | rfl | cases hbi
    ·rename_i e; rw [if_neg e] at hb'
     exact ⟨b',hb',hbi⟩
 ·intro x y x' y' r a1 a2
  rw [hmx] at a1 a2
  have:=h.inj _ _ _ _ _ a1 a2
  exact Ze3 hne (Prod.ext this.1 this.2)
 ·intro x y x' y' r a1 a2
  rw [hgx] at a1 a2
  have:=h.injg _ _ _ _ _ a1 a2
  exact Ze3 hne (Prod.ext this.1 this.2)
 ·intro x y x' y' r a1 a2
  rw [hmx] at a1; rw [hgx] at a2
  exact h.mg _ _ _ _ _ a1 a2
 ·intro x y r o a1
  rw [hmx] at a1
  exact h.mF _ _ _ _ a1
 ·intro r hr
  rcases hr with ⟨x,y,hm⟩ | ⟨x,y,hm⟩
  ·exact h.lt r (.inl ⟨_,_,hm⟩)
  ·exact h.lt r (.inr ⟨_,_,hm⟩)
 ·simp only [Zf.upd] at hbb
  split at hbb
  ·cases hbb; exact hb
  ·exact hs.out x y bb hx hbb
 ·rw [hmx,Yl (by omega) (fun c=>by rw [c.1,c.2,hm0] at hm; cases hm)]; exact hm
 ·simp only [Env.swap]
  rw [Yl (by omega) (fun c=>by rw [c.1,c.2,hh0] at hm; cases hm)]; exact hm
 ·rcases ho with ⟨x,y,hm⟩ | ⟨x,y,hm⟩
  ·exact .inl ⟨_,_,hm⟩
  ·exact .inr ⟨_,_,hm⟩
end Go.Abs

/- Loops over functions. No program, no condition. -/
namespace Go.Abs
theorem Zkg (ro:Option Nat) (n:Nat):(fr ro).room n:=fun _ h=>by cases h
theorem ZgY {ro:Option Nat} {n:Nat} {P:Program} {c:Code} {Q:Exit → Act → World → Prop} {a:Act} {w:World} (h:c.wpIn (fr ro) 0 P Q a w):c.wpIn (fr ro) n P Q a w :=
 fun b k cs h1 h2 _=>h b k cs h1 h2 (Zkg _ _)
theorem ZJ.ZcB {M:Nat} {G:Zf} {E:Env} {w:World} (h:ZJ M G E w) {x y l N:Nat} {tm:List (Nat × AV)} {ps:Array Tmp} {ca cb:Code} {st:LoopState} {pd:Option Code} (hx:x < M)
  (hG:G x y = some (.lrec l N tm ps ca cb st pd)) :
  ∃ rc:Loop,w.heap[l]? = some (.loop rc) ∧ rc.params = ps ∧ rc.assign = ca ∧ rc.body = cb ∧ rc.state = st ∧ rc.pending = pd ∧ rc.tmps.size = N ∧ (∀ t,VR E (lkv tm t) (rc.tmps.getD t undef)) ∧
   ∀ st' pd',ZJ M (G.upd x y (.lrec l N tm ps ca cb st' pd')) E (w.putObj l (.loop { rc with state:=st',pending:=pd' })) ∧ Ext M E w E (w.putObj l (.loop { rc with state:=st',pending:=pd' })):=by
 obtain ⟨hm,rc,h1,h2,h3,h4,h5,h6,h7,h8⟩:=h.blk x y _ hx hG
 have hlt:l < w.heap.size:=(Array.getElem?_eq_some_iff.1 h1).1
 refine ⟨rc,h1,h2,h3,h4,h5,h6,h7,h8,fun st' pd'=>?_⟩
 exact h.turn (.inl hm) _ (fun hg=>absurd (h.m_g hm) hg) rfl rfl rfl (fun _=>Nat.le_refl _) World.putObj_size (fun b' hne=>World.putObj_heap_other hne) (fun o=>h.mF _ _ _ o hm)
  ⟨hm,{ rc with state:=st',pending:=pd' },World.putObj_heap_same hlt,h2,h3,h4,rfl,rfl,h7,h8⟩
def zipT:List Tmp → List AV → List (Nat × AV) → List (Nat × AV)
 | p :: ps,a :: as,tm=>zipT ps as ((p,a) :: tm)
 | _,_,tm=>tm
theorem Zfj {E:Env}:∀ (ps:List Tmp) (as:List AV) (vs:List Value) (tm:List (Nat × AV)) (arr:Array Value),VRs E as vs → (∀ p ∈ ps,p < arr.size) → (∀ t,VR E (lkv tm t) (arr.getD t undef)) →
  ∀ t,VR E (lkv (zipT ps as tm) t) (((ps.zip vs).foldl (fun a (p:Tmp × Value)=>a.setIfInBounds p.1 p.2) arr).getD t undef)
 | [],as,vs,tm,arr,_,_,h=>by simpa [zipT] using h
 | p :: ps,[],vs,tm,arr,hv,_,h=>by
  rw [hv.of_nil]; simpa [zipT] using h
 | p :: ps,a :: as,vs,tm,arr,hv,hp,h=>by
  obtain ⟨v,r,rfl,h1,h2⟩:=hv.YR
  simp only [zipT,List.zip_cons_cons,List.foldl_cons]
  refine Zfj ps as r _ _ h2 (fun q hq=>by simpa using hp q (List.mem_cons_of_mem _ hq)) ?_
  intro t
  simp only [lkv,Array.getD_eq_getD_getElem?]
  by_cases ht:p = t
  ·subst ht
   have:=hp p (by simp)
   rw [if_pos rfl]
   simpa [this] using h1
  ·rw [if_neg ht,Array.getElem?_setIfInBounds_ne ht]
   have:=h t
   rwa [Array.getD_eq_getD_getElem?] at this
theorem zipT_size:∀ (l:List (Tmp × Value)) (arr:Array Value),(l.foldl (fun a (p:Tmp × Value)=>a.setIfInBounds p.1 p.2) arr).size = arr.size
 | [],_=>rfl
 | p :: l,arr=>by rw [List.foldl_cons,zipT_size l]; simp
def Zgk (Q:AV → Zf → Prop) (x y l N:Nat) (tm:List (Nat × AV)) (ps:Array Tmp) (ca cb:Code):Exit → Zh → Prop:=fun e s =>
 s.H x y = some (.lrec l N tm ps ca cb .busy none) ∧ match e with
  | .normal=>Q (.bool true) (s.H.upd x y (.lrec l N tm ps ca cb .ready none))
  | .ret=>Q (.bool false) (s.H.upd x y (.lrec l N tm ps ca cb .done (some .ret)))
  | .exit id=>Q (.bool false) (s.H.upd x y (.lrec l N tm ps ca cb .done (some (.exit id))))
  | _=>False
theorem ZgO {P:Program} {m l:Nat} {args:List AV} {H:Zf} {Q:AV → Zf → Prop} {x y N:Nat} {tm:List (Nat × AV)} {ps:Array Tmp} {ca cb:Code} (hH:H x y = some (.lrec l N tm ps ca cb .ready none)) (hx:x < m)
  (hps:args.length = ps.size) (hN:∀ p ∈ ps.toList,p < N)
  (h:∀ B,AK P ⟨some l,B⟩ m N [.code ca] (fun e s=>e = .normal ∧ s.H x y = some (.lrec l N tm ps ca cb .ready none) ∧
   AK P ⟨some l,B⟩ m N [.code cb] (Zgk Q x y l N tm ps ca cb) ⟨s.tmps,s.L,s.H.upd x y (.lrec l N tm ps ca cb .busy none)⟩) ⟨zipT ps.toList args tm,[],H⟩):WR P m l args H Q:=fun E w vs hr hv=>by
 have hfull:∀ (L:List (Nat × Zk)) (H:Zf),full m L H x y = H x y:=fun L H=>by simp only [full]; rw [if_neg (by omega)]
 obtain ⟨rc,h1,h2,h3,h4,h5,h6,h7,h8,_⟩:=hr.ZcB hx hH
 have hlen:=hv.1
 have hy:=run_yield (P:=P) (args:=vs.toArray) h1 (by rw [h2,← hps,← hlen]; simp)
 refine ⟨_,_,_,_,hy,fun ro n=>?_⟩
 refine roundIn_of_wpIn (F:=fr ro) trivial ?_
 rw [h2,h3,h4]
 have hz:(ps.zip vs.toArray).foldl (fun tmps (p:Tmp × Value)=>tmps.setIfInBounds p.1 p.2) rc.tmps = (ps.toList.zip vs).foldl (fun a (p:Tmp × Value)=>a.setIfInBounds p.1 p.2) rc.tmps:=by
  rw [← Array.foldl_toList]; simp
 have hs:WZ w.heap.size m N ⟨zipT ps.toList args tm,[],H⟩ E { tmps:=(ps.zip vs.toArray).foldl (fun tmps (p:Tmp × Value)=>tmps.setIfInBounds p.1 p.2) rc.tmps,defers:=[] } w:=by
  refine ⟨by rw [hz,zipT_size]; exact h7,.nil _ (Nat.le_refl _),fun t=>?_,hr.enter,fun l k b hl hb=>hr.out hl hb⟩
  rw [hz]; exact Zfj _ _ _ _ _ hv (fun p hp=>by rw [h7]; exact hN p hp) h8 t
 refine ZgY (ro:=some l) (wpIn_mono (h w.heap.size E w _ hs) ?_)
 rintro e a1 w1 ⟨s1,E1,⟨rfl,hr1,hk⟩,hs1,hx1⟩
 have hG1:full m s1.L s1.H x y = some (.lrec l N tm ps ca cb .ready none):=by rw [hfull]; exact hr1
 obtain ⟨rc1,g1,g2,g3,g4,g5,g6,g7,g8,g9⟩:=hs1.heap.ZcB (show x < m + 1 by omega) hG1
 obtain ⟨hh,hhx⟩:=g9 .busy none
 have hbe:({ rc1 with state:=.busy }:Loop) = { rc1 with state:=.busy,pending:=none }:=by rw [← g6]
 refine ⟨_,run_beginRound g1 g5,ZgY (ro:=some l) (wpIn_mono ?_ fun _ _ _ h=>h)⟩
 rw [hbe]
 have hbl:∀ st pd,(Zk.lrec l N tm ps ca cb st pd).Below m:=fun st pd=>by
  have:=hs1.out x y _ hx hr1
  exact ⟨this.1,this.2⟩
 have hs2:WZ w.heap.size m N ⟨s1.tmps,s1.L,s1.H.upd x y (.lrec l N tm ps ca cb .busy none)⟩ E1 a1 (w1.putObj l (.loop { rc1 with state:=.busy,pending:=none })):=by
  refine ⟨hs1.size,hs1.defs.ext hhx,fun t=>(hs1.tmps t),?_,fun l' k' b hl hb=>?_⟩
  ·rw [XI m _ _ _ _ _ (by omega)]; exact hh
  ·simp only [Zf.upd] at hb
   split at hb
   ·cases hb; exact hbl _ _
   ·exact hs1.out l' k' b hl hb
 refine wpIn_mono (AC.run hk hs2 (hx1.trans (hhx.mono (Nat.le_succ m)))) ?_
 rintro e a2 w2 ⟨s2,E2,⟨hb2,hq⟩,hs3,hx2⟩
 have hG2:full m s2.L s2.H x y = some (.lrec l N tm ps ca cb .busy none):=by rw [hfull]; exact hb2
 obtain ⟨rc2,f1,f2,f3,f4,f5,f6,f7,f8,f9⟩:=hs3.heap.ZcB (show x < m + 1 by omega) hG2
 have fin:∀ (jump:Option Code) (st:LoopState),(if jump.isNone then LoopState.ready else .done) = st → Q (.bool jump.isNone) (s2.H.upd x y (.lrec l N tm ps ca cb st jump)) →
   ∃ v w',(Instr.endRound l jump).run P w2 = .ok v w' ∧ ∃ r v' H' E',Ending.returned v = .returned v' ∧ Q r H' ∧ VR E' r v' ∧ ZJ m H' E' w' ∧ Ext m E w E' w':=fun jump st hst hQ=>by
  obtain ⟨hh2,hhx2⟩:=f9 st jump
  have hend:=run_endRound (P:=P) jump f1
  rw [hst] at hend
  have hs4:WZ w.heap.size m N ⟨s2.tmps,s2.L,s2.H.upd x y (.lrec l N tm ps ca cb st jump)⟩ E2 a2 (w2.putObj l (.loop { rc2 with state:=st,pending:=jump })):=by
   refine ⟨hs3.size,hs3.defs.ext hhx2,hs3.tmps,?_,fun l' k' b hl hb=>?_⟩
   ·rw [XI m _ _ _ _ _ (by omega)]; exact hh2
   ·simp only [Zf.upd] at hb
    split at hb
    ·cases hb; exact hbl _ _
    ·exact hs3.out l' k' b hl hb
  have hxx:=hx2.trans (hhx2.mono (Nat.le_succ m))
  refine ⟨_,_,hend,.bool jump.isNone,_,_,E2.cut m,rfl,hQ,.bool _,ZJ.leave hs4,⟨Env.Zf9 hxx.le,hxx.os,hxx.tape,hxx.output,hxx.drawn,hxx.size,hxx.block,fun b hb' ho=>hxx.own b hb' ?_⟩⟩
  rcases ho with ⟨l,k,hm⟩ | ⟨l,k,hm⟩
  ·simp only [Env.cut] at hm; split at hm
   ·exact .inl ⟨l,k,hm⟩
   ·cases hm
  ·simp only [Env.cut] at hm; split at hm
   ·exact .inr ⟨l,k,hm⟩
   ·cases hm
 cases e with
 | normal=>exact fin none .ready rfl hq
 | ret=>exact fin (some .ret) .done rfl hq
 | exit id=>exact fin (some (.exit id)) .done rfl hq
 | _=>exact hq.elim
theorem ZeL {P:Program} {B n N:Nat} {g:Operand} {ps:Array Tmp} {ca cb:Code} {k:List Itm} {Q:Exit → Zh → Prop} {s:Zh} {gf:FuncId} {fn:Func} {c:Code} {caps:List AV} (y:Nat)
  (hg:evT s.tmps g = .fn (.func gf) caps) (hf:Fun P gf fn c) (hy:lkb s.L y = none)
  (h:∀ l,∃ Qc,Zr P (n + 1) gf ([.fn (.yield l) []] ++ caps) (full n (setb s.L y (.lrec l N s.tmps ps ca cb .ready none)) s.H) Qc ∧
   ∀ r H1,Qc r H1 → ∃ L1 H2 st pd,H1 = full n L1 H2 ∧ Z5 n s.H H2 ∧ lkb L1 y = some (.lrec l N s.tmps ps ca cb st pd) ∧ st ≠ .busy ∧
    (match pd with
     | none=>AK P ⟨none,B⟩ n N k Q ⟨s.tmps,setb L1 y (.lrec l N s.tmps ps ca cb .exhausted none),H2⟩
     | some c=>AK P ⟨none,B⟩ n N (.code c :: k) Q ⟨s.tmps,setb L1 y (.lrec l N s.tmps ps ca cb .exhausted (some c)),H2⟩)) :
  AK P ⟨none,B⟩ n N (.code (.rangeFunc g ps ca cb) :: k) Q s:=fun E w a hs=>by
 refine wpIn_rangeFunc (F:=fr none) (n:=0) fun fid _=>?_
 have hgv:=ZiD hs.tmps g
 rw [hg] at hgv
 generalize hgy:a.eval g = gy at hgv
 cases hgv with | fn _ _ vs hl hvs =>
 obtain ⟨W0,hW0⟩:∃ W0,w.alloc (.deferred (some [])) = W0:=⟨_,rfl⟩
 have hsz0:W0.heap.size = w.heap.size + 1:=by rw [← hW0]; simp
 have hold0:∀ b,b < w.heap.size → W0.heap[b]? = w.heap[b]?:=fun b hb=>by
  rw [← hW0]; simp only [World.alloc,Array.getElem?_push]; rw [if_neg (by omega)]
 have hD0:W0.heap[w.heap.size]? = some (.deferred (some [])):=by rw [← hW0]; exact World.alloc_heap_new w _
 obtain ⟨r0,x0⟩:=hs.heap.grow (w':=W0) (F':=E.F) (by rw [← hW0]; rfl) (by rw [← hW0]; rfl) (by rw [← hW0]; rfl) (fun _=>by rw [← hW0]; exact Nat.le_refl _) (by omega) hold0 (fun _ _ _ h=>h)
  (fun b o v hf=>by
   have hlt:=hs.heap.ZbZ hf
   have:=hs.heap.F b o v hf
   simp only [World.cell?,hold0 b hlt] at this ⊢; exact this) (fun _ _ _=>rfl)
 have hfree:full n s.L s.H n y = none:=by simp only [full,if_true]; exact hy
 obtain ⟨rc,hrc⟩:∃ rc:Loop,rc = { state:=.ready,pending:=none,fn:=fid,tmps:=a.tmps,params:=ps,assign:=ca,body:=cb,defers:=w.heap.size }:=⟨_,rfl⟩
 have hnew:(W0.alloc (.loop rc)).heap[W0.heap.size]? = some (.loop rc):=World.alloc_heap_new _ _
 have hle0:E.le (n + 1) (E.Wv n y W0.heap.size):=by
  refine ⟨fun _ _ _ h=>h,fun l' k' b _ hm=>?_,fun _ _ _ _ _ h=>h,rfl⟩
  simp only [Env.Wv]
  rw [if_neg (fun hc=>by rw [hc.1,hc.2,(hs.heap.dom n y (Nat.lt_succ_self n) hfree).1] at hm; cases hm)]; exact hm
 obtain ⟨r1,x1⟩:=r0.ZcC (l:=n) (k:=y) (Nat.lt_succ_self n) hfree (.loop rc) (.lrec W0.heap.size N s.tmps ps ca cb .ready none) (by
  refine ⟨by simp [Env.Wv],rc,hnew,by rw [hrc],by rw [hrc],by rw [hrc],by rw [hrc],by rw [hrc],by rw [hrc]; exact hs.size,fun t=>?_⟩
  rw [hrc]; exact (hs.tmps t).mono hs.heap.norm hle0)
 have hx1:=(x0.trans x1)
 obtain ⟨Qc,hc,hk⟩:=h W0.heap.size
 rw [ZU] at hc
 have hl0:w.heap.size + 1 = W0.heap.size:=hsz0.symm
 refine ⟨w.heap.size + 1,[mark w.heap.size],W0.alloc (.loop rc),{ target:=.fn (.func gf) vs.toArray,args:=#[.func (.yield W0.heap.size) #[] #[]] },W0.alloc (.loop rc),gf,
  #[.func (.yield W0.heap.size) #[] #[]] ++ vs.toArray,W0.alloc (.loop rc),?_,?_,fun _ _=>trivial,?_,JX,Jz ?_⟩
 ·rw [hrc,← hW0]; exact run_enterLoop_outer _ _ _ _ _
 ·rw [hl0]
  simp only [resolve,rangeCall,hgy]
  simp [go_sem]
 ·simp [invoke,XU hf]
 have hvs1:VRs (E.Wv n y W0.heap.size) ([.fn (.yield W0.heap.size) []] ++ caps) ([.func (.yield W0.heap.size) #[] #[]] ++ vs) :=
  VRs.append (VRs.cons (VR.fn _ [] [] rfl (fun i h=>absurd h (Nat.not_lt_zero _))) (VRs.nil _)) ((show VRs E caps vs from ⟨hl,hvs⟩).mono hs.heap.norm hle0)
 have hcall:=hc _ _ _ r1 hvs1
 rw [show ([Value.func (.yield W0.heap.size) #[] #[]] ++ vs).toArray = #[.func (.yield W0.heap.size) #[] #[]] ++ vs.toArray by simp] at hcall
 refine hcall.mono ?_
 rintro e w3 ⟨r,v,H1,E3,rfl,hq,hv3,hh3,hx3⟩
 obtain ⟨L1,H2,st,pd,rfl,ho,hl1,hst,hkk⟩:=hk _ _ hq
 have hG:full n L1 H2 n y = some (.lrec W0.heap.size N s.tmps ps ca cb st pd):=by simp only [full,if_true]; exact hl1
 obtain ⟨rc3,f1,f2,f3,f4,f5,f6,f7,f8,f9⟩:=hh3.ZcB (Nat.lt_succ_self n) hG
 obtain ⟨hh4,hx4⟩:=f9 .exhausted pd
 have hend:=run_endLoop (P:=P) f1 (by rw [f5]; exact hst)
 rw [f6] at hend
 rw [hl0]
 have hxa:=(hx1.trans hx3).trans hx4
 have hlW:∀ b,b < W0.heap.size → (W0.alloc (.loop rc)).heap[b]? = W0.heap[b]?:=fun b hb=>by
  simp only [World.alloc,Array.getElem?_push]; rw [if_neg (by omega)]
 have hDn:¬ (E.Wv n y W0.heap.size).own w.heap.size:=by
  rintro (⟨l',k',hm⟩ | ⟨l',k',hm⟩)
  ·simp only [Env.Wv] at hm
   split at hm
   ·simp only [Option.some.injEq] at hm; omega
   ·have:=hs.heap.lt _ (.inl ⟨_,_,hm⟩); omega
  ·have:=hs.heap.lt _ (.inr ⟨_,_,hm⟩); omega
 have hdl:Zcu B (E.Wv n y W0.heap.size) [mark w.heap.size] (W0.alloc (.loop rc)):=by
  refine ⟨?_,[w.heap.size],rfl,by simp,fun D hD=>?_⟩
  ·have h0:B ≤ w.heap.size:=hs.defs.1
   simp; omega
  ·have:D = w.heap.size:=by simpa using hD
   subst this
   exact ⟨hs.defs.1,by rw [hlW _ (by omega)]; exact hD0,hDn⟩
 have hdefs:Zcu B E3 (mark w.heap.size :: a.defers) (w3.putObj W0.heap.size (.loop { rc3 with state:=.exhausted,pending:=pd })):=by
  obtain ⟨d0,l1,d1,d2,d3⟩:=(hdl.ext hx3).ext hx4
  obtain ⟨e0,l2,e1,e2,e3⟩:=hs.defs.ext hxa
  refine ⟨e0,w.heap.size :: l2,by rw [e1]; rfl,List.nodup_cons.2 ⟨fun hm=>?_,e2⟩,fun D hD=>?_⟩
  ·obtain ⟨_,l3,c1,c2,c3⟩:=hs.defs
   rw [e1] at c1
   have hll:l2 = l3:=by
    have inj:∀ (a b:List Nat),a.map mark = b.map mark → a = b:=by
     intro a
     induction a with
     | nil=>intro b hb; cases b with
      | nil=>rfl
      | cons _ _=>cases hb
     | cons x a ih=>intro b hb; cases b with
      | nil=>cases hb
      | cons z b =>
       simp only [List.map_cons,List.cons.injEq,mark,Deferred.mk.injEq,Target.collected.injEq,and_true] at hb
       rw [hb.1,ih b hb.2]
    exact inj _ _ c1
   have:=(Array.getElem?_eq_some_iff.1 (c3 _ (hll ▸ hm)).2.1).1
   omega
  ·rcases List.mem_cons.1 hD with rfl | hD
   ·have:w.heap.size ∈ l1:=by
     cases l1 with
     | nil=>cases d1
     | cons z l1 =>
      simp only [List.map_cons,List.cons.injEq,mark,Deferred.mk.injEq,Target.collected.injEq,and_true] at d1
      rw [d1.1]; simp
    exact d3 _ this
   ·exact e3 D hD
 have hs4:∀ pd',pd' = pd → WZ B n N ⟨s.tmps,setb L1 y (.lrec W0.heap.size N s.tmps ps ca cb .exhausted pd'),H2⟩ E3 { a with defers:=mark w.heap.size :: a.defers } (w3.putObj W0.heap.size (.loop { rc3 with state:=.exhausted,pending:=pd })):=fun pd' e=>by
  subst e
  refine ⟨hs.size,hdefs,fun t=>(hs.tmps t).mono hs.heap.norm (hx1.trans hx3).le,?_,WZ.ZbK hs.out ho⟩
  rw [ZU]; exact hh4
 refine ⟨pd,_,hend,?_⟩
 cases pd with
 | none=>exact ⟨_,E3,hkk,hs4 none rfl,hxa.mono (Nat.le_succ n)⟩
 | some c=>exact AC.run hkk (hs4 (some c) rfl) (hxa.mono (Nat.le_succ n))
theorem Zk.YV {n:Nat} {cs:List AV} (h:Yj (fun c=>Abs.Below n c) cs):Zk.Below n (.box cs):=⟨h.mem,by simp [Zk.at_]⟩
theorem Zk.ZdB {n l N:Nat} {tm:List (Nat × AV)} {ps:Array Tmp} {ca cb:Code} {st:LoopState} {pd:Option Code} (h:Yj (fun p=>Abs.Below n p.2) tm):Zk.Below n (.lrec l N tm ps ca cb st pd):=by
 refine ⟨fun a ha=>?_,by simp [Zk.at_]⟩
 simp only [Zk.avs] at ha
 obtain ⟨p,hp,rfl⟩:=List.mem_map.1 ha
 rcases lkv_mem (tm:=tm) (t:=p.1) with hd | hm
 ·rw [hd]; exact .dead
 ·exact h.mem _ hm
theorem Zd6 (T:TT) {P:Program} {m l:Nat} {args:List AV} {H:Zf} {Q:AV → Zf → Prop} {x y N:Nat} {tm:List (Nat × AV)} {ps:Array Tmp} {ca cb:Code} (hH:H x y = some (.lrec l N tm ps ca cb .ready none)) (hx:x < m)
  (hps:args.length = ps.size) (hN:∀ p ∈ ps.toList,p < N)
  (h:∀ B,AKc ⟨P,T,⟨some l,B⟩,m,N⟩ [.code ca] (fun e s=>e = .normal ∧ s.H x y = some (.lrec l N tm ps ca cb .ready none) ∧
   AKc ⟨P,T,⟨some l,B⟩,m,N⟩ [.code cb] (Zgk Q x y l N tm ps ca cb) ⟨s.tmps,s.L,s.H.upd x y (.lrec l N tm ps ca cb .busy none)⟩) ⟨zipT ps.toList args tm,[],H⟩):WR P m l args H Q :=
 ZgO hH hx hps hN h
theorem Zce {P:Program} {T:TT} {B n N:Nat} {g:Operand} {ps:Array Tmp} {c:Code} {k:List Itm} {Q:Exit → Zh → Prop} {tm:List (Nat × AV)} {L:List (Nat × Zk)} {H:Zf} {gf:FuncId} {fn:Func} {c':Code} {caps:List AV} (y:Nat)
  (hc:c = .rangeFunc g ps c.fst c.snd) (hg:evT tm g = .fn (.func gf) caps) (hf:Fun P gf fn c') (hy:lkb L y = none)
  (h:∀ l,∃ Qc,Zr P (n + 1) gf ([.fn (.yield l) []] ++ caps) (full n (setb L y (.lrec l N tm ps c.fst c.snd .ready none)) H) Qc ∧
   ∀ r H1,Qc r H1 → ∃ L1 H2 st pd,H1 = full n L1 H2 ∧ Z5 n H H2 ∧ lkb L1 y = some (.lrec l N tm ps c.fst c.snd st pd) ∧ st ≠ .busy ∧
    (match pd with
     | none=>AKc ⟨P,T,⟨none,B⟩,n,N⟩ k Q ⟨tm,setb L1 y (.lrec l N tm ps c.fst c.snd .exhausted none),H2⟩
     | some d=>AKc ⟨P,T,⟨none,B⟩,n,N⟩ (.code d :: k) Q ⟨tm,setb L1 y (.lrec l N tm ps c.fst c.snd .exhausted (some d)),H2⟩)) :
  AKc ⟨P,T,⟨none,B⟩,n,N⟩ (.code c :: k) Q ⟨tm,L,H⟩:=by
 rw [hc]; exact ZeL y hg hf hy h
end Go.Abs

/- A frame that leaves room for slots of its own beside its variables' slots: it runs some levels higher. No program, no condition. -/
namespace Go.Abs
def Zi0 (n:Nat) (H:Zf):Zf:=fun l k=>if l < n then H l k else none
theorem ZJ.raise {n:Nat} {H:Zf} {E:Env} {w:World} (hr:ZJ n H E w) (m:Nat):ZJ (n + m) (Zi0 n H) E w:=by
 have hc:ZJ n (Zi0 n H) E w:=hr.congr (fun l k hl=>if_pos hl)
 refine { norm:=hr.norm.mono (by omega),F:=hr.F,blk:=?_,dom:=?_,nobuf:=hc.nobuf,inj:=hr.inj,injg:=hr.injg,mg:=hr.mg,mF:=hr.mF,lt:=hr.lt }
 ·intro l k b hl hH
  rcases Nat.lt_or_ge l n with h' | h'
  ·exact hc.blk l k b h' hH
  ·simp only [Zi0] at hH; rw [if_neg (by omega)] at hH; cases hH
 ·intro l k hl hH
  rcases Nat.lt_or_ge l n with h' | h'
  ·exact hc.dom l k h' hH
  ·exact ⟨hr.norm.m l k h',hr.norm.g l k h',fun j=>hr.norm.hist l k j h'⟩
theorem ZJ.lower {n M:Nat} {H:Zf} {E:Env} {w:World} (h:ZJ M H E w) (hn:n ≤ M) (hout:∀ l k b,l < n → H l k = some b → b.Below n):ZJ n H (E.cut n) w:=by
 have hcm:∀ l k b,(E.cut n).m l k = some b → l < n ∧ E.m l k = some b:=fun l k b hm=>by
  simp only [Env.cut] at hm; split at hm
  ·exact ⟨‹_›,hm⟩
  ·cases hm
 have hcg:∀ l k b,(E.cut n).g l k = some b → l < n ∧ E.g l k = some b:=fun l k b hm=>by
  simp only [Env.cut] at hm; split at hm
  ·exact ⟨‹_›,hm⟩
  ·cases hm
 refine { norm:=Env.ZfL n E,F:=h.F,blk:=?_,dom:=?_,nobuf:=?_,inj:=?_,injg:=?_,mg:=?_,mF:=?_,lt:=?_ }
 ·intro l k b hl hH
  have hb:=hout l k _ hl hH
  refine (h.blk l k b (by omega) hH).keep (by simp only [Env.cut,if_pos hl]) (by simp only [Env.cut,if_pos hl]) (fun j=>by simp only [Env.cut,if_pos hl]) (fun p hp r hr=>?_) (fun _ _=>rfl) (fun _ _ _ h=>h) (fun a ha v hv=>hv.cut (hb.1 a ha))
  simp only [Env.cut,if_pos (hb.2 p hp)]; exact hr
 ·intro l k hl hH
  obtain ⟨d1,d2,d3⟩:=h.dom l k (by omega) hH
  simp only [Env.cut,if_pos hl]; exact ⟨d1,d2,d3⟩
 ·intro l k hg
  cases hx:(E.cut n).g l k with
  | none=>exact absurd hx hg
  | some b =>
   obtain ⟨hl,hg'⟩:=hcg l k b hx
   exact h.nobuf l k (by rw [hg']; simp)
 ·intro l k l' k' b h1 h2; exact h.inj _ _ _ _ _ (hcm _ _ _ h1).2 (hcm _ _ _ h2).2
 ·intro l k l' k' b h1 h2; exact h.injg _ _ _ _ _ (hcg _ _ _ h1).2 (hcg _ _ _ h2).2
 ·intro l k l' k' b h1 h2; exact h.mg _ _ _ _ _ (hcm _ _ _ h1).2 (hcg _ _ _ h2).2
 ·intro l k b o h1; exact h.mF _ _ _ _ (hcm _ _ _ h1).2
 ·intro b hb
  rcases hb with ⟨l,k,hm⟩ | ⟨l,k,hg⟩
  ·exact h.lt b (.inl ⟨l,k,(hcm _ _ _ hm).2⟩)
  ·exact h.lt b (.inr ⟨l,k,(hcg _ _ _ hg).2⟩)
theorem Zr.up {P:Program} {n:Nat} {f:FuncId} {args:List AV} {H:Zf} {Q:AV → Zf → Prop} (m:Nat)
  (h:(∀ l k b,l < n → H l k = some b → b.Below n) → Zr P (n + m) f args (Zi0 n H) fun r H1=>Below n r ∧ (∃ H',Q r H' ∧ ∀ l k,l < n → H1 l k = H' l k) ∧ ∀ l k b,l < n → H1 l k = some b → b.Below n):Zr P n f args H Q:=fun E w vs hr hv=>by
 refine (h (fun l k b hl hb=>hr.out hl hb) E w vs (hr.raise m) hv).mono ?_
 rintro e w' ⟨r,v,H1,E',rfl,⟨hb,⟨H',hQ,hag⟩,hout⟩,h1,h2,hx⟩
 refine ⟨r,v,H',E'.cut n,rfl,hQ,h1.cut hb,?_,?_⟩
 ·exact (h2.lower (Nat.le_add_right n m) hout).congr (fun l k hl=>(hag l k hl).symm)
 ·have hxx:=hx.mono (Nat.le_add_right n m)
  refine ⟨Env.Zf9 hxx.le,hxx.os,hxx.tape,hxx.output,hxx.drawn,hxx.size,hxx.block,fun b hb' ho=>hxx.own b hb' ?_⟩
  rcases ho with ⟨l,k,hm⟩ | ⟨l,k,hm⟩
  ·simp only [Env.cut] at hm; split at hm
   ·exact .inl ⟨l,k,hm⟩
   ·cases hm
  ·simp only [Env.cut] at hm; split at hm
   ·exact .inr ⟨l,k,hm⟩
   ·cases hm
theorem PC.up {P:Program} {n:Nat} {f:FuncId} {args:List AV} {H:Zf} {r:AV} (m:Nat) (hb:Below n r) (h:Zr P (n + m) f args (Zi0 n H) fun r' H1=>r' = r ∧ ∀ l k,l < n → H1 l k = H l k):PC P n f args H r :=
 Zr.up m fun ho=>h.mono fun r' H1 ⟨e,hag⟩=>⟨e ▸ hb,⟨H,⟨e,rfl⟩,hag⟩,fun l k b hl hb=>ho l k b hl (by rw [← hag l k hl]; exact hb)⟩
theorem Zr.wk {P:Program} {n:Nat} {f:FuncId} {args args':List AV} {H:Zf} {Q:AV → Zf → Prop} (h:Zr P n f args' H Q) (hw:Wks args args'):Zr P n f args H Q :=
 fun E w vs hr hv=>h E w vs hr (forall₂_vr hw hv)
theorem Pure.wk {P:Program} {f:FuncId} {args args':List AV} {r:AV} (h:Pure P f args' r) (hw:Wks args args'):Pure P f args r:=fun n H=>Zr.wk (h n H) hw
theorem ZP {P:Program} {T:TT} {n:Nat} {t:Nat} {v:AV} {s:Zh} {Q:AV → Zf → Prop} (hv:Wk (lkv s.tmps t) v) (hb:Below n v) (hQ:Q v s.H):PostF P T n [.tmp t] Q .ret s :=
 ⟨by simp [YH],[v],⟨hv,trivial⟩,by simpa using hb,hQ⟩
theorem ZhG {P:Program} {T:TT} {n:Nat} {t u:Nat} {v w:AV} {s:Zh} {Q:AV → Zf → Prop} (hv:Wk (lkv s.tmps t) v) (hw:Wk (lkv s.tmps u) w) (hb:Below n v) (hc:Below n w) (hQ:Q (.tup [v,w]) s.H):PostF P T n [.tmp t,.tmp u] Q .ret s :=
 ⟨by simp [YH],[v,w],⟨hv,hw,trivial⟩,by simp [hb,hc],hQ⟩
end Go.Abs

/- A call's arguments, as a row reads them, as abstract values. No program. -/
namespace Go.Abs
open Go.RowKit Go.WideShapes Go.ChangeShapes
def XB (r:ZE) (cs:List AV):AV:=if r.isAgg then .agg cs else cs.getD 0 .dead
def ZcJ (T:TT):Nat → TypeId → Option TD
 | 0,_=>none
 | f + 1,t=>match T t with
  | some r=>match r.td with
   | .struct (x :: _)=>ZcJ T f x.2
   | .struct []=>none
   | .array _ _=>none
   | d=>some d
  | none=>none
def goodLead:Option TD → Bool
 | some (.int .i64)=>false
 | some (.int .u64)=>false
 | some _=>true
 | none=>false
def Zan (T:TT):Nat → List (Nat × TypeId) → Option Nat
 | o,[]=>some o
 | o,x :: r=>if x.1 = o then (match T x.2 with | some rf=>Zan T (o + rf.size) r | none=>none) else none
def Zga (T:TT) (S:List TypeId):Bool:=S.all fun t=>match T t with
 | some r=>match r.td with
  | .int _=>true
  | .bool=>true
  | .str=>true
  | .slice e=>S.contains e && goodLead (ZcJ T 10 e) && (match T e with | some re=>decide (0 < re.size) | none=>false)
  | .struct fs=>fs.all (fun f=>S.contains f.2) && (Zan T 0 fs == some r.size)
  | _=>false
 | none=>false
inductive Y7 (T:TT):TypeId → List AV → Prop
 | int {t:TypeId} {r:ZE} {k:IntKind} {n:Int} (h:T t = some r) (hd:r.td = .int k) (hw:(Lit.int k n).wf = true):Y7 T t [.int k n]
 | bool {t:TypeId} {r:ZE} {b:Bool} (h:T t = some r) (hd:r.td = .bool):Y7 T t [.bool b]
 | str {t:TypeId} {r:ZE} {s:List UInt8} (h:T t = some r) (hd:r.td = .str) (hl:s.length ≤ reachBytes):Y7 T t [.str s]
 | slice {t e:TypeId} {r re:ZE} (xs:List (List AV)) (h:T t = some r) (hd:r.td = .slice e) (he:T e = some re) (hx:∀ x ∈ xs,Y7 T e x) (hl:xs.length * re.bytes ≤ reachBytes):Y7 T t [.sl re.size (xs.map (XB re)) .any]
 | struct {t:TypeId} {r:ZE} {fs:List (Nat × TypeId)} (h:T t = some r) (hd:r.td = .struct fs) (ps:List (List AV)) (hl:ps.length = fs.length) (hf:∀ i (h:i < ps.length) (h':i < fs.length),Y7 T fs[i].2 ps[i]):Y7 T t ps.flatten
theorem Y7.lead {T:TT} {t:TypeId} {as:List AV} (h:Y7 T t as):∀ f,goodLead (ZcJ T f t) = true → ∃ a r,as = a :: r ∧ (∀ n,a ≠ .int .i64 n) ∧ (∀ n,a ≠ .int .u64 n) ∧ a ≠ .dead:=by
 induction h with
 | @int t r k n h hd hw =>
  intro f hg
  cases f with
  | zero=>simp [ZcJ,goodLead] at hg
  | succ f =>
   simp only [ZcJ,h,hd] at hg
   refine ⟨_,_,rfl,fun m e=>?_,fun m e=>?_,fun e=>by cases e⟩ <;> (cases e; simp [goodLead] at hg)
 | bool h hd=>exact fun f hg=>⟨_,_,rfl,fun _ e=>(by cases e),fun _ e=>(by cases e),fun e=>(by cases e)⟩
 | str h hd hl=>exact fun f hg=>⟨_,_,rfl,fun _ e=>(by cases e),fun _ e=>(by cases e),fun e=>(by cases e)⟩
 | slice xs h hd he hx hl=>exact fun f hg=>⟨_,_,rfl,fun _ e=>(by cases e),fun _ e=>(by cases e),fun e=>(by cases e)⟩
 | @struct t r fs h hd ps hl hf ih =>
  intro f hg
  cases f with
  | zero=>simp [ZcJ,goodLead] at hg
  | succ f =>
   simp only [ZcJ,h,hd] at hg
   cases fs with
   | nil=>simp [goodLead] at hg
   | cons x fs =>
    simp only at hg
    obtain ⟨a,q,e1,e2,e3⟩:=ih 0 (by rw [hl]; simp) (by simp) f hg
    cases ps with
    | nil=>simp at hl
    | cons p ps =>
     simp only [List.getElem_cons_zero] at e1
     exact ⟨a,q ++ ps.flatten,by rw [List.flatten_cons,e1]; rfl,e2,e3⟩
theorem ZfT {r:ZE} {cs:List AV} (hone:r.isAgg = false → ∃ a,cs = [a] ∧ a.cells = [a]):(XB r cs).cells = cs:=by
 cases hr:r.isAgg with
 | true=>simp only [XB,hr,if_true]; rfl
 | false =>
  obtain ⟨a,rfl,h⟩:=hone hr
  simp only [XB,hr]; exact h
theorem Y7.one {T:TT} {t:TypeId} {as:List AV} {r:ZE} (h:Y7 T t as) (hr:T t = some r) (ha:r.isAgg = false):∃ a,as = [a] ∧ a.cells = [a]:=by
 cases h with
 | int h hd hw=>exact ⟨_,rfl,rfl⟩
 | bool h hd=>exact ⟨_,rfl,rfl⟩
 | str h hd hl=>exact ⟨_,rfl,rfl⟩
 | slice xs h hd he hx hl=>exact ⟨_,rfl,rfl⟩
 | struct h hd ps hl hf =>
  rw [hr] at h; cases h
  simp [ZE.isAgg,hd] at ha
theorem Zek {w:World} {a:Addr} {n:Nat} {cs:List Value} (h:w.cells? 0 a n = some cs):cs.length = n ∧ ∀ i (hi:i < cs.length),w.cell? (a.add i) = some cs[i]:=by
 unfold World.cells? at h
 rw [if_pos (Nat.zero_le _)] at h
 have hl:cs.length = n:=by have:=mapM_some_length h; simpa using this
 refine ⟨hl,fun i hi=>?_⟩
 have hri:(List.range n)[i]? = some i:=by rw [List.getElem?_range (by omega)]
 have:=mapM_some_get h i i hri
 rw [this,List.getElem?_eq_getElem hi]
section
variable {P:Program} {T:TT} {H:Type} {enc:TypeId × Value → H} {W:World} {E:Env} {X:Nat → Prop}
theorem Zdb {T:TT}:∀ {fs:List (Nat × TypeId)} {o m:Nat},Zan T o fs = some m → o ≤ m
 | [],o,m,h=>by simp [Zan] at h; omega
 | x :: fs,o,m,h=>by
  simp only [Zan] at h
  split at h
  ·split at h
   ·have:=Zdb h; omega
   ·cases h
  ·cases h
theorem ZjL (hT:TOK P T) (S:List TypeId) (hS:Zga T S = true) (hF:∀ b o v,¬ X b → W.cell? ⟨b,o,none⟩ = some v → E.F b o = some v)
  (hX:∀ b o v,X b → W.cell? ⟨b,o,none⟩ = some v → (∃ n,v = .int .i64 n) ∨ ∃ n,v = .int .u64 n) :
  ∀ (fuel:Nat) (t:TypeId) (cs:List Value) (x:DataW H × List MemPlace),t ∈ S → DataW.trod enc P W 0 (fun _=>true) true fuel t cs = some x → (∀ n ∈ x.1.weights P t,n ≤ reachBytes) →
   ∃ as,Y7 T t as ∧ VRs E as cs:=by
 intro fuel
 induction fuel with
 | zero=>intro t cs x _ h; simp [DataW.trod] at h
 | succ fuel ih =>
  intro t cs x ht h hw
  have hSt:=(List.all_eq_true.1 hS) t ht
  cases hr:T t with
  | none=>rw [hr] at hSt; cases hSt
  | some r =>
  rw [hr] at hSt
  obtain ⟨d,i,z,hf⟩:=Zl (hT t r hr)
  cases hd:r.td with
  | int k =>
   have hd':d = .int k:=by have:=hf.fits; rw [hd] at this; cases d <;> simp [TD.fits] at this; subst this; rfl
   subst hd'
   obtain ⟨n,rfl,rfl,hwf⟩:=DataW.trod_int hf.und h
   exact ⟨_,.int hr hd hwf,VRs.cons (.int _ _) (VRs.nil E)⟩
  | bool =>
   have hd':d = .bool:=by have:=hf.fits; rw [hd] at this; cases d <;> simp [TD.fits] at this; rfl
   subst hd'
   obtain ⟨b,rfl,rfl⟩:=DataW.trod_bool hf.und h
   exact ⟨_,.bool hr hd,VRs.cons (.bool _) (VRs.nil E)⟩
  | str =>
   have hd':d = .string:=by have:=hf.fits; rw [hd] at this; cases d <;> simp [TD.fits] at this; rfl
   subst hd'
   obtain ⟨s,rfl,rfl,hs⟩:=DataW.trod_string hf.und h
   refine ⟨[.str s.data.toList],.str hr hd (hw _ (by simp [DataW.weights])),VRs.cons ?_ (VRs.nil E)⟩
   have:s = ⟨s.data.toList.toArray⟩:=by simp
   conv=>rhs; rw [this]
   exact .str _
  | slice e =>
   simp only [hd,Bool.and_eq_true] at hSt
   obtain ⟨⟨he,hlead⟩,hsz⟩:=hSt
   have heS:e ∈ S:=by simpa using he
   cases hre:T e with
   | none=>rw [hre] at hsz; cases hsz
   | some re =>
   rw [hre] at hsz
   have hpos:0 < re.size:=by simpa using hsz
   obtain ⟨d',i',z',hf'⟩:=Zl (hT e re hre)
   have hd':d = .slice e:=Yp (hd ▸ hf.fits)
   subst hd'
   have hce:P.cellsOf e = re.size:=by simp [Program.cellsOf,hf'.info,hf'.size]
   have hbe:P.bytesOf e = re.bytes:=by simp [Program.bytesOf,hf'.info,hf'.bytes]
   rcases DataW.trod_slice hf.und h with ⟨rfl,rfl⟩ | ⟨a,len,cap,elems,rest,m,hm,rfl,rfl,_,hlc,hcm,hel,hat,hrest,_⟩
   ·exact ⟨_,.slice [] hr hd hre (by simp) (by simp),VRs.cons (.slnil _ _ none trivial (fun _=>rfl)) (VRs.nil E)⟩
   ·have hm':m = fuel:=by omega
    subst hm'
    have hwt:∀ n ∈ DataW.weightsAll P e (elems.map (·.1)),n ≤ reachBytes:=fun n hn=>hw n (by simp only [DataW.weights,hf.und]; simp [hn])
    have hwl:len * re.bytes ≤ reachBytes:=by
     have:=hw ((elems.length + rest.length) * P.bytesOf e) (by simp [DataW.weights,hf.und])
     rw [hbe,hel] at this
     exact Nat.le_trans (Nat.mul_le_mul_right _ (Nat.le_add_right _ _)) this
    have hwe:∀ (l:List (DataW H)),(∀ n ∈ DataW.weightsAll P e l,n ≤ reachBytes) → ∀ d ∈ l,∀ n ∈ d.weights P e,n ≤ reachBytes:=by
     intro l
     induction l with
     | nil=>intro _ d hd; cases hd
     | cons y l ih2 =>
      intro hl d hd n hn
      simp only [DataW.weightsAll,List.mem_append] at hl
      rcases List.mem_cons.1 hd with rfl | hd
      ·exact hl n (.inl hn)
      ·exact ih2 (fun n hn=>hl n (.inr hn)) d hd n hn
    have elt:∀ i (hi:i < len),∃ as vs,Y7 T e as ∧ VRs E as vs ∧ vs.length = re.size ∧ ∀ j (hj:j < vs.length),W.cell? ((a.add (i * re.size)).add j) = some vs[j]:=fun i hi=>by
     have h1:=hat i hi
     rw [List.getElem?_eq_getElem (by omega),hce] at h1
     obtain ⟨vs,hv1,hv2⟩:=Option.bind_eq_some_iff.1 h1
     obtain ⟨as,ha1,ha2⟩:=ih e vs _ heS hv2 (hwe _ hwt _ (List.mem_map.2 ⟨_,List.getElem_mem (by omega),rfl⟩))
     obtain ⟨c1,c2⟩:=Zek hv1
     exact ⟨as,vs,ha1,ha2,c1,c2⟩
    rcases Nat.eq_zero_or_pos cap with hc0 | hc0
    ·subst hc0
     have:len = 0:=by omega
     subst this
     exact ⟨_,.slice [] hr hd hre (by simp) (by simp),VRs.cons (.slnil _ _ (some a) trivial (fun h=>absurd rfl h)) (VRs.nil E)⟩
    ·have hspot:a.spot = none:=by
      rcases Nat.eq_zero_or_pos len with hl0 | hl0
      ·have hrl:=(hrest rfl).1
       have h1:=(hrest rfl).2 0 (by omega)
       have h0r:0 < rest.length:=by omega
       rw [hce,hl0] at h1
       rw [List.getElem?_eq_getElem h0r] at h1
       obtain ⟨vs,hv1,_⟩:=Option.bind_eq_some_iff.1 h1
       obtain ⟨c1,c2⟩:=Zek hv1
       have:=c2 0 (by omega)
       simp only [Nat.zero_add,Nat.zero_mul,Addr.add,if_true] at this
       exact World.cell?_spot this
      ·obtain ⟨as,vs,_,_,c1,c2⟩:=elt 0 hl0
       have:=c2 0 (by omega)
       simp only [Nat.zero_mul,Addr.add,if_true] at this
       exact World.cell?_spot this
     obtain ⟨b,off,sp⟩:=a
     simp only at hspot
     subst hspot
     obtain ⟨fa,hfa⟩:∃ fa:Nat → List AV × List Value,∀ i,i < len → Y7 T e (fa i).1 ∧ VRs E (fa i).1 (fa i).2 ∧ (fa i).2.length = re.size ∧ ∀ j (hj:j < (fa i).2.length),W.cell? ⟨b,off + (i * re.size + j),none⟩ = some (fa i).2[j]:=by
      refine ⟨fun i=>if hi:i < len then ((elt i hi).choose,(elt i hi).choose_spec.choose) else ([],[]),fun i hi=>?_⟩
      obtain ⟨q1,q2,q3,q4⟩:=(elt i hi).choose_spec.choose_spec
      simp only [dif_pos hi]
      refine ⟨q1,q2,q3,fun j hj=>?_⟩
      have:=q4 j hj
      have e1:((⟨b,off,none⟩:Addr).add (i * re.size)).add j = ⟨b,off + (i * re.size + j),none⟩:=by rw [add_plain,add_plain,Nat.add_assoc]
      exact (congrArg W.cell? e1).symm.trans this
     have hnX:0 < len → ¬ X b:=fun hl0 hXb=>by
      obtain ⟨q1,q2,q3,q4⟩:=hfa 0 hl0
      obtain ⟨a0,r0,e1,e2,e3⟩:=q1.lead 10 hlead
      have hj:0 < (fa 0).2.length:=by omega
      have hv:=q2.2 0 (by rw [e1]; simp) hj
      have hx:=hX b _ _ hXb (q4 0 hj)
      simp only [e1,List.getElem_cons_zero] at hv
      rcases hx with ⟨n,hx⟩ | ⟨n,hx⟩ <;> rw [hx] at hv
      ·cases hv with
       | int=>exact e2 _ rfl
       | dead=>exact e3.2 rfl
      ·cases hv with
       | int=>exact e3.1 _ rfl
       | dead=>exact e3.2 rfl
     refine ⟨[.sl re.size (((List.range len).map fun i=>(fa i).1).map (XB re)) .any],.slice _ hr hd hre (fun x hx=>?_) (by simpa using hwl),VRs.cons ?_ (VRs.nil E)⟩
     ·simp only [List.mem_map,List.mem_range] at hx
      obtain ⟨i,hi,rfl⟩:=hx
      exact (hfa i hi).1
     ·have hlx:(((List.range len).map fun i=>(fa i).1).map (XB re)).length = len:=by simp
      have hwc:∀ i,i < len → (XB re (fa i).1).cells = (fa i).1:=fun i hi=>ZfT (fun ha=>(hfa i hi).1.one hre ha)
      have hgx:∀ i (hi:i < (((List.range len).map fun i=>(fa i).1).map (XB re)).length),(((List.range len).map fun i=>(fa i).1).map (XB re))[i].cells = (fa i).1:=fun i hi=>by
       have hi':i < len:=by rw [hlx] at hi; exact hi
       simp only [List.getElem_map,List.getElem_range]; exact hwc i hi'
      have hv:=VR.sl (E:=E) re.size (((List.range len).map fun i=>(fa i).1).map (XB re)) .any b off cap (fun i j=>(fa i).2.getD j undef) (fun i hi=>by
        have hi':i < len:=by rw [hlx] at hi; exact hi
        rw [hgx i hi,← (hfa i hi').2.1.1]; exact (hfa i hi').2.2.1)
       (fun i j hi hj=>by
        have hi':i < len:=by rw [hlx] at hi; exact hi
        obtain ⟨_,_,q3,q4⟩:=hfa i hi'
        have hj':j < (fa i).2.length:=by omega
        rw [List.getD_eq_getElem?_getD,List.getElem?_eq_getElem hj',Option.getD_some]
        exact hF _ _ _ (hnX (by omega)) (q4 j hj'))
       (fun i hi j hj=>by
        have hi':i < len:=by rw [hlx] at hi; exact hi
        obtain ⟨_,q2,q3,_⟩:=hfa i hi'
        have hj2:j < (fa i).1.length:=by rw [← hgx i hi]; exact hj
        have hj':j < (fa i).2.length:=by rw [q2.1]; exact hj2
        rw [List.getD_eq_getElem?_getD,List.getElem?_eq_getElem hj',Option.getD_some]
        have:=q2.2 j hj2 hj'
        simp only [hgx i hi]; exact this)
       (by rw [hlx]; exact hlc) (by rw [hlx]; exact Nat.le_trans hlc hcm) trivial
      rw [hlx] at hv
      exact hv
  | struct fs =>
   simp only [hd,Bool.and_eq_true,beq_iff_eq,List.all_eq_true] at hSt
   obtain ⟨hfsS,hcg⟩:=hSt
   obtain ⟨gs,rfl,hgs⟩:∃ gs:Array Field,d = .struct gs ∧ gs.toList.map (fun g=>(g.offset,g.type)) = fs:=by
    have:=hf.fits
    rw [hd] at this
    cases d <;> simp only [TD.fits,Bool.false_eq_true] at this
    simp only [Bool.and_eq_true,beq_iff_eq] at this
    exact ⟨_,rfl,this.1⟩
   obtain ⟨xs,m,hm,rfl,hcl,hxl,hat⟩:=DataW.trod_struct hf.und h
   have hm':m = fuel:=by omega
   subst hm'
   have hct:P.cellsOf t = r.size:=by simp [Program.cellsOf,hf.info,hf.size]
   have hwe:∀ (ts:List TypeId) (l:List (DataW H)),(∀ n ∈ DataW.weightsEach P ts l,n ≤ reachBytes) → ∀ i (h:i < ts.length) (h':i < l.length),∀ n ∈ l[i].weights P ts[i],n ≤ reachBytes:=by
    intro ts
    induction ts with
    | nil=>intro l _ i h; exact absurd h (Nat.not_lt_zero _)
    | cons t ts ih2 =>
     intro l hl i h h' n hn
     cases l with
     | nil=>exact absurd h' (Nat.not_lt_zero _)
     | cons y l =>
      simp only [DataW.weightsEach,List.mem_append] at hl
      cases i with
      | zero=>exact hl n (.inl hn)
      | succ i=>exact ih2 l (fun n hn=>hl n (.inr hn)) i (by simpa using h) (by simpa using h') n hn
   have hwts:∀ n ∈ DataW.weightsEach P (gs.toList.map (·.type)) (xs.map (·.1)),n ≤ reachBytes:=fun n hn=>hw n (by simp only [DataW.weights,hf.und]; exact hn)
   have key:∀ (fs':List (Nat × TypeId)) (o m':Nat),Zan T o fs' = some m' → (∀ x ∈ fs',∀ rf,T x.2 = some rf → ∃ as,Y7 T x.2 as ∧ VRs E as ((cs.drop x.1).take rf.size)) →
     ∃ ps:List (List AV),ps.length = fs'.length ∧ (∀ i (h:i < ps.length) (h':i < fs'.length),Y7 T fs'[i].2 ps[i]) ∧ VRs E ps.flatten ((cs.drop o).take (m' - o)):=by
    intro fs'
    induction fs' with
    | nil =>
     intro o m' hc _
     simp only [Zan,Option.some.injEq] at hc
     subst hc
     exact ⟨[],rfl,fun i h=>absurd h (Nat.not_lt_zero _),by simpa using VRs.nil E⟩
    | cons x fs' ih2 =>
     intro o m' hc hx
     simp only [Zan] at hc
     split at hc
     ·rename_i hxo
      cases hrf:T x.2 with
      | none=>rw [hrf] at hc; cases hc
      | some rf =>
       rw [hrf] at hc
       simp only at hc
       obtain ⟨as,a1,a2⟩:=hx x (by simp) rf hrf
       obtain ⟨ps,p1,p2,p3⟩:=ih2 (o + rf.size) m' hc (fun y hy=>hx y (by simp [hy]))
       have hle:=Zdb hc
       refine ⟨as :: ps,by simp [p1],fun i h h'=>?_,?_⟩
       ·cases i with
        | zero=>exact a1
        | succ i=>exact p2 i (by simpa using h) (by simpa using h')
       ·rw [List.flatten_cons]
        have e:(cs.drop o).take (m' - o) = (cs.drop x.1).take rf.size ++ (cs.drop (o + rf.size)).take (m' - (o + rf.size)):=by
         rw [hxo,show m' - o = rf.size + (m' - (o + rf.size)) by omega,List.take_add,List.drop_drop]
        rw [e]; exact a2.append p3
     ·cases hc
   obtain ⟨ps,p1,p2,p3⟩:=key fs 0 r.size hcg (fun x hx rf hrf=>by
    rw [← hgs,List.mem_map] at hx
    obtain ⟨g,hg,rfl⟩:=hx
    obtain ⟨i,hi,rfl⟩:=List.getElem_of_mem hg
    obtain ⟨d',i',z',hf'⟩:=Zl (hT _ rf hrf)
    have hce:P.cellsOf (gs.toList[i]).type = rf.size:=by simp only [Program.cellsOf,hf'.info,Option.map_some,Option.getD_some,hf'.size]
    have hi2:i < gs.size:=by simpa using hi
    have h1:=hat i gs.toList[i] (by simp [hi2])
    rw [hce,List.getElem?_eq_getElem (by omega)] at h1
    have hSi:gs.toList[i].type ∈ S:=by
     have:=hfsS (gs.toList[i].offset,gs.toList[i].type) (by rw [← hgs]; exact List.mem_map.2 ⟨_,hg,rfl⟩)
     simpa using this
    refine ih _ _ _ hSi h1 ?_
    have:=hwe _ _ hwts i (by simpa using hi) (by simp; omega)
    simpa using this)
   rw [List.drop_zero,Nat.sub_zero,List.take_of_length_le (by rw [hcl,hct]; exact Nat.le_refl _)] at p3
   exact ⟨_,.struct hr hd ps p1 p2,p3⟩
  | _=>simp [hd] at hSt
end
section
variable {T:TT} {t:TypeId} {cs:List AV} {r:ZE}
theorem Y7.X7 {k:IntKind} (h:Y7 T t cs) (hr:T t = some r) (hd:r.td = .int k):∃ n,cs = [.int k n] ∧ (Lit.int k n).wf = true:=by
 cases h with
 | int h hd' hw=>rw [hr] at h; cases h; rw [hd] at hd'; cases hd'; exact ⟨_,rfl,hw⟩
 | bool h hd'=>rw [hr] at h; cases h; rw [hd] at hd'; cases hd'
 | str h hd'=>rw [hr] at h; cases h; rw [hd] at hd'; cases hd'
 | slice _ h hd'=>rw [hr] at h; cases h; rw [hd] at hd'; cases hd'
 | struct h hd'=>rw [hr] at h; cases h; rw [hd] at hd'; cases hd'
theorem Y7.ZcW (h:Y7 T t cs) (hr:T t = some r) (hd:r.td = .bool):∃ b,cs = [.bool b]:=by
 cases h with
 | int h hd' hw=>rw [hr] at h; cases h; rw [hd] at hd'; cases hd'
 | bool h hd'=>exact ⟨_,rfl⟩
 | str h hd'=>rw [hr] at h; cases h; rw [hd] at hd'; cases hd'
 | slice _ h hd'=>rw [hr] at h; cases h; rw [hd] at hd'; cases hd'
 | struct h hd'=>rw [hr] at h; cases h; rw [hd] at hd'; cases hd'
theorem Y7.Ze6 (h:Y7 T t cs) (hr:T t = some r) (hd:r.td = .str):∃ s,cs = [.str s] ∧ s.length ≤ reachBytes:=by
 cases h with
 | int h hd' hw=>rw [hr] at h; cases h; rw [hd] at hd'; cases hd'
 | bool h hd'=>rw [hr] at h; cases h; rw [hd] at hd'; cases hd'
 | str h hd' hl=>exact ⟨_,rfl,hl⟩
 | slice _ h hd'=>rw [hr] at h; cases h; rw [hd] at hd'; cases hd'
 | struct h hd'=>rw [hr] at h; cases h; rw [hd] at hd'; cases hd'
theorem Y7.Zhs {e:TypeId} {re:ZE} (h:Y7 T t cs) (hr:T t = some r) (hd:r.td = .slice e) (he:T e = some re):∃ xs:List (List AV),cs = [.sl re.size (xs.map (XB re)) .any] ∧ (∀ x ∈ xs,Y7 T e x) ∧ xs.length * re.bytes ≤ reachBytes:=by
 cases h with
 | int h hd' hw=>rw [hr] at h; cases h; rw [hd] at hd'; cases hd'
 | bool h hd'=>rw [hr] at h; cases h; rw [hd] at hd'; cases hd'
 | str h hd' hl=>rw [hr] at h; cases h; rw [hd] at hd'; cases hd'
 | slice xs h hd' he' hx hl=>rw [hr] at h; cases h; rw [hd] at hd'; cases hd'; rw [he] at he'; cases he'; exact ⟨xs,rfl,hx,hl⟩
 | struct h hd'=>rw [hr] at h; cases h; rw [hd] at hd'; cases hd'
theorem Y7.VG {fs:List (Nat × TypeId)} (h:Y7 T t cs) (hr:T t = some r) (hd:r.td = .struct fs):∃ ps:List (List AV),cs = ps.flatten ∧ ps.length = fs.length ∧ ∀ i (h:i < ps.length) (h':i < fs.length),Y7 T fs[i].2 ps[i]:=by
 cases h with
 | int h hd' hw=>rw [hr] at h; cases h; rw [hd] at hd'; cases hd'
 | bool h hd'=>rw [hr] at h; cases h; rw [hd] at hd'; cases hd'
 | str h hd' hl=>rw [hr] at h; cases h; rw [hd] at hd'; cases hd'
 | slice xs h hd' he' hx hl=>rw [hr] at h; cases h; rw [hd] at hd'; cases hd'
 | struct h hd' ps hl hf=>rw [hr] at h; cases h; rw [hd] at hd'; cases hd'; exact ⟨ps,rfl,hl,hf⟩
end
theorem Y7.row {T:TT} {t:TypeId} {cs:List AV} (h:Y7 T t cs):∃ r,T t = some r ∧ ((∃ k,r.td = .int k) ∨ r.td = .bool ∨ r.td = .str ∨ (∃ e,r.td = .slice e) ∨ ∃ fs,r.td = .struct fs):=by
 cases h with
 | int h hd hw=>exact ⟨_,h,.inl ⟨_,hd⟩⟩
 | bool h hd=>exact ⟨_,h,.inr (.inl hd)⟩
 | str h hd hl=>exact ⟨_,h,.inr (.inr (.inl hd))⟩
 | slice xs h hd he hx hl=>exact ⟨_,h,.inr (.inr (.inr (.inl ⟨_,hd⟩)))⟩
 | struct h hd ps hl hf=>exact ⟨_,h,.inr (.inr (.inr (.inr ⟨_,hd⟩)))⟩
def ZfA (T:TT):List TypeId → List (List AV) → Prop
 | [],[]=>True
 | t :: ts,c :: cs=>Y7 T t c ∧ ZfA T ts cs
 | _,_=>False
def Zd5 (T:TT) (t:TypeId) (cs:List AV):AV:=match T t with
 | some r=>XB r cs
 | none=>.dead
def wraps (T:TT):List TypeId → List (List AV) → List AV
 | t :: ts,c :: cs=>Zd5 T t c :: wraps T ts cs
 | _,_=>[]
theorem Vq {v:Value} {E:Env} {a:AV} (h:VRs E [a] v.cells.toList) (hv:∀ cs,v ≠ .agg cs):VR E a v:=by
 have:v.cells = #[v]:=by cases v <;> first | rfl | (exact absurd rfl (hv _))
 rw [this] at h
 exact h.2 0 (by simp) (by simp)
theorem Zk6 {P:Program} {T:TT} {W:World} {E:Env} {base:Nat} {t:TypeId} {v:Value} {cs:List AV} (hT:TOK P T) (hf:Y7 T t cs) (hv:VRs E cs v.cells.toList) (hok:Value.okWide P W .any base t v):VR E (Zd5 T t cs) v:=by
 obtain ⟨r,hr,hkind⟩:=hf.row
 obtain ⟨d,i,z,hfa⟩:=Zl (hT t r hr)
 have hwr:Zd5 T t cs = XB r cs:=by unfold Zd5; rw [hr]
 rw [hwr]
 rcases hkind with ⟨k,hd⟩ | hd | hd | ⟨e,hd⟩ | ⟨fs,hd⟩
 ·have hd':d = .int k:=by have:=hfa.fits; rw [hd] at this; cases d <;> simp [TD.fits] at this; subst this; rfl
  subst hd'
  obtain ⟨n,rfl,_⟩:=hf.X7 hr hd
  obtain ⟨m,rfl⟩:=okWide_int hfa.und hok
  have:XB r [.int k n] = .int k n:=by simp [XB,ZE.isAgg,hd]
  rw [this]; exact Vq hv (fun _ h=>by cases h)
 ·have hd':d = .bool:=by have:=hfa.fits; rw [hd] at this; cases d <;> simp [TD.fits] at this; rfl
  subst hd'
  obtain ⟨n,rfl⟩:=hf.ZcW hr hd
  obtain ⟨m,rfl⟩:=okWide_bool hfa.und hok
  have:XB r [.bool n] = .bool n:=by simp [XB,ZE.isAgg,hd]
  rw [this]; exact Vq hv (fun _ h=>by cases h)
 ·have hd':d = .string:=by have:=hfa.fits; rw [hd] at this; cases d <;> simp [TD.fits] at this; rfl
  subst hd'
  obtain ⟨n,rfl,_⟩:=hf.Ze6 hr hd
  obtain ⟨m,rfl⟩:=okWide_string hfa.und hok
  have:XB r [.str n] = .str n:=by simp [XB,ZE.isAgg,hd]
  rw [this]; exact Vq hv (fun _ h=>by cases h)
 ·have hd':d = .slice e:=Yp (hd ▸ hfa.fits)
  subst hd'
  obtain ⟨c,rfl,_⟩:=hf.one hr (by simp [ZE.isAgg,hd])
  obtain ⟨a,len,cap,rfl⟩:=okWide_slice hfa.und hok
  have:XB r [c] = c:=by simp [XB,ZE.isAgg,hd]
  rw [this]; exact Vq hv (fun _ h=>by cases h)
 ·obtain ⟨gs,rfl⟩:∃ gs:Array Field,d = .struct gs:=by
   have:=hfa.fits
   rw [hd] at this
   cases d <;> simp only [TD.fits,Bool.false_eq_true] at this
   exact ⟨_,rfl⟩
  obtain ⟨ws,rfl,_⟩:=okWide_struct hfa.und hok
  have:XB r cs = .agg cs:=by simp [XB,ZE.isAgg,hd]
  rw [this]
  have h:=VR.agg (E:=E) cs ws.toList hv.1 hv.2
  simpa using h
theorem Zhh {P:Program} {T:TT} {H:Type} {enc:TypeId × Value → H} {W:World} {E:Env} {X:Nat → Prop} {base:Nat} (hT:TOK P T) (S:List TypeId) (hS:Zga T S = true) (hF:∀ b o v,¬ X b → W.cell? ⟨b,o,none⟩ = some v → E.F b o = some v)
  (hX:∀ b o v,X b → W.cell? ⟨b,o,none⟩ = some v → (∃ n,v = .int .i64 n) ∨ ∃ n,v = .int .u64 n):∀ (ts:List TypeId) (vs:List Value) (ds:List (DataW H)) (ps:List MemPlace),
   DataW.TrodAll enc P W 0 (fun _=>true) true ts vs ds ps → (∀ t ∈ ts,t ∈ S) → (∀ (j:Nat) t v,ts[j]? = some t → vs[j]? = some v → Value.okWide P W .any base t v) → (∀ n ∈ DataW.weightsEach P ts ds,n ≤ reachBytes) →
   ∃ cs,ZfA T ts cs ∧ VRs E (wraps T ts cs) vs
 | [],vs,ds,ps,h,_,_,_=>by
  obtain ⟨rfl,rfl,rfl⟩:=trodAll_nil h
  exact ⟨[],trivial,VRs.nil E⟩
 | t :: ts,vs,ds,ps,h,hts,hok,hw=>by
  obtain ⟨v,vs',d,ds',p,q,rfl,rfl,rfl,h1,h2⟩:=trodAll_cons h
  obtain ⟨fuel,hf⟩:=h1
  simp only [DataW.weightsEach,List.mem_append] at hw
  obtain ⟨c,c1,c2⟩:=ZjL hT S hS hF hX fuel t v.cells.toList (d,p) (hts t (by simp)) hf (fun n hn=>hw n (.inl hn))
  obtain ⟨cs,d1,d2⟩:=Zhh hT S hS hF hX ts vs' ds' q h2 (fun u hu=>hts u (by simp [hu])) (fun j u w hu hv=>hok (j + 1) u w (by simpa using hu) (by simpa using hv)) (fun n hn=>hw n (.inr hn))
  exact ⟨c :: cs,⟨c1,d1⟩,VRs.cons (Zk6 hT c1 c2 (hok 0 t v rfl rfl)) d2⟩
end Go.Abs

/- Terms and atoms as plain data, and as abstract values. No program, no condition. -/
namespace Go.Abs
inductive Tm where
 | mk (kind num:Int) (name:List UInt8) (args:List Tm)
namespace Tm
def kind:Tm → Int | mk k _ _ _=>k
def num:Tm → Int | mk _ n _ _=>n
def name:Tm → List UInt8 | mk _ _ s _=>s
def args:Tm → List Tm | mk _ _ _ l=>l
def enc:Tm → AV
 | mk k n s l=>.agg [.int .u8 k,.int .i64 n,.str s,.sl 4 (encs l) .any]
where encs:List Tm → List AV
 | []=>[]
 | t :: r=>enc t :: encs r
abbrev encs (l:List Tm):List AV:=l.map enc
theorem encs_eq:∀ l:List Tm,enc.encs l = l.map enc
 | []=>rfl
 | t :: r=>by rw [enc.encs,encs_eq r]; rfl
theorem Zb7 (t:Tm):t.enc = .agg [.int .u8 t.kind,.int .i64 t.num,.str t.name,.sl 4 (t.args.map enc) .any]:=by
 cases t; rw [enc,encs_eq]; rfl
def cs (t:Tm):List AV:=[.int .u8 t.kind,.int .i64 t.num,.str t.name,.sl 4 (t.args.map enc) .any]
theorem Zjy (t:Tm):t.enc = .agg t.cs:=t.Zb7
theorem Jb (t:Tm):t.enc.cells = t.cs:=by rw [Zjy]; rfl
theorem Vm {t:Tm} {u:Tm} (h:u ∈ t.args):SizeOf.sizeOf u < SizeOf.sizeOf t:=by
 cases t with
 | mk k n s l=>have:=List.sizeOf_lt_of_mem (show u ∈ l from h); simp; omega
theorem blw (n:Nat):∀ t:Tm,Below n t.enc
 | mk k m s l=>by
  have hl:∀ u ∈ l,Below n u.enc:=fun u hu=>by
   have:=List.sizeOf_lt_of_mem hu
   exact blw n u
  rw [Zb7]
  refine YL ?_
  simp only [List.mem_cons,List.not_mem_nil,or_false,forall_eq_or_imp,forall_eq]
  refine ⟨.int _ _,.int _ _,.str _,ZK fun x hx=>?_⟩
  obtain ⟨u,hu,rfl⟩:=List.mem_map.1 hx
  exact hl u hu
termination_by t=>SizeOf.sizeOf t
theorem _root_.Go.Abs.Yd {n:Nat} {cs:List AV} (h:Yj (fun c=>Below n c) cs):Below n (.ZA cs):=.ZA cs fun j hj=>h.mem _ (List.getElem_mem hj)
theorem bcs {n:Nat} (t:Tm):Yj (fun c=>Below n c) t.cs:=⟨.int _ _,.int _ _,.str _,ZK (fun x hx=>by obtain ⟨u,_,rfl⟩:=List.mem_map.1 hx; exact blw n u),trivial⟩
theorem ins {n:Nat} {p:Nat → Prop} (t:Tm):Inside n p t.enc:=(blw n t).inside
theorem Zj {n:Nat} {p:Nat → Prop} (l:List Tm) (k:Nat):Inside n p (.sl k (l.map enc) .any):=Below.inside (ZK fun x hx=>by obtain ⟨u,_,rfl⟩:=List.mem_map.1 hx; exact blw n u)
theorem YG (t:Tm):t.enc.cells = [.int .u8 t.kind,.int .i64 t.num,.str t.name,.sl 4 (t.args.map enc) .any]:=Jb t
theorem fold (t:Tm):AV.agg [.int .u8 t.kind,.int .i64 t.num,.str t.name,.sl 4 (t.args.map enc) .any] = t.enc:=t.Zb7.symm
def sz:Tm → Nat
 | mk _ _ _ l=>1 + szs l
where szs:List Tm → Nat
 | []=>0
 | t :: r=>sz t + szs r
theorem ZeK {u:Tm}:∀ {l:List Tm},u ∈ l → u.sz ≤ sz.szs l
 | t :: r,h=>by
  simp only [sz.szs]
  rcases List.mem_cons.1 h with rfl | h
  ·omega
  ·have:=ZeK h; omega
theorem Vk (t:Tm):1 ≤ t.sz:=by cases t; simp only [sz]; omega
theorem sz_len:∀ l:List Tm,l.length ≤ sz.szs l
 | []=>Nat.le_refl _
 | t :: r=>by have:=sz_len r; have:=Vk t; simp only [sz.szs,List.length_cons]; omega
theorem Zim (t:Tm):t.sz = 1 + sz.szs t.args:=by cases t; rfl
theorem ZkE {t u:Tm} (h:u ∈ t.args):u.sz < t.sz:=by rw [Zim t]; have:=ZeK h; omega
theorem ZiZ (t:Tm):t.args.length < t.sz:=by rw [Zim t]; have:=sz_len t.args; omega
inductive Nm:Tm → Prop
 | mk (k n:Int) (s:List UInt8) (l:List Tm) (h:s.length ≤ 140737488355328) (hk:0 ≤ k ∧ k ≤ 255) (hn:-9223372036854775808 ≤ n ∧ n ≤ 9223372036854775807) (hl:∀ u ∈ l,Nm u):Nm (.mk k n s l)
structure Good (t:Tm):Prop where
 sz:t.sz ≤ 1000000
 nm:Nm t
theorem Good.name {t:Tm} (h:Good t):t.name.length ≤ 140737488355328:=by
 obtain ⟨_,h⟩:=h; cases h; assumption
theorem Good.arg {t u:Tm} (h:Good t) (hu:u ∈ t.args):Good u:=by
 refine ⟨Nat.le_of_lt (Nat.lt_of_lt_of_le (ZkE hu) h.sz),?_⟩
 obtain ⟨_,h⟩:=h; cases h with | mk k n s l _ _ _ hl=>exact hl u hu
theorem Good.kind {t:Tm} (h:Good t):0 ≤ t.kind ∧ t.kind ≤ 255:=by obtain ⟨_,h⟩:=h; cases h; assumption
theorem Good.num {t:Tm} (h:Good t):-9223372036854775808 ≤ t.num ∧ t.num ≤ 9223372036854775807:=by obtain ⟨_,h⟩:=h; cases h; assumption
theorem Good.len {t:Tm} (h:Good t):t.args.length ≤ 1000000:=Nat.le_of_lt (Nat.lt_of_lt_of_le (ZiZ t) h.sz)
def all (p:Tm → Bool):Tm → Bool
 | mk k n s l=>p (mk k n s l) && alls p l
where alls (p:Tm → Bool):List Tm → Bool
 | []=>true
 | t :: r=>all p t && alls p r
theorem all_eq (p:Tm → Bool) (t:Tm):all p t = (p t && all.alls p t.args):=by cases t; rfl
theorem J9 (p:Tm → Bool):∀ l:List Tm,all.alls p l = l.all (all p)
 | []=>rfl
 | t :: r=>by rw [all.alls,J9 p r]; rfl
theorem YI (l:List Tm) (i:Nat) (h:i < l.length) (d:AV):(l.map enc).getD i d = (l[i]).enc:=by
 rw [List.getD_eq_getElem?_getD,List.getElem?_map,List.getElem?_eq_getElem h]; rfl
end Tm
structure Am where
 pred:List UInt8
 args:List Tm
namespace Am
def cs (a:Am):List AV:=[.str a.pred,.sl 4 (a.args.map Tm.enc) .any]
def enc (a:Am):AV:=.agg a.cs
theorem YG (a:Am):a.enc.cells = [.str a.pred,.sl 4 (a.args.map Tm.enc) .any]:=rfl
theorem fold (a:Am):AV.agg [.str a.pred,.sl 4 (a.args.map Tm.enc) .any] = a.enc:=rfl
theorem bcs {n:Nat} (a:Am):Yj (fun c=>Below n c) a.cs:=⟨.str _,ZK (fun x hx=>by obtain ⟨u,_,rfl⟩:=List.mem_map.1 hx; exact u.blw n),trivial⟩
theorem blw (n:Nat) (a:Am):Below n a.enc:=YL a.bcs.mem
theorem ins {n:Nat} {p:Nat → Prop} (a:Am):Inside n p a.enc:=(a.blw n).inside
theorem Zj {n:Nat} {p:Nat → Prop} (l:List Am) (k:Nat):Inside n p (.sl k (l.map enc) .any):=Below.inside (ZK fun x hx=>by obtain ⟨u,_,rfl⟩:=List.mem_map.1 hx; exact blw n u)
theorem YI (l:List Am) (i:Nat) (h:i < l.length) (d:AV):(l.map enc).getD i d = (l[i]).enc:=by
 rw [List.getD_eq_getElem?_getD,List.getElem?_map,List.getElem?_eq_getElem h]; rfl
def sz (a:Am):Nat:=1 + Tm.sz.szs a.args
structure Good (a:Am):Prop where
 pred:a.pred.length ≤ 140737488355328
 sz:a.sz ≤ 1000000
 nm:∀ t ∈ a.args,Tm.Nm t
theorem Good.arg {a:Am} (h:Good a) {t:Tm} (ht:t ∈ a.args):t.Good:=by
 refine ⟨?_,h.nm t ht⟩
 have:=Tm.ZeK ht
 have:=h.sz
 simp only [Am.sz] at this; omega
theorem Good.len {a:Am} (h:Good a):a.args.length ≤ 1000000:=by
 have:=Tm.sz_len a.args
 have:=h.sz
 simp only [Am.sz] at this; omega
end Am
theorem Zc {n k j:Nat} {p:Nat → Prop} {xs:List AV} (hx:∀ x ∈ xs,Below n x) (h:p j):Inside n p (.sl k xs (.buf n j)) :=
 .sl k xs _ (fun i hi c hc=>(((hx _ (List.getElem_mem hi)).cells _ (List.getElem_mem hc))).inside) (fun l j' e=>by cases e; exact .inr ⟨rfl,h⟩)
theorem Zd {n k j:Nat} {p:Nat → Prop} {l:List (List UInt8)} (h:p j):Inside n p (.sl k (l.map .str) (.buf n j)):=Zc (fun x hx=>by obtain ⟨u,_,rfl⟩:=List.mem_map.1 hx; exact .str _) h
theorem Tm.Zc {n k j:Nat} {p:Nat → Prop} {l:List Tm} (h:p j):Inside n p (.sl k (l.map Tm.enc) (.buf n j)):=Abs.Zc (fun x hx=>by obtain ⟨u,_,rfl⟩:=List.mem_map.1 hx; exact u.blw n) h
theorem Am.Zc {n k j:Nat} {p:Nat → Prop} {l:List Am} (h:p j):Inside n p (.sl k (l.map Am.enc) (.buf n j)):=Abs.Zc (fun x hx=>by obtain ⟨u,_,rfl⟩:=List.mem_map.1 hx; exact u.blw n) h
theorem Xh {n k:Nat} (l:List (List UInt8)):Below n (.sl k (l.map .str) .any):=ZK fun x hx=>by obtain ⟨u,_,rfl⟩:=List.mem_map.1 hx; exact .str _
theorem ZB {n k:Nat} (l:List Tm):Below n (.sl k (l.map Tm.enc) .any):=ZK fun x hx=>by obtain ⟨u,_,rfl⟩:=List.mem_map.1 hx; exact u.blw n
theorem ZO {n k:Nat} (l:List Am):Below n (.sl k (l.map Am.enc) .any):=ZK fun x hx=>by obtain ⟨u,_,rfl⟩:=List.mem_map.1 hx; exact u.blw n
end Go.Abs
