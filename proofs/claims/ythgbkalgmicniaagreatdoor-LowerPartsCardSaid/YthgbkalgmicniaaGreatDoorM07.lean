/- Loops; what may be forgotten; a bare nil that becomes a buffer. No program, no condition. -/
import Derived.Test.YthgbkalgmicniaaGreatDoorM06
import Derived.IntWalk
set_option linter.all false
namespace Go.Abs
inductive Inside (n:Nat) (p:Nat → Prop):AV → Prop
 | int (k:IntKind) (i:Int):Inside n p (.int k i)
 | bool (b:Bool):Inside n p (.bool b)
 | str (l:List UInt8):Inside n p (.str l)
 | nilp:Inside n p .nilp
 | ptr (l k off:Nat) (h:l < n ∨ (l = n ∧ p k)):Inside n p (.ptr l k off)
 | ZA (cs:List AV) (hv:∀ j (h:j < cs.length),Inside n p cs[j]):Inside n p (.ZA cs)
 | sl (k:Nat) (xs:List AV) (o:Own) (hv:∀ i (h:i < xs.length) j (h':j < xs[i].cells.length),Inside n p xs[i].cells[j])
   (ho:∀ l j,o = .buf l j → l < n ∨ (l = n ∧ p j)):Inside n p (.sl k xs o)
 | nilf:Inside n p .nilf
 | fn (f:Fn) (caps:List AV) (hv:∀ i (h:i < caps.length),Inside n p caps[i]):Inside n p (.fn f caps)
 | bfn (f:Fn) (caps:List AV) (hv:∀ i (h:i < caps.length),Inside n p caps[i]):Inside n p (.bfn f caps)
 | nilm:Inside n p .nilm
 | map (l k:Nat) (h:l < n ∨ (l = n ∧ p k)):Inside n p (.map l k)
 | msl (sz l k i:Nat) (h:l < n ∨ (l = n ∧ p k)):Inside n p (.msl sz l k i)
 | eptr (l k i off:Nat) (h:l < n ∨ (l = n ∧ p k)):Inside n p (.eptr l k i off)
 | ssl (k:Nat) (xs ys:List AV) (hv:∀ i (h:i < (xs ++ ys).length) j (h':j < (xs ++ ys)[i].cells.length),Inside n p (xs ++ ys)[i].cells[j]):Inside n p (.ssl k xs ys)
 | nili:Inside n p .nili
 | Y8:Inside n p .Y8
 | sln (k:Nat):Inside n p (.sln k)
 | sub (sz l k i off m:Nat) (h:l < n ∨ (l = n ∧ p k)):Inside n p (.sub sz l k i off m)
 | ifc (t:TypeId) (a:AV) (h:Inside n p a):Inside n p (.ifc t a)
 | agg (cs:List AV) (hv:∀ i (h:i < cs.length),Inside n p cs[i]):Inside n p (.agg cs)
 | tup (cs:List AV) (hv:∀ i (h:i < cs.length),Inside n p cs[i]):Inside n p (.tup cs)
 | dead:Inside n p .dead
theorem Below.inside {n:Nat} {p:Nat → Prop} {v:AV} (h:Below n v):Inside n p v:=by
 induction h with
 | int k i=>exact .int k i
 | bool b=>exact .bool b
 | str l=>exact .str l
 | nilp=>exact .nilp
 | ptr l k off h=>exact .ptr l k off (.inl h)
 | ZA cs _ ih=>exact .ZA cs ih
 | sl k xs o _ ho ih=>exact .sl k xs o ih (fun l j e=>.inl (ho l j e))
 | nilf=>exact .nilf
 | fn f caps _ ih=>exact .fn f caps ih
 | bfn f caps _ ih=>exact .bfn f caps ih
 | nilm=>exact .nilm
 | map l k h=>exact .map l k (.inl h)
 | msl sz l k i h=>exact .msl sz l k i (.inl h)
 | eptr l k i off h=>exact .eptr l k i off (.inl h)
 | ssl k xs ys _ ih=>exact .ssl k xs ys ih
 | nili=>exact .nili
 | Y8=>exact .Y8
 | sln k=>exact .sln k
 | sub sz l k i off m h=>exact .sub sz l k i off m (.inl h)
 | ifc t a _ ih=>exact .ifc t a ih
 | agg cs _ ih=>exact .agg cs ih
 | tup cs _ ih=>exact .tup cs ih
 | dead=>exact .dead
def keeps (n:Nat) (q:Nat → Bool) (l k:Nat):Bool:=l != n || q k
def Env.only (E:Env) (n:Nat) (q:Nat → Bool):Env :=
 { F:=E.F,m:=fun l k=>if keeps n q l k = true then E.m l k else none,hist:=fun l k j=>if keeps n q l k = true then E.hist l k j else none,g:=fun l k=>if keeps n q l k = true then E.g l k else none,qd:=E.qd }
theorem Xd {n:Nat} {q:Nat → Bool} {l k:Nat} (h:l < n ∨ (l = n ∧ q k = true)):keeps n q l k = true:=by
 unfold keeps
 rcases h with h | ⟨_,h⟩
 ·have:(l != n) = true:=by simp; omega
  simp [this]
 ·simp [h]
theorem VR.only {n:Nat} {q:Nat → Bool} {E:Env} {a:AV} {v:Value} (hv:VR E a v) (hb:Inside n (fun k=>q k = true) a):VR (E.only n q) a v:=by
 induction hv with
 | int k n=>exact .int k n
 | bool b=>exact .bool b
 | str l=>exact .str l
 | nilp=>exact .nilp
 | ptr l k off b hm=>cases hb with | ptr _ _ _ hl=>exact .ptr l k off b (by simp only [Env.only,if_pos (Xd hl)]; exact hm)
 | ZA cs b off c hc _ ih=>cases hb with | ZA _ hb=>exact .ZA cs b off c hc (fun j h=>ih j h (hb j h))
 | slnil k o a ho ha =>
  cases hb with
  | sl _ _ _ _ hb =>
   refine .slnil k o a ?_ ha
   cases o with
   | any=>trivial
   | full=>exact ho
   | buf l j=>simp only [JD,Env.only,if_pos (Xd (hb l j rfl))]; exact ho
 | sl k xs o b off cap c hk hc _ hcap hm ho ih =>
  cases hb with
  | sl _ _ _ hx hb =>
   refine .sl k xs o b off cap c hk hc (fun i h j h'=>ih i h j h' (hx i h j h')) hcap hm ?_
   cases o with
   | any=>trivial
   | full=>exact ho
   | buf l j=>simp only [JD,Env.only,if_pos (Xd (hb l j rfl))]; exact ho
 | nilf=>exact .nilf
 | fn f caps vs hl _ ih=>cases hb with | fn _ _ hb=>exact .fn f caps vs hl (fun i h h'=>ih i h h' (hb i h))
 | bfn f caps vs hl _ ih=>cases hb with | bfn _ _ hb=>exact .bfn f caps vs hl (fun i h h'=>ih i h h' (hb i h))
 | nilm=>exact .nilm
 | map l k b hm=>cases hb with | map _ _ hl=>exact .map l k b (by simp only [Env.only,if_pos (Xd hl)]; exact hm)
 | mnil sz l k a hh ha=>cases hb with | msl _ _ _ _ hl=>exact .mnil _ _ _ _ (by simp only [Env.only,if_pos (Xd hl)]; exact hh) ha
 | msl sz l k i g cap hh=>cases hb with | msl _ _ _ _ hl=>exact .msl _ _ _ _ _ _ (by simp only [Env.only,if_pos (Xd hl)]; exact hh)
 | eptr l k i off g cap hh=>cases hb with | eptr _ _ _ _ hl=>exact .eptr _ _ _ _ _ _ (by simp only [Env.only,if_pos (Xd hl)]; exact hh)
 | ssl k xs ys b off cap c hk hc _ hcap hm ih=>cases hb with | ssl _ _ _ hx=>exact .ssl k xs ys b off cap c hk hc (fun i h j h'=>ih i h j h' (hx i h j h')) hcap hm
 | nili=>exact .nili
 | Y8=>exact .Y8
 | sln k a cap hc=>exact .sln k a cap hc
 | sub sz l k i off m g cap hh hm=>cases hb with | sub _ _ _ _ _ _ hl=>exact .sub _ _ _ _ _ _ _ _ (by simp only [Env.only,if_pos (Xd hl)]; exact hh) hm
 | ifc t a v _ ih=>cases hb with | ifc _ _ hb=>exact .ifc t a v (ih hb)
 | agg cs vs hl _ ih=>cases hb with | agg _ hb=>exact .agg cs vs hl (fun i h h'=>ih i h h' (hb i h))
 | tup cs vs hl _ ih=>cases hb with | tup _ hb=>exact .tup cs vs hl (fun i h h'=>ih i h h' (hb i h))
 | dead v=>exact .dead v
def Zk.Inside (n:Nat) (p:Nat → Prop) (b:Zk):Prop:=(∀ a ∈ b.avs,Abs.Inside n p a) ∧ ∀ q ∈ b.at_,q.1 < n ∨ (q.1 = n ∧ p q.2)
theorem Zk.Below.inside {n:Nat} {p:Nat → Prop} {b:Zk} (h:b.Below n):b.Inside n p:=⟨fun a ha=>(h.1 a ha).inside,fun q hq=>.inl (h.2 q hq)⟩
theorem lkb_mem:∀ {L:List (Nat × Zk)} {t:Nat} {b:Zk},lkb L t = some b → (t,b) ∈ L
 | [],t,b,h=>by simp [lkb] at h
 | (i,v) :: r,t,b,h=>by
  simp only [lkb] at h
  split at h
  ·rename_i hi; subst hi; cases h; simp
  ·exact List.mem_cons_of_mem _ (lkb_mem h)
theorem ZiK {n N:Nat} {tm tm':List (Nat × AV)} {L L':List (Nat × Zk)} {H:Zf} (h1:∀ p ∈ tm',Wk (lkv tm p.1) p.2) (h2:∀ p ∈ L',lkb L p.1 = some p.2)
  (h3:∀ p ∈ tm',Inside n (fun k=>(lkb L' k).isSome = true) p.2) (h4:∀ p ∈ L',p.2.Inside n (fun k=>(lkb L' k).isSome = true)):AWk n N ⟨tm,L,H⟩ ⟨tm',L',H⟩:=fun B E w a hs=>by
 have h:=hs.heap
 have hq:∀ l k,keeps n (fun k=>(lkb L' k).isSome) l k = true ∨ (l = n ∧ lkb L' k = none):=fun l k=>by
  by_cases hl:l = n
  ·subst hl
   cases hb:lkb L' k with
   | none=>exact .inr ⟨rfl,rfl⟩
   | some b=>exact .inl (Xd (.inr ⟨rfl,by simp [hb]⟩))
  ·refine .inl ?_
   unfold keeps
   have:(l != n) = true:=by simpa using hl
   simp [this]
 have hfull:∀ l k b,full n L' H l k = some b → full n L H l k = some b ∧ keeps n (fun k=>(lkb L' k).isSome) l k = true ∧ b.Inside n (fun k=>(lkb L' k).isSome = true) ∨ n < l:=fun l k b hb=>by
  by_cases hl:l = n
  ·subst hl
   simp only [full,if_true] at hb ⊢
   have hm:=lkb_mem hb
   exact .inl ⟨h2 _ hm,Xd (.inr ⟨rfl,by simp [hb]⟩),h4 _ hm⟩
  ·rcases Nat.lt_or_ge l n with hlt | hge
   ·simp only [full,if_neg hl] at hb ⊢
    exact .inl ⟨hb,Xd (.inl hlt),(hs.out l k b hlt hb).inside⟩
   ·exact .inr (by omega)
 have hle:E.le n (E.only n (fun k=>(lkb L' k).isSome)):=by
  refine ⟨fun _ _ _ h=>h,fun l k b hl hm=>?_,fun l k j v hl hm=>?_,rfl⟩
  ·simp only [Env.only]; rw [if_pos (Xd (.inl hl))]; exact hm
  ·simp only [Env.only]; rw [if_pos (Xd (.inl hl))]; exact hm
 have hom:∀ l k b,(E.only n (fun k=>(lkb L' k).isSome)).m l k = some b → E.m l k = some b:=fun l k b hm=>by
  simp only [Env.only] at hm; split at hm
  ·exact hm
  ·cases hm
 have hog:∀ l k b,(E.only n (fun k=>(lkb L' k).isSome)).g l k = some b → E.g l k = some b:=fun l k b hm=>by
  simp only [Env.only] at hm; split at hm
  ·exact hm
  ·cases hm
 refine ⟨E.only n (fun k=>(lkb L' k).isSome),⟨hs.size,hs.defs.sub (fun b ho=>ho.elim (fun ⟨l,k,hm⟩=>.inl ⟨l,k,hom l k b hm⟩) (fun ⟨l,k,hm⟩=>.inr ⟨l,k,hog l k b hm⟩)),fun t=>?_,{ norm:=?_,F:=h.F,blk:=?_,dom:=?_,nobuf:=?_,inj:=?_,injg:=?_,mg:=?_,mF:=?_,lt:=?_ },hs.out⟩,
  ⟨hle,rfl,rfl,rfl,fun _=>Nat.le_refl _,Nat.le_refl _,fun _ _ _=>rfl,fun b _ ho=>?_⟩⟩
 ·show VR _ (lkv tm' t) _
  rcases lkv_mem (tm:=tm') (t:=t) with hd | hm
  ·rw [hd]; exact .dead _
  ·exact ((h1 _ hm).vr (hs.tmps t)).only (h3 _ hm)
 ·refine ⟨fun l k hl=>?_,fun l k hl=>?_,fun l k j hl=>?_⟩
  ·simp only [Env.only]; rw [h.norm.m l k hl]; split <;> rfl
  ·simp only [Env.only]; rw [h.norm.g l k hl]; split <;> rfl
  ·simp only [Env.only]; rw [h.norm.hist l k j hl]; split <;> rfl
 ·intro l k b hl hH
  rcases hfull l k _ hH with ⟨a1,a2,a3⟩ | a1
  ·refine (h.blk l k b hl a1).keep (by simp only [Env.only]; rw [if_pos a2]) (by simp only [Env.only]; rw [if_pos a2]) (fun j=>by simp only [Env.only]; rw [if_pos a2]) (fun q hq r hr=>?_) (fun _ _=>rfl) (fun _ _ _ h=>h) (fun a ha v hv=>hv.only (a3.1 a ha))
   simp only [Env.only]; rw [if_pos (Xd (a3.2 q hq))]; exact hr
  ·omega
 ·intro l k hl hH
  rcases hq l k with hk | ⟨rfl,hk⟩
  ·have:full n L H l k = none:=by
    by_cases hln:l = n
    ·subst hln
     simp only [full,if_true] at hH
     unfold keeps at hk
     simp [hH] at hk
    ·simp only [full,if_neg hln] at hH ⊢; exact hH
   obtain ⟨d1,d2,d3⟩:=h.dom l k hl this
   simp only [Env.only,if_pos hk]; exact ⟨d1,d2,d3⟩
  ·have:¬ keeps l (fun k=>(lkb L' k).isSome) l k = true:=by unfold keeps; simp [hk]
   refine ⟨if_neg this,if_neg this,fun _=>if_neg this⟩
 ·intro l k hg
  cases hx:(E.only n (fun k=>(lkb L' k).isSome)).g l k with
  | none=>exact absurd hx hg
  | some b =>
   have hg':=hog l k b hx
   obtain ⟨bb,hb,hbi⟩:=h.nobuf l k (by rw [hg']; simp)
   rcases hq l k with hk | ⟨rfl,hk⟩
   ·refine ⟨bb,?_,hbi⟩
    by_cases hln:l = n
    ·subst hln
     simp only [full,if_true] at hb ⊢
     unfold keeps at hk
     simp only [bne_self_eq_false,Bool.false_or] at hk
     obtain ⟨b',hb'⟩:=Option.isSome_iff_exists.1 hk
     rw [hb']
     have:=h2 _ (lkb_mem hb')
     simp only [] at this
     rw [hb] at this; exact this.symm
    ·simp only [full,if_neg hln] at hb ⊢; exact hb
   ·have:¬ keeps l (fun k=>(lkb L' k).isSome) l k = true:=by unfold keeps; simp [hk]
    simp only [Env.only] at hx; rw [if_neg this] at hx; cases hx
 ·intro l k l' k' b x1 x2; exact h.inj _ _ _ _ _ (hom _ _ _ x1) (hom _ _ _ x2)
 ·intro l k l' k' b x1 x2; exact h.injg _ _ _ _ _ (hog _ _ _ x1) (hog _ _ _ x2)
 ·intro l k l' k' b x1 x2; exact h.mg _ _ _ _ _ (hom _ _ _ x1) (hog _ _ _ x2)
 ·intro l k b o x1; exact h.mF _ _ _ _ (hom _ _ _ x1)
 ·intro b hb
  rcases hb with ⟨l,k,hm⟩ | ⟨l,k,hg⟩
  ·exact h.lt b (.inl ⟨l,k,hom _ _ _ hm⟩)
  ·exact h.lt b (.inr ⟨l,k,hog _ _ _ hg⟩)
 ·rcases ho with ⟨l,k,hm⟩ | ⟨l,k,hg⟩
  ·exact .inl ⟨l,k,hom _ _ _ hm⟩
  ·exact .inr ⟨l,k,hog _ _ _ hg⟩
theorem least {p:Nat → Prop} (h:∃ m,p m):∃ m,p m ∧ ∀ k,p k → m ≤ k:=by
 obtain ⟨m,hm⟩:=h
 induction m using Nat.strongRecOn with
 | _ m ih =>
  by_cases hx:∃ k,k < m ∧ p k
  ·obtain ⟨k,hk,hp⟩:=hx; exact ih k hk hp
  ·exact ⟨m,hm,fun k hk=>Nat.le_of_not_lt fun hlt=>hx ⟨k,hlt,hk⟩⟩
theorem Zg8 {P:Program} {φ:Fm} {n N:Nat} {c:Code} {k:List Itm} {Q:Exit → Zh → Prop} {s:Zh} (I:Nat → Zh → Prop) {m0:Nat} {s0:Zh} (hw:AWk n N s s0) (h0:I m0 s0)
  (round:∀ m s,I m s → AK P φ n N [.code c] (fun e s'=>match e with | .normal=>∃ m' s'',m' < m ∧ AWk n N s' s'' ∧ I m' s'' | e=>AX P φ n N Q k e s') s) :
  AK P φ n N (.code (.loop c) :: k) Q s:=fun E w a hs=>by
 classical
 let M (a:Act) (w':World) (m:Nat):Prop:=∃ s' E',I m s' ∧ WZ φ.B n N s' E' a w' ∧ Ext n E w E' w'
 let μ (a:Act) (w':World):Nat:=if h:∃ m,M a w' m then Classical.choose (least h) else 0
 obtain ⟨E0,hs0,hx0⟩:=hw _ E w a hs
 refine wpIn_loop (fun a w'=>∃ m,M a w' m) μ ⟨m0,s0,E0,h0,hs0,hx0⟩ ?_
 intro a' w' hM
 have hμ:μ a' w' = Classical.choose (least hM):=dif_pos hM
 obtain ⟨s',E',hI,hs',hx'⟩:=(Classical.choose_spec (least hM)).1
 refine wpIn_mono (round _ s' hI E' w' a' hs') ?_
 rintro e a2 w2 ⟨s2,E2,hQ,hs2,hx2⟩
 cases e with
 | normal =>
  obtain ⟨m',s3,hm',hwk,hI3⟩:=hQ
  obtain ⟨E3,hs3,hx3⟩:=hwk _ E2 w2 a2 hs2
  have hM2:M a2 w2 m':=⟨s3,E3,hI3,hs3,hx'.trans (hx2.trans hx3)⟩
  have hex:∃ m,M a2 w2 m:=⟨m',hM2⟩
  refine ⟨hex,?_⟩
  have:μ a2 w2 = Classical.choose (least hex):=dif_pos hex
  rw [this,hμ]
  exact Nat.lt_of_le_of_lt ((Classical.choose_spec (least hex)).2 _ hM2) hm'
 | _=>exact ⟨s2,E2,hQ,hs2,hx'.trans hx2⟩
theorem Zgj {P:Program} {φ:Fm} {n N:Nat} {c:Code} {k:List Itm} {Q:Exit → Zh → Prop} {s:Zh} (S:Nat → Zh) (M:Nat) (hw:AWk n N s (S 0))
  (round:∀ i,i ≤ M → AK P φ n N [.code c] (fun e s'=>match e with | .normal=>i < M ∧ AWk n N s' (S (i + 1)) | e=>AX P φ n N Q k e s') (S i)) :
  AK P φ n N (.code (.loop c) :: k) Q s:=by
 refine Zg8 (fun m s=>∃ i,i ≤ M ∧ m = M - i ∧ s = S i) hw ⟨0,Nat.zero_le _,rfl,rfl⟩ ?_
 rintro m s ⟨i,hi,rfl,rfl⟩
 refine JG ?_ (round i hi)
 intro e s' hq
 cases e with
 | normal=>exact ⟨M - (i + 1),S (i + 1),by omega,hq.2,i + 1,by omega,rfl,rfl⟩
 | _=>exact hq
theorem AWk.refl (n N:Nat) (s:Zh):AWk n N s s:=fun B E w a hs=>⟨E,hs,.refl n E w⟩
theorem AWk.trans {n N:Nat} {s t u:Zh} (h:AWk n N s t) (h':AWk n N t u):AWk n N s u:=fun B E w a hs=>by
 obtain ⟨E1,h1,x1⟩:=h B E w a hs
 obtain ⟨E2,h2,x2⟩:=h' B E1 w a h1
 exact ⟨E2,h2,x1.trans x2⟩
theorem ZjY {P:Program} {φ:Fm} {n N:Nat} {c:Code} {k:List Itm} {Q:Exit → Zh → Prop} {s s':Zh} (hw:AWk n N s s') (h:AK P φ n N (.code c :: k) Q s'):AK P φ n N (.code c :: k) Q s:=Zka hw h
theorem ZiN (i:Nat) (v:AV) (r:List (Nat × AV)) (t:Nat):lkv ((i,v) :: r) t = if i = t then v else lkv r t:=rfl
theorem Je {n N:Nat} {tm:List (Nat × AV)} {L:List (Nat × Zk)} {H:Zf} {t l j k0:Nat} (e k:Nat) (mb:Bool) (hl:l ≤ n) (ht:lkv tm t = .sl k0 [] .full) (hj:full n L H l j = none) :
  AWk n N ⟨tm,L,H⟩ ⟨(t,if mb then .msl k l j 0 else .sl k [] (.buf l j)) :: tm,ZbS n L l j (if mb then .ZN e k [] 0 else .buf e k 0),setH n H l j (if mb then .ZN e k [] 0 else .buf e k 0)⟩:=fun B E w a hs=>by
 have h:=hs.heap
 have hval:∃ ad,a.tmps.getD t undef = .slice ad 0 0 ∧ ∀ x,ad = some x → x.spot = none:=by
  have:=hs.tmps t
  simp only [ht] at this
  generalize a.tmps.getD t undef = x at this
  cases this with
  | slnil _ _ a ho ha=>obtain rfl:=ha (by simp); exact ⟨none,rfl,fun _ e=>by cases e⟩
  | sl _ _ _ b off cap c hk hc hv hcap hm ho =>
   have:cap = 0:=ho
   subst this; exact ⟨_,rfl,fun _ e=>by cases e; rfl⟩
 obtain ⟨ad,hval,hsp⟩:=hval
 obtain ⟨hh,hx⟩:=h.adopt (show l < n + 1 by omega) hj ad e k mb
 refine ⟨E.Yy l j (.slice ad 0 0),⟨hs.size,hs.defs.ext hx,fun t'=>?_,?_,?_⟩,hx.mono (Nat.le_succ n)⟩
 ·show VR _ (lkv (_ :: tm) t') _
  rw [ZiN]
  by_cases hc:t = t'
  ·subst hc
   rw [if_pos rfl,hval]
   cases mb with
   | true=>exact .mnil _ _ _ _ (by simp [Env.Yy]) hsp
   | false =>
    have:=hs.tmps t
    simp only [ht,hval] at this
    cases this with
    | slnil _ _ _ ho ha=>exact .slnil k _ _ (by simp [JD,Env.Yy]) (fun _=>ha (by simp))
    | sl _ _ _ b off cap c hk hc hv hcap hm ho=>exact .sl k [] _ b off 0 c (fun i h=>absurd h (Nat.not_lt_zero _)) (fun i j h=>absurd h (Nat.not_lt_zero _)) (fun i h=>absurd h (Nat.not_lt_zero _)) (Nat.le_refl _) hm (by simp [JD,Env.Yy])
  ·rw [if_neg hc]; exact (hs.tmps t').mono h.norm hx.le
 ·show ZJ (n + 1) (full n (ZbS n L l j _) (setH n H l j _)) _ _
  rw [Zdd]; exact hh
 ·intro l' k' b hl' hb
  simp only [setH] at hb
  split at hb
  ·exact hs.out l' k' b hl' hb
  ·simp only [Zf.upd] at hb
   split at hb
   ·simp only [Option.some.injEq] at hb
    subst hb
    cases mb <;> exact ⟨by simp [Zk.avs],by simp [Zk.at_]⟩
   ·exact hs.out l' k' b hl' hb
def delb:List (Nat × Zk) → Nat → List (Nat × Zk)
 | [],_=>[]
 | (i,b) :: r,j=>if i = j then delb r j else (i,b) :: delb r j
theorem lkb_delb:∀ (L:List (Nat × Zk)) (j t:Nat),lkb (delb L j) t = if t = j then none else lkb L t
 | [],j,t=>by simp [delb,lkb]
 | (i,b) :: r,j,t=>by
  simp only [delb]
  by_cases hi:i = j
  ·subst hi
   rw [if_pos rfl,lkb_delb r i t]
   by_cases ht:t = i
   ·rw [if_pos ht,if_pos ht]
   ·rw [if_neg ht,if_neg ht]; simp only [lkb]; rw [if_neg (fun e=>ht e.symm)]
  ·rw [if_neg hi]
   simp only [lkb]
   rw [lkb_delb r j t]
   by_cases ht:i = t
   ·subst ht; rw [if_pos rfl,if_pos rfl,if_neg hi]
   ·rw [if_neg ht,if_neg ht]
def Env.freeze (E:Env) (n j:Nat) (r:Option (Nat × List Value)):Env where
 F:=fun b o=>match r with
  | some (b0,c)=>if b = b0 then c[o]? else E.F b o
  | none=>E.F b o
 m:=fun l k=>if l = n ∧ k = j then none else E.m l k
 hist:=fun l k i=>if l = n ∧ k = j then none else E.hist l k i
 g:=fun l k=>if l = n ∧ k = j then none else E.g l k
 qd:=E.qd
theorem ZJ.freeze {n:Nat} {L:List (Nat × Zk)} {H:Zf} {E:Env} {w:World} (h:ZJ (n + 1) (full n L H) E w) {j:Nat} (r:Option (Nat × List Value)) (hL:∀ p ∈ delb L j,p.2.Inside n (fun k=>k ≠ j))
  (hH:∀ l k b,l < n → H l k = some b → b.Below n) (hr:∀ b0 c,r = some (b0,c) → (E.m n j = some b0 ∨ E.g n j = some b0) ∧ (∀ o,E.F b0 o = none) ∧ ∀ o u,c[o]? = some u → w.cell? ⟨b0,o,none⟩ = some u)
  (hvr:∀ a v,Inside n (fun k=>k ≠ j) a → VR E a v → VR (E.freeze n j r) a v) :
  ZJ (n + 1) (full n (delb L j) H) (E.freeze n j r) w ∧ Ext n E w (E.freeze n j r) w:=by
 have hm':∀ l k b,(E.freeze n j r).m l k = some b → ¬(l = n ∧ k = j) ∧ E.m l k = some b:=fun l k b hm=>by
  simp only [Env.freeze] at hm; split at hm
  ·cases hm
  ·exact ⟨‹_›,hm⟩
 have hg':∀ l k b,(E.freeze n j r).g l k = some b → ¬(l = n ∧ k = j) ∧ E.g l k = some b:=fun l k b hm=>by
  simp only [Env.freeze] at hm; split at hm
  ·cases hm
  ·exact ⟨‹_›,hm⟩
 have hF':∀ b o u,E.F b o = some u → (E.freeze n j r).F b o = some u:=fun b o u hu=>by
  simp only [Env.freeze]
  cases r with
  | none=>exact hu
  | some q =>
   obtain ⟨b0,c⟩:=q
   dsimp only
   split
   ·rename_i e; subst e; rw [(hr b c rfl).2.1 o] at hu; cases hu
   ·exact hu
 have hne:∀ b0 c,r = some (b0,c) → ∀ l k b,(E.m l k = some b ∨ E.g l k = some b) → ¬(l = n ∧ k = j) → b ≠ b0:=fun b0 c e l k b hb hc e'=>by
  subst e'
  rcases hb with hb | hb <;> rcases (hr b c e).1 with h0 | h0
  ·exact hc (h.inj _ _ _ _ _ hb h0)
  ·exact h.mg _ _ _ _ _ hb h0
  ·exact h.mg _ _ _ _ _ h0 hb
  ·exact hc (h.injg _ _ _ _ _ hb h0)
 have hFn:∀ l k g,(E.m l k = some g ∨ E.g l k = some g) → ¬(l = n ∧ k = j) → ∀ o,(E.freeze n j r).F g o = E.F g o:=fun l k g hg hc o=>by
  simp only [Env.freeze]
  cases r with
  | none=>rfl
  | some q =>
   obtain ⟨b0,c⟩:=q
   dsimp only
   rw [if_neg (hne b0 c rfl l k g hg hc)]
 have hfull:∀ l k,¬(l = n ∧ k = j) → full n (delb L j) H l k = full n L H l k:=fun l k hc=>by
  simp only [full]
  by_cases hl:l = n
  ·rw [if_pos hl,if_pos hl,lkb_delb,if_neg (fun e=>hc ⟨hl,e⟩)]
  ·rw [if_neg hl,if_neg hl]
 have hgone:full n (delb L j) H n j = none:=by simp only [full,if_true,lkb_delb]
 have hin:∀ l k b,l < n + 1 → ¬(l = n ∧ k = j) → full n (delb L j) H l k = some b → b.Inside n (fun k=>k ≠ j):=fun l k b hl hc hb=>by
  simp only [full] at hb
  split at hb
  ·exact hL _ (lkb_mem hb)
  ·exact (hH l k b (by omega) hb).inside
 refine ⟨{ norm:=⟨fun l k hl=>?_,fun l k hl=>?_,fun l k i hl=>?_⟩,F:=fun b o u hu=>?_,blk:=fun l k b hl hb=>?_,dom:=fun l k hl hb=>?_,nobuf:=fun l k hg=>?_,inj:=?_,injg:=?_,mg:=?_,mF:=fun l k b o x1=>?_,lt:=fun b hb=>?_ },
  ⟨⟨hF',fun l k b hl hm=>?_,fun l k i u hl hu=>?_,rfl⟩,rfl,rfl,rfl,fun _=>Nat.le_refl _,Nat.le_refl _,fun _ _ _=>rfl,fun b _ ho=>?_⟩⟩
 ·simp only [Env.freeze]; split
  ·rfl
  ·exact h.norm.m l k hl
 ·simp only [Env.freeze]; split
  ·rfl
  ·exact h.norm.g l k hl
 ·simp only [Env.freeze]; split
  ·rfl
  ·exact h.norm.hist l k i hl
 ·simp only [Env.freeze] at hu
  cases r with
  | none=>exact h.F b o u hu
  | some q =>
   obtain ⟨b0,c⟩:=q
   dsimp only at hu
   split at hu
   ·rename_i e; subst e; exact (hr b c rfl).2.2 o u hu
   ·exact h.F b o u hu
 ·by_cases hc:l = n ∧ k = j
  ·obtain ⟨rfl,rfl⟩:=hc
   rw [hgone] at hb; cases hb
  ·have hi:=hin l k b hl hc hb
   rw [hfull l k hc] at hb
   refine (h.blk l k b hl hb).keep (by simp only [Env.freeze]; rw [if_neg hc]) (by simp only [Env.freeze]; rw [if_neg hc]) (fun i=>by simp only [Env.freeze]; rw [if_neg hc]) (fun q hq r hr=>?_) (fun _ _=>rfl) (fun g o hg hf=>by rw [hFn l k g (.inr hg) hc]; exact hf) (fun a ha v hv=>hvr a v (hi.1 a ha) hv)
   simp only [Env.freeze]
   rw [if_neg]; exact hr
   rintro ⟨e1,e2⟩
   rcases hi.2 q hq with h' | h'
   ·omega
   ·exact h'.2 e2
 ·by_cases hc:l = n ∧ k = j
  ·simp only [Env.freeze,if_pos hc]; exact ⟨trivial,trivial,fun _=>trivial⟩
  ·rw [hfull l k hc] at hb
   simp only [Env.freeze,if_neg hc]; exact h.dom l k hl hb
 ·cases hx:(E.freeze n j r).g l k with
  | none=>exact absurd hx hg
  | some b =>
   obtain ⟨hc,hgg⟩:=hg' l k b hx
   rw [hfull l k hc]; exact h.nobuf l k (by rw [hgg]; simp)
 ·exact fun l k l' k' b x1 x2=>h.inj _ _ _ _ _ (hm' _ _ _ x1).2 (hm' _ _ _ x2).2
 ·exact fun l k l' k' b x1 x2=>h.injg _ _ _ _ _ (hg' _ _ _ x1).2 (hg' _ _ _ x2).2
 ·exact fun l k l' k' b x1 x2=>h.mg _ _ _ _ _ (hm' _ _ _ x1).2 (hg' _ _ _ x2).2
 ·obtain ⟨hc,hm⟩:=hm' _ _ _ x1
  rw [hFn l k b (.inl hm) hc]; exact h.mF _ _ _ _ hm
 ·rcases hb with ⟨l,k,hm⟩ | ⟨l,k,hm⟩
  ·exact h.lt b (.inl ⟨l,k,(hm' _ _ _ hm).2⟩)
  ·exact h.lt b (.inr ⟨l,k,(hg' _ _ _ hm).2⟩)
 ·simp only [Env.freeze]; rw [if_neg (fun hc=>by omega)]; exact hm
 ·simp only [Env.freeze]; rw [if_neg (fun hc=>by omega)]; exact hu
 ·rcases ho with ⟨l,k,hm⟩ | ⟨l,k,hm⟩
  ·exact .inl ⟨l,k,(hm' _ _ _ hm).2⟩
  ·exact .inr ⟨l,k,(hg' _ _ _ hm).2⟩
theorem VR.freeze {n j:Nat} {E:Env} {r:Option (Nat × List Value)} (hF:∀ b o u,E.F b o = some u → (E.freeze n j r).F b o = some u) {a:AV} {v:Value} (hv:VR E a v) (hb:Inside n (fun k=>k ≠ j) a):VR (E.freeze n j r) a v:=by
 have keep:∀ l k,(l < n ∨ (l = n ∧ k ≠ j)) → ¬(l = n ∧ k = j):=fun l k h hc=>by
  rcases h with h | h
  ·omega
  ·exact h.2 hc.2
 induction hv with
 | int k n=>exact .int k n
 | bool b=>exact .bool b
 | str l=>exact .str l
 | nilp=>exact .nilp
 | ptr l k off b hm=>cases hb with | ptr _ _ _ hl=>exact .ptr l k off b (by simp only [Env.freeze,if_neg (keep _ _ hl)]; exact hm)
 | ZA cs b off c hc _ ih=>cases hb with | ZA _ hb=>exact .ZA cs b off c (fun j hj=>hF _ _ _ (hc j hj)) (fun j h=>ih j h (hb j h))
 | slnil k o a ho ha =>
  cases hb with
  | sl _ _ _ _ hb =>
   refine .slnil k o a ?_ ha
   cases o with
   | any=>trivial
   | full=>exact ho
   | buf l i=>simp only [JD,Env.freeze,if_neg (keep _ _ (hb l i rfl))]; exact ho
 | sl k xs o b off cap c hk hc _ hcap hm ho ih =>
  cases hb with
  | sl _ _ _ hx hb =>
   refine .sl k xs o b off cap c hk (fun i j hi hj=>hF _ _ _ (hc i j hi hj)) (fun i h j h'=>ih i h j h' (hx i h j h')) hcap hm ?_
   cases o with
   | any=>trivial
   | full=>exact ho
   | buf l i=>simp only [JD,Env.freeze,if_neg (keep _ _ (hb l i rfl))]; exact ho
 | nilf=>exact .nilf
 | fn f caps vs hl _ ih=>cases hb with | fn _ _ hb=>exact .fn f caps vs hl (fun i h h'=>ih i h h' (hb i h))
 | bfn f caps vs hl _ ih=>cases hb with | bfn _ _ hb=>exact .bfn f caps vs hl (fun i h h'=>ih i h h' (hb i h))
 | nilm=>exact .nilm
 | map l k b hm=>cases hb with | map _ _ hl=>exact .map l k b (by simp only [Env.freeze,if_neg (keep _ _ hl)]; exact hm)
 | mnil sz l k a hh ha=>cases hb with | msl _ _ _ _ hl=>exact .mnil _ _ _ _ (by simp only [Env.freeze,if_neg (keep _ _ hl)]; exact hh) ha
 | msl sz l k i g cap hh=>cases hb with | msl _ _ _ _ hl=>exact .msl _ _ _ _ _ _ (by simp only [Env.freeze,if_neg (keep _ _ hl)]; exact hh)
 | eptr l k i off g cap hh=>cases hb with | eptr _ _ _ _ hl=>exact .eptr _ _ _ _ _ _ (by simp only [Env.freeze,if_neg (keep _ _ hl)]; exact hh)
 | ssl k xs ys b off cap c hk hc _ hcap hm ih=>cases hb with | ssl _ _ _ hx=>exact .ssl k xs ys b off cap c hk (fun i j hi hj=>hF _ _ _ (hc i j hi hj)) (fun i h j h'=>ih i h j h' (hx i h j h')) hcap hm
 | nili=>exact .nili
 | Y8=>exact .Y8
 | sln k a cap hc=>exact .sln k a cap hc
 | sub sz l k i off m g cap hh hm=>cases hb with | sub _ _ _ _ _ _ hl=>exact .sub _ _ _ _ _ _ _ _ (by simp only [Env.freeze,if_neg (keep _ _ hl)]; exact hh) hm
 | ifc t a v _ ih=>cases hb with | ifc _ _ hb=>exact .ifc t a v (ih hb)
 | agg cs vs hl _ ih=>cases hb with | agg _ hb=>exact .agg cs vs hl (fun i h h'=>ih i h h' (hb i h))
 | tup cs vs hl _ ih=>cases hb with | tup _ hb=>exact .tup cs vs hl (fun i h h'=>ih i h h' (hb i h))
 | dead v=>exact .dead v
theorem ZcS {n N:Nat} {tm tm':List (Nat × AV)} {L:List (Nat × Zk)} {H:Zf} {j:Nat} {cs:List AV} (hb:lkb L j = some (.box cs)) (hcs:∀ c ∈ cs,Inside n (fun k=>k ≠ j) c)
  (h1:∀ p ∈ tm',(Wk (lkv tm p.1) p.2 ∧ Inside n (fun k=>k ≠ j) (lkv tm p.1)) ∨ ∃ off,lkv tm p.1 = .ptr n j off ∧ p.2 = .ZA (cs.drop off)) (hL:∀ p ∈ delb L j,p.2.Inside n (fun k=>k ≠ j)):AWk n N ⟨tm,L,H⟩ ⟨tm',delb L j,H⟩:=fun B E w a hs=>by
 have h:=hs.heap
 obtain ⟨b0,hm0,c,t,hc,hv⟩:=h.box n j cs (Nat.lt_succ_self n) (by simp only [full,if_true]; exact hb)
 have hcell:∀ o u,c.toList[o]? = some u → w.cell? ⟨b0,o,none⟩ = some u:=fun o u hu=>by simp only [World.cell?,hc]; simpa using hu
 have hF':∀ b o u,E.F b o = some u → (E.freeze n j (some (b0,c.toList))).F b o = some u:=fun b o u hu=>by
  simp only [Env.freeze]
  split
  ·rename_i e; subst e; rw [h.mF _ _ _ o hm0] at hu; cases hu
  ·exact hu
 obtain ⟨hh,hx⟩:=h.freeze (j:=j) (some (b0,c.toList)) hL hs.out (fun b c' e=>by cases e; exact ⟨.inl hm0,fun o=>h.mF _ _ _ o hm0,hcell⟩) (fun a v ha hv=>hv.freeze hF' ha)
 refine ⟨_,⟨hs.size,hs.defs.ext hx,fun t'=>?_,hh,hs.out⟩,hx⟩
 show VR _ (lkv tm' t') _
 rcases lkv_mem (tm:=tm') (t:=t') with hd | hmm
 ·rw [hd]; exact .dead _
 ·have ht:=hs.tmps t'
  rcases h1 _ hmm with ⟨w1,w2⟩ | ⟨off,w1,w2⟩
  ·exact w1.vr (ht.freeze hF' w2)
  ·dsimp only at w1 w2 ht
   rw [w1] at ht
   rw [w2]
   generalize a.tmps.getD t' undef = x at ht
   cases ht with | ptr _ _ _ b hm =>
   rw [hm0] at hm; cases hm
   refine .ZA _ b0 off (fun i=>(c.toList.getD (off + i) undef)) (fun i hi=>?_) (fun i hi=>?_)
   ·simp only [List.length_drop] at hi
    have hlt:off + i < c.toList.length:=by rw [hv.1]; omega
    simp only [Env.freeze,if_true,List.getD_eq_getElem?_getD,List.getElem?_eq_getElem hlt,Option.getD_some]
   ·simp only [List.length_drop] at hi
    have hlt:off + i < c.toList.length:=by rw [hv.1]; omega
    simp only [List.getElem_drop,List.getD_eq_getElem?_getD,List.getElem?_eq_getElem hlt,Option.getD_some]
    exact (hv.2 (off + i) (by omega) hlt).freeze hF' (hcs _ (List.getElem_mem _))
theorem VR.part {E:Env} {k:Nat} {xs:List AV} {b cap:Nat} {cs:List Value} (hk:∀ x ∈ xs,x.cells.length = k) (hv:VRs E (flat xs) cs) (hF:∀ j u,cs[j]? = some u → E.F b j = some u) (hcap:xs.length ≤ cap) (hm:xs.length ≤ maxLen) (o m:Nat) (hom:o + m ≤ xs.length) :
  VR E (.sl k ((xs.drop o).take m) .any) (.slice (some ⟨b,o * k,none⟩) m (cap - o)):=by
 have hlen:((xs.drop o).take m).length = m:=by simp; omega
 have hx:∀ y ∈ (xs.drop o).take m,y.cells.length = k:=fun y hy=>hk y (List.mem_of_mem_drop (List.mem_of_mem_take hy))
 have hflat:flat ((xs.drop o).take m) = ((flat xs).drop (o * k)).take (m * k):=by rw [Zb6 (fun y hy=>hk y (List.mem_of_mem_drop hy)),ZbQ hk]
 have:=VR.VJ (E:=E) (k:=k) (xs:=(xs.drop o).take m) (o:=.any) (b:=b) (off:=o * k) (cap:=cap - o) (cs:=(cs.drop (o * k)).take (m * k)) hx (by rw [hflat]; exact (hv.drop _).take _) (fun j u hj=>by
  rw [List.getElem?_take] at hj
  split at hj
  ·rw [List.getElem?_drop] at hj; exact hF _ _ hj
  ·cases hj) (by omega) (by omega) trivial
 rw [hlen] at this; exact this
theorem Zdm {n N:Nat} {tm tm':List (Nat × AV)} {L:List (Nat × Zk)} {H:Zf} {j e sz i:Nat} {cs:List AV} (xs:List AV) (hb:lkb L j = some (.ZN e sz cs i)) (hfl:flat xs = cs) (hxl:xs.length = i) (hxk:∀ x ∈ xs,x.cells.length = sz) (hcs:∀ c ∈ cs,Inside n (fun k=>k ≠ j) c)
  (h1:∀ p ∈ tm',(Wk (lkv tm p.1) p.2 ∧ Inside n (fun k=>k ≠ j) (lkv tm p.1)) ∨ (∃ sz0,lkv tm p.1 = .msl sz0 n j i ∧ p.2 = .sl sz xs .any) ∨ (∃ o m,lkv tm p.1 = .sub sz n j i o m ∧ p.2 = .sl sz ((xs.drop o).take m) .any)) (hL:∀ p ∈ delb L j,p.2.Inside n (fun k=>k ≠ j)):∀ B E w a,WZ B n N ⟨tm,L,H⟩ E a w → ∃ o,WZ B n N ⟨tm',delb L j,H⟩ (E.freeze n j o) a w ∧ Ext n E w (E.freeze n j o) w:=fun B E w a hs=>by
 have h:=hs.heap
 obtain ⟨⟨h0,v0,hv0,hj0,hr0⟩,hm0⟩:=h.ZN n j e sz cs i (Nat.lt_succ_self n) (by simp only [full,if_true]; exact hb)
 subst hxl
 rcases hr0 with ⟨ad,q1,q2,q3⟩ | ⟨g,cap,cur,q1,q2,q3,q4,q5,q6,q7,q8⟩
 ·have hF':∀ b o u,E.F b o = some u → (E.freeze n j none).F b o = some u:=fun b o u hu=>hu
  obtain ⟨hh,hx⟩:=h.freeze (j:=j) none hL hs.out (fun b c' e=>by cases e) (fun a v ha hv=>hv.freeze hF' ha)
  refine ⟨_,⟨hs.size,hs.defs.ext hx,fun t'=>?_,hh,hs.out⟩,hx⟩
  show VR _ (lkv tm' t') _
  rcases lkv_mem (tm:=tm') (t:=t') with hd | hmm
  ·rw [hd]; exact .dead _
  ·have ht:=hs.tmps t'
   rcases h1 _ hmm with ⟨w1,w2⟩ | ⟨sz0,w1,w2⟩ | ⟨o,m,w1,w2⟩
   ·exact w1.vr (ht.freeze hF' w2)
   ·dsimp only at w1 w2 ht
    rw [w1] at ht
    rw [w2]
    have ex:xs = []:=List.eq_nil_of_length_eq_zero q2
    subst ex
    generalize a.tmps.getD t' undef = x at ht
    cases ht with
    | mnil _ _ _ a' hh' hsp =>
     cases a' with
     | none=>exact .slnil _ _ none trivial (fun _=>rfl)
     | some ad' =>
      obtain ⟨b',off',sp⟩:=ad'
      have hsp':sp = none:=hsp _ rfl
      subst hsp'
      exact VR.sl sz [] .any b' off' 0 (fun _ _=>undef) (fun i h=>absurd h (Nat.not_lt_zero _)) (fun i j h=>absurd h (Nat.not_lt_zero _)) (fun i h=>absurd h (Nat.not_lt_zero _)) (Nat.le_refl _) (Nat.zero_le _) trivial
    | msl _ _ _ _ g cap hh' =>
     simp only [List.length_nil] at hv0 hh' ⊢
     rw [hv0,q1] at hh'
     simp only [Option.some.injEq,Value.slice.injEq] at hh'
     obtain ⟨_,_,rfl⟩:=hh'
     exact VR.sl sz [] .any g 0 0 (fun _ _=>undef) (fun i h=>absurd h (Nat.not_lt_zero _)) (fun i j h=>absurd h (Nat.not_lt_zero _)) (fun i h=>absurd h (Nat.not_lt_zero _)) (Nat.le_refl _) (Nat.zero_le _) trivial
   ·dsimp only at w1 w2 ht
    rw [w1] at ht
    rw [w2]
    have ex:xs = []:=List.eq_nil_of_length_eq_zero q2
    subst ex
    generalize a.tmps.getD t' undef = x at ht
    cases ht with
    | sub _ _ _ _ _ _ g cap hh' hm =>
     simp only [List.length_nil] at hv0 hh' hm ⊢
     rw [hv0,q1] at hh'
     simp only [Option.some.injEq,Value.slice.injEq] at hh'
     obtain ⟨_,_,rfl⟩:=hh'
     have h1:o = 0:=by omega
     have h2:m = 0:=by omega
     subst h1 h2
     simp only [List.drop_nil,List.take_nil,Nat.zero_mul]
     exact VR.sl sz [] .any g 0 0 (fun _ _=>undef) (fun i h=>absurd h (Nat.not_lt_zero _)) (fun i j h=>absurd h (Nat.not_lt_zero _)) (fun i h=>absurd h (Nat.not_lt_zero _)) (Nat.le_refl _) (Nat.zero_le _) trivial
 ·have hle:xs.length * sz ≤ cap * sz:=Nat.mul_le_mul_right _ q4
  have hcell:∀ o u,(cur.toList.take (xs.length * sz))[o]? = some u → w.cell? ⟨g,o,none⟩ = some u:=fun o u hu=>by
   simp only [World.cell?,q3]
   rcases Nat.lt_or_ge o (xs.length * sz) with h | h
   ·rw [List.getElem?_take_of_lt h] at hu; simpa using hu
   ·rw [List.getElem?_take,if_neg (by omega)] at hu; cases hu
  have hF':∀ b o u,E.F b o = some u → (E.freeze n j (some (g,cur.toList.take (xs.length * sz)))).F b o = some u:=fun b o u hu=>by
   simp only [Env.freeze]
   split
   ·rename_i e; subst e; rw [q7 o] at hu; cases hu
   ·exact hu
  obtain ⟨hh,hx⟩:=h.freeze (j:=j) (some (g,cur.toList.take (xs.length * sz))) hL hs.out (fun b c' e=>by cases e; exact ⟨.inr q2,q7,hcell⟩) (fun a v ha hv=>hv.freeze hF' ha)
  refine ⟨_,⟨hs.size,hs.defs.ext hx,fun t'=>?_,hh,hs.out⟩,hx⟩
  show VR _ (lkv tm' t') _
  rcases lkv_mem (tm:=tm') (t:=t') with hd | hmm
  ·rw [hd]; exact .dead _
  ·have ht:=hs.tmps t'
   rcases h1 _ hmm with ⟨w1,w2⟩ | ⟨sz0,w1,w2⟩ | ⟨o,m,w1,w2⟩
   ·exact w1.vr (ht.freeze hF' w2)
   ·dsimp only at w1 w2 ht
    rw [w1] at ht
    rw [w2]
    have hval:a.tmps.getD t' undef = v0:=by
     generalize a.tmps.getD t' undef = x at ht
     generalize hi0:xs.length = i0 at ht hv0
     cases ht with
     | mnil _ _ _ a' hh' _=>rw [hv0] at hh'; exact (Option.some.inj hh').symm
     | msl _ _ _ _ g' cap' hh'=>rw [hv0] at hh'; exact (Option.some.inj hh').symm
    rw [hval,q1]
    have hv2:VRs (E.freeze n j (some (g,cur.toList.take (xs.length * sz)))) (flat xs) (cur.toList.take (xs.length * sz)):=by
     rw [hfl]
     exact ⟨q8.1,fun i x y=>(q8.2 i x y).freeze hF' (hcs _ (List.getElem_mem _))⟩
    exact VR.VJ (o:=.any) (b:=g) (off:=0) (cap:=cap) hxk hv2 (fun i u hi=>by simp only [Env.freeze,if_true,Nat.zero_add]; exact hi) q4 (by omega) trivial
   ·dsimp only at w1 w2 ht
    rw [w1] at ht
    rw [w2]
    generalize a.tmps.getD t' undef = x at ht
    generalize hi0:xs.length = i0 at ht hv0
    cases ht with
    | sub _ _ _ _ _ _ g' cap' hh' hm =>
     subst hi0
     rw [hv0,q1] at hh'
     simp only [Option.some.injEq,Value.slice.injEq,Addr.mk.injEq] at hh'
     obtain ⟨⟨rfl,_,_⟩,_,rfl⟩:=hh'
     have hv2:VRs (E.freeze n j (some (g,cur.toList.take (xs.length * sz)))) (flat xs) (cur.toList.take (xs.length * sz)):=by
      rw [hfl]
      exact ⟨q8.1,fun i x y=>(q8.2 i x y).freeze hF' (hcs _ (List.getElem_mem _))⟩
     exact VR.part (b:=g) (cap:=cap) hxk hv2 (fun i u hi=>by simp only [Env.freeze,if_true]; exact hi) q4 (by omega) o m hm
theorem Zam {n N:Nat} {tm tm':List (Nat × AV)} {L:List (Nat × Zk)} {H:Zf} {j e sz i:Nat} {cs:List AV} (xs:List AV) (hb:lkb L j = some (.ZN e sz cs i)) (hfl:flat xs = cs) (hxl:xs.length = i) (hxk:∀ x ∈ xs,x.cells.length = sz) (hcs:∀ c ∈ cs,Inside n (fun k=>k ≠ j) c)
  (h1:∀ p ∈ tm',(Wk (lkv tm p.1) p.2 ∧ Inside n (fun k=>k ≠ j) (lkv tm p.1)) ∨ (∃ sz0,lkv tm p.1 = .msl sz0 n j i ∧ p.2 = .sl sz xs .any) ∨ (∃ o m,lkv tm p.1 = .sub sz n j i o m ∧ p.2 = .sl sz ((xs.drop o).take m) .any)) (hL:∀ p ∈ delb L j,p.2.Inside n (fun k=>k ≠ j)):AWk n N ⟨tm,L,H⟩ ⟨tm',delb L j,H⟩:=fun B E w a hs=>by
 obtain ⟨o,h⟩:=Zdm xs hb hfl hxl hxk hcs h1 hL B E w a hs
 exact ⟨_,h⟩
theorem Vh {n N:Nat} {tm tm':List (Nat × AV)} {L:List (Nat × Zk)} {H:Zf} {j e sz i:Nat} {cs:List AV} (xs:List AV) (hb:lkb L j = some (.ZN e sz cs i)) (hfl:flat xs = cs) (hxl:xs.length = i) (hxk:∀ x ∈ xs,x.cells.length = sz) (hcs:∀ c ∈ cs,Inside n (fun k=>k ≠ j) c)
  (h1:∀ p ∈ tm',(Wk (lkv tm p.1) p.2 ∧ Inside n (fun k=>k ≠ j) (lkv tm p.1)) ∨ (∃ sz0,lkv tm p.1 = .msl sz0 n j i ∧ p.2 = .sl sz xs .any)) (hL:∀ p ∈ delb L j,p.2.Inside n (fun k=>k ≠ j)):AWk n N ⟨tm,L,H⟩ ⟨tm',delb L j,H⟩ :=
 Zam xs hb hfl hxl hxk hcs (fun p hp=>(h1 p hp).imp id .inl) hL
end Go.Abs

/- The rules as a proof uses them. No program, no condition. -/
namespace Go.Abs
def AKc (cx:Cx) (k:List Itm) (Q:Exit → Zh → Prop) (s:Zh):Prop:=AK cx.P cx.φ cx.n cx.N k Q s
def Y9 (fn:Func):Code:=match fn.body with
 | some c=>c
 | none=>.skip
theorem Zb {P : Program} {f : FuncId} {fn : Func} (h : P.funcs[f]? = some fn) (hb : fn.body.isSome = true) (hn : (fn.name == "runtime.NumGoroutine") = false) : Fun P f fn (Y9 fn) :=
 ⟨h,by unfold Y9; cases hx:fn.body with
  | none=>rw [hx] at hb; cases hb
  | some c=>rfl,hn⟩
def _root_.Go.Code.fst:Code → Code
 | .seq a _=>a
 | .cond _ a _=>a
 | .block _ a=>a
 | .loop a=>a
 | .scope a=>a
 | .rangeFunc _ _ a _=>a
 | c=>c
def _root_.Go.Code.snd:Code → Code
 | .seq _ b=>b
 | .rangeFunc _ _ _ b=>b
 | .cond _ _ b=>b
 | c=>c
def plainO:Opt:=⟨false,false,fun _=>.auto,[]⟩
def drawO:Opt:=⟨true,false,fun _=>.auto,[]⟩
theorem Zhv (cx:Cx) (op:Opt) (all:List Oper) (k:List Itm) (Q:Exit → Zh → Prop) (s:Zh):Xy cx op all k Q [] s = AKc cx k Q s:=rfl
theorem Zgv (cx:Cx) (op:Opt) (all:List Oper) (k:List Itm) (Q:Exit → Zh → Prop) (o:Oper) (r:List Oper) (s:Zh):Xy cx op all k Q (o :: r) s = match o.guard with
  | none=>V6 cx op o s (Xy cx op all k Q r)
  | some (j,want)=>match VO all j with
   | none=>Xy cx op all k Q r ⟨YP s.tmps o.dst (.tup []),s.L,s.H⟩
   | some d=>vcG cx op o s (Xy cx op all k Q r) want (lkv s.tmps d):=rfl
theorem Zly (cx:Cx) (op:Opt) (o:Oper) (s:Zh) (F:Zh → Prop):vcG cx op o s F true (.bool true) = V6 cx op o s F:=rfl
theorem Zli (cx:Cx) (op:Opt) (o:Oper) (s:Zh) (F:Zh → Prop):vcG cx op o s F false (.bool false) = V6 cx op o s F:=rfl
theorem ZkD (cx:Cx) (op:Opt) (o:Oper) (s:Zh) (F:Zh → Prop):vcG cx op o s F true (.bool false) = F ⟨YP s.tmps o.dst (.tup []),s.L,s.H⟩:=rfl
theorem ZlA (cx:Cx) (op:Opt) (o:Oper) (s:Zh) (F:Zh → Prop):vcG cx op o s F false (.bool true) = F ⟨YP s.tmps o.dst (.tup []),s.L,s.H⟩:=rfl
theorem Zla (cx:Cx) (op:Opt) (o:Oper) (s:Zh) (F:Zh → Prop) (w:Bool):vcG cx op o s F w (.tup []) = F ⟨YP s.tmps o.dst (.tup []),s.L,s.H⟩:=rfl
theorem XJ {cx:Cx} {op:Opt} {o:Oper} {s:Zh} {F:Zh → Prop} {want:Bool} (b:Bool) (ht:b = true → vcG cx op o s F want (.bool b)) (hf:b = false → vcG cx op o s F want (.bool b)):vcG cx op o s F want (.bool b):=by
 cases b
 ·exact hf rfl
 ·exact ht rfl
section
variable {cx:Cx} {k k':List Itm} {Q:Exit → Zh → Prop} {s:Zh} {c:Code}
theorem XW (h:Q .normal s):AKc cx [] Q s:=h
theorem Xl (hc:c = .seq c.fst c.snd) (h:AKc cx (.code c.fst :: .code c.snd :: k) Q s):AKc cx (.code c :: k) Q s:=by rw [hc]; exact Zk1 h
theorem Ze2 {id:Nat} (hc:c = .block id c.fst) (h:AKc cx (.code c.fst :: .blk id :: k) Q s):AKc cx (.code c :: k) Q s:=by rw [hc]; exact Zi2 h
theorem ZM (hc:c = .skip) (h:AKc cx k Q s):AKc cx (.code c :: k) Q s:=by rw [hc]; exact ZjJ h
theorem Zkt {id:Nat} (h:AKc cx k Q s):AKc cx (.blk id :: k) Q s:=ZlG h
theorem Zaa (hc:c = .ret) (h:Q .ret s):AKc cx (.code c :: k) Q s:=by rw [hc]; exact Zix h
theorem Zfb {o:Operand} (hc:c = .cond o c.fst c.snd) (ho:evT s.tmps o = .bool true) (h:AKc cx (.code c.fst :: k) Q s):AKc cx (.code c :: k) Q s:=by
 rw [hc]; exact Zhe ho (fun _=>h) (fun h=>by cases h)
theorem ZcP {o:Operand} (hc:c = .cond o c.fst c.snd) (ho:evT s.tmps o = .bool false) (h:AKc cx (.code c.snd :: k) Q s):AKc cx (.code c :: k) Q s:=by
 rw [hc]; exact Zhe ho (fun h=>by cases h) (fun _=>h)
theorem ZiY (hT:TOK cx.P cx.T) {id:Nat} {ops:Array Oper} (hc:c = .region id ops false) (hd:ZaT cx.N ops.toList = true) (h:Xy cx plainO ops.toList k Q ops.toList s):AKc cx (.code c :: k) Q s:=by
 rw [hc]; exact Zem hT hd plainO rfl h
theorem WG (hT:TOK cx.P cx.T) (op:Opt) (hop:op.dr = false) {id:Nat} {ops:Array Oper} (hc:c = .region id ops false) (hd:ZaT cx.N ops.toList = true) (h:Xy cx op ops.toList k Q ops.toList s):AKc cx (.code c :: k) Q s:=by
 rw [hc]; exact Zem hT hd op hop h
theorem WH (hT:TOK cx.P cx.T) (hm:cx.P.follows .mixedOrders = true) (op:Opt) (hop:op.dr = true) {id:Nat} {ops:Array Oper} (hc:c = .region id ops true) (hd:ZaT cx.N ops.toList = true)
  (hok:(VI ops.toList (ZaE op ops.toList) && Zdf op ops.toList) = true) (h:Xy cx op ops.toList k Q ops.toList s):AKc cx (.code c :: k) Q s:=by
 rw [hc]; exact Zc6 hT hm op hop hd hok h
theorem Yx {s':Zh} (hw:AWk cx.n cx.N s s') (h:AKc cx (.code c :: k) Q s'):AKc cx (.code c :: k) Q s:=ZjY hw h
theorem Yi {tm:List (Nat × AV)} {L:List (Nat × Zk)} {H:Zf} (hs:s = ⟨tm,L,H⟩) (h:AKc cx k Q ⟨tm,L,H⟩):AKc cx k Q s:=by rw [hs]; exact h
theorem XF (S:Zh) (h1:AKc cx [.code c] (fun e s'=>e = .normal ∧ AWk cx.n cx.N s' S) s) (h2:AKc cx k Q S):AKc cx (.code c :: k) Q s:=fun E w a hs=>by
 refine wpIn_mono (h1 E w a hs) ?_
 rintro e a' w' ⟨s',E',⟨he,hw⟩,hs',hx⟩
 subst he
 obtain ⟨E2,hs2,hx2⟩:=hw _ E' w' a' hs'
 exact ⟨S,E2,h2,hs2,hx.trans hx2⟩
def Round (cx:Cx) (k:List Itm) (Q:Exit → Zh → Prop) (R:Zh → Prop):Exit → Zh → Prop:=fun e s'=>match e with
 | .normal=>R s'
 | e=>AX cx.P cx.φ cx.n cx.N Q k e s'
theorem Zy (S:Nat → Zh) (M:Nat) (hc:c = .loop c.fst) (hw:AWk cx.n cx.N s (S 0))
  (round:∀ i,i ≤ M → AKc cx [.code c.fst] (Round cx k Q fun s'=>i < M ∧ AWk cx.n cx.N s' (S (i + 1))) (S i)):AKc cx (.code c :: k) Q s:=by
 rw [hc]; exact Zgj S M hw round
theorem Zgl (I:Nat → Zh → Prop) {m0:Nat} {s0:Zh} (hc:c = .loop c.fst) (hw:AWk cx.n cx.N s s0) (h0:I m0 s0)
  (round:∀ m s,I m s → AKc cx [.code c.fst] (Round cx k Q fun s'=>∃ m' s'',m' < m ∧ AWk cx.n cx.N s' s'' ∧ I m' s'') s):AKc cx (.code c :: k) Q s:=by
 rw [hc]; exact Zg8 I hw h0 round
theorem Ye (S:Nat → Zh) (p:Nat → Prop) (M:Nat) (hc:c = .loop c.fst) (hw:AWk cx.n cx.N s (S 0)) (h0:p 0)
  (round:∀ i,i ≤ M → p i → AKc cx [.code c.fst] (Round cx k Q fun s'=>i < M ∧ p (i + 1) ∧ AWk cx.n cx.N s' (S (i + 1))) (S i)):AKc cx (.code c :: k) Q s:=by
 refine Zgl (fun m s=>∃ i,i ≤ M ∧ m = M - i ∧ p i ∧ s = S i) hc hw ⟨0,Nat.zero_le _,rfl,h0,rfl⟩ ?_
 rintro m s ⟨i,hi,rfl,hp,rfl⟩
 refine JG ?_ (round i hi hp)
 intro e s' hq
 cases e with
 | normal =>
  have h1:i < M:=hq.1
  exact ⟨M - (i + 1),S (i + 1),by omega,hq.2.2,i + 1,by omega,rfl,hq.2.1,rfl⟩
 | _=>exact hq
theorem Zf7 {R:Zh → Prop} {id:Nat} (hp:JJ id k = some k') (h:AKc cx k' Q s):Round cx k Q R (.exit id) s:=ZeT hp h
theorem ZfB {kk:List Itm} {R:Zh → Prop} (hc:c = .ret) (h:Q .ret s):AKc cx (.code c :: kk) (Round cx k Q R) s:=by
 rw [hc]; exact Zix (ZaX h k)
theorem Wq {kk:List Itm} {R:Zh → Prop} {id:Nat} (hc:c = .exit id) (hn:JJ id kk = none) (hp:JJ id k = some k') (h:AKc cx k' Q s):AKc cx (.code c :: kk) (Round cx k Q R) s:=by
 rw [hc]
 refine AC.exit ?_
 have:∀ kk:List Itm,JJ id kk = none → AX cx.P cx.φ cx.n cx.N (Round cx k Q R) kk (.exit id) s:=by
  intro kk
  induction kk with
  | nil=>intro _; exact Zf7 hp h
  | cons x kk ih =>
   intro hn
   cases x with
   | code c=>exact ih hn
   | blk j =>
    simp only [JJ] at hn
    by_cases hj:id = j
    ·simp [hj] at hn
    ·simp only [hj,if_false] at hn
     simp only [AX,hj,if_false]
     exact ih hn
 exact this kk hn
end
def Yj {α:Type} (p:α → Prop):List α → Prop
 | []=>True
 | x :: r=>p x ∧ Yj p r
theorem Yj.mem {α:Type} {p:α → Prop}:∀ {l:List α},Yj p l → ∀ x ∈ l,p x
 | [],_,_,h=>by cases h
 | a :: r,h,x,hx=>by
  rcases List.mem_cons.1 hx with e | e
  ·subst e; exact h.1
  ·exact Yj.mem h.2 x e
theorem Zg {n N:Nat} {tm tm':List (Nat × AV)} {L L':List (Nat × Zk)} {H:Zf} (h1:Yj (fun p=>Wk (lkv tm p.1) p.2) tm') (h2:Yj (fun p=>lkb L p.1 = some p.2) L')
  (h3:Yj (fun p=>Inside n (fun k=>(lkb L' k).isSome = true) p.2) tm') (h4:Yj (fun p=>p.2.Inside n (fun k=>(lkb L' k).isSome = true)) L'):AWk n N ⟨tm,L,H⟩ ⟨tm',L',H⟩ :=
 ZiK h1.mem h2.mem h3.mem h4.mem
theorem WS {cx:Cx} {c:Code} {k:List Itm} {Q:Exit → Zh → Prop} {tm:List (Nat × AV)} {L:List (Nat × Zk)} {H:Zf} {k0:Nat} (t j e sz:Nat) (ht:lkv tm t = .sl k0 [] .full) (hj:lkb L j = none)
  (h:AKc cx (.code c :: k) Q ⟨(t,.sl sz [] (.buf cx.n j)) :: tm,setb L j (.buf e sz 0),H⟩):AKc cx (.code c :: k) Q ⟨tm,L,H⟩:=by
 have:=Je (n:=cx.n) (N:=cx.N) (tm:=tm) (L:=L) (H:=H) (l:=cx.n) (j:=j) e sz false (Nat.le_refl _) ht (by simp only [full,if_true]; exact hj)
 simp only [ZbS,setH,if_true,Bool.false_eq_true,if_false] at this
 exact Yx this h
theorem ZhZ {cx:Cx} {c:Code} {k:List Itm} {Q:Exit → Zh → Prop} {tm:List (Nat × AV)} {L:List (Nat × Zk)} {H:Zf} {k0:Nat} (t j e sz:Nat) (ht:lkv tm t = .sl k0 [] .full) (hj:lkb L j = none)
  (h:AKc cx (.code c :: k) Q ⟨(t,.msl sz cx.n j 0) :: tm,setb L j (.ZN e sz [] 0),H⟩):AKc cx (.code c :: k) Q ⟨tm,L,H⟩:=by
 have:=Je (n:=cx.n) (N:=cx.N) (tm:=tm) (L:=L) (H:=H) (l:=cx.n) (j:=j) e sz true (Nat.le_refl _) ht (by simp only [full,if_true]; exact hj)
 simp only [ZbS,setH,if_true] at this
 exact Yx this h
theorem Ym {cx:Cx} {c:Code} {k:List Itm} {Q:Exit → Zh → Prop} {tm:List (Nat × AV)} {L:List (Nat × Zk)} {H:Zf} (j:Nat) (cs:List AV) (tm':List (Nat × AV)) (hb:lkb L j = some (.box cs)) (hcs:Yj (fun c=>Inside cx.n (fun k=>k ≠ j) c) cs)
  (h1:Yj (fun p=>(Wk (lkv tm p.1) p.2 ∧ Inside cx.n (fun k=>k ≠ j) (lkv tm p.1)) ∨ ∃ off,lkv tm p.1 = .ptr cx.n j off ∧ p.2 = .ZA (cs.drop off)) tm') (hL:Yj (fun p=>p.2.Inside cx.n (fun k=>k ≠ j)) (delb L j))
  (h:AKc cx (.code c :: k) Q ⟨tm',delb L j,H⟩):AKc cx (.code c :: k) Q ⟨tm,L,H⟩ :=
 Yx (ZcS hb hcs.mem h1.mem hL.mem) h
theorem Zk.ZG {n:Nat} {p:Nat → Prop} {cs:List AV} (h:Yj (fun c=>Abs.Inside n p c) cs):Zk.Inside n p (.box cs):=⟨h.mem,by simp [Zk.at_]⟩
theorem Zk.Zcn {n:Nat} {p:Nat → Prop} {cs:List AV} (h:∀ c ∈ cs,Abs.Below n c):Zk.Inside n p (.box cs):=⟨fun a ha=>(h a ha).inside,by simp [Zk.at_]⟩
theorem Zk.ZaY {n:Nat} {p:Nat → Prop} (e sz fr:Nat):Zk.Inside n p (.buf e sz fr):=⟨by simp [Zk.avs],by simp [Zk.at_]⟩
theorem Zk.Zcj {n:Nat} {p:Nat → Prop} {e sz i:Nat} {cs:List AV} (h:∀ c ∈ cs,Abs.Inside n p c):Zk.Inside n p (.ZN e sz cs i):=⟨h,by simp [Zk.at_]⟩
theorem cellsT:(∀ cs,(AV.agg cs).cells = cs) ∧ (∀ k n,(AV.int k n).cells = [.int k n]) ∧ (∀ b,(AV.bool b).cells = [.bool b]) ∧ (∀ s,(AV.str s).cells = [.str s]) ∧ AV.nilp.cells = [.nilp] ∧ (∀ l k o,(AV.ptr l k o).cells = [.ptr l k o]) ∧
  (∀ cs,(AV.ZA cs).cells = [.ZA cs]) ∧ (∀ k xs o,(AV.sl k xs o).cells = [.sl k xs o]) ∧ AV.nilf.cells = [.nilf] ∧ (∀ f c,(AV.fn f c).cells = [.fn f c]) ∧ AV.nilm.cells = [.nilm] ∧ (∀ l k,(AV.map l k).cells = [.map l k]) ∧ (∀ s l k n,(AV.msl s l k n).cells = [.msl s l k n]) :=
 ⟨fun _=>rfl,fun _ _=>rfl,fun _=>rfl,fun _=>rfl,rfl,fun _ _ _=>rfl,fun _=>rfl,fun _ _ _=>rfl,rfl,fun _ _=>rfl,rfl,fun _ _=>rfl,fun _ _ _ _=>rfl⟩
theorem oneT:(∀ k n,(AV.int k n).one = true) ∧ (∀ b,(AV.bool b).one = true) ∧ (∀ s,(AV.str s).one = true) ∧ AV.nilp.one = true ∧ (∀ l k o,(AV.ptr l k o).one = true) ∧
  (∀ cs,(AV.ZA cs).one = true) ∧ (∀ k xs o,(AV.sl k xs o).one = true) ∧ AV.nilf.one = true ∧ (∀ f c,(AV.fn f c).one = true) ∧ AV.nilm.one = true ∧ (∀ l k,(AV.map l k).one = true) ∧ (∀ s l k n,(AV.msl s l k n).one = true) ∧ AV.dead.one = false :=
 ⟨fun _ _=>rfl,fun _=>rfl,fun _=>rfl,rfl,fun _ _ _=>rfl,fun _=>rfl,fun _ _ _=>rfl,rfl,fun _ _=>rfl,rfl,fun _ _=>rfl,fun _ _ _ _=>rfl,rfl⟩
theorem cellsU:(∀ f c,(AV.bfn f c).cells = [.bfn f c]) ∧ AV.Y8.cells = [.Y8] ∧ (∀ k,(AV.sln k).cells = [.sln k]) ∧ AV.nili.cells = [.nili] ∧ (∀ t v,(AV.ifc t v).cells = [.ifc t v]) ∧ (∀ k xs ys,(AV.ssl k xs ys).cells = [.ssl k xs ys]) ∧ (∀ s l k n o m,(AV.sub s l k n o m).cells = [.sub s l k n o m]) :=
 ⟨fun _ _=>rfl,rfl,fun _=>rfl,rfl,fun _ _=>rfl,fun _ _ _=>rfl,fun _ _ _ _ _ _=>rfl⟩
theorem oneU:(∀ f c,(AV.bfn f c).one = true) ∧ AV.Y8.one = true ∧ (∀ k,(AV.sln k).one = true) ∧ AV.nili.one = true ∧ (∀ t v,(AV.ifc t v).one = true) ∧ (∀ k xs ys,(AV.ssl k xs ys).one = true) ∧ (∀ s l k n o m,(AV.sub s l k n o m).one = true) :=
 ⟨fun _ _=>rfl,rfl,fun _=>rfl,rfl,fun _ _=>rfl,fun _ _ _=>rfl,fun _ _ _ _ _ _=>rfl⟩
theorem Zm {P:Program} {T:TT} {n:Nat} {f:FuncId} {fn:Func} {c:Code} {args:List AV} {H:Zf} {Q:AV → Zf → Prop} (hT:TOK P T) (hf:Fun P f fn c) (hN:args.length ≤ fn.ntmps)
  (h:∀ B,AKc ⟨P,T,⟨none,B⟩,n,fn.ntmps⟩ [.code c] (PostF P T n fn.results.toList Q) ⟨numbered 0 args,[],H⟩):Zr P n f args H Q:=Zhq hT hf hN h
theorem ZgS {cx:Cx} {dr:Bool} {o:Oper} {g:Operand} {args:List Operand} {ts:List TypeId} {s:Zh} {F:Zh → Prop} {f:FuncId} {fn:Func} {c:Code} {caps:List AV} {r:AV} (hf:Fun cx.P f fn c)
  (hg:evT s.tmps g = .fn (.func f) caps) (h:PC cx.P (cx.n + 1) f (Xj cx.T (evT s.tmps) args ts ++ caps) (full cx.n s.L s.H) r) (hF:F ⟨YP s.tmps o.dst r,s.L,s.H⟩):JM cx dr o g args ts s F :=
 .inl ⟨f,fn,c,caps,_,hg,hf,h,fun r' H1 ⟨e1,e2⟩=>⟨s.L,s.H,e2,.refl _ _,e1 ▸ hF⟩,fun _=>⟨r,fun _ _ h=>h,hF⟩⟩
theorem Zq {cx:Cx} {dr:Bool} {o:Oper} {args:List Operand} {ts:List TypeId} {s:Zh} {F:Zh → Prop} {f:FuncId} {fn:Func} {c:Code} {r:AV} {avs:List AV} (hf:Fun cx.P f fn c)
  (h:Pure cx.P f avs r) (ha:Xj cx.T (evT s.tmps) args ts = avs) (hF:F ⟨YP s.tmps o.dst r,s.L,s.H⟩):JM cx dr o (.func f) args ts s F :=
 ZgS hf rfl (by rw [List.append_nil,ha]; exact h _ _) hF
theorem Zf2 {cx:Cx} {o:Oper} {args:List Operand} {ts:List TypeId} {s:Zh} {F:Zh → Prop} {f:FuncId} {fn:Func} {c:Code} {r:AV} {avs:List AV} (hf:Fun cx.P f fn c)
  (h:Pure cx.P f avs r) (ha:Xj cx.T (evT s.tmps) args ts = avs) (hF:F ⟨YP s.tmps o.dst r,s.L,s.H⟩):Zgt cx o (.func f) args ts s F :=
 ⟨f,fn,c,[],r,rfl,hf,by rw [List.append_nil,ha]; exact h,hF⟩
theorem ZiL {cx:Cx} {lay:List Nat} {o:Oper} {args:List Operand} {ts:List TypeId} {s:Zh} {F:Zh → Prop} {f:FuncId} {fn:Func} {c:Code} {r:AV} {avs:List AV} (hf:Fun cx.P f fn c)
  (h:∀ G,VF cx.n (fun x=>lay.contains x) G (full cx.n s.L s.H) → PC cx.P (cx.n + 1) f avs G r) (ha:Xj cx.T (evT s.tmps) args ts = avs) (hF:F ⟨YP s.tmps o.dst r,s.L,s.H⟩):ZgF cx lay o (.func f) args ts s F :=
 ⟨f,fn,c,[],r,rfl,hf,fun G hG=>by rw [List.append_nil,ha]; exact h G hG,hF⟩
theorem XM {cx:Cx} {dr:Bool} {o:Oper} {g:Operand} {args:List Operand} {ts:List TypeId} {s:Zh} {F:Zh → Prop} {f:FuncId} {fn:Func} {c:Code} {caps:List AV} {r:AV} {avs:List AV} (hg:evT s.tmps g = .fn (.func f) caps) (hf:Fun cx.P f fn c)
  (h:PC cx.P (cx.n + 1) f (avs ++ caps) (full cx.n s.L s.H) r) (ha:Xj cx.T (evT s.tmps) args ts = avs) (hF:F ⟨YP s.tmps o.dst r,s.L,s.H⟩):JM cx dr o g args ts s F :=
 ZgS hf hg (by rw [ha]; exact h) hF
theorem Xk {cx:Cx} {o:Oper} {g:Operand} {args:List Operand} {ts:List TypeId} {s:Zh} {F:Zh → Prop} {f:FuncId} {fn:Func} {c:Code} {caps avs:List AV} {Qc:AV → Zf → Prop} (hg:evT s.tmps g = .fn (.func f) caps) (hf:Fun cx.P f fn c)
  (h:Zr cx.P (cx.n + 1) f (avs ++ caps) (full cx.n s.L s.H) Qc) (ha:Xj cx.T (evT s.tmps) args ts = avs)
  (hk:∀ r H1,Qc r H1 → ∃ L' H',H1 = full cx.n L' H' ∧ Z5 cx.n s.H H' ∧ F ⟨YP s.tmps o.dst r,L',H'⟩):JM cx false o g args ts s F :=
 .inl ⟨f,fn,c,caps,Qc,hg,hf,by rw [ha]; exact h,hk,fun e=>by cases e⟩
theorem ZkA {cx:Cx} {o:Oper} {g:Operand} {args:List Operand} {ts:List TypeId} {s:Zh} {F:Zh → Prop} {l:Nat} {avs:List AV} {Qc:AV → Zf → Prop} (hg:evT s.tmps g = .fn (.yield l) [])
  (h:WR cx.P (cx.n + 1) l avs (full cx.n s.L s.H) Qc) (ha:Xj cx.T (evT s.tmps) args ts = avs)
  (hk:∀ r H1,Qc r H1 → ∃ L' H',H1 = full cx.n L' H' ∧ Z5 cx.n s.H H' ∧ F ⟨YP s.tmps o.dst r,L',H'⟩):JM cx false o g args ts s F :=
 .inr ⟨rfl,.inl ⟨l,Qc,hg,by rw [ha]; exact h,hk⟩⟩
theorem Zi5 {cx:Cx} {o:Oper} {g:Operand} {args:List Operand} {ts:List TypeId} {s:Zh} {F:Zh → Prop} {f:FuncId} {fn:Func} {c:Code} {bs avs:List AV} {Qc:AV → Zf → Prop} (hg:evT s.tmps g = .bfn (.func f) bs) (hf:Fun cx.P f fn c)
  (h:Zr cx.P (cx.n + 1) f (bs ++ avs) (full cx.n s.L s.H) Qc) (ha:Xj cx.T (evT s.tmps) args ts = avs)
  (hk:∀ r H1,Qc r H1 → ∃ L' H',H1 = full cx.n L' H' ∧ Z5 cx.n s.H H' ∧ F ⟨YP s.tmps o.dst r,L',H'⟩):JM cx false o g args ts s F :=
 .inr ⟨rfl,.inr ⟨f,fn,c,bs,Qc,hg,hf,by rw [ha]; exact h,hk⟩⟩
theorem XZ {cx:Cx} {dr:Bool} {o:Oper} {args:List Operand} {ts:List TypeId} {s:Zh} {F:Zh → Prop} {f:FuncId} {fn:Func} {c:Code} {r:AV} {avs:List AV} (hf:Fun cx.P f fn c)
  (h:PC cx.P (cx.n + 1) f avs (full cx.n s.L s.H) r) (ha:Xj cx.T (evT s.tmps) args ts = avs) (hF:F ⟨YP s.tmps o.dst r,s.L,s.H⟩):JM cx dr o (.func f) args ts s F :=
 ZgS hf rfl (by rw [List.append_nil,ha]; exact h) hF
theorem Ze {P:Program} {T:TT} {n:Nat} {t:Nat} {v:AV} {H:Zf} {s:Zh} (hv:Wk (lkv s.tmps t) v) (hb:Below n v) (hH:s.H = H) :
  PostF P T n [.tmp t] (fun r' H'=>r' = v ∧ H' = H) .ret s :=
 ⟨by simp [YH],[v],⟨hv,trivial⟩,by simpa using hb,rfl,hH⟩
theorem Xa {P:Program} {T:TT} {n:Nat} {t ty:Nat} {v:AV} {H:Zf} {s:Zh} {e:Exit} (he:e = .ret ∨ e = .normal) (r:ZE) (l k off:Nat) (cs:List AV) (h1:lkv s.tmps t = .ptr l k off) (h2:full n s.L s.H l k = some (.box cs)) (h3:T ty = some r)
  (h4:off + r.size ≤ cs.length) (h5:r.isAgg = false → off < cs.length) (hv:Wk (if r.isAgg then .agg ((cs.drop off).take r.size) else (cs.drop off).getD 0 .dead) v) (hb:Below n v) (hH:s.H = H) :
  PostF P T n [.cell t ty] (fun r' H'=>r' = v ∧ H' = H) e s:=by
 have:PostF P T n [.cell t ty] (fun r' H'=>r' = v ∧ H' = H) .ret s:=by
  refine ⟨by simp only [List.mem_singleton,forall_eq,YH]; exact ⟨l,k,off,cs,r,h1,h2,h3,h4,h5⟩,[v],⟨?_,trivial⟩,by simpa using hb,rfl,hH⟩
  simp only [Zf0,h1,h2,h3]
  rw [if_pos ⟨h4,h5⟩]; exact hv
 rcases he with rfl | rfl <;> exact this
theorem Vb {P:Program} {T:TT} {n:Nat} {t u:Nat} {v w:AV} {H:Zf} {s:Zh} (hv:Wk (lkv s.tmps t) v) (hw:Wk (lkv s.tmps u) w) (hb:Below n v) (hc:Below n w) (hH:s.H = H) :
  PostF P T n [.tmp t,.tmp u] (fun r' H'=>r' = .tup [v,w] ∧ H' = H) .ret s :=
 ⟨by simp [YH],[v,w],⟨hv,hw,trivial⟩,by simp [hb,hc],rfl,hH⟩
theorem ZQ {n:Nat} (h:n ≤ 1000000000):n ≤ maxLen:=by unfold maxLen; omega
theorem Zc7 (n:Nat) (b:Bool):Below n (.bool b):=.bool b
theorem Below.cells {n:Nat} {a:AV} (h:Below n a):∀ c ∈ a.cells,Below n c:=by
 intro c hc
 cases h with
 | agg cs hv =>
  simp only [AV.cells] at hc
  obtain ⟨i,hi,rfl⟩:=List.getElem_of_mem hc
  exact hv i hi
 | _=>simp only [AV.cells,List.mem_singleton] at hc; subst hc; constructor <;> assumption
theorem ZV {n k:Nat} {xs:List AV} {o:Own} (h:∀ x ∈ xs,Below n x) (ho:∀ l j,o = .buf l j → l < n):Below n (.sl k xs o) :=
 .sl k xs o (fun i hi j hj=>(h _ (List.getElem_mem hi)).cells _ (List.getElem_mem hj)) ho
theorem ZK {n k:Nat} {xs:List AV} (h:∀ x ∈ xs,Below n x):Below n (.sl k xs .any):=ZV h (fun _ _ e=>by cases e)
theorem YL {n:Nat} {cs:List AV} (h:∀ x ∈ cs,Below n x):Below n (.agg cs):=.agg cs fun i hi=>h _ (List.getElem_mem hi)
def stp:List Itm → Option (List Itm)
 | .code c :: k=>match c with
  | .seq _ _=>some (.code c.fst :: .code c.snd :: k)
  | .block id _=>some (.code c.fst :: .blk id :: k)
  | .skip=>some k
  | _=>none
 | .blk _ :: k=>some k
 | _=>none
theorem kn {cx:Cx} {l l':List Itm} {Q:Exit → Zh → Prop} {s:Zh} (hs:stp l = some l') (h:AKc cx l' Q s):AKc cx l Q s:=by
 unfold stp at hs
 split at hs
 ·rename_i c k
  split at hs
  ·simp only [Option.some.injEq] at hs; subst hs; exact Xl rfl h
  ·simp only [Option.some.injEq] at hs; subst hs; exact Ze2 rfl h
  ·simp only [Option.some.injEq] at hs; subst hs; exact ZM rfl h
  ·cases hs
 ·simp only [Option.some.injEq] at hs; subst hs; exact Zkt h
 ·cases hs
def norm:Nat → List Itm → List Itm
 | 0,l=>l
 | n + 1,l=>match stp l with
  | some l'=>norm n l'
  | none=>l
theorem kns {cx:Cx} {Q:Exit → Zh → Prop} {s:Zh}:∀ (n:Nat) {l:List Itm},AKc cx (norm n l) Q s → AKc cx l Q s
 | 0,_,h=>h
 | n + 1,l,h=>by
  unfold norm at h
  split at h
  ·rename_i l' hl; exact kn hl (kns n h)
  ·exact h
theorem Zcm {cx:Cx} {Q:Exit → Zh → Prop} {s:Zh} {l l':List Itm} (hl:norm 60 l = l') (h:AKc cx l' Q s):AKc cx l Q s:=kns 60 (hl ▸ h)
section
variable {cx:Cx} {k k' l:List Itm} {Q:Exit → Zh → Prop} {s:Zh} {c:Code}
theorem Za (hT:TOK cx.P cx.T) {id:Nat} {ops:Array Oper} (hl:norm 60 l = .code c :: k) (hc:c = .region id ops false) (h:Xy cx plainO ops.toList k Q ops.toList s) (hd:ZaT cx.N ops.toList = true:=by kernel_rfl):AKc cx l Q s :=
 Zcm hl (ZiY hT hc hd h)
theorem YX (hT:TOK cx.P cx.T) (hm:cx.P.follows .mixedOrders = true) (op:Opt) {id:Nat} {ops:Array Oper} (hl:norm 60 l = .code c :: k) (hc:c = .region id ops true) (hop:op.dr = true) (h:Xy cx op ops.toList k Q ops.toList s)
  (hd:ZaT cx.N ops.toList = true:=by kernel_rfl) (hok:(VI ops.toList (ZaE op ops.toList) && Zdf op ops.toList) = true:=by kernel_rfl):AKc cx l Q s :=
 Zcm hl (WH hT hm op hop hc hd hok h)
theorem Zp {o:Operand} (hl:norm 60 l = .code c :: k) (hc:c = .cond o c.fst c.snd) (ho:evT s.tmps o = .bool true) (h:AKc cx (.code c.fst :: k) Q s):AKc cx l Q s:=Zcm hl (Zfb hc ho h)
theorem Zn {o:Operand} (hl:norm 60 l = .code c :: k) (hc:c = .cond o c.fst c.snd) (ho:evT s.tmps o = .bool false) (h:AKc cx (.code c.snd :: k) Q s):AKc cx l Q s:=Zcm hl (ZcP hc ho h)
theorem Zi (hl:norm 60 l = .code c :: k) (hc:c = .ret) (h:Q .ret s):AKc cx l Q s:=Zcm hl (Zaa hc h)
theorem Zt (hl:norm 60 l = []) (h:Q .normal s):AKc cx l Q s:=Zcm hl (XW h)
theorem XO {kk:List Itm} {R:Zh → Prop} (hl:norm 60 l = .code c :: kk) (hc:c = .ret) (h:Q .ret s):AKc cx l (Round cx k Q R) s:=Zcm hl (ZfB hc h)
theorem Yh {kk:List Itm} {R:Zh → Prop} {id:Nat} (hl:norm 60 l = .code c :: kk) (hc:c = .exit id) (hn:JJ id kk = none) (hp:JJ id k = some k') (h:AKc cx k' Q s):AKc cx l (Round cx k Q R) s:=Zcm hl (Wq hc hn hp h)
end
def lit:AV → Bool
 | .int _ _ | .bool _ | .str _ | .nilp | .nilf | .nilm | .dead | .fn _ []=>true
 | _=>false
theorem qA {n:Nat} {p:Nat → Prop} {v:AV} (h:lit v = true):Inside n p v:=by
 unfold lit at h
 split at h
 ·exact .int _ _
 ·exact .bool _
 ·exact .str _
 ·exact .nilp
 ·exact .nilf
 ·exact .nilm
 ·exact .dead
 ·exact .fn _ _ (fun i h=>absurd h (Nat.not_lt_zero _))
 ·cases h
section
variable {n:Nat} {p:Nat → Prop}
theorem q0 {cs:List AV} (h:Yj (fun c=>Abs.Inside n p c) cs):Zk.Inside n p (.box cs):=Zk.ZG h
theorem qb {e sz fr:Nat}:Zk.Inside n p (.buf e sz fr):=Zk.ZaY e sz fr
theorem q1 {v:AV}:Wk v v:=.refl v
theorem q2 {k:Nat} {xs:List AV} {o:Own}:Wk (.sl k xs o) (.sl k xs .any):=.any k xs o
theorem q3 {v:AV}:Wk v .dead:=.dead v
theorem q4 {k:IntKind} {i:Int}:Inside n p (.int k i):=.int k i
theorem q5 {b:Bool}:Inside n p (.bool b):=.bool b
theorem q6 {l:List UInt8}:Inside n p (.str l):=.str l
theorem q7:Inside n p .nilp:=.nilp
theorem q8:Inside n p .nilf:=.nilf
theorem qd:Inside n p .dead:=.dead
end
end Go.Abs
