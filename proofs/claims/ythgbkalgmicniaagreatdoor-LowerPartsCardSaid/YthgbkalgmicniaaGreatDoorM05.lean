/- Buffers: a slice that is appended to again and again. No program, no condition. -/
import Derived.Test.YthgbkalgmicniaaGreatDoorM04
set_option linter.all false
namespace Go.Abs
def Env.ZX (E:Env) (l j n:Nat) (v:Value) (g:Nat) (c:List Value):Env where
 F:=fun b o=>if b = g then c[o]? else E.F b o
 m:=E.m
 hist:=fun l' j' n'=>if l' = l ∧ j' = j ∧ n' = n then some v else E.hist l' j' n'
 g:=fun l' j'=>if l' = l ∧ j' = j then some g else E.g l' j'
 qd:=E.qd
theorem ZJ.ZeY {m:Nat} {H:Zf} {E:Env} {w w':World} (h:ZJ m H E w) {l j n g':Nat} {v:Value} {nb:Zk} (hl:l < m) (hm0:E.m l j = none) (hj:E.hist l j n = none) (hnb:nb.isBuf = true) (c:List Value)
  (os:w'.os = w.os) (tape:w'.tape = w.tape) (output:w'.output = w.output) (drawn:E.qd = true → w.drawn ≤ w'.drawn) (size:w.heap.size ≤ w'.heap.size) (hold:∀ b,b < w.heap.size → b ≠ g' → w'.heap[b]? = w.heap[b]?)
  (hg':E.g l j = some g' ∨ w.heap.size ≤ g') (hg'lt:g' < w'.heap.size) (hcell:∀ o u,c[o]? = some u → w'.cell? ⟨g',o,none⟩ = some u) (hF:∀ o v,E.F g' o = some v → c[o]? = some v)
  (hblk:Zct (E.ZX l j n v g' c) w' l j nb) :
  ZJ m (H.upd l j nb) (E.ZX l j n v g' c) w' ∧ Ext m E w (E.ZX l j n v g' c) w':=by
 have hgm:∀ l' k' b,E.m l' k' = some b → b ≠ g':=fun l' k' b hm e'=>by
  subst e'
  rcases hg' with hg' | hg'
  ·exact h.mg _ _ _ _ _ hm hg'
  ·have:=h.lt b (.inl ⟨l',k',hm⟩); omega
 have hgg:∀ l' k' b,E.g l' k' = some b → ¬(l' = l ∧ k' = j) → b ≠ g':=fun l' k' b hm hne e'=>by
  subst e'
  rcases hg' with hg' | hg'
  ·exact hne (h.injg _ _ _ _ _ hm hg')
  ·have:=h.lt b (.inr ⟨l',k',hm⟩); omega
 have hlt:∀ l' k' b,E.m l' k' = some b → b < w.heap.size:=fun l' k' b hm=>h.lt b (.inl ⟨l',k',hm⟩)
 have hgt:∀ l' k' b,E.g l' k' = some b → b < w.heap.size:=fun l' k' b hm=>h.lt b (.inr ⟨l',k',hm⟩)
 have hle:E.le m (E.ZX l j n v g' c):=by
  refine ⟨fun b o v hf=>?_,fun _ _ _ _ hm=>hm,fun l' k' i u _ hi=>?_,rfl⟩
  ·simp only [Env.ZX]
   by_cases hb:b = g'
   ·subst hb; rw [if_pos rfl]; exact hF o v hf
   ·rw [if_neg hb]; exact hf
  ·simp only [Env.ZX]
   rw [if_neg (fun hc=>by rw [hc.1,hc.2.1,hc.2.2,hj] at hi; cases hi)]; exact hi
 refine ⟨{ norm:=?_,F:=?_,blk:=?_,dom:=?_,nobuf:=?_,inj:=h.inj,injg:=?_,mg:=?_,mF:=?_,lt:=?_ },⟨hle,os,tape,output,drawn,size,fun b hb ho=>?_,fun b hb ho=>?_⟩⟩
 ·refine ⟨h.norm.m,fun l' k' hl'=>?_,fun l' k' i hl'=>?_⟩
  ·simp only [Env.ZX]; rw [if_neg (fun hc=>by omega)]; exact h.norm.g l' k' hl'
  ·simp only [Env.ZX]; rw [if_neg (fun hc=>by omega)]; exact h.norm.hist l' k' i hl'
 ·intro b o u hf
  simp only [Env.ZX] at hf
  by_cases hb:b = g'
  ·subst hb
   rw [if_pos rfl] at hf
   exact hcell o u hf
  ·rw [if_neg hb] at hf
   have hblt:=h.ZbZ hf
   have hc:=h.F b o u hf
   simp only [World.cell?,hold b hblt hb] at hc ⊢; exact hc
 ·intro l' k' bb hl' hH'
  by_cases hc':l' = l ∧ k' = j
  ·obtain ⟨rfl,rfl⟩:=hc'
   rw [Zf.upd_same,Option.some.injEq] at hH'
   subst hH'; exact hblk
  ·rw [Zf.upd_ne H _ hc'] at hH'
   refine (h.blk l' k' bb hl' hH').keep rfl (by simp only [Env.ZX]; rw [if_neg hc']) (fun i=>by simp only [Env.ZX]; rw [if_neg (fun hc=>hc' ⟨hc.1,hc.2.1⟩)]) (fun _ _ _ h=>h) (fun r hr=>?_) (fun g o hg hf=>?_) (fun a _ v hv=>hv.mono h.norm hle)
   ·rcases hr with hr | hr
    ·exact hold r (hlt _ _ _ hr) (hgm _ _ _ hr)
    ·exact hold r (hgt _ _ _ hr) (hgg _ _ _ hr hc')
   ·simp only [Env.ZX]; rw [if_neg (hgg _ _ _ hg hc')]; exact hf
 ·intro l' k' hl' hH'
  by_cases hc':l' = l ∧ k' = j
  ·obtain ⟨rfl,rfl⟩:=hc'
   rw [Zf.upd_same] at hH'; cases hH'
  ·rw [Zf.upd_ne H _ hc'] at hH'
   obtain ⟨d1,d2,d3⟩:=h.dom l' k' hl' hH'
   exact ⟨d1,by simp only [Env.ZX]; rw [if_neg hc']; exact d2,fun i=>by simp only [Env.ZX]; rw [if_neg (fun hc=>hc' ⟨hc.1,hc.2.1⟩)]; exact d3 i⟩
 ·intro l' k' hg
  by_cases hc':l' = l ∧ k' = j
  ·obtain ⟨rfl,rfl⟩:=hc'
   exact ⟨nb,Zf.upd_same H _ _ _,hnb⟩
  ·rw [Zf.upd_ne H _ hc']
   simp only [Env.ZX,if_neg hc'] at hg
   exact h.nobuf l' k' hg
 ·intro l1 k1 l2 k2 b h1 h2
  simp only [Env.ZX] at h1 h2
  by_cases c1:l1 = l ∧ k1 = j <;> by_cases c2:l2 = l ∧ k2 = j
  ·exact ⟨c1.1.trans c2.1.symm,c1.2.trans c2.2.symm⟩
  ·rw [if_pos c1,Option.some.injEq] at h1
   rw [if_neg c2] at h2
   exact absurd h1.symm (hgg _ _ _ h2 c2)
  ·rw [if_neg c1] at h1
   rw [if_pos c2,Option.some.injEq] at h2
   exact absurd h2.symm (hgg _ _ _ h1 c1)
  ·rw [if_neg c1] at h1
   rw [if_neg c2] at h2
   exact h.injg _ _ _ _ _ h1 h2
 ·intro l1 k1 l2 k2 b h1 h2
  simp only [Env.ZX] at h2
  by_cases c2:l2 = l ∧ k2 = j
  ·rw [if_pos c2,Option.some.injEq] at h2
   exact hgm _ _ _ h1 h2.symm
  ·rw [if_neg c2] at h2
   exact h.mg _ _ _ _ _ h1 h2
 ·intro l1 k1 b o h1
  simp only [Env.ZX]
  rw [if_neg (hgm _ _ _ h1)]; exact h.mF _ _ _ _ h1
 ·intro b hb
  rcases hb with ⟨l',k',hm⟩ | ⟨l',k',hg⟩
  ·have:=hlt _ _ _ hm; omega
  ·simp only [Env.ZX] at hg
   by_cases c2:l' = l ∧ k' = j
   ·rw [if_pos c2,Option.some.injEq] at hg; omega
   ·rw [if_neg c2] at hg
    have:=hgt _ _ _ hg; omega
 ·refine hold b hb (fun e'=>ho ?_)
  subst e'
  rcases hg' with hg' | hg'
  ·exact .inr ⟨l,j,hg'⟩
  ·omega
 ·rcases ho with ⟨l',k',hm⟩ | ⟨l',k',hg⟩
  ·exact .inl ⟨l',k',hm⟩
  ·simp only [Env.ZX] at hg
   by_cases c2:l' = l ∧ k' = j
   ·rw [if_pos c2,Option.some.injEq] at hg
    subst hg
    rcases hg' with hg' | hg'
    ·exact .inr ⟨l,j,hg'⟩
    ·omega
   ·rw [if_neg c2] at hg; exact .inr ⟨l',k',hg⟩
def Env.Yy (E:Env) (l j:Nat) (v:Value):Env:={ E with hist:=fun l' j' n'=>if l' = l ∧ j' = j ∧ n' = 0 then some v else E.hist l' j' n' }
theorem ZJ.adopt {m:Nat} {H:Zf} {E:Env} {w:World} (h:ZJ m H E w) {l j:Nat} (hl:l < m) (hfree:H l j = none) (ad:Option Addr) (e k:Nat) (mb:Bool) :
  ZJ m (H.upd l j (if mb then .ZN e k [] 0 else .buf e k 0)) (E.Yy l j (.slice ad 0 0)) w ∧ Ext m E w (E.Yy l j (.slice ad 0 0)) w:=by
 obtain ⟨d1,d2,d3⟩:=h.dom l j hl hfree
 have hle:E.le m (E.Yy l j (.slice ad 0 0)):=⟨fun _ _ _ h=>h,fun _ _ _ _ h=>h,fun l' k' i u _ hi=>by
  simp only [Env.Yy]
  rw [if_neg (fun hc=>by rw [hc.1,hc.2.1,d3] at hi; cases hi)]; exact hi,rfl⟩
 refine ⟨{ norm:=⟨h.norm.m,h.norm.g,fun l' k' i hl'=>?_⟩,F:=h.F,blk:=?_,dom:=?_,nobuf:=?_,inj:=h.inj,injg:=h.injg,mg:=h.mg,mF:=h.mF,lt:=h.lt },⟨hle,rfl,rfl,rfl,fun _=>Nat.le_refl _,Nat.le_refl _,fun _ _ _=>rfl,fun _ _ h=>h⟩⟩
 ·simp only [Env.Yy]; rw [if_neg (fun hc=>by omega)]; exact h.norm.hist l' k' i hl'
 ·intro l' k' bb hl' hH
  by_cases hc:l' = l ∧ k' = j
  ·obtain ⟨rfl,rfl⟩:=hc
   rw [Zf.upd_same,Option.some.injEq] at hH
   subst hH
   have h0:(E.Yy l' k' (.slice ad 0 0)).hist l' k' 0 = some (.slice ad 0 0):=by simp [Env.Yy]
   have h1:∀ i,0 < i → (E.Yy l' k' (.slice ad 0 0)).hist l' k' i = none:=fun i hi=>by simp only [Env.Yy]; rw [if_neg (fun hc=>by omega)]; exact d3 i
   cases mb with
   | false=>exact ⟨⟨.slice ad 0 0,h0,h1,.inl ⟨ad,rfl,rfl,d2⟩⟩,d1⟩
   | true=>exact ⟨⟨by simp,.slice ad 0 0,h0,h1,.inl ⟨ad,rfl,rfl,d2⟩⟩,d1⟩
  ·rw [Zf.upd_ne _ _ hc] at hH
   exact (h.blk l' k' bb hl' hH).keep rfl rfl (fun i=>by simp only [Env.Yy]; rw [if_neg (fun h=>hc ⟨h.1,h.2.1⟩)]) (fun _ _ _ h=>h) (fun _ _=>rfl) (fun _ _ _ h=>h) (fun a _ v hv=>hv.mono h.norm hle)
 ·intro l' k' hl' hH
  by_cases hc:l' = l ∧ k' = j
  ·obtain ⟨rfl,rfl⟩:=hc
   rw [Zf.upd_same] at hH; cases hH
  ·rw [Zf.upd_ne _ _ hc] at hH
   obtain ⟨e1,e2,e3⟩:=h.dom l' k' hl' hH
   exact ⟨e1,e2,fun i=>by simp only [Env.Yy]; rw [if_neg (fun h=>hc ⟨h.1,h.2.1⟩)]; exact e3 i⟩
 ·intro l' k' hg
  by_cases hc:l' = l ∧ k' = j
  ·obtain ⟨rfl,rfl⟩:=hc
   exact absurd d2 hg
  ·rw [Zf.upd_ne _ _ hc]; exact h.nobuf l' k' hg
theorem X3 {H:Zf} {l j:Nat} {b:Zk} (h:H l j = some b):H.upd l j b = H:=by
 funext l' j'
 simp only [Zf.upd]
 split
 ·rename_i hc; rw [hc.1,hc.2,h]
 ·rfl
def Zje (w:World) (e sz n:Nat) (xv:Value) (cs1:List Value):Prop :=
 (n = 0 ∧ cs1 = [] ∧ ∃ a,xv = .slice a 0 0) ∨
 ∃ g cap cur,xv = .slice (some ⟨g,0,none⟩) n cap ∧ w.heap[g]? = some (.cells cur e (0,0)) ∧ n ≤ cap ∧ cap ≤ maxLen ∧ cur.size = cap * sz ∧ cur.toList.take (n * sz) = cs1
theorem Zag {P:Program} {T:TT} (hT:TOK P T) {w:World} {t ty e:TypeId} {r re:ZE} (h1:T t = some r) (h2:r.td = .slice e) (h3:T e = some re) {n c b2 off2 cap2:Nat} {xv:Value} {cs1 cs2:List Value}
  (hcur:Zje w e re.size n xv cs1) (hc:0 < c) (hl2:cs2.length = c * re.size) (hn2:∀ j v,cs2[j]? = some v → w.cell? ⟨b2,off2 + j,none⟩ = some v) (hone:∀ u ∈ cs2,u.oneCell' = true)
  (hml:n + c ≤ maxLen) (hby:(n + c) * re.bytes ≤ 140737488355328) :
  ∃ g' cap cur w',(Builtin.append_ #[t,t] ty #[xv,.slice (some ⟨b2,off2,none⟩) c cap2]).run P w = .ok (.slice (some ⟨g',0,none⟩) (n + c) cap) w' ∧ w'.os = w.os ∧ w'.tape = w.tape ∧ w'.output = w.output ∧ w.drawn ≤ w'.drawn ∧ w.heap.size ≤ w'.heap.size ∧
   (∀ b,b < w.heap.size → b ≠ g' → w'.heap[b]? = w.heap[b]?) ∧ ((∃ cap0,xv = .slice (some ⟨g',0,none⟩) n cap0 ∧ 0 < cap0) ∨ w.heap.size ≤ g') ∧ w'.heap[g']? = some (.cells cur e (0,0)) ∧ n + c ≤ cap ∧ cap ≤ maxLen ∧ cur.size = cap * re.size ∧
   cs1 ++ cs2 = cur.toList.take ((n + c) * re.size):=by
 obtain ⟨d,inf,z,hf⟩:=Zl (hT t r h1)
 obtain ⟨d',i',z',hf'⟩:=Zl (hT e re h3)
 have hd:=Yp (h2 ▸ hf.fits)
 subst hd
 have hu:P.underlying t = some (.slice e):=hf.und
 have hmx:n + c ≤ 9223372036854775807:=by unfold maxLen at hml; omega
 have hl2':cs2.length = c * i'.size:=by rw [hf'.size]; exact hl2
 have hn2':∀ j v,cs2[j]? = some v → w.cell? ((⟨b2,off2,none⟩:Addr).add j) = some v:=fun j v hj=>by rw [Z9]; exact hn2 j v hj
 rcases hcur with ⟨rfl,rfl,ad,rfl⟩ | ⟨g,cap,cur,rfl,q3,q4,q5,q6,q7⟩
 ·simp only [Nat.zero_add] at hmx hml hby ⊢
  have hge:=grownCap_ge w c 0 e
  cases ad with
  | none =>
   have hr1:=run_append_nil (P:=P) w t ty e i' z' hu hf'.info hf'.zero ⟨b2,off2,none⟩ c cap2 cs2 hl2' hn2' hc (by omega) (by rw [hf'.bytes]; omega)
   refine ⟨w.heap.size,grownCap w c 0 e,cs2.toArray ++ Builtin.zeroCells z'.cells (grownCap w c 0 e - c),w.drew.alloc (.cells (cs2.toArray ++ Builtin.zeroCells z'.cells (grownCap w c 0 e - c)) e),hr1,rfl,rfl,rfl,Nat.le_succ _,by simp,fun b hb _=>heap_alloc_old w.drew _ hb,.inr (Nat.le_refl _),heap_alloc_new w.drew _,hge,grownCap_le_maxLen w _ _ _ hml,?_,?_⟩
   ·simp only [Array.size_append,List.size_toArray,size_zeroCells,hl2,hf'.zsize,← Nat.add_mul]
    congr 1; omega
   ·simp only [List.nil_append,Array.toList_append]
    rw [← hl2]; simp
  | some ad =>
   have hb48:Builtin.nextslicecap (0 + c) 0 * i'.bytes ≤ 281474976710656:=growslice_fits (by omega) (by rw [hf'.bytes,Nat.zero_add]; exact hby)
   have hr1:=run_append_grow (P:=P) w t ty e i' z' hu hf'.info hf'.zero ad 0 0 [] (by simp) (by simp) ⟨b2,off2,none⟩ c cap2 cs2 hl2' hn2' (by omega) (by omega) hb48
   simp only [Nat.zero_add] at hr1
   refine ⟨w.heap.size,grownCap w c 0 e,#[] ++ cs2.toArray ++ Builtin.zeroCells z'.cells (grownCap w c 0 e - c),w.drew.alloc (.cells (#[] ++ cs2.toArray ++ Builtin.zeroCells z'.cells (grownCap w c 0 e - c)) e),hr1,rfl,rfl,rfl,Nat.le_succ _,by simp,fun b hb _=>heap_alloc_old w.drew _ hb,.inr (Nat.le_refl _),heap_alloc_new w.drew _,hge,grownCap_le_maxLen w _ _ _ hml,?_,?_⟩
   ·simp only [Array.size_append,List.size_toArray,size_zeroCells,hl2,hf'.zsize,List.length_nil,Nat.zero_add,← Nat.add_mul]
    congr 1; omega
   ·simp only [List.nil_append,Array.toList_append,List.toList_toArray]
    rw [← hl2]; simp
 ·have hle:n * re.size ≤ cap * re.size:=Nat.mul_le_mul_right _ q4
  have hl1:cs1.length = n * re.size:=by rw [← q7,List.length_take]; simp; omega
  have hn1:∀ j v,cs1[j]? = some v → w.cell? ((⟨g,0,none⟩:Addr).add j) = some v:=fun j v hj=>by
   rw [Z9]
   simp only [World.cell?,q3,Nat.zero_add]
   rw [← q7] at hj
   rcases Nat.lt_or_ge j (n * re.size) with h | h
   ·rw [List.getElem?_take_of_lt h] at hj; simpa using hj
   ·rw [List.getElem?_take,if_neg (by omega)] at hj; cases hj
  have hglt:g < w.heap.size:=(Array.getElem?_eq_some_iff.1 q3).1
  by_cases hroom:n + c ≤ cap
  ·have hfit:n * i'.size + cs2.length ≤ cur.size:=by rw [hl2,q6,hf'.size,← Nat.add_mul]; exact Nat.mul_le_mul_right _ hroom
   have hr1:=run_append_room (P:=P) w t ty e i' hu hf'.info g n cap cur q3 ⟨b2,off2,none⟩ c cap2 cs2 hl2' hn2' hone hroom hfit
   rw [hf'.size] at hr1 hfit
   refine ⟨g,cap,_,_,hr1,rfl,rfl,rfl,Nat.le_refl _,by simp [World.setRow],fun b _ hb=>setRow_other w g b _ hb,.inl ⟨cap,rfl,by omega⟩,setRow_heap w g cur _ e (0,0) q3,hroom,q5,?_,?_⟩
   ·simp only [List.size_toArray,List.length_append,List.length_take,List.length_drop,Array.length_toList]
    rw [← q6]; omega
   ·rw [List.toList_toArray,q7]
    rw [show (n + c) * re.size = (cs1 ++ cs2).length by rw [List.length_append,hl1,hl2,Nat.add_mul],List.take_left]
  ·have hb48:Builtin.nextslicecap (n + c) cap * i'.bytes ≤ 281474976710656:=growslice_fits (by omega) (by rw [hf'.bytes]; exact hby)
   have hge:=grownCap_ge w (n + c) cap e
   have hr1:=run_append_grow (P:=P) w t ty e i' z' hu hf'.info hf'.zero ⟨g,0,none⟩ n cap cs1 (by rw [hf'.size]; exact hl1) hn1 ⟨b2,off2,none⟩ c cap2 cs2 hl2' hn2' (by omega) (by omega) hb48
   refine ⟨w.heap.size,grownCap w (n + c) cap e,cs1.toArray ++ cs2.toArray ++ Builtin.zeroCells z'.cells (grownCap w (n + c) cap e - (n + c)),w.drew.alloc (.cells (cs1.toArray ++ cs2.toArray ++ Builtin.zeroCells z'.cells (grownCap w (n + c) cap e - (n + c))) e),hr1,rfl,rfl,rfl,Nat.le_succ _,by simp,fun b hb _=>heap_alloc_old w.drew _ hb,.inr (Nat.le_refl _),heap_alloc_new w.drew _,hge,grownCap_le_maxLen w _ _ _ hml,?_,?_⟩
   ·simp only [Array.size_append,List.size_toArray,size_zeroCells,hl1,hl2,hf'.zsize,← Nat.add_mul]
    congr 1; omega
   ·simp only [Array.toList_append,List.toList_toArray]
    rw [show (n + c) * re.size = (cs1 ++ cs2).length by rw [List.length_append,hl1,hl2,Nat.add_mul],List.take_left]
theorem Vj {P:Program} {T:TT} (hT:TOK P T) {E:Env} {w:World} {t ty e:TypeId} {r re:ZE} (h1:T t = some r) (h2:r.td = .slice e) (h3:T e = some re) {k':Nat} {ow:Own} {xv yv:Value} {n c:Nat} {ad:Option Addr} (hxv:xv = .slice ad n c) (hnc:n ≤ c) (hy:VR E (.sl k' [] ow) yv) :
  (Builtin.append_ #[t,t] ty #[xv,yv]).run P w = .ok xv w:=by
 obtain ⟨d,inf,z,hf⟩:=Zl (hT t r h1)
 obtain ⟨d',i',z',hf'⟩:=Zl (hT e re h3)
 have hd:=Yp (h2 ▸ hf.fits)
 subst hd
 subst hxv
 have hu:P.underlying t = some (.slice e):=hf.und
 rcases hy.WV with ⟨⟨a2,e2,_⟩,_,_⟩ | ⟨b2,off2,cap2,cs2,e2,_,_,_,hc2,_,_⟩ <;> rw [e2]
 ·cases ad <;> cases a2 <;> simp [Builtin.append_,run_underlying hu,sizeOf,typeInfo,hf'.info,Builtin.lenOf,Builtin.firstCells,loadCells,loadCellsFrom,storeCells,hnc]
 ·cases ad <;> simp [Builtin.append_,run_underlying hu,sizeOf,typeInfo,hf'.info,Builtin.lenOf,Builtin.firstCells,loadCells,loadCellsFrom,storeCells,hnc]
section ops
variable {P:Program} {T:TT} {o:Oper} {ρ:Operand → AV}
theorem Wh {a:Act} {t t':TypeId} {x y:Operand} {w w':World} {v:Value} (ho:o.op = .call { callee:=.builtin .append,args:=#[x,y],argTypes:=#[t,t'] })
  (h:(Builtin.append_ #[t,t'] o.type #[a.eval x,a.eval y]).run P w = .ok v w'):(execOp a.eval o).run P w = .ok (.value v) w':=by
 have he:(execOp a.eval o).run P w = ((Builtin.append_ #[t,t'] o.type #[a.eval x,a.eval y]).run P w).andThen fun v w''=>.ok (.value v) w'':=by
  simp [execOp,ho,resolve,invoke,builtin]
 rw [he,h]; rfl
theorem Zci {P:Program} {m:Nat} {H:Zf} {E:Env} {w:World} {S:Sem Value} {xv:Value} {e:TypeId} {sz k l j:Nat} {xs ys:List AV} {cs2:List Value}
  (hr:ZJ m H E w) (hx:VR E (.sl k xs (.buf l j)) xv) (hl:l < m) (hH:H l j = some (.buf e sz xs.length)) (hk:k = sz) (hky:∀ y ∈ ys,y.cells.length = sz) (hvy:VRs E (flat ys) cs2) (hylen:0 < ys.length) (hml:xs.length + ys.length ≤ maxLen)
  (hrunA:∀ cs1,Zje w e sz xs.length xv cs1 → ∃ g' cap cur w',S.run P w = .ok (.slice (some ⟨g',0,none⟩) (xs.length + ys.length) cap) w' ∧ w'.os = w.os ∧ w'.tape = w.tape ∧ w'.output = w.output ∧ w.drawn ≤ w'.drawn ∧ w.heap.size ≤ w'.heap.size ∧
   (∀ b,b < w.heap.size → b ≠ g' → w'.heap[b]? = w.heap[b]?) ∧ ((∃ cap0,xv = .slice (some ⟨g',0,none⟩) xs.length cap0 ∧ 0 < cap0) ∨ w.heap.size ≤ g') ∧ w'.heap[g']? = some (.cells cur e (0,0)) ∧ xs.length + ys.length ≤ cap ∧ cap ≤ maxLen ∧ cur.size = cap * sz ∧
   cs1 ++ cs2 = cur.toList.take ((xs.length + ys.length) * sz)) :
  ∃ cv E' w',S.run P w = .ok cv w' ∧ VR E' (.sl k (xs ++ ys) (.buf l j)) cv ∧ ZJ m (H.upd l j (.buf e sz (xs.length + ys.length))) E' w' ∧ Ext m E w E' w':=by
 subst hk
 have hl2:cs2.length = ys.length * k:=by rw [hvy.1,flat_length hky]
 obtain ⟨⟨v0,hv0,hj0,hr0⟩,hm0⟩:=hr.buf l j e k xs.length hl hH
 have hxs:=hx.WV
 have hxv:xv = v0:=by
  rcases hxs with ⟨⟨a1,e1,_⟩,ex,how⟩ | ⟨_,_,_,_,_,_,_,_,_,_,how⟩
  ·subst ex; have:E.hist l j 0 = some _:=how
   simp only [List.length_nil] at hv0
   rw [hv0] at this; rw [e1] at *; exact (Option.some.inj this).symm
  ·have:E.hist l j xs.length = some xv:=how
   rw [hv0] at this; exact (Option.some.inj this).symm
 subst hxv
 have hcur:∃ cs1,Zje w e k xs.length xv cs1 ∧ VRs E (flat xs) cs1 ∧ (∀ x ∈ xs,x.cells.length = k):=by
  rcases hr0 with ⟨a0,q1,q2,q3⟩ | ⟨g,cap,cur,q1,q2,q3,q4,q5,q6,q7⟩
  ·have ex:xs = []:=List.eq_nil_of_length_eq_zero q2
   subst ex
   exact ⟨[],.inl ⟨rfl,rfl,a0,q1⟩,VRs.nil E,by simp⟩
  ·rcases hxs with ⟨⟨a1,e1,ea1⟩,_,_⟩ | ⟨b1,off1,cap1,cs1,e1,hkx,hvx,hFx,hc1,hm1,how⟩
   ·obtain rfl:=ea1 (by simp); rw [e1] at q1; cases q1
   ·rw [e1] at q1
    simp only [Value.slice.injEq,Option.some.injEq,Addr.mk.injEq,true_and,and_true] at q1
    obtain ⟨⟨rfl,rfl⟩,rfl⟩:=q1
    refine ⟨cs1,.inr ⟨b1,cap1,cur,e1,q3,q4,q5,q6,?_⟩,hvx,hkx⟩
    have hl1:cs1.length = xs.length * k:=by rw [hvx.1,flat_length hkx]
    apply List.ext_getElem?
    intro i
    rcases Nat.lt_or_ge i (xs.length * k) with hi | hi
    ·rw [List.getElem?_take_of_lt hi]
     have hi1:i < cs1.length:=by omega
     have:=hr.F _ _ _ (hFx i _ (List.getElem?_eq_getElem hi1))
     simp only [World.cell?,q3,Nat.zero_add] at this
     rw [List.getElem?_eq_getElem hi1,← this]
     simp
    ·rw [List.getElem?_take,if_neg (by omega),List.getElem?_eq_none (by omega)]
 obtain ⟨cs1,hcur,hvx,hkx⟩:=hcur
 obtain ⟨g',cap,cur,w',hrun,os,tp,out,hdr,size,hold,hg',hnew,hcap,hcml,hcs,hcc⟩:=hrunA cs1 hcur
 have hreuse:w.heap.size ≤ g' ∨ (E.g l j = some g' ∧ (∀ o,xs.length * k ≤ o → E.F g' o = none) ∧ ∃ c0,w.heap[g']? = some (.cells c0 e (0,0)) ∧ c0.toList.take (xs.length * k) = cs1):=by
  rcases hg' with ⟨cap0,hx0,hpos⟩ | hg'
  ·refine .inr ?_
   rcases hr0 with ⟨a0,q1,q2,q3⟩ | ⟨g,cap,cur,q1,q2,q3,q4,q5,q6,q7⟩
   ·rw [hx0] at q1
    simp only [Value.slice.injEq] at q1
    omega
   ·rcases hcur with ⟨_,_,a0,e0⟩ | ⟨g0,cap0',cur0,e0,p3,p4,p5,p6,p7⟩
    ·rw [hx0] at e0; simp only [Value.slice.injEq] at e0; omega
    ·rw [hx0] at q1 e0
     simp only [Value.slice.injEq,Option.some.injEq,Addr.mk.injEq,true_and,and_true] at q1 e0
     obtain ⟨rfl,rfl⟩:=q1
     obtain ⟨rfl,rfl⟩:=e0
     exact ⟨q2,q7,cur0,p3,p7⟩
  ·exact .inl hg'
 have hfree:E.hist l j (xs.length + ys.length) = none:=hj0 _ (by omega)
 have hlen:(xs ++ ys).length = xs.length + ys.length:=List.length_append
 have hcF:∀ o u,(cs1 ++ cs2)[o]? = some u → w'.cell? ⟨g',o,none⟩ = some u:=fun o u hu=>by
  rw [hcc] at hu
  simp only [World.cell?,hnew]
  rcases Nat.lt_or_ge o ((xs.length + ys.length) * k) with h | h
  ·rw [List.getElem?_take_of_lt h] at hu; simpa using hu
  ·rw [List.getElem?_take,if_neg (by omega)] at hu; cases hu
 have hclen:(cs1 ++ cs2).length = (xs.length + ys.length) * k:=by
  rw [List.length_append,hvx.1,flat_length hkx,hl2,Nat.add_mul]
 obtain ⟨hh,hxx⟩:=hr.ZeY (n:=xs.length + ys.length) (v:=.slice (some ⟨g',0,none⟩) (xs.length + ys.length) cap) (nb:=.buf e k (xs.length + ys.length)) (g':=g') hl hm0 hfree rfl (cs1 ++ cs2) os tp out (fun _=>hdr) size hold
  (hreuse.elim .inr (fun h=>.inl h.1)) (Array.getElem?_eq_some_iff.1 hnew).1 hcF (fun o u hu=>by
   rcases hreuse with hn | ⟨_,q7,c0,p3,p7⟩
   ·have:=hr.ZbZ hu; omega
   ·have hlt:o < xs.length * k:=by
     rcases Nat.lt_or_ge o (xs.length * k) with h | h
     ·exact h
     ·rw [q7 o h] at hu; cases hu
    have hc:=hr.F _ _ _ hu
    simp only [World.cell?,p3] at hc
    rw [List.getElem?_append_left (by rw [hvx.1,flat_length hkx]; exact hlt),← p7,List.getElem?_take_of_lt hlt]
    simpa using hc)
  ⟨⟨_,by simp [Env.ZX],fun i hi=>by simp only [Env.ZX]; rw [if_neg (fun h=>by omega)]; exact hj0 i (by omega),.inr ⟨g',cap,cur,rfl,by simp [Env.ZX],hnew,hcap,hcml,hcs,fun o ho=>by
   simp only [Env.ZX,if_true]
   exact List.getElem?_eq_none (by omega)⟩⟩,hm0⟩
 refine ⟨_,_,w',hrun,?_,hh,hxx⟩
 have hkall:∀ x ∈ xs ++ ys,x.cells.length = k:=fun x hx=>by
  rcases List.mem_append.1 hx with h | h
  ·exact hkx x h
  ·exact hky x h
 have hvv:VRs E (flat (xs ++ ys)) (cs1 ++ cs2):=by rw [Zcr]; exact hvx.append hvy
 have:=VR.VJ (E:=E.ZX l j (xs.length + ys.length) (.slice (some ⟨g',0,none⟩) (xs.length + ys.length) cap) g' (cs1 ++ cs2)) (k:=k) (xs:=xs ++ ys) (o:=.buf l j) (b:=g') (off:=0) (cap:=cap) (cs:=cs1 ++ cs2) hkall
  (hvv.mono hr.norm hxx.le) (fun i u hi=>by simp only [Env.ZX,if_true,Nat.zero_add]; exact hi) (by rw [hlen]; exact hcap) (by rw [hlen]; exact hml) (by rw [hlen]; simp [JD,Env.ZX])
 rwa [hlen] at this
theorem ZcO {m:Nat} {H:Zf} {E:Env} {w:World} {xv yv:Value} {t ty e:TypeId} {r re:ZE} {k k' l j:Nat} {xs ys:List AV} {ow:Own} (hT:TOK P T)
  (h1:T t = some r) (h2:r.td = .slice e) (h3:T e = some re) (hsz:0 < re.size) (hr:ZJ m H E w) (hx:VR E (.sl k xs (.buf l j)) xv) (hy:VR E (.sl k' ys ow) yv) (hl:l < m) (hH:H l j = some (.buf e re.size xs.length)) (hk:k = re.size) (hk':ys = [] ∨ k' = re.size)
  (hone:∀ y ∈ ys,∀ c ∈ y.cells,c.one = true) (hml:xs.length + ys.length ≤ maxLen) (hby:(xs.length + ys.length) * re.bytes ≤ 140737488355328) :
  ∃ cv E' w',(Builtin.append_ #[t,t] ty #[xv,yv]).run P w = .ok cv w' ∧ VR E' (.sl k (xs ++ ys) (.buf l j)) cv ∧ ZJ m (H.upd l j (.buf e re.size (xs.length + ys.length))) E' w' ∧ Ext m E w E' w':=by
 subst hk
 obtain ⟨⟨v0,hv0,hj0,hr0⟩,hm0⟩:=hr.buf l j e re.size xs.length hl hH
 have hxs:=hx.WV
 have hxv:xv = v0:=by
  rcases hxs with ⟨⟨a1,e1,_⟩,ex,how⟩ | ⟨_,_,_,_,_,_,_,_,_,_,how⟩
  ·subst ex; have:E.hist l j 0 = some _:=how
   simp only [List.length_nil] at hv0
   rw [hv0] at this; rw [e1] at *; exact (Option.some.inj this).symm
  ·have:E.hist l j xs.length = some xv:=how
   rw [hv0] at this; exact (Option.some.inj this).symm
 subst hxv
 by_cases hy0:ys = []
 ·subst hy0
  refine ⟨xv,E,w,?_,by rw [List.append_nil]; exact hx,by rw [List.length_nil,Nat.add_zero,X3 hH]; exact hr,.refl m E w⟩
  rcases hxs with ⟨⟨a1,e1,_⟩,_,_⟩ | ⟨b,off,cap,cs,e1,_,_,_,hc,_,_⟩
  ·exact Vj hT h1 h2 h3 e1 (Nat.le_refl _) hy
  ·exact Vj hT h1 h2 h3 e1 hc hy
 ·have hk':k' = re.size:=hk'.resolve_left hy0
  subst hk'
  obtain ⟨b2,off2,cap2,cs2,e2,hky,hvy,hl2,hn2,hone2⟩:=Zah hr hy hy0 hone
  have hylen:0 < ys.length:=List.length_pos_iff.2 hy0
  subst e2
  exact Zci hr hx hl hH rfl hky hvy hylen hml fun cs1 hcur=>Zag hT (ty:=ty) h1 h2 h3 hcur hylen hl2 hn2 hone2 hml hby
theorem Zck {m:Nat} {H:Zf} {E:Env} {w:World} {xv yv:Value} {t ty e:TypeId} {r re:ZE} {sz k' l j n:Nat} {cs:List AV} {ys:List AV} {ow:Own} (hT:TOK P T)
  (h1:T t = some r) (h2:r.td = .slice e) (h3:T e = some re) (hsz:0 < re.size) (hr:ZJ m H E w) (hx:VR E (.msl sz l j n) xv) (hy:VR E (.sl k' ys ow) yv) (hl:l < m) (hH:H l j = some (.ZN e re.size cs n)) (hk':ys = [] ∨ k' = re.size)
  (hone:∀ y ∈ ys,∀ c ∈ y.cells,c.one = true) (hml:n + ys.length ≤ maxLen) (hby:(n + ys.length) * re.bytes ≤ 140737488355328) :
  ∃ cv E' w',(Builtin.append_ #[t,t] ty #[xv,yv]).run P w = .ok cv w' ∧ VR E' (.msl sz l j (n + ys.length)) cv ∧ ZJ m (H.upd l j (.ZN e re.size (cs ++ flat ys) (n + ys.length))) E' w' ∧ Ext m E w E' w':=by
 obtain ⟨⟨h0,v0,hv0,hj0,hr0⟩,hm0⟩:=hr.ZN l j e re.size cs n hl hH
 have hxv:xv = v0 ∧ ∃ ad c,xv = .slice ad n c:=by
  cases hx with
  | mnil _ _ _ a hh _=>rw [hv0] at hh; cases hh; exact ⟨rfl,_,_,rfl⟩
  | msl _ _ _ _ g cap hh=>rw [hv0] at hh; cases hh; exact ⟨rfl,_,_,rfl⟩
 obtain ⟨rfl,ad,c0,hxs⟩:=hxv
 by_cases hy0:ys = []
 ·subst hy0
  refine ⟨xv,E,w,Vj hT h1 h2 h3 hxs ?_ hy,by simpa using hx,by simpa [flat,X3 hH] using hr,.refl m E w⟩
  rcases hr0 with ⟨a0,q1,q2,q3⟩ | ⟨g,cap,cur,q1,q2,q3,q4,_⟩
  ·omega
  ·rw [hxs] at q1; cases q1; exact q4
 ·have hk':k' = re.size:=hk'.resolve_left hy0
  subst hk'
  obtain ⟨b2,off2,cap2,cs2,e2,hky,hvy,hl2,hn2,hone2⟩:=Zah hr hy hy0 hone
  have hylen:0 < ys.length:=List.length_pos_iff.2 hy0
  have hcur:∃ cs1,Zje w e re.size n xv cs1 ∧ VRs E cs cs1:=by
   rcases hr0 with ⟨a0,q1,q2,q3⟩ | ⟨g,cap,cur,q1,q2,q3,q4,q5,q6,q7,q8⟩
   ·have:cs = []:=List.eq_nil_of_length_eq_zero (by rw [h0,q2]; simp)
    subst this
    exact ⟨[],.inl ⟨q2,rfl,a0,q1⟩,VRs.nil E⟩
   ·exact ⟨_,.inr ⟨g,cap,cur,q1,q3,q4,q5,q6,rfl⟩,q8⟩
  obtain ⟨cs1,hcur,hvx⟩:=hcur
  subst e2
  obtain ⟨g',cap,cur,w',hrun,os,tp,out,hdr,size,hold,hg',hnew,hcap,hcml,hcs,hcc⟩:=Zag hT (ty:=ty) h1 h2 h3 hcur hylen hl2 hn2 hone2 hml hby
  have hreuse:w.heap.size ≤ g' ∨ (E.g l j = some g' ∧ ∀ o,E.F g' o = none):=by
   rcases hg' with ⟨cap0,hx0,hpos⟩ | hg'
   ·refine .inr ?_
    rcases hr0 with ⟨a0,q1,q2,q3⟩ | ⟨g,cap,cur,q1,q2,q3,q4,q5,q6,q7,q8⟩
    ·rw [hx0] at q1
     simp only [Value.slice.injEq] at q1
     omega
    ·rw [hx0] at q1
     simp only [Value.slice.injEq,Option.some.injEq,Addr.mk.injEq,true_and,and_true] at q1
     obtain ⟨rfl,rfl⟩:=q1
     exact ⟨q2,q7⟩
   ·exact .inl hg'
  have hF0:∀ o,E.F g' o = none:=by
   rcases hreuse with hn | ⟨_,q7⟩
   ·intro o
    cases hf:E.F g' o with
    | none=>rfl
    | some u=>have:=hr.ZbZ hf; omega
   ·exact q7
  have hfree:E.hist l j (n + ys.length) = none:=hj0 _ (by omega)
  have hle:E.le m (E.ZX l j (n + ys.length) (.slice (some ⟨g',0,none⟩) (n + ys.length) cap) g' []):=by
   refine ⟨fun b o v hf=>?_,fun _ _ _ _ hm=>hm,fun l' k' i u _ hi=>?_,rfl⟩
   ·simp only [Env.ZX]
    by_cases hb:b = g'
    ·subst hb; rw [hF0 o] at hf; cases hf
    ·rw [if_neg hb]; exact hf
   ·simp only [Env.ZX]
    rw [if_neg (fun hc=>by rw [hc.1,hc.2.1,hc.2.2,hfree] at hi; cases hi)]; exact hi
  have hflat:(flat ys).length = ys.length * re.size:=flat_length hky
  obtain ⟨hh,hxx⟩:=hr.ZeY (n:=n + ys.length) (v:=.slice (some ⟨g',0,none⟩) (n + ys.length) cap) (nb:=.ZN e re.size (cs ++ flat ys) (n + ys.length)) (g':=g') hl hm0 hfree rfl [] os tp out (fun _=>hdr) size hold
   (hreuse.elim .inr (fun h=>.inl h.1)) (Array.getElem?_eq_some_iff.1 hnew).1 (fun o u hu=>by simp at hu) (fun o u hu=>by rw [hF0 o] at hu; cases hu)
   ⟨⟨by rw [List.length_append,h0,hflat,Nat.add_mul],_,by simp [Env.ZX],fun i hi=>by simp only [Env.ZX]; rw [if_neg (fun h=>by omega)]; exact hj0 i (by omega),.inr ⟨g',cap,cur,rfl,by simp [Env.ZX],hnew,hcap,hcml,hcs,fun o=>by simp [Env.ZX],by
    rw [← hcc]; exact (hvx.append hvy).mono hr.norm hle⟩⟩,hm0⟩
  exact ⟨_,_,w',hrun,.msl sz l j _ g' cap (by simp [Env.ZX]),hh,hxx⟩
theorem ZdP {m:Nat} {H:Zf} {t:TypeId} {x y:Operand} {r re:ZE} {e:TypeId} {k k' l j:Nat} {xs ys:List AV} {ow:Own} (hT:TOK P T)
  (ho:o.op = .call { callee:=.builtin .append,args:=#[x,y],argTypes:=#[t,t] }) (h1:T t = some r) (h2:r.td = .slice e) (h3:T e = some re) (hsz:0 < re.size)
  (hx:ρ x = .sl k xs (.buf l j)) (hy:ρ y = .sl k' ys ow) (hl:l < m) (hH:H l j = some (.buf e re.size xs.length)) (hk:k = re.size) (hk':ys = [] ∨ k' = re.size) (hone:∀ y ∈ ys,∀ c ∈ y.cells,c.one = true)
  (hml:xs.length + ys.length ≤ maxLen) (hby:(xs.length + ys.length) * re.bytes ≤ 140737488355328) :
  Xe P m o ρ H (.sl k (xs ++ ys) (.buf l j)) (H.upd l j (.buf e re.size (xs.length + ys.length))):=fun E w a hr hops=>by
 have hxv:=hops x (by simp [ho,Op.operands,Call.operands])
 have hyv:=hops y (by simp [ho,Op.operands,Call.operands])
 rw [hx] at hxv
 rw [hy] at hyv
 obtain ⟨cv,E',w',a1,a2,a3,a4⟩:=ZcO hT (ty:=o.type) h1 h2 h3 hsz hr hxv hyv hl hH hk hk' hone hml hby
 exact ⟨cv,E',w',.inl (Wh ho a1),a2,a3,a4⟩
theorem ZdA {m:Nat} {H:Zf} {t:TypeId} {x y:Operand} {r re:ZE} {e:TypeId} {sz k' l j n:Nat} {cs ys:List AV} {ow:Own} (hT:TOK P T)
  (ho:o.op = .call { callee:=.builtin .append,args:=#[x,y],argTypes:=#[t,t] }) (h1:T t = some r) (h2:r.td = .slice e) (h3:T e = some re) (hsz:0 < re.size)
  (hx:ρ x = .msl sz l j n) (hy:ρ y = .sl k' ys ow) (hl:l < m) (hH:H l j = some (.ZN e re.size cs n)) (hk':ys = [] ∨ k' = re.size) (hone:∀ y ∈ ys,∀ c ∈ y.cells,c.one = true)
  (hml:n + ys.length ≤ maxLen) (hby:(n + ys.length) * re.bytes ≤ 140737488355328) :
  Xe P m o ρ H (.msl sz l j (n + ys.length)) (H.upd l j (.ZN e re.size (cs ++ flat ys) (n + ys.length))):=fun E w a hr hops=>by
 have hxv:=hops x (by simp [ho,Op.operands,Call.operands])
 have hyv:=hops y (by simp [ho,Op.operands,Call.operands])
 rw [hx] at hxv
 rw [hy] at hyv
 obtain ⟨cv,E',w',a1,a2,a3,a4⟩:=Zck hT (ty:=o.type) h1 h2 h3 hsz hr hxv hyv hl hH hk' hone hml hby
 exact ⟨cv,E',w',.inl (Wh ho a1),a2,a3,a4⟩
theorem JQ {m:Nat} {H:Zf} {t:TypeId} {x y:Operand} {r re:ZE} {e:TypeId} {k k' l j:Nat} {ys:List AV} {ow:Own} (hT:TOK P T)
  (ho:o.op = .call { callee:=.builtin .append,args:=#[x,y],argTypes:=#[t,t] }) (h1:T t = some r) (h2:r.td = .slice e) (h3:T e = some re) (hsz:0 < re.size)
  (hx:ρ x = .sl k [] .full) (hy:ρ y = .sl k' ys ow) (hl:l < m) (hH:H l j = none) (hk':ys = [] ∨ k' = re.size) (hone:∀ y ∈ ys,∀ c ∈ y.cells,c.one = true)
  (hml:ys.length ≤ maxLen) (hby:ys.length * re.bytes ≤ 140737488355328) :
  Xe P m o ρ H (.sl re.size ys (.buf l j)) (H.upd l j (.buf e re.size ys.length)) ∧ Xe P m o ρ H (.msl re.size l j ys.length) (H.upd l j (.ZN e re.size (flat ys) ys.length)):=by
 have upd2:∀ a b,(H.upd l j a).upd l j b = H.upd l j b:=fun a b=>by
  funext l' j'; simp only [Zf.upd]; split <;> rfl
 constructor
 ·intro E w a hr hops
  have hxv:=hops x (by simp [ho,Op.operands,Call.operands])
  have hyv:=hops y (by simp [ho,Op.operands,Call.operands])
  rw [hx] at hxv
  rw [hy] at hyv
  have hval:∃ ad,a.eval x = .slice ad 0 0:=by
   generalize a.eval x = q at hxv
   cases hxv with
   | slnil _ _ a ho ha=>exact ⟨a,rfl⟩
   | sl _ _ _ b off cap c hk hc hv hcap hm ho =>
    have:cap = 0:=ho
    subst this; exact ⟨_,rfl⟩
  obtain ⟨ad,hval⟩:=hval
  obtain ⟨hh,hxx⟩:=hr.adopt hl hH ad e re.size false
  simp only [Bool.false_eq_true,if_false] at hh
  have hx2:VR (E.Yy l j (.slice ad 0 0)) (.sl re.size [] (.buf l j)) (a.eval x):=by
   rw [hval] at hxv ⊢
   cases hxv with
   | slnil _ _ _ ho ha=>exact .slnil _ _ _ (by simp [JD,Env.Yy]) (fun _=>ha (by simp))
   | sl _ _ _ b off cap c hk hc hv hcap hm ho=>exact .sl _ [] _ b off 0 c (fun i h=>absurd h (Nat.not_lt_zero _)) (fun i j h=>absurd h (Nat.not_lt_zero _)) (fun i h=>absurd h (Nat.not_lt_zero _)) (Nat.le_refl _) hm (by simp [JD,Env.Yy])
  obtain ⟨cv,E',w',a1,a2,a3,a4⟩:=ZcO hT (ty:=o.type) (xs:=[]) h1 h2 h3 hsz hh hx2 (hyv.mono hr.norm hxx.le) hl (Zf.upd_same _ _ _ _) rfl hk' hone (by simpa using hml) (by simpa using hby)
  rw [upd2] at a3
  simp only [List.length_nil,Nat.zero_add,List.nil_append] at a2 a3
  exact ⟨cv,E',w',.inl (Wh ho a1),a2,a3,hxx.trans a4⟩
 ·intro E w a hr hops
  have hxv:=hops x (by simp [ho,Op.operands,Call.operands])
  have hyv:=hops y (by simp [ho,Op.operands,Call.operands])
  rw [hx] at hxv
  rw [hy] at hyv
  have hval:∃ ad,a.eval x = .slice ad 0 0 ∧ ∀ x,ad = some x → x.spot = none:=by
   generalize a.eval x = q at hxv
   cases hxv with
   | slnil _ _ a ho ha=>obtain rfl:=ha (by simp); exact ⟨none,rfl,fun _ e=>by cases e⟩
   | sl _ _ _ b off cap c hk hc hv hcap hm ho =>
    have:cap = 0:=ho
    subst this; exact ⟨_,rfl,fun _ e=>by cases e; rfl⟩
  obtain ⟨ad,hval,hsp⟩:=hval
  obtain ⟨hh,hxx⟩:=hr.adopt hl hH ad e re.size true
  simp only [if_true] at hh
  have hx2:VR (E.Yy l j (.slice ad 0 0)) (.msl re.size l j 0) (a.eval x):=by
   rw [hval]; exact .mnil _ _ _ _ (by simp [Env.Yy]) hsp
  obtain ⟨cv,E',w',a1,a2,a3,a4⟩:=Zck hT (ty:=o.type) (n:=0) (cs:=[]) h1 h2 h3 hsz hh hx2 (hyv.mono hr.norm hxx.le) hl (Zf.upd_same _ _ _ _) hk' hone (by simpa using hml) (by simpa using hby)
  rw [upd2] at a3
  simp only [Nat.zero_add,List.nil_append] at a2 a3
  exact ⟨cv,E',w',.inl (Wh ho a1),a2,a3,hxx.trans a4⟩
end ops
theorem ZbC {P:Program} {T:TT} {o:Oper} {ρ:Operand → AV} {m:Nat} {H:Zf} {t:TypeId} {n l j:Nat} {ps:Array (Nat × Operand)} {r re:ZE} {e:TypeId} (hT:TOK P T) (ho:o.op = .buildSlice t n ps) (h1:T t = some r) (h2:r.td = .slice e) (h3:T e = some re)
  (hin:inOrder 0 ps.toList = true) (hn:n = ps.size) (hn0:0 < n) (hsz:0 < re.size) (hsmall:n * re.size ≤ 2 ^ 24) (hk:∀ x ∈ ps.toList.map (fun p=>ρ p.2),x.cells.length = re.size ∧ ∀ c ∈ x.cells,c.one = true) (hl:l < m) (hH:H l j = none) :
  Xe P m o ρ H (.msl re.size l j n) (H.upd l j (.ZN e re.size (flat (ps.toList.map fun p=>ρ p.2)) n)):=fun E w a hr hops=>by
 obtain ⟨d,inf,z,hf⟩:=Zl (hT t r h1)
 obtain ⟨d',i',z',hf'⟩:=Zl (hT e re h3)
 have hd:=Yp (h2 ▸ hf.fits)
 subst hd
 have he:execOp a.eval o = (do let v ← Instr.buildSlice t n (ps.map fun (i,x)=>(i,a.eval x)); pure (Next.value v)):=by simp only [execOp,ho]
 have hm:(ps.map fun (i,x)=>(i,a.eval x)).toList = ps.toList.map fun p=>(p.1,a.eval p.2):=by simp
 have hparts:∀ i (h:i < ps.toList.length) (h':i < (ps.toList.map fun p=>(p.1,a.eval p.2)).length) (h'':i < (ps.toList.map fun p=>ρ p.2).length),
   (ps.toList.map fun p=>(p.1,a.eval p.2))[i].1 = ps.toList[i].1 ∧ VR E (ps.toList.map fun p=>ρ p.2)[i] (ps.toList.map fun p=>(p.1,a.eval p.2))[i].2:=by
  intro i h h' h''
  refine ⟨by simp,?_⟩
  simp only [List.getElem_map]
  exact hops _ (by rw [ho]; simp only [Op.operands,List.mem_toArray,List.mem_map]; exact ⟨ps.toList[i],by simp,rfl⟩)
 have hfill:∀ (cells:List Value),cells.length = n * re.size → ∃ us:List Value,Instr.fill (fun i=>some (i * re.size,re.size)) cells.toArray (ps.toList.map fun p=>(p.1,a.eval p.2)) = some us.toArray ∧
   VRs E (flat (ps.toList.map fun p=>ρ p.2)) us:=by
  intro cells hc
  have:=Ju (E:=E) (k:=re.size) (n:=0) (ps:=ps.toList) (xs:=ps.toList.map fun p=>ρ p.2) (vals:=ps.toList.map fun p=>(p.1,a.eval p.2)) (pre:=[]) (post:=cells) hin (by simp) (by simp) (by simp) (by rw [hc,hn]; simp) hparts hk
  simpa using this
 have hlen:(ps.toList.map fun p=>ρ p.2).length = n:=by simp [hn]
 have hflen:=flat_length (k:=re.size) (xs:=ps.toList.map fun p=>ρ p.2) (fun x hx=>(hk x hx).1)
 have h24:¬ n * re.size > 2 ^ 24:=by omega
 have hml:n ≤ maxLen:=by
  have:n ≤ n * re.size:=Nat.le_mul_of_pos_right n hsz
  unfold maxLen; omega
 have h0:¬ n * re.size = 0:=Nat.ne_of_gt (Nat.mul_pos hn0 hsz)
 obtain ⟨us,hu1,hu2⟩:=hfill ((Array.range (n * re.size)).map (z'.cells[· % z'.cells.size]!)).toList (by simp)
 have hul:us.length = n * re.size:=by rw [hu2.1,hflen,hlen]
 have hrun:(execOp a.eval o).run P w = .ok (.value (.slice (some ⟨w.heap.size,0,none⟩) n n)) (w.alloc (.cells us.toArray e)):=by
  rw [he]
  have:Instr.fill (fun i=>some (i * re.size,re.size)) ((Array.range (n * re.size)).map (z'.cells[· % z'.cells.size]!)) (ps.toList.map fun p=>(p.1,a.eval p.2)) = some us.toArray:=by
   rw [← hu1]
  simp only [Instr.buildSlice,Sem.run_bind,run_underlying hf.und,Result.andThen_ok,ZT hf',if_neg h24,Sem.run_pure,if_neg h0,Yo hf',hm,this]
  simp [newRow,newObj,Sem.run]
 obtain ⟨d1,d2,d3⟩:=hr.dom l j hl hH
 have hF0:∀ o,E.F w.heap.size o = none:=fun o=>by
  cases hq:E.F w.heap.size o with
  | none=>rfl
  | some u=>exact absurd (hr.ZbZ hq) (Nat.lt_irrefl _)
 have hle:E.le m (E.ZX l j n (.slice (some ⟨w.heap.size,0,none⟩) n n) w.heap.size []):=by
  refine ⟨fun b o v hf=>?_,fun _ _ _ _ hm=>hm,fun l' k' i u _ hi=>?_,rfl⟩
  ·simp only [Env.ZX]
   by_cases hb:b = w.heap.size
   ·subst hb; rw [hF0 o] at hf; cases hf
   ·rw [if_neg hb]; exact hf
  ·simp only [Env.ZX]
   rw [if_neg (fun hc=>by rw [hc.1,hc.2.1,hc.2.2,d3] at hi; cases hi)]; exact hi
 have hnew:(w.alloc (.cells us.toArray e)).heap[w.heap.size]? = some (.cells us.toArray e (0,0)):=by simp only [World.alloc,Array.getElem?_push_size]
 obtain ⟨hh,hxx⟩:=hr.ZeY (n:=n) (v:=.slice (some ⟨w.heap.size,0,none⟩) n n) (nb:=.ZN e re.size (flat (ps.toList.map fun p=>ρ p.2)) n) (g':=w.heap.size) (w':=w.alloc (.cells us.toArray e)) hl d1 (d3 n) rfl [] rfl rfl rfl (fun _=>Nat.le_refl _)
  (by simp only [World.alloc,Array.size_push]; omega) (fun b hb _=>by simp only [World.alloc,Array.getElem?_push]; rw [if_neg (by omega)]) (.inr (Nat.le_refl _)) (by simp only [World.alloc,Array.size_push]; omega) (fun o u hu=>by simp at hu) (fun o u hu=>by rw [hF0 o] at hu; cases hu)
  ⟨⟨by rw [hflen,hlen],_,by simp [Env.ZX],fun i hi=>by simp only [Env.ZX]; rw [if_neg (fun h=>by omega)]; exact d3 i,.inr ⟨w.heap.size,n,us.toArray,rfl,by simp [Env.ZX],hnew,Nat.le_refl _,hml,by simp [hul],fun o=>by simp [Env.ZX],by
   have:us.toArray.toList.take (n * re.size) = us:=by rw [List.take_of_length_le (by simp [hul])]
   rw [this]; exact hu2.mono hr.norm hle⟩⟩,d1⟩
 exact ⟨_,_,_,.inl hrun,.msl re.size l j _ w.heap.size n (by simp [Env.ZX]),hh,hxx⟩
end Go.Abs

/- A buffer grows by zero values. No program, no condition. -/
namespace Go.Abs
def zeroV (r:ZE):AV:=if r.isAgg then .agg r.zero else r.zero.getD 0 .dead
section
variable {P:Program}
theorem Zb0 (w:World) (t tx ty e:TypeId) (i:TypeInfo) (z:Value) (ht:P.underlying t = some (.slice e)) (hx:P.underlying tx = some (.int .i64)) (hi:P.info? e = some i) (hz:i.zero = some z)
  (g sLen sCap:Nat) (cur:Array Value) (hg:w.heap[g]? = some (.cells cur e (0,0))) (m:Nat) (hm0:0 < m) (hs0:0 < i.size) (hm:(m:Int) ≤ 9223372036854775807) (h48:(m:Int) * i.bytes ≤ 281474976710656) (news:List Value) (hn:news = (Builtin.zeroCells z.cells m).toList)
  (h1:∀ u ∈ news,u.oneCell' = true) (hroom:sLen + m ≤ sCap) (hfit:sLen * i.size + news.length ≤ cur.size) :
  (Builtin.append_ #[t,tx] ty #[.slice (some ⟨g,0,none⟩) sLen sCap,.int .i64 m]).run P w =
   .ok (.slice (some ⟨g,0,none⟩) (sLen + m) sCap) (w.setRow g (cur.toList.take (sLen * i.size) ++ news ++ cur.toList.drop (sLen * i.size + news.length)).toArray):=by
 have hst:=run_storeCells_at P g (sLen * i.size) e news 0 cur w hg (by simpa using hfit) h1
 simp only [Nat.add_zero] at hst
 have hw:IntKind.i64.wrap (m:Int) = m:=IntWalk.i64_in _ (by omega)
 have hl0:¬ ((m:Int) < 0):=by omega
 have hb:¬ (281474976710656 < (m:Int) * i.bytes):=by omega
 have hms:¬ (m * i.size = 0):=Nat.ne_of_gt (Nat.mul_pos hm0 hs0)
 subst hn
 simp only [Builtin.append_,run_underlying ht,run_underlying hx,asInt,asIntOf,sizeOf,typeInfo,zeroValue,hi,hz,hw,hl0,hb,hroom,hms,Addr.add_lit,hst,Sem.run_bind,Sem.run_pure,Result.andThen_ok,if_true,if_false]
 simp [hi,hz,hw,hl0,hb,hroom,Addr.add_lit,run_underlying ht,run_underlying hx,typeInfo]
 rw [if_neg (by simpa [Nat.mul_eq_zero] using hms)]
 rw [hst]
 simp
theorem Jk (w:World) (t tx ty e:TypeId) (i:TypeInfo) (z:Value) (ht:P.underlying t = some (.slice e)) (hx:P.underlying tx = some (.int .i64)) (hi:P.info? e = some i) (hz:i.zero = some z)
  (base:Option Addr) (sLen sCap:Nat) (olds:List Value) (hold:(Builtin.firstCells i.size sLen (.slice base sLen sCap)).run P w.drew = .ok olds.toArray w.drew)
  (m:Nat) (hm0:0 < m) (hs0:0 < i.size) (hm:(m:Int) ≤ 9223372036854775807) (h48:(m:Int) * i.bytes ≤ 281474976710656) (news:List Value) (hn:news = (Builtin.zeroCells z.cells m).toList)
  (hg:sCap < sLen + m) (h63:((sLen + m:Nat):Int) ≤ 9223372036854775807) (hfit:Builtin.nextslicecap (sLen + m) sCap * i.bytes ≤ 281474976710656) :
  (Builtin.append_ #[t,tx] ty #[.slice base sLen sCap,.int .i64 m]).run P w =
   .ok (.slice (some ⟨w.heap.size,0,none⟩) (sLen + m) (grownCap w (sLen + m) sCap e))
    (w.drew.alloc (.cells ((olds ++ news).toArray ++ Builtin.zeroCells z.cells (grownCap w (sLen + m) sCap e - (sLen + m))) e)):=by
 have hw:IntKind.i64.wrap (m:Int) = m:=IntWalk.i64_in _ (by omega)
 have hl0:¬ ((m:Int) < 0):=by omega
 have hb:¬ (281474976710656 < (m:Int) * i.bytes):=by omega
 have hms:¬ (m * i.size = 0):=Nat.ne_of_gt (Nat.mul_pos hm0 hs0)
 have hms':¬ (m = 0 ∨ i.size = 0):=by omega
 have hnn:¬ (sLen + m ≤ sCap):=by omega
 have h63':¬ (9223372036854775807 < ((sLen:Int) + (m:Int))):=by omega
 have h48':¬ (281474976710656 < Builtin.nextslicecap (sLen + m) sCap * i.bytes):=by omega
 subst hn
 simp [Builtin.append_,run_underlying ht,run_underlying hx,asInt,asIntOf,sizeOf,typeInfo,zeroValue,hi,hz,hw,hl0,hb,hnn,hms',h63',h48',Question.forced,hold,newRow,grownCap]
 rw [if_neg hms]
 congr 3
 apply Array.ext'
 simp [List.append_assoc]
theorem Zc4 (z:Array Value) (n:Nat) (h:0 < z.size):(Builtin.zeroCells z (n + 1)).toList = z.toList ++ (Builtin.zeroCells z n).toList:=by
 apply List.ext_getElem
 ·simp [Builtin.zeroCells,Nat.add_mul]; omega
 intro i h1 h2
 simp only [Builtin.zeroCells,Array.toList_map,Array.toList_range,List.getElem_map,List.getElem_range,List.getElem_append,Array.length_toList]
 split
 ·rename_i hi
  rw [Nat.mod_eq_of_lt hi]
  simp [hi]
 ·rename_i hi
  rw [Nat.mod_eq_sub_mod (by omega)]
theorem ZaF (v:AV) (n:Nat):flat (List.replicate (n + 1) v) = v.cells ++ flat (List.replicate n v):=by rw [List.replicate_succ,Xq]
theorem ZfF {E:Env} {v:AV} {z:Array Value} (h:VRs E v.cells z.toList) (hz:0 < z.size):∀ n,VRs E (flat (List.replicate n v)) (Builtin.zeroCells z n).toList
 | 0=>by simp [Builtin.zeroCells,flat]; exact VRs.nil E
 | n + 1=>by rw [ZaF,Zc4 z n hz]; exact h.append (ZfF h hz n)
theorem ZcA {T:TT} (hT:TOK P T) {w:World} {t tx ty e:TypeId} {r re rx:ZE} (h1:T t = some r) (h2:r.td = .slice e) (h3:T e = some re) (h4:T tx = some rx) (h5:rx.td = .int .i64) (hsz:0 < re.size) {n c:Nat} {xv:Value} {cs1:List Value}
  (hcur:Zje w e re.size n xv cs1) (hc:0 < c) (hml:n + c ≤ maxLen) (hby:(n + c) * re.bytes ≤ 140737488355328) (z:Value) (hz:∀ d i z',WX P e re d i z' → z' = z) (hone:∀ u ∈ (Builtin.zeroCells z.cells c).toList,u.oneCell' = true) :
  ∃ g' cap cur w',(Builtin.append_ #[t,tx] ty #[xv,.int .i64 c]).run P w = .ok (.slice (some ⟨g',0,none⟩) (n + c) cap) w' ∧ w'.os = w.os ∧ w'.tape = w.tape ∧ w'.output = w.output ∧ w.drawn ≤ w'.drawn ∧ w.heap.size ≤ w'.heap.size ∧
   (∀ b,b < w.heap.size → b ≠ g' → w'.heap[b]? = w.heap[b]?) ∧ ((∃ cap0,xv = .slice (some ⟨g',0,none⟩) n cap0 ∧ 0 < cap0) ∨ w.heap.size ≤ g') ∧ w'.heap[g']? = some (.cells cur e (0,0)) ∧ n + c ≤ cap ∧ cap ≤ maxLen ∧ cur.size = cap * re.size ∧
   cs1 ++ (Builtin.zeroCells z.cells c).toList = cur.toList.take ((n + c) * re.size):=by
 obtain ⟨d,inf,z0,hf⟩:=Zl (hT t r h1)
 obtain ⟨d',i',z',hf'⟩:=Zl (hT e re h3)
 obtain ⟨dx,ix,zx,hfx⟩:=Zl (hT tx rx h4)
 obtain rfl:=hz _ _ _ hf'
 have hd:=Yp (h2 ▸ hf.fits)
 subst hd
 have hdx:=J6 (h5 ▸ hfx.fits)
 subst hdx
 have hu:P.underlying t = some (.slice e):=hf.und
 have hux:P.underlying tx = some (.int .i64):=hfx.und
 have hmx:n + c ≤ 9223372036854775807:=by unfold maxLen at hml; omega
 have hs0:0 < i'.size:=by rw [hf'.size]; exact hsz
 have hcb:(c:Int) * i'.bytes ≤ 281474976710656:=by
  have:c * re.bytes ≤ (n + c) * re.bytes:=Nat.mul_le_mul_right _ (by omega)
  rw [hf'.bytes]
  have h:((c * re.bytes:Nat):Int) ≤ 140737488355328:=by omega
  rw [Int.natCast_mul] at h; omega
 have hl2:(Builtin.zeroCells z'.cells c).toList.length = c * re.size:=by rw [Array.length_toList,size_zeroCells,hf'.zsize]
 generalize hcs2:(Builtin.zeroCells z'.cells c).toList = cs2 at *
 rcases hcur with ⟨rfl,rfl,ad,rfl⟩ | ⟨g,cap,cur,rfl,q3,q4,q5,q6,q7⟩
 ·simp only [Nat.zero_add] at hmx hml hby ⊢
  have hge:=grownCap_ge w c 0 e
  have hb48:Builtin.nextslicecap (0 + c) 0 * i'.bytes ≤ 281474976710656:=growslice_fits (by omega) (by rw [hf'.bytes,Nat.zero_add]; exact hby)
  have hr1:=Jk (P:=P) w t tx ty e i' z' hu hux hf'.info hf'.zero ad 0 0 [] (by cases ad <;> simp [Builtin.firstCells,loadCells,loadCellsFrom]) c hc hs0 (by omega) hcb cs2 hcs2.symm (by omega) (by omega) hb48
  simp only [Nat.zero_add,List.nil_append] at hr1
  refine ⟨w.heap.size,grownCap w c 0 e,cs2.toArray ++ Builtin.zeroCells z'.cells (grownCap w c 0 e - c),w.drew.alloc (.cells (cs2.toArray ++ Builtin.zeroCells z'.cells (grownCap w c 0 e - c)) e),hr1,rfl,rfl,rfl,Nat.le_succ _,by simp,fun b hb _=>heap_alloc_old w.drew _ hb,.inr (Nat.le_refl _),heap_alloc_new w.drew _,hge,grownCap_le_maxLen w _ _ _ hml,?_,?_⟩
  ·simp only [Array.size_append,List.size_toArray,size_zeroCells,hl2,hf'.zsize,← Nat.add_mul]
   congr 1; omega
  ·simp only [List.nil_append,Array.toList_append]
   rw [← hl2]; simp
 ·have hle:n * re.size ≤ cap * re.size:=Nat.mul_le_mul_right _ q4
  have hl1:cs1.length = n * re.size:=by rw [← q7,List.length_take]; simp; omega
  have hn1:∀ j v,cs1[j]? = some v → w.cell? ((⟨g,0,none⟩:Addr).add j) = some v:=fun j v hj=>by
   rw [Z9]
   simp only [World.cell?,q3,Nat.zero_add]
   rw [← q7] at hj
   rcases Nat.lt_or_ge j (n * re.size) with h | h
   ·rw [List.getElem?_take_of_lt h] at hj; simpa using hj
   ·rw [List.getElem?_take,if_neg (by omega)] at hj; cases hj
  have hglt:g < w.heap.size:=(Array.getElem?_eq_some_iff.1 q3).1
  by_cases hroom:n + c ≤ cap
  ·have hfit:n * i'.size + cs2.length ≤ cur.size:=by rw [hl2,q6,hf'.size,← Nat.add_mul]; exact Nat.mul_le_mul_right _ hroom
   have hr1:=Zb0 (P:=P) w t tx ty e i' z' hu hux hf'.info hf'.zero g n cap cur q3 c hc hs0 (by omega) hcb cs2 hcs2.symm hone hroom hfit
   rw [hf'.size] at hr1 hfit
   refine ⟨g,cap,_,_,hr1,rfl,rfl,rfl,Nat.le_refl _,by simp [World.setRow],fun b _ hb=>setRow_other w g b _ hb,.inl ⟨cap,rfl,by omega⟩,setRow_heap w g cur _ e (0,0) q3,hroom,q5,?_,?_⟩
   ·simp only [List.size_toArray,List.length_append,List.length_take,List.length_drop,Array.length_toList]
    rw [← q6]; omega
   ·rw [List.toList_toArray,q7]
    rw [show (n + c) * re.size = (cs1 ++ cs2).length by rw [List.length_append,hl1,hl2,Nat.add_mul],List.take_left]
  ·have hb48:Builtin.nextslicecap (n + c) cap * i'.bytes ≤ 281474976710656:=growslice_fits (by omega) (by rw [hf'.bytes]; exact hby)
   have hge:=grownCap_ge w (n + c) cap e
   have hfo:=run_firstCells_some (P:=P) w.drew i'.size n ⟨g,0,none⟩ n cap cs1 (by rw [hf'.size]; exact hl1) (by simpa using hn1)
   have hr1:=Jk (P:=P) w t tx ty e i' z' hu hux hf'.info hf'.zero (some ⟨g,0,none⟩) n cap cs1 hfo c hc hs0 (by omega) hcb cs2 hcs2.symm (by omega) (by omega) hb48
   refine ⟨w.heap.size,grownCap w (n + c) cap e,(cs1 ++ cs2).toArray ++ Builtin.zeroCells z'.cells (grownCap w (n + c) cap e - (n + c)),w.drew.alloc (.cells ((cs1 ++ cs2).toArray ++ Builtin.zeroCells z'.cells (grownCap w (n + c) cap e - (n + c))) e),hr1,rfl,rfl,rfl,Nat.le_succ _,by simp,fun b hb _=>heap_alloc_old w.drew _ hb,.inr (Nat.le_refl _),heap_alloc_new w.drew _,hge,grownCap_le_maxLen w _ _ _ hml,?_,?_⟩
   ·simp only [Array.size_append,List.size_toArray,size_zeroCells,hl1,hl2,hf'.zsize,← Nat.add_mul,List.length_append]
    congr 1; omega
   ·simp only [Array.toList_append,List.toList_toArray]
    rw [show (n + c) * re.size = (cs1 ++ cs2).length by rw [List.length_append,hl1,hl2,Nat.add_mul],List.take_left]
end
section ops
variable {P:Program} {T:TT} {o:Oper} {ρ:Operand → AV}
theorem Zdh {m:Nat} {H:Zf} {t tx:TypeId} {x y:Operand} {r re rx:ZE} {e:TypeId} {k l j c:Nat} {xs:List AV} (hT:TOK P T)
  (ho:o.op = .call { callee:=.builtin .append,args:=#[x,y],argTypes:=#[t,tx] }) (h1:T t = some r) (h2:r.td = .slice e) (h3:T e = some re) (h4:T tx = some rx) (h5:rx.td = .int .i64) (hsz:0 < re.size)
  (hx:ρ x = .sl k xs (.buf l j)) (hy:ρ y = .int .i64 c) (hl:l < m) (hH:H l j = some (.buf e re.size xs.length)) (hk:k = re.size) (hzc:(zeroV re).cells = re.zero)
  (hml:xs.length + c ≤ maxLen) (hby:(xs.length + c) * re.bytes ≤ 140737488355328) :
  Xe P m o ρ H (.sl k (xs ++ List.replicate c (zeroV re)) (.buf l j)) (H.upd l j (.buf e re.size (xs.length + c))):=fun E w a hr hops=>by
 have hxv:=hops x (by simp [ho,Op.operands,Call.operands])
 have hyv:=hops y (by simp [ho,Op.operands,Call.operands])
 rw [hx] at hxv
 rw [hy] at hyv
 have hyv:a.eval y = .int .i64 c:=by
  generalize a.eval y = q at hyv
  cases hyv; rfl
 obtain ⟨d',i',z',hf'⟩:=Zl (hT e re h3)
 rcases Nat.eq_zero_or_pos c with rfl | hc
 ·refine ⟨a.eval x,E,w,.inl (Wh ho ?_),by simpa using hxv,by rw [Nat.add_zero,X3 hH]; exact hr,.refl m E w⟩
  rw [hyv]
  obtain ⟨d,inf,z0,hf⟩:=Zl (hT t r h1)
  obtain ⟨dx,ix,zx,hfx⟩:=Zl (hT tx rx h4)
  have hd:=Yp (h2 ▸ hf.fits)
  subst hd
  have hdx:=J6 (h5 ▸ hfx.fits)
  subst hdx
  have hu:P.underlying t = some (.slice e):=hf.und
  have hux:P.underlying tx = some (.int .i64):=hfx.und
  have hw0:IntKind.i64.wrap 0 = 0:=rfl
  rcases hxv.WV with ⟨⟨ad,e1,_⟩,_,_⟩ | ⟨b,off,cap,cs,e1,_,_,_,hcc,_,_⟩ <;> rw [e1]
  ·cases ad <;> simp [Builtin.append_,run_underlying hu,run_underlying hux,asInt,asIntOf,sizeOf,typeInfo,hf'.info,storeCells,hw0]
  ·simp [Builtin.append_,run_underlying hu,run_underlying hux,asInt,asIntOf,sizeOf,typeInfo,hf'.info,storeCells,hw0,hcc]
 ·have hv0:VRs E (zeroV re).cells z'.cells.toList:=by rw [hzc]; exact X9 hf'.zfits
  have hvz:=ZfF hv0 (by rw [hf'.zsize]; exact hsz) c
  have hcl:(zeroV re).cells.length = re.size:=by rw [hv0.1.symm,Array.length_toList,hf'.zsize]
  have hone:∀ u ∈ (Builtin.zeroCells z'.cells c).toList,u.oneCell' = true:=fun u hu=>by
   obtain ⟨i,hi,rfl⟩:=List.getElem_of_mem hu
   have hi':i < (flat (List.replicate c (zeroV re))).length:=by rw [← hvz.1]; exact hi
   refine (hvz.2 i hi' hi).one ?_
   have hmem:(flat (List.replicate c (zeroV re)))[i] ∈ flat (List.replicate c (zeroV re)):=List.getElem_mem hi'
   simp only [flat,List.mem_flatMap] at hmem
   obtain ⟨y',hy',hc'⟩:=hmem
   rw [(List.mem_replicate.1 hy').2,hzc] at hc'
   exact fitsAll_one hf'.zfits _ hc'
  have hlr:(List.replicate c (zeroV re)).length = c:=List.length_replicate
  obtain ⟨cv,E',w',a1,a2,a3,a4⟩:=Zci (P:=P) (S:=Builtin.append_ #[t,tx] o.type #[a.eval x,.int .i64 c]) (ys:=List.replicate c (zeroV re)) hr hxv hl hH hk (fun y hy=>by rw [(List.mem_replicate.1 hy).2]; exact hcl) hvz (by rw [hlr]; exact hc) (by rw [hlr]; exact hml)
   (fun cs1 hcur=>by
    rw [hlr]
    exact ZcA hT h1 h2 h3 h4 h5 hsz hcur hc hml hby z' (fun d1 i1 z1 hf1=>by have e1:=hf1.info.symm.trans hf'.info; cases e1; have e2:=hf1.zero.symm.trans hf'.zero; cases e2; rfl) hone)
  rw [hlr] at a3
  exact ⟨cv,E',w',.inl (Wh ho (by rw [hyv]; exact a1)),a2,a3,a4⟩
end ops
end Go.Abs
