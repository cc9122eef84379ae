/- Names; each with pure functions; the table's literals. -/
import Derived.Test.YthgbkalgmicniaaGreatDoorM12
import Derived.Test.YthgbkalgmicniaaGreatDoorM10
import Derived.Shelf.SlSortCmp.NoneTotal
import Derived.Shelf.SlSortCmp.Whole1
import Derived.Shelf.Slices.CompactI
import Derived.Test.YthgbkalgmicniaaGreatDoorM08
import Derived.Lib.Bytealg
set_option linter.all false
namespace Go.Proofs.YthgbkalgmicniaaGreatDoor
open Go.Abs
set_option maxRecDepth 100000
theorem m108 (l:List (Tm)) (hl:l.length ≤ 1000000) (f:Nat) (caps:List AV) (g:Tm → Str) (hp:MapF f caps Tm.enc eStr l g):PureT Tryz.prog 108 [.sl 4 (l.map Tm.enc) .any,.fn (.func f) caps] (.sl 1 ((l.map g).map eStr) .any):=by
 intro n H hn hT
 obtain ⟨⟨fn,c,hf⟩,hp,hbl⟩:=hp
 have h:=e108 n l hl f caps fn c hf (l.map g) (by simp) (fun _=>H) (Below.fn _ _ fun i hi=>(hbl n).mem _ (List.getElem_mem hi)) (below_tms l)
  (fun i h L=>ACalls.mono (hp l[i] (List.getElem_mem h) (n + 1) (full n L H) (Nat.succ_pos _) (hT.full hn)) (by rintro r H1 ⟨rfl,rfl⟩; exact ⟨by simp,rfl⟩)) (fun _ _=>.refl _ _)
 exact h
theorem m114 (l:List (GL)) (hl:l.length ≤ 1000000) (f:Nat) (caps:List AV) (g:GL → Am) (hp:MapF f caps GL.enc Am.enc l g):PureT Tryz.prog 114 [.sl 3 (l.map GL.enc) .any,.fn (.func f) caps] (.sl 2 ((l.map g).map Am.enc) .any):=by
 intro n H hn hT
 obtain ⟨⟨fn,c,hf⟩,hp,hbl⟩:=hp
 have h:=e114 n l hl f caps fn c hf (l.map g) (by simp) (fun _=>H) (Below.fn _ _ fun i hi=>(hbl n).mem _ (List.getElem_mem hi)) (below_gls l)
  (fun i h L=>ACalls.mono (hp l[i] (List.getElem_mem h) (n + 1) (full n L H) (Nat.succ_pos _) (hT.full hn)) (by rintro r H1 ⟨rfl,rfl⟩; exact ⟨by simp,rfl⟩)) (fun _ _=>.refl _ _)
 exact h
def txts (l:List Tm):List UInt8:=Lib.join (l.map txt) [44]
def GoodTs (l:List Tm):Prop:=Tm.sz.szs l ≤ 999999 ∧ ∀ t ∈ l,Tm.Nm t
theorem GoodTs.arg {l:List Tm} (h:GoodTs l) {t:Tm} (ht:t ∈ l):t.Good:=⟨by have:=Tm.sz_mem ht; have:=h.1; omega,h.2 t ht⟩
theorem GoodTs.len {l:List Tm} (h:GoodTs l):l.length ≤ 999999:=by have:=Tm.sz_len l; have:=h.1; omega
theorem Am_goodTs {a:Am} (h:a.Good):GoodTs a.args:=⟨by have:=h.sz; simp only [Am.sz] at this; omega,h.nm⟩
theorem txts_le {l:List Tm} (h:GoodTs l) (hv:l.all valueT = true):(txts l).length ≤ 61000000:=by
 have h1:=join_len l (fun t ht=>value_okv (List.all_eq_true.1 hv t ht))
 have h2:=h.len
 have h3:=h.1
 unfold txts; omega
theorem a60 (l:List Tm) (h:GoodTs l) (hv:l.all valueT = true):PureT Tryz.prog 60 [.sl 4 (l.map Tm.enc) .any] (.str (txts l)):=by
 intro n H hn hT
 have h0:=h.len
 have h5:=txts_le h hv
 refine a_fun tok (fun_of Tryz.func60 rfl rfl) (by simp) fun B=>?_
 repeat refine kn rfl ?_
 refine k_region tok rfl (by kernel_rfl) ?_
 simp only [go_sem,simprocAttr]
 repeat refine kn rfl ?_
 refine k_region tok rfl (by kernel_rfl) ?_
 simp only [go_sem,simprocAttr]
 refine callT (fun_of Tryz.func108 rfl rfl) (m108 l (by omega) _ [] txt (map58 l (fun t ht=>h.arg ht) hv)) hn hT (by simp only [go_sem,simprocAttr]) ?_
 simp only [go_sem,simprocAttr]
 have:=a92 (l.map txt) [44] .any (by simp; omega) (by unfold txts at h5; omega)
 refine callT (fun_of Tryz.func107 rfl rfl) (this) hn hT (by simp only [go_sem,simprocAttr]) ?_
 simp only [go_sem,simprocAttr]
 repeat refine kn rfl ?_
 refine k_ret rfl ?_
 refine post_one ?_ (.str _) rfl
 try simp only [go_sem,simprocAttr,txts]
 exact .refl _
def nameA (a:Am):List UInt8:=if validA a = true then (if a.args.length = 0 then a.pred else atxt a) else []
theorem a17n (a:Am) (ha:a.Good):PureT Tryz.prog 17 [a.enc] (.str (nameA a)):=by
 intro n H hn hT
 refine a_fun tok (fun_of Tryz.func17 rfl rfl) (by simp) fun B=>?_
 repeat refine kn rfl ?_
 refine k_region tok rfl (by kernel_rfl) ?_
 simp only [go_sem,simprocAttr]
 repeat refine kn rfl ?_
 refine k_region tok rfl (by kernel_rfl) ?_
 simp only [go_sem,simprocAttr]
 refine callT (fun_of Tryz.func48 rfl rfl) (a14 a ha) hn hT (by simp only [go_sem,simprocAttr]) ?_
 simp only [go_sem,simprocAttr]
 cases h1:validA a with
 | false =>
  simp only [go_sem,simprocAttr]
  repeat refine kn rfl ?_
  refine k_cond_t rfl (by simp only [go_sem,simprocAttr]) ?_
  repeat refine kn rfl ?_
  refine k_region tok rfl (by kernel_rfl) ?_
  simp only [go_sem,simprocAttr]
  repeat refine kn rfl ?_
  refine k_ret rfl ?_
  refine post_one ?_ (.str _) rfl
  simp only [go_sem,simprocAttr,nameA,h1,Bool.false_eq_true,if_false]
  exact .refl _
 | true =>
  simp only [go_sem,simprocAttr]
  repeat refine kn rfl ?_
  refine k_cond_f rfl (by simp only [go_sem,simprocAttr]) ?_
  obtain ⟨v1,v2,v3⟩:=validA_cases h1
  have v4:=sym_len v1
  have v5:=txts_le (Am_goodTs ha) v3
  repeat refine kn rfl ?_
  refine k_region tok rfl (by kernel_rfl) ?_
  simp only [go_sem,simprocAttr]
  by_cases h2:a.args.length = 0
  ·repeat refine kn rfl ?_
   refine k_cond_t rfl (by simp only [go_sem,simprocAttr,h2]) ?_
   repeat refine kn rfl ?_
   refine k_region tok rfl (by kernel_rfl) ?_
   simp only [go_sem,simprocAttr]
   repeat refine kn rfl ?_
   refine k_ret rfl ?_
   refine post_one ?_ (.str _) rfl
   simp only [go_sem,simprocAttr,nameA,h1,h2,if_true]
   exact .refl _
  ·have h3:((a.args.length:Int) == 0) = false:=by rw [beq_eq_false_iff_ne]; omega
   repeat refine kn rfl ?_
   refine k_cond_f rfl (by simp only [go_sem,simprocAttr,h3]) ?_
   repeat refine kn rfl ?_
   refine k_draw tok mixed drawO rfl rfl (by kernel_rfl) (by kernel_rfl) ?_
   simp only [go_sem,simprocAttr]
   refine ⟨by omega,?_⟩
   refine callT (fun_of Tryz.func60 rfl rfl) (a60 a.args (Am_goodTs ha) v3) hn hT (by simp only [go_sem,simprocAttr]) ?_
   simp only [go_sem,simprocAttr]
   refine ⟨by simp only [List.length_append,List.length_cons,List.length_nil]; omega,by simp only [List.length_append,List.length_cons,List.length_nil]; omega,?_⟩
   repeat refine kn rfl ?_
   refine k_ret rfl ?_
   refine post_one ?_ (.str _) rfl
   simp only [go_sem,simprocAttr,nameA,h1,h2,if_true,if_false,atxt,txts]
   exact .refl _
end Go.Proofs.YthgbkalgmicniaaGreatDoor

/- The library's sort of a slice that may be written, as the layer says it. -/
namespace Go.Abs
open Go.Proofs Go.Shelf Go.Sort
def bare (E:Env):Env:={ F:=E.F,m:=fun _ _=>none,hist:=fun _ _ _=>none,g:=fun _ _=>none,qd:=true }
theorem VR.qdset {E:Env} (q:Bool) {a:AV} {v:Value} (hv:VR E a v):VR { E with qd:=q } a v:=by
 induction hv with
 | int k n=>exact .int k n
 | bool b=>exact .bool b
 | str l=>exact .str l
 | nilp=>exact .nilp
 | ptr l k off b hm=>exact .ptr l k off b hm
 | iptr cs b off c hc _ ih=>exact .iptr cs b off c hc ih
 | slnil k o a ho ha=>exact .slnil k o a (by cases o <;> exact ho) ha
 | sl k xs o b off cap c hk hc _ hcap hm ho ih=>exact .sl k xs o b off cap c hk hc ih hcap hm (by cases o <;> exact ho)
 | nilf=>exact .nilf
 | fn f caps vs hl _ ih=>exact .fn f caps vs hl ih
 | bfn f caps vs hl _ ih=>exact .bfn f caps vs hl ih
 | nilm=>exact .nilm
 | map l k b hm=>exact .map l k b hm
 | mnil sz l k a hh ha=>exact .mnil sz l k a hh ha
 | msl sz l k n g cap hh=>exact .msl sz l k n g cap hh
 | eptr l k n off g cap hh=>exact .eptr l k n off g cap hh
 | ssl k xs ys b off cap c hk hc _ hcap hm ih=>exact .ssl k xs ys b off cap c hk hc ih hcap hm
 | nili=>exact .nili
 | nils=>exact .nils
 | sln k a cap hc=>exact .sln k a cap hc
 | sub sz l k n off m g cap hh hm=>exact .sub sz l k n off m g cap hh hm
 | ifc t a v _ ih=>exact .ifc t a v ih
 | agg cs vs hl _ ih=>exact .agg cs vs hl ih
 | tup cs vs hl _ ih=>exact .tup cs vs hl ih
 | dead v=>exact .dead v
theorem bare_eq (E:Env):bare E = { (E.cut 0) with qd:=true }:=by
 simp [bare,Env.cut]
theorem VR.bare {E:Env} {a:AV} {v:Value} (hv:VR E a v) (hb:Below 0 a):VR (bare E) a v:=by
 rw [bare_eq]; exact (hv.cut hb).qdset true
theorem hrel_bare {E:Env} {w:World} (hF:∀ b o v,E.F b o = some v → w.cell? ⟨b,o,none⟩ = some v):HRel 0 (fun _ _=>none) (bare E) w where
 norm:=⟨fun _ _ _=>rfl,fun _ _ _=>rfl,fun _ _ _ _=>rfl⟩
 F:=hF
 blk l k b hl _:=absurd hl (Nat.not_lt_zero _)
 dom l k hl _:=absurd hl (Nat.not_lt_zero _)
 nobuf l k h:=absurd rfl h
 inj l k l' k' b h:=by cases h
 injg l k l' k' b h:=by cases h
 mg l k l' k' b h:=by cases h
 mF l k b o h:=by cases h
 lt b h:=by rcases h with ⟨_,_,h⟩ | ⟨_,_,h⟩ <;> cases h
theorem calls_bare {P:Program} {g:FuncId} {args:List AV} {r:AV} {E:Env} {w:World} {vs:List Value} (h:Pure P g args r) (hv:VRs E args vs) (hb:∀ a ∈ args,Below 0 a)
  (hF:∀ b o v,E.F b o = some v → w.cell? ⟨b,o,none⟩ = some v):Calls P g vs.toArray w fun e w'=>(∃ v E',e = .returned v ∧ VR E' r v) ∧ ∃ q os,w' = grow (w.drewN q) os:=by
 have hv':VRs (bare E) args vs:=⟨hv.1,fun i h1 h2=>(hv.2 i h1 h2).bare (hb _ (List.getElem_mem h1))⟩
 refine (h 0 _ (bare E) w vs (hrel_bare hF) hv').mono ?_
 rintro e w' ⟨r',v,H',E',rfl,⟨rfl,_⟩,h1,h2,hx⟩
 refine ⟨⟨v,E',rfl,h1⟩,w'.drawn - w.drawn,w'.heap.extract w.heap.size w'.heap.size,?_⟩
 obtain ⟨heap,tape,drawn,os,output⟩:=w'
 have e1:=hx.os; have e2:=hx.tape; have e3:=hx.output; have e4:=hx.drawn rfl; have e5:=hx.size; have e6:=hx.block
 simp only at e1 e2 e3 e4 e5 e6
 subst e1 e2 e3
 have e7:heap = w.heap ++ heap.extract w.heap.size heap.size:=by
  apply Array.ext_getElem?
  intro i
  rcases Nat.lt_or_ge i w.heap.size with hi | hi
  ·rw [Array.getElem?_append_left hi]
   exact e6 i hi (by rintro (⟨_,_,h⟩ | ⟨_,_,h⟩) <;> cases h)
  ·rw [Array.getElem?_append_right hi,Array.getElem?_extract]
   rcases Nat.lt_or_ge i heap.size with hj | hj
   ·rw [if_pos (by omega)]; congr 1; omega
   ·rw [if_neg (by omega),Array.getElem?_eq_none hj]
 simp only [grow,World.drewN,World.mk.injEq,true_and,and_true]
 exact ⟨e7,by omega⟩
theorem flatMap_at {α β:Type} (f:α → List β) (k:Nat) (hk:∀ x,(f x).length = k) (k0:0 < k):∀ (l:List α) (t:Nat),(l.flatMap f)[t]? = (l[t / k]?).bind fun x=>(f x)[t % k]?
 | [],t=>by simp
 | x :: l,t=>by
  rw [List.flatMap_cons]
  rcases Nat.lt_or_ge t k with h | h
  ·rw [List.getElem?_append_left (by rw [hk]; exact h),Nat.div_eq_of_lt h,Nat.mod_eq_of_lt h]; rfl
  ·rw [List.getElem?_append_right (by rw [hk]; exact h),hk,flatMap_at f k hk k0 l (t - k)]
   have e1:t / k = (t - k) / k + 1:=by rw [Nat.div_eq_sub_div k0 h]
   have e2:t % k = (t - k) % k:=Nat.mod_eq_sub_mod h
   rw [e1,e2,List.getElem?_cons_succ]
section
variable {X:Type} {P:Program} {ρ:Ren}
structure SWOn (G:X → Prop) (lt:X → X → Bool):Prop where
 irrefl:∀ x,G x → lt x x = false
 trans:∀ x y z,G x → G y → G z → lt x y = true → lt y z = true → lt x z = true
 ntrans:∀ x y z,G x → G y → G z → lt x y = false → lt y z = false → lt x z = false
def Elt (E:Env) (cs:X → List AV) (G:X → Prop):={ p:List Value × X // G p.2 ∧ VRs E (cs p.2) p.1 }
theorem msl_sort (L:SlLaysF0.n6 P ρ) (k:Nat) (k0:0 < k) (aE:∀ w,(isAgg (ρ.t 24)).run P w = .ok true w) (zE:∀ w,(Go.sizeOf (ρ.t 24)).run P w = .ok k w) (cs:X → List AV) (hk:∀ x,(cs x).length = k) (hone:∀ x,∀ c ∈ cs x,c.one = true)
  (hbl:∀ x,∀ c ∈ cs x,Below 0 c) (cf:X → X → Int) (G:X → Prop) (hO:SWOn G (ltOf cf)) (g:Nat) (fn:Func) (c:Code) (hf:Fun P g fn c) (hp:∀ x y,G x → G y → Pure P g [.agg (cs x),.agg (cs y)] (.int .i64 (cf x y)))
  (n:Nat) (H:AHeap) (l j e sz0:Nat) (xs:List X) (hl:l < n) (hG:∀ x ∈ xs,G x) (hH:H l j = some (.mbuf e k (xs.flatMap cs) xs.length)) (hlen:xs.length ≤ 1000000000) :
  ACalls P n (ρ.f 6) [.msl sz0 l j xs.length,.fn (.func g) []] H fun r H'=>r = .tup [] ∧ ∃ ys:List X,ys.Perm xs ∧ (∀ i i' (h:i < ys.length) (h':i' < ys.length),i < i' → ltOf cf ys[i'] ys[i] = false) ∧ H' = H.upd l j (.mbuf e k (ys.flatMap cs) ys.length):=fun E w vs hr hv=>by
 obtain ⟨v1,r1,rfl,h1,hv⟩:=hv.uncons
 obtain ⟨v2,r2,rfl,h2,hv⟩:=hv.uncons
 rw [hv.of_nil]
 cases h2 with | fn _ _ vs2 hl2 hv2 =>
 have e2:vs2 = []:=by simpa using hl2
 subst e2
 have hfl:∀ (l:List X),(l.flatMap cs).length = l.length * k:=fun l=>by
  induction l with
  | nil=>simp
  | cons x l ih=>rw [List.flatMap_cons,List.length_append,hk,ih,List.length_cons,Nat.add_mul]; omega
 cases hxs:xs with
 | nil =>
  subst hxs
  have hnone:∀ a cap,Calls P (ρ.f 6) #[.slice a 0 cap,.func (.func g) #[] #[]] w fun e' w'=>∃ r v H' E',e' = .returned v ∧ (r = .tup [] ∧ ∃ ys:List X,ys.Perm [] ∧ (∀ i i' (h:i < ys.length) (h':i' < ys.length),i < i' → ltOf cf ys[i'] ys[i] = false) ∧ H' = H.upd l j (.mbuf e k (ys.flatMap cs) ys.length)) ∧ VR E' r v ∧ HRel n H' E' w' ∧ Ext n E w E' w':=fun a cap =>
   (AnyF.slices_SortFunc_none L a cap _ w).mono fun e' w' ⟨he,hw⟩=>by
    subst hw he
    exact ⟨.tup [],_,H,E,rfl,⟨rfl,[],.refl _,fun i _ h=>absurd h (Nat.not_lt_zero _),(upd_self hH).symm⟩,.tup [] [] rfl (fun i h=>absurd h (Nat.not_lt_zero _)),hr,.refl _ _ _⟩
  generalize hz:AV.msl sz0 l j ([]:List X).length = av at h1
  cases h1 <;> cases hz
  ·exact hnone _ _
  ·exact hnone _ _
 | cons x0 xr =>
  rw [← hxs]
  have hpos:0 < xs.length:=by rw [hxs]; simp
  obtain ⟨nx,hnx⟩:∃ m,m = xs.length:=⟨_,rfl⟩
  rw [← hnx] at h1
  generalize hz:AV.msl sz0 l j nx = av at h1
  cases h1 <;> cases hz
  ·omega
  rename_i gb cap hh
  subst hnx
  obtain ⟨cc,q1,q2,q3,q4,q5,q6,q7,q8⟩:=hr.mrow hh hH hpos
  have hle:xs.length * k ≤ cap * k:=Nat.mul_le_mul_right _ q3
  have hcs:xs.length * k ≤ cc.size:=by omega
  have hgb:gb < w.heap.size:=(Array.getElem?_eq_some_iff.1 q2).1
  have elt:∀ i (hi:i < xs.length),G xs[i] ∧ VRs E (cs xs[i]) ((cc.toList.drop (i * k)).take k):=fun i hi=>by
   refine ⟨hG _ (List.getElem_mem hi),?_⟩
   have hik:i * k + k ≤ xs.length * k:=by
    have:=Nat.mul_le_mul_right k (show i + 1 ≤ xs.length from hi); rwa [Nat.add_mul,Nat.one_mul] at this
   refine ⟨by rw [hk,List.length_take,List.length_drop,Array.length_toList]; omega,fun t ht ht'=>?_⟩
   have htk:t < k:=by rw [hk] at ht; exact ht
   have hd:(i * k + t) / k = i:=by rw [Nat.mul_comm,Nat.mul_add_div k0,Nat.div_eq_of_lt htk,Nat.add_zero]
   have hm:(i * k + t) % k = t:=by rw [Nat.mul_comm,Nat.mul_add_mod,Nat.mod_eq_of_lt htk]
   have a1:=flatMap_at cs k hk k0 xs (i * k + t)
   rw [hd,hm,List.getElem?_eq_getElem hi,Option.bind_some,List.getElem?_eq_getElem ht] at a1
   obtain ⟨a2,a3⟩:=List.getElem?_eq_some_iff.1 a1
   have a4:=q7.2 (i * k + t) a2 (by rw [q7.1]; exact a2)
   rw [a3] at a4
   simpa [List.getElem_take,List.getElem_drop] using a4
  letI inh:Inhabited (Elt E cs G):=⟨⟨((cc.toList.drop (0 * k)).take k,xs[0]),elt 0 hpos⟩⟩
  let enc:Elt E cs G → List Value:=fun p=>p.1.1
  let cf':Elt E cs G → Elt E cs G → Int:=fun p q=>cf p.1.2 q.1.2
  let d:Array (Elt E cs G):=Array.ofFn fun i:Fin xs.length=>⟨((cc.toList.drop (i.1 * k)).take k,xs[i.1]),elt i.1 i.2⟩
  have hds:d.size = xs.length:=Array.size_ofFn
  have hdg:∀ i (hi:i < xs.length),d[i]! = ⟨((cc.toList.drop (i * k)).take k,xs[i]),elt i hi⟩:=fun i hi=>by
   rw [getElem!_pos d i (by rw [hds]; exact hi)]; exact Array.getElem_ofFn _
  have hek:∀ x,(enc x).length = k:=fun x=>by have:=x.2.2.1; rw [hk] at this; exact this
  have he1:∀ x,∀ v ∈ enc x,v.oneCell' = true:=fun x v hv=>by
   obtain ⟨t,ht,rfl⟩:=List.getElem_of_mem hv
   have h0:=x.2.2.2 t (by rw [← x.2.2.1]; exact ht) ht
   exact h0.one (hone _ _ (List.getElem_mem _))
  have hO':SWO (ltOf cf'):=⟨fun x=>hO.irrefl _ x.2.1,fun x y z=>hO.trans _ _ _ x.2.1 y.2.1 z.2.1,fun x y z=>hO.ntrans _ _ _ x.2.1 y.2.1 z.2.1⟩
  have hH0:HoldsK enc k w gb 0 d:=fun t ht=>by
   rw [size_flatK,hds] at ht
   have hi:t / k < xs.length:=Nat.div_lt_of_lt_mul (by rw [Nat.mul_comm]; exact ht)
   have htm:t % k < k:=Nat.mod_lt _ k0
   have hcell:w.cell? ⟨gb,0 + t,none⟩ = cc[t]?:=by simp only [World.cell?,q2]; simp
   have hfro:w.frozen? ⟨gb,0 + t,none⟩ = false:=by simp [World.frozen?,q2]
   refine ⟨?_,hfro⟩
   rw [hcell,get_flatK _ _ _ _ (by rw [hds]; exact ht),hdg _ hi]
   have htt:t / k * k + t % k = t:=by rw [Nat.mul_comm]; exact Nat.div_add_mod t k
   have hlt:t % k < ((cc.toList.drop (t / k * k)).take k).length:=by rw [List.length_take,List.length_drop,Array.length_toList]; omega
   show cc[t]? = some (((cc.toList.drop (t / k * k)).take k)[t % k]!)
   have hgp:((cc.toList.drop (t / k * k)).take k)[t % k]! = ((cc.toList.drop (t / k * k)).take k)[t % k]'hlt:=getElem!_pos ((cc.toList.drop (t / k * k)).take k) (t % k) hlt
   rw [hgp,List.getElem_take,List.getElem_drop]
   rw [Array.getElem?_eq_getElem (by omega)]
   simp [htt]
  have hcmp:CmpLays P g #[] enc k cf' gb 0 d.size w:=fun m os dk hdk x y=>by
   have hs0:w.heap.size ≤ (sortWorldK enc k w gb 0 m dk os).heap.size:=size_sortWorldK_c enc k w gb 0 m dk os
   have hcb:=calls_bare (E:=E) (w:=sortWorldK enc k w gb 0 m dk os) (vs:=[.agg (enc x).toArray,.agg (enc y).toArray]) (hp _ _ x.2.1 y.2.1)
    (VRs.cons (.agg _ _ (by have:=x.2.2.1; exact this) x.2.2.2) (VRs.cons (.agg _ _ (by have:=y.2.2.1; exact this) y.2.2.2) (VRs.nil _)))
    (fun a ha=>by
     simp only [List.mem_cons,List.not_mem_nil,or_false] at ha
     rcases ha with rfl | rfl <;> exact below_agg (hbl _))
    (fun b o v hFv=>by
     have hne:b ≠ gb:=fun e'=>by subst e'; rw [q6] at hFv; cases hFv
     have hlt:=hr.F_lt hFv
     unfold sortWorldK
     rw [cell?_grow _ _ _ (by rw [size_putRowK]; exact hlt),cell?_putRowK_other _ _ _ _ _ _ _ hne]
     exact hr.F _ _ _ hFv)
   refine Calls.mono hcb ?_
   rintro e' w' ⟨⟨v,E',rfl,hvv⟩,hw⟩
   cases hvv
   exact ⟨rfl,hw⟩
  have hs:=AnyQ.slices_SortFunc L k aE zE enc hek he1 cf' hO' g #[] gb 0 cap d w (callFunc_run hf) hcmp hH0 hgb (by rw [hds]; omega)
  rw [hds] at hs
  refine Calls.mono hs ?_
  rintro e' w' ⟨rfl,d',m,os,⟨p1,p2,p3⟩,hso,rfl⟩
  have hd's:d'.size = xs.length:=by rw [p1,hds]
  have pe1:d'.extract 0 xs.length = d':=by rw [← hd's]; simp
  have pe2:d.extract 0 xs.length = d:=by rw [← hds]; simp
  rw [pe1,pe2] at p3
  have hdx:d.toList.map (fun p=>p.1.2) = xs:=by
   apply List.ext_getElem
   ·simp [hds]
   ·intro i h1 h2
    have hi:i < xs.length:=by simpa [hds] using h1
    have:=hdg i hi
    rw [getElem!_pos d i (by rw [hds]; exact hi)] at this
    simp only [List.getElem_map,Array.getElem_toList,this]
  obtain ⟨ys,hys⟩:∃ ys,ys = d'.toList.map (fun p=>p.1.2):=⟨_,rfl⟩
  have hyl:ys.length = xs.length:=by rw [hys]; simp [hd's]
  have hyg:∀ i (hi:i < ys.length),ys[i] = (d'[i]!).1.2:=fun i hi=>by
   subst hys; rw [getElem!_pos d' i (by simpa using hi)]; simp
  have hyp:ys.Perm xs:=by rw [hys,← hdx]; exact p3.map _
  have hc':(putRowK enc k (Go.Sort.ahead w m) gb 0 d').heap[gb]? = some (.cells (putCells id 0 (flatK enc k d') cc) e (0,0)):=by
   simp only [putRowK,putRow,mapBlock,Array.getElem?_modify,if_true,Go.Sort.ahead,q2,Option.map_some,onCells]
  have hsz':(putCells id 0 (flatK enc k d') cc).size = cc.size:=by simp [putCells]
  obtain ⟨hh2,hx2⟩:=hr.turn (w':=putRowK enc k (Go.Sort.ahead w m) gb 0 d') (.inr q1) (.mbuf e k (ys.flatMap cs) ys.length) (fun _=>rfl) rfl rfl rfl (fun _=>Nat.le_add_right _ _) (by rw [size_putRowK]; rfl)
   (fun b' hb'=>by simp only [putRowK,putRow,mapBlock,Array.getElem?_modify,Go.Sort.ahead]; rw [if_neg (fun e=>hb' e.symm)]) q6 (by
    obtain ⟨⟨_,v0,hv0,hj0,_⟩,hm0⟩:=hr.mbuf l j e k (xs.flatMap cs) xs.length (hr.norm.hist_lt hh) hH
    rw [hh] at hv0
    cases hv0
    rw [hyl]
    refine ⟨⟨by rw [hfl,hyl],_,hh,hj0,.inr ⟨gb,cap,_,rfl,q1,hc',q3,q4,by rw [hsz',q5],q6,?_⟩⟩,hm0⟩
    have hpl:(putCells id 0 (flatK enc k d') cc).toList.length = cc.size:=by rw [Array.length_toList]; exact hsz'
    refine ⟨by rw [hfl,hyl,List.length_take,hpl]; omega,fun t ht ht'=>?_⟩
    rw [hfl,hyl] at ht
    have hi:t / k < xs.length:=Nat.div_lt_of_lt_mul (by rw [Nat.mul_comm]; exact ht)
    have htm:t % k < k:=Nat.mod_lt _ k0
    have a1:=flatMap_at cs k hk k0 ys t
    rw [List.getElem?_eq_getElem (l:=ys) (i:=t / k) (by omega),Option.bind_some,List.getElem?_eq_getElem (l:=cs ys[t / k]) (i:=t % k) (by rw [hk]; exact htm),List.getElem?_eq_getElem (l:=ys.flatMap cs) (i:=t) (by rw [hfl,hyl]; exact ht)] at a1
    have a2:=Option.some.inj a1
    rw [a2]
    have a3:((putCells id 0 (flatK enc k d') cc).toList.take (xs.length * k))[t] = (enc d'[t / k]!)[t % k]!:=by
     rw [List.getElem_take]
     simp only [putCells,Array.getElem_toList,Array.getElem_mapIdx,size_flatK,hd's]
     rw [if_pos ⟨Nat.zero_le _,by omega⟩,Nat.sub_zero,get_flatK _ _ _ _ (by rw [hd's]; exact ht)]; rfl
    rw [a3]
    have a4:=(d'[t / k]!).2.2
    have hyq:=hyg (t / k) (by omega)
    have a5:=a4.2 (t % k) (by rw [hk]; exact htm) (by rw [a4.1,hk]; exact htm)
    have a6:(enc d'[t / k]!)[t % k]! = (d'[t / k]!).1.1[t % k]'(by rw [a4.1,hk]; exact htm):=getElem!_pos _ _ _
    rw [a6]
    simp only [hyq]
    exact a5)
  obtain ⟨hh3,hx3⟩:=hh2.below (w':=sortWorldK enc k w gb 0 m d' os) ⟨rfl,rfl,rfl,by simp [sortWorldK],fun b hb=>by simp [sortWorldK,grow,Array.getElem?_append,hb]⟩ (fun _=>Nat.le_refl _)
  refine ⟨.tup [],_,_,E,rfl,⟨rfl,ys,hyp,fun i i' hi hi' hii=>?_,rfl⟩,.tup [] [] rfl (fun i h=>absurd h (Nat.not_lt_zero _)),hh3,hx2.trans hx3⟩
  have:=hso i i' (Nat.zero_le _) hii (by omega)
  rw [hyg i hi,hyg i' hi']; exact this
end
end Go.Abs

/- The library's sort and Compact of a slice of integers that may be written, as the layer says them. -/
namespace Go.Abs
open Go.Proofs Go.Shelf Go.Sort
abbrev vInt:Int → Value:=Value.int .i64
abbrev aInts (l:List Int):List AV:=l.map (AV.int .i64)
section
variable {P:Program}
theorem vrs_ints {E:Env}:∀ {l:List Int} {vs:List Value},VRs E (aInts l) vs → vs = l.map vInt
 | [],vs,h=>h.of_nil
 | x :: l,vs,h=>by
  obtain ⟨v,r,rfl,h1,h2⟩:=VRs.uncons h
  cases h1
  rw [vrs_ints h2]; rfl
theorem ints_vrs (E:Env):∀ l:List Int,VRs E (aInts l) (l.map vInt)
 | []=>VRs.nil E
 | x :: l=>VRs.cons (.int _ _) (ints_vrs E l)
theorem int_cells {m:Nat} {H:AHeap} {E:Env} {w:World} (hr:HRel m H E w) {l j gb cap e:Nat} {xs:List Int} (hh:E.hist l j xs.length = some (.slice (some ⟨gb,0,none⟩) xs.length cap)) (hH:H l j = some (.mbuf e 1 (aInts xs) xs.length)) (hpos:0 < xs.length) :
  ∃ cc,E.g l j = some gb ∧ w.heap[gb]? = some (.cells cc e (0,0)) ∧ xs.length ≤ cap ∧ cap ≤ maxLen ∧ cc.size = cap ∧ (∀ o,E.F gb o = none) ∧ cc.toList.take xs.length = xs.map vInt ∧ gb < w.heap.size:=by
 obtain ⟨cc,q1,q2,q3,q4,q5,q6,q7,q8⟩:=hr.mrow hh hH hpos
 rw [Nat.mul_one] at q5 q7
 exact ⟨cc,q1,q2,q3,q4,q5,q6,vrs_ints q7,(Array.getElem?_eq_some_iff.1 q2).1⟩
theorem int_holds {w:World} {gb e:Nat} {cc:Array Value} {xs:List Int} (q2:w.heap[gb]? = some (.cells cc e (0,0))) (hl:xs.length ≤ cc.size) (hc:cc.toList.take xs.length = xs.map vInt):Holds vInt w gb 0 xs.toArray:=fun t ht=>by
 have ht':t < xs.length:=by simpa using ht
 have hcell:w.cell? ⟨gb,0 + t,none⟩ = cc[t]?:=by simp only [World.cell?,q2]; simp
 refine ⟨?_,by simp [World.frozen?,q2]⟩
 rw [hcell]
 have h1:(cc.toList.take xs.length)[t]? = (xs.map vInt)[t]?:=by rw [hc]
 rw [List.getElem?_take_of_lt ht',List.getElem?_map,List.getElem?_eq_getElem ht',Option.map_some,Array.getElem?_toList] at h1
 rw [h1,getElem!_pos xs.toArray t ht]; simp
theorem turn_ints {m:Nat} {H:AHeap} {E:Env} {w:World} (hr:HRel m H E w) {l j gb cap e:Nat} {xs:List Int} (hh:E.hist l j xs.length = some (.slice (some ⟨gb,0,none⟩) xs.length cap)) (hH:H l j = some (.mbuf e 1 (aInts xs) xs.length)) (hpos:0 < xs.length)
  (d:Array Int) (hd:d.size = xs.length) (q:Nat) :
  HRel m (H.upd l j (.mbuf e 1 (aInts d.toList) xs.length)) E (putRow vInt (Go.Sort.ahead w q) gb 0 d) ∧ Ext m E w E (putRow vInt (Go.Sort.ahead w q) gb 0 d):=by
 obtain ⟨cc,q1,q2,q3,q4,q5,q6,q7,q8⟩:=int_cells hr hh hH hpos
 have hc':(putRow vInt (Go.Sort.ahead w q) gb 0 d).heap[gb]? = some (.cells (putCells vInt 0 d cc) e (0,0)):=by
  simp only [putRow,mapBlock,Array.getElem?_modify,if_true,Go.Sort.ahead,q2,Option.map_some,onCells]
 have hsz:(putCells vInt 0 d cc).size = cc.size:=by simp [putCells]
 refine hr.turn (.inr q1) (.mbuf e 1 (aInts d.toList) xs.length) (fun _=>rfl) rfl rfl rfl (fun _=>Nat.le_add_right _ _) (by simp [putRow,mapBlock,Go.Sort.ahead])
  (fun b' hb'=>by simp only [putRow,mapBlock,Array.getElem?_modify,Go.Sort.ahead]; rw [if_neg (fun e=>hb' e.symm)]) q6 ?_
 obtain ⟨⟨_,v0,hv0,hj0,_⟩,hm0⟩:=hr.mbuf l j e 1 (aInts xs) xs.length (hr.norm.hist_lt hh) hH
 rw [hh] at hv0
 cases hv0
 refine ⟨⟨by simp [hd],_,hh,hj0,.inr ⟨gb,cap,_,rfl,q1,hc',q3,q4,by rw [hsz,q5,Nat.mul_one],q6,?_⟩⟩,hm0⟩
 have e1:(putCells vInt 0 d cc).toList.take (xs.length * 1) = d.toList.map vInt:=by
  rw [Nat.mul_one]
  apply List.ext_getElem
  ·simp [putCells,hd]; omega
  ·intro t h1 h2
   have ht:t < d.size:=by simpa using h2
   rw [List.getElem_take]
   simp only [putCells,Array.getElem_toList,Array.getElem_mapIdx,List.getElem_map]
   rw [if_pos ⟨Nat.zero_le _,by omega⟩,Nat.sub_zero,getElem!_pos d t ht]
 rw [e1]
 exact ints_vrs E _
theorem putRow_sub {G:Int → Prop} [Inhabited { x:Int // G x }] (w:World) (gb:Nat) (d:Array { x:Int // G x }):putRow (fun p:{ x:Int // G x }=>vInt p.1) w gb 0 d = putRow vInt w gb 0 (d.map (·.1)):=by
 have h:∀ cc,putCells (fun p:{ x:Int // G x }=>vInt p.1) 0 d cc = putCells vInt 0 (d.map (·.1)) cc:=fun cc=>by
  unfold putCells
  apply Array.ext
  ·simp
  ·intro i h1 h2
   simp only [Array.getElem_mapIdx,Array.size_map]
   split
   ·rename_i hc
    have hi:i - 0 < d.size:=by omega
    rw [getElem!_pos d (i - 0) hi,getElem!_pos (d.map (·.1)) (i - 0) (by simpa using hi)]; simp
   ·rfl
 simp only [putRow]
 rw [funext h]
theorem int_sort {ρ ρ0:Ren} (L:SlLaysF.n6 P ρ) (L0:SlLaysF0.n6 P ρ0) (hs:ρ0.f 6 = ρ.f 6) (cf:Int → Int → Int) (G:Int → Prop) (hO:SWOn G (ltOf cf)) (g:Nat) (fn:Func) (c:Code) (hf:Fun P g fn c) (hp:∀ x y,G x → G y → Pure P g [.int .i64 x,.int .i64 y] (.int .i64 (cf x y)))
  (n:Nat) (H:AHeap) (l j e sz0:Nat) (xs:List Int) (hG:∀ x ∈ xs,G x) (hH:H l j = some (.mbuf e 1 (aInts xs) xs.length)) (hlen:xs.length ≤ 1000000000) :
  ACalls P n (ρ.f 6) [.msl sz0 l j xs.length,.fn (.func g) []] H fun r H'=>r = .tup [] ∧ ∃ ys:List Int,ys.Perm xs ∧ (∀ i i' (h:i < ys.length) (h':i' < ys.length),i < i' → ltOf cf ys[i'] ys[i] = false) ∧ H' = H.upd l j (.mbuf e 1 (aInts ys) xs.length):=fun E w vs hr hv=>by
 obtain ⟨v1,r1,rfl,h1,hv⟩:=hv.uncons
 obtain ⟨v2,r2,rfl,h2,hv⟩:=hv.uncons
 rw [hv.of_nil]
 cases h2 with | fn _ _ vs2 hl2 hv2 =>
 have e2:vs2 = []:=by simpa using hl2
 subst e2
 cases hxs:xs with
 | nil =>
  subst hxs
  have hnone:∀ a cap,Calls P (ρ.f 6) #[.slice a 0 cap,.func (.func g) #[] #[]] w fun e' w'=>∃ r v H' E',e' = .returned v ∧ (r = .tup [] ∧ ∃ ys:List Int,ys.Perm [] ∧ (∀ i i' (h:i < ys.length) (h':i' < ys.length),i < i' → ltOf cf ys[i'] ys[i] = false) ∧ H' = H.upd l j (.mbuf e 1 (aInts ys) 0)) ∧ VR E' r v ∧ HRel n H' E' w' ∧ Ext n E w E' w':=fun a cap=>by
   rw [← hs]
   exact (AnyF.slices_SortFunc_none L0 a cap _ w).mono fun e' w' ⟨he,hw⟩=>by
    subst hw he
    exact ⟨.tup [],_,H,E,rfl,⟨rfl,[],.refl _,fun i _ h=>absurd h (Nat.not_lt_zero _),(upd_self hH).symm⟩,.tup [] [] rfl (fun i h=>absurd h (Nat.not_lt_zero _)),hr,.refl _ _ _⟩
  generalize hz:AV.msl sz0 l j ([]:List Int).length = av at h1
  cases h1 <;> cases hz
  ·exact hnone _ _
  ·exact hnone _ _
 | cons x0 xr =>
  rw [← hxs]
  have hpos:0 < xs.length:=by rw [hxs]; simp
  obtain ⟨nx,hnx⟩:∃ m,m = xs.length:=⟨_,rfl⟩
  rw [← hnx] at h1
  generalize hz:AV.msl sz0 l j nx = av at h1
  cases h1 <;> cases hz
  ·omega
  rename_i gb cap hh
  subst hnx
  obtain ⟨cc,q1,q2,q3,q4,q5,q6,q7,hgb⟩:=int_cells hr hh hH hpos
  letI inh:Inhabited { x:Int // G x }:=⟨⟨xs[0],hG _ (List.getElem_mem hpos)⟩⟩
  let enc:{ x:Int // G x } → Value:=fun p=>vInt p.1
  let cf':{ x:Int // G x } → { x:Int // G x } → Int:=fun p q=>cf p.1 q.1
  obtain ⟨d,hd⟩:∃ d:Array { x:Int // G x },d.map (·.1) = xs.toArray:=⟨(xs.attachWith G hG).toArray,by simp⟩
  have hds:d.size = xs.length:=by have:=congrArg Array.size hd; simpa using this
  have hO':SWO (ltOf cf'):=⟨fun x=>hO.irrefl _ x.2,fun x y z=>hO.trans _ _ _ x.2 y.2 z.2,fun x y z=>hO.ntrans _ _ _ x.2 y.2 z.2⟩
  have hH1:Holds vInt w gb 0 xs.toArray:=int_holds q2 (by omega) q7
  have hH0:Holds enc w gb 0 d:=fun t ht=>by
   have h:=hH1 t (by simp; omega)
   refine ⟨?_,h.2⟩
   rw [h.1]
   congr 1
   show vInt _ = vInt _
   congr 1
   rw [← hd,getElem!_pos (d.map (·.1)) t (by simpa using ht),getElem!_pos d t ht]; simp
  have hcmp:CmpLays1 P g #[] enc cf' gb 0 d.size w:=fun m os dk hdk x y=>by
   have hcb:=calls_bare (E:=E) (w:=sortWorld enc w gb 0 m dk os) (vs:=[vInt x.1,vInt y.1]) (hp x.1 y.1 x.2 y.2) (VRs.cons (.int _ _) (VRs.cons (.int _ _) (VRs.nil _)))
    (fun a ha=>by
     simp only [List.mem_cons,List.not_mem_nil,or_false] at ha
     rcases ha with rfl | rfl <;> exact .int _ _)
    (fun b o v hFv=>by
     have hne:b ≠ gb:=fun e'=>by subst e'; rw [q6] at hFv; cases hFv
     have hlt:=hr.F_lt hFv
     unfold sortWorld
     rw [cell?_grow _ _ _ (by simp [putRow,mapBlock,Go.Sort.ahead]; exact hlt),cell?_putRow_other _ _ _ _ _ _ (.inl hne)]
     exact hr.F _ _ _ hFv)
   refine Calls.mono hcb ?_
   rintro e' w' ⟨⟨v,E',rfl,hvv⟩,hw⟩
   cases hvv
   exact ⟨rfl,hw⟩
  have hsr:=Any.slices_SortFunc L enc (fun _=>rfl) cf' hO' g #[] gb 0 cap d w (callFunc_run hf) hcmp hH0 hgb (by omega)
  rw [hds] at hsr
  refine Calls.mono hsr ?_
  rintro e' w' ⟨rfl,d',m,os,⟨p1,p2,p3⟩,hso,rfl⟩
  have hd's:d'.size = xs.length:=by rw [p1,hds]
  have pe1:d'.extract 0 xs.length = d':=by rw [← hd's]; simp
  have pe2:d.extract 0 xs.length = d:=by rw [← hds]; simp
  rw [pe1,pe2] at p3
  obtain ⟨hh2,hx2⟩:=turn_ints hr hh hH hpos (d'.map (·.1)) (by simpa using hd's) m
  rw [← putRow_sub] at hh2 hx2
  obtain ⟨hh3,hx3⟩:=hh2.below (w':=sortWorld enc w gb 0 m d' os) ⟨rfl,rfl,rfl,by simp [sortWorld,grow,enc],fun b hb=>by show ((putRow enc (Go.Sort.ahead w m) gb 0 d').heap ++ os)[b]? = _; rw [Array.getElem?_append_left hb]⟩ (fun _=>Nat.le_refl _)
  have hpm:(d'.map (·.1)).toList.Perm xs:=by
   have:=p3.map (·.1)
   rw [← Array.toList_map,← Array.toList_map,hd] at this
   simpa using this
  refine ⟨.tup [],_,_,E,rfl,⟨rfl,(d'.map (·.1)).toList,hpm,fun i i' hi hi' hii=>?_,rfl⟩,.tup [] [] rfl (fun i h=>absurd h (Nat.not_lt_zero _)),hh3,hx2.trans hx3⟩
  have hi1:i < d'.size:=by simpa using hi
  have hi2:i' < d'.size:=by simpa using hi'
  have:=hso i i' (Nat.zero_le _) hii (by omega)
  rw [getElem!_pos d' i hi1,getElem!_pos d' i' hi2] at this
  simpa [ltOf,cf'] using this
theorem int_compact {ρ:Ren} (L:Lays2.n20 P ρ) (n:Nat) (H:AHeap) (l j e:Nat) (xs:List Int) (hpos:0 < xs.length) (hH:H l j = some (.mbuf e 1 (aInts xs) xs.length)) (hlen:xs.length ≤ 1000000000) :
  ACalls P n (ρ.f 20) [.msl 1 l j xs.length] H fun r H'=>r = .sub 1 l j xs.length 0 (Lib.compact xs).length ∧ H' = H.upd l j (.mbuf e 1 (aInts (Lib.compact xs ++ List.replicate (xs.length - (Lib.compact xs).length) 0)) xs.length):=fun E w vs hr hv=>by
 obtain ⟨v1,r1,rfl,h1,hv⟩:=hv.uncons
 rw [hv.of_nil]
 obtain ⟨nx,hnx⟩:∃ m,m = xs.length:=⟨_,rfl⟩
 rw [← hnx] at h1
 generalize hz:AV.msl 1 l j nx = av at h1
 cases h1 <;> cases hz
 ·omega
 rename_i gb cap hh
 subst hnx
 obtain ⟨cc,q1,q2,q3,q4,q5,q6,q7,hgb⟩:=int_cells hr hh hH hpos
 have hH0:Holds vInt w gb 0 xs.toArray:=int_holds q2 (by omega) q7
 refine Calls.mono (Any.slices_Compact_int L gb 0 cap xs w hH0 (by omega) q3) ?_
 rintro e' w' ⟨rfl,q,rfl⟩
 have hle:(Lib.compact xs).length ≤ xs.length:=Lib.compact_length_le xs
 obtain ⟨hh2,hx2⟩:=turn_ints hr hh hH hpos (Lib.compact xs ++ List.replicate (xs.length - (Lib.compact xs).length) 0).toArray (by simp; omega) q
 refine ⟨_,_,_,E,rfl,⟨rfl,rfl⟩,?_,hh2,hx2⟩
 have:=VR.sub (E:=E) 1 l j xs.length 0 (Lib.compact xs).length gb cap hh (by omega)
 simpa using this
theorem int_compact0 {ρ:Ren} (L:Lays2.n20 P ρ) (n:Nat) (H:AHeap) (l j:Nat):ACalls P n (ρ.f 20) [.msl 1 l j 0] H fun r H'=>r = .msl 1 l j 0 ∧ H' = H:=fun E w vs hr hv=>by
 obtain ⟨v1,r1,rfl,h1,hv⟩:=hv.uncons
 rw [hv.of_nil]
 have:∃ a cap,v1 = .slice a 0 cap:=by
  generalize hz:AV.msl 1 l j 0 = av at h1
  cases h1 <;> cases hz
  ·exact ⟨_,_,rfl⟩
  ·exact ⟨_,_,rfl⟩
 obtain ⟨a,cap,rfl⟩:=this
 refine Calls.mono (Any.slices_Compact_int_empty L a cap w) ?_
 rintro e w' ⟨rfl,rfl⟩
 exact ⟨_,_,_,E,rfl,⟨rfl,rfl⟩,h1,hr,.refl _ _ _⟩
end
end Go.Abs

/- The order of terms and atoms. No program, no condition. -/
namespace Go.Abs
def thn (c d:Int):Int:=if c = 0 then d else c
theorem thn_zero (d:Int):thn 0 d = d:=rfl
theorem thn_ne {c:Int} (h:c ≠ 0) (d:Int):thn c d = c:=if_neg h
theorem thn_eq_zero {c d:Int} (h:thn c d = 0):c = 0 ∧ d = 0:=by
 unfold thn at h; split at h
 ·exact ⟨by assumption,h⟩
 ·exact absurd h (by assumption)
theorem thn_assoc (a b c:Int):thn (thn a b) c = thn a (thn b c):=by unfold thn; split <;> simp_all
theorem thn_right (a:Int):thn a 0 = a:=by unfold thn; split <;> simp_all
def ncmp (a b:Int):Int:=if a < b then -1 else if b < a then 1 else 0
theorem ncmp_self (a:Int):ncmp a a = 0:=by simp [ncmp]
theorem ncmp_zero {a b:Int} (h:ncmp a b = 0):a = b:=by
 unfold ncmp at h; split at h
 ·cases h
 ·split at h
  ·cases h
  ·omega
theorem ncmp_anti (a b:Int):ncmp b a = -ncmp a b:=by
 unfold ncmp; split <;> split <;> first | omega | (split <;> omega) | rfl
def lexI:List Int → List Int → Int
 | [],[]=>0
 | [],_ :: _=>-1
 | _ :: _,[]=>1
 | a :: x,b :: y=>thn (ncmp a b) (lexI x y)
theorem lexI_self:∀ x:List Int,lexI x x = 0
 | []=>rfl
 | a :: x=>by rw [lexI,ncmp_self,thn_zero,lexI_self x]
theorem lexI_anti:∀ x y:List Int,lexI y x = -lexI x y
 | [],[]=>rfl
 | [],_ :: _=>rfl
 | _ :: _,[]=>rfl
 | a :: x,b :: y=>by
  rw [lexI,lexI,ncmp_anti a b,lexI_anti x y]
  unfold thn; split <;> split <;> first | rfl | omega
theorem lexI_trans:∀ x y z:List Int,lexI x y ≤ 0 → lexI y z ≤ 0 → lexI x z ≤ 0
 | [],[],[],_,_=>by decide
 | [],[],_ :: _,_,_=>by show (-1:Int) ≤ 0; decide
 | [],_ :: _,[],_,_=>by decide
 | [],_ :: _,_ :: _,_,_=>by show (-1:Int) ≤ 0; decide
 | _ :: _,[],_,h,_=>by exact absurd h (by show ¬ (1:Int) ≤ 0; decide)
 | _ :: _,_ :: _,[],_,h=>by exact absurd h (by show ¬ (1:Int) ≤ 0; decide)
 | a :: x,b :: y,c :: z,h,h'=>by
  have ih:=lexI_trans x y z
  rw [lexI] at h h' ⊢
  unfold thn at *
  unfold ncmp at *
  rcases Int.lt_trichotomy a b with h1 | h1 | h1 <;> rcases Int.lt_trichotomy b c with h2 | h2 | h2
  all_goals
   first
   | subst h1
   | skip
   first
   | subst h2
   | skip
   repeat' split at h
   all_goals repeat' split at h'
   all_goals repeat' split
   all_goals first | omega | (exact ih h h') | skip
def rank (k:Int):Int:=if k = 1 then 0 else if k = 2 then 1 else if k = 4 then 2 else if k = 3 then 3 else if k = 5 then 4 else if k = 6 then 5 else 6 + k
theorem rank_inj {a b:Int} (ha:0 ≤ a) (hb:0 ≤ b) (h:rank a = rank b):a = b:=by
 unfold rank at h
 repeat' split at h
 all_goals omega
def cmpT:Tm → Tm → Int
 | .mk k n s l,.mk k' n' s' l'=>thn (ncmp (rank k) (rank k')) (thn (if k = 1 then ncmp n n' else 0) (thn (ncmp l.length l'.length) (thn (Lib.compareBytes s s') (thn (cmps l l') (ncmp n n')))))
where cmps:List Tm → List Tm → Int
 | [],[]=>0
 | [],_ :: _=>-1
 | _ :: _,[]=>1
 | a :: x,b :: y=>thn (cmpT a b) (cmps x y)
theorem cmpT_eq (a b:Tm):cmpT a b = thn (ncmp (rank a.kind) (rank b.kind)) (thn (if a.kind = 1 then ncmp a.num b.num else 0) (thn (ncmp a.args.length b.args.length) (thn (Lib.compareBytes a.name b.name) (thn (cmpT.cmps a.args b.args) (ncmp a.num b.num))))):=by
 cases a; cases b; rw [cmpT]; rfl
def serS (s:List UInt8):List Int:=s.map (fun b=>(b.toNat:Int) + 1) ++ [0]
theorem lex_serS:∀ (s t:List UInt8) (x y:List Int),lexI (serS s ++ x) (serS t ++ y) = thn (Lib.compareBytes s t) (lexI x y)
 | [],[],x,y=>by simp [serS,lexI,Lib.compareBytes,ncmp_self,thn_zero]
 | [],b :: t,x,y=>by
  simp only [serS,List.map_nil,List.nil_append,List.map_cons,List.cons_append,lexI,Lib.compareBytes]
  have:ncmp 0 ((b.toNat:Int) + 1) = -1:=by unfold ncmp; rw [if_pos (by omega)]
  rw [this]; rfl
 | a :: s,[],x,y=>by
  simp only [serS,List.map_nil,List.nil_append,List.map_cons,List.cons_append,lexI,Lib.compareBytes]
  have:ncmp ((a.toNat:Int) + 1) 0 = 1:=by unfold ncmp; rw [if_neg (by omega),if_pos (by omega)]
  rw [this]; rfl
 | a :: s,b :: t,x,y=>by
  have ih:=lex_serS s t x y
  simp only [serS,List.append_assoc,List.cons_append,List.nil_append] at ih
  simp only [serS,List.map_cons,List.cons_append,lexI,Lib.compareBytes,List.append_assoc,List.nil_append]
  rw [ih]
  by_cases h1:a < b
  ·have:ncmp ((a.toNat:Int) + 1) ((b.toNat:Int) + 1) = -1:=by unfold ncmp; rw [if_pos (by have:=UInt8.lt_iff_toNat_lt.1 h1; omega)]
   rw [this,if_pos h1]; rfl
  ·rw [if_neg h1]
   by_cases h2:b < a
   ·have:ncmp ((a.toNat:Int) + 1) ((b.toNat:Int) + 1) = 1:=by
     have:=UInt8.lt_iff_toNat_lt.1 h2
     unfold ncmp; rw [if_neg (by omega),if_pos (by omega)]
    rw [this,if_pos h2]; rfl
   ·have:ncmp ((a.toNat:Int) + 1) ((b.toNat:Int) + 1) = 0:=by
     have e1:¬ a.toNat < b.toNat:=fun h=>h1 (UInt8.lt_iff_toNat_lt.2 h)
     have e2:¬ b.toNat < a.toNat:=fun h=>h2 (UInt8.lt_iff_toNat_lt.2 h)
     unfold ncmp; rw [if_neg (by omega),if_neg (by omega)]
    rw [this,if_neg h2,thn_zero]
def ser:Tm → List Int
 | .mk k n s l=>rank k :: (if k = 1 then n else 0) :: (l.length:Int) :: (serS s ++ (sers l ++ [n]))
where sers:List Tm → List Int
 | []=>[]
 | t :: r=>ser t ++ sers r
theorem ser_eq (t:Tm):ser t = rank t.kind :: (if t.kind = 1 then t.num else 0) :: (t.args.length:Int) :: (serS t.name ++ (ser.sers t.args ++ [t.num])):=by cases t; rw [ser]; rfl
theorem lex_ser:∀ (a b:Tm) (_:a.Nm) (_:b.Nm) (x y:List Int),lexI (ser a ++ x) (ser b ++ y) = thn (cmpT a b) (lexI x y)
 | .mk k n s l,b,ha,hb,x,y=>by
  have hl:∀ (p q:List Tm),(∀ u ∈ p,u ∈ l) → (∀ u ∈ q,u.Nm) → p.length = q.length → ∀ x y:List Int,lexI (ser.sers p ++ x) (ser.sers q ++ y) = thn (cmpT.cmps p q) (lexI x y):=by
   intro p
   induction p with
   | nil =>
    intro q _ _ hlen x y
    have:q = []:=List.eq_nil_of_length_eq_zero hlen.symm
    subst this; rfl
   | cons t p ih =>
    intro q hp hq hlen x y
    cases q with
    | nil=>cases hlen
    | cons u q =>
     have ht:=lex_ser t u (by cases ha with | mk _ _ _ _ _ _ _ h=>exact h t (hp t (by simp))) (hq u (by simp))
     simp only [ser.sers,List.append_assoc,cmpT.cmps]
     rw [ht,ih q (fun v hv=>hp v (List.mem_cons_of_mem _ hv)) (fun v hv=>hq v (List.mem_cons_of_mem _ hv)) (by simpa using hlen),thn_assoc]
  have hk:0 ≤ k:=by cases ha with | mk _ _ _ _ _ h _ _=>exact h.1
  have hk':0 ≤ b.kind:=by cases hb with | mk _ _ _ _ _ h _ _=>exact h.1
  have hbn:∀ u ∈ b.args,u.Nm:=by cases hb with | mk _ _ _ _ _ _ _ h=>exact h
  have e4:(Tm.mk k n s l).kind = k:=rfl
  have e5:(Tm.mk k n s l).num = n:=rfl
  have e6:(Tm.mk k n s l).args = l:=rfl
  have e7:(Tm.mk k n s l).name = s:=rfl
  rw [ser_eq b,ser,cmpT_eq,e4,e5,e6,e7]
  simp only [List.cons_append,List.append_assoc,List.nil_append,lexI]
  rw [lex_serS]
  by_cases h1:ncmp (rank k) (rank b.kind) = 0
  ·have hkk:=rank_inj hk hk' (ncmp_zero h1)
   by_cases h3:ncmp (l.length:Int) (b.args.length:Int) = 0
   ·have hlen:=ncmp_zero h3
    rw [hl l b.args (fun u h=>h) hbn (by omega),lexI]
    subst hkk
    simp only [thn_assoc]
    by_cases h2:b.kind = 1
    ·simp [h2,thn_assoc,lexI]
    ·simp [h2,thn_assoc,lexI,ncmp_self,thn_zero]
   ·subst hkk
    by_cases h2:b.kind = 1
    ·simp [h2,thn_assoc,thn_ne h3]
    ·simp [h2,thn_assoc,thn_ne h3,ncmp_self,thn_zero]
  ·simp only [thn_ne h1]
termination_by a=>SizeOf.sizeOf a
decreasing_by
 have:=List.sizeOf_lt_of_mem (hp t (by simp))
 simp only [Tm.mk.sizeOf_spec]; omega
theorem cmpBytes_zero:∀ {s t:List UInt8},Lib.compareBytes s t = 0 → s = t
 | [],[],_=>rfl
 | [],_ :: _,h=>by cases h
 | _ :: _,[],h=>by cases h
 | a :: s,b :: t,h=>by
  rw [Lib.compareBytes] at h
  split at h
  ·cases h
  ·split at h
   ·cases h
   ·rename_i h1 h2
    have:a = b:=UInt8.le_antisymm (UInt8.not_lt.1 h2) (UInt8.not_lt.1 h1)
    rw [this,cmpBytes_zero h]
theorem cmpT_zero:∀ {a b:Tm},a.Nm → b.Nm → cmpT a b = 0 → a = b
 | .mk k n s l,b,ha,hb,h=>by
  have hl:∀ (p q:List Tm),(∀ u ∈ p,u ∈ l) → (∀ u ∈ q,u.Nm) → cmpT.cmps p q = 0 → p = q:=by
   intro p
   induction p with
   | nil=>intro q _ _ h; cases q with
    | nil=>rfl
    | cons u q=>cases h
   | cons t p ih =>
    intro q hp hq h
    cases q with
    | nil=>cases h
    | cons u q =>
     simp only [cmpT.cmps] at h
     obtain ⟨h1,h2⟩:=thn_eq_zero h
     rw [ih q (fun v hv=>hp v (List.mem_cons_of_mem _ hv)) (fun v hv=>hq v (List.mem_cons_of_mem _ hv)) h2]
     rw [cmpT_zero (a:=t) (b:=u) (by cases ha with | mk _ _ _ _ _ _ _ h=>exact h t (hp t (by simp))) (hq u (by simp)) h1]
  have hk:0 ≤ k:=by cases ha with | mk _ _ _ _ _ h _ _=>exact h.1
  have hk':0 ≤ b.kind:=by cases hb with | mk _ _ _ _ _ hh _ _=>exact hh.1
  have hbn:∀ u ∈ b.args,u.Nm:=by cases hb with | mk _ _ _ _ _ _ _ hh=>exact hh
  rw [cmpT_eq] at h
  obtain ⟨h1,h⟩:=thn_eq_zero h
  obtain ⟨h2,h⟩:=thn_eq_zero h
  obtain ⟨h3,h⟩:=thn_eq_zero h
  obtain ⟨h4,h⟩:=thn_eq_zero h
  obtain ⟨h5,h⟩:=thn_eq_zero h
  cases b with
  | mk k' n' s' l' =>
   have e1:k = k':=rank_inj hk hk' (ncmp_zero h1)
   have e2:n = n':=ncmp_zero h
   have e3:s = s':=cmpBytes_zero h4
   have e4:l = l':=hl l l' (fun u h=>h) hbn h5
   rw [e1,e2,e3,e4]
termination_by a=>SizeOf.sizeOf a
decreasing_by
 have:=List.sizeOf_lt_of_mem (hp t (by simp))
 simp only [Tm.mk.sizeOf_spec]; omega
def cmpA (a b:Am):Int:=thn (Lib.compareBytes a.pred b.pred) (thn (ncmp a.args.length b.args.length) (cmpT.cmps a.args b.args))
def serA (a:Am):List Int:=serS a.pred ++ ((a.args.length:Int) :: ser.sers a.args)
theorem lex_sers:∀ (p q:List Tm),(∀ u ∈ p,u.Nm) → (∀ u ∈ q,u.Nm) → p.length = q.length → lexI (ser.sers p) (ser.sers q) = cmpT.cmps p q
 | [],q,_,_,h=>by
  have:q = []:=List.eq_nil_of_length_eq_zero h.symm
  subst this; rfl
 | t :: p,[],_,_,h=>by cases h
 | t :: p,u :: q,hp,hq,h=>by
  simp only [ser.sers,cmpT.cmps]
  rw [lex_ser t u (hp t (by simp)) (hq u (by simp)),lex_sers p q (fun v hv=>hp v (by simp [hv])) (fun v hv=>hq v (by simp [hv])) (by simpa using h)]
theorem cmps_zero:∀ {p q:List Tm},(∀ u ∈ p,u.Nm) → (∀ u ∈ q,u.Nm) → cmpT.cmps p q = 0 → p = q
 | [],[],_,_,_=>rfl
 | [],_ :: _,_,_,h=>by cases h
 | _ :: _,[],_,_,h=>by cases h
 | t :: p,u :: q,hp,hq,h=>by
  simp only [cmpT.cmps] at h
  obtain ⟨h1,h2⟩:=thn_eq_zero h
  rw [cmpT_zero (hp t (by simp)) (hq u (by simp)) h1,cmps_zero (fun v hv=>hp v (by simp [hv])) (fun v hv=>hq v (by simp [hv])) h2]
theorem cmpA_lex {a b:Am} (ha:∀ t ∈ a.args,t.Nm) (hb:∀ t ∈ b.args,t.Nm):cmpA a b = lexI (serA a) (serA b):=by
 unfold serA cmpA
 rw [lex_serS,lexI]
 by_cases h:ncmp (a.args.length:Int) b.args.length = 0
 ·rw [lex_sers _ _ ha hb (by have:=ncmp_zero h; omega)]
 ·rw [thn_ne h,thn_ne h]
theorem cmpA_zero {a b:Am} (ha:∀ t ∈ a.args,t.Nm) (hb:∀ t ∈ b.args,t.Nm) (h:cmpA a b = 0):a = b:=by
 obtain ⟨h1,h⟩:=thn_eq_zero h
 obtain ⟨h2,h⟩:=thn_eq_zero h
 cases a; cases b
 have e1:=cmpBytes_zero h1
 have e2:=cmps_zero ha hb h
 simp only at e1 e2
 rw [e1,e2]
end Go.Abs

/- Literals as plain numbers: their order, and ordered lists of them. No program. -/
namespace Go.Abs
open Go.Proofs Go.Proofs.YthgbkalgmicniaaGreatDoor
def absL (l:Int):Int:=if -l > l then -l else l
def cmpL (a b:Int):Int:=thn (absL a - absL b) (b - a)
def ltL (a b:Int):Prop:=absL a < absL b ∨ (absL a = absL b ∧ b < a)
instance (a b:Int):Decidable (ltL a b):=by unfold ltL; infer_instance
def SmI (x:Int):Prop:=-1099511627776 ≤ x ∧ x ≤ 1099511627776
theorem ltL_irrefl (a:Int):¬ ltL a a:=by unfold ltL; omega
theorem ltL_trans {a b c:Int} (h:ltL a b) (h':ltL b c):ltL a c:=by unfold ltL at *; omega
theorem ltL_tri {a b:Int} (h:¬ ltL a b) (h':¬ ltL b a):a = b:=by unfold ltL absL at *; omega
theorem ltL_asymm {a b:Int} (h:ltL a b) (h':ltL b a):False:=ltL_irrefl a (ltL_trans h h')
theorem cmpL_lt (a b:Int):cmpL a b < 0 ↔ ltL a b:=by
 unfold cmpL thn ltL
 split <;> omega
theorem swoL {G:Int → Prop}:SWOn G (ltOf cmpL) where
 irrefl x _:=by
  have:=ltL_irrefl x
  rw [← cmpL_lt] at this; simp [ltOf,this]
 trans x y z _ _ _ h1 h2:=by
  simp only [ltOf,decide_eq_true_eq,cmpL_lt] at *
  exact ltL_trans h1 h2
 ntrans x y z _ _ _ h1 h2:=by
  simp only [ltOf,decide_eq_false_iff_not,cmpL_lt] at *
  intro h
  by_cases e:ltL y x
  ·exact h2 (ltL_trans e h)
  ·have:=ltL_tri h1 e
   subst this; exact h2 h
def insL (x:Int):List Int → List Int
 | []=>[x]
 | y :: r=>if x = y then y :: r else if ltL x y then x :: y :: r else y :: insL x r
def ordL (l:List Int):List Int:=l.foldr insL []
theorem insL_mem (x:Int):∀ (r:List Int) (z:Int),z ∈ insL x r ↔ z = x ∨ z ∈ r
 | [],z=>by simp [insL]
 | y :: r,z=>by
  unfold insL
  split
  ·rename_i h; subst h; simp
  ·split
   ·simp
   ·simp only [List.mem_cons,insL_mem x r z]
    constructor
    ·rintro (h | h | h)
     ·exact .inr (.inl h)
     ·exact .inl h
     ·exact .inr (.inr h)
    ·rintro (h | h | h)
     ·exact .inr (.inl h)
     ·exact .inl h
     ·exact .inr (.inr h)
theorem insL_asc (x:Int):∀ {r:List Int},r.Pairwise ltL → (insL x r).Pairwise ltL
 | [],_=>by simp [insL]
 | y :: r,h=>by
  rw [List.pairwise_cons] at h
  unfold insL
  split
  ·exact List.pairwise_cons.2 h
  ·rename_i hne
   split
   ·rename_i hlt
    refine List.pairwise_cons.2 ⟨fun z hz=>?_,List.pairwise_cons.2 h⟩
    rcases List.mem_cons.1 hz with rfl | hz
    ·exact hlt
    ·exact ltL_trans hlt (h.1 z hz)
   ·rename_i hlt
    refine List.pairwise_cons.2 ⟨fun z hz=>?_,insL_asc x h.2⟩
    rcases (insL_mem x r z).1 hz with rfl | hz
    ·by_cases e:ltL y z
     ·exact e
     ·exact absurd (ltL_tri hlt e) hne
    ·exact h.1 z hz
theorem ordL_mem:∀ (l:List Int) (z:Int),z ∈ ordL l ↔ z ∈ l
 | [],z=>by simp [ordL]
 | x :: l,z=>by
  have:=ordL_mem l z
  unfold ordL at *
  rw [List.foldr_cons,insL_mem,this,List.mem_cons]
theorem ordL_asc:∀ l:List Int,(ordL l).Pairwise ltL
 | []=>List.Pairwise.nil
 | x :: l=>insL_asc x (ordL_asc l)
theorem ascL_unique:∀ {p q:List Int},p.Pairwise ltL → q.Pairwise ltL → (∀ x,x ∈ p ↔ x ∈ q) → p = q
 | [],[],_,_,_=>rfl
 | [],y :: q,_,_,h=>absurd ((h y).2 (by simp)) (by simp)
 | x :: p,[],_,_,h=>absurd ((h x).1 (by simp)) (by simp)
 | x :: p,y :: q,hp,hq,h=>by
  rw [List.pairwise_cons] at hp hq
  have e:x = y:=by
   have h1:=(h x).1 (by simp)
   have h2:=(h y).2 (by simp)
   rcases List.mem_cons.1 h1 with h1 | h1
   ·exact h1
   ·rcases List.mem_cons.1 h2 with h2 | h2
    ·exact h2.symm
    ·exact (ltL_asymm (hq.1 x h1) (hp.1 y h2)).elim
  subst e
  congr 1
  refine ascL_unique hp.2 hq.2 fun z=>?_
  have:=h z
  simp only [List.mem_cons] at this
  constructor
  ·intro hz
   rcases this.1 (.inr hz) with rfl | h
   ·exact (ltL_irrefl _ (hp.1 _ hz)).elim
   ·exact h
  ·intro hz
   rcases this.2 (.inr hz) with rfl | h
   ·exact (ltL_irrefl _ (hq.1 _ hz)).elim
   ·exact h
theorem ordL_unique {p l:List Int} (hp:p.Pairwise ltL) (h:∀ x,x ∈ p ↔ x ∈ l):p = ordL l:=ascL_unique hp (ordL_asc l) fun x=>(h x).trans (ordL_mem l x).symm
theorem insL_len (x:Int):∀ r:List Int,(insL x r).length ≤ r.length + 1
 | []=>by simp [insL]
 | y :: r=>by
  have:=insL_len x r
  unfold insL
  split
  ·simp
  ·split
   ·simp
   ·simp only [List.length_cons]; omega
theorem ordL_len:∀ l:List Int,(ordL l).length ≤ l.length
 | []=>Nat.le_refl _
 | x :: l=>by
  have h1:=ordL_len l
  have h2:=insL_len x (ordL l)
  unfold ordL at *
  rw [List.foldr_cons,List.length_cons]; omega
theorem compact_ord {ys l:List Int} (hp:ys.Perm l) (ha:∀ i i' (h:i < ys.length) (h':i' < ys.length),i < i' → ltOf cmpL ys[i'] ys[i] = false):Lib.compact ys = ordL l:=by
 have hb:∀ i (h:i < ys.length),ys.toArray[i]! = ys[i]:=fun i h=>by rw [getElem!_pos ys.toArray i (by simpa using h)]; simp
 have ha':∀ i i' (h:i < ys.length) (h':i' < ys.length),i < i' → ¬ ltL ys[i'] ys[i]:=fun i i' h h' hi=>by
  have:=ha i i' h h' hi
  simpa [ltOf,cmpL_lt] using this
 have key:∀ m,m ≤ ys.length → (∀ x,x ∈ Lib.compactUpTo ys.toArray m ↔ ∃ j,∃ h:j < ys.length,j < m ∧ ys[j] = x) ∧ (Lib.compactUpTo ys.toArray m).Pairwise ltL:=by
  intro m
  induction m with
  | zero=>intro _; simp [Lib.compactUpTo]
  | succ m ih =>
   intro hm
   obtain ⟨i1,i2⟩:=ih (by omega)
   have hml:m < ys.length:=by omega
   rw [Lib.compactUpTo_succ]
   by_cases hk:Lib.keeps ys.toArray m = true
   ·rw [if_pos hk,hb m hml]
    refine ⟨fun x=>?_,List.pairwise_append.2 ⟨i2,by simp,fun x hx y hy=>?_⟩⟩
    ·simp only [List.mem_append,i1,List.mem_singleton]
     constructor
     ·rintro (⟨j,h,hj,rfl⟩ | rfl)
      ·exact ⟨j,h,by omega,rfl⟩
      ·exact ⟨m,hml,by omega,rfl⟩
     ·rintro ⟨j,h,hj,rfl⟩
      by_cases e:j = m
      ·subst e; exact .inr rfl
      ·exact .inl ⟨j,h,by omega,rfl⟩
    ·simp only [List.mem_singleton] at hy
     subst hy
     obtain ⟨j,h,hj,rfl⟩:=(i1 x).1 hx
     have h1:=ha' j m h hml hj
     by_cases e:ltL ys[j] ys[m]
     ·exact e
     ·have e2:=ltL_tri e h1
      exfalso
      have hne:ys[m] ≠ ys[m - 1]:=by
       simp only [Lib.keeps,Bool.or_eq_true,beq_iff_eq,bne_iff_ne,decide_eq_true_eq] at hk
       rcases hk with hk | hk
       ·omega
       ·rw [hb m hml,hb (m - 1) (by omega)] at hk; exact hk
      by_cases e3:j = m - 1
      ·subst e3; exact hne e2.symm
      ·have a1:=ha' j (m - 1) h (by omega) (by omega)
       have a2:=ha' (m - 1) m (by omega) hml (by omega)
       by_cases a3:ltL ys[m - 1] ys[m]
       ·rw [← e2] at a3; exact a1 a3
       ·exact hne (ltL_tri a2 a3)
   ·rw [if_neg hk,List.append_nil]
    refine ⟨fun x=>?_,i2⟩
    rw [i1]
    constructor
    ·rintro ⟨j,h,hj,rfl⟩; exact ⟨j,h,by omega,rfl⟩
    ·rintro ⟨j,h,hj,rfl⟩
     by_cases e:j = m
     ·subst e
      simp only [Lib.keeps,Bool.or_eq_true,beq_iff_eq,bne_iff_ne,decide_eq_true_eq,not_or] at hk
      have hj0:j ≠ 0:=fun e=>by simp [e] at hk
      have h2:ys[j] = ys[j - 1]:=by
       have:=hk
       rw [hb j h,hb (j - 1) (by omega)] at this
       simpa using this.2
      exact ⟨j - 1,by omega,by omega,h2.symm⟩
     ·exact ⟨j,h,by omega,rfl⟩
 obtain ⟨h1,h2⟩:=key ys.length (Nat.le_refl _)
 refine ordL_unique h2 fun x=>?_
 rw [Lib.compact,h1,← hp.mem_iff]
 constructor
 ·rintro ⟨j,h,_,rfl⟩; exact List.getElem_mem h
 ·intro hx
  obtain ⟨j,h,rfl⟩:=List.getElem_of_mem hx
  exact ⟨j,h,h,rfl⟩
end Go.Abs

/- The reference's terms and atoms: depth, validity. -/
namespace Go.Proofs.YthgbkalgmicniaaGreatDoor
open Go.Abs
set_option maxRecDepth 100000
end Go.Proofs.YthgbkalgmicniaaGreatDoor

/- The reference's terms and atoms: validity. -/
namespace Go.Proofs.YthgbkalgmicniaaGreatDoor
open Go.Abs
set_option maxRecDepth 100000
end Go.Proofs.YthgbkalgmicniaaGreatDoor

/- The reference's atoms: validity; comparisons. -/
namespace Go.Proofs.YthgbkalgmicniaaGreatDoor
open Go.Abs
set_option maxRecDepth 100000
theorem a87 (a:Int):Pure Tryz.prog 219 [.int .i64 a] (.bool false):=by
 intro n H
 refine a_fun tok (fun_of Tryz.func219 rfl rfl) (by simp) fun B=>?_
 repeat refine kn rfl ?_
 refine k_region tok rfl (by kernel_rfl) ?_
 simp only [go_sem,simprocAttr]
 repeat refine kn rfl ?_
 refine k_region tok rfl (by kernel_rfl) ?_
 simp only [go_sem,simprocAttr,bne]
 repeat refine kn rfl ?_
 refine k_ret rfl ?_
 refine post_one ?_ (.bool _) rfl
 try simp only [go_sem,simprocAttr]
 exact .refl _
theorem a51 (a b:Int):Pure Tryz.prog 132 [.int .i64 a,.int .i64 b] (.int .i64 (ncmp a b)):=by
 intro n H
 refine a_fun tok (fun_of Tryz.func132 rfl rfl) (by simp) fun B=>?_
 repeat refine kn rfl ?_
 refine k_region tok rfl (by kernel_rfl) ?_
 simp only [go_sem,simprocAttr]
 repeat refine kn rfl ?_
 refine k_region tok rfl (by kernel_rfl) ?_
 simp only [go_sem,simprocAttr]
 refine callP (fun_of Tryz.func219 rfl rfl) (a87 a) (by simp only [go_sem,simprocAttr]) ?_
 simp only [go_sem,simprocAttr]
 repeat refine kn rfl ?_
 refine k_region tok rfl (by kernel_rfl) ?_
 simp only [go_sem,simprocAttr]
 refine callP (fun_of Tryz.func219 rfl rfl) (a87 b) (by simp only [go_sem,simprocAttr]) ?_
 simp only [go_sem,simprocAttr]
 repeat refine kn rfl ?_
 refine k_region tok rfl (by kernel_rfl) ?_
 simp only [go_sem,simprocAttr]
 repeat refine kn rfl ?_
 refine k_cond_f rfl (by simp only [go_sem,simprocAttr]) ?_
 repeat refine kn rfl ?_
 refine k_region tok rfl (by kernel_rfl) ?_
 simp only [go_sem,simprocAttr]
 repeat refine kn rfl ?_
 refine k_cond_f rfl (by simp only [go_sem,simprocAttr]) ?_
 cases h1:decide (a < b) with
 | true =>
  repeat refine kn rfl ?_
  refine k_region tok rfl (by kernel_rfl) ?_
  simp only [go_sem,simprocAttr,h1]
  repeat refine kn rfl ?_
  refine k_cond_t rfl (by simp only [go_sem,simprocAttr]) ?_
  repeat refine kn rfl ?_
  refine k_region tok rfl (by kernel_rfl) ?_
  simp only [go_sem,simprocAttr]
  repeat refine kn rfl ?_
  refine k_ret rfl ?_
  refine post_one ?_ (.int _ _) rfl
  try simp only [go_sem,simprocAttr,ncmp,of_decide_eq_true h1]
  exact .refl _
 | false =>
  repeat refine kn rfl ?_
  refine k_region tok rfl (by kernel_rfl) ?_
  simp only [go_sem,simprocAttr,h1]
  repeat refine kn rfl ?_
  refine k_cond_f rfl (by simp only [go_sem,simprocAttr]) ?_
  cases h2:decide (b < a) with
  | true =>
   repeat refine kn rfl ?_
   refine k_region tok rfl (by kernel_rfl) ?_
   simp only [go_sem,simprocAttr,h2]
   repeat refine kn rfl ?_
   refine k_cond_t rfl (by simp only [go_sem,simprocAttr]) ?_
   repeat refine kn rfl ?_
   refine k_region tok rfl (by kernel_rfl) ?_
   simp only [go_sem,simprocAttr]
   repeat refine kn rfl ?_
   refine k_ret rfl ?_
   refine post_one ?_ (.int _ _) rfl
   try simp only [go_sem,simprocAttr,ncmp,of_decide_eq_false h1,of_decide_eq_true h2]
   exact .refl _
  | false =>
   repeat refine kn rfl ?_
   refine k_region tok rfl (by kernel_rfl) ?_
   simp only [go_sem,simprocAttr,h2]
   repeat refine kn rfl ?_
   refine k_cond_f rfl (by simp only [go_sem,simprocAttr]) ?_
   repeat refine kn rfl ?_
   refine k_region tok rfl (by kernel_rfl) ?_
   simp only [go_sem,simprocAttr]
   repeat refine kn rfl ?_
   refine k_ret rfl ?_
   refine post_one ?_ (.int _ _) rfl
   try simp only [go_sem,simprocAttr,ncmp,of_decide_eq_false h1,of_decide_eq_false h2]
   exact .refl _
def orL:List Int → Int
 | []=>0
 | a :: r=>thn a (orL r)
theorem orL_at {l:List Int} {i:Nat} (h:i < l.length) (hn:l[i] ≠ 0) (hq:∀ j (h:j < l.length),j < i → l[j] = 0):orL l = l[i]:=by
 induction l generalizing i with
 | nil=>exact absurd h (Nat.not_lt_zero _)
 | cons a r ih =>
  cases i with
  | zero=>simp only [List.getElem_cons_zero] at hn ⊢; rw [orL,thn_ne hn]
  | succ i =>
   have h0:=hq 0 (by simp) (by omega)
   simp only [List.getElem_cons_zero] at h0
   subst h0
   simp only [List.getElem_cons_succ] at hn ⊢
   rw [orL,thn_zero]
   exact ih (by simpa using h) hn (fun j hj hji=>by have:=hq (j + 1) (by simpa using hj) (by omega); simpa using this)
theorem orL_none {l:List Int} (hq:∀ j (h:j < l.length),l[j] = 0):orL l = 0:=by
 induction l with
 | nil=>rfl
 | cons a r ih =>
  have h0:=hq 0 (by simp)
  simp only [List.getElem_cons_zero] at h0
  rw [orL,h0,thn_zero]
  exact ih (fun j hj=>by have:=hq (j + 1) (by simpa using hj); simpa using this)
theorem ins_full {n k:Nat} {p:Nat → Prop} {xs:List AV} (hx:∀ x ∈ xs,Below n x):Inside n p (.sl k xs .full) :=
 .sl k xs _ (fun i hi c hc=>(((hx _ (List.getElem_mem hi)).cells _ (List.getElem_mem hc))).inside) (fun l j e=>by cases e)
theorem blw_ints {n:Nat} (k:IntKind) (l:List Int):∀ x ∈ l.map (AV.int k),Below n x:=fun x hx=>by obtain ⟨u,_,rfl⟩:=List.mem_map.1 hx; exact .int _ _
theorem getD_ints (l:List Int) (i:Nat) (h:i < l.length) (d:AV):(l.map eInt).getD i d = .int .i64 l[i]:=getD_map eInt l i h d
def st49 (l:List Int) (H:AHeap) (i:Nat):AState :=
 ⟨[(8,.int .i64 i),(7,.int .i64 l.length),(6,.sl 1 (l.map eInt) .full),(3,.int .i64 0)],[],H⟩
theorem a49 (l:List Int) (hl:l.length ≤ 1000000):Pure Tryz.prog 131 [.sl 1 (l.map eInt) .full] (.int .i64 (orL l)):=by
 intro n H
 refine a_fun tok (fun_of Tryz.func131 rfl rfl) (by simp) fun B=>?_
 repeat refine kn rfl ?_
 refine k_region tok rfl (by kernel_rfl) ?_
 simp only [go_sem,simprocAttr]
 repeat refine kn rfl ?_
 refine k_region tok rfl (by kernel_rfl) ?_
 simp only [go_sem,simprocAttr]
 repeat refine kn rfl ?_
 refine k_region tok rfl (by kernel_rfl) ?_
 simp only [go_sem,simprocAttr]
 repeat refine kn rfl ?_
 refine k_loop_p (st49 l H) (fun i=>∀ j (h:j < l.length),j < i → l[j] = 0) l.length rfl ?_ (fun j _ h=>absurd h (Nat.not_lt_zero _)) ?_
 ·refine AWk_kept ?_ ?_ ?_ ?_ <;> repeat' first | exact trivial | refine q0 ?_ | exact qb | exact q1 | exact q2 | exact q3 | exact rfl | refine And.intro ?_ ?_ | exact q4 | exact q5 | exact q6 | exact q7 | exact Inside.ptr _ _ _ (.inr ⟨rfl,rfl⟩) | exact q8 | exact q9 | exact qd | exact Tm.ins _ | exact Tm.inss _ _ | exact Am.ins _ | exact Am.inss _ _ | refine ins_buf_str ?_ | refine Tm.ins_buf ?_ | refine Am.ins_buf ?_ | exact qf
  exact ins_full (blw_ints .i64 l)
 intro i hi hq
 refine k_st rfl ?_
 rcases Nat.lt_or_ge i l.length with h | h
 ·repeat refine kn rfl ?_
  refine k_region tok rfl (by kernel_rfl) ?_
  simp only [go_sem,simprocAttr,h]
  repeat refine kn rfl ?_
  refine k_cond_t rfl (by simp only [go_sem,simprocAttr]) ?_
  repeat refine kn rfl ?_
  refine k_region tok rfl (by kernel_rfl) ?_
  simp only [go_sem,simprocAttr,getD_ints _ _ h,h]
  repeat refine kn rfl ?_
  refine k_region tok rfl (by kernel_rfl) ?_
  simp only [go_sem,simprocAttr]
  cases h5:(l[i] == 0) with
  | false =>
   simp only [go_sem,simprocAttr,bne,h5]
   repeat refine kn rfl ?_
   refine k_cond_t rfl (by simp only [go_sem,simprocAttr]) ?_
   repeat refine kn rfl ?_
   refine k_region tok rfl (by kernel_rfl) ?_
   simp only [go_sem,simprocAttr]
   repeat refine kn rfl ?_
   refine k_ret_round rfl ?_
   refine post_one ?_ (.int _ _) rfl
   rw [orL_at h (by simpa using h5) hq]
   exact .refl _
  | true =>
   simp only [go_sem,simprocAttr,bne,h5]
   repeat refine kn rfl ?_
   refine k_cond_f rfl (by simp only [go_sem,simprocAttr]) ?_
   repeat refine kn rfl ?_
   refine k_region tok rfl (by kernel_rfl) ?_
   simp only [go_sem,simprocAttr]
   repeat refine kn rfl ?_
   refine k_nil ?_
   refine ⟨fun j hj hji=>?_,?_⟩
   ·rcases Nat.lt_or_ge j i with h' | h'
    ·exact hq j hj h'
    ·have:j = i:=by omega
     subst this; simpa using h5
   ·refine AWk_kept ?_ ?_ ?_ ?_ <;> repeat' first | exact trivial | refine q0 ?_ | exact qb | exact q1 | exact q2 | exact q3 | exact rfl | refine And.intro ?_ ?_ | exact q4 | exact q5 | exact q6 | exact q7 | exact Inside.ptr _ _ _ (.inr ⟨rfl,rfl⟩) | exact q8 | exact q9 | exact qd | exact Tm.ins _ | exact Tm.inss _ _ | exact Am.ins _ | exact Am.inss _ _ | refine ins_buf_str ?_ | refine Tm.ins_buf ?_ | refine Am.ins_buf ?_ | exact qf
    ·simp only [go_sem,simprocAttr]
     rw [IntWalk.i64_in _ (by omega)]; exact .refl _
    ·exact ins_full (blw_ints .i64 l)
 ·repeat refine kn rfl ?_
  refine k_region tok rfl (by kernel_rfl) ?_
  simp only [go_sem,simprocAttr,Nat.not_lt.2 h]
  repeat refine kn rfl ?_
  refine k_cond_f rfl (by simp only [go_sem,simprocAttr]) ?_
  repeat refine kn rfl ?_
  refine k_exit_round rfl rfl rfl ?_
  repeat refine kn rfl ?_
  refine k_region tok rfl (by kernel_rfl) ?_
  simp only [go_sem,simprocAttr]
  repeat refine kn rfl ?_
  refine k_ret rfl ?_
  refine post_one ?_ (.int _ _) rfl
  rw [orL_none (fun j hj=>hq j hj (by omega))]
  exact .refl _
def idxI (l:List Int) (k:Int):Int:=idxF (fun x=>k == x) l
def st119 (l:List Int) (k:Int) (H:AHeap) (i:Nat):AState :=
 ⟨[(8,.int .i64 i),(7,.int .i64 l.length),(0,.sl 1 (l.map (AV.int .u8)) .full),(1,.int .u8 k)],[],H⟩
theorem a119 (l:List Int) (k:Int) (hl:l.length ≤ 1000000):Pure Tryz.prog 296 [.sl 1 (l.map (AV.int .u8)) .full,.int .u8 k] (.int .i64 (idxI l k)):=by
 intro n H
 refine a_fun tok (fun_of Tryz.func296 rfl rfl) (by simp) fun B=>?_
 repeat refine kn rfl ?_
 refine k_region tok rfl (by kernel_rfl) ?_
 simp only [go_sem,simprocAttr]
 repeat refine kn rfl ?_
 refine k_region tok rfl (by kernel_rfl) ?_
 simp only [go_sem,simprocAttr]
 repeat refine kn rfl ?_
 refine k_loop_p (st119 l k H) (fun i=>∀ j (h:j < l.length),j < i → (k == l[j]) = false) l.length rfl ?_ (fun j _ h=>absurd h (Nat.not_lt_zero _)) ?_
 ·refine AWk_kept ?_ ?_ ?_ ?_ <;> repeat' first | exact trivial | refine q0 ?_ | exact qb | exact q1 | exact q2 | exact q3 | exact rfl | refine And.intro ?_ ?_ | exact q4 | exact q5 | exact q6 | exact q7 | exact Inside.ptr _ _ _ (.inr ⟨rfl,rfl⟩) | exact q8 | exact q9 | exact qd | exact Tm.ins _ | exact Tm.inss _ _ | exact Am.ins _ | exact Am.inss _ _ | refine ins_buf_str ?_ | refine Tm.ins_buf ?_ | refine Am.ins_buf ?_ | exact qf
  exact ins_full (blw_ints .u8 l)
 intro i hi hq
 refine k_st rfl ?_
 rcases Nat.lt_or_ge i l.length with h | h
 ·repeat refine kn rfl ?_
  refine k_region tok rfl (by kernel_rfl) ?_
  simp only [go_sem,simprocAttr,h]
  repeat refine kn rfl ?_
  refine k_cond_t rfl (by simp only [go_sem,simprocAttr]) ?_
  repeat refine kn rfl ?_
  refine k_region tok rfl (by kernel_rfl) ?_
  simp only [go_sem,simprocAttr]
  repeat refine kn rfl ?_
  refine k_region tok rfl (by kernel_rfl) ?_
  simp only [go_sem,simprocAttr,getD_map (AV.int .u8) l i h,h]
  cases h5:(k == l[i]) with
  | true =>
   repeat refine kn rfl ?_
   refine k_cond_t rfl (by simp only [go_sem,simprocAttr,h5]) ?_
   repeat refine kn rfl ?_
   refine k_region tok rfl (by kernel_rfl) ?_
   simp only [go_sem,simprocAttr]
   repeat refine kn rfl ?_
   refine k_ret_round rfl ?_
   refine post_one ?_ (.int _ _) rfl
   rw [idxI,idxF_at h h5 hq]
   exact .refl _
  | false =>
   repeat refine kn rfl ?_
   refine k_cond_f rfl (by simp only [go_sem,simprocAttr,h5]) ?_
   repeat refine kn rfl ?_
   refine k_region tok rfl (by kernel_rfl) ?_
   simp only [go_sem,simprocAttr]
   repeat refine kn rfl ?_
   refine k_nil ?_
   refine ⟨fun j hj hji=>?_,?_⟩
   ·rcases Nat.lt_or_ge j i with h' | h'
    ·exact hq j hj h'
    ·have:j = i:=by omega
     subst this; exact h5
   ·refine AWk_kept ?_ ?_ ?_ ?_ <;> repeat' first | exact trivial | refine q0 ?_ | exact qb | exact q1 | exact q2 | exact q3 | exact rfl | refine And.intro ?_ ?_ | exact q4 | exact q5 | exact q6 | exact q7 | exact Inside.ptr _ _ _ (.inr ⟨rfl,rfl⟩) | exact q8 | exact q9 | exact qd | exact Tm.ins _ | exact Tm.inss _ _ | exact Am.ins _ | exact Am.inss _ _ | refine ins_buf_str ?_ | refine Tm.ins_buf ?_ | refine Am.ins_buf ?_ | exact qf
    ·simp only [go_sem,simprocAttr]
     rw [IntWalk.i64_in _ (by omega)]; exact .refl _
    ·exact ins_full (blw_ints .u8 l)
 ·repeat refine kn rfl ?_
  refine k_region tok rfl (by kernel_rfl) ?_
  simp only [go_sem,simprocAttr,Nat.not_lt.2 h]
  repeat refine kn rfl ?_
  refine k_cond_f rfl (by simp only [go_sem,simprocAttr]) ?_
  repeat refine kn rfl ?_
  refine k_exit_round rfl rfl rfl ?_
  repeat refine kn rfl ?_
  refine k_region tok rfl (by kernel_rfl) ?_
  simp only [go_sem,simprocAttr]
  repeat refine kn rfl ?_
  refine k_ret rfl ?_
  refine post_one ?_ (.int _ _) rfl
  rw [idxI,idxF_none (fun j hj=>hq j hj (by omega))]
  exact .refl _
theorem idx_rank (k:Int):idxI [1,2,4,3,5,6] k = if k = 1 then 0 else if k = 2 then 1 else if k = 4 then 2 else if k = 3 then 3 else if k = 5 then 4 else if k = 6 then 5 else -1:=by
 by_cases h1:k = 1
 ·subst h1; rfl
 by_cases h2:k = 2
 ·subst h2; rfl
 by_cases h4:k = 4
 ·subst h4; rfl
 by_cases h3:k = 3
 ·subst h3; rfl
 by_cases h5:k = 5
 ·subst h5; rfl
 by_cases h6:k = 6
 ·subst h6; rfl
 unfold idxI idxF
 simp [h1,h2,h3,h4,h5,h6]
theorem rank_idx (k:Int):rank k = if 0 ≤ idxI [1,2,4,3,5,6] k then idxI [1,2,4,3,5,6] k else 6 + k:=by
 rw [idx_rank]; unfold rank
 repeat' split
 all_goals first | rfl | omega
theorem a88 (k:Int) (hk:0 ≤ k ∧ k ≤ 255):Pure Tryz.prog 220 [.int .u8 k] (.int .i64 (rank k)):=by
 intro n H
 have hr:=rank_idx k
 have ha:=a119 [1,2,4,3,5,6] k (by decide)
 simp only [List.map_cons,List.map_nil] at ha
 generalize idxI [1,2,4,3,5,6] k = i at ha hr
 refine a_fun tok (fun_of Tryz.func220 rfl rfl) (by simp) fun B=>?_
 repeat refine kn rfl ?_
 refine k_region tok rfl (by kernel_rfl) ?_
 simp only [go_sem,simprocAttr]
 repeat refine kn rfl ?_
 refine k_region tok rfl (by kernel_rfl) ?_
 simp only [go_sem,simprocAttr]
 refine ⟨by decide,?_⟩
 repeat refine kn rfl ?_
 refine k_region tok rfl (by kernel_rfl) ?_
 simp only [go_sem,simprocAttr]
 refine callP (fun_of Tryz.func296 rfl rfl) (ha) (by simp only [go_sem,simprocAttr]) ?_
 simp only [go_sem,simprocAttr]
 cases h1:decide (0 ≤ i) with
 | true =>
  repeat refine kn rfl ?_
  refine k_region tok rfl (by kernel_rfl) ?_
  simp only [go_sem,simprocAttr,h1]
  repeat refine kn rfl ?_
  refine k_cond_t rfl (by simp only [go_sem,simprocAttr]) ?_
  repeat refine kn rfl ?_
  refine k_region tok rfl (by kernel_rfl) ?_
  simp only [go_sem,simprocAttr]
  repeat refine kn rfl ?_
  refine k_ret rfl ?_
  refine post_one ?_ (.int _ _) rfl
  rw [hr,if_pos (of_decide_eq_true h1)]
  exact .refl _
 | false =>
  repeat refine kn rfl ?_
  refine k_region tok rfl (by kernel_rfl) ?_
  simp only [go_sem,simprocAttr,h1]
  repeat refine kn rfl ?_
  refine k_cond_f rfl (by simp only [go_sem,simprocAttr]) ?_
  repeat refine kn rfl ?_
  refine k_region tok rfl (by kernel_rfl) ?_
  simp only [go_sem,simprocAttr]
  repeat refine kn rfl ?_
  refine k_ret rfl ?_
  refine post_one ?_ (.int _ _) rfl
  simp only [go_sem,simprocAttr]
  rw [hr,if_neg (of_decide_eq_false h1),IntWalk.i64_in k (by omega),IntWalk.i64_in _ (by omega)]
  exact .refl _
structure CmpF (f:Nat) (p q:List Tm):Prop where
 fn:∃ fn c,Fun Tryz.prog f fn c
 on:∀ x ∈ p,∀ y ∈ q,Pure Tryz.prog f [x.enc,y.enc] (.int .i64 (cmpT x y))
def st52 (p q:List Tm) (f:Nat) (H:AHeap) (i:Nat):AState :=
 ⟨[(13,.int .i64 i),(12,.int .i64 p.length),(11,.sl 4 (p.map Tm.enc) .any),(0,.sl 4 (p.map Tm.enc) .any),(1,.sl 4 (q.map Tm.enc) .any),(2,.fn (.func f) [])],[],H⟩
theorem cmps_drop (p q:List Tm) (i:Nat) (h:i < p.length) (h':i < q.length):cmpT.cmps (p.drop i) (q.drop i) = thn (cmpT p[i] q[i]) (cmpT.cmps (p.drop (i + 1)) (q.drop (i + 1))):=by
 rw [List.drop_eq_getElem_cons h,List.drop_eq_getElem_cons h']; rfl
theorem a52 (p q:List Tm) (hp:p.length ≤ 1000000) (hq:q.length ≤ 1000000) (f:Nat) (hf:CmpF f p q):Pure Tryz.prog 133 [.sl 4 (p.map Tm.enc) .any,.sl 4 (q.map Tm.enc) .any,.fn (.func f) []] (.int .i64 (cmpT.cmps p q)):=by
 intro n H
 obtain ⟨⟨fn,c,hf⟩,hon⟩:=hf
 have hfi:∀ r,Inside n r (.fn (.func f) []):=fun r=>Inside.fn _ _ (fun i h=>absurd h (Nat.not_lt_zero _))
 refine a_fun tok (fun_of Tryz.func133 rfl rfl) (by simp) fun B=>?_
 repeat refine kn rfl ?_
 refine k_region tok rfl (by kernel_rfl) ?_
 simp only [go_sem,simprocAttr]
 repeat refine kn rfl ?_
 refine k_region tok rfl (by kernel_rfl) ?_
 simp only [go_sem,simprocAttr]
 repeat refine kn rfl ?_
 refine k_loop_p (st52 p q f H) (fun i=>cmpT.cmps p q = cmpT.cmps (p.drop i) (q.drop i)) p.length rfl ?_ rfl ?_
 ·refine AWk_kept ?_ ?_ ?_ ?_ <;> repeat' first | exact trivial | refine q0 ?_ | exact qb | exact q1 | exact q2 | exact q3 | exact rfl | refine And.intro ?_ ?_ | exact q4 | exact q5 | exact q6 | exact q7 | exact Inside.ptr _ _ _ (.inr ⟨rfl,rfl⟩) | exact q8 | exact q9 | exact qd | exact Tm.ins _ | exact Tm.inss _ _ | exact Am.ins _ | exact Am.inss _ _ | refine ins_buf_str ?_ | refine Tm.ins_buf ?_ | refine Am.ins_buf ?_ | exact qf
 intro i hi hc
 refine k_st rfl ?_
 rcases Nat.lt_or_ge i p.length with h | h
 ·repeat refine kn rfl ?_
  refine k_region tok rfl (by kernel_rfl) ?_
  simp only [go_sem,simprocAttr,h]
  repeat refine kn rfl ?_
  refine k_cond_t rfl (by simp only [go_sem,simprocAttr]) ?_
  repeat refine kn rfl ?_
  refine k_region tok rfl (by kernel_rfl) ?_
  simp only [go_sem,simprocAttr,Tm.getD_enc _ _ h,h]
  rcases Nat.lt_or_ge i q.length with h' | h'
  ·repeat refine kn rfl ?_
   refine k_region tok rfl (by kernel_rfl) ?_
   simp only [go_sem,simprocAttr,h',Nat.not_le.2 h']
   repeat refine kn rfl ?_
   refine k_cond_f rfl (by simp only [go_sem,simprocAttr]) ?_
   repeat refine kn rfl ?_
   refine k_region tok rfl (by kernel_rfl) ?_
   simp only [go_sem,simprocAttr,Tm.getD_enc _ _ h',h']
   repeat refine kn rfl ?_
   refine k_region tok rfl (by kernel_rfl) ?_
   simp only [go_sem,simprocAttr]
   refine callV (avs:=[p[i].enc,q[i].enc]) rfl hf (hon _ (List.getElem_mem h) _ (List.getElem_mem h') _ _) rfl ?_
   simp only [go_sem,simprocAttr]
   cases h5:(cmpT p[i] q[i] == 0) with
   | false =>
    repeat refine kn rfl ?_
    refine k_region tok rfl (by kernel_rfl) ?_
    simp only [go_sem,simprocAttr,bne,h5]
    repeat refine kn rfl ?_
    refine k_cond_t rfl (by simp only [go_sem,simprocAttr]) ?_
    repeat refine kn rfl ?_
    refine k_region tok rfl (by kernel_rfl) ?_
    simp only [go_sem,simprocAttr]
    repeat refine kn rfl ?_
    refine k_ret_round rfl ?_
    refine post_one ?_ (.int _ _) rfl
    rw [hc,cmps_drop p q i h h',thn_ne (by simpa using h5)]
    exact .refl _
   | true =>
    repeat refine kn rfl ?_
    refine k_region tok rfl (by kernel_rfl) ?_
    simp only [go_sem,simprocAttr,bne,h5]
    repeat refine kn rfl ?_
    refine k_cond_f rfl (by simp only [go_sem,simprocAttr]) ?_
    repeat refine kn rfl ?_
    refine k_region tok rfl (by kernel_rfl) ?_
    simp only [go_sem,simprocAttr]
    repeat refine kn rfl ?_
    refine k_nil ?_
    refine ⟨?_,?_⟩
    ·rw [hc,cmps_drop p q i h h',(by simpa using h5:cmpT p[i] q[i] = 0),thn_zero]
    ·refine AWk_kept ?_ ?_ ?_ ?_ <;> repeat' first | exact trivial | refine q0 ?_ | exact qb | exact q1 | exact q2 | exact q3 | exact rfl | refine And.intro ?_ ?_ | exact q4 | exact q5 | exact q6 | exact q7 | exact Inside.ptr _ _ _ (.inr ⟨rfl,rfl⟩) | exact q8 | exact q9 | exact qd | exact Tm.ins _ | exact Tm.inss _ _ | exact Am.ins _ | exact Am.inss _ _ | refine ins_buf_str ?_ | refine Tm.ins_buf ?_ | refine Am.ins_buf ?_ | exact qf
     simp only [go_sem,simprocAttr]
     rw [IntWalk.i64_in _ (by omega)]; exact .refl _
  ·repeat refine kn rfl ?_
   refine k_region tok rfl (by kernel_rfl) ?_
   simp only [go_sem,simprocAttr,h']
   repeat refine kn rfl ?_
   refine k_cond_t rfl (by simp only [go_sem,simprocAttr]) ?_
   repeat refine kn rfl ?_
   refine k_region tok rfl (by kernel_rfl) ?_
   simp only [go_sem,simprocAttr]
   repeat refine kn rfl ?_
   refine k_ret_round rfl ?_
   refine post_one ?_ (.int _ _) rfl
   rw [hc,List.drop_eq_nil_of_le h',List.drop_eq_getElem_cons h]
   exact .refl _
 ·repeat refine kn rfl ?_
  refine k_region tok rfl (by kernel_rfl) ?_
  simp only [go_sem,simprocAttr,Nat.not_lt.2 h]
  repeat refine kn rfl ?_
  refine k_cond_f rfl (by simp only [go_sem,simprocAttr]) ?_
  repeat refine kn rfl ?_
  refine k_exit_round rfl rfl rfl ?_
  have hi':i = p.length:=by omega
  subst hi'
  rw [List.drop_length] at hc
  cases h1:decide (p.length < q.length) with
  | true =>
   repeat refine kn rfl ?_
   refine k_region tok rfl (by kernel_rfl) ?_
   simp only [go_sem,simprocAttr,h1]
   repeat refine kn rfl ?_
   refine k_cond_t rfl (by simp only [go_sem,simprocAttr]) ?_
   repeat refine kn rfl ?_
   refine k_region tok rfl (by kernel_rfl) ?_
   simp only [go_sem,simprocAttr]
   repeat refine kn rfl ?_
   refine k_ret rfl ?_
   refine post_one ?_ (.int _ _) rfl
   rw [hc,List.drop_eq_getElem_cons (by have:=of_decide_eq_true h1; omega)]
   exact .refl _
  | false =>
   repeat refine kn rfl ?_
   refine k_region tok rfl (by kernel_rfl) ?_
   simp only [go_sem,simprocAttr,h1]
   repeat refine kn rfl ?_
   refine k_cond_f rfl (by simp only [go_sem,simprocAttr]) ?_
   repeat refine kn rfl ?_
   refine k_region tok rfl (by kernel_rfl) ?_
   simp only [go_sem,simprocAttr]
   repeat refine kn rfl ?_
   refine k_ret rfl ?_
   refine post_one ?_ (.int _ _) rfl
   rw [hc,List.drop_eq_nil_of_le (by have:=of_decide_eq_false h1; omega)]
   exact .refl _
end Go.Proofs.YthgbkalgmicniaaGreatDoor
