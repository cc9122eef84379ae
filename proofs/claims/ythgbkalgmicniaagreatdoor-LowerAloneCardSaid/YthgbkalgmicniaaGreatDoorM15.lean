/- A map's keys, collected, in order; the literals of a map of weights and their weights. -/
import Derived.Test.YthgbkalgmicniaaGreatDoorM14
import Derived.Test.YthgbkalgmicniaaGreatDoorM13
import Derived.Test.YthgbkalgmicniaaGreatDoorM12
import Derived.Test.YthgbkalgmicniaaGreatDoorM11
set_option linter.all false
namespace Go.Proofs.YthgbkalgmicniaaGreatDoor
open Go.Abs
set_option maxRecDepth 100000
theorem allA {n:Nat} {p:Nat → Prop}:∀ l:List Int,AllP (fun c=>Inside n p c) (aInts l)
 | []=>trivial
 | _ :: l=>⟨.int _ _,allA l⟩
def L338 (n:Nat) (ks:List Int):List (Nat × ABlk):=[(2,.box [.msl 1 n 200 ks.length]),(200,.mbuf 3 1 (aInts ks) ks.length)]
theorem a338 (n:Nat) (H:AHeap) (l k:Nat) (w:Wm) (hl:l < n) (hw:w.length ≤ 100000) (hH:H l k = some (.map (encW w))) (l2 k2:Nat) (hl2:l2 < n) (hf:H l2 k2 = none) :
  ACalls Tryz.prog n 338 [.sl 1 [] .full,.fn (.func 299) [.iptr [.map l k]]] H fun r H'=>∃ ks:List Int,ks.Perm (w.map Prod.fst) ∧ r = .msl 1 l2 k2 ks.length ∧ H' = H.upd l2 k2 (.mbuf 3 1 (aInts ks) ks.length):=by
 have hne:¬ l = n:=by omega
 have hne2:¬ l2 = n:=by omega
 have hfb:∀ m,l < m → Below m (.fn (.func 299) [.iptr [.map l k]]):=fun m hm=>blw_fn ⟨below_iptr ⟨.map _ _ hm,trivial⟩,trivial⟩
 refine a_fun tok (fun_of Tryz.func338 rfl rfl) (by simp) fun B=>?_
 repeat refine kn rfl ?_
 refine k_region tok rfl (by kernel_rfl) ?_
 simp only [go_sem,simprocAttr]
 repeat refine kn rfl ?_
 refine k_region tok rfl (by kernel_rfl) ?_
 simp only [go_sem,simprocAttr]
 repeat refine kn rfl ?_
 refine k_adopt_cell 2 200 0 3 1 rfl rfl rfl ?_
 simp only [go_sem,simprocAttr]
 simp only [go_sem,simprocAttr,List.set_cons_zero]
 obtain ⟨tm,htm⟩:∃ tm:List (Nat × AV),tm = [(6,.fn (.func 299) [.iptr [.map l k]]),(4,.sl 1 [] .full),(2,.ptr n 2 0),(0,.sl 1 [] .full),(1,.fn (.func 299) [.iptr [.map l k]])]:=⟨_,rfl⟩
 have h6:lkv tm 6 = .fn (.func 299) [.iptr [.map l k]]:=by rw [htm]; rfl
 have h2:lkv tm 2 = .ptr n 2 0:=by rw [htm]; rfl
 have hbt:AllP (fun p=>Below (n + 1) p.2) tm:=by
  rw [htm]
  exact ⟨hfb _ (by omega),below_sl (fun _ h=>by cases h) (fun _ _ e=>by cases e),.ptr _ _ _ (Nat.lt_succ_self n),below_sl (fun _ h=>by cases h) (fun _ _ e=>by cases e),hfb _ (by omega),trivial⟩
 rw [← htm]
 clear htm
 refine k_rangeFunc (caps:=[.iptr [.map l k]]) 100 rfl (by simp only [go_sem,simprocAttr,h6]) (fun_of Tryz.func299 rfl rfl) rfl fun y=>?_
 refine ⟨_,a299 (x:=n) (l:=y) (S:=fun ks=>lkb (setb (L338 n ks) 100 (.lrec y Tryz.f338.ntmps tm #[7] (bodyOf Tryz.f338).snd.fst.snd.fst.fst (bodyOf Tryz.f338).snd.fst.snd.fst.snd .ready none))) ?_ ?_ (n + 1) _ l k w hl (Nat.lt_succ_self n) hw (by rw [full_low hl]; exact hH) (fun j=>by simp only [full,if_true]; rfl),?_⟩
 ·intro m H' ks x hm hks hlv
  have hnm:¬ n = m:=by omega
  have h2':=hlv 2
  have h200:=hlv 200
  have h100:=hlv 100
  simp only [L338,setb,lkb] at h2' h200 h100
  refine k_ayields tt (x:=n) (y:=100) h100 hm rfl (by decide) fun B'=>?_
  show AKc _ _ _ ⟨(7,.int .i64 x) :: tm,[],H'⟩
  repeat refine kn rfl ?_
  refine k_region tok rfl (by kernel_rfl) ?_
  simp only [go_sem,simprocAttr]
  repeat refine kn rfl ?_
  refine k_nil ?_
  refine ⟨rfl,h100,?_⟩
  simp only [go_sem,simprocAttr]
  repeat refine kn rfl ?_
  refine k_region tok rfl (by kernel_rfl) ?_
  simp only [go_sem,simprocAttr,hnm,h2,h2',h200,full,AHeap.upd,(show ¬ m = n by omega)]
  have hfl:aInts ks ++ flat [AV.int IntKind.i64 x] = aInts (ks ++ [x]):=by simp [aInts,flat,AV.cells]
  have hl1:ks.length + 1 = (ks ++ [x]).length:=by simp
  rw [hfl]
  refine ⟨rfl,⟨le_maxLen (by omega),by omega⟩,.inr (blwI _ _ _ _),.inr (ABlk.below_box ⟨.msl _ _ _ _ hm,trivial⟩),?_⟩
  rw [hl1]
  repeat refine kn rfl ?_
  repeat refine kn rfl ?_
  refine k_nil ?_
  refine ⟨by simp [AHeap.upd],rfl,eq_setLv (fun j=>?_) (fun l' j hne=>?_)⟩
  ·by_cases e1:j = 100
   ·subst e1; simp [AHeap.upd,setb,lkb,L338]
   ·by_cases e2:j = 2
    ·subst e2; simp [AHeap.upd,setb,lkb,L338]
    ·by_cases e3:j = 200
     ·subst e3; simp [AHeap.upd,setb,lkb,L338]
     ·simp [AHeap.upd,e1,e2,e3,hlv j,setb,lkb,L338,Ne.symm e1,Ne.symm e2,Ne.symm e3]
  ·simp [AHeap.upd,hne]
 ·intro ks j b' h
  have hb:AllP (fun q:Nat × ABlk=>q.2.Below (n + 1)) (setb (L338 n ks) 100 (.lrec y Tryz.f338.ntmps tm #[7] (bodyOf Tryz.f338).snd.fst.snd.fst.fst (bodyOf Tryz.f338).snd.fst.snd.fst.snd .ready none)) :=
   ⟨ABlk.below_box ⟨.msl _ _ _ _ (Nat.lt_succ_self n),trivial⟩,blwI _ _ _ _,ABlk.below_lrec hbt,trivial⟩
  exact hb.mem _ (lkb_mem h)
 ·rintro r H1 ⟨ks,hp,rfl⟩
  refine ⟨setb (L338 n ks) 100 (.lrec y Tryz.f338.ntmps tm #[7] (bodyOf Tryz.f338).snd.fst.snd.fst.fst (bodyOf Tryz.f338).snd.fst.snd.fst.snd .ready none),H,.ready,none,?_,.refl _ _,rfl,by simp,?_⟩
  ·funext l' j
   simp only [AHeap.setLv,full]
   by_cases e:l' = n
   ·rw [if_pos e,if_pos e]
   ·rw [if_neg e,if_neg e,if_neg e]
  simp only [go_sem,simprocAttr,L338,setb]
  repeat refine kn rfl ?_
  refine k_region tok rfl (by kernel_rfl) ?_
  simp only [go_sem,simprocAttr,h2]
  repeat refine kn rfl ?_
  refine k_weak (s':=⟨[(4,.msl 1 n 200 ks.length)],[(200,.mbuf 3 1 (aInts ks) ks.length)],H⟩) ?_ ?_
  ·refine AWk_kept ?_ ?_ ?_ ?_ <;> repeat' first | exact trivial | refine q0 ?_ | exact qb | exact q1 | exact q2 | exact q3 | exact rfl | refine And.intro ?_ ?_ | exact q4 | exact q5 | exact q6 | exact q7 | exact Inside.ptr _ _ _ (.inr ⟨rfl,rfl⟩) | exact q8 | exact q9 | exact qd | exact Tm.ins _ | exact Tm.inss _ _ | exact Am.ins _ | exact Am.inss _ _ | refine ins_buf_str ?_ | refine Tm.ins_buf ?_ | refine Am.ins_buf ?_ | exact qf
   all_goals first | exact insMs (.inr ⟨rfl,rfl⟩) | exact allA ks | skip
  refine k_give 200 l2 k2 _ [(4,.msl 1 l2 k2 ks.length)] hl2 hf rfl (blwI _ _ _ _) ⟨⟨.inr (.inr (.inr ⟨1,_,rfl⟩)),by simp [lkv,ren]; exact .refl _⟩,trivial⟩ trivial ?_
  repeat refine kn rfl ?_
  refine k_ret rfl ?_
  exact post_oneQ (.refl _) (.msl _ _ _ _ hl2) ⟨ks,hp,rfl,rfl⟩
theorem a298 (n:Nat) (H:AHeap) (l k:Nat) (w:Wm) (hl:l < n) (hw:w.length ≤ 100000) (hH:H l k = some (.map (encW w))) (l2 k2:Nat) (hl2:l2 < n) (hf:H l2 k2 = none) :
  ACalls Tryz.prog n 298 [.fn (.func 299) [.iptr [.map l k]]] H fun r H'=>∃ ks:List Int,ks.Perm (w.map Prod.fst) ∧ r = .msl 1 l2 k2 ks.length ∧ H' = H.upd l2 k2 (.mbuf 3 1 (aInts ks) ks.length):=by
 have hne2:¬ l2 = n:=by omega
 refine a_fun tok (fun_of Tryz.func298 rfl rfl) (by simp) fun B=>?_
 repeat refine kn rfl ?_
 refine k_region tok rfl (by kernel_rfl) ?_
 simp only [go_sem,simprocAttr]
 repeat refine kn rfl ?_
 refine k_region tok rfl (by kernel_rfl) ?_
 simp only [go_sem,simprocAttr]
 refine callR (caps:=[]) (avs:=[.sl 1 [] .full,.fn (.func 299) [.iptr [.map l k]]]) rfl (fun_of Tryz.func338 rfl rfl) (a338 (n + 1) _ l k w (show l < n + 1 by omega) hw (by show full n [] H l k = _; rw [full_low hl]; exact hH) l2 k2 (show l2 < n + 1 by omega) (by show full n [] H l2 k2 = _; rw [full_low hl2]; exact hf)) (by simp only [go_sem,simprocAttr]) ?_
 rintro r H1 ⟨ks,hp,rfl,rfl⟩
 refine ⟨[],H.upd l2 k2 (.mbuf 3 1 (aInts ks) ks.length),by show (full n [] H).upd _ _ _ = _; rw [full_upd _ _ _ _ _ _ hne2],fun l' k' b' hl' hb'=>?_,?_⟩
 ·simp only [AHeap.upd] at hb'
  split at hb'
  ·cases hb'; exact .inr (blwI _ _ _ _)
  ·exact .inl hb'
 simp only [go_sem,simprocAttr]
 repeat refine kn rfl ?_
 refine k_ret rfl ?_
 exact post_oneQ (.refl _) (.msl _ _ _ _ hl2) ⟨ks,hp,rfl,rfl⟩
theorem asc_nodup {ys xs:List Int} (hp:ys.Perm xs) (hn:xs.Nodup) (ha:∀ i i' (h:i < ys.length) (h':i' < ys.length),i < i' → ltOf cmpL ys[i'] ys[i] = false):ys = ordL xs:=by
 refine ordL_unique ?_ fun x=>hp.mem_iff
 rw [List.pairwise_iff_getElem]
 intro i j hi hj hij
 have h1:=ha i j hi hj hij
 simp only [ltOf,decide_eq_false_iff_not,cmpL_lt] at h1
 by_cases e:ltL ys[i] ys[j]
 ·exact e
 ·have h2:=ltL_tri e h1
  have h3:=(hp.nodup_iff.2 hn)
  exact absurd h2 ((List.pairwise_iff_getElem.1 h3) i j hi hj hij)
theorem a223 (n:Nat) (H:AHeap) (l k:Nat) (w:Wm) (hl:l < n) (hw:w.length ≤ 100000) (hH:H l k = some (.map (encW w))) (hnd:(w.map Prod.fst).Nodup) (hsm:∀ p ∈ w,SmI p.1) :
  PC Tryz.prog n 223 [.fn (.func 299) [.iptr [.map l k]],.fn (.func 209) []] H (.sl 1 (aInts (splitL w)) .any):=by
 refine a_fun tok (fun_of Tryz.func223 rfl rfl) (by simp) fun B=>?_
 repeat refine kn rfl ?_
 refine k_region tok rfl (by kernel_rfl) ?_
 simp only [go_sem,simprocAttr]
 repeat refine kn rfl ?_
 refine k_region tok rfl (by kernel_rfl) ?_
 simp only [go_sem,simprocAttr]
 refine callR (caps:=[]) (avs:=[.fn (.func 299) [.iptr [.map l k]]]) rfl (fun_of Tryz.func298 rfl rfl) (a298 (n + 1) _ l k w (show l < n + 1 by omega) hw (by show full n [] H l k = _; rw [full_low hl]; exact hH) n 200 (Nat.lt_succ_self n) (by simp only [go_sem,simprocAttr])) (by simp only [go_sem,simprocAttr]) ?_
 rintro r H1 ⟨ks,hp,rfl,rfl⟩
 refine ⟨[(200,.mbuf 3 1 (aInts ks) ks.length)],H,(full_setb n [] H 200 _).symm,.refl _ _,?_⟩
 have hkl:ks.length ≤ 100000:=by rw [hp.length_eq,List.length_map]; exact hw
 have hks:∀ x ∈ ks,SmI x:=fun x hx=>by
  obtain ⟨p,hp',rfl⟩:=List.mem_map.1 ((hp.mem_iff).1 hx); exact hsm p hp'
 simp only [go_sem,simprocAttr]
 repeat refine kn rfl ?_
 refine k_region tok rfl (by kernel_rfl) ?_
 simp only [go_sem,simprocAttr]
 refine callR (caps:=[]) (avs:=[.msl 1 n 200 ks.length,.fn (.func 209) []]) rfl (fun_of Tryz.func208 rfl rfl) (int_sort (P:=Tryz.prog) Tryz.laysSlF6_f208 Tryz.sort208 rfl cmpL SmI swoL 209 _ _ (fun_of Tryz.func209 rfl rfl) (fun x y hx hy=>a209 x y hx hy) (n + 1) _ n 200 3 1 ks hks (by simp only [go_sem,simprocAttr]) (by omega)) (by simp only [go_sem,simprocAttr]) ?_
 rintro r H1 ⟨rfl,ys,hyp,hya,rfl⟩
 have hys:ys = ordL (w.map Prod.fst):=asc_nodup (hyp.trans hp) hnd hya
 have hyl:=hyp.length_eq
 refine ⟨[(200,.mbuf 3 1 (aInts ys) ks.length)],H,(full_setb n _ H 200 _).symm,.refl _ _,?_⟩
 simp only [go_sem,simprocAttr]
 repeat refine kn rfl ?_
 refine k_region tok rfl (by kernel_rfl) ?_
 simp only [go_sem,simprocAttr]
 repeat refine kn rfl ?_
 refine k_weak (s':=⟨[(4,.msl 1 n 200 ks.length)],[(200,.mbuf 3 1 (aInts ys) ks.length)],H⟩) ?_ ?_
 ·refine AWk_kept ?_ ?_ ?_ ?_ <;> repeat' first | exact trivial | refine q0 ?_ | exact qb | exact q1 | exact q2 | exact q3 | exact rfl | refine And.intro ?_ ?_ | exact q4 | exact q5 | exact q6 | exact q7 | exact Inside.ptr _ _ _ (.inr ⟨rfl,rfl⟩) | exact q8 | exact q9 | exact qd | exact Tm.ins _ | exact Tm.inss _ _ | exact Am.ins _ | exact Am.inss _ _ | refine ins_buf_str ?_ | refine Tm.ins_buf ?_ | refine Am.ins_buf ?_ | exact qf
  all_goals first | exact insMs (.inr ⟨rfl,rfl⟩) | exact allA ys | skip
 refine k_weak (AWk_freeze_mbuf (tm':=[(4,.sl 1 (aInts ys) .any)]) (j:=200) (aInts ys) rfl (flat_aInts ys) (by simp [aInts]; omega) (fun x hx=>?_) (insI ys) (fun p hp=>?_) (fun p hp=>?_)) ?_
 ·obtain ⟨u,_,rfl⟩:=List.mem_map.1 hx; rfl
 ·simp only [List.mem_singleton] at hp; subst hp
  exact .inr ⟨1,rfl,rfl⟩
 ·simp [delb] at hp
 repeat refine kn rfl ?_
 refine k_ret rfl ?_
 subst hys
 exact post_one (.refl _) (below_aInts _) rfl
theorem a226 (n:Nat) (H:AHeap) (l k:Nat) (w:Wm) (hl:l < n) (hH:H l k = some (.map (encW w))) (x:Int):PC Tryz.prog n 226 [.int .i64 x,.iptr [.map l k]] H (.int .i64 ((getM x w).getD 0)):=by
 have hne:¬ l = n:=by omega
 have hlk:=fun re=>lookA_M kinj_int (AV.int .i64) re x w
 have hkk:∀ p ∈ encW w,keyOK tt 3 p.1 = true:=fun p hp=>by
  obtain ⟨q,_,rfl⟩:=List.mem_map.1 hp; rfl
 refine a_fun tok (fun_of Tryz.func226 rfl rfl) (by simp) fun B=>?_
 repeat refine kn rfl ?_
 refine k_region tok rfl (by kernel_rfl) ?_
 simp only [go_sem,simprocAttr]
 repeat refine kn rfl ?_
 refine k_region tok rfl (by kernel_rfl) ?_
 simp only [go_sem,simprocAttr,hne,hH,hlk]
 refine ⟨⟨rfl,hkk⟩,?_⟩
 repeat refine kn rfl ?_
 refine k_ret rfl ?_
 refine post_one ?_ (.int _ _) rfl
 cases getM x w <;> exact .refl _
theorem a138 (n:Nat) (H:AHeap) (l k:Nat) (w:Wm) (hl:l < n) (hw:w.length ≤ 100000) (hH:H l k = some (.map (encW w))) (hnd:(w.map Prod.fst).Nodup) (hsm:∀ p ∈ w,SmI p.1) :
  PC Tryz.prog n 138 [.map l k] H (.tup [sInts (splitL w),sInts (splitW w)]):=by
 have hne:¬ l = n:=by omega
 have hH1:∀ L,full n L H l k = some (.map (encW w)):=fun L=>by rw [full_low hl]; exact hH
 have hsl:(splitL w).length ≤ 1000000:=by
  have:=ordL_len (w.map Prod.fst)
  rw [List.length_map] at this
  unfold splitL; omega
 have hbf:∀ m,l < m → Below m (.fn (.func 226) [.iptr [.map l k]]):=fun m hm=>blw_fn ⟨below_iptr ⟨.map _ _ hm,trivial⟩,trivial⟩
 refine a_fun tok (fun_of Tryz.func138 rfl rfl) (by simp) fun B=>?_
 repeat refine kn rfl ?_
 refine k_region tok rfl (by kernel_rfl) ?_
 simp only [go_sem,simprocAttr]
 repeat refine kn rfl ?_
 refine k_freeze 1 [.map l k] [(2,.sl 1 [] .full),(3,.sl 1 [] .full),(1,.iptr [.map l k])] rfl ⟨.map _ _ (.inl hl),trivial⟩ ?_ trivial ?_
 ·have hx:∀ q,Inside n q (.sl 1 [] .full):=fun q=>(below_sl (n:=n) (fun _ h=>by cases h) (fun _ _ e=>by cases e)).inside
  exact ⟨.inl ⟨.refl _,hx _⟩,.inl ⟨.refl _,hx _⟩,.inr ⟨0,rfl,rfl⟩,trivial⟩
 simp only [go_sem,simprocAttr]
 repeat refine kn rfl ?_
 refine k_region tok rfl (by kernel_rfl) ?_
 simp only [go_sem,simprocAttr]
 refine callH (fun_of Tryz.func224 rfl rfl) (a224 (n + 1) _ l k (show l < n + 1 by omega)) (by simp only [go_sem,simprocAttr]) ?_
 simp only [go_sem,simprocAttr]
 refine callH (fun_of Tryz.func223 rfl rfl) (a223 (n + 1) _ l k w (show l < n + 1 by omega) hw (hH1 _) hnd hsm) (by simp only [go_sem,simprocAttr]) ?_
 simp only [go_sem,simprocAttr]
 repeat refine kn rfl ?_
 refine k_region tok rfl (by kernel_rfl) ?_
 simp only [go_sem,simprocAttr]
 have hmap:=e225 (n + 1) (splitL w) hsl 226 [.iptr [.map l k]] _ _ (fun_of Tryz.func226 rfl rfl) (splitW w) (by simp [splitW]) (fun _=>full n [] H) (hbf _ (by omega)) (below_ints _)
  (fun i h L=>ACalls.mono (a226 (n + 1 + 1) (full (n + 1) L (full n [] H)) l k w (by omega) (by rw [full_low (show l < n + 1 by omega)]; exact hH1 _) ((splitL w)[i])) (by rintro r H1 ⟨rfl,rfl⟩; exact ⟨by simp [splitW],rfl⟩)) (fun _ _=>.refl _ _)
 refine callR (caps:=[]) (avs:=[.sl 1 (aInts (splitL w)) .any,.fn (.func 226) [.iptr [.map l k]]]) rfl (fun_of Tryz.func225 rfl rfl) hmap (by simp only [go_sem,simprocAttr]) ?_
 rintro r H1 ⟨rfl,rfl⟩
 refine ⟨[],H,rfl,.refl _ _,?_⟩
 simp only [go_sem,simprocAttr]
 repeat refine kn rfl ?_
 refine k_ret rfl ?_
 exact post_two (.refl _) (.refl _) (below_sInts _) (below_sInts _) rfl
end Go.Proofs.YthgbkalgmicniaaGreatDoor

/- The builder's rules. -/
namespace Go.Proofs.YthgbkalgmicniaaGreatDoor
open Go.Abs
set_option maxRecDepth 100000
theorem a205 (n:Nat) (H:AHeap) (l b:Nat) (F:Fr) (s:St) (hl:l < n) (hF:F.bel n) (hs:s.Fit 1000000000) :
  ACalls Tryz.prog n 205 [.ptr l b 0] (bxH H l b F s) fun r H'=>r = .int .i64 s.aux.n ∧ H' = bxH H l b F s.aux:=by
 have hne:¬ l = n:=by omega
 have hn:=hs.n
 have hw:IntKind.i64.wrap (s.n + 1) = s.n + 1:=by rw [IntWalk.i64_in _ (by omega)]
 have hb:=bxH_box (H:=H) (l:=l) (b:=b) (F:=F) (s:=s)
 have hb2:=bxH_setn (H:=H) (l:=l) (b:=b) (F:=F) (s:=s) s.aux rfl
 have hbl:=below_bxC (b:=b) hF hl s.aux
 refine a_fun tok (fun_of Tryz.func205 rfl rfl) (by simp) fun B=>?_
 repeat refine kn rfl ?_
 refine k_region tok rfl (by kernel_rfl) ?_
 simp only [go_sem,simprocAttr]
 repeat refine kn rfl ?_
 refine k_region tok rfl (by kernel_rfl) ?_
 simp only [go_sem,simprocAttr,hne,hb,bxC,hw]
 refine ⟨.inr ?_,?_⟩
 ·exact hbl
 simp only [bxC,St.aux] at hb2
 rw [hb2]
 repeat refine kn rfl ?_
 refine k_region tok rfl (by kernel_rfl) ?_
 simp only [go_sem,simprocAttr,hne,bxH_box,bxC,St.aux]
 repeat refine kn rfl ?_
 refine k_ret rfl ?_
 exact post_oneQ (.refl _) (.int _ _) ⟨rfl,rfl⟩
def op206:Opt:=⟨true,false,fun d=>if d = 17 then .heap else .auto,[]⟩
theorem a206 (n:Nat) (H:AHeap) (l b:Nat) (F:Fr) (s:St) (hl:l < n) (hF:F.bel n) (hs:s.Fit 1000000) (h:List Int) (o1:Own) (body:List Int) (o2:Own) (g1:∀ x ∈ h,SmI x) (g2:∀ x ∈ body,SmI x) (l1:h.length ≤ 1000000) (l2:body.length ≤ 1000000) :
  ACalls Tryz.prog n 206 [.ptr l b 0,.sl 1 (aInts h) o1,.sl 1 (aInts body) o2] (bxH H l b F s) fun r H'=>r = .tup [] ∧ H' = bxH H l b F (s.rule h body):=by
 have hne:¬ l = n:=by omega
 have hr:=hs.r
 have hb:=bxH_box (H:=H) (l:=l) (b:=b) (F:=F) (s:=s)
 have hb1:=bxH_rules (H:=H) (l:=l) (b:=b) (F:=F) (s:=s)
 have hb2:=bxH_set (H:=H) (l:=l) (b:=b) (F:=F) (s:=s) (s.rule h body)
 have hbl:=below_bxC (b:=b) hF hl (s.rule h body)
 have hbr:=below_bxR (n:=n) (s.rule h body)
 have hq:∀ Y,((bxH H l b F s).upd l (b + 1) Y) l b = (bxH H l b F s) l b:=fun Y=>AHeap.upd_ne _ _ (by omega)
 refine a_fun tok (fun_of Tryz.func206 rfl rfl) (by simp) fun B=>?_
 refine k_draw tok mixed op206 rfl rfl (by kernel_rfl) (by kernel_rfl) ?_
 generalize bxH H l b F s = G at *
 simp only [go_sem,simprocAttr,op206,hne,hb,bxC]
 refine callP (fun_of Tryz.func122 rfl rfl) (a122 h o1 g1 l1) (by simp only [go_sem,simprocAttr,op206,hne,hb,bxC]) ?_
 simp only [go_sem,simprocAttr,op206,hne,hb,bxC]
 refine callP (fun_of Tryz.func122 rfl rfl) (a122 body o2 g2 l2) (by simp only [go_sem,simprocAttr,op206,hne,hb,bxC,hb1,bxR,hq]) ?_
 simp only [go_sem,simprocAttr,op206,hne,hb,bxC,hb1,bxR,hq]
 have e1:fl GR.raw s.rules ++ flat [AV.agg [.bool false,.sl 1 (aInts (ordL h)) .any,.bool false,.int .i64 0,.sl 1 (aInts (ordL body)) .any,.sl 1 [] .full]] = fl GR.raw (s.rule h body).rules:=by
  simp only [St.rule,fl_append]; rfl
 have e2:s.rules.length + 1 = (s.rule h body).rules.length:=by simp [St.rule]
 rw [e1]
 refine ⟨by decide,⟨le_maxLen (by omega),by omega⟩,.inr (by rw [e2]; exact hbr),.inr (by rw [e2]; exact hbl),?_⟩
 rw [e2]
 refine k_nil ⟨by simp [okRes],[],trivial,by simp,rfl,?_⟩
 exact hb2
def op212:Opt:=⟨true,false,fun _=>.auto,[]⟩
theorem a212 (n:Nat) (H:AHeap) (l b:Nat) (F:Fr) (s:St) (hl:l < n) (hF:F.bel n) (hs:s.Fit 1000000) (rs:List GR) (x:GR) (hx:s.rules = rs ++ [x]) :
  ACalls Tryz.prog n 212 [.ptr l b 0] (bxH H l b F s) fun r H'=>r = .tup [] ∧ H' = bxH H l b F s.choose:=by
 have hne:¬ l = n:=by omega
 have hr:=hs.r
 have hb:=bxH_box (H:=H) (l:=l) (b:=b) (F:=F) (s:=s)
 have hb1:=bxH_rules (H:=H) (l:=l) (b:=b) (F:=F) (s:=s)
 have hb2:=bxH_set (H:=H) (l:=l) (b:=b) (F:=F) (s:=s) s.choose
 have hbl:=below_bxC (b:=b) hF hl s.choose
 have hbr:=below_bxR (n:=n) s.choose
 have hlen:s.rules.length = rs.length + 1:=by rw [hx]; simp
 have hw:IntKind.i64.wrap (((rs.length + 1:Nat):Int) - 1) = (rs.length:Int):=by rw [IntWalk.i64_in _ (by omega)]; omega
 refine a_fun tok (fun_of Tryz.func212 rfl rfl) (by simp) fun B=>?_
 refine k_draw tok mixed op212 rfl rfl (by kernel_rfl) (by kernel_rfl) ?_
 generalize bxH H l b F s = G at *
 simp only [go_sem,simprocAttr,op212,hne,hb,bxC,bxR,hb1,hlen,hw]
 have hfl:=fl_lenK (k:=6) (cs:=GR.raw) (fun _=>rfl) s.rules
 have e0:s.choose.rules.length = rs.length + 1:=by simp only [St.choose,lastChoice_len]; exact hlen
 have e1:List.take (rs.length * 6) (fl GR.raw s.rules) ++ AV.bool true :: List.drop (rs.length * 6 + 1) (fl GR.raw s.rules) = fl GR.raw s.choose.rules:=by
  have:=lastChoice_fl rs x
  rw [← hx] at this
  exact this
 rw [e1,← e0]
 refine ⟨by omega,⟨by omega,by omega⟩,.inr hbr,?_⟩
 refine k_nil ⟨by simp [okRes],[],trivial,by simp,rfl,?_⟩
 rw [← hb2]
 refine (upd_self ?_).symm
 show (G.upd l (b + 1) _) l b = _
 rw [AHeap.upd_ne _ _ (by omega),hb]
 simp only [bxC,St.choose,lastChoice_len]
end Go.Proofs.YthgbkalgmicniaaGreatDoor

/- The literal that stands for a disjunction; the table's literals. -/
namespace Go.Proofs.YthgbkalgmicniaaGreatDoor
open Go.Abs
set_option maxRecDepth 100000
theorem getD_sInts (l:List LInt) (i:Nat) (h:i < l.length) (d:AV):(l.map sInts).getD i d = sInts l[i]:=by
 rw [List.getD_eq_getElem?_getD,List.getElem?_map,List.getElem?_eq_getElem h]; rfl
def SmL (l:List LInt):Prop:=∀ x ∈ l,x.length ≤ 1000000 ∧ ∀ y ∈ x,SmI y
def st136 (H:AHeap) (l b:Nat) (F:Fr) (s:St) (t:Int) (L:List LInt) (i:Nat):AState :=
 ⟨[(27,.int .i64 i),(26,.int .i64 L.length),(25,.sl 1 (L.map sInts) .any),(5,.int .i64 t),(0,.ptr l b 0)],[],bxH H l b F (s.rulesOf t (L.take i))⟩
theorem rulesOf_snoc (s:St) (t:Int) (L:List LInt) (x:LInt):s.rulesOf t (L ++ [x]) = (s.rulesOf t L).rule [t] x:=by simp [St.rulesOf]
theorem a136 (n:Nat) (H:AHeap) (l b:Nat) (F:Fr) (s:St) (hl:l < n) (hF:F.bel n) (hs:s.Fit 900000) (L:List LInt) (hL:SmL L) (hlen:L.length ≤ 10000) :
  ACalls Tryz.prog n 136 [.ptr l b 0,.sl 1 (L.map sInts) .any] (bxH H l b F s) fun r H'=>r = .int .i64 (s.stands L).1 ∧ H' = bxH H l b F (s.stands L).2:=by
 have hne:¬ l = n:=by omega
 refine a_fun tok (fun_of Tryz.func136 rfl rfl) (by simp) fun B=>?_
 repeat refine kn rfl ?_
 refine k_region tok rfl (by kernel_rfl) ?_
 simp only [go_sem,simprocAttr]
 by_cases h1:∃ x,L = [[x]]
 ·obtain ⟨x,rfl⟩:=h1
  repeat refine kn rfl ?_
  refine k_region tok rfl (by kernel_rfl) ?_
  simp only [go_sem,simprocAttr,List.map_cons,List.map_nil,List.length_cons,List.length_nil,List.getD_cons_zero]
  repeat refine kn rfl ?_
  refine k_cond_t rfl (by simp only [go_sem,simprocAttr]) ?_
  repeat refine kn rfl ?_
  refine k_region tok rfl (by kernel_rfl) ?_
  simp only [go_sem,simprocAttr,List.map_cons,List.map_nil,List.length_cons,List.length_nil,List.getD_cons_zero]
  repeat refine kn rfl ?_
  refine k_ret rfl ?_
  exact post_oneQ (.refl _) (.int _ _) ⟨rfl,rfl⟩
 have hst:s.stands L = (s.n + 1,s.aux.rulesOf (s.n + 1) L):=by
  unfold St.stands
  split
  ·rename_i x; exact absurd ⟨x,rfl⟩ h1
  ·rfl
 rw [hst]
 have go:∀ tm:List (Nat × AV),lkv tm 0 = .ptr l b 0 → lkv tm 1 = .sl 1 (L.map sInts) .any → AKc ⟨Tryz.prog,tt,⟨none,B⟩,n,Tryz.f136.ntmps⟩ [.code (bodyOf Tryz.f136).snd.snd]
   (PostF Tryz.prog tt n Tryz.f136.results.toList fun r H'=>r = .int .i64 (s.n + 1) ∧ H' = bxH H l b F (s.aux.rulesOf (s.n + 1) L)) ⟨tm,[],bxH H l b F s⟩:=by
  intro tm t0 t1
  have haux:=a205 (n + 1) H l b F s (by omega) (hF.mono (Nat.le_succ n)) (hs.mono (by omega))
  repeat refine kn rfl ?_
  refine k_region tok rfl (by kernel_rfl) ?_
  simp only [go_sem,simprocAttr,t0,t1]
  refine callR (caps:=[]) (avs:=[.ptr l b 0]) rfl (fun_of Tryz.func205 rfl rfl) (by rw [full_bxH hne]; exact a205 (n + 1) (full n [] H) l b F s (by omega) (hF.mono (Nat.le_succ n)) (hs.mono (by omega))) (by simp only [go_sem,simprocAttr,t0]) ?_
  rintro r H1 ⟨rfl,rfl⟩
  refine ⟨[],bxH H l b F s.aux,by rw [full_bxH hne],out_bxH hF hl _ _,?_⟩
  simp only [go_sem,simprocAttr,t0,t1]
  repeat refine kn rfl ?_
  refine k_region tok rfl (by kernel_rfl) ?_
  simp only [go_sem,simprocAttr,t0,t1]
  repeat refine kn rfl ?_
  refine k_loop_ix (st136 H l b F s.aux (s.n + 1) L) L.length rfl ?_ ?_
  ·refine AWk_kept ?_ ?_ ?_ ?_ <;> repeat' first | exact trivial | refine q0 ?_ | exact qb | exact q1 | exact q2 | exact q3 | exact rfl | refine And.intro ?_ ?_ | exact q4 | exact q5 | exact q6 | exact q7 | exact Inside.ptr _ _ _ (.inr ⟨rfl,rfl⟩) | exact q8 | exact q9 | exact qd | exact Tm.ins _ | exact Tm.inss _ _ | exact Am.ins _ | exact Am.inss _ _ | refine ins_buf_str ?_ | refine Tm.ins_buf ?_ | refine Am.ins_buf ?_ | exact qf
   ·simp only [go_sem,simprocAttr,t0]
    exact .refl _
   all_goals first | exact Inside.ptr _ _ _ (.inl hl) | exact (below_lints _).inside
  intro i hi
  refine k_st rfl ?_
  rcases Nat.lt_or_ge i L.length with h | h
  ·repeat refine kn rfl ?_
   refine k_region tok rfl (by kernel_rfl) ?_
   simp only [go_sem,simprocAttr,h]
   repeat refine kn rfl ?_
   refine k_cond_t rfl (by simp only [go_sem,simprocAttr]) ?_
   repeat refine kn rfl ?_
   refine k_region tok rfl (by kernel_rfl) ?_
   simp only [go_sem,simprocAttr,getD_sInts _ _ h,h]
   have hLi:=hL L[i] (List.getElem_mem h)
   have hn:=hs.n
   have hfit:=(rulesOf_fit (s.n + 1) (L.take i) hs.aux).mono (k':=1000000) (by rw [List.length_take]; omega)
   repeat refine kn rfl ?_
   refine k_region tok rfl (by kernel_rfl) ?_
   simp only [go_sem,simprocAttr]
   refine ⟨rfl,?_⟩
   refine callR (caps:=[]) (avs:=[.ptr l b 0,.sl 1 (aInts [s.n + 1]) .full,.sl 1 (aInts L[i]) .any]) rfl (fun_of Tryz.func206 rfl rfl)
    (by rw [full_bxH hne]; exact a206 (n + 1) (full n [] H) l b F _ (by omega) (hF.mono (Nat.le_succ n)) hfit [s.n + 1] _ L[i] _ (by simp only [List.mem_singleton,forall_eq]; unfold SmI; omega) hLi.2 (by simp) hLi.1) (by simp only [go_sem,simprocAttr]) ?_
   rintro r H1 ⟨rfl,rfl⟩
   refine ⟨[],bxH H l b F ((s.aux.rulesOf (s.n + 1) (L.take i)).rule [s.n + 1] L[i]),by rw [full_bxH hne],out_bxH hF hl _ _,?_⟩
   simp only [go_sem,simprocAttr]
   rw [← rulesOf_snoc,← List.take_succ_eq_append_getElem h]
   repeat refine kn rfl ?_
   refine k_region tok rfl (by kernel_rfl) ?_
   simp only [go_sem,simprocAttr]
   repeat refine kn rfl ?_
   refine k_nil ?_
   refine AWk_kept ?_ ?_ ?_ ?_ <;> repeat' first | exact trivial | refine q0 ?_ | exact qb | exact q1 | exact q2 | exact q3 | exact rfl | refine And.intro ?_ ?_ | exact q4 | exact q5 | exact q6 | exact q7 | exact Inside.ptr _ _ _ (.inr ⟨rfl,rfl⟩) | exact q8 | exact q9 | exact qd | exact Tm.ins _ | exact Tm.inss _ _ | exact Am.ins _ | exact Am.inss _ _ | refine ins_buf_str ?_ | refine Tm.ins_buf ?_ | refine Am.ins_buf ?_ | exact qf
   ·simp only [go_sem,simprocAttr]
    rw [IntWalk.i64_in _ (by omega)]; exact .refl _
   all_goals first | exact Inside.ptr _ _ _ (.inl hl) | exact (below_lints _).inside
  ·repeat refine kn rfl ?_
   refine k_region tok rfl (by kernel_rfl) ?_
   simp only [go_sem,simprocAttr,Nat.not_lt.2 h]
   repeat refine kn rfl ?_
   refine k_cond_f rfl (by simp only [go_sem,simprocAttr]) ?_
   repeat refine kn rfl ?_
   refine k_exit_round rfl rfl rfl ?_
   have hi':i = L.length:=by omega
   subst hi'
   repeat refine kn rfl ?_
   refine k_region tok rfl (by kernel_rfl) ?_
   simp only [go_sem,simprocAttr]
   repeat refine kn rfl ?_
   refine k_ret rfl ?_
   refine post_oneQ (.refl _) (.int _ _) ⟨rfl,?_⟩
   rw [List.take_length]
 by_cases h2:L.length = 1
 ·obtain ⟨x,rfl⟩:∃ x,L = [x]:=by
   match L,h2 with
   | [x],_=>exact ⟨x,rfl⟩
  have h3:((x.length:Int) == 1) = false:=by
   rw [beq_eq_false_iff_ne]
   intro e
   match x,e,h1 with
   | [y],_,h1=>exact h1 ⟨y,rfl⟩
  repeat refine kn rfl ?_
  refine k_region tok rfl (by kernel_rfl) ?_
  simp only [go_sem,simprocAttr,List.map_cons,List.map_nil,List.length_cons,List.length_nil,List.getD_cons_zero,h3]
  repeat refine kn rfl ?_
  refine k_cond_f rfl (by simp only [go_sem,simprocAttr]) ?_
  refine k_skip rfl ?_
  exact go _ rfl rfl
 ·have h3:((L.length:Int) == 1) = false:=by rw [beq_eq_false_iff_ne]; omega
  repeat refine kn rfl ?_
  refine k_region tok rfl (by kernel_rfl) ?_
  simp only [go_sem,simprocAttr,h3]
  repeat refine kn rfl ?_
  refine k_cond_f rfl (by simp only [go_sem,simprocAttr]) ?_
  refine k_skip rfl ?_
  exact go _ rfl rfl
end Go.Proofs.YthgbkalgmicniaaGreatDoor

/- Rules with a sum; naming; literals of conditions. -/
namespace Go.Proofs.YthgbkalgmicniaaGreatDoor
open Go.Abs
set_option maxRecDepth 100000
structure WOk (w:Wm):Prop where
 sm:SmW w
 nd:(w.map Prod.fst).Nodup
 k:∀ p ∈ w,SmI p.1
def op211a:Opt:=⟨true,true,fun _=>.auto,[6]⟩
def op211:Opt:=⟨true,false,fun d=>if d = 27 then .heap else .auto,[]⟩
theorem a211 (n:Nat) (H:AHeap) (l b:Nat) (F:Fr) (s:St) (hl:l < n) (hF:F.bel n) (hs:s.Fit 1000000) (h:List Int) (o1:Own) (g1:∀ x ∈ h,SmI x) (l1:h.length ≤ 1000000)
  (lw kw:Nat) (w:Wm) (hlw:lw < n) (hw:WOk w) (hH:H lw kw = some (.map (encW w))) (hd1:¬(lw = l ∧ kw = b)) (hd2:¬(lw = l ∧ kw = b + 1)) (k:Int) :
  ACalls Tryz.prog n 211 [.ptr l b 0,.sl 1 (aInts h) o1,.agg [.map lw kw,.int .i64 k]] (bxH H l b F s) fun r H'=>r = .tup [] ∧ H' = bxH H l b F (s.sum h w k):=by
 have hne:¬ l = n:=by omega
 have hr:=hs.r
 have hb:=bxH_box (H:=H) (l:=l) (b:=b) (F:=F) (s:=s)
 have hb1:=bxH_rules (H:=H) (l:=l) (b:=b) (F:=F) (s:=s)
 have hb2:=bxH_set (H:=H) (l:=l) (b:=b) (F:=F) (s:=s) (s.sum h w k)
 have hbl:=below_bxC (b:=b) hF hl (s.sum h w k)
 have hbr:=below_bxR (n:=n) (s.sum h w k)
 have hq:∀ Y,((bxH H l b F s).upd l (b + 1) Y) l b = (bxH H l b F s) l b:=fun Y=>AHeap.upd_ne _ _ (by omega)
 have hHb:bxH H l b F s lw kw = some (.map (encW w)):=by rw [bxH_ne hd1 hd2]; exact hH
 refine a_fun tok (fun_of Tryz.func211 rfl rfl) (by simp) fun B=>?_
 generalize bxH H l b F s = G at *
 repeat refine kn rfl ?_
 refine k_region tok rfl (by kernel_rfl) ?_
 simp only [go_sem,simprocAttr]
 repeat refine kn rfl ?_
 refine k_draw tok mixed op211a rfl rfl (by kernel_rfl) (by kernel_rfl) ?_
 simp only [go_sem,simprocAttr,op211a]
 refine callPP (fun_of Tryz.func122 rfl rfl) (a122 h o1 g1 l1) (by simp only [go_sem,simprocAttr]) ?_
 simp only [go_sem,simprocAttr,op211a]
 refine ⟨rfl,?_⟩
 repeat refine kn rfl ?_
 refine k_region tok rfl (by kernel_rfl) ?_
 simp only [go_sem,simprocAttr]
 refine callH (fun_of Tryz.func138 rfl rfl) (a138 (n + 1) _ lw kw w (show lw < n + 1 by omega) hw.sm.1 (by show full n _ G lw kw = _; rw [full_low hlw]; exact hHb) hw.nd hw.k) (by simp only [go_sem,simprocAttr]) ?_
 simp only [go_sem,simprocAttr]
 repeat refine kn rfl ?_
 refine k_draw tok mixed op211 rfl rfl (by kernel_rfl) (by kernel_rfl) ?_
 simp only [go_sem,simprocAttr,op211,hne,hb,bxC,hb1,bxR,hq]
 have e1:fl GR.raw s.rules ++ flat [AV.agg [.bool false,.sl 1 (aInts (ordL h)) .any,.bool true,.int .i64 k,sInts (splitL w),sInts (splitW w)]] = fl GR.raw (s.sum h w k).rules:=by
  simp only [St.sum,fl_append]; rfl
 have e2:s.rules.length + 1 = (s.sum h w k).rules.length:=by simp [St.sum]
 rw [e1]
 refine ⟨rfl,⟨le_maxLen (by omega),by omega⟩,.inr (by rw [e2]; exact hbr),.inr (by rw [e2]; exact hbl),?_⟩
 rw [e2]
 refine k_nil ⟨by simp [okRes],[],trivial,by simp,rfl,?_⟩
 exact hb2
theorem enc_lit (x:Int):(Cnd.lit x).enc = .ifc 160 (.int .i64 x):=rfl
theorem enc_con (x:Bool):(Cnd.con x).enc = .ifc 261 (.bool x):=rfl
theorem enc_pend (l k:Nat) (w:Wm) (n:Int):(Cnd.pend l k w n).enc = .ifc 263 (.agg [.map l k,.int .i64 n]):=rfl
def _root_.Go.Abs.Cnd.Ok (n l b:Nat) (H:AHeap):Cnd → Prop
 | .lit x=>SmI x
 | .con _=>True
 | .pend lw kw w _=>lw < n ∧ WOk w ∧ H lw kw = some (.map (encW w)) ∧ ¬(lw = l ∧ kw = b) ∧ ¬(lw = l ∧ kw = b + 1)
def _root_.Go.Abs.St.name (s:St):Cnd → Cnd × St
 | .pend _ _ w k=>(.lit (s.n + 1),s.aux.sum [s.n + 1] w k)
 | c=>(c,s)
theorem cnd_below {n l b:Nat} {H:AHeap} {c:Cnd} (h:c.Ok n l b H):Below n c.enc:=by
 cases c with
 | lit x=>exact .ifc _ _ (.int _ _)
 | con x=>exact .ifc _ _ (.bool _)
 | pend l k w x =>
  refine .ifc _ _ (below_agg ?_)
  intro c hc
  simp only [List.mem_cons,List.not_mem_nil,or_false] at hc
  rcases hc with rfl | rfl
  ·exact .map _ _ h.1
  ·exact .int _ _
theorem name_fit {s:St} {k:Int} (c:Cnd) (h:s.Fit k):(s.name c).2.Fit (k + 2):=by
 cases c with
 | pend l k' w x=>exact (h.aux.sum _ _ _).mono (by omega)
 | _=>exact h.mono (by omega)
theorem a213 (n:Nat) (H:AHeap) (l b:Nat) (F:Fr) (s:St) (hl:l < n) (hF:F.bel n) (hs:s.Fit 900000) (c:Cnd) (hc:c.Ok n l b H) :
  ACalls Tryz.prog n 213 [.ptr l b 0,c.enc] (bxH H l b F s) fun r H'=>r = (s.name c).1.enc ∧ H' = bxH H l b F (s.name c).2:=by
 have hne:¬ l = n:=by omega
 have hcb:=cnd_below hc
 refine a_fun tok (fun_of Tryz.func213 rfl rfl) (by simp) fun B=>?_
 cases c with
 | lit x =>
  repeat refine kn rfl ?_
  refine k_region tok rfl (by kernel_rfl) ?_
  simp only [go_sem,simprocAttr]
  repeat refine kn rfl ?_
  refine k_region tok rfl (by kernel_rfl) ?_
  simp only [go_sem,simprocAttr,enc_lit]
  repeat refine kn rfl ?_
  refine k_region tok rfl (by kernel_rfl) ?_
  simp only [go_sem,simprocAttr]
  repeat refine kn rfl ?_
  refine k_cond_f rfl (by simp only [go_sem,simprocAttr]) ?_
  refine k_skip rfl ?_
  repeat refine kn rfl ?_
  refine k_region tok rfl (by kernel_rfl) ?_
  simp only [go_sem,simprocAttr]
  repeat refine kn rfl ?_
  refine k_ret rfl ?_
  exact post_oneQ (.refl _) hcb ⟨rfl,rfl⟩
 | con x =>
  repeat refine kn rfl ?_
  refine k_region tok rfl (by kernel_rfl) ?_
  simp only [go_sem,simprocAttr]
  repeat refine kn rfl ?_
  refine k_region tok rfl (by kernel_rfl) ?_
  simp only [go_sem,simprocAttr,enc_con]
  repeat refine kn rfl ?_
  refine k_region tok rfl (by kernel_rfl) ?_
  simp only [go_sem,simprocAttr]
  repeat refine kn rfl ?_
  refine k_cond_f rfl (by simp only [go_sem,simprocAttr]) ?_
  refine k_skip rfl ?_
  repeat refine kn rfl ?_
  refine k_region tok rfl (by kernel_rfl) ?_
  simp only [go_sem,simprocAttr]
  repeat refine kn rfl ?_
  refine k_ret rfl ?_
  exact post_oneQ (.refl _) hcb ⟨rfl,rfl⟩
 | pend lw kw w x =>
  repeat refine kn rfl ?_
  refine k_region tok rfl (by kernel_rfl) ?_
  simp only [go_sem,simprocAttr]
  repeat refine kn rfl ?_
  refine k_region tok rfl (by kernel_rfl) ?_
  simp only [go_sem,simprocAttr,enc_pend]
  repeat refine kn rfl ?_
  refine k_region tok rfl (by kernel_rfl) ?_
  simp only [go_sem,simprocAttr]
  repeat refine kn rfl ?_
  refine k_cond_t rfl (by simp only [go_sem,simprocAttr]) ?_
  repeat refine kn rfl ?_
  refine k_region tok rfl (by kernel_rfl) ?_
  simp only [go_sem,simprocAttr]
  refine callB hl hF (fun_of Tryz.func205 rfl rfl) (a205 (n + 1) _ l b F s (by omega) (hF.mono (Nat.le_succ n)) (hs.mono (by omega))) (by simp only [go_sem,simprocAttr]) ?_
  simp only [go_sem,simprocAttr]
  repeat refine kn rfl ?_
  refine k_region tok rfl (by kernel_rfl) ?_
  simp only [go_sem,simprocAttr]
  have hn:=hs.n
  have hlw:lw ≠ n:=by have:=hc.1; omega
  refine ⟨rfl,?_⟩
  refine callB hl hF (fun_of Tryz.func211 rfl rfl) (a211 (n + 1) _ l b F s.aux (by omega) (hF.mono (Nat.le_succ n)) (hs.aux.mono (by omega)) [s.n + 1] .full (by simp only [List.mem_singleton,forall_eq]; unfold SmI; omega) (by simp) lw kw w (by have:=hc.1; omega) hc.2.1 (by simp only [full,if_neg hlw]; exact hc.2.2.1) hc.2.2.2.1 hc.2.2.2.2 x) (by simp only [go_sem,simprocAttr,St.aux]) ?_
  simp only [go_sem,simprocAttr]
  repeat refine kn rfl ?_
  refine k_region tok rfl (by kernel_rfl) ?_
  simp only [go_sem,simprocAttr]
  repeat refine kn rfl ?_
  refine k_ret rfl ?_
  exact post_oneQ (.refl _) (.ifc _ _ (.int _ _)) ⟨rfl,rfl⟩
def _root_.Go.Abs.St.neg (s:St) (c:Cnd):Cnd × St:=match s.name c with
 | (.lit x,t)=>(.lit (-x),t)
 | (.con b,t)=>(.con (!b),t)
 | (c,t)=>(c,t)
end Go.Proofs.YthgbkalgmicniaaGreatDoor

/- Literals of conditions; rules with conditions as bodies; settled conditions. -/
namespace Go.Proofs.YthgbkalgmicniaaGreatDoor
open Go.Abs
set_option maxRecDepth 100000
theorem Cnd_up {n l b:Nat} {H:AHeap} {c:Cnd} (hc:c.Ok n l b H) (L:List (Nat × ABlk)):c.Ok (n + 1) l b (full n L H):=by
 cases c with
 | pend lw kw w x =>
  obtain ⟨h1,h2,h3,h4,h5⟩:=hc
  exact ⟨by omega,h2,by rw [full_low h1]; exact h3,h4,h5⟩
 | _=>exact hc
end Go.Proofs.YthgbkalgmicniaaGreatDoor
namespace Go.Abs
def litOf:Cnd → Int
 | .lit x=>x
 | _=>0
def St.names (s:St):List Cnd → List Int × St
 | []=>([],s)
 | c :: r=>(litOf (s.name c).1 :: (St.names (s.name c).2 r).1,(St.names (s.name c).2 r).2)
end Go.Abs
namespace Go.Proofs.YthgbkalgmicniaaGreatDoor
open Go.Abs
theorem names_len:∀ (l:List Cnd) (s:St),(s.names l).1.length = l.length
 | [],_=>rfl
 | c :: r,s=>by simp only [St.names,List.length_cons,names_len r]
theorem names_take:∀ (l:List Cnd) (s:St) (i:Nat) (h:i < l.length),((s.names (l.take (i + 1))).2 = ((s.names (l.take i)).2.name l[i]).2) ∧ ∀ h':i < (s.names l).1.length,(s.names l).1[i] = litOf ((s.names (l.take i)).2.name l[i]).1
 | c :: r,s,0,h=>⟨rfl,fun _=>rfl⟩
 | c :: r,s,i + 1,h=>by
  have:=names_take r (s.name c).2 i (by simpa using h)
  simp only [List.take_succ_cons,St.names,List.getElem_cons_succ] at *
  exact ⟨this.1,fun h'=>this.2 (by simpa using h')⟩
theorem names_fit:∀ (l:List Cnd) {s:St} {k:Int},s.Fit k → (s.names l).2.Fit (k + 2 * l.length)
 | [],s,k,h=>h.mono (by simp)
 | c :: r,s,k,h=>by
  have:=names_fit r (name_fit c h)
  simp only [St.names,List.length_cons]
  exact this.mono (by omega)
theorem name_sm {n l b:Nat} {H:AHeap} {s:St} {k:Int} (hs:s.Fit k) (hk:k ≤ 1000000) {c:Cnd} (hc:c.Ok n l b H):SmI (litOf (s.name c).1):=by
 have hn:=hs.n
 cases c with
 | lit x=>exact hc
 | con x=>show SmI 0; unfold SmI; omega
 | pend lw kw w x=>show SmI (s.n + 1); unfold SmI; omega
theorem a217 (n:Nat) (H:AHeap) (l b:Nat) (F:Fr) (s:St) (hl:l < n) (hF:F.bel n) (hs:s.Fit 900000) (c:Cnd) (hc:c.Ok n l b H) :
  ACalls Tryz.prog n 217 [c.enc,.iptr [.ptr l b 0]] (bxH H l b F s) fun r H'=>r = .int .i64 (litOf (s.name c).1) ∧ H' = bxH H l b F (s.name c).2:=by
 have hne:¬ l = n:=by omega
 refine a_fun tok (fun_of Tryz.func217 rfl rfl) (by simp) fun B=>?_
 repeat refine kn rfl ?_
 refine k_region tok rfl (by kernel_rfl) ?_
 simp only [go_sem,simprocAttr]
 repeat refine kn rfl ?_
 refine k_region tok rfl (by kernel_rfl) ?_
 simp only [go_sem,simprocAttr]
 refine callB hl hF (fun_of Tryz.func213 rfl rfl) (a213 (n + 1) (full n [] H) l b F s (by omega) (hF.mono (Nat.le_succ n)) hs c (Cnd_up hc [])) (by simp only [go_sem,simprocAttr]) ?_
 cases hd:(s.name c).1 with
 | lit x =>
  simp only [go_sem,simprocAttr,enc_lit]
  repeat refine kn rfl ?_
  refine k_region tok rfl (by kernel_rfl) ?_
  simp only [go_sem,simprocAttr]
  repeat refine kn rfl ?_
  refine k_ret rfl ?_
  exact post_oneQ (.refl _) (.int _ _) ⟨rfl,rfl⟩
 | con x =>
  simp only [go_sem,simprocAttr,enc_con]
  repeat refine kn rfl ?_
  refine k_region tok rfl (by kernel_rfl) ?_
  simp only [go_sem,simprocAttr]
  repeat refine kn rfl ?_
  refine k_ret rfl ?_
  exact post_oneQ (.refl _) (.int _ _) ⟨rfl,rfl⟩
 | pend lw kw w x =>
  cases c with
  | pend _ _ _ _=>cases hd
  | lit _=>cases hd
  | con _=>cases hd
theorem below_cnds {n l b:Nat} {H:AHeap} {k:Nat} {cs:List Cnd} (h:∀ c ∈ cs,c.Ok n l b H):Below n (.sl k (cs.map Cnd.enc) .any):=below_sla fun x hx=>by
 obtain ⟨u,hu,rfl⟩:=List.mem_map.1 hx; exact cnd_below (h u hu)
theorem a128 (n:Nat) (H:AHeap) (l b:Nat) (F:Fr) (s:St) (hl:l < n) (hF:F.bel n) (hs:s.Fit 800000) (cs:List Cnd) (hcs:∀ c ∈ cs,c.Ok n l b H) (hlen:cs.length ≤ 10000) :
  ACalls Tryz.prog n 128 [.ptr l b 0,.sl 1 (cs.map Cnd.enc) .any] (bxH H l b F s) fun r H'=>r = sInts (ordL (s.names cs).1) ∧ H' = bxH H l b F (s.names cs).2:=by
 have hne:¬ l = n:=by omega
 have hbf:∀ m,l < m → Below m (.fn (.func 217) [.iptr [.ptr l b 0]]):=fun m hm=>blw_fn ⟨below_iptr ⟨.ptr _ _ _ hm,trivial⟩,trivial⟩
 have hfit:∀ i,((s.names (cs.take i)).2).Fit 900000:=fun i=>(names_fit (cs.take i) hs).mono (by rw [List.length_take]; omega)
 have hsm:∀ x ∈ (s.names cs).1,SmI x:=fun x hx=>by
  obtain ⟨i,hi,rfl⟩:=List.getElem_of_mem hx
  have hi':i < cs.length:=by rw [names_len] at hi; exact hi
  rw [(names_take cs s i hi').2 hi]
  exact name_sm (hfit i) (by omega) (hcs _ (List.getElem_mem hi'))
 refine a_fun tok (fun_of Tryz.func128 rfl rfl) (by simp) fun B=>?_
 repeat refine kn rfl ?_
 refine k_region tok rfl (by kernel_rfl) ?_
 simp only [go_sem,simprocAttr]
 repeat refine kn rfl ?_
 have hbc:=below_cnds (k:=1) hcs
 refine k_freeze 2 [.ptr l b 0] [(1,.sl 1 (cs.map Cnd.enc) .any),(2,.iptr [.ptr l b 0])] rfl ⟨Inside.ptr _ _ _ (.inl hl),trivial⟩ ⟨.inl ⟨.refl _,hbc.inside⟩,.inr ⟨0,rfl,rfl⟩,trivial⟩ trivial ?_
 simp only [go_sem,simprocAttr]
 repeat refine kn rfl ?_
 refine k_region tok rfl (by kernel_rfl) ?_
 simp only [go_sem,simprocAttr]
 have hmap:=e216 (n + 1) cs (by omega) 217 [.iptr [.ptr l b 0]] _ _ (fun_of Tryz.func217 rfl rfl) (s.names cs).1 (names_len cs s) (fun i=>bxH (full n [] H) l b F (s.names (cs.take i)).2) (hbf _ (by omega)) (hbc.mono (Nat.le_succ n))
  (fun i h L=>by
   have h1:=names_take cs s i h
   have:=a217 (n + 1 + 1) (full (n + 1) L (full n [] H)) l b F (s.names (cs.take i)).2 (by omega) (hF.mono (by omega)) (hfit i) cs[i] (Cnd_up (Cnd_up (hcs _ (List.getElem_mem h)) []) L)
   rw [full_bxH (show l ≠ n + 1 by omega),full_bxH (show l ≠ n + 1 by omega),h1.1,h1.2 (by rw [names_len]; exact h)]
   exact this) (fun i h=>out_bxH (hF.mono (Nat.le_succ n)) (by omega) _ _)
 rw [List.take_zero,List.take_length] at hmap
 refine callB hl hF (fun_of Tryz.func216 rfl rfl) hmap (by simp only [go_sem,simprocAttr]) ?_
 simp only [go_sem,simprocAttr]
 refine callP (fun_of Tryz.func122 rfl rfl) (a122 (s.names cs).1 .any hsm (by rw [names_len]; omega)) (by simp only [go_sem,simprocAttr,eInt]) ?_
 simp only [go_sem,simprocAttr,eInt]
 repeat refine kn rfl ?_
 refine k_ret rfl ?_
 exact post_oneQ (.refl _) (below_sInts _) ⟨rfl,rfl⟩
end Go.Proofs.YthgbkalgmicniaaGreatDoor

/- Settled conditions; rules with conditions as bodies. -/
namespace Go.Abs
def isCon:Cnd → Bool
 | .con _=>true
 | _=>false
def isNo:Cnd → Bool
 | .con b=>!b
 | _=>false
def openL (l:List Cnd):List Cnd:=l.filter fun c=>!isCon c
def settledL (l:List Cnd):List Cnd × Bool:=if l.any isNo then ([],false) else (openL l,true)
def St.lits (s:St) (l:List Cnd):List Int × St:=(ordL (s.names l).1,(s.names l).2)
def St.emit (s:St) (h:List Int) (l:List Cnd):St:=match l with
 | [.pend _ _ w k]=>s.sum h w k
 | l=>(s.lits l).2.rule h (s.lits l).1
end Go.Abs
namespace Go.Proofs.YthgbkalgmicniaaGreatDoor
open Go.Abs
set_option maxRecDepth 100000
def st121 (n:Nat) (l:List Cnd) (H:AHeap) (i:Nat):AState :=
 ⟨[(10,.int .i64 i),(9,.int .i64 l.length),(8,.sl 1 (l.map Cnd.enc) .any),(2,.sl 1 ((openL (l.take i)).map Cnd.enc) (.buf n 200)),(3,.bool false)],[(200,.buf 260 1 (openL (l.take i)).length)],H⟩
theorem getD_cnd (l:List Cnd) (i:Nat) (h:i < l.length) (d:AV):(l.map Cnd.enc).getD i d = l[i].enc:=by
 rw [List.getD_eq_getElem?_getD,List.getElem?_map,List.getElem?_eq_getElem h]; rfl
theorem openL_snoc (l:List Cnd) (c:Cnd):openL (l ++ [c]) = if isCon c then openL l else openL l ++ [c]:=by
 unfold openL; rw [List.filter_append]
 cases h:isCon c <;> simp [h]
theorem a121 (n:Nat) (H:AHeap) (l:List Cnd) (hbc:∀ c ∈ l,Below n c.enc) (hl:l.length ≤ 1000000) :
  PC Tryz.prog n 121 [.sl 1 (l.map Cnd.enc) .any] H (.tup [.sl 1 ((settledL l).1.map Cnd.enc) .any,.bool (settledL l).2]):=by
 have hol:∀ i,(openL (l.take i)).length ≤ 1000000:=fun i=>by
  have h1:=List.length_filter_le (fun c=>!isCon c) (l.take i)
  have h2:(l.take i).length ≤ l.length:=by rw [List.length_take]; omega
  unfold openL; omega
 have hbo:∀ i,∀ x ∈ (openL (l.take i)).map Cnd.enc,Below n x:=fun i x hx=>by
  obtain ⟨c,hc,rfl⟩:=List.mem_map.1 hx
  exact hbc c (List.mem_of_mem_take (List.mem_filter.1 hc).1)
 have hb:Below n (.sl 1 (l.map Cnd.enc) .any):=below_sla fun x hx=>by
  obtain ⟨c,hc,rfl⟩:=List.mem_map.1 hx; exact hbc c hc
 refine a_fun tok (fun_of Tryz.func121 rfl rfl) (by simp) fun B=>?_
 repeat refine kn rfl ?_
 refine k_region tok rfl (by kernel_rfl) ?_
 simp only [go_sem,simprocAttr]
 repeat refine kn rfl ?_
 refine k_region tok rfl (by kernel_rfl) ?_
 simp only [go_sem,simprocAttr]
 repeat refine kn rfl ?_
 refine k_adopt 2 200 260 1 rfl rfl ?_
 refine k_loop_p (st121 n l H) (fun i=>(l.take i).any isNo = false) l.length rfl ?_ rfl ?_
 ·refine AWk_kept ?_ ?_ ?_ ?_ <;> repeat' first | exact trivial | refine q0 ?_ | exact qb | exact q1 | exact q2 | exact q3 | exact rfl | refine And.intro ?_ ?_ | exact q4 | exact q5 | exact q6 | exact q7 | exact Inside.ptr _ _ _ (.inr ⟨rfl,rfl⟩) | exact q8 | exact q9 | exact qd | exact Tm.ins _ | exact Tm.inss _ _ | exact Am.ins _ | exact Am.inss _ _ | refine ins_buf_str ?_ | refine Tm.ins_buf ?_ | refine Am.ins_buf ?_ | exact qf
  all_goals first | exact hb.inside | exact ins_buf (hbo 0) rfl | skip
 intro i hi hq
 refine k_st rfl ?_
 rcases Nat.lt_or_ge i l.length with h | h
 ·have hlo:=hol i
  repeat refine kn rfl ?_
  refine k_region tok rfl (by kernel_rfl) ?_
  simp only [go_sem,simprocAttr,h]
  repeat refine kn rfl ?_
  refine k_cond_t rfl (by simp only [go_sem,simprocAttr]) ?_
  repeat refine kn rfl ?_
  refine k_region tok rfl (by kernel_rfl) ?_
  simp only [go_sem,simprocAttr,getD_cnd _ _ h,h]
  have hnx:∀ c,l[i] = c → openL (l.take (i + 1)) = if isCon c then openL (l.take i) else openL (l.take i) ++ [c]:=fun c hc=>by
   rw [List.take_succ_eq_append_getElem h,hc,openL_snoc]
  have hno:∀ c,l[i] = c → (l.take (i + 1)).any isNo = isNo c:=fun c hc=>by
   rw [List.take_succ_eq_append_getElem h,hc,List.any_append,hq]; simp
  cases hc:l[i] with
  | lit x =>
   have h1:=hnx _ hc
   have h2:=hno _ hc
   repeat refine kn rfl ?_
   refine k_region tok rfl (by kernel_rfl) ?_
   simp only [go_sem,simprocAttr,enc_lit]
   repeat refine kn rfl ?_
   refine k_region tok rfl (by kernel_rfl) ?_
   simp only [go_sem,simprocAttr]
   repeat refine kn rfl ?_
   refine k_cond_t rfl (by simp only [go_sem,simprocAttr]) ?_
   repeat refine kn rfl ?_
   refine k_region tok rfl (by kernel_rfl) ?_
   simp only [go_sem,simprocAttr]
   refine ⟨rfl,⟨le_maxLen (by omega),by omega⟩,?_⟩
   repeat refine kn rfl ?_
   refine k_region tok rfl (by kernel_rfl) ?_
   simp only [go_sem,simprocAttr]
   repeat refine kn rfl ?_
   refine k_nil ?_
   refine ⟨h2,?_⟩
   refine AWk_kept ?_ ?_ ?_ ?_ <;> repeat' first | exact trivial | refine q0 ?_ | exact qb | exact q1 | exact q2 | exact q3 | exact rfl | refine And.intro ?_ ?_ | exact q4 | exact q5 | exact q6 | exact q7 | exact Inside.ptr _ _ _ (.inr ⟨rfl,rfl⟩) | exact q8 | exact q9 | exact qd | exact Tm.ins _ | exact Tm.inss _ _ | exact Am.ins _ | exact Am.inss _ _ | refine ins_buf_str ?_ | refine Tm.ins_buf ?_ | refine Am.ins_buf ?_ | exact qf
   ·simp only [go_sem,simprocAttr]
    rw [IntWalk.i64_in _ (by omega)]; exact .refl _
   ·simp only [go_sem,simprocAttr,h1,isCon,List.map_append,enc_lit]
    exact .refl _
   all_goals first | exact hb.inside | exact ins_buf (hbo (i + 1)) rfl | skip
   simp only [go_sem,simprocAttr,h1,isCon,List.length_append]
  | con x =>
   have h1:=hnx _ hc
   have h2:=hno _ hc
   repeat refine kn rfl ?_
   refine k_region tok rfl (by kernel_rfl) ?_
   simp only [go_sem,simprocAttr,enc_con]
   repeat refine kn rfl ?_
   refine k_region tok rfl (by kernel_rfl) ?_
   simp only [go_sem,simprocAttr]
   repeat refine kn rfl ?_
   refine k_cond_f rfl (by simp only [go_sem,simprocAttr]) ?_
   repeat refine kn rfl ?_
   refine k_region tok rfl (by kernel_rfl) ?_
   simp only [go_sem,simprocAttr]
   cases x with
   | false =>
    simp only [go_sem,simprocAttr]
    repeat refine kn rfl ?_
    refine k_cond_t rfl (by simp only [go_sem,simprocAttr]) ?_
    repeat refine kn rfl ?_
    refine k_region tok rfl (by kernel_rfl) ?_
    simp only [go_sem,simprocAttr]
    repeat refine kn rfl ?_
    refine k_ret_round rfl ?_
    have e:l.any isNo = true:=List.any_eq_true.2 ⟨l[i],List.getElem_mem h,by rw [hc]; rfl⟩
    rw [settledL,if_pos e]
    refine post_two ?_ (.refl _) (below_sla (fun _ h=>by cases h)) (.bool _) rfl
    simp only [go_sem,simprocAttr]
    exact .any _ _ _
   | true =>
    simp only [go_sem,simprocAttr]
    repeat refine kn rfl ?_
    refine k_cond_f rfl (by simp only [go_sem,simprocAttr]) ?_
    refine k_skip rfl ?_
    repeat refine kn rfl ?_
    refine k_region tok rfl (by kernel_rfl) ?_
    simp only [go_sem,simprocAttr]
    repeat refine kn rfl ?_
    refine k_nil ?_
    refine ⟨h2,?_⟩
    refine AWk_kept ?_ ?_ ?_ ?_ <;> repeat' first | exact trivial | refine q0 ?_ | exact qb | exact q1 | exact q2 | exact q3 | exact rfl | refine And.intro ?_ ?_ | exact q4 | exact q5 | exact q6 | exact q7 | exact Inside.ptr _ _ _ (.inr ⟨rfl,rfl⟩) | exact q8 | exact q9 | exact qd | exact Tm.ins _ | exact Tm.inss _ _ | exact Am.ins _ | exact Am.inss _ _ | refine ins_buf_str ?_ | refine Tm.ins_buf ?_ | refine Am.ins_buf ?_ | exact qf
    ·simp only [go_sem,simprocAttr]
     rw [IntWalk.i64_in _ (by omega)]; exact .refl _
    ·simp only [go_sem,simprocAttr,h1,isCon]
     exact .refl _
    all_goals first | exact hb.inside | exact ins_buf (hbo (i + 1)) rfl | skip
    simp only [go_sem,simprocAttr,h1,isCon]
  | pend lw kw w x =>
   have h1:=hnx _ hc
   have h2:=hno _ hc
   repeat refine kn rfl ?_
   refine k_region tok rfl (by kernel_rfl) ?_
   simp only [go_sem,simprocAttr,enc_pend]
   repeat refine kn rfl ?_
   refine k_region tok rfl (by kernel_rfl) ?_
   simp only [go_sem,simprocAttr]
   repeat refine kn rfl ?_
   refine k_cond_t rfl (by simp only [go_sem,simprocAttr]) ?_
   repeat refine kn rfl ?_
   refine k_region tok rfl (by kernel_rfl) ?_
   simp only [go_sem,simprocAttr]
   refine ⟨rfl,⟨le_maxLen (by omega),by omega⟩,?_⟩
   repeat refine kn rfl ?_
   refine k_region tok rfl (by kernel_rfl) ?_
   simp only [go_sem,simprocAttr]
   repeat refine kn rfl ?_
   refine k_nil ?_
   refine ⟨h2,?_⟩
   refine AWk_kept ?_ ?_ ?_ ?_ <;> repeat' first | exact trivial | refine q0 ?_ | exact qb | exact q1 | exact q2 | exact q3 | exact rfl | refine And.intro ?_ ?_ | exact q4 | exact q5 | exact q6 | exact q7 | exact Inside.ptr _ _ _ (.inr ⟨rfl,rfl⟩) | exact q8 | exact q9 | exact qd | exact Tm.ins _ | exact Tm.inss _ _ | exact Am.ins _ | exact Am.inss _ _ | refine ins_buf_str ?_ | refine Tm.ins_buf ?_ | refine Am.ins_buf ?_ | exact qf
   ·simp only [go_sem,simprocAttr]
    rw [IntWalk.i64_in _ (by omega)]; exact .refl _
   ·simp only [go_sem,simprocAttr,h1,isCon,List.map_append,enc_pend]
    exact .refl _
   all_goals first | exact hb.inside | exact ins_buf (hbo (i + 1)) rfl | skip
   simp only [go_sem,simprocAttr,h1,isCon,List.length_append]
 ·repeat refine kn rfl ?_
  refine k_region tok rfl (by kernel_rfl) ?_
  simp only [go_sem,simprocAttr,Nat.not_lt.2 h]
  repeat refine kn rfl ?_
  refine k_cond_f rfl (by simp only [go_sem,simprocAttr]) ?_
  repeat refine kn rfl ?_
  refine k_exit_round rfl rfl rfl ?_
  have hi':i = l.length:=by omega
  subst hi'
  rw [List.take_length] at hq
  repeat refine kn rfl ?_
  refine k_region tok rfl (by kernel_rfl) ?_
  simp only [go_sem,simprocAttr]
  repeat refine kn rfl ?_
  refine k_ret rfl ?_
  rw [settledL,if_neg (by rw [hq]; decide)]
  refine post_two ?_ (.refl _) (below_sla (by have:=hbo l.length; rw [List.take_length] at this; exact this)) (.bool _) rfl
  simp only [go_sem,simprocAttr,List.take_length]
  exact .any _ _ _
theorem lits_fit {s:St} {k:Int} (l:List Cnd) (h:s.Fit k):(s.lits l).2.Fit (k + 2 * l.length):=names_fit l h
theorem emit_fit {s:St} {k:Int} (h:List Int) (l:List Cnd) (hs:s.Fit k):(s.emit h l).Fit (k + 2 * l.length + 1):=by
 unfold St.emit
 split
 ·exact (hs.sum _ _ _).mono (by simp; omega)
 ·exact (lits_fit _ hs).rule _ _
theorem b125 (n:Nat) (H:AHeap) (l b:Nat) (F:Fr) (s:St) (hl:l < n) (hF:F.bel n) (hs:s.Fit 700000) (h:List Int) (o1:Own) (g1:∀ x ∈ h,SmI x) (l1:h.length ≤ 1000000) (cs:List Cnd) (hcs:∀ c ∈ cs,c.Ok n l b H) (hlen:cs.length ≤ 10000) :
  ACalls Tryz.prog n 125 [.ptr l b 0,.sl 1 (aInts h) o1,.sl 1 (cs.map Cnd.enc) .any] (bxH H l b F s) fun r H'=>r = .tup [] ∧ H' = bxH H l b F (s.emit h cs):=by
 have hne:¬ l = n:=by omega
 have hfit:∀ i,((s.names (cs.take i)).2).Fit 900000:=fun i=>(names_fit (cs.take i) hs).mono (by rw [List.length_take]; omega)
 have hsm:∀ x ∈ (s.names cs).1,SmI x:=fun x hx=>by
  obtain ⟨i,hi,rfl⟩:=List.getElem_of_mem hx
  have hi':i < cs.length:=by rw [names_len] at hi; exact hi
  rw [(names_take cs s i hi').2 hi]
  exact name_sm (hfit i) (by omega) (hcs _ (List.getElem_mem hi'))
 have hsm':∀ x ∈ ordL (s.names cs).1,SmI x:=fun x hx=>hsm x ((ordL_mem _ _).1 hx)
 have hlo:(ordL (s.names cs).1).length ≤ 1000000:=by have:=ordL_len (s.names cs).1; rw [names_len] at this; omega
 refine a_fun tok (fun_of Tryz.func125 rfl rfl) (by simp) fun B=>?_
 have go:s.emit h cs = (s.lits cs).2.rule h (s.lits cs).1 → ∀ (tm:List (Nat × AV)) (L:List (Nat × ABlk)),lkv tm 0 = .ptr l b 0 → lkv tm 1 = .sl 1 (aInts h) o1 → lkv tm 2 = .sl 1 (cs.map Cnd.enc) .any → AKc ⟨Tryz.prog,tt,⟨none,B⟩,n,Tryz.f125.ntmps⟩ [.code (bodyOf Tryz.f125).snd.snd]
   (PostF Tryz.prog tt n Tryz.f125.results.toList fun r H'=>r = .tup [] ∧ H' = bxH H l b F (s.emit h cs)) ⟨tm,L,bxH H l b F s⟩:=by
  intro he tm L t0 t1 t2
  rw [he]
  repeat refine kn rfl ?_
  refine k_region tok rfl (by kernel_rfl) ?_
  simp only [go_sem,simprocAttr,t0,t1,t2]
  refine callB hl hF (fun_of Tryz.func128 rfl rfl) (a128 (n + 1) (full n L H) l b F s (by omega) (hF.mono (Nat.le_succ n)) (hs.mono (by omega)) cs (fun c hc=>Cnd_up (hcs c hc) L) hlen) (by simp only [go_sem,simprocAttr,t0,t2]) ?_
  simp only [go_sem,simprocAttr]
  refine callB hl hF (fun_of Tryz.func206 rfl rfl) (a206 (n + 1) (full n L H) l b F (s.names cs).2 (by omega) (hF.mono (Nat.le_succ n)) ((names_fit cs hs).mono (by omega)) h o1 (ordL (s.names cs).1) .any g1 hsm' l1 hlo) (by simp only [go_sem,simprocAttr,t0,t1]) ?_
  simp only [go_sem,simprocAttr]
  exact k_nil ⟨by simp [okRes],[],trivial,by simp,rfl,rfl⟩
 by_cases h1:cs.length = 1
 ·obtain ⟨c,rfl⟩:∃ c,cs = [c]:=by
   match cs,h1 with
   | [c],_=>exact ⟨c,rfl⟩
  have hc:=hcs c (by simp)
  repeat refine kn rfl ?_
  refine k_region tok rfl (by kernel_rfl) ?_
  simp only [go_sem,simprocAttr,List.length_cons,List.length_nil]
  repeat refine kn rfl ?_
  refine k_cond_t rfl (by simp only [go_sem,simprocAttr]) ?_
  cases c with
  | lit x =>
   repeat refine kn rfl ?_
   refine k_region tok rfl (by kernel_rfl) ?_
   simp only [go_sem,simprocAttr,enc_lit]
   repeat refine kn rfl ?_
   refine k_region tok rfl (by kernel_rfl) ?_
   simp only [go_sem,simprocAttr]
   repeat refine kn rfl ?_
   refine k_cond_f rfl (by simp only [go_sem,simprocAttr]) ?_
   refine k_skip rfl ?_
   exact go rfl _ _ rfl rfl rfl
  | con x =>
   repeat refine kn rfl ?_
   refine k_region tok rfl (by kernel_rfl) ?_
   simp only [go_sem,simprocAttr,enc_con]
   repeat refine kn rfl ?_
   refine k_region tok rfl (by kernel_rfl) ?_
   simp only [go_sem,simprocAttr]
   repeat refine kn rfl ?_
   refine k_cond_f rfl (by simp only [go_sem,simprocAttr]) ?_
   refine k_skip rfl ?_
   exact go rfl _ _ rfl rfl rfl
  | pend lw kw w x =>
   repeat refine kn rfl ?_
   refine k_region tok rfl (by kernel_rfl) ?_
   simp only [go_sem,simprocAttr,enc_pend]
   repeat refine kn rfl ?_
   refine k_region tok rfl (by kernel_rfl) ?_
   simp only [go_sem,simprocAttr]
   repeat refine kn rfl ?_
   refine k_cond_t rfl (by simp only [go_sem,simprocAttr]) ?_
   repeat refine kn rfl ?_
   refine k_region tok rfl (by kernel_rfl) ?_
   simp only [go_sem,simprocAttr]
   have hlw:lw ≠ n:=by have:=hc.1; omega
   refine callB hl hF (fun_of Tryz.func211 rfl rfl) (a211 (n + 1) _ l b F s (by omega) (hF.mono (Nat.le_succ n)) (hs.mono (by omega)) h o1 g1 l1 lw kw w (by have:=hc.1; omega) hc.2.1 (by simp only [full,if_neg hlw]; exact hc.2.2.1) hc.2.2.2.1 hc.2.2.2.2 x) (by simp only [go_sem,simprocAttr]) ?_
   simp only [go_sem,simprocAttr]
   repeat refine kn rfl ?_
   refine k_ret rfl ?_
   exact ⟨by simp [okRes],[],trivial,by simp,rfl,rfl⟩
 ·have h3:((cs.length:Int) == 1) = false:=by rw [beq_eq_false_iff_ne]; omega
  repeat refine kn rfl ?_
  refine k_region tok rfl (by kernel_rfl) ?_
  simp only [go_sem,simprocAttr,h3]
  repeat refine kn rfl ?_
  refine k_cond_f rfl (by simp only [go_sem,simprocAttr]) ?_
  refine k_skip rfl ?_
  refine go ?_ _ _ rfl rfl rfl
  unfold St.emit
  split
  ·exact absurd rfl h1
  ·rfl
end Go.Proofs.YthgbkalgmicniaaGreatDoor

/- The table's numbers. -/
namespace Go.Abs
def numOf (M:List (List UInt8 × Int)) (a:Am):Int:=(getM (Go.Proofs.YthgbkalgmicniaaGreatDoor.nameA a) M).getD 0
def litIn (M:List (List UInt8 × Int)) (x:GL):Int:=if x.no then -numOf M x.a else numOf M x.a
abbrev encN (M:List (List UInt8 × Int)):List (AV × AV):=encM AV.str (AV.int .i64) M
def SmN (M:List (List UInt8 × Int)):Prop:=∀ p ∈ M,0 ≤ p.2 ∧ p.2 ≤ 1000000
theorem getM_mem {κ β:Type} [DecidableEq κ] {k:κ} {v:β}:∀ {es:List (κ × β)},getM k es = some v → (k,v) ∈ es
 | [],h=>by cases h
 | p :: r,h=>by
  simp only [getM] at h
  split at h
  ·rename_i e; cases h; subst e; exact List.mem_cons_self
  ·exact List.mem_cons_of_mem _ (getM_mem h)
theorem numOf_sm {M:List (List UInt8 × Int)} (h:SmN M) (a:Am):0 ≤ numOf M a ∧ numOf M a ≤ 1000000:=by
 unfold numOf
 cases hg:getM (Go.Proofs.YthgbkalgmicniaaGreatDoor.nameA a) M with
 | none=>simp
 | some v=>exact h _ (getM_mem hg)
theorem litIn_sm {M:List (List UInt8 × Int)} (h:SmN M) (x:GL):SmI (litIn M x):=by
 have:=numOf_sm h x.a
 unfold litIn SmI; split <;> omega
end Go.Abs
namespace Go.Proofs.YthgbkalgmicniaaGreatDoor
open Go.Abs
set_option maxRecDepth 100000
theorem b124 (n:Nat) (H:AHeap) (l b:Nat) (c0:AV) (rest:List AV) (lm km:Nat) (M:List (List UInt8 × Int)) (hl:l < n) (hlm:lm < n) (hb:H l b = some (.box (c0 :: .map lm km :: rest))) (hM:H lm km = some (.map (encN M))) (hn:0 < n) (hT:Tabs H) (a:Am) (ha:a.Good) :
  PC Tryz.prog n 124 [.ptr l b 0,a.enc] H (.int .i64 (numOf M a)):=by
 have hne:¬ l = n:=by omega
 have hne2:¬ lm = n:=by omega
 have hlk:=fun re=>lookA_M kinj_str (AV.int .i64) re (nameA a) M
 have hkk:∀ p ∈ encN M,keyOK tt 9 p.1 = true:=fun p hp=>by
  obtain ⟨q,_,rfl⟩:=List.mem_map.1 hp; exact keyStr _
 refine a_fun tok (fun_of Tryz.func124 rfl rfl) (by simp) fun B=>?_
 repeat refine kn rfl ?_
 refine k_region tok rfl (by kernel_rfl) ?_
 simp only [go_sem,simprocAttr]
 repeat refine kn rfl ?_
 refine k_draw tok mixed drawO rfl rfl (by kernel_rfl) (by kernel_rfl) ?_
 simp only [go_sem,simprocAttr,hne,hb]
 refine ⟨by omega,?_⟩
 refine callT (fun_of Tryz.func17 rfl rfl) (a17n a ha) hn hT (by simp only [go_sem,simprocAttr]) ?_
 simp only [go_sem,simprocAttr]
 simp only [go_sem,simprocAttr,hne2,hM,hlk]
 refine ⟨hkk,?_⟩
 repeat refine kn rfl ?_
 refine k_ret rfl ?_
 refine post_one ?_ (.int _ _) rfl
 simp only [go_sem,simprocAttr,numOf]
 cases getM (nameA a) M <;> exact .refl _
theorem b119 (n:Nat) (H:AHeap) (l b:Nat) (c0:AV) (rest:List AV) (lm km:Nat) (M:List (List UInt8 × Int)) (hl:l < n) (hlm:lm < n) (hb:H l b = some (.box (c0 :: .map lm km :: rest))) (hM:H lm km = some (.map (encN M))) (hsm:SmN M) (hn:0 < n) (hT:Tabs H) (x:GL) (hx:x.a.Good) :
  PC Tryz.prog n 119 [.ptr l b 0,x.enc] H (.int .i64 (litIn M x)):=by
 have h1:=numOf_sm hsm x.a
 have hw:IntKind.i64.wrap (0 - numOf M x.a) = -numOf M x.a:=by rw [IntWalk.i64_in _ (by omega)]; omega
 refine a_fun tok (fun_of Tryz.func119 rfl rfl) (by simp) fun B=>?_
 repeat refine kn rfl ?_
 refine k_region tok rfl (by kernel_rfl) ?_
 simp only [go_sem,simprocAttr]
 cases hno:x.no with
 | true =>
  repeat refine kn rfl ?_
  refine k_region tok rfl (by kernel_rfl) ?_
  simp only [go_sem,simprocAttr,hno]
  repeat refine kn rfl ?_
  refine k_cond_t rfl (by simp only [go_sem,simprocAttr]) ?_
  repeat refine kn rfl ?_
  refine k_region tok rfl (by kernel_rfl) ?_
  simp only [go_sem,simprocAttr]
  refine callH (fun_of Tryz.func124 rfl rfl) (b124 (n + 1) _ l b c0 rest lm km M (show l < n + 1 by omega) (show lm < n + 1 by omega) (by show full n _ H l b = _; rw [full_low hl]; exact hb) (by show full n _ H lm km = _; rw [full_low hlm]; exact hM) (Nat.succ_pos _) (hT.full hn) x.a hx) (by simp only [go_sem,simprocAttr]) ?_
  simp only [go_sem,simprocAttr,hw]
  repeat refine kn rfl ?_
  refine k_ret rfl ?_
  refine post_one ?_ (.int _ _) rfl
  simp only [go_sem,simprocAttr,litIn,hno,if_true]
  exact .refl _
 | false =>
  repeat refine kn rfl ?_
  refine k_region tok rfl (by kernel_rfl) ?_
  simp only [go_sem,simprocAttr,hno]
  repeat refine kn rfl ?_
  refine k_cond_f rfl (by simp only [go_sem,simprocAttr]) ?_
  refine k_skip rfl ?_
  repeat refine kn rfl ?_
  refine k_region tok rfl (by kernel_rfl) ?_
  simp only [go_sem,simprocAttr]
  refine callH (fun_of Tryz.func124 rfl rfl) (b124 (n + 1) _ l b c0 rest lm km M (show l < n + 1 by omega) (show lm < n + 1 by omega) (by show full n _ H l b = _; rw [full_low hl]; exact hb) (by show full n _ H lm km = _; rw [full_low hlm]; exact hM) (Nat.succ_pos _) (hT.full hn) x.a hx) (by simp only [go_sem,simprocAttr]) ?_
  simp only [go_sem,simprocAttr]
  repeat refine kn rfl ?_
  refine k_ret rfl ?_
  refine post_one ?_ (.int _ _) rfl
  simp only [go_sem,simprocAttr,litIn,hno,if_false]
  exact .refl _
end Go.Proofs.YthgbkalgmicniaaGreatDoor

/- The groups of an aggregate's elements. No program. -/
namespace Go.Abs
open Go.Proofs.YthgbkalgmicniaaGreatDoor
structure Gp where
 key:List UInt8
 tup:List Tm
 ls:List LInt
def keyE (t:List Tm):List UInt8:=(Lib.itoa (t.length:Int) ++ [58]) ++ txts t
def addG (t:List Tm) (c:LInt):List Gp → List Gp
 | []=>[⟨keyE t,t,[c]⟩]
 | g :: r=>if g.key = keyE t then ⟨g.key,g.tup,distinctL g.ls c⟩ :: r else g :: addG t c r
def ixG (k:List UInt8):List Gp → Nat
 | []=>0
 | g :: r=>if g.key = k then 0 else ixG k r + 1
def gIx (i:Nat):List Gp → List (List UInt8 × (Nat × List LInt))
 | []=>[]
 | g :: r=>(g.key,(i,g.ls)) :: gIx (i + 1) r
def gTup (gs:List Gp):List (List UInt8 × List Tm):=gs.map fun g=>(g.key,g.tup)
def bufsG (i:Nat):List Gp → List (Nat × ABlk)
 | []=>[]
 | g :: r=>(300 + i,.buf 61 1 g.ls.length) :: bufsG (i + 1) r
def evG (n:Nat) (p:Nat × List LInt):AV:=.sl 1 (p.2.map sInts) (.buf n (300 + p.1))
def evT' (t:List Tm):AV:=.sl 4 (t.map Tm.enc) .any
theorem gIx_get (k:List UInt8):∀ (gs:List Gp) (i:Nat),getM k (gIx i gs) = (gs[ixG k gs]?).map fun g=>(i + ixG k gs,g.ls)
 | [],i=>rfl
 | g :: r,i=>by
  simp only [gIx,getM,ixG]
  by_cases h:g.key = k
  ·simp [h]
  ·rw [if_neg h,if_neg h,gIx_get k r (i + 1),List.getElem?_cons_succ]
   congr 1
   funext g
   rw [show i + 1 + ixG k r = i + (ixG k r + 1) by omega]
theorem gTup_get (k:List UInt8):∀ gs:List Gp,getM k (gTup gs) = (gs[ixG k gs]?).map Gp.tup
 | []=>rfl
 | g :: r=>by
  simp only [gTup,List.map_cons,getM,ixG]
  by_cases h:g.key = k
  ·simp [h]
  ·rw [if_neg h,if_neg h,List.getElem?_cons_succ]
   exact gTup_get k r
theorem ixG_key {k:List UInt8}:∀ {gs:List Gp} {g:Gp},gs[ixG k gs]? = some g → g.key = k
 | [],_,h=>by simp [ixG] at h
 | x :: r,g,h=>by
  simp only [ixG] at h
  split at h
  ·rename_i e; simp at h; subst h; exact e
  ·simp at h; exact ixG_key h
theorem addG_new {t:List Tm} {c:LInt}:∀ {gs:List Gp},gs[ixG (keyE t) gs]? = none → addG t c gs = gs ++ [⟨keyE t,t,[c]⟩] ∧ ixG (keyE t) gs = gs.length
 | [],_=>⟨rfl,rfl⟩
 | g :: r,h=>by
  simp only [ixG] at h
  split at h
  ·simp at h
  ·rename_i e
   have:=addG_new (t:=t) (c:=c) (gs:=r) (by simpa using h)
   simp only [addG,ixG,if_neg e,this.1,this.2,List.cons_append,List.length_cons]
   exact ⟨trivial,trivial⟩
theorem addG_old {t:List Tm} {c:LInt}:∀ {gs:List Gp} {g:Gp},gs[ixG (keyE t) gs]? = some g → addG t c gs = gs.set (ixG (keyE t) gs) ⟨g.key,g.tup,distinctL g.ls c⟩
 | [],_,h=>by simp [ixG] at h
 | x :: r,g,h=>by
  simp only [ixG] at h
  simp only [addG,ixG]
  split at h
  ·rename_i e; simp at h; subst h; rw [if_pos e,if_pos e]; rfl
  ·rename_i e
   rw [if_neg e,if_neg e,addG_old (gs:=r) (by simpa using h)]; rfl
theorem gIx_snoc (g:Gp):∀ (gs:List Gp) (i:Nat),gIx i (gs ++ [g]) = gIx i gs ++ [(g.key,(i + gs.length,g.ls))]
 | [],i=>rfl
 | x :: r,i=>by
  simp only [List.cons_append,gIx,gIx_snoc g r (i + 1),List.length_cons]
  rw [show i + 1 + r.length = i + (r.length + 1) by omega]
theorem gIx_set (g:Gp):∀ (gs:List Gp) (i j:Nat),gIx i (gs.set j g) = (gIx i gs).set j (g.key,(i + j,g.ls))
 | [],i,j=>rfl
 | x :: r,i,0=>rfl
 | x :: r,i,j + 1=>by
  simp only [List.set_cons_succ,gIx,gIx_set g r (i + 1) j]
  rw [show i + 1 + j = i + (j + 1) by omega]
theorem bufsG_snoc (g:Gp):∀ (gs:List Gp) (i:Nat),bufsG i (gs ++ [g]) = bufsG i gs ++ [(300 + (i + gs.length),.buf 61 1 g.ls.length)]
 | [],i=>rfl
 | x :: r,i=>by
  simp only [List.cons_append,bufsG,bufsG_snoc g r (i + 1),List.length_cons]
  rw [show i + 1 + r.length = i + (r.length + 1) by omega]
theorem lkb_bufs:∀ (gs:List Gp) (i j:Nat),lkb (bufsG i gs) (300 + (i + j)) = (gs[j]?).map fun g=>.buf 61 1 g.ls.length
 | [],i,j=>rfl
 | x :: r,i,0=>by simp [bufsG,lkb]
 | x :: r,i,j + 1=>by
  simp only [bufsG,lkb]
  rw [if_neg (by omega),show i + (j + 1) = i + 1 + j by omega,lkb_bufs r (i + 1) j,List.getElem?_cons_succ]
theorem setb_bufs_new (x:ABlk):∀ (gs:List Gp) (i:Nat),setb (bufsG i gs) (300 + (i + gs.length)) x = bufsG i gs ++ [(300 + (i + gs.length),x)]
 | [],i=>rfl
 | g :: r,i=>by
  simp only [bufsG,setb,List.length_cons]
  rw [if_neg (by omega),show i + (r.length + 1) = i + 1 + r.length by omega,setb_bufs_new x r (i + 1)]; rfl
theorem setb_bufs_old (g:Gp):∀ (gs:List Gp) (i j:Nat),j < gs.length → setb (bufsG i gs) (300 + (i + j)) (.buf 61 1 g.ls.length) = bufsG i (gs.set j g)
 | [],i,j,h=>absurd h (Nat.not_lt_zero _)
 | x :: r,i,0,h=>by simp [bufsG,setb]
 | x :: r,i,j + 1,h=>by
  simp only [bufsG,setb,List.set_cons_succ]
  rw [if_neg (by omega),show i + (j + 1) = i + 1 + j by omega,setb_bufs_old g r (i + 1) j (by simpa using h)]
theorem lkb_bufs_low (gs:List Gp):∀ (i k:Nat),k < 300 → lkb (bufsG i gs) k = none:=by
 induction gs with
 | nil=>intro i k _; rfl
 | cons g r ih=>intro i k h; simp only [bufsG,lkb]; rw [if_neg (by omega)]; exact ih _ _ h
def grps (M:List (List UInt8 × Int)) (l:List GE):List Gp:=l.foldl (fun gs e=>addG e.tuple (ordL (e.cond.map (litIn M))) gs) []
theorem grps_snoc (M:List (List UInt8 × Int)) (l:List GE) (e:GE):grps M (l ++ [e]) = addG e.tuple (ordL (e.cond.map (litIn M))) (grps M l):=by simp [grps]
end Go.Abs
