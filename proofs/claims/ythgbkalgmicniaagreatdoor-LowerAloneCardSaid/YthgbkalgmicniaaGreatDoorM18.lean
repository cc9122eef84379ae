/- Collect. -/
import Derived.Test.YthgbkalgmicniaaGreatDoorM17
import Derived.Test.YthgbkalgmicniaaGreatDoorM09
set_option linter.all false
namespace Go.Proofs.YthgbkalgmicniaaGreatDoor
open Go.Abs
set_option maxRecDepth 100000
structure EOk (e:GE):Prop where
 g:e.Good
 ne:e.tuple ≠ []
 v:e.tuple.all valueT = true
 ts:GoodTs e.tuple
 cl:e.cond.length ≤ 10000
theorem _root_.List.set_getElem?_self' {α:Type} {l:List α} {i:Nat} {x:α} (h:l[i]? = some x):l.set i x = l:=by
 obtain ⟨h1,h2⟩:=List.getElem?_eq_some_iff.1 h
 rw [← h2]; exact List.set_getElem_self h1
def op12:Opt:=⟨true,true,fun d=>if d = 58 then .heap else if d = 60 then .call else .auto,[]⟩
theorem b197 (n:Nat) (H:AHeap) (l b:Nat) (F:Fr) (s:St) (hl:l < n) (h0:0 < l) (hF:F.bel n) (hs:s.Fit 300000) (lm km:Nat) (M:List (List UInt8 × Int)) (hnum:F.num = .map lm km) (hlm:lm < n) (hd1:¬(lm = l ∧ km = b)) (hd2:¬(lm = l ∧ km = b + 1))
  (hM:H lm km = some (.map (encN M))) (hsm:SmN M) (hT0:Tabs H) (gb:GB) (hE:∀ e ∈ gb.elems,EOk e) (hel:gb.elems.length ≤ 400) (l0 k0:Nat) (hl0:l0 < n) (hf0:H l0 k0 = none) (hd3:¬(l0 = l ∧ k0 = b)) (hd4:¬(l0 = l ∧ k0 = b + 1)) :
  ACalls Tryz.prog n 197 [.ptr l b 0,gb.enc] (bxH H l b F s) fun r H'=>r = .tup [.int .i64 (collectG gb.fn s (grps M gb.elems)).base,.map l0 k0] ∧ H' = bxH (H.upd l0 k0 (.map (encW (collectG gb.fn s (grps M gb.elems)).w))) l b F (collectG gb.fn s (grps M gb.elems)).s:=by
 have hne:¬ l = n:=by omega
 have hn:0 < n:=by omega
 have hT:Tabs (bxH H l b F s):=Tabs.up hT0 fun k=>bxH_lv (by omega)
 have hHM:bxH H l b F s lm km = some (.map (encN M)):=by rw [bxH_ne hd1 hd2]; exact hM
 have hbx:bxH H l b F s l b = some (.box (F.a :: .map lm km :: [.int .i64 s.n,.msl 6 l (b + 1) s.rules.length,F.pn,F.kn,.int .i64 s.err])):=by rw [bxH_box,bxC,hnum]
 refine a_fun tok (fun_of Tryz.func197 rfl rfl) (by simp) fun B=>?_
 repeat refine kn rfl ?_
 refine k_region tok rfl (by kernel_rfl) ?_
 simp only [go_sem,simprocAttr]
 repeat refine kn rfl ?_
 refine k_region tok rfl (by kernel_rfl) ?_
 simp only [go_sem,simprocAttr]
 repeat refine kn rfl ?_
 refine k_region tok rfl (by kernel_rfl) ?_
 simp only [go_sem,simprocAttr]
 repeat refine kn rfl ?_
 refine k_region tok rfl (by kernel_rfl) ?_
 simp only [go_sem,simprocAttr]
 repeat refine kn rfl ?_
 refine k_region tok rfl (by kernel_rfl) ?_
 simp only [go_sem,simprocAttr]
 repeat refine kn rfl ?_
 refine k_adopt 7 200 9 1 rfl rfl ?_
 repeat refine kn rfl ?_
 refine k_region tok rfl (by kernel_rfl) ?_
 simp only [go_sem,simprocAttr]
 refine k_cut ⟨tm197 n l b gb (grps M gb.elems),Lg n gb (grps M gb.elems),bxH H l b F s⟩ ?_ ?_
 ·repeat refine kn rfl ?_
  refine k_loop_ix (s197 n l b gb M (bxH H l b F s)) gb.elems.length rfl ?_ ?_
  ·unfold s197 Lg tm197
   rw [List.take_zero]
   refine AWk_kept ?_ ?_ ?_ ?_ <;> repeat' first | exact trivial | refine q0 ?_ | exact qb | exact q1 | exact q2 | exact q3 | exact rfl | refine And.intro ?_ ?_ | exact q4 | exact q5 | exact q6 | exact q7 | exact Inside.ptr _ _ _ (.inr ⟨rfl,rfl⟩) | exact q8 | exact q9 | exact qd | exact Tm.ins _ | exact Tm.inss _ _ | exact Am.ins _ | exact Am.inss _ _ | refine ins_buf_str ?_ | refine Tm.ins_buf ?_ | refine Am.ins_buf ?_ | exact qf
   all_goals first | exact (below_ges _).inside | exact (below_gls _).inside | exact (below_tms _).inside | exact Inside.ptr _ _ _ (.inl hl) | exact Inside.map _ _ (.inr ⟨rfl,rfl⟩) | exact ins_gTup | exact ins_bufs | exact kept_bufs (fun j hj=>by simp only [lkb]; (repeat rw [if_neg (by omega)]); try rw [lkb_setb,if_neg (by omega)]) | exact ins_gIx (fun j hj=>by simp only [lkb]; (repeat rw [if_neg (by omega)]); rw [lkb_bufs0]; simp [hj]) | skip
   all_goals exact 0
  intro i hi
  refine k_st rfl ?_
  rcases Nat.lt_or_ge i gb.elems.length with h | h
  ·have he:=hE _ (List.getElem_mem h)
   have hgl:=grps_len M (gb.elems.take i)
   rw [List.length_take] at hgl
   have hge:∀ d,(gb.elems.map GE.enc).getD i d = gb.elems[i].enc:=fun d=>getD_map GE.enc _ _ h d
   have hsn:grps M (gb.elems.take (i + 1)) = addG gb.elems[i].tuple (ordL (gb.elems[i].cond.map (litIn M))) (grps M (gb.elems.take i)):=by rw [List.take_succ_eq_append_getElem h,grps_snoc]
   have hne2:∀ g ∈ grps M (gb.elems.take i),g.ls ≠ []:=grps_mem (P:=fun g=>g.ls ≠ []) (fun e _ ls h _=>h)
   have hgll:∀ g ∈ grps M (gb.elems.take i),g.ls.length ≤ 1000:=fun g hg=>by have:=grps_ls M _ g hg; rw [List.length_take] at this; omega
   generalize grps M (gb.elems.take i) = gs at *
   generalize bxH H l b F s = G at *
   unfold tm197 Lg
   repeat refine kn rfl ?_
   refine k_region tok rfl (by kernel_rfl) ?_
   simp only [go_sem,simprocAttr,h]
   repeat refine kn rfl ?_
   refine k_cond_t rfl (by simp only [go_sem,simprocAttr]) ?_
   have hb10:lkb (bufsG 0 gs) 10 = none:=lkb_bufs_low gs 0 10 (by omega)
   have hs10:∀ X,lkb (setb (bufsG 0 gs) 10 X) 10 = some X:=fun X=>by rw [lkb_setb,if_pos rfl]
   repeat refine kn rfl ?_
   refine k_region tok rfl (by kernel_rfl) ?_
   simp only [go_sem,simprocAttr,hge,h,hb10,hs10,setb_setb]
   obtain ⟨e,hee⟩:∃ e,e = gb.elems[i]:=⟨_,rfl⟩
   rw [← hee] at he hsn ⊢
   refine k_weak (s':=⟨(10,.ptr n 10 0) :: (22,.int .i64 i) :: tm197 n l b gb gs,(10,.box e.cs) :: Lg n gb gs,G⟩) ?_ ?_
   ·unfold tm197 Lg
    refine AWk_kept ?_ ?_ ?_ ?_ <;> repeat' first | exact trivial | refine q0 ?_ | exact qb | exact q1 | exact q2 | exact q3 | exact rfl | refine And.intro ?_ ?_ | exact q4 | exact q5 | exact q6 | exact q7 | exact Inside.ptr _ _ _ (.inr ⟨rfl,rfl⟩) | exact q8 | exact q9 | exact qd | exact Tm.ins _ | exact Tm.inss _ _ | exact Am.ins _ | exact Am.inss _ _ | refine ins_buf_str ?_ | refine Tm.ins_buf ?_ | refine Am.ins_buf ?_ | exact qf
    all_goals first | exact (below_ges _).inside | exact (below_gls _).inside | exact (below_tms _).inside | exact Inside.ptr _ _ _ (.inl hl) | exact Inside.map _ _ (.inr ⟨rfl,rfl⟩) | exact ins_gTup | exact ins_bufs | exact kept_bufs (fun j hj=>by simp only [lkb]; (repeat rw [if_neg (by omega)]); try rw [lkb_setb,if_neg (by omega)]) | exact ins_gIx (fun j hj=>by simp only [lkb]; (repeat rw [if_neg (by omega)]); rw [lkb_bufs0]; simp [hj]) | skip
    all_goals first | (show lkb _ 10 = some _; simp only [lkb]; (repeat rw [if_neg (by decide)]); rw [lkb_setb,if_pos rfl]; rfl) | exact (he.g.t |> fun _=>GE.bcs (n:=n) e |> fun h=>by exact h.1.inside) | exact 0
   unfold tm197 Lg
   simp only [go_sem,simprocAttr]
   have htl:=txts_le he.ts he.v
   have hk1:=he.ts.len
   have hil:=Lib.itoa_length_le (e.tuple.length:Int) (by omega) (by omega)
   repeat refine kn rfl ?_
   refine k_draw tok mixed drawO rfl rfl (by kernel_rfl) (by kernel_rfl) ?_
   simp only [go_sem,simprocAttr]
   refine callT (fun_of Tryz.func214 rfl rfl) (a123 (e.tuple.length:Int) (by omega) (by omega)) hn hT (by simp only [go_sem,simprocAttr]) ?_
   simp only [go_sem,simprocAttr]
   refine ⟨by first | omega | (simp only [List.length_append,List.length_cons,List.length_nil]; omega),?_⟩
   refine callT (fun_of Tryz.func60 rfl rfl) (a60 e.tuple he.ts he.v) hn hT (by simp only [go_sem,simprocAttr]) ?_
   simp only [go_sem,simprocAttr]
   refine ⟨by first | omega | (simp only [List.length_append,List.length_cons,List.length_nil]; omega),?_⟩
   have hkey:(Lib.itoa (e.tuple.length:Int) ++ [58]) ++ txts e.tuple = keyE e.tuple:=rfl
   rw [hkey]
   generalize hkk:keyE e.tuple = k at *
   have hlk:=fun re=>lookA_M kinj_str (evG n) re k (gIx 0 gs)
   rw [gIx_get] at hlk
   have hkp:∀ p ∈ encM AV.str (evG n) (gIx 0 gs),keyOK tt 9 p.1 = true:=fun p hp=>by
    obtain ⟨q,_,rfl⟩:=List.mem_map.1 hp; exact keyStr _
   have hci:∀ x ∈ e.cond.map (litIn M),SmI x:=fun x hx=>by obtain ⟨y,_,rfl⟩:=List.mem_map.1 hx; exact litIn_sm hsm y
   have hmap:∀ L,PC Tryz.prog (n + 1) 288 [.sl 3 (e.cond.map GL.enc) .any,.bfn (.func 119) [.ptr l b 0]] (full n L G) (sInts (e.cond.map (litIn M))):=fun L=>by
    have hbf:Below (n + 1) (.bfn (.func 119) [.ptr l b 0]):=.bfn _ _ fun i hi=>(show AllP (fun c=>Below (n + 1) c) [.ptr l b 0] from ⟨.ptr _ _ _ (by omega),trivial⟩).mem _ (List.getElem_mem hi)
    exact eb288 (n + 1) e.cond (by have:=he.cl; omega) 119 [.ptr l b 0] _ _ (fun_of Tryz.func119 rfl rfl) (e.cond.map (litIn M)) (by simp) (fun _=>full n L G) hbf (below_gls _)
     (fun j hj L2=>ACalls.mono (b119 (n + 1 + 1) (full (n + 1) L2 (full n L G)) l b F.a _ lm km M (by omega) (by omega) (by rw [full_low (show l < n + 1 by omega),full_low hl]; exact hbx) (by rw [full_low (show lm < n + 1 by omega),full_low hlm]; exact hHM) hsm (Nat.succ_pos _) ((hT.full hn).full (Nat.succ_pos _)) e.cond[j] (he.g.c _ (List.getElem_mem hj))) (by rintro r H1 ⟨rfl,rfl⟩; exact ⟨by simp,rfl⟩)) (fun _ _=>.refl _ _)
   have hcl:(ordL (e.cond.map (litIn M))).length ≤ 1000000:=by have:=ordL_len (e.cond.map (litIn M)); rw [List.length_map] at this; have:=he.cl; omega
   have hcl2:(e.cond.map (litIn M)).length ≤ 1000000:=by rw [List.length_map]; have:=he.cl; omega
   have hord:=a122 (e.cond.map (litIn M)) .any hci hcl2
   generalize ordL (e.cond.map (litIn M)) = c at *
   generalize e.cond.map (litIn M) = cl at *
   cases hx:gs[ixG k gs]? with
   | none =>
    rw [hx] at hlk
    repeat refine kn rfl ?_
    refine k_region tok rfl (by kernel_rfl) ?_
    simp only [go_sem,simprocAttr,hlk,Option.map_none]
    refine ⟨hkp,⟨_,rfl⟩,?_⟩
    repeat refine kn rfl ?_
    refine k_cond_t rfl (by simp only [go_sem,simprocAttr]) ?_
    repeat refine kn rfl ?_
    refine k_region tok rfl (by kernel_rfl) ?_
    simp only [go_sem,simprocAttr]
    refine ⟨rfl,⟨le_maxLen (by omega),by omega⟩,?_⟩
    have hput:=putA_M kinj_str evT' k e.tuple (gTup gs)
    have hkt:∀ p ∈ encM AV.str evT' (gTup gs),keyOK tt 9 p.1 = true:=fun p hp=>by
     obtain ⟨q,_,rfl⟩:=List.mem_map.1 hp; exact keyStr _
    have hput2:putA (.str k) (.sl 4 (e.tuple.map Tm.enc) .any) (encM AV.str evT' (gTup gs)) = encM AV.str evT' (putM k e.tuple (gTup gs)):=hput
    repeat refine kn rfl ?_
    refine k_region tok rfl (by kernel_rfl) ?_
    simp only [go_sem,simprocAttr,hput2]
    refine ⟨hkt,?_⟩
    repeat refine kn rfl ?_
    refine k_draw tok mixed op12 rfl rfl (by kernel_rfl) (by kernel_rfl) ?_
    simp only [go_sem,simprocAttr,op12,hlk,Option.map_none,hne,hbx]
    refine ⟨hkp,?_⟩
    refine callTP (fun_of Tryz.func288 rfl rfl) (fun G' hG=>by rw [agree_nil hG]; exact hmap _) (by simp only [go_sem,simprocAttr]) ?_
    simp only [go_sem,simprocAttr,op12]
    refine callPP (fun_of Tryz.func122 rfl rfl) hord (by simp only [go_sem,simprocAttr]) ?_
    simp only [go_sem,simprocAttr,op12]
    obtain ⟨hadd,hixl⟩:=addG_new (t:=e.tuple) (c:=c) (gs:=gs) (by rw [hkk]; exact hx)
    rw [hkk] at hixl
    have hfree:lkb (bufsG 0 gs) (300 + gs.length) = none:=by rw [lkb_bufs0]; simp
    refine ⟨215,_,_,[],.sl 1 [sInts c] (.buf n (300 + gs.length)),(10,.box e.cs) :: (3,.box gb.cs) :: (16,.map []) :: (17,.map (encM AV.str (evG n) (gIx 0 gs))) :: (18,.map (encM AV.str evT' (putM k e.tuple (gTup gs)))) :: (200,.buf 9 1 (gs.length + 1)) :: (bufsG 0 gs ++ [(300 + gs.length,.buf 61 1 1)]),G,rfl,fun_of Tryz.func215 rfl rfl,?_,.refl _ _,?_⟩
    ·simp only [go_sem,simprocAttr,op12]
     refine ACalls.mono ((a215n (n + 1) _ n (300 + gs.length) c (Nat.lt_succ_self n) (Nat.succ_pos _) (hT.full hn) hcl (by simp only [full,if_true,lkb]; (repeat rw [if_neg (by omega)]); exact hfree)).args ⟨Wk.nils 1,.refl _,trivial⟩) ?_
     rintro r H1 ⟨rfl,rfl⟩
     refine ⟨rfl,?_⟩
     rw [← full_setb]
     congr 1
     simp only [setb]
     (repeat rw [if_neg (by omega)])
     have:=setb_bufs_new (.buf 61 1 1) gs 0
     rw [Nat.zero_add] at this
     rw [this]
    simp only [go_sem,simprocAttr,op12]
    have hput3:=putA_M kinj_str (evG n) k (gs.length,[c]) (gIx 0 gs)
    have hput4:putA (.str k) (.sl 1 [sInts c] (.buf n (300 + gs.length))) (encM AV.str (evG n) (gIx 0 gs)) = encM AV.str (evG n) (putM k (gs.length,[c]) (gIx 0 gs)):=hput3
    rw [hput4]
    refine ⟨hkp,?_⟩
    have hgn:getM k (gIx 0 gs) = none:=by rw [gIx_get,hx]; rfl
    have htn:getM k (gTup gs) = none:=by rw [gTup_get,hx]; rfl
    have h1:putM k (gs.length,[c]) (gIx 0 gs) = gIx 0 (gs ++ [Gp.mk k e.tuple [c]]):=by rw [putM_none _ hgn,gIx_snoc,Nat.zero_add]
    have h2:putM k e.tuple (gTup gs) = gTup (gs ++ [Gp.mk k e.tuple [c]]):=by rw [putM_none _ htn]; simp [gTup]
    have h3:bufsG 0 gs ++ [(300 + gs.length,.buf 61 1 1)] = bufsG 0 (gs ++ [Gp.mk k e.tuple [c]]):=by rw [bufsG_snoc,Nat.zero_add]; rfl
    have h4:(gs.map Gp.key).map AV.str ++ [AV.str k] = ((gs ++ [Gp.mk k e.tuple [c]]).map Gp.key).map AV.str:=by simp
    have h5:gs.length + 1 = (gs ++ [Gp.mk k e.tuple [c]]).length:=by simp
    rw [hkk] at hadd
    rw [h1,h2,h3,h4,h5]
    rw [hadd] at hsn
    unfold s197
    rw [hsn]
    generalize gs ++ [Gp.mk k e.tuple [c]] = gs' at *
    repeat refine kn rfl ?_
    refine k_region tok rfl (by kernel_rfl) ?_
    simp only [go_sem,simprocAttr]
    repeat refine kn rfl ?_
    refine k_nil ?_
    unfold tm197 Lg
    refine AWk_kept ?_ ?_ ?_ ?_ <;> repeat' first | exact trivial | refine q0 ?_ | exact qb | exact q1 | exact q2 | exact q3 | exact rfl | refine And.intro ?_ ?_ | exact q4 | exact q5 | exact q6 | exact q7 | exact Inside.ptr _ _ _ (.inr ⟨rfl,rfl⟩) | exact q8 | exact q9 | exact qd | exact Tm.ins _ | exact Tm.inss _ _ | exact Am.ins _ | exact Am.inss _ _ | refine ins_buf_str ?_ | refine Tm.ins_buf ?_ | refine Am.ins_buf ?_ | exact qf
    ·simp only [go_sem,simprocAttr]
     rw [IntWalk.i64_in _ (by omega)]; exact .refl _
    all_goals first | exact (below_ges _).inside | exact (below_gls _).inside | exact (below_tms _).inside | exact Inside.ptr _ _ _ (.inl hl) | exact Inside.map _ _ (.inr ⟨rfl,rfl⟩) | exact ins_gTup | exact ins_bufs | exact kept_bufs (fun j hj=>by simp only [lkb]; (repeat rw [if_neg (by omega)]); try rw [lkb_setb,if_neg (by omega)]) | exact ins_gIx (fun j hj=>by simp only [lkb]; (repeat rw [if_neg (by omega)]); rw [lkb_bufs0]; simp [hj]) | skip
    all_goals exact 0
   | some g0 =>
    rw [hx] at hlk
    have hls:=hne2 g0 (List.mem_of_getElem? hx)
    have hxl:ixG k gs < gs.length:=(List.getElem?_eq_some_iff.1 hx).1
    obtain ⟨x0,r0,hxr⟩:∃ x0 r0,g0.ls = x0 :: r0:=by
     cases hg:g0.ls with
     | nil=>exact absurd hg hls
     | cons a r=>exact ⟨a,r,rfl⟩
    have hev:evG n (ixG k gs,g0.ls) = .sl 1 (sInts x0 :: r0.map sInts) (.buf n (300 + ixG k gs)):=by unfold evG; simp [hxr]
    have hlk2:∀ re,lookA re (AV.str k) (encM AV.str (evG n) (gIx 0 gs)) false = .sl 1 (sInts x0 :: r0.map sInts) (.buf n (300 + ixG k gs)):=fun re=>by rw [hlk re,← hev]; simp
    clear hlk
    repeat refine kn rfl ?_
    refine k_region tok rfl (by kernel_rfl) ?_
    simp only [go_sem,simprocAttr,hlk2]
    refine ⟨hkp,⟨_,rfl⟩,?_⟩
    repeat refine kn rfl ?_
    refine k_cond_f rfl (by simp only [go_sem,simprocAttr]) ?_
    refine k_skip rfl ?_
    repeat refine kn rfl ?_
    refine k_draw tok mixed op12 rfl rfl (by kernel_rfl) (by kernel_rfl) ?_
    simp only [go_sem,simprocAttr,op12,hlk2,hne,hbx]
    refine ⟨hkp,?_⟩
    refine callTP (fun_of Tryz.func288 rfl rfl) (fun G' hG=>by rw [agree_nil hG]; exact hmap _) (by simp only [go_sem,simprocAttr]) ?_
    simp only [go_sem,simprocAttr,op12]
    refine callPP (fun_of Tryz.func122 rfl rfl) hord (by simp only [go_sem,simprocAttr]) ?_
    simp only [go_sem,simprocAttr,op12]
    have hadd:=addG_old (t:=e.tuple) (c:=c) (gs:=gs) (g:=g0) (by rw [hkk]; exact hx)
    rw [hkk] at hadd
    have hbuf:lkb (bufsG 0 gs) (300 + ixG k gs) = some (.buf 61 1 g0.ls.length):=by rw [lkb_bufs0,hx]; rfl
    have hl0':g0.ls.length ≤ 1000000:=by have:=hgll g0 (List.mem_of_getElem? hx); omega
    obtain ⟨g1,hg1⟩:∃ g1,g1 = Gp.mk g0.key g0.tup (distinctL g0.ls c):=⟨_,rfl⟩
    rw [← hg1] at hadd
    have hsb:=setb_bufs_old g1 gs 0 (ixG k gs) hxl
    rw [Nat.zero_add] at hsb
    have hgl1:g1.ls = distinctL g0.ls c:=by rw [hg1]
    refine ⟨215,_,_,[],.sl 1 (g1.ls.map sInts) (.buf n (300 + ixG k gs)),(10,.box e.cs) :: (3,.box gb.cs) :: (16,.map []) :: (17,.map (encM AV.str (evG n) (gIx 0 gs))) :: (18,.map (encM AV.str evT' (gTup gs))) :: (200,.buf 9 1 gs.length) :: bufsG 0 (gs.set (ixG k gs) g1),G,rfl,fun_of Tryz.func215 rfl rfl,?_,.refl _ _,?_⟩
    ·simp only [go_sem,simprocAttr,op12]
     have hc0:=a215 (n + 1) (full n ((10,.box e.cs) :: (3,.box gb.cs) :: (16,.map []) :: (17,.map (encM AV.str (evG n) (gIx 0 gs))) :: (18,.map (encM AV.str evT' (gTup gs))) :: (200,.buf 9 1 gs.length) :: bufsG 0 gs) G) n (300 + ixG k gs) g0.ls c (Nat.lt_succ_self n) (Nat.succ_pos _) (hT.full hn) hcl hl0' (by simp only [full,if_true,lkb]; (repeat rw [if_neg (by omega)]); exact hbuf) hls
     rw [hxr,List.map_cons,← hxr,← hgl1] at hc0
     refine ACalls.mono hc0 ?_
     rintro r H1 ⟨rfl,rfl⟩
     refine ⟨rfl,?_⟩
     rw [← full_setb]
     congr 1
     simp only [setb]
     (repeat rw [if_neg (by omega)])
     rw [hsb]
     rfl
    simp only [go_sem,simprocAttr,op12]
    have hput3:=putA_M kinj_str (evG n) k (ixG k gs,g1.ls) (gIx 0 gs)
    have hput4:putA (.str k) (.sl 1 (g1.ls.map sInts) (.buf n (300 + ixG k gs))) (encM AV.str (evG n) (gIx 0 gs)) = encM AV.str (evG n) (putM k (ixG k gs,g1.ls) (gIx 0 gs)):=hput3
    rw [hput4]
    refine ⟨hkp,?_⟩
    have hgn:getM k (gIx 0 gs) = some (ixG k gs,g0.ls):=by rw [gIx_get,hx]; simp
    have hk0:g0.key = k:=ixG_key hx
    have hixx:ixM k (gIx 0 gs) = ixG k gs:=by
     have:∀ (gs:List Gp) (i:Nat),ixM k (gIx i gs) = ixG k gs:=by
      intro gs
      induction gs with
      | nil=>intro i; rfl
      | cons g r ih=>intro i; simp only [gIx,ixM,ixG,ih]
     exact this gs 0
    have h1:putM k (ixG k gs,g1.ls) (gIx 0 gs) = gIx 0 (gs.set (ixG k gs) g1):=by rw [putM_some _ hgn,hixx,gIx_set,Nat.zero_add,hg1,hk0]
    have h2:gTup gs = gTup (gs.set (ixG k gs) g1):=by
     unfold gTup
     rw [List.map_set,hg1]
     have:(gs.map fun g=>(g.key,g.tup))[ixG k gs]? = some (g0.key,g0.tup):=by simp [hx]
     refine (List.set_getElem?_self' this).symm
    have h4:gs.map Gp.key = (gs.set (ixG k gs) g1).map Gp.key:=by
     rw [List.map_set,hg1]
     have:(gs.map Gp.key)[ixG k gs]? = some g0.key:=by simp [hx]
     exact (List.set_getElem?_self' this).symm
    have h5:gs.length = (gs.set (ixG k gs) g1).length:=by simp
    rw [h1,h4,h5]
    rw [hadd] at hsn
    unfold s197
    rw [hsn]
    have h6:encM AV.str evT' (gTup gs) = encM AV.str evT' (gTup (gs.set (ixG k gs) g1)):=by rw [← h2]
    rw [h6]
    generalize gs.set (ixG k gs) g1 = gs' at *
    repeat refine kn rfl ?_
    refine k_region tok rfl (by kernel_rfl) ?_
    simp only [go_sem,simprocAttr]
    repeat refine kn rfl ?_
    refine k_nil ?_
    unfold tm197 Lg
    refine AWk_kept ?_ ?_ ?_ ?_ <;> repeat' first | exact trivial | refine q0 ?_ | exact qb | exact q1 | exact q2 | exact q3 | exact rfl | refine And.intro ?_ ?_ | exact q4 | exact q5 | exact q6 | exact q7 | exact Inside.ptr _ _ _ (.inr ⟨rfl,rfl⟩) | exact q8 | exact q9 | exact qd | exact Tm.ins _ | exact Tm.inss _ _ | exact Am.ins _ | exact Am.inss _ _ | refine ins_buf_str ?_ | refine Tm.ins_buf ?_ | refine Am.ins_buf ?_ | exact qf
    ·simp only [go_sem,simprocAttr]
     rw [IntWalk.i64_in _ (by omega)]; exact .refl _
    all_goals first | exact (below_ges _).inside | exact (below_gls _).inside | exact (below_tms _).inside | exact Inside.ptr _ _ _ (.inl hl) | exact Inside.map _ _ (.inr ⟨rfl,rfl⟩) | exact ins_gTup | exact ins_bufs | exact kept_bufs (fun j hj=>by simp only [lkb]; (repeat rw [if_neg (by omega)]); try rw [lkb_setb,if_neg (by omega)]) | exact ins_gIx (fun j hj=>by simp only [lkb]; (repeat rw [if_neg (by omega)]); rw [lkb_bufs0]; simp [hj]) | skip
  ·have hi':i = gb.elems.length:=by omega
   subst hi'
   rw [List.take_length]
   generalize grps M gb.elems = gs at *
   unfold tm197 Lg
   repeat refine kn rfl ?_
   refine k_region tok rfl (by kernel_rfl) ?_
   simp only [go_sem,simprocAttr,Nat.not_lt.2 h]
   repeat refine kn rfl ?_
   refine k_cond_f rfl (by simp only [go_sem,simprocAttr]) ?_
   repeat refine kn rfl ?_
   refine k_exit_round rfl rfl rfl ?_
   repeat refine kn rfl ?_
   refine k_nil ?_
   refine ⟨rfl,?_⟩
   refine AWk_kept ?_ ?_ ?_ ?_ <;> repeat' first | exact trivial | refine q0 ?_ | exact qb | exact q1 | exact q2 | exact q3 | exact rfl | refine And.intro ?_ ?_ | exact q4 | exact q5 | exact q6 | exact q7 | exact Inside.ptr _ _ _ (.inr ⟨rfl,rfl⟩) | exact q8 | exact q9 | exact qd | exact Tm.ins _ | exact Tm.inss _ _ | exact Am.ins _ | exact Am.inss _ _ | refine ins_buf_str ?_ | refine Tm.ins_buf ?_ | refine Am.ins_buf ?_ | exact qf
   all_goals first | exact (below_ges _).inside | exact (below_gls _).inside | exact (below_tms _).inside | exact Inside.ptr _ _ _ (.inl hl) | exact Inside.map _ _ (.inr ⟨rfl,rfl⟩) | exact ins_gTup | exact ins_bufs | exact kept_bufs (fun j hj=>by simp only [lkb]; (repeat rw [if_neg (by omega)]); try rw [lkb_setb,if_neg (by omega)]) | exact ins_gIx (fun j hj=>by simp only [lkb]; (repeat rw [if_neg (by omega)]); rw [lkb_bufs0]; simp [hj]) | skip
   all_goals exact 0
 have hG:∀ g ∈ grps M gb.elems,GpOk g:=fun g hg=>by
  have hl:=grps_ls M gb.elems g hg
  refine ⟨?_,by omega,?_,?_⟩
  ·exact grps_mem (P:=fun g=>g.tup ≠ []) (fun e he ls _ _=>(hE e he).ne) g hg
  ·exact grps_mem (P:=fun g=>SmL g.ls) (fun e he ls _ h3=>fun x hx=>by
    obtain ⟨e',he',rfl⟩:=h3 x hx
    have h4:=ordL_len (e'.cond.map (litIn M))
    rw [List.length_map] at h4
    refine ⟨by have:=(hE e' he').cl; omega,fun y hy=>?_⟩
    obtain ⟨z,_,rfl⟩:=List.mem_map.1 ((ordL_mem _ y).1 hy)
    exact litIn_sm hsm z) g hg
  ·exact grps_mem (P:=fun g=>g.ls ≠ []) (fun e _ ls h _=>h) g hg
 have hgl:=grps_len M gb.elems
 exact b197b n H l b F s hl h0 hF hs hT0 gb _ hG (grps_nd M _) (by omega) l0 k0 hl0 hf0 hd3 hd4 B gb.elems.length
end Go.Proofs.YthgbkalgmicniaaGreatDoor

/- Instances, step by step: elements that are literals, or aggregates that must be at least their bound. No program. -/
namespace Go.Abs
open Go.Proofs.YthgbkalgmicniaaGreatDoor
def leastC (l k:Nat) (c:Cs) (m:Int):Cnd :=
 if m - c.base ≤ 0 then .con true else if totalW c.w < m - c.base then .con false else .pend l k c.w (m - c.base)
def stepB (M:List (List UInt8 × Int)) (n:Nat) (p:List Cnd × St) (b:GB):List Cnd × St :=
 if b.kind = 1 then (p.1 ++ [.lit (litIn M b.lit)],p.2)
 else (p.1 ++ [leastC n (1000 + p.1.length) (collectG b.fn p.2 (grps M b.elems)) b.bound],(collectG b.fn p.2 (grps M b.elems)).s)
def itemsB (M:List (List UInt8 × Int)) (n:Nat) (s:St) (l:List GB):List Cnd × St:=l.foldl (stepB M n) ([],s)
theorem itemsB_snoc (M:List (List UInt8 × Int)) (n:Nat) (s:St) (l:List GB) (b:GB):itemsB M n s (l ++ [b]) = stepB M n (itemsB M n s l) b:=by simp [itemsB]
theorem itemsB_len (M:List (List UInt8 × Int)) (n:Nat) (s:St) (l:List GB):(itemsB M n s l).1.length = l.length:=by
 induction l using snocRec with
 | nil=>rfl
 | snoc p e ih =>
  rw [itemsB_snoc,stepB]
  split <;> simp [ih]
def pendL:List Cnd → List (Nat × ABlk)
 | []=>[]
 | .pend _ k w _ :: r=>(k,.map (encW w)) :: pendL r
 | .lit _ :: r=>pendL r
 | .con _ :: r=>pendL r
def AtC (n o:Nat):Cnd → Prop
 | .lit x=>SmI x
 | .con _=>True
 | .pend l k w _=>l = n ∧ k = 1000 + o ∧ WOk w
def ItAt (n:Nat):Nat → List Cnd → Prop
 | _,[]=>True
 | o,c :: r=>AtC n o c ∧ ItAt n (o + 1) r
theorem pendL_append:∀ (p q:List Cnd),pendL (p ++ q) = pendL p ++ pendL q
 | [],q=>rfl
 | .pend _ _ _ _ :: r,q=>by simp only [List.cons_append,pendL,pendL_append r q]
 | .lit _ :: r,q=>by simp only [List.cons_append,pendL,pendL_append r q]
 | .con _ :: r,q=>by simp only [List.cons_append,pendL,pendL_append r q]
theorem ItAt_snoc {n:Nat} {c:Cnd}:∀ {p:List Cnd} {o:Nat},ItAt n o p → AtC n (o + p.length) c → ItAt n o (p ++ [c])
 | [],o,_,hc=>⟨hc,trivial⟩
 | a :: r,o,h,hc=>⟨h.1,ItAt_snoc h.2 (by rw [List.length_cons] at hc; rwa [show o + 1 + r.length = o + (r.length + 1) by omega])⟩
theorem ItAt_mem {n:Nat} {c:Cnd}:∀ {p:List Cnd} {o:Nat},ItAt n o p → c ∈ p → ∃ j,o ≤ j ∧ j < o + p.length ∧ AtC n j c
 | a :: r,o,h,hc=>by
  rcases List.mem_cons.1 hc with rfl | hc
  ·exact ⟨o,Nat.le_refl _,by simp,h.1⟩
  ·obtain ⟨j,h1,h2,h3⟩:=ItAt_mem h.2 hc
   exact ⟨j,by omega,by simp only [List.length_cons]; omega,h3⟩
theorem lkb_pend {n l k:Nat} {w:Wm} {m:Int}:∀ {p:List Cnd} {o:Nat},ItAt n o p → Cnd.pend l k w m ∈ p → lkb (pendL p) k = some (.map (encW w))
 | a :: r,o,h,hc=>by
  rcases List.mem_cons.1 hc with hc | hc
  ·subst hc; simp [pendL,lkb]
  ·obtain ⟨j,h1,_,h3⟩:=ItAt_mem h.2 hc
   have ih:=lkb_pend h.2 hc
   cases a with
   | lit x=>exact ih
   | con x=>exact ih
   | pend l' k' w' m' =>
    have h4:=h.1.2.1
    have h5:=h3.2.1
    simp only [pendL,lkb]
    rw [if_neg (by omega)]; exact ih
theorem lkb_pend_low {n k:Nat} (hk:k < 1000):∀ {p:List Cnd} {o:Nat},ItAt n o p → lkb (pendL p) k = none
 | [],_,_=>rfl
 | a :: r,o,h=>by
  have ih:=lkb_pend_low hk h.2
  cases a with
  | lit x=>exact ih
  | con x=>exact ih
  | pend l' k' w' m' =>
   have h4:=h.1.2.1
   simp only [pendL,lkb]
   rw [if_neg (by omega)]; exact ih
theorem lkb_pend_new {n:Nat}:∀ {p:List Cnd} {o:Nat},ItAt n o p → ∀ j,o + p.length ≤ j → lkb (pendL p) (1000 + j) = none
 | [],_,_,_,_=>rfl
 | a :: r,o,h,j,hj=>by
  rw [List.length_cons] at hj
  have ih:=lkb_pend_new h.2 j (by omega)
  cases a with
  | lit x=>exact ih
  | con x=>exact ih
  | pend l' k' w' m' =>
   have h4:=h.1.2.1
   simp only [pendL,lkb]
   rw [if_neg (by omega)]; exact ih
theorem setb_pend_new {n:Nat} (x:ABlk):∀ {p:List Cnd} {o:Nat},ItAt n o p → ∀ j,o + p.length ≤ j → setb (pendL p) (1000 + j) x = pendL p ++ [(1000 + j,x)]
 | [],_,_,_,_=>rfl
 | a :: r,o,h,j,hj=>by
  rw [List.length_cons] at hj
  have ih:=setb_pend_new x h.2 j (by omega)
  cases a with
  | lit x=>exact ih
  | con x=>exact ih
  | pend l' k' w' m' =>
   have h4:=h.1.2.1
   simp only [pendL,setb]
   rw [if_neg (by omega),ih]; rfl
theorem pendL_mem {n:Nat} {q:Nat × ABlk}:∀ {p:List Cnd} {o:Nat},ItAt n o p → q ∈ pendL p → ∃ w,q.2 = .map (encW w) ∧ ∃ l m,Cnd.pend l q.1 w m ∈ p
 | a :: r,o,h,hq=>by
  cases a with
  | lit x=>obtain ⟨w,h1,l,m,h2⟩:=pendL_mem h.2 hq; exact ⟨w,h1,l,m,List.mem_cons_of_mem _ h2⟩
  | con x=>obtain ⟨w,h1,l,m,h2⟩:=pendL_mem h.2 hq; exact ⟨w,h1,l,m,List.mem_cons_of_mem _ h2⟩
  | pend l' k' w' m' =>
   simp only [pendL,List.mem_cons] at hq
   rcases hq with rfl | hq
   ·exact ⟨w',rfl,l',m',List.mem_cons_self⟩
   ·obtain ⟨w,h1,l,m,h2⟩:=pendL_mem h.2 hq; exact ⟨w,h1,l,m,List.mem_cons_of_mem _ h2⟩
def sumG (gs:List Gp):Nat:=(gs.map fun g=>g.ls.length + 1).sum
theorem sumG_set {gs:List Gp} {i:Nat} {g0 g1:Gp} (h:gs[i]? = some g0) (h1:g1.ls.length ≤ g0.ls.length + 1):sumG (gs.set i g1) ≤ sumG gs + 1:=by
 induction gs generalizing i with
 | nil=>simp at h
 | cons a r ih =>
  cases i with
  | zero =>
   simp only [List.getElem?_cons_zero,Option.some.injEq] at h
   subst h
   simp only [List.set_cons_zero,sumG,List.map_cons,List.sum_cons]; omega
  | succ i =>
   have:=ih (i:=i) (by simpa using h)
   simp only [List.set_cons_succ,sumG,List.map_cons,List.sum_cons] at *; omega
theorem sumG_grps (M:List (List UInt8 × Int)) (l:List GE):sumG (grps M l) ≤ 2 * l.length:=by
 induction l using snocRec with
 | nil=>simp [grps,sumG]
 | snoc p e ih =>
  rw [grps_snoc,List.length_append,List.length_singleton]
  cases hx:(grps M p)[ixG (keyE e.tuple) (grps M p)]? with
  | none =>
   rw [(addG_new hx).1]
   simp only [sumG,List.map_append,List.sum_append,List.map_cons,List.map_nil,List.sum_cons,List.sum_nil,List.length_singleton] at *; omega
  | some g0 =>
   rw [addG_old hx]
   have:=sumG_set (g1:=⟨g0.key,g0.tup,distinctL g0.ls (ordL (e.cond.map (litIn M)))⟩) hx (distinctL_len _ _)
   omega
theorem stepGp_fit {fn:Int} {c:Cs} {g:Gp} {k:Int} (h:c.s.Fit k):(stepGp fn c g).s.Fit (k + ((g.ls.length + 1:Nat):Int)):=by
 unfold stepGp
 split
 ·exact h.bad.mono (by omega)
 split
 ·exact h.mono (by omega)
 split
 ·exact h.mono (by omega)
 ·exact (stands_fit _ h).mono (by omega)
theorem foldG_fit {fn:Int} {s:St} {k:Int} (h:s.Fit k) (gs:List Gp):(foldG fn s gs).s.Fit (k + (sumG gs:Nat)):=by
 induction gs using snocRec with
 | nil=>simpa [foldG,sumG] using h
 | snoc p g ih =>
  rw [foldG_snoc]
  have:=stepGp_fit (fn:=fn) (g:=g) ih
  simp only [sumG,List.map_append,List.sum_append,List.map_cons,List.map_nil,List.sum_cons,List.sum_nil] at *
  exact this.mono (by omega)
theorem collectG_fit {fn:Int} {s:St} {k:Int} (h:s.Fit k) (M:List (List UInt8 × Int)) (l:List GE):(collectG fn s (grps M l)).s.Fit (k + 2 * (l.length:Int)):=by
 have h1:=sumG_grps M l
 have h2:=(foldG_fit (fn:=fn) h (grps M l)).mono (k':=k + 2 * (l.length:Int)) (by omega)
 unfold collectG
 split
 ·exact h2.bad
 ·exact h2
end Go.Abs
namespace Go.Proofs.YthgbkalgmicniaaGreatDoor
open Go.Abs
theorem grps_ok {M:List (List UInt8 × Int)} (hsm:SmN M) {l:List GE} (hE:∀ e ∈ l,EOk e) (hel:l.length ≤ 400):∀ g ∈ grps M l,GpOk g:=fun g hg=>by
 have hl:=grps_ls M l g hg
 refine ⟨?_,by omega,?_,?_⟩
 ·exact grps_mem (P:=fun g=>g.tup ≠ []) (fun e he ls _ _=>(hE e he).ne) g hg
 ·exact grps_mem (P:=fun g=>SmL g.ls) (fun e he ls _ h3=>fun x hx=>by
   obtain ⟨e',he',rfl⟩:=h3 x hx
   have h4:=ordL_len (e'.cond.map (litIn M))
   rw [List.length_map] at h4
   refine ⟨by have:=(hE e' he').cl; omega,fun y hy=>?_⟩
   obtain ⟨z,_,rfl⟩:=List.mem_map.1 ((ordL_mem _ y).1 hy)
   exact litIn_sm hsm z) g hg
 ·exact grps_mem (P:=fun g=>g.ls ≠ []) (fun e _ ls h _=>h) g hg
theorem collect_ok {M:List (List UInt8 × Int)} (hsm:SmN M) {l:List GE} (hE:∀ e ∈ l,EOk e) (hel:l.length ≤ 400) {fn:Int} {s:St} (hs:s.Fit 300000) :
  WOk (collectG fn s (grps M l)).w ∧ (0 ≤ (collectG fn s (grps M l)).base ∧ (collectG fn s (grps M l)).base ≤ 419430400) ∧ (0 ≤ totalW (collectG fn s (grps M l)).w ∧ totalW (collectG fn s (grps M l)).w ≤ 167772160000):=by
 have hgl:=grps_len M l
 have hci:=cinv_fold (fn:=fn) hs (grps M l) (grps_ok hsm hE hel) (by omega)
 have hwk:=hci.wok (by omega)
 have htb:0 ≤ totalW (foldG fn s (grps M l)).w ∧ totalW (foldG fn s (grps M l)).w ≤ 167772160000:=by
  have h1:=sum_bd (p:=(foldG fn s (grps M l)).w.map Prod.snd) (c:=419430400) (fun x hx=>by
   obtain ⟨p,hp,rfl⟩:=List.mem_map.1 hx
   have:=(hci.w p hp).2
   omega)
  have h2:(((foldG fn s (grps M l)).w.map Prod.snd).length:Int) ≤ 400:=by rw [List.length_map]; have:=hci.l; omega
  have h3:=Int.mul_le_mul_of_nonneg_right h2 (show (0:Int) ≤ 419430400 by decide)
  unfold totalW
  exact ⟨h1.1,by omega⟩
 have hcb:=hci.b
 have hb:0 ≤ (foldG fn s (grps M l)).base ∧ (foldG fn s (grps M l)).base ≤ 419430400:=by omega
 unfold collectG
 split
 ·exact ⟨hwk,hb,htb⟩
 ·exact ⟨hwk,hb,htb⟩
end Go.Proofs.YthgbkalgmicniaaGreatDoor
namespace Go.Abs
open Go.Proofs.YthgbkalgmicniaaGreatDoor
structure BOk (b:GB):Prop where
 g:b.Good
 k:b.kind = 1 ∨ (b.kind = 3 ∧ b.op = 6 ∧ b.no = false)
 el:b.elems.length ≤ 400
 e:b.kind = 3 → ∀ e ∈ b.elems,EOk e
 bd:b.kind = 3 → -2147483647 ≤ b.bound ∧ b.bound ≤ 2147483647
def costB (l:List GB):Nat:=(l.map fun b=>2 * b.elems.length).sum
theorem costB_snoc (l:List GB) (b:GB):costB (l ++ [b]) = costB l + 2 * b.elems.length:=by simp [costB]
theorem itemsB_at {M:List (List UInt8 × Int)} (hsm:SmN M) {n:Nat} {s:St} {k:Int} (hs:s.Fit k):∀ {l:List GB},(∀ b ∈ l,BOk b) → k + (costB l:Nat) ≤ 300000 →
  ItAt n 0 (itemsB M n s l).1 ∧ (itemsB M n s l).2.Fit (k + (costB l:Nat)):=by
 intro l
 induction l using snocRec with
 | nil=>intro _ _; exact ⟨trivial,by simpa [itemsB,costB] using hs⟩
 | snoc p b ih =>
  intro hb hk
  rw [costB_snoc] at hk ⊢
  obtain ⟨h1,h2⟩:=ih (fun x hx=>hb x (by simp [hx])) (by omega)
  have hb:=hb b (by simp)
  rw [itemsB_snoc,stepB]
  split
  ·exact ⟨ItAt_snoc h1 (litIn_sm hsm _),h2.mono (by omega)⟩
  ·rename_i hk1
   have hk3:b.kind = 3:=by rcases hb.k with h | h; exact absurd h hk1; exact h.1
   have hel:=hb.el
   obtain ⟨hw,_,_⟩:=collect_ok (fn:=b.fn) hsm (hb.e hk3) hb.el (h2.mono (by omega))
   refine ⟨ItAt_snoc h1 ?_,(collectG_fit h2 M b.elems).mono (by omega)⟩
   unfold leastC
   split
   ·trivial
   split
   ·trivial
   ·exact ⟨rfl,by rw [Nat.zero_add],hw⟩
structure Pen where
 key:List UInt8
 weight:Int
 level:Int
 tup:List Tm
 body:LInt
def keyP (x:Ins):List UInt8:=((((((Lib.itoa x.weight ++ [64]) ++ Lib.itoa x.level) ++ [58]) ++ Lib.itoa (x.tuple.length:Int)) ++ [58]) ++ txts x.tuple)
def Ins.pen (x:Ins) (body:LInt):Pen:=⟨keyP x,x.weight,x.level,x.tuple,body⟩
def headI (M:List (List UInt8 × Int)) (x:Ins):List Int:=ordL (x.heads.map (numOf M))
def openB (M:List (List UInt8 × Int)) (n:Nat) (s:St) (x:Ins):List Cnd:=openL (itemsB M n s x.body).1
def instS (M:List (List UInt8 × Int)) (n:Nat) (s:St) (x:Ins):St :=
 if (itemsB M n s x.body).1.any isNo = true then (itemsB M n s x.body).2
 else if x.kind = 1 then (itemsB M n s x.body).2.emit (headI M x) (openB M n s x)
 else if x.kind = 2 then (itemsB M n s x.body).2.choice x (headI M x) (openB M n s x)
 else if 0 < x.weight then ((itemsB M n s x.body).2.lits (openB M n s x)).2 else (itemsB M n s x.body).2
def instP (M:List (List UInt8 × Int)) (n:Nat) (s:St) (x:Ins):Option Pen :=
 if (itemsB M n s x.body).1.any isNo = true then none
 else if x.kind = 1 then none else if x.kind = 2 then none
 else if 0 < x.weight then some (x.pen ((itemsB M n s x.body).2.lits (openB M n s x)).1) else none
end Go.Abs

/- The conditions of an aggregate that must be at least its bound: the walk. -/
namespace Go.Proofs.YthgbkalgmicniaaGreatDoor
open Go.Abs
set_option maxRecDepth 100000
theorem ifc_leastC {l k n:Nat} {c:Cs} {m:Int} (h:l < n):Below n (leastC l k c m).enc:=by
 unfold leastC
 split
 ·exact .ifc _ _ (.bool _)
 split
 ·exact .ifc _ _ (.bool _)
 ·refine .ifc _ _ (below_agg ?_)
  intro c hc
  simp only [List.mem_cons,List.not_mem_nil,or_false] at hc
  rcases hc with rfl | rfl
  ·exact .map _ _ h
  ·exact .int _ _
theorem b198 (n:Nat) (H:AHeap) (lw kw:Nat) (c:Cs) (m:Int) (hlw:lw < n) (hH:H lw kw = some (.map (encW c.w))) (hw:SmW c.w) (hb:0 ≤ c.base ∧ c.base ≤ 419430400) (hm:-2147483648 ≤ m ∧ m ≤ 2147483648) :
  PC Tryz.prog n 198 [.int .i64 m,.iptr [.int .i64 c.base],.iptr [.map lw kw]] H (leastC lw kw c m).enc:=by
 have hne:¬ lw = n:=by omega
 have hbl:=ifc_leastC (k:=kw) (c:=c) (m:=m) hlw
 have hw1:IntKind.i64.wrap (m - c.base) = m - c.base:=by rw [IntWalk.i64_in _ (by omega)]
 refine a_fun tok (fun_of Tryz.func198 rfl rfl) (by simp) fun B=>?_
 repeat refine kn rfl ?_
 refine k_region tok rfl (by kernel_rfl) ?_
 simp only [go_sem,simprocAttr]
 repeat refine kn rfl ?_
 refine k_region tok rfl (by kernel_rfl) ?_
 simp only [go_sem,simprocAttr,hw1]
 repeat refine kn rfl ?_
 refine k_region tok rfl (by kernel_rfl) ?_
 simp only [go_sem,simprocAttr]
 by_cases h1:m - c.base ≤ 0
 ·repeat refine kn rfl ?_
  refine k_cond_t rfl (by simp only [go_sem,simprocAttr,h1]) ?_
  repeat refine kn rfl ?_
  refine k_region tok rfl (by kernel_rfl) ?_
  simp only [go_sem,simprocAttr]
  repeat refine kn rfl ?_
  refine k_ret rfl ?_
  refine post_one ?_ hbl rfl
  simp only [go_sem,simprocAttr,leastC,h1,if_true,enc_con]
  exact .refl _
 ·repeat refine kn rfl ?_
  refine k_cond_f rfl (by simp only [go_sem,simprocAttr,h1]) ?_
  repeat refine kn rfl ?_
  refine k_region tok rfl (by kernel_rfl) ?_
  simp only [go_sem,simprocAttr]
  refine callH (fun_of Tryz.func137 rfl rfl) (a137 (n + 1) _ lw kw c.w (show lw < n + 1 by omega) hw (by show full n _ H lw kw = _; rw [full_low hlw]; exact hH)) (by simp only [go_sem,simprocAttr]) ?_
  simp only [go_sem,simprocAttr]
  by_cases h2:totalW c.w < m - c.base
  ·repeat refine kn rfl ?_
   refine k_cond_t rfl (by simp only [go_sem,simprocAttr,h2]) ?_
   repeat refine kn rfl ?_
   refine k_region tok rfl (by kernel_rfl) ?_
   simp only [go_sem,simprocAttr]
   repeat refine kn rfl ?_
   refine k_ret rfl ?_
   refine post_one ?_ hbl rfl
   simp only [go_sem,simprocAttr,leastC,h1,h2,if_true,if_false,enc_con]
   exact .refl _
  ·repeat refine kn rfl ?_
   refine k_cond_f rfl (by simp only [go_sem,simprocAttr,h2]) ?_
   refine k_skip rfl ?_
   repeat refine kn rfl ?_
   refine k_region tok rfl (by kernel_rfl) ?_
   simp only [go_sem,simprocAttr,td263]
   repeat refine kn rfl ?_
   refine k_ret rfl ?_
   refine post_one ?_ hbl rfl
   simp only [go_sem,simprocAttr,leastC,h1,h2,if_false,enc_pend]
   exact .refl _
theorem Cnd_one (c:Cnd):c.enc.one = true:=by cases c <;> rfl
abbrev cap198 (c:Cs) (lw kw:Nat):List AV:=[.iptr [.int .i64 c.base],.iptr [.map lw kw]]
theorem b204 (n:Nat) (H:AHeap) (lw kw:Nat) (c:Cs) (m:Int) (hlw:lw < n) (hH:H lw kw = some (.map (encW c.w))) (hw:SmW c.w) (hb:0 ≤ c.base ∧ c.base ≤ 419430400) (hm:-2147483648 ≤ m ∧ m ≤ 2147483648) :
  PC Tryz.prog n 204 [.iptr [.fn (.func 198) (cap198 c lw kw)],.iptr [.int .i64 m]] H (.sl 1 ([leastC lw kw c m].map Cnd.enc) .any):=by
 have hne:¬ lw = n:=by omega
 refine a_fun tok (fun_of Tryz.func204 rfl rfl) (by simp) fun B=>?_
 repeat refine kn rfl ?_
 refine k_region tok rfl (by kernel_rfl) ?_
 simp only [go_sem,simprocAttr]
 repeat refine kn rfl ?_
 refine k_region tok rfl (by kernel_rfl) ?_
 simp only [go_sem,simprocAttr]
 refine callR (caps:=cap198 c lw kw) (avs:=[.int .i64 m]) rfl (fun_of Tryz.func198 rfl rfl) (b198 (n + 1) (full n [] H) lw kw c m (show lw < n + 1 by omega) (by rw [full_low hlw]; exact hH) hw hb hm) (by simp only [go_sem,simprocAttr]) ?_
 rintro r H1 ⟨rfl,rfl⟩
 refine ⟨[],H,rfl,.refl _ _,?_⟩
 simp only [go_sem,simprocAttr]
 refine ⟨⟨rfl,Cnd_one _⟩,?_⟩
 repeat refine kn rfl ?_
 refine k_ret rfl ?_
 refine post_one ?_ (below_sla fun x hx=>by simp only [List.map_cons,List.map_nil,List.mem_singleton] at hx; subst hx; exact ifc_leastC hlw) rfl
 simp only [go_sem,simprocAttr]
 exact .any _ _ _
theorem out_give {n l b:Nat} {F:Fr} {H:AHeap} (hF:F.bel n) (hl:l < n) (s s':St) (l0 k0:Nat) {x:ABlk} (hx:x.Below n) (h1:¬(l0 = l ∧ k0 = b)) (h2:¬(l0 = l ∧ k0 = b + 1)):OutStep n (bxH H l b F s) (bxH (H.upd l0 k0 x) l b F s'):=fun l' k' y hy hb=>by
 by_cases c1:l' = l ∧ k' = b
 ·obtain ⟨rfl,rfl⟩:=c1
  rw [bxH_box] at hb; cases hb
  exact .inr (below_bxC hF hl s')
 by_cases c2:l' = l ∧ k' = b + 1
 ·obtain ⟨rfl,rfl⟩:=c2
  rw [bxH_rules] at hb; cases hb
  exact .inr (below_bxR s')
 rw [bxH_ne c1 c2] at hb ⊢
 by_cases c3:l' = l0 ∧ k' = k0
 ·rw [c3.1,c3.2,AHeap.upd_same] at hb; cases hb; exact .inr hx
 ·rw [AHeap.upd_ne _ _ c3] at hb; exact .inl hb
theorem b120 (n:Nat) (H:AHeap) (l b:Nat) (F:Fr) (s:St) (hl:l < n) (h0:0 < l) (hF:F.bel n) (hs:s.Fit 300000) (lm km:Nat) (M:List (List UInt8 × Int)) (hnum:F.num = .map lm km) (hlm:lm < n) (hd1:¬(lm = l ∧ km = b)) (hd2:¬(lm = l ∧ km = b + 1))
  (hM:H lm km = some (.map (encN M))) (hsm:SmN M) (hT0:Tabs H) (gb:GB) (hE:∀ e ∈ gb.elems,EOk e) (hel:gb.elems.length ≤ 400) (hop:gb.op = 6) (hno:gb.no = false) (hbd:-2147483647 ≤ gb.bound ∧ gb.bound ≤ 2147483647)
  (l0 k0:Nat) (hl0:l0 < n) (hf0:H l0 k0 = none) (hd3:¬(l0 = l ∧ k0 = b)) (hd4:¬(l0 = l ∧ k0 = b + 1)) :
  ACalls Tryz.prog n 120 [.ptr l b 0,gb.enc] (bxH H l b F s) fun r H'=>r = .sl 1 ([leastC l0 k0 (collectG gb.fn s (grps M gb.elems)) gb.bound].map Cnd.enc) .any ∧
   H' = bxH (H.upd l0 k0 (.map (encW (collectG gb.fn s (grps M gb.elems)).w))) l b F (collectG gb.fn s (grps M gb.elems)).s:=by
 have hne:¬ l = n:=by omega
 have hn:0 < n:=by omega
 obtain ⟨hwo,hcb,htb⟩:=collect_ok (fn:=gb.fn) hsm hE hel hs
 refine a_fun tok (fun_of Tryz.func120 rfl rfl) (by simp) fun B=>?_
 repeat refine kn rfl ?_
 refine k_region tok rfl (by kernel_rfl) ?_
 simp only [go_sem,simprocAttr]
 repeat refine kn rfl ?_
 refine k_region tok rfl (by kernel_rfl) ?_
 simp only [go_sem,simprocAttr]
 have hcol:=fun L=>b197 (n + 1) (full n L H) l b F s (by omega) h0 (hF.mono (Nat.le_succ n)) hs lm km M hnum (by omega) hd1 hd2 (by rw [full_low hlm]; exact hM) hsm (hT0.full hn) gb hE hel l0 k0 (by omega) (by rw [full_low hl0]; exact hf0) hd3 hd4
 generalize collectG gb.fn s (grps M gb.elems) = c at *
 refine callR (caps:=[]) (avs:=[.ptr l b 0,gb.enc]) rfl (fun_of Tryz.func197 rfl rfl) (by rw [full_bxH hne]; exact hcol _) (by simp only [go_sem,simprocAttr]) ?_
 rintro r H1 ⟨rfl,rfl⟩
 refine ⟨_,bxH (H.upd l0 k0 (.map (encW c.w))) l b F c.s,by rw [full_bxH hne,full_upd _ _ _ _ _ _ (show l0 ≠ n by omega)],out_give hF hl _ _ _ _ (below_encW _) hd3 hd4,?_⟩
 simp only [go_sem,simprocAttr]
 have hb3:∀ q,ABlk.Inside n q (.box gb.cs):=fun q=>ABlk.inside_box' gb.bcs.mem
 have hbp:∀ q,ABlk.Inside n q (.box [.ptr l b 0]):=fun q=>ABlk.inside_box ⟨Inside.ptr _ _ _ (.inl hl),trivial⟩
 have hc1:∀ q,Inside n q (.iptr [.int .i64 c.base]):=fun q=>(below_iptr (n:=n) (show AllP (fun x=>Below n x) [.int .i64 c.base] from ⟨.int _ _,trivial⟩)).inside
 have hc2:∀ q,Inside n q (.iptr [.map l0 k0]):=fun q=>(below_iptr (n:=n) (show AllP (fun x=>Below n x) [.map l0 k0] from ⟨.map _ _ hl0,trivial⟩)).inside
 have hf1:Below n (.fn (.func 198) (cap198 c l0 k0)):=blw_fn ⟨below_iptr ⟨.int _ _,trivial⟩,below_iptr ⟨.map _ _ hl0,trivial⟩,trivial⟩
 have hf2:Below n (.iptr [.fn (.func 198) (cap198 c l0 k0)]):=below_iptr ⟨hf1,trivial⟩
 repeat refine kn rfl ?_
 refine k_freeze 5 [.int .i64 c.base] [(6,.ptr n 6 0),(5,.iptr [.int .i64 c.base]),(3,.ptr n 3 0),(2,.ptr n 2 0)] rfl ⟨.int _ _,trivial⟩
  ⟨.inl ⟨.refl _,ins_ptr (by decide)⟩,.inr ⟨0,rfl,rfl⟩,.inl ⟨.refl _,ins_ptr (by decide)⟩,.inl ⟨.refl _,ins_ptr (by decide)⟩,trivial⟩ ⟨hbp _,hb3 _,ABlk.inside_box ⟨Inside.map _ _ (.inl hl0),trivial⟩,trivial⟩ ?_
 simp only [go_sem,simprocAttr]
 refine k_freeze 6 [.map l0 k0] [(6,.iptr [.map l0 k0]),(5,.iptr [.int .i64 c.base]),(3,.ptr n 3 0),(2,.ptr n 2 0)] rfl ⟨Inside.map _ _ (.inl hl0),trivial⟩
  ⟨.inr ⟨0,rfl,rfl⟩,.inl ⟨.refl _,hc1 _⟩,.inl ⟨.refl _,ins_ptr (by decide)⟩,.inl ⟨.refl _,ins_ptr (by decide)⟩,trivial⟩ ⟨hbp _,hb3 _,trivial⟩ ?_
 simp only [go_sem,simprocAttr]
 repeat refine kn rfl ?_
 refine k_region tok rfl (by kernel_rfl) ?_
 simp only [go_sem,simprocAttr]
 repeat refine kn rfl ?_
 refine k_freeze 7 [.fn (.func 198) (cap198 c l0 k0)] [(7,.iptr [.fn (.func 198) (cap198 c l0 k0)]),(3,.ptr n 3 0),(2,.ptr n 2 0)] rfl ⟨hf1.inside,trivial⟩
  ⟨.inr ⟨0,rfl,rfl⟩,.inl ⟨.refl _,ins_ptr (by decide)⟩,.inl ⟨.refl _,ins_ptr (by decide)⟩,trivial⟩ ⟨hbp _,hb3 _,trivial⟩ ?_
 simp only [go_sem,simprocAttr]
 repeat refine kn rfl ?_
 refine k_region tok rfl (by kernel_rfl) ?_
 simp only [go_sem,simprocAttr]
 repeat refine kn rfl ?_
 refine k_freeze 8 [.int .i64 gb.bound] [(8,.iptr [.int .i64 gb.bound]),(7,.iptr [.fn (.func 198) (cap198 c l0 k0)]),(3,.ptr n 3 0),(2,.ptr n 2 0)] rfl ⟨.int _ _,trivial⟩
  ⟨.inr ⟨0,rfl,rfl⟩,.inl ⟨.refl _,hf2.inside⟩,.inl ⟨.refl _,ins_ptr (by decide)⟩,.inl ⟨.refl _,ins_ptr (by decide)⟩,trivial⟩ ⟨hbp _,hb3 _,trivial⟩ ?_
 simp only [go_sem,simprocAttr]
 obtain ⟨re,hre,hsz⟩:∃ re,arrOf tt 267 = some (7,re) ∧ re.size = 1:=⟨_,rfl,rfl⟩
 repeat refine kn rfl ?_
 refine k_region tok rfl (by kernel_rfl) ?_
 simp only [go_sem,simprocAttr,hre,hsz,List.take_succ_cons,List.take_zero,List.drop_succ_cons,List.drop_zero,List.cons_append,List.nil_append]
 have hsl:sliceOf tt 267 = none:=rfl
 repeat refine kn rfl ?_
 refine k_region tok rfl (by kernel_rfl) ?_
 simp only [go_sem,simprocAttr,hop,hsl,hre,hsz]
 have hHx:bxH (H.upd l0 k0 (.map (encW c.w))) l b F c.s l0 k0 = some (.map (encW c.w)):=by rw [bxH_ne hd3 hd4,AHeap.upd_same]
 refine callR (caps:=[.iptr [.fn (.func 198) (cap198 c l0 k0)],.iptr [.int .i64 gb.bound]]) (avs:=[]) rfl (fun_of Tryz.func204 rfl rfl) (b204 (n + 1) _ l0 k0 c gb.bound (show l0 < n + 1 by omega) (by rw [full_low hl0]; exact hHx) hwo.sm hcb (by omega)) (by simp only [go_sem,simprocAttr]) ?_
 rintro r H1 ⟨rfl,rfl⟩
 refine ⟨_,bxH (H.upd l0 k0 (.map (encW c.w))) l b F c.s,rfl,.refl _ _,?_⟩
 simp only [go_sem,simprocAttr]
 repeat refine kn rfl ?_
 refine k_region tok rfl (by kernel_rfl) ?_
 simp only [go_sem,simprocAttr,hno]
 repeat refine kn rfl ?_
 refine k_cond_t rfl (by simp only [go_sem,simprocAttr]) ?_
 repeat refine kn rfl ?_
 refine k_region tok rfl (by kernel_rfl) ?_
 simp only [go_sem,simprocAttr]
 repeat refine kn rfl ?_
 refine k_ret rfl ?_
 exact post_oneQ (.refl _) (below_sla fun x hx=>by simp only [List.map_cons,List.map_nil,List.mem_singleton] at hx; subst hx; exact ifc_leastC hl0) ⟨rfl,rfl⟩
end Go.Proofs.YthgbkalgmicniaaGreatDoor

/- A region whose last step writes a new own pointer into a map below: the new slot is given down behind it. No program, no condition. -/
namespace Go.Abs
structure SRelX (B n N l1 q1:Nat) (s:AState) (E:Env) (a:Act) (w:World):Prop where
 size:a.tmps.size = N
 defs:DefR B E a.defers w
 tmps:∀ t,VR E (lkv s.tmps t) (a.tmps.getD t undef)
 heap:HRel (n + 1) (full n s.L s.H) E w
 out:∀ x y b,x < n → ¬(x = l1 ∧ y = q1) → s.H x y = some b → b.Below n
def AWkX (n N l1 q1:Nat) (s s':AState):Prop:=∀ B E w a,SRelX B n N l1 q1 s E a w → ∃ E',SRel B n N s' E' a w ∧ Ext n E w E' w
theorem AWk_giveX {n N:Nat} {tm tm':List (Nat × AV)} {L:List (Nat × ABlk)} {H:AHeap} {b b1:ABlk} (j l k l1 q1:Nat) (hl:l < n) (hl1:l1 < n) (hfree:H l k = none) (hj:lkb L j = some b) (hb:b.Below n)
  (h1:∀ p ∈ tm',Thin n j (lkv tm p.1) ∧ Wk (ren n j l k (lkv tm p.1)) p.2) (hL:∀ p ∈ delb L j,(∀ a ∈ p.2.avs,Thin n j a) ∧ (∀ q ∈ p.2.at_,¬(q.1 = n ∧ q.2 = j)) ∧ p.2.isRec = false)
  (hb1:H l1 q1 = some b1) (ht1:∀ a ∈ b1.avs,Thin n j a) (hat1:b1.at_ = []) (hr1:b1.isRec = false) (hbl1:(b1.mapv (ren n j l k)).Below n) :
  AWkX n N l1 q1 ⟨tm,L,H⟩ ⟨tm',renL n j l k L,(H.upd l k b).upd l1 q1 (b1.mapv (ren n j l k))⟩:=fun B E w a hs=>by
 have h:=hs.heap
 have hne:l ≠ n:=by omega
 have hne1:l1 ≠ n:=by omega
 have hnk:¬(l = l1 ∧ k = q1):=fun c=>by rw [c.1,c.2,hb1] at hfree; cases hfree
 have hnk':¬(l1 = l ∧ q1 = k):=fun c=>hnk ⟨c.1.symm,c.2.symm⟩
 have hnj:¬(l1 = n ∧ q1 = j):=fun c=>hne1 c.1
 obtain ⟨hm0,hg0,hh0⟩:=h.dom l k (by omega) (by simp only [full,if_neg hne]; exact hfree)
 have hmx:∀ x y,(E.swap n j l k).m x y = E.m (sw n j l k x y).1 (sw n j l k x y).2:=fun _ _=>rfl
 have hgx:∀ x y,(E.swap n j l k).g x y = E.g (sw n j l k x y).1 (sw n j l k x y).2:=fun _ _=>rfl
 have hf:full n (renL n j l k L) ((H.upd l k b).upd l1 q1 (b1.mapv (ren n j l k))) n j = none:=by
  simp only [full,if_true,renL,lkb_map,lkb_delb]; rfl
 have hto:full n (renL n j l k L) ((H.upd l k b).upd l1 q1 (b1.mapv (ren n j l k))) l k = some b:=by
  simp only [full,if_neg hne]; rw [AHeap.upd_ne _ _ hnk,AHeap.upd_same]
 have hto1:full n (renL n j l k L) ((H.upd l k b).upd l1 q1 (b1.mapv (ren n j l k))) l1 q1 = some (b1.mapv (ren n j l k)):=by
  simp only [full,if_neg hne1]; rw [AHeap.upd_same]
 have hot:∀ x y,¬(x = n ∧ y = j) → ¬(x = l ∧ y = k) → ¬(x = l1 ∧ y = q1) → full n (renL n j l k L) ((H.upd l k b).upd l1 q1 (b1.mapv (ren n j l k))) x y = if x = n then (lkb L y).map (fun b=>b.mapv (ren n j l k)) else H x y:=fun x y c1 c2 c3=>by
  simp only [full]
  split
  ·rename_i e
   simp only [renL,lkb_map,lkb_delb]
   rw [if_neg (fun e'=>c1 ⟨e,e'⟩)]
  ·rw [AHeap.upd_ne _ _ c3,AHeap.upd_ne _ _ c2]
 have hnone:∀ x y,¬(x = n ∧ y = j) → ¬(x = l ∧ y = k) → ¬(x = l1 ∧ y = q1) → full n (renL n j l k L) ((H.upd l k b).upd l1 q1 (b1.mapv (ren n j l k))) x y = none → full n L H x y = none:=fun x y c1 c2 c3 e=>by
  rw [hot x y c1 c2 c3] at e
  simp only [full]
  split
  ·rename_i e'; rw [if_pos e'] at e; simpa using e
  ·rename_i e'; rw [if_neg e'] at e; exact e
 have hfn:full n L H n j = some b:=by simp only [full,if_true]; exact hj
 have hfl:full n L H l k = none:=by simp only [full,if_neg hne]; exact hfree
 have hf1:full n L H l1 q1 = some b1:=by simp only [full,if_neg hne1]; exact hb1
 refine ⟨E.swap n j l k,⟨hs.size,hs.defs.sub (fun b ho=>ho.elim (fun ⟨x,y,hm⟩=>.inl ⟨_,_,hm⟩) (fun ⟨x,y,hm⟩=>.inr ⟨_,_,hm⟩)),fun t=>?_,{ norm:=?_,F:=h.F,blk:=fun x y bb hx hbb=>?_,dom:=fun x y hx hbb=>?_,nobuf:=fun x y hg=>?_,inj:=?_,injg:=?_,mg:=?_,mF:=?_,lt:=?_ },fun x y bb hx hbb=>?_⟩,
  ⟨⟨fun _ _ _ h=>h,fun x y r hx hm=>?_,fun x y i v hx hm=>?_,rfl⟩,rfl,rfl,rfl,fun _=>Nat.le_refl _,Nat.le_refl _,fun _ _ _=>rfl,fun r _ ho=>?_⟩⟩
 ·show VR _ (lkv tm' t) _
  rcases lkv_mem (tm:=tm') (t:=t) with hd | hm
  ·rw [hd]; exact .dead _
  ·obtain ⟨q1,q2⟩:=h1 _ hm
   exact q2.vr ((hs.tmps t).ren hl hm0 hh0 q1)
 ·refine ⟨fun x y hx=>?_,fun x y hx=>?_,fun x y i hx=>?_⟩ <;> simp only [Env.swap] <;> rw [sw_other (by omega) (by omega)]
  ·exact h.norm.m x y hx
  ·exact h.norm.g x y hx
  ·exact h.norm.hist x y i hx
 ·by_cases c2:x = l ∧ y = k
  ·obtain ⟨rfl,rfl⟩:=c2
   rw [hto] at hbb; cases hbb
   have:=(h.blk n j b (Nat.lt_succ_self n) hfn).keepf (E':=E.swap n j x y) (w':=w) (l':=x) (k':=y) (fun a=>a) (by rw [hmx,sw_to hne]) (by rw [hgx,sw_to hne]) (fun i=>by simp only [Env.swap,sw_to hne]) (fun p hp r hr=>?_) (fun _ _=>rfl) (fun _ _ _ h=>h)
    (fun a ha v hv=>hv.swap hl hm0 hh0 ((hb.1 a ha).inside)) (fun _ _ _=>rfl)
   ·rw [mapv_id (fun _ _=>rfl)] at this; exact this
   ·have:=hb.2 p hp
    rw [hmx,sw_other (by omega) (fun c=>by rw [c.1,c.2,hm0] at hr; cases hr)]; exact hr
  ·by_cases c3:x = l1 ∧ y = q1
   ·obtain ⟨rfl,rfl⟩:=c3
    rw [hto1] at hbb; cases hbb
    have e0:sw n j l k x y = (x,y):=sw_other hnj c2
    refine (h.blk x y b1 hx hf1).keepf _ (by rw [hmx,e0]) (by rw [hgx,e0]) (fun i=>by simp only [Env.swap,e0]) (fun p hp r hr=>?_) (fun _ _=>rfl) (fun _ _ _ h=>h) (fun a ha v hv=>hv.ren hl hm0 hh0 (ht1 a ha)) (fun e=>by rw [hr1] at e; cases e)
    rw [hat1] at hp; cases hp
   by_cases c1:x = n ∧ y = j
   ·obtain ⟨rfl,rfl⟩:=c1
    rw [hf] at hbb; cases hbb
   ·rw [hot x y c1 c2 c3] at hbb
    have e0:sw n j l k x y = (x,y):=sw_other c1 c2
    split at hbb
    ·rename_i e; subst e
     simp only [Option.map_eq_some_iff] at hbb
     obtain ⟨b0,hb0,rfl⟩:=hbb
     have hmem:(y,b0) ∈ delb L j:=by
      have:=lkb_delb L j y
      rw [if_neg (fun e'=>c1 ⟨rfl,e'⟩),hb0] at this
      exact lkb_mem this
     obtain ⟨t1,t2,t3⟩:=hL _ hmem
     refine (h.blk x y b0 hx (by simp only [full,if_true]; exact hb0)).keepf _ (by rw [hmx,e0]) (by rw [hgx,e0]) (fun i=>by simp only [Env.swap,e0]) (fun p hp r hr=>?_) (fun _ _=>rfl) (fun _ _ _ h=>h) (fun a ha v hv=>hv.ren hl hm0 hh0 (t1 a ha)) (fun e=>by rw [t3] at e; cases e)
     rw [hmx,sw_other (t2 p hp) (fun c=>by rw [c.1,c.2,hm0] at hr; cases hr)]; exact hr
    ·rename_i e
     have hbl:=hs.out x y bb (by omega) c3 hbb
     refine (h.blk x y bb hx (by simp only [full,if_neg e]; exact hbb)).keep (by rw [hmx,e0]) (by rw [hgx,e0]) (fun i=>by simp only [Env.swap,e0]) (fun p hp r hr=>?_) (fun _ _=>rfl) (fun _ _ _ h=>h) (fun a ha v hv=>hv.swap hl hm0 hh0 (hbl.1 a ha).inside)
     have:=hbl.2 p hp
     rw [hmx,sw_other (by omega) (fun c=>by rw [c.1,c.2,hm0] at hr; cases hr)]; exact hr
 ·by_cases c2:x = l ∧ y = k
  ·rw [c2.1,c2.2,hto] at hbb; cases hbb
  ·by_cases c3:x = l1 ∧ y = q1
   ·rw [c3.1,c3.2,hto1] at hbb; cases hbb
   by_cases c1:x = n ∧ y = j
   ·simp only [Env.swap,c1.1,c1.2,sw_from]; exact ⟨hm0,hg0,hh0⟩
   ·have e0:sw n j l k x y = (x,y):=sw_other c1 c2
    simp only [Env.swap,e0]
    exact h.dom x y hx (hnone x y c1 c2 c3 hbb)
 ·by_cases c2:x = l ∧ y = k
  ·rw [c2.1,c2.2]
   rw [hgx,c2.1,c2.2,sw_to hne] at hg
   obtain ⟨b',hb',hbi⟩:=h.nobuf n j hg
   rw [hfn] at hb'; cases hb'
   exact ⟨b,hto,hbi⟩
  ·by_cases c3:x = l1 ∧ y = q1
   ·obtain ⟨rfl,rfl⟩:=c3
    rw [hgx,sw_other hnj c2] at hg
    obtain ⟨b',hb',hbi⟩:=h.nobuf x y hg
    rw [hf1] at hb'; cases hb'
    refine ⟨_,hto1,?_⟩
    cases b1 <;> first | rfl | cases hbi
   by_cases c1:x = n ∧ y = j
   ·rw [hgx,c1.1,c1.2,sw_from] at hg; exact absurd hg0 hg
   ·rw [hgx,sw_other c1 c2] at hg
    obtain ⟨b',hb',hbi⟩:=h.nobuf x y hg
    rw [hot x y c1 c2 c3]
    simp only [full] at hb'
    split
    ·rename_i e; rw [if_pos e] at hb'
     refine ⟨_,by rw [hb']; rfl,?_⟩
     cases b' <;> first | rfl | cases hbi
    ·rename_i e; rw [if_neg e] at hb'
     exact ⟨b',hb',hbi⟩
 ·intro x y x' y' r a1 a2
  rw [hmx] at a1 a2
  have:=h.inj _ _ _ _ _ a1 a2
  exact sw_inj hne (Prod.ext this.1 this.2)
 ·intro x y x' y' r a1 a2
  rw [hgx] at a1 a2
  have:=h.injg _ _ _ _ _ a1 a2
  exact sw_inj hne (Prod.ext this.1 this.2)
 ·intro x y x' y' r a1 a2
  rw [hmx] at a1; rw [hgx] at a2
  exact h.mg _ _ _ _ _ a1 a2
 ·intro x y r o a1
  rw [hmx] at a1
  exact h.mF _ _ _ _ a1
 ·intro r hr
  rcases hr with ⟨x,y,hm⟩ | ⟨x,y,hm⟩
  ·exact h.lt r (.inl ⟨_,_,hm⟩)
  ·exact h.lt r (.inr ⟨_,_,hm⟩)
 ·have hbb:((H.upd l k b).upd l1 q1 (b1.mapv (ren n j l k))) x y = some bb:=hbb
  by_cases c3:x = l1 ∧ y = q1
  ·rw [c3.1,c3.2,AHeap.upd_same] at hbb; cases hbb; exact hbl1
  ·rw [AHeap.upd_ne _ _ c3] at hbb
   simp only [AHeap.upd] at hbb
   split at hbb
   ·cases hbb; exact hb
   ·exact hs.out x y bb hx c3 hbb
 ·rw [hmx,sw_other (by omega) (fun c=>by rw [c.1,c.2,hm0] at hm; cases hm)]; exact hm
 ·simp only [Env.swap]
  rw [sw_other (by omega) (fun c=>by rw [c.1,c.2,hh0] at hm; cases hm)]; exact hm
 ·rcases ho with ⟨x,y,hm⟩ | ⟨x,y,hm⟩
  ·exact .inl ⟨_,_,hm⟩
  ·exact .inr ⟨_,_,hm⟩
theorem RunsD.other {P:Program} {m n:Nat} {A:Nat → Bool} {all all':List Oper} {kd:Nat → Kd} {i:Nat} {l:List Oper} {tm tm':List (Nat × AV)} {H H':AHeap} (h:RunsD P m n A all kd i l tm H tm' H') (hg:∀ o ∈ l,o.guard = none):RunsD P m n A all' kd i l tm H tm' H':=by
 induction h with
 | nil i tm H=>exact .nil i tm H
 | run i o r tm tm' H H1 H' v hg' h _ ih=>exact .run i o r tm tm' H H1 H' v (by unfold guardB; rw [hg o (by simp)]) h (ih fun x hx=>hg x (by simp [hx]))
 | pass i o r tm tm' H H' hg' _ ih=>unfold guardB at hg'; rw [hg o (by simp)] at hg'; cases hg'
theorem RunsD.snoc {P:Program} {m n:Nat} {A:Nat → Bool} {all:List Oper} {kd:Nat → Kd} {i:Nat} {l:List Oper} {tm tm':List (Nat × AV)} {H H' H1:AHeap} {o:Oper} {v:AV} (h:RunsD P m n A all kd i l tm H tm' H') (hg:o.guard = none)
  (ho:(kd (i + l.length)).sem P m n A o (evT tm') H' v H1):RunsD P m n A all kd i (l ++ [o]) tm H (putT tm' o.dst v) H1:=by
 induction h with
 | nil i tm H=>exact .run i o [] _ _ _ _ _ v (by unfold guardB; rw [hg]) ho (.nil _ _ _)
 | run i o' r tm tm' H H2 H' v' hg' h _ ih=>exact .run i o' _ tm _ H H2 _ v' hg' h (ih (by rw [List.length_cons] at ho; rwa [show i + (r.length + 1) = i + 1 + r.length by omega] at ho))
 | pass i o' r tm tm' H H' hg' _ ih=>exact .pass i o' _ tm _ H _ hg' (ih (by rw [List.length_cons] at ho; rwa [show i + (r.length + 1) = i + 1 + r.length by omega] at ho))
def LastX (cx:Cx) (o:Oper) (l1 q1:Nat) (k:List Itm) (Q:Exit → AState → Prop) (s:AState):Prop :=
 (evW cx.T cx.n o.op o.dst .auto (evT s.tmps) (full cx.n s.L s.H)).1 ∧ ∃ v b',(evW cx.T cx.n o.op o.dst .auto (evT s.tmps) (full cx.n s.L s.H)).2 = (v,some (l1,q1,b')) ∧
  ∃ s',AWkX cx.n cx.N l1 q1 ⟨putT s.tmps o.dst v,s.L,s.H.upd l1 q1 b'⟩ s' ∧ AKc cx k Q s'
theorem k_drawX {cx:Cx} {c:Code} {k:List Itm} {Q:Exit → AState → Prop} {s:AState} (hT:TOK cx.P cx.T) (hm:cx.P.follows .mixedOrders = true) (op:Opt) (hop:op.dr = true) {id:Nat} {ops:Array Oper} (hc:c = .region id ops true) (hd:dstOk cx.N ops.toList = true)
  (hok:(regionOk ops.toList (kdAt op ops.toList) && layOk op ops.toList) = true) (p:List Oper) (o:Oper) (hops:ops.toList = p ++ [o]) (hg:∀ x ∈ ops.toList,x.guard = none) (ho:kdOf op o = .w) (l1 q1:Nat) (hl1:l1 < cx.n)
  (h:vcOps cx op p [] (fun _ s1=>LastX cx o l1 q1 k Q s1) p s):AKc cx (.code c :: k) Q s:=by
 subst hc
 intro E w a hs
 obtain ⟨hok,hlay⟩:=Bool.and_eq_true_iff.1 hok
 have hkp:∀ i o',p[i]? = some o' → kdAt op ops.toList i = kdOf op o':=fun i o' hi=>by
  have hlt:i < p.length:=(List.getElem?_eq_some_iff.1 hi).1
  unfold kdAt
  rw [hops,List.getElem?_append_left hlt,hi]
 obtain ⟨tm',L',H',hr,hout,hk⟩:=vcOps_runs (k:=[]) (Q:=fun _ s1=>LastX cx o l1 q1 k Q s1) hT (kd:=kdAt op ops.toList) hop hkp p 0 s rfl h
 obtain ⟨hw1,v,b',hw2,s',hwx,hks⟩:LastX cx o l1 q1 k Q ⟨tm',L',H'⟩:=hk
 have hsem:=evW_sound (P:=cx.P) hT (n:=cx.n) (am:=.auto) (o:=o) (ρ:=evT tm') (G:=full cx.n L' H') _ rfl hw1
 rw [hw2] at hsem
 have hr2:=(hr.other (all':=ops.toList) (fun x hx=>hg x (by rw [hops]; simp [hx]))).snoc (o:=o) (v:=v) (H1:=full cx.n L' (H'.upd l1 q1 b')) (hg o (by rw [hops]; simp)) (by
  have:kdAt op ops.toList (0 + p.length) = .w:=by unfold kdAt; rw [hops,Nat.zero_add]; simp [ho]
  rw [this]
  show OpSem _ _ _ _ _ _ _
  rw [full_upd _ _ _ _ _ _ (show l1 ≠ cx.n by omega)]; exact hsem)
 rw [← hops] at hr2
 obtain ⟨T,G,V,t0,g0,t1,g1,hc⟩:=(hr2.mono (layOk_spec hlay)).course
 refine wpIn_region_any hm ?_
 have hlen:ops.toList.length = ops.size:=by simp
 have hu:unl (Array.replicate ops.size false) ≤ ops.size:=by
  unfold unl; exact Nat.le_trans List.countP_le_length (by simp)
 have hL:∀ i,(Array.replicate ops.size false).getD i false = false:=fun i=>by
  rw [Array.getD_eq_getD_getElem?]
  by_cases hi:i < ops.size <;> simp [hi]
 have hva:∀ n t,va ops.toList (lkv (T 0)) V ((Array.replicate ops.size false).getD · false) n t = lkv (T 0) t:=by
  intro n t
  induction n with
  | zero=>rfl
  | succ n ih=>rw [va,if_neg (fun c=>by rw [hL] at c; cases c.1),ih]
 have hhv:∀ n,hv cx.n (kdAt op ops.toList) G ((Array.replicate ops.size false).getD · false) n = G 0:=by
  intro n
  induction n with
  | zero=>rfl
  | succ n ih =>
   funext l s
   rw [hv_succ,if_neg (fun c=>by rw [hL] at c; cases c.1),ih]
 refine wpAny_course cx.φ.ro a.defers (m:=cx.n + 1) (N:=cx.N) (dstOk_spec hd) hc (regionOk_spec hok) E { w with drawn:=w.drawn + 1 } ?_ ops.size _ E { w with drawn:=w.drawn + 1 } a hu (by simp) (fun i o _ hi=>by have:=hL i; simp only at hi; rw [this] at hi; cases hi) hs.size rfl ?_ ?_ (.refl _ _ _)
 ·intro E' w' a' h1 h2 h3 h4 h5
  rw [← hlen,t1] at h3
  rw [← hlen,g1] at h4
  obtain ⟨E2,hs2,hx2⟩:=hwx _ E' w' a' ⟨h1,by rw [h2]; exact (hs.defs.ext (Env.le_of_drew cx.n E w)).ext h5,h3,h4,fun x y bb hx hne hbb=>by
   have hbb:(H'.upd l1 q1 b') x y = some bb:=hbb
   rw [AHeap.upd_ne _ _ hne] at hbb
   exact SRel.out_step hs.out hout x y bb hx hbb⟩
  exact ⟨s',E2,hks,hs2,((Env.le_of_drew cx.n E w).trans (h5.mono (Nat.le_succ _))).trans hx2⟩
 ·intro t; rw [hva,t0]; exact hs.tmps t
 ·rw [hhv,g0]; exact hs.heap.drew
theorem k_drawL {cx:Cx} {c:Code} {k:List Itm} {Q:Exit → AState → Prop} {s:AState} (hT:TOK cx.P cx.T) (hm:cx.P.follows .mixedOrders = true) (op:Opt) (hop:op.dr = true) {id:Nat} {ops:Array Oper} (hc:c = .region id ops true) (hd:dstOk cx.N ops.toList = true)
  (hok:(regionOk ops.toList (kdAt op ops.toList) && layOk op ops.toList) = true) (m:Nat) {o:Oper} (ho1:ops.toList.drop m = [o]) (hg:(ops.toList.all fun x=>x.guard.isNone) = true) (ho:kdOf op o = .w) (l1 q1:Nat) (hl1:l1 < cx.n)
  (h:vcOps cx op (ops.toList.take m) [] (fun _ s1=>LastX cx o l1 q1 k Q s1) (ops.toList.take m) s):AKc cx (.code c :: k) Q s :=
 k_drawX hT hm op hop hc hd hok (ops.toList.take m) o (by rw [← ho1,List.take_append_drop]) (fun x hx=>by
  have:=List.all_eq_true.1 hg x hx
  simpa using this) ho l1 q1 hl1 h
theorem LastX.mk {cx:Cx} {o:Oper} {l1 q1:Nat} {k:List Itm} {Q:Exit → AState → Prop} {s:AState} {v:AV} {b':ABlk} (s':AState) (h1:(evW cx.T cx.n o.op o.dst .auto (evT s.tmps) (full cx.n s.L s.H)).1)
  (h2:(evW cx.T cx.n o.op o.dst .auto (evT s.tmps) (full cx.n s.L s.H)).2 = (v,some (l1,q1,b'))) (h3:AWkX cx.n cx.N l1 q1 ⟨putT s.tmps o.dst v,s.L,s.H.upd l1 q1 b'⟩ s') (h4:AKc cx k Q s'):LastX cx o l1 q1 k Q s:=⟨h1,v,b',h2,s',h3,h4⟩
end Go.Abs

/- The first penalty: the walk. -/
namespace Go.Abs
def Pen.cs (p:Pen):List AV:=[.int .i64 p.weight,.int .i64 p.level,.sl 4 (p.tup.map Tm.enc) .any,.sl 1 ([p.body].map sInts) .any]
def penH (H:AHeap) (l b kk:Nat) (p:Pen):AHeap :=
 ((H.upd l (b + 10) (.box p.cs)).upd l kk (.map [(.str p.key,.ptr l (b + 10) 0)])).upd l (b + 2) (.mbuf 173 1 [.ptr l (b + 10) 0] 1)
structure NoPen (H:AHeap) (l b kk:Nat) (F:Fr):Prop where
 pn:F.pn = .msl 1 l (b + 2) 0
 kn:F.kn = .map l kk
 p:H l (b + 2) = some (.mbuf 173 1 [] 0)
 k:H l kk = some (.map [])
 f:H l (b + 10) = none
 d:kk ≠ b ∧ kk ≠ b + 1 ∧ kk ≠ b + 2 ∧ kk ≠ b + 10
def Fr.one (F:Fr) (l b:Nat):Fr:=⟨F.a,F.num,.msl 1 l (b + 2) 1,F.kn⟩
end Go.Abs
namespace Go.Proofs.YthgbkalgmicniaaGreatDoor
open Go.Abs
set_option maxRecDepth 100000
theorem Wk.full0 (k k':Nat):Wk (.sl k [] .full) (.sl k' [] .full):=.sem fun E v h=>by
 cases h with
 | slnil _ _ a ho ha=>exact .slnil k' .full a ho ha
 | sl _ _ _ b off cap c hk hc hv hcap hm ho=>exact .sl k' [] .full b off cap c (fun i h=>absurd h (Nat.not_lt_zero _)) (fun i j h=>absurd h (Nat.not_lt_zero _)) (fun i h=>absurd h (Nat.not_lt_zero _)) hcap hm ho
def op127a:Opt:=⟨true,true,fun _=>.auto,[45]⟩
def op127b:Opt:=⟨true,false,fun d=>if d = 58 then .heap else .auto,[]⟩
theorem b127 (n:Nat) (H:AHeap) (l b kk:Nat) (F:Fr) (s:St) (hl:l < n) (h0:0 < l) (hF:F.bel n) (hT0:Tabs H) (hN:NoPen H l b kk F) (x:Ins) (hx:GoodTs x.tuple) (hv:x.tuple.all valueT = true) (hw:0 ≤ x.weight ∧ x.weight ≤ 1048576) (hlv:-2147483647 ≤ x.level ∧ x.level ≤ 2147483647)
  (body:List Int) (hb:body.length ≤ 1000000) :
  ACalls Tryz.prog n 127 [.ptr l b 0,x.enc,sInts body] (bxH H l b F s) fun r H'=>r = .tup [] ∧ H' = bxH (penH H l b kk (x.pen body)) l b (F.one l b) s:=by
 obtain ⟨d1,d2,d3,d4⟩:=hN.d
 have hne:¬ l = n:=by omega
 have hn:0 < n:=by omega
 have hT:Tabs (bxH H l b F s):=Tabs.up hT0 fun k=>bxH_lv (by omega)
 have hbx:bxH H l b F s l b = some (.box [F.a,F.num,.int .i64 s.n,.msl 6 l (b + 1) s.rules.length,.msl 1 l (b + 2) 0,.map l kk,.int .i64 s.err]):=by rw [bxH_box,bxC,hN.pn,hN.kn]
 have hkm:bxH H l b F s l kk = some (.map []):=by rw [bxH_ne (by omega) (by omega)]; exact hN.k
 have hpm:bxH H l b F s l (b + 2) = some (.mbuf 173 1 [] 0):=by rw [bxH_ne (by omega) (by omega)]; exact hN.p
 have htl:=txts_le hx hv
 have hk1:=hx.len
 have hi1:=Lib.itoa_length_le x.weight (by omega) (by omega)
 have hi2:=Lib.itoa_length_le x.level (by omega) (by omega)
 have hi3:=Lib.itoa_length_le (x.tuple.length:Int) (by omega) (by omega)
 refine a_fun tok (fun_of Tryz.func127 rfl rfl) (by simp) fun B=>?_
 repeat refine kn rfl ?_
 refine k_region tok rfl (by kernel_rfl) ?_
 simp only [go_sem,simprocAttr]
 repeat refine kn rfl ?_
 refine k_freeze 4 x.cs [(0,.ptr l b 0),(2,sInts body),(4,.iptr x.cs)] rfl (allP_of fun c hc=>(x.bcs.mem c hc).inside) ⟨.inl ⟨.refl _,Inside.ptr _ _ _ (.inl hl)⟩,.inl ⟨.refl _,(below_sInts _).inside⟩,.inr ⟨0,rfl,rfl⟩,trivial⟩ trivial ?_
 simp only [go_sem,simprocAttr]
 repeat refine kn rfl ?_
 refine k_draw tok mixed drawO rfl rfl (by kernel_rfl) (by kernel_rfl) ?_
 simp only [go_sem,simprocAttr]
 refine callT (fun_of Tryz.func214 rfl rfl) (a123 x.weight (by omega) (by omega)) hn hT (by simp only [go_sem,simprocAttr]) ?_
 simp only [go_sem,simprocAttr]
 repeat refine ⟨by first | omega | (simp only [List.length_append,List.length_cons,List.length_nil]; omega),?_⟩
 refine callT (fun_of Tryz.func214 rfl rfl) (a123 x.level (by omega) (by omega)) hn hT (by simp only [go_sem,simprocAttr]) ?_
 simp only [go_sem,simprocAttr]
 repeat refine ⟨by first | omega | (simp only [List.length_append,List.length_cons,List.length_nil]; omega),?_⟩
 refine callT (fun_of Tryz.func214 rfl rfl) (a123 (x.tuple.length:Int) (by omega) (by omega)) hn hT (by simp only [go_sem,simprocAttr]) ?_
 simp only [go_sem,simprocAttr]
 repeat refine ⟨by first | omega | (simp only [List.length_append,List.length_cons,List.length_nil]; omega),?_⟩
 refine callT (fun_of Tryz.func60 rfl rfl) (a60 x.tuple hx hv) hn hT (by simp only [go_sem,simprocAttr]) ?_
 simp only [go_sem,simprocAttr]
 repeat refine ⟨by first | omega | (simp only [List.length_append,List.length_cons,List.length_nil]; omega),?_⟩
 have hkey:((((((Lib.itoa x.weight ++ [64]) ++ Lib.itoa x.level) ++ [58]) ++ Lib.itoa (x.tuple.length:Int)) ++ [58]) ++ txts x.tuple) = keyP x:=rfl
 rw [hkey]
 generalize hkk:keyP x = key at *
 have hl0:lookA ⟨.ptr,1,8,[.nilp]⟩ (AV.str key) [] false = .nilp:=rfl
 repeat refine kn rfl ?_
 refine k_region tok rfl (by kernel_rfl) ?_
 simp only [go_sem,simprocAttr,hne,hbx,hkm,hl0]
 repeat refine kn rfl ?_
 refine k_cond_t rfl (by simp only [go_sem,simprocAttr]) ?_
 repeat refine kn rfl ?_
 refine k_drawL tok mixed op127a rfl rfl (by kernel_rfl) (by kernel_rfl) 13 rfl rfl rfl l kk hl ?_
 simp only [go_sem,simprocAttr,op127a,hne,hbx,List.take_succ_cons,List.take_zero]
 refine k_nil ?_
 have hcs:AllP (fun c=>Below n c) [.int .i64 x.weight,.int .i64 x.level,.sl 4 (x.tuple.map Tm.enc) .any,.sl 0 [] .full]:=⟨.int _ _,.int _ _,below_tms _,below_sl (fun _ h=>by cases h) (fun _ _ e=>by cases e),trivial⟩
 refine LastX.mk (v:=.tup []) (b':=.map [(.str key,.ptr n 45 0)]) ⟨[(0,.ptr l b 0),(2,sInts body),(4,.iptr x.cs),(6,.str key)],_,_⟩ ?_ ?_
  (AWk_giveX (b:=.box [.int .i64 x.weight,.int .i64 x.level,.sl 4 (x.tuple.map Tm.enc) .any,.sl 0 [] .full]) (b1:=.map [(.str key,.ptr n 45 0)]) 45 l (b + 10) l kk hl hl ?_ ?_ (ABlk.below_box hcs) ?_ ?_ (AHeap.upd_same _ _ _ _) ?_ rfl rfl ?_) ?_
 ·simp only [go_sem,simprocAttr,hne,hkm]
 ·simp only [go_sem,simprocAttr,hne,hkm]
  rfl
 ·have hfr:=hN.f
  show (bxH H l b F s).upd l kk _ l (b + 10) = none
  rw [AHeap.upd_ne _ _ (by omega),bxH_ne (by omega) (by omega)]; exact hfr
 ·simp only [go_sem,simprocAttr]
 ·intro q hq
  simp only [List.mem_cons,List.not_mem_nil,or_false] at hq
  rcases hq with rfl | rfl | rfl | rfl
  ·simp only [go_sem,simprocAttr,ren,hne,false_and,if_false]
   exact ⟨.inl (Inside.ptr _ _ _ (.inl hl)),.refl _⟩
  ·simp only [go_sem,simprocAttr,ren,sInts]
   exact ⟨.inl (below_sInts _).inside,.refl _⟩
  ·simp only [go_sem,simprocAttr,ren]
   exact ⟨.inl (below_iptr x.bcs).inside,.refl _⟩
  ·simp only [go_sem,simprocAttr,ren]
   exact ⟨.inl (.str _),.refl _⟩
 ·intro p hp
  cases hp
 ·intro a ha
  simp only [ABlk.avs,List.map_cons,List.map_nil,List.cons_append,List.nil_append,List.mem_cons,List.not_mem_nil,or_false] at ha
  rcases ha with rfl | rfl
  ·exact .inl (.str _)
  ·exact .inr (.inl ⟨0,rfl⟩)
 ·have e:ABlk.mapv (ren n 45 l (b + 10)) (.map [(.str key,.ptr n 45 0)]) = .map [(.str key,.ptr l (b + 10) 0)]:=by simp [ABlk.mapv,ren]
  rw [e]
  refine ⟨?_,by simp [ABlk.at_]⟩
  intro a ha
  simp only [ABlk.avs,List.map_cons,List.map_nil,List.cons_append,List.nil_append,List.mem_cons,List.not_mem_nil,or_false] at ha
  rcases ha with rfl | rfl
  ·exact .str _
  ·exact .ptr _ _ _ hl
 have e:ABlk.mapv (ren n 45 l (b + 10)) (.map [(.str key,.ptr n 45 0)]) = .map [(.str key,.ptr l (b + 10) 0)]:=by simp [ABlk.mapv,ren]
 rw [e]
 simp only [go_sem,simprocAttr,renL,delb]
 rw [upd_comm _ (l:=l) (k:=kk) (l':=l) (k':=b + 10) (by omega),upd_upd,bxH_upd (by omega) (by omega),bxH_upd (by omega) (by omega)]
 have hfr:=hN.p
 obtain ⟨H2,hH2⟩:∃ H2,H2 = (H.upd l (b + 10) (.box [.int .i64 x.weight,.int .i64 x.level,.sl 4 (x.tuple.map Tm.enc) .any,.sl 0 [] .full])).upd l kk (.map [(.str key,.ptr l (b + 10) 0)]):=⟨_,rfl⟩
 rw [← hH2]
 have hbx2:bxH H2 l b F s l b = some (.box [F.a,F.num,.int .i64 s.n,.msl 6 l (b + 1) s.rules.length,.msl 1 l (b + 2) 0,.map l kk,.int .i64 s.err]):=by rw [bxH_box,bxC,hN.pn,hN.kn]
 have hkm2:bxH H2 l b F s l kk = some (.map [(.str key,.ptr l (b + 10) 0)]):=by rw [bxH_ne (by omega) (by omega),hH2,AHeap.upd_same]
 have hpm2:bxH H2 l b F s l (b + 2) = some (.mbuf 173 1 [] 0):=by rw [bxH_ne (by omega) (by omega),hH2,AHeap.upd_ne _ _ (by omega),AHeap.upd_ne _ _ (by omega)]; exact hN.p
 have hkkp:∀ p ∈ [(AV.str key,AV.ptr l (b + 10) 0)],keyOK tt 9 p.1 = true:=fun p hp=>by simp only [List.mem_singleton] at hp; subst hp; exact keyStr _
 have hl1:lookA ⟨.ptr,1,8,[.nilp]⟩ (AV.str key) [(.str key,.ptr l (b + 10) 0)] false = .ptr l (b + 10) 0:=by
  have h:=lookA_M kinj_str (fun _:Unit=>AV.ptr l (b + 10) 0) ⟨.ptr,1,8,[.nilp]⟩ key [(key,())]
  simpa [getM,encM] using h
 repeat refine kn rfl ?_
 refine k_draw tok mixed op127b rfl rfl (by kernel_rfl) (by kernel_rfl) ?_
 have hq2:∀ Y,((bxH H2 l b F s).upd l (b + 2) Y) l b = (bxH H2 l b F s) l b:=fun Y=>AHeap.upd_ne _ _ (by omega)
 have hF1:(F.one l b).bel n:=by
  obtain ⟨g1,g2,g3,g4,_⟩:=hF
  exact ⟨g1,g2,.msl _ _ _ _ hl,g4,trivial⟩
 have hfl:flat [AV.ptr l (b + 10) 0] = [.ptr l (b + 10) 0]:=rfl
 have hmb:ABlk.Below n (.mbuf 173 1 [.ptr l (b + 10) 0] 1):=⟨fun a ha=>by simp only [ABlk.avs,List.mem_singleton] at ha; subst ha; exact .ptr _ _ _ hl,by simp [ABlk.at_]⟩
 have hbc:=below_bxC (b:=b) hF1 hl s
 have hbe:bxC l b (F.one l b) s = [F.a,F.num,.int .i64 s.n,.msl 6 l (b + 1) s.rules.length,.msl 1 l (b + 2) 1,.map l kk,.int .i64 s.err]:=by simp only [bxC,Fr.one,hN.kn]
 simp only [go_sem,simprocAttr,op127b,hne,hbx2,hkm2,hpm2,hl1,hq2,hfl]
 refine ⟨rfl,le_maxLen (by omega),.inr hmb,.inr (by rw [hbe] at hbc; exact hbc),?_⟩
 rw [← hbe,bxH_upd (by omega) (by omega),bxH_setF]
 have hbx3:∀ H,bxH H l b (F.one l b) s l b = some (.box [F.a,F.num,.int .i64 s.n,.msl 6 l (b + 1) s.rules.length,.msl 1 l (b + 2) 1,.map l kk,.int .i64 s.err]):=fun H=>by rw [bxH_box,hbe]
 obtain ⟨H3,hH3⟩:∃ H3,H3 = H2.upd l (b + 2) (.mbuf 173 1 [.ptr l (b + 10) 0] 1):=⟨_,rfl⟩
 rw [← hH3]
 have hkm3:bxH H3 l b (F.one l b) s l kk = some (.map [(.str key,.ptr l (b + 10) 0)]):=by rw [bxH_ne (by omega) (by omega),hH3,AHeap.upd_ne _ _ (by omega),hH2,AHeap.upd_same]
 have hpb3:bxH H3 l b (F.one l b) s l (b + 10) = some (.box [.int .i64 x.weight,.int .i64 x.level,.sl 4 (x.tuple.map Tm.enc) .any,.sl 0 [] .full]):=by rw [bxH_ne (by omega) (by omega),hH3,AHeap.upd_ne _ _ (by omega),hH2,AHeap.upd_ne _ _ (by omega),AHeap.upd_same]
 have hT3:Tabs (bxH H3 l b (F.one l b) s):=Tabs.up hT0 fun k=>by
  rw [bxH_lv (by omega),hH3,AHeap.upd_ne _ _ (by omega),hH2,AHeap.upd_ne _ _ (by omega),AHeap.upd_ne _ _ (by omega)]
 have hdis:=(a215p body hb).args (args':=[.sl 0 [] .full,sInts body]) ⟨Wk.full0 _ _,.refl _,trivial⟩
 have hq3:∀ X,bxH (H3.upd l (b + 10) X) l b (F.one l b) s = (bxH H3 l b (F.one l b) s).upd l (b + 10) X:=fun X=>(bxH_upd (by omega) (by omega) X).symm
 repeat refine kn rfl ?_
 refine k_draw tok mixed drawO rfl rfl (by kernel_rfl) (by kernel_rfl) ?_
 simp only [go_sem,simprocAttr,hne,hbx3,hkm3,hpb3,hl1]
 refine callT (fun_of Tryz.func215 rfl rfl) hdis hn hT3 (by simp only [go_sem,simprocAttr]) ?_
 simp only [go_sem,simprocAttr,hne,hpb3]
 have hpc:(Pen.cs (x.pen body)) = [.int .i64 x.weight,.int .i64 x.level,.sl 4 (x.tuple.map Tm.enc) .any,.sl 1 [sInts body] .any]:=rfl
 refine ⟨.inr (ABlk.below_box ⟨.int _ _,.int _ _,below_tms _,below_sla (fun y hy=>?_),trivial⟩),?_⟩
 ·simp only [List.mem_singleton] at hy; subst hy; exact below_sInts _
 refine k_nil ⟨by simp [okRes],[],trivial,by simp,rfl,?_⟩
 show (bxH H3 l b (F.one l b) s).upd l (b + 10) _ = _
 rw [bxH_upd (by omega) (by omega),← hpc]
 congr 1
 have hk2:(x.pen body).key = key:=hkk
 rw [hH3,hH2,penH,hk2,upd_comm _ (l:=l) (k:=b + 2) (l':=l) (k':=b + 10) (by omega),upd_comm _ (l:=l) (k:=kk) (l':=l) (k':=b + 10) (by omega),upd_upd]
end Go.Proofs.YthgbkalgmicniaaGreatDoor
