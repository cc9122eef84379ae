/- Collect. -/
import Derived.Test.YthgbkalgmicniaaGreatDoorM16
import Derived.Test.YthgbkalgmicniaaGreatDoorM09
set_option linter.all false
namespace Go.Proofs.YthgbkalgmicniaaGreatDoor
open Go.Abs
set_option maxRecDepth 100000
structure EOk (e:GE):Prop where
 g:e.Good
 ne:e.tuple ≠ []
 v:e.tuple.all ZW = true
 ts:XK e.tuple
 cl:e.cond.length ≤ 10000
theorem _root_.List.VQ {α:Type} {l:List α} {i:Nat} {x:α} (h:l[i]? = some x):l.set i x = l:=by
 obtain ⟨h1,h2⟩:=List.getElem?_eq_some_iff.1 h
 rw [← h2]; exact List.set_getElem_self h1
def op12:Opt:=⟨true,true,fun d=>if d = 58 then .heap else if d = 60 then .call else .auto,[]⟩
theorem ZnJ (n:Nat) (H:Zf) (l b:Nat) (F:Fr) (s:St) (hl:l < n) (h0:0 < l) (hF:F.bel n) (hs:s.Fit 300000) (lm km:Nat) (M:List (List UInt8 × Int)) (hnum:F.num = .map lm km) (hlm:lm < n) (hd1:¬(lm = l ∧ km = b)) (hd2:¬(lm = l ∧ km = b + 1))
  (hM:H lm km = some (.map (Vl M))) (hsm:SmN M) (hT0:Tabs H) (gb:GB) (hE:∀ e ∈ gb.elems,EOk e) (hel:gb.elems.length ≤ 400) (l0 k0:Nat) (hl0:l0 < n) (hf0:H l0 k0 = none) (hd3:¬(l0 = l ∧ k0 = b)) (hd4:¬(l0 = l ∧ k0 = b + 1)) :
  Zr Tryz.prog n 197 [.ptr l b 0,gb.enc] (bxH H l b F s) fun r H'=>r = .tup [.int .i64 (Yf gb.fn s (Yr M gb.elems)).base,.map l0 k0] ∧ H' = bxH (H.upd l0 k0 (.map (Y3 (Yf gb.fn s (Yr M gb.elems)).w))) l b F (Yf gb.fn s (Yr M gb.elems)).s:=by
 have hne:¬ l = n:=by omega
 have hn:0 < n:=by omega
 have hT:Tabs (bxH H l b F s):=Tabs.up hT0 fun k=>Za6 (by omega)
 have hHM:bxH H l b F s lm km = some (.map (Vl M)):=by rw [Xt hd1 hd2]; exact hM
 have hbx:bxH H l b F s l b = some (.box (F.a :: .map lm km :: [.int .i64 s.n,.msl 6 l (b + 1) s.rules.length,F.pn,F.kn,.int .i64 s.err])):=by rw [bxH_box,bxC,hnum]
 refine Zm tok (Zb Tryz.func197 rfl rfl) (by simp) fun B=>?_
 refine Za tok rfl rfl ?_
 simp only [go_sem,simprocAttr]
 refine Za tok rfl rfl ?_
 simp only [go_sem,simprocAttr]
 refine Za tok rfl rfl ?_
 simp only [go_sem,simprocAttr]
 refine Za tok rfl rfl ?_
 simp only [go_sem,simprocAttr]
 refine Za tok rfl rfl ?_
 simp only [go_sem,simprocAttr]
 repeat refine kn rfl ?_
 refine WS 7 200 9 1 rfl rfl ?_
 refine Za tok rfl rfl ?_
 simp only [go_sem,simprocAttr]
 refine XF ⟨ZaP n l b gb (Yr M gb.elems),Lg n gb (Yr M gb.elems),bxH H l b F s⟩ ?_ ?_
 ·repeat refine kn rfl ?_
  refine Zy (ZjA n l b gb M (bxH H l b F s)) gb.elems.length rfl ?_ ?_
  ·unfold ZjA Lg ZaP
   rw [List.take_zero]
   refine Zg ?_ ?_ ?_ ?_ <;> repeat' first|exact trivial|refine q0 ?_|exact qb|exact q1|exact q2|exact q3|exact rfl|refine And.intro ?_ ?_|exact qA rfl|exact Inside.ptr _ _ _ (.inr ⟨rfl,rfl⟩)|exact Tm.ins _|exact Tm.Zj _ _|exact Am.ins _|exact Am.Zj _ _|refine Zd ?_|refine Tm.Zc ?_|refine Am.Zc ?_
   all_goals first | exact (Zx _).inside | exact (Xm _).inside | exact (ZB _).inside | exact Inside.ptr _ _ _ (.inl hl) | exact Inside.map _ _ (.inr ⟨rfl,rfl⟩) | exact XC | exact Xz | exact Xb (fun j hj=>by simp only [lkb]; (repeat rw [if_neg (by omega)]); try rw [lkb_setb,if_neg (by omega)]) | exact X6 (fun j hj=>by simp only [lkb]; (repeat rw [if_neg (by omega)]); rw [YB]; simp [hj]) | skip
   all_goals exact 0
  intro i hi
  refine Yi rfl ?_
  rcases Nat.lt_or_ge i gb.elems.length with h | h
  ·have he:=hE _ (List.getElem_mem h)
   have hgl:=ZcK M (gb.elems.take i)
   rw [List.length_take] at hgl
   have hge:∀ d,(gb.elems.map GE.enc).getD i d = gb.elems[i].enc:=fun d=>getD_map GE.enc _ _ h d
   have hsn:Yr M (gb.elems.take (i + 1)) = Zep gb.elems[i].tuple (Y5 (gb.elems[i].cond.map (YT M))) (Yr M (gb.elems.take i)):=by rw [List.take_succ_eq_append_getElem h,Vw]
   have hne2:∀ g ∈ Yr M (gb.elems.take i),g.ls ≠ []:=VH (P:=fun g=>g.ls ≠ []) (fun e _ ls h _=>h)
   have hgll:∀ g ∈ Yr M (gb.elems.take i),g.ls.length ≤ 1000:=fun g hg=>by have:=ZeV M _ g hg; rw [List.length_take] at this; omega
   generalize Yr M (gb.elems.take i) = gs at *
   generalize bxH H l b F s = G at *
   unfold ZaP Lg
   refine Za tok rfl rfl ?_
   simp only [go_sem,simprocAttr,h]
   refine Zp rfl rfl rfl ?_
   have hb10:lkb (YM 0 gs) 10 = none:=ZeW gs 0 10 (by omega)
   have hs10:∀ X,lkb (setb (YM 0 gs) 10 X) 10 = some X:=fun X=>by rw [lkb_setb,if_pos rfl]
   refine Za tok rfl rfl ?_
   simp only [go_sem,simprocAttr,hge,h,hb10,hs10,setb_setb]
   obtain ⟨e,hee⟩:∃ e,e = gb.elems[i]:=⟨_,rfl⟩
   rw [← hee] at he hsn ⊢
   refine Yx (s':=⟨(10,.ptr n 10 0) :: (22,.int .i64 i) :: ZaP n l b gb gs,(10,.box e.cs) :: Lg n gb gs,G⟩) ?_ ?_
   ·unfold ZaP Lg
    refine Zg ?_ ?_ ?_ ?_ <;> repeat' first|exact trivial|refine q0 ?_|exact qb|exact q1|exact q2|exact q3|exact rfl|refine And.intro ?_ ?_|exact qA rfl|exact Inside.ptr _ _ _ (.inr ⟨rfl,rfl⟩)|exact Tm.ins _|exact Tm.Zj _ _|exact Am.ins _|exact Am.Zj _ _|refine Zd ?_|refine Tm.Zc ?_|refine Am.Zc ?_
    all_goals first | exact (Zx _).inside | exact (Xm _).inside | exact (ZB _).inside | exact Inside.ptr _ _ _ (.inl hl) | exact Inside.map _ _ (.inr ⟨rfl,rfl⟩) | exact XC | exact Xz | exact Xb (fun j hj=>by simp only [lkb]; (repeat rw [if_neg (by omega)]); try rw [lkb_setb,if_neg (by omega)]) | exact X6 (fun j hj=>by simp only [lkb]; (repeat rw [if_neg (by omega)]); rw [YB]; simp [hj]) | skip
    all_goals first | (show lkb _ 10 = some _; simp only [lkb]; (repeat rw [if_neg (by decide)]); rw [lkb_setb,if_pos rfl]; rfl) | exact (he.g.t |> fun _=>GE.bcs (n:=n) e |> fun h=>by exact h.1.inside) | exact 0
   unfold ZaP Lg
   simp only [go_sem,simprocAttr]
   have htl:=Zbt he.ts he.v
   have hk1:=he.ts.len
   have hil:=Lib.itoa_length_le (e.tuple.length:Int) (by omega) (by omega)
   refine YX tok mixed drawO rfl rfl rfl ?_
   simp only [go_sem,simprocAttr]
   refine ZH (Zb Tryz.func214 rfl rfl) (Zi1 (e.tuple.length:Int) (by omega) (by omega)) hn hT rfl ?_
   simp only [go_sem,simprocAttr]
   refine ⟨by first | omega | (simp only [List.length_append,List.length_cons,List.length_nil]; omega),?_⟩
   refine ZH (Zb Tryz.func60 rfl rfl) (a60 e.tuple he.ts he.v) hn hT rfl ?_
   simp only [go_sem,simprocAttr]
   refine ⟨by first | omega | (simp only [List.length_append,List.length_cons,List.length_nil]; omega),?_⟩
   have hkey:(Lib.itoa (e.tuple.length:Int) ++ [58]) ++ ZaH e.tuple = keyE e.tuple:=rfl
   rw [hkey]
   generalize hkk:keyE e.tuple = k at *
   have hlk:=fun re=>JH kinj_str (evG n) re k (gIx 0 gs)
   rw [Zby] at hlk
   have hkp:∀ p ∈ Y0 AV.str (evG n) (gIx 0 gs),Yv tt 9 p.1 = true:=fun p hp=>by
    obtain ⟨q,_,rfl⟩:=List.mem_map.1 hp; exact Jv _
   have hci:∀ x ∈ e.cond.map (YT M),SmI x:=fun x hx=>by obtain ⟨y,_,rfl⟩:=List.mem_map.1 hx; exact Zal hsm y
   have hmap:∀ L,PC Tryz.prog (n + 1) 288 [.sl 3 (e.cond.map GL.enc) .any,.bfn (.func 119) [.ptr l b 0]] (full n L G) (Zw (e.cond.map (YT M))):=fun L=>by
    have hbf:Below (n + 1) (.bfn (.func 119) [.ptr l b 0]):=.bfn _ _ fun i hi=>(show Yj (fun c=>Below (n + 1) c) [.ptr l b 0] from ⟨.ptr _ _ _ (by omega),trivial⟩).mem _ (List.getElem_mem hi)
    exact Zl2 (n + 1) e.cond (by have:=he.cl; omega) 119 [.ptr l b 0] _ _ (Zb Tryz.func119 rfl rfl) (e.cond.map (YT M)) (by simp) (fun _=>full n L G) hbf (Xm _)
     (fun j hj L2=>Zr.mono (ZlY (n + 1 + 1) (full (n + 1) L2 (full n L G)) l b F.a _ lm km M (by omega) (by omega) (by rw [ZL (show l < n + 1 by omega),ZL hl]; exact hbx) (by rw [ZL (show lm < n + 1 by omega),ZL hlm]; exact hHM) hsm (Nat.succ_pos _) ((hT.full hn).full (Nat.succ_pos _)) e.cond[j] (he.g.c _ (List.getElem_mem hj))) (by rintro r H1 ⟨rfl,rfl⟩; exact ⟨by simp,rfl⟩)) (fun _ _=>.refl _ _)
   have hcl:(Y5 (e.cond.map (YT M))).length ≤ 1000000:=by have:=ordL_len (e.cond.map (YT M)); rw [List.length_map] at this; have:=he.cl; omega
   have hcl2:(e.cond.map (YT M)).length ≤ 1000000:=by rw [List.length_map]; have:=he.cl; omega
   have hord:=Zia (e.cond.map (YT M)) .any hci hcl2
   generalize Y5 (e.cond.map (YT M)) = c at *
   generalize e.cond.map (YT M) = cl at *
   cases hx:gs[ixG k gs]? with
   | none =>
    rw [hx] at hlk
    refine Za tok rfl rfl ?_
    simp only [go_sem,simprocAttr,hlk,Option.map_none]
    refine ⟨hkp,⟨_,rfl⟩,?_⟩
    refine Zp rfl rfl rfl ?_
    refine Za tok rfl rfl ?_
    simp only [go_sem,simprocAttr]
    refine ⟨rfl,⟨ZQ (by omega),by omega⟩,?_⟩
    have hput:=Za1 kinj_str JW k e.tuple (Vd gs)
    have hkt:∀ p ∈ Y0 AV.str JW (Vd gs),Yv tt 9 p.1 = true:=fun p hp=>by
     obtain ⟨q,_,rfl⟩:=List.mem_map.1 hp; exact Jv _
    have hput2:Zbn (.str k) (.sl 4 (e.tuple.map Tm.enc) .any) (Y0 AV.str JW (Vd gs)) = Y0 AV.str JW (Xv k e.tuple (Vd gs)):=hput
    refine Za tok rfl rfl ?_
    simp only [go_sem,simprocAttr,hput2]
    refine ⟨hkt,?_⟩
    repeat refine kn rfl ?_
    refine WH tok mixed op12 rfl rfl (by kernel_rfl) (by kernel_rfl) ?_
    simp only [go_sem,simprocAttr,op12,hlk,Option.map_none,hne,hbx]
    refine ⟨hkp,?_⟩
    refine ZiL (Zb Tryz.func288 rfl rfl) (fun G' hG=>by rw [ZbR hG]; exact hmap _) (by simp only [go_sem,simprocAttr]) ?_
    simp only [go_sem,simprocAttr,op12]
    refine Zf2 (Zb Tryz.func122 rfl rfl) hord (by simp only [go_sem,simprocAttr]) ?_
    simp only [go_sem,simprocAttr,op12]
    obtain ⟨hadd,hixl⟩:=VK (t:=e.tuple) (c:=c) (gs:=gs) (by rw [hkk]; exact hx)
    rw [hkk] at hixl
    have hfree:lkb (YM 0 gs) (300 + gs.length) = none:=by rw [YB]; simp
    refine ⟨215,_,_,[],.sl 1 [Zw c] (.buf n (300 + gs.length)),(10,.box e.cs) :: (3,.box gb.cs) :: (16,.map []) :: (17,.map (Y0 AV.str (evG n) (gIx 0 gs))) :: (18,.map (Y0 AV.str JW (Xv k e.tuple (Vd gs)))) :: (200,.buf 9 1 (gs.length + 1)) :: (YM 0 gs ++ [(300 + gs.length,.buf 61 1 1)]),G,rfl,Zb Tryz.func215 rfl rfl,?_,.refl _ _,?_⟩
    ·simp only [go_sem,simprocAttr,op12]
     refine Zr.mono ((Zmd (n + 1) _ n (300 + gs.length) c (Nat.lt_succ_self n) (Nat.succ_pos _) (hT.full hn) hcl (by simp only [full,if_true,lkb]; (repeat rw [if_neg (by omega)]); exact hfree)).args ⟨Wk.Y8 1,.refl _,trivial⟩) ?_
     rintro r H1 ⟨rfl,rfl⟩
     refine ⟨rfl,?_⟩
     rw [← ZU]
     congr 1
     simp only [setb]
     (repeat rw [if_neg (by omega)])
     have:=ZaQ (.buf 61 1 1) gs 0
     rw [Nat.zero_add] at this
     rw [this]
    simp only [go_sem,simprocAttr,op12]
    have hput3:=Za1 kinj_str (evG n) k (gs.length,[c]) (gIx 0 gs)
    have hput4:Zbn (.str k) (.sl 1 [Zw c] (.buf n (300 + gs.length))) (Y0 AV.str (evG n) (gIx 0 gs)) = Y0 AV.str (evG n) (Xv k (gs.length,[c]) (gIx 0 gs)):=hput3
    rw [hput4]
    refine ⟨hkp,?_⟩
    have hgn:getM k (gIx 0 gs) = none:=by rw [Zby,hx]; rfl
    have htn:getM k (Vd gs) = none:=by rw [Zde,hx]; rfl
    have h1:Xv k (gs.length,[c]) (gIx 0 gs) = gIx 0 (gs ++ [Gp.mk k e.tuple [c]]):=by rw [Zas _ hgn,Zfv,Nat.zero_add]
    have h2:Xv k e.tuple (Vd gs) = Vd (gs ++ [Gp.mk k e.tuple [c]]):=by rw [Zas _ htn]; simp [Vd]
    have h3:YM 0 gs ++ [(300 + gs.length,.buf 61 1 1)] = YM 0 (gs ++ [Gp.mk k e.tuple [c]]):=by rw [ZdD,Nat.zero_add]; rfl
    have h4:(gs.map Gp.key).map AV.str ++ [AV.str k] = ((gs ++ [Gp.mk k e.tuple [c]]).map Gp.key).map AV.str:=by simp
    have h5:gs.length + 1 = (gs ++ [Gp.mk k e.tuple [c]]).length:=by simp
    rw [hkk] at hadd
    rw [h1,h2,h3,h4,h5]
    rw [hadd] at hsn
    unfold ZjA
    rw [hsn]
    generalize gs ++ [Gp.mk k e.tuple [c]] = gs' at *
    refine Za tok rfl rfl ?_
    simp only [go_sem,simprocAttr]
    refine Zt rfl ?_
    unfold ZaP Lg
    refine Zg ?_ ?_ ?_ ?_ <;> repeat' first|exact trivial|refine q0 ?_|exact qb|exact q1|exact q2|exact q3|exact rfl|refine And.intro ?_ ?_|exact qA rfl|exact Inside.ptr _ _ _ (.inr ⟨rfl,rfl⟩)|exact Tm.ins _|exact Tm.Zj _ _|exact Am.ins _|exact Am.Zj _ _|refine Zd ?_|refine Tm.Zc ?_|refine Am.Zc ?_
    ·simp only [go_sem,simprocAttr]
     rw [IntWalk.i64_in _ (by omega)]; exact .refl _
    all_goals first | exact (Zx _).inside | exact (Xm _).inside | exact (ZB _).inside | exact Inside.ptr _ _ _ (.inl hl) | exact Inside.map _ _ (.inr ⟨rfl,rfl⟩) | exact XC | exact Xz | exact Xb (fun j hj=>by simp only [lkb]; (repeat rw [if_neg (by omega)]); try rw [lkb_setb,if_neg (by omega)]) | exact X6 (fun j hj=>by simp only [lkb]; (repeat rw [if_neg (by omega)]); rw [YB]; simp [hj]) | skip
    all_goals exact 0
   | some g0 =>
    rw [hx] at hlk
    have hls:=hne2 g0 (List.mem_of_getElem? hx)
    have hxl:ixG k gs < gs.length:=(List.getElem?_eq_some_iff.1 hx).1
    obtain ⟨x0,r0,hxr⟩:∃ x0 r0,g0.ls = x0 :: r0:=by
     cases hg:g0.ls with
     | nil=>exact absurd hg hls
     | cons a r=>exact ⟨a,r,rfl⟩
    have hev:evG n (ixG k gs,g0.ls) = .sl 1 (Zw x0 :: r0.map Zw) (.buf n (300 + ixG k gs)):=by unfold evG; simp [hxr]
    have hlk2:∀ re,lookA re (AV.str k) (Y0 AV.str (evG n) (gIx 0 gs)) false = .sl 1 (Zw x0 :: r0.map Zw) (.buf n (300 + ixG k gs)):=fun re=>by rw [hlk re,← hev]; simp
    clear hlk
    refine Za tok rfl rfl ?_
    simp only [go_sem,simprocAttr,hlk2]
    refine ⟨hkp,⟨_,rfl⟩,?_⟩
    refine Zn rfl rfl rfl ?_
    refine ZM rfl ?_
    repeat refine kn rfl ?_
    refine WH tok mixed op12 rfl rfl (by kernel_rfl) (by kernel_rfl) ?_
    simp only [go_sem,simprocAttr,op12,hlk2,hne,hbx]
    refine ⟨hkp,?_⟩
    refine ZiL (Zb Tryz.func288 rfl rfl) (fun G' hG=>by rw [ZbR hG]; exact hmap _) (by simp only [go_sem,simprocAttr]) ?_
    simp only [go_sem,simprocAttr,op12]
    refine Zf2 (Zb Tryz.func122 rfl rfl) hord (by simp only [go_sem,simprocAttr]) ?_
    simp only [go_sem,simprocAttr,op12]
    have hadd:=VD (t:=e.tuple) (c:=c) (gs:=gs) (g:=g0) (by rw [hkk]; exact hx)
    rw [hkk] at hadd
    have hbuf:lkb (YM 0 gs) (300 + ixG k gs) = some (.buf 61 1 g0.ls.length):=by rw [YB,hx]; rfl
    have hl0':g0.ls.length ≤ 1000000:=by have:=hgll g0 (List.mem_of_getElem? hx); omega
    obtain ⟨g1,hg1⟩:∃ g1,g1 = Gp.mk g0.key g0.tup (YJ g0.ls c):=⟨_,rfl⟩
    rw [← hg1] at hadd
    have hsb:=ZaL g1 gs 0 (ixG k gs) hxl
    rw [Nat.zero_add] at hsb
    have hgl1:g1.ls = YJ g0.ls c:=by rw [hg1]
    refine ⟨215,_,_,[],.sl 1 (g1.ls.map Zw) (.buf n (300 + ixG k gs)),(10,.box e.cs) :: (3,.box gb.cs) :: (16,.map []) :: (17,.map (Y0 AV.str (evG n) (gIx 0 gs))) :: (18,.map (Y0 AV.str JW (Vd gs))) :: (200,.buf 9 1 gs.length) :: YM 0 (gs.set (ixG k gs) g1),G,rfl,Zb Tryz.func215 rfl rfl,?_,.refl _ _,?_⟩
    ·simp only [go_sem,simprocAttr,op12]
     have hc0:=ZnL (n + 1) (full n ((10,.box e.cs) :: (3,.box gb.cs) :: (16,.map []) :: (17,.map (Y0 AV.str (evG n) (gIx 0 gs))) :: (18,.map (Y0 AV.str JW (Vd gs))) :: (200,.buf 9 1 gs.length) :: YM 0 gs) G) n (300 + ixG k gs) g0.ls c (Nat.lt_succ_self n) (Nat.succ_pos _) (hT.full hn) hcl hl0' (by simp only [full,if_true,lkb]; (repeat rw [if_neg (by omega)]); exact hbuf) hls
     rw [hxr,List.map_cons,← hxr,← hgl1] at hc0
     refine Zr.mono hc0 ?_
     rintro r H1 ⟨rfl,rfl⟩
     refine ⟨rfl,?_⟩
     rw [← ZU]
     congr 1
     simp only [setb]
     (repeat rw [if_neg (by omega)])
     rw [hsb]
     rfl
    simp only [go_sem,simprocAttr,op12]
    have hput3:=Za1 kinj_str (evG n) k (ixG k gs,g1.ls) (gIx 0 gs)
    have hput4:Zbn (.str k) (.sl 1 (g1.ls.map Zw) (.buf n (300 + ixG k gs))) (Y0 AV.str (evG n) (gIx 0 gs)) = Y0 AV.str (evG n) (Xv k (ixG k gs,g1.ls) (gIx 0 gs)):=hput3
    rw [hput4]
    refine ⟨hkp,?_⟩
    have hgn:getM k (gIx 0 gs) = some (ixG k gs,g0.ls):=by rw [Zby,hx]; simp
    have hk0:g0.key = k:=ZgR hx
    have hixx:ixM k (gIx 0 gs) = ixG k gs:=by
     have:∀ (gs:List Gp) (i:Nat),ixM k (gIx i gs) = ixG k gs:=by
      intro gs
      induction gs with
      | nil=>intro i; rfl
      | cons g r ih=>intro i; simp only [gIx,ixM,ixG,ih]
     exact this gs 0
    have h1:Xv k (ixG k gs,g1.ls) (gIx 0 gs) = gIx 0 (gs.set (ixG k gs) g1):=by rw [Zca _ hgn,hixx,ZgV,Nat.zero_add,hg1,hk0]
    have h2:Vd gs = Vd (gs.set (ixG k gs) g1):=by
     unfold Vd
     rw [List.map_set,hg1]
     have:(gs.map fun g=>(g.key,g.tup))[ixG k gs]? = some (g0.key,g0.tup):=by simp [hx]
     refine (List.VQ this).symm
    have h4:gs.map Gp.key = (gs.set (ixG k gs) g1).map Gp.key:=by
     rw [List.map_set,hg1]
     have:(gs.map Gp.key)[ixG k gs]? = some g0.key:=by simp [hx]
     exact (List.VQ this).symm
    have h5:gs.length = (gs.set (ixG k gs) g1).length:=by simp
    rw [h1,h4,h5]
    rw [hadd] at hsn
    unfold ZjA
    rw [hsn]
    have h6:Y0 AV.str JW (Vd gs) = Y0 AV.str JW (Vd (gs.set (ixG k gs) g1)):=by rw [← h2]
    rw [h6]
    generalize gs.set (ixG k gs) g1 = gs' at *
    refine Za tok rfl rfl ?_
    simp only [go_sem,simprocAttr]
    refine Zt rfl ?_
    unfold ZaP Lg
    refine Zg ?_ ?_ ?_ ?_ <;> repeat' first|exact trivial|refine q0 ?_|exact qb|exact q1|exact q2|exact q3|exact rfl|refine And.intro ?_ ?_|exact qA rfl|exact Inside.ptr _ _ _ (.inr ⟨rfl,rfl⟩)|exact Tm.ins _|exact Tm.Zj _ _|exact Am.ins _|exact Am.Zj _ _|refine Zd ?_|refine Tm.Zc ?_|refine Am.Zc ?_
    ·simp only [go_sem,simprocAttr]
     rw [IntWalk.i64_in _ (by omega)]; exact .refl _
    all_goals first | exact (Zx _).inside | exact (Xm _).inside | exact (ZB _).inside | exact Inside.ptr _ _ _ (.inl hl) | exact Inside.map _ _ (.inr ⟨rfl,rfl⟩) | exact XC | exact Xz | exact Xb (fun j hj=>by simp only [lkb]; (repeat rw [if_neg (by omega)]); try rw [lkb_setb,if_neg (by omega)]) | exact X6 (fun j hj=>by simp only [lkb]; (repeat rw [if_neg (by omega)]); rw [YB]; simp [hj]) | skip
  ·have hi':i = gb.elems.length:=by omega
   subst hi'
   rw [List.take_length]
   generalize Yr M gb.elems = gs at *
   unfold ZaP Lg
   refine Za tok rfl rfl ?_
   simp only [go_sem,simprocAttr,Nat.not_lt.2 h]
   refine Zn rfl rfl rfl ?_
   refine Yh rfl rfl rfl rfl ?_
   refine Zt rfl ?_
   refine ⟨rfl,?_⟩
   refine Zg ?_ ?_ ?_ ?_ <;> repeat' first|exact trivial|refine q0 ?_|exact qb|exact q1|exact q2|exact q3|exact rfl|refine And.intro ?_ ?_|exact qA rfl|exact Inside.ptr _ _ _ (.inr ⟨rfl,rfl⟩)|exact Tm.ins _|exact Tm.Zj _ _|exact Am.ins _|exact Am.Zj _ _|refine Zd ?_|refine Tm.Zc ?_|refine Am.Zc ?_
   all_goals first | exact (Zx _).inside | exact (Xm _).inside | exact (ZB _).inside | exact Inside.ptr _ _ _ (.inl hl) | exact Inside.map _ _ (.inr ⟨rfl,rfl⟩) | exact XC | exact Xz | exact Xb (fun j hj=>by simp only [lkb]; (repeat rw [if_neg (by omega)]); try rw [lkb_setb,if_neg (by omega)]) | exact X6 (fun j hj=>by simp only [lkb]; (repeat rw [if_neg (by omega)]); rw [YB]; simp [hj]) | skip
   all_goals exact 0
 have hG:∀ g ∈ Yr M gb.elems,ZhH g:=fun g hg=>by
  have hl:=ZeV M gb.elems g hg
  refine ⟨?_,by omega,?_,?_⟩
  ·exact VH (P:=fun g=>g.tup ≠ []) (fun e he ls _ _=>(hE e he).ne) g hg
  ·exact VH (P:=fun g=>SmL g.ls) (fun e he ls _ h3=>fun x hx=>by
    obtain ⟨e',he',rfl⟩:=h3 x hx
    have h4:=ordL_len (e'.cond.map (YT M))
    rw [List.length_map] at h4
    refine ⟨by have:=(hE e' he').cl; omega,fun y hy=>?_⟩
    obtain ⟨z,_,rfl⟩:=List.mem_map.1 ((ordL_mem _ y).1 hy)
    exact Zal hsm z) g hg
  ·exact VH (P:=fun g=>g.ls ≠ []) (fun e _ ls h _=>h) g hg
 have hgl:=ZcK M gb.elems
 exact ZlS n H l b F s hl h0 hF hs hT0 gb _ hG (Zkb M _) (by omega) l0 k0 hl0 hf0 hd3 hd4 B gb.elems.length
end Go.Proofs.YthgbkalgmicniaaGreatDoor

/- Instances, step by step: elements that are literals, or aggregates that must be at least their bound. No program. -/
namespace Go.Abs
open Go.Proofs.YthgbkalgmicniaaGreatDoor
def Xp (l k:Nat) (c:Cs) (m:Int):Cnd :=
 if m - c.base ≤ 0 then .con true else if Xi c.w < m - c.base then .con false else .pend l k c.w (m - c.base)
def ZbH (M:List (List UInt8 × Int)) (n:Nat) (p:List Cnd × St) (b:GB):List Cnd × St :=
 if b.kind = 1 then (p.1 ++ [.lit (YT M b.lit)],p.2)
 else (p.1 ++ [Xp n (1000 + p.1.length) (Yf b.fn p.2 (Yr M b.elems)) b.bound],(Yf b.fn p.2 (Yr M b.elems)).s)
def Yb (M:List (List UInt8 × Int)) (n:Nat) (s:St) (l:List GB):List Cnd × St:=l.foldl (ZbH M n) ([],s)
theorem Zaf (M:List (List UInt8 × Int)) (n:Nat) (s:St) (l:List GB) (b:GB):Yb M n s (l ++ [b]) = ZbH M n (Yb M n s l) b:=by simp [Yb]
theorem Za5 (M:List (List UInt8 × Int)) (n:Nat) (s:St) (l:List GB):(Yb M n s l).1.length = l.length:=by
 induction l using WU with
 | nil=>rfl
 | snoc p e ih =>
  rw [Zaf,ZbH]
  split <;> simp [ih]
def pendL:List Cnd → List (Nat × Zk)
 | []=>[]
 | .pend _ k w _ :: r=>(k,.map (Y3 w)) :: pendL r
 | .lit _ :: r=>pendL r
 | .con _ :: r=>pendL r
def AtC (n o:Nat):Cnd → Prop
 | .lit x=>SmI x
 | .con _=>True
 | .pend l k w _=>l = n ∧ k = 1000 + o ∧ WOk w
def Ji (n:Nat):Nat → List Cnd → Prop
 | _,[]=>True
 | o,c :: r=>AtC n o c ∧ Ji n (o + 1) r
theorem pendL_append:∀ (p q:List Cnd),pendL (p ++ q) = pendL p ++ pendL q
 | [],q=>rfl
 | .pend _ _ _ _ :: r,q=>by simp only [List.cons_append,pendL,pendL_append r q]
 | .lit _ :: r,q=>by simp only [List.cons_append,pendL,pendL_append r q]
 | .con _ :: r,q=>by simp only [List.cons_append,pendL,pendL_append r q]
theorem Jc {n:Nat} {c:Cnd}:∀ {p:List Cnd} {o:Nat},Ji n o p → AtC n (o + p.length) c → Ji n o (p ++ [c])
 | [],o,_,hc=>⟨hc,trivial⟩
 | a :: r,o,h,hc=>⟨h.1,Jc h.2 (by rw [List.length_cons] at hc; rwa [show o + 1 + r.length = o + (r.length + 1) by omega])⟩
theorem VL {n:Nat} {c:Cnd}:∀ {p:List Cnd} {o:Nat},Ji n o p → c ∈ p → ∃ j,o ≤ j ∧ j < o + p.length ∧ AtC n j c
 | a :: r,o,h,hc=>by
  rcases List.mem_cons.1 hc with rfl | hc
  ·exact ⟨o,Nat.le_refl _,by simp,h.1⟩
  ·obtain ⟨j,h1,h2,h3⟩:=VL h.2 hc
   exact ⟨j,by omega,by simp only [List.length_cons]; omega,h3⟩
theorem ZbF {n l k:Nat} {w:Wm} {m:Int}:∀ {p:List Cnd} {o:Nat},Ji n o p → Cnd.pend l k w m ∈ p → lkb (pendL p) k = some (.map (Y3 w))
 | a :: r,o,h,hc=>by
  rcases List.mem_cons.1 hc with hc | hc
  ·subst hc; simp [pendL,lkb]
  ·obtain ⟨j,h1,_,h3⟩:=VL h.2 hc
   have ih:=ZbF h.2 hc
   cases a with
   | lit x=>exact ih
   | con x=>exact ih
   | pend l' k' w' m' =>
    have h4:=h.1.2.1
    have h5:=h3.2.1
    simp only [pendL,lkb]
    rw [if_neg (by omega)]; exact ih
theorem Zbx {n k:Nat} (hk:k < 1000):∀ {p:List Cnd} {o:Nat},Ji n o p → lkb (pendL p) k = none
 | [],_,_=>rfl
 | a :: r,o,h=>by
  have ih:=Zbx hk h.2
  cases a with
  | lit x=>exact ih
  | con x=>exact ih
  | pend l' k' w' m' =>
   have h4:=h.1.2.1
   simp only [pendL,lkb]
   rw [if_neg (by omega)]; exact ih
theorem Zbr {n:Nat}:∀ {p:List Cnd} {o:Nat},Ji n o p → ∀ j,o + p.length ≤ j → lkb (pendL p) (1000 + j) = none
 | [],_,_,_,_=>rfl
 | a :: r,o,h,j,hj=>by
  rw [List.length_cons] at hj
  have ih:=Zbr h.2 j (by omega)
  cases a with
  | lit x=>exact ih
  | con x=>exact ih
  | pend l' k' w' m' =>
   have h4:=h.1.2.1
   simp only [pendL,lkb]
   rw [if_neg (by omega)]; exact ih
theorem ZaM {n:Nat} (x:Zk):∀ {p:List Cnd} {o:Nat},Ji n o p → ∀ j,o + p.length ≤ j → setb (pendL p) (1000 + j) x = pendL p ++ [(1000 + j,x)]
 | [],_,_,_,_=>rfl
 | a :: r,o,h,j,hj=>by
  rw [List.length_cons] at hj
  have ih:=ZaM x h.2 j (by omega)
  cases a with
  | lit x=>exact ih
  | con x=>exact ih
  | pend l' k' w' m' =>
   have h4:=h.1.2.1
   simp only [pendL,setb]
   rw [if_neg (by omega),ih]; rfl
theorem Jg {n:Nat} {q:Nat × Zk}:∀ {p:List Cnd} {o:Nat},Ji n o p → q ∈ pendL p → ∃ w,q.2 = .map (Y3 w) ∧ ∃ l m,Cnd.pend l q.1 w m ∈ p
 | a :: r,o,h,hq=>by
  cases a with
  | lit x=>obtain ⟨w,h1,l,m,h2⟩:=Jg h.2 hq; exact ⟨w,h1,l,m,List.mem_cons_of_mem _ h2⟩
  | con x=>obtain ⟨w,h1,l,m,h2⟩:=Jg h.2 hq; exact ⟨w,h1,l,m,List.mem_cons_of_mem _ h2⟩
  | pend l' k' w' m' =>
   simp only [pendL,List.mem_cons] at hq
   rcases hq with rfl | hq
   ·exact ⟨w',rfl,l',m',List.mem_cons_self⟩
   ·obtain ⟨w,h1,l,m,h2⟩:=Jg h.2 hq; exact ⟨w,h1,l,m,List.mem_cons_of_mem _ h2⟩
def ZdU (gs:List Gp):Nat:=(gs.map fun g=>g.ls.length + 1).sum
theorem ZiM {gs:List Gp} {i:Nat} {g0 g1:Gp} (h:gs[i]? = some g0) (h1:g1.ls.length ≤ g0.ls.length + 1):ZdU (gs.set i g1) ≤ ZdU gs + 1:=by
 induction gs generalizing i with
 | nil=>simp at h
 | cons a r ih =>
  cases i with
  | zero =>
   simp only [List.getElem?_cons_zero,Option.some.injEq] at h
   subst h
   simp only [List.set_cons_zero,ZdU,List.map_cons,List.sum_cons]; omega
  | succ i =>
   have:=ih (i:=i) (by simpa using h)
   simp only [List.set_cons_succ,ZdU,List.map_cons,List.sum_cons] at *; omega
theorem ZhP (M:List (List UInt8 × Int)) (l:List GE):ZdU (Yr M l) ≤ 2 * l.length:=by
 induction l using WU with
 | nil=>simp [Yr,ZdU]
 | snoc p e ih =>
  rw [Vw,List.length_append,List.length_singleton]
  cases hx:(Yr M p)[ixG (keyE e.tuple) (Yr M p)]? with
  | none =>
   rw [(VK hx).1]
   simp only [ZdU,List.map_append,List.sum_append,List.map_cons,List.map_nil,List.sum_cons,List.sum_nil,List.length_singleton] at *; omega
  | some g0 =>
   rw [VD hx]
   have:=ZiM (g1:=⟨g0.key,g0.tup,YJ g0.ls (Y5 (e.cond.map (YT M)))⟩) hx (ZaJ _ _)
   omega
theorem Zf4 {fn:Int} {c:Cs} {g:Gp} {k:Int} (h:c.s.Fit k):(XE fn c g).s.Fit (k + ((g.ls.length + 1:Nat):Int)):=by
 unfold XE
 split
 ·exact h.bad.mono (by omega)
 split
 ·exact h.mono (by omega)
 split
 ·exact h.mono (by omega)
 ·exact (Zds _ h).mono (by omega)
theorem ZhW {fn:Int} {s:St} {k:Int} (h:s.Fit k) (gs:List Gp):(Yk fn s gs).s.Fit (k + (ZdU gs:Nat)):=by
 induction gs using WU with
 | nil=>simpa [Yk,ZdU] using h
 | snoc p g ih =>
  rw [Za0]
  have:=Zf4 (fn:=fn) (g:=g) ih
  simp only [ZdU,List.map_append,List.sum_append,List.map_cons,List.map_nil,List.sum_cons,List.sum_nil] at *
  exact this.mono (by omega)
theorem ZeN {fn:Int} {s:St} {k:Int} (h:s.Fit k) (M:List (List UInt8 × Int)) (l:List GE):(Yf fn s (Yr M l)).s.Fit (k + 2 * (l.length:Int)):=by
 have h1:=ZhP M l
 have h2:=(ZhW (fn:=fn) h (Yr M l)).mono (k':=k + 2 * (l.length:Int)) (by omega)
 unfold Yf
 split
 ·exact h2.bad
 ·exact h2
end Go.Abs
namespace Go.Proofs.YthgbkalgmicniaaGreatDoor
open Go.Abs
theorem Zkj {M:List (List UInt8 × Int)} (hsm:SmN M) {l:List GE} (hE:∀ e ∈ l,EOk e) (hel:l.length ≤ 400):∀ g ∈ Yr M l,ZhH g:=fun g hg=>by
 have hl:=ZeV M l g hg
 refine ⟨?_,by omega,?_,?_⟩
 ·exact VH (P:=fun g=>g.tup ≠ []) (fun e he ls _ _=>(hE e he).ne) g hg
 ·exact VH (P:=fun g=>SmL g.ls) (fun e he ls _ h3=>fun x hx=>by
   obtain ⟨e',he',rfl⟩:=h3 x hx
   have h4:=ordL_len (e'.cond.map (YT M))
   rw [List.length_map] at h4
   refine ⟨by have:=(hE e' he').cl; omega,fun y hy=>?_⟩
   obtain ⟨z,_,rfl⟩:=List.mem_map.1 ((ordL_mem _ y).1 hy)
   exact Zal hsm z) g hg
 ·exact VH (P:=fun g=>g.ls ≠ []) (fun e _ ls h _=>h) g hg
theorem Za3 {M:List (List UInt8 × Int)} (hsm:SmN M) {l:List GE} (hE:∀ e ∈ l,EOk e) (hel:l.length ≤ 400) {fn:Int} {s:St} (hs:s.Fit 300000) :
  WOk (Yf fn s (Yr M l)).w ∧ (0 ≤ (Yf fn s (Yr M l)).base ∧ (Yf fn s (Yr M l)).base ≤ 419430400) ∧ (0 ≤ Xi (Yf fn s (Yr M l)).w ∧ Xi (Yf fn s (Yr M l)).w ≤ 167772160000):=by
 have hgl:=ZcK M l
 have hci:=Zd2 (fn:=fn) hs (Yr M l) (Zkj hsm hE hel) (by omega)
 have hwk:=hci.wok (by omega)
 have htb:0 ≤ Xi (Yk fn s (Yr M l)).w ∧ Xi (Yk fn s (Yr M l)).w ≤ 167772160000:=by
  have h1:=ZgI (p:=(Yk fn s (Yr M l)).w.map Prod.snd) (c:=419430400) (fun x hx=>by
   obtain ⟨p,hp,rfl⟩:=List.mem_map.1 hx
   have:=(hci.w p hp).2
   omega)
  have h2:(((Yk fn s (Yr M l)).w.map Prod.snd).length:Int) ≤ 400:=by rw [List.length_map]; have:=hci.l; omega
  have h3:=Int.mul_le_mul_of_nonneg_right h2 (show (0:Int) ≤ 419430400 by decide)
  unfold Xi
  exact ⟨h1.1,by omega⟩
 have hcb:=hci.b
 have hb:0 ≤ (Yk fn s (Yr M l)).base ∧ (Yk fn s (Yr M l)).base ≤ 419430400:=by omega
 unfold Yf
 split
 ·exact ⟨hwk,hb,htb⟩
 ·exact ⟨hwk,hb,htb⟩
end Go.Proofs.YthgbkalgmicniaaGreatDoor
namespace Go.Abs
open Go.Proofs.YthgbkalgmicniaaGreatDoor
structure BOk (b:GB):Prop where
 g:b.Good
 k:b.kind = 1 ∨ (b.kind = 3 ∧ b.op = 6 ∧ b.no = false)
 el:b.elems.length ≤ 400
 e:b.kind = 3 → ∀ e ∈ b.elems,EOk e
 bd:b.kind = 3 → -2147483647 ≤ b.bound ∧ b.bound ≤ 2147483647
def V4 (l:List GB):Nat:=(l.map fun b=>2 * b.elems.length).sum
theorem Zgc (l:List GB) (b:GB):V4 (l ++ [b]) = V4 l + 2 * b.elems.length:=by simp [V4]
theorem Zed {M:List (List UInt8 × Int)} (hsm:SmN M) {n:Nat} {s:St} {k:Int} (hs:s.Fit k):∀ {l:List GB},(∀ b ∈ l,BOk b) → k + (V4 l:Nat) ≤ 300000 →
  Ji n 0 (Yb M n s l).1 ∧ (Yb M n s l).2.Fit (k + (V4 l:Nat)):=by
 intro l
 induction l using WU with
 | nil=>intro _ _; exact ⟨trivial,by simpa [Yb,V4] using hs⟩
 | snoc p b ih =>
  intro hb hk
  rw [Zgc] at hk ⊢
  obtain ⟨h1,h2⟩:=ih (fun x hx=>hb x (by simp [hx])) (by omega)
  have hb:=hb b (by simp)
  rw [Zaf,ZbH]
  split
  ·exact ⟨Jc h1 (Zal hsm _),h2.mono (by omega)⟩
  ·rename_i hk1
   have hk3:b.kind = 3:=by rcases hb.k with h | h; exact absurd h hk1; exact h.1
   have hel:=hb.el
   obtain ⟨hw,_,_⟩:=Za3 (fn:=b.fn) hsm (hb.e hk3) hb.el (h2.mono (by omega))
   refine ⟨Jc h1 ?_,(ZeN h2 M b.elems).mono (by omega)⟩
   unfold Xp
   split
   ·trivial
   split
   ·trivial
   ·exact ⟨rfl,by rw [Nat.zero_add],hw⟩
structure Pen where
 key:List UInt8
 weight:Int
 level:Int
 tup:List Tm
 body:LInt
def ZkY (x:Ins):List UInt8:=((((((Lib.itoa x.weight ++ [64]) ++ Lib.itoa x.level) ++ [58]) ++ Lib.itoa (x.tuple.length:Int)) ++ [58]) ++ ZaH x.tuple)
def Ins.pen (x:Ins) (body:LInt):Pen:=⟨ZkY x,x.weight,x.level,x.tuple,body⟩
def ZcT (M:List (List UInt8 × Int)) (x:Ins):List Int:=Y5 (x.heads.map (numOf M))
def Zcf (M:List (List UInt8 × Int)) (n:Nat) (s:St) (x:Ins):List Cnd:=Xf (Yb M n s x.body).1
def Zba (M:List (List UInt8 × Int)) (n:Nat) (s:St) (x:Ins):St :=
 if (Yb M n s x.body).1.any isNo = true then (Yb M n s x.body).2
 else if x.kind = 1 then (Yb M n s x.body).2.emit (ZcT M x) (Zcf M n s x)
 else if x.kind = 2 then (Yb M n s x.body).2.choice x (ZcT M x) (Zcf M n s x)
 else if 0 < x.weight then ((Yb M n s x.body).2.lits (Zcf M n s x)).2 else (Yb M n s x.body).2
def ZaK (M:List (List UInt8 × Int)) (n:Nat) (s:St) (x:Ins):Option Pen :=
 if (Yb M n s x.body).1.any isNo = true then none
 else if x.kind = 1 then none else if x.kind = 2 then none
 else if 0 < x.weight then some (x.pen ((Yb M n s x.body).2.lits (Zcf M n s x)).1) else none
end Go.Abs

/- The conditions of an aggregate that must be at least its bound: the walk. -/
namespace Go.Proofs.YthgbkalgmicniaaGreatDoor
open Go.Abs
set_option maxRecDepth 100000
theorem ZaZ {l k n:Nat} {c:Cs} {m:Int} (h:l < n):Below n (Xp l k c m).enc:=by
 unfold Xp
 split
 ·exact .ifc _ _ (.bool _)
 split
 ·exact .ifc _ _ (.bool _)
 ·refine .ifc _ _ (YL ?_)
  intro c hc
  simp only [List.mem_cons,List.not_mem_nil,or_false] at hc
  rcases hc with rfl | rfl
  ·exact .map _ _ h
  ·exact .int _ _
theorem Zm3 (n:Nat) (H:Zf) (lw kw:Nat) (c:Cs) (m:Int) (hlw:lw < n) (hH:H lw kw = some (.map (Y3 c.w))) (hw:SmW c.w) (hb:0 ≤ c.base ∧ c.base ≤ 419430400) (hm:-2147483648 ≤ m ∧ m ≤ 2147483648) :
  PC Tryz.prog n 198 [.int .i64 m,.ZA [.int .i64 c.base],.ZA [.map lw kw]] H (Xp lw kw c m).enc:=by
 have hne:¬ lw = n:=by omega
 have hbl:=ZaZ (k:=kw) (c:=c) (m:=m) hlw
 have hw1:IntKind.i64.wrap (m - c.base) = m - c.base:=by rw [IntWalk.i64_in _ (by omega)]
 refine Zm tok (Zb Tryz.func198 rfl rfl) (by simp) fun B=>?_
 refine Za tok rfl rfl ?_
 simp only [go_sem,simprocAttr]
 refine Za tok rfl rfl ?_
 simp only [go_sem,simprocAttr,hw1]
 refine Za tok rfl rfl ?_
 simp only [go_sem,simprocAttr]
 by_cases h1:m - c.base ≤ 0
 ·refine Zp rfl rfl (by simp only [go_sem,simprocAttr,h1]) ?_
  refine Za tok rfl rfl ?_
  simp only [go_sem,simprocAttr]
  refine Zi rfl rfl ?_
  refine Ze ?_ hbl rfl
  simp only [go_sem,simprocAttr,Xp,h1,if_true,ZaB]
  exact .refl _
 ·refine Zn rfl rfl (by simp only [go_sem,simprocAttr,h1]) ?_
  refine Za tok rfl rfl ?_
  simp only [go_sem,simprocAttr]
  refine XZ (Zb Tryz.func137 rfl rfl) (Zle (n + 1) _ lw kw c.w (show lw < n + 1 by omega) hw (by show full n _ H lw kw = _; rw [ZL hlw]; exact hH)) (by simp only [go_sem,simprocAttr]) ?_
  simp only [go_sem,simprocAttr]
  by_cases h2:Xi c.w < m - c.base
  ·refine Zp rfl rfl (by simp only [go_sem,simprocAttr,h2]) ?_
   refine Za tok rfl rfl ?_
   simp only [go_sem,simprocAttr]
   refine Zi rfl rfl ?_
   refine Ze ?_ hbl rfl
   simp only [go_sem,simprocAttr,Xp,h1,h2,if_true,if_false,ZaB]
   exact .refl _
  ·refine Zn rfl rfl (by simp only [go_sem,simprocAttr,h2]) ?_
   refine ZM rfl ?_
   refine Za tok rfl rfl ?_
   simp only [go_sem,simprocAttr,td263]
   refine Zi rfl rfl ?_
   refine Ze ?_ hbl rfl
   simp only [go_sem,simprocAttr,Xp,h1,h2,if_false,VT]
   exact .refl _
theorem Zhf (c:Cnd):c.enc.one = true:=by cases c <;> rfl
abbrev Zak (c:Cs) (lw kw:Nat):List AV:=[.ZA [.int .i64 c.base],.ZA [.map lw kw]]
theorem Znk (n:Nat) (H:Zf) (lw kw:Nat) (c:Cs) (m:Int) (hlw:lw < n) (hH:H lw kw = some (.map (Y3 c.w))) (hw:SmW c.w) (hb:0 ≤ c.base ∧ c.base ≤ 419430400) (hm:-2147483648 ≤ m ∧ m ≤ 2147483648) :
  PC Tryz.prog n 204 [.ZA [.fn (.func 198) (Zak c lw kw)],.ZA [.int .i64 m]] H (.sl 1 ([Xp lw kw c m].map Cnd.enc) .any):=by
 have hne:¬ lw = n:=by omega
 refine Zm tok (Zb Tryz.func204 rfl rfl) (by simp) fun B=>?_
 refine Za tok rfl rfl ?_
 simp only [go_sem,simprocAttr]
 refine Za tok rfl rfl ?_
 simp only [go_sem,simprocAttr]
 refine Xk (caps:=Zak c lw kw) (avs:=[.int .i64 m]) rfl (Zb Tryz.func198 rfl rfl) (Zm3 (n + 1) (full n [] H) lw kw c m (show lw < n + 1 by omega) (by rw [ZL hlw]; exact hH) hw hb hm) (by simp only [go_sem,simprocAttr]) ?_
 rintro r H1 ⟨rfl,rfl⟩
 refine ⟨[],H,rfl,.refl _ _,?_⟩
 simp only [go_sem,simprocAttr]
 refine ⟨⟨rfl,Zhf _⟩,?_⟩
 refine Zi rfl rfl ?_
 refine Ze ?_ (ZK fun x hx=>by simp only [List.map_cons,List.map_nil,List.mem_singleton] at hx; subst hx; exact ZaZ hlw) rfl
 simp only [go_sem,simprocAttr]
 exact .any _ _ _
theorem Zjq {n l b:Nat} {F:Fr} {H:Zf} (hF:F.bel n) (hl:l < n) (s s':St) (l0 k0:Nat) {x:Zk} (hx:x.Below n) (h1:¬(l0 = l ∧ k0 = b)) (h2:¬(l0 = l ∧ k0 = b + 1)):Z5 n (bxH H l b F s) (bxH (H.upd l0 k0 x) l b F s'):=fun l' k' y hy hb=>by
 by_cases c1:l' = l ∧ k' = b
 ·obtain ⟨rfl,rfl⟩:=c1
  rw [bxH_box] at hb; cases hb
  exact .inr (XD hF hl s')
 by_cases c2:l' = l ∧ k' = b + 1
 ·obtain ⟨rfl,rfl⟩:=c2
  rw [bxH_rules] at hb; cases hb
  exact .inr (Vz s')
 rw [Xt c1 c2] at hb ⊢
 by_cases c3:l' = l0 ∧ k' = k0
 ·rw [c3.1,c3.2,Zf.upd_same] at hb; cases hb; exact .inr hx
 ·rw [Zf.upd_ne _ _ c3] at hb; exact .inl hb
theorem Znc (n:Nat) (H:Zf) (l b:Nat) (F:Fr) (s:St) (hl:l < n) (h0:0 < l) (hF:F.bel n) (hs:s.Fit 300000) (lm km:Nat) (M:List (List UInt8 × Int)) (hnum:F.num = .map lm km) (hlm:lm < n) (hd1:¬(lm = l ∧ km = b)) (hd2:¬(lm = l ∧ km = b + 1))
  (hM:H lm km = some (.map (Vl M))) (hsm:SmN M) (hT0:Tabs H) (gb:GB) (hE:∀ e ∈ gb.elems,EOk e) (hel:gb.elems.length ≤ 400) (hop:gb.op = 6) (hno:gb.no = false) (hbd:-2147483647 ≤ gb.bound ∧ gb.bound ≤ 2147483647)
  (l0 k0:Nat) (hl0:l0 < n) (hf0:H l0 k0 = none) (hd3:¬(l0 = l ∧ k0 = b)) (hd4:¬(l0 = l ∧ k0 = b + 1)) :
  Zr Tryz.prog n 120 [.ptr l b 0,gb.enc] (bxH H l b F s) fun r H'=>r = .sl 1 ([Xp l0 k0 (Yf gb.fn s (Yr M gb.elems)) gb.bound].map Cnd.enc) .any ∧
   H' = bxH (H.upd l0 k0 (.map (Y3 (Yf gb.fn s (Yr M gb.elems)).w))) l b F (Yf gb.fn s (Yr M gb.elems)).s:=by
 have hne:¬ l = n:=by omega
 have hn:0 < n:=by omega
 obtain ⟨hwo,hcb,htb⟩:=Za3 (fn:=gb.fn) hsm hE hel hs
 refine Zm tok (Zb Tryz.func120 rfl rfl) (by simp) fun B=>?_
 refine Za tok rfl rfl ?_
 simp only [go_sem,simprocAttr]
 refine Za tok rfl rfl ?_
 simp only [go_sem,simprocAttr]
 have hcol:=fun L=>ZnJ (n + 1) (full n L H) l b F s (by omega) h0 (hF.mono (Nat.le_succ n)) hs lm km M hnum (by omega) hd1 hd2 (by rw [ZL hlm]; exact hM) hsm (hT0.full hn) gb hE hel l0 k0 (by omega) (by rw [ZL hl0]; exact hf0) hd3 hd4
 generalize Yf gb.fn s (Yr M gb.elems) = c at *
 refine Xk (caps:=[]) (avs:=[.ptr l b 0,gb.enc]) rfl (Zb Tryz.func197 rfl rfl) (by rw [Yz hne]; exact hcol _) (by simp only [go_sem,simprocAttr]) ?_
 rintro r H1 ⟨rfl,rfl⟩
 refine ⟨_,bxH (H.upd l0 k0 (.map (Y3 c.w))) l b F c.s,by rw [Yz hne,XI _ _ _ _ _ _ (show l0 ≠ n by omega)],Zjq hF hl _ _ _ _ (Yc _) hd3 hd4,?_⟩
 simp only [go_sem,simprocAttr]
 have hb3:∀ q,Zk.Inside n q (.box gb.cs):=fun q=>Zk.Zcn gb.bcs.mem
 have hbp:∀ q,Zk.Inside n q (.box [.ptr l b 0]):=fun q=>Zk.ZG ⟨Inside.ptr _ _ _ (.inl hl),trivial⟩
 have hc1:∀ q,Inside n q (.ZA [.int .i64 c.base]):=fun q=>(Yd (n:=n) (show Yj (fun x=>Below n x) [.int .i64 c.base] from ⟨.int _ _,trivial⟩)).inside
 have hc2:∀ q,Inside n q (.ZA [.map l0 k0]):=fun q=>(Yd (n:=n) (show Yj (fun x=>Below n x) [.map l0 k0] from ⟨.map _ _ hl0,trivial⟩)).inside
 have hf1:Below n (.fn (.func 198) (Zak c l0 k0)):=VW ⟨Yd ⟨.int _ _,trivial⟩,Yd ⟨.map _ _ hl0,trivial⟩,trivial⟩
 have hf2:Below n (.ZA [.fn (.func 198) (Zak c l0 k0)]):=Yd ⟨hf1,trivial⟩
 repeat refine kn rfl ?_
 refine Ym 5 [.int .i64 c.base] [(6,.ptr n 6 0),(5,.ZA [.int .i64 c.base]),(3,.ptr n 3 0),(2,.ptr n 2 0)] rfl ⟨.int _ _,trivial⟩
  ⟨.inl ⟨.refl _,Y4 (by decide)⟩,.inr ⟨0,rfl,rfl⟩,.inl ⟨.refl _,Y4 (by decide)⟩,.inl ⟨.refl _,Y4 (by decide)⟩,trivial⟩ ⟨hbp _,hb3 _,Zk.ZG ⟨Inside.map _ _ (.inl hl0),trivial⟩,trivial⟩ ?_
 simp only [go_sem,simprocAttr]
 refine Ym 6 [.map l0 k0] [(6,.ZA [.map l0 k0]),(5,.ZA [.int .i64 c.base]),(3,.ptr n 3 0),(2,.ptr n 2 0)] rfl ⟨Inside.map _ _ (.inl hl0),trivial⟩
  ⟨.inr ⟨0,rfl,rfl⟩,.inl ⟨.refl _,hc1 _⟩,.inl ⟨.refl _,Y4 (by decide)⟩,.inl ⟨.refl _,Y4 (by decide)⟩,trivial⟩ ⟨hbp _,hb3 _,trivial⟩ ?_
 simp only [go_sem,simprocAttr]
 refine Za tok rfl rfl ?_
 simp only [go_sem,simprocAttr]
 repeat refine kn rfl ?_
 refine Ym 7 [.fn (.func 198) (Zak c l0 k0)] [(7,.ZA [.fn (.func 198) (Zak c l0 k0)]),(3,.ptr n 3 0),(2,.ptr n 2 0)] rfl ⟨hf1.inside,trivial⟩
  ⟨.inr ⟨0,rfl,rfl⟩,.inl ⟨.refl _,Y4 (by decide)⟩,.inl ⟨.refl _,Y4 (by decide)⟩,trivial⟩ ⟨hbp _,hb3 _,trivial⟩ ?_
 simp only [go_sem,simprocAttr]
 refine Za tok rfl rfl ?_
 simp only [go_sem,simprocAttr]
 repeat refine kn rfl ?_
 refine Ym 8 [.int .i64 gb.bound] [(8,.ZA [.int .i64 gb.bound]),(7,.ZA [.fn (.func 198) (Zak c l0 k0)]),(3,.ptr n 3 0),(2,.ptr n 2 0)] rfl ⟨.int _ _,trivial⟩
  ⟨.inr ⟨0,rfl,rfl⟩,.inl ⟨.refl _,hf2.inside⟩,.inl ⟨.refl _,Y4 (by decide)⟩,.inl ⟨.refl _,Y4 (by decide)⟩,trivial⟩ ⟨hbp _,hb3 _,trivial⟩ ?_
 simp only [go_sem,simprocAttr]
 obtain ⟨re,hre,hsz⟩:∃ re,Zff tt 267 = some (7,re) ∧ re.size = 1:=⟨_,rfl,rfl⟩
 refine Za tok rfl rfl ?_
 simp only [go_sem,simprocAttr,hre,hsz,List.take_succ_cons,List.take_zero,List.drop_succ_cons,List.drop_zero,List.cons_append,List.nil_append]
 have hsl:sliceOf tt 267 = none:=rfl
 refine Za tok rfl rfl ?_
 simp only [go_sem,simprocAttr,hop,hsl,hre,hsz]
 have hHx:bxH (H.upd l0 k0 (.map (Y3 c.w))) l b F c.s l0 k0 = some (.map (Y3 c.w)):=by rw [Xt hd3 hd4,Zf.upd_same]
 refine Xk (caps:=[.ZA [.fn (.func 198) (Zak c l0 k0)],.ZA [.int .i64 gb.bound]]) (avs:=[]) rfl (Zb Tryz.func204 rfl rfl) (Znk (n + 1) _ l0 k0 c gb.bound (show l0 < n + 1 by omega) (by rw [ZL hl0]; exact hHx) hwo.sm hcb (by omega)) (by simp only [go_sem,simprocAttr]) ?_
 rintro r H1 ⟨rfl,rfl⟩
 refine ⟨_,bxH (H.upd l0 k0 (.map (Y3 c.w))) l b F c.s,rfl,.refl _ _,?_⟩
 simp only [go_sem,simprocAttr]
 refine Za tok rfl rfl ?_
 simp only [go_sem,simprocAttr,hno]
 refine Zp rfl rfl rfl ?_
 refine Za tok rfl rfl ?_
 simp only [go_sem,simprocAttr]
 refine Zi rfl rfl ?_
 exact ZP (.refl _) (ZK fun x hx=>by simp only [List.map_cons,List.map_nil,List.mem_singleton] at hx; subst hx; exact ZaZ hl0) ⟨rfl,rfl⟩
end Go.Proofs.YthgbkalgmicniaaGreatDoor

/- A region whose last step writes a new own pointer into a map below: the new slot is given down behind it. No program, no condition. -/
namespace Go.Abs
structure Zmm (B n N l1 q1:Nat) (s:Zh) (E:Env) (a:Act) (w:World):Prop where
 size:a.tmps.size = N
 defs:Zcu B E a.defers w
 tmps:∀ t,VR E (lkv s.tmps t) (a.tmps.getD t undef)
 heap:ZJ (n + 1) (full n s.L s.H) E w
 out:∀ x y b,x < n → ¬(x = l1 ∧ y = q1) → s.H x y = some b → b.Below n
def Zlm (n N l1 q1:Nat) (s s':Zh):Prop:=∀ B E w a,Zmm B n N l1 q1 s E a w → ∃ E',WZ B n N s' E' a w ∧ Ext n E w E' w
theorem Zh0 {n N:Nat} {tm tm':List (Nat × AV)} {L:List (Nat × Zk)} {H:Zf} {b b1:Zk} (j l k l1 q1:Nat) (hl:l < n) (hl1:l1 < n) (hfree:H l k = none) (hj:lkb L j = some b) (hb:b.Below n)
  (h1:∀ p ∈ tm',Zew n j (lkv tm p.1) ∧ Wk (ren n j l k (lkv tm p.1)) p.2) (hL:∀ p ∈ delb L j,(∀ a ∈ p.2.avs,Zew n j a) ∧ (∀ q ∈ p.2.at_,¬(q.1 = n ∧ q.2 = j)) ∧ p.2.isRec = false)
  (hb1:H l1 q1 = some b1) (ht1:∀ a ∈ b1.avs,Zew n j a) (hat1:b1.at_ = []) (hr1:b1.isRec = false) (hbl1:(b1.WI (ren n j l k)).Below n) :
  Zlm n N l1 q1 ⟨tm,L,H⟩ ⟨tm',JU n j l k L,(H.upd l k b).upd l1 q1 (b1.WI (ren n j l k))⟩:=fun B E w a hs=>by
 have h:=hs.heap
 have hne:l ≠ n:=by omega
 have hne1:l1 ≠ n:=by omega
 have hnk:¬(l = l1 ∧ k = q1):=fun c=>by rw [c.1,c.2,hb1] at hfree; cases hfree
 have hnk':¬(l1 = l ∧ q1 = k):=fun c=>hnk ⟨c.1.symm,c.2.symm⟩
 have hnj:¬(l1 = n ∧ q1 = j):=fun c=>hne1 c.1
 obtain ⟨hm0,hg0,hh0⟩:=h.dom l k (by omega) (by simp only [full,if_neg hne]; exact hfree)
 have hmx:∀ x y,(E.swap n j l k).m x y = E.m (sw n j l k x y).1 (sw n j l k x y).2:=fun _ _=>rfl
 have hgx:∀ x y,(E.swap n j l k).g x y = E.g (sw n j l k x y).1 (sw n j l k x y).2:=fun _ _=>rfl
 have hf:full n (JU n j l k L) ((H.upd l k b).upd l1 q1 (b1.WI (ren n j l k))) n j = none:=by
  simp only [full,if_true,JU,ZbM,lkb_delb]; rfl
 have hto:full n (JU n j l k L) ((H.upd l k b).upd l1 q1 (b1.WI (ren n j l k))) l k = some b:=by
  simp only [full,if_neg hne]; rw [Zf.upd_ne _ _ hnk,Zf.upd_same]
 have hto1:full n (JU n j l k L) ((H.upd l k b).upd l1 q1 (b1.WI (ren n j l k))) l1 q1 = some (b1.WI (ren n j l k)):=by
  simp only [full,if_neg hne1]; rw [Zf.upd_same]
 have hot:∀ x y,¬(x = n ∧ y = j) → ¬(x = l ∧ y = k) → ¬(x = l1 ∧ y = q1) → full n (JU n j l k L) ((H.upd l k b).upd l1 q1 (b1.WI (ren n j l k))) x y = if x = n then (lkb L y).map (fun b=>b.WI (ren n j l k)) else H x y:=fun x y c1 c2 c3=>by
  simp only [full]
  split
  ·rename_i e
   simp only [JU,ZbM,lkb_delb]
   rw [if_neg (fun e'=>c1 ⟨e,e'⟩)]
  ·rw [Zf.upd_ne _ _ c3,Zf.upd_ne _ _ c2]
 have hnone:∀ x y,¬(x = n ∧ y = j) → ¬(x = l ∧ y = k) → ¬(x = l1 ∧ y = q1) → full n (JU n j l k L) ((H.upd l k b).upd l1 q1 (b1.WI (ren n j l k))) x y = none → full n L H x y = none:=fun x y c1 c2 c3 e=>by
  rw [hot x y c1 c2 c3] at e
  simp only [full]
  split
  ·rename_i e'; rw [if_pos e'] at e; simpa using e
  ·rename_i e'; rw [if_neg e'] at e; exact e
 have hfn:full n L H n j = some b:=by simp only [full,if_true]; exact hj
 have hfl:full n L H l k = none:=by simp only [full,if_neg hne]; exact hfree
 have hf1:full n L H l1 q1 = some b1:=by simp only [full,if_neg hne1]; exact hb1
 refine ⟨E.swap n j l k,⟨hs.size,hs.defs.sub (fun b ho=>ho.elim (fun ⟨x,y,hm⟩=>.inl ⟨_,_,hm⟩) (fun ⟨x,y,hm⟩=>.inr ⟨_,_,hm⟩)),fun t=>?_,{ norm:=?_,F:=h.F,blk:=fun x y bb hx hbb=>?_,dom:=fun x y hx hbb=>?_,nobuf:=fun x y hg=>?_,inj:=?_,injg:=?_,mg:=?_,mF:=?_,lt:=?_ },fun x y bb hx hbb=>?_⟩,
  ⟨⟨fun _ _ _ h=>h,fun x y r hx hm=>?_,fun x y i v hx hm=>?_,rfl⟩,rfl,rfl,rfl,fun _=>Nat.le_refl _,Nat.le_refl _,fun _ _ _=>rfl,fun r _ ho=>?_⟩⟩
 ·show VR _ (lkv tm' t) _
  rcases lkv_mem (tm:=tm') (t:=t) with hd | hm
  ·rw [hd]; exact .dead _
  ·obtain ⟨q1,q2⟩:=h1 _ hm
   exact q2.vr ((hs.tmps t).ren hl hm0 hh0 q1)
 ·refine ⟨fun x y hx=>?_,fun x y hx=>?_,fun x y i hx=>?_⟩ <;> simp only [Env.swap] <;> rw [Yl (by omega) (by omega)]
  ·exact h.norm.m x y hx
  ·exact h.norm.g x y hx
  ·exact h.norm.hist x y i hx
 ·by_cases c2:x = l ∧ y = k
  ·obtain ⟨rfl,rfl⟩:=c2
   rw [hto] at hbb; cases hbb
   have:=(h.blk n j b (Nat.lt_succ_self n) hfn).ZfH (E':=E.swap n j x y) (w':=w) (l':=x) (k':=y) (fun a=>a) (by rw [hmx,JK hne]) (by rw [hgx,JK hne]) (fun i=>by simp only [Env.swap,JK hne]) (fun p hp r hr=>?_) (fun _ _=>rfl) (fun _ _ _ h=>h)
    (fun a ha v hv=>hv.swap hl hm0 hh0 ((hb.1 a ha).inside)) (fun _ _ _=>rfl)
   ·rw [Zg9 (fun _ _=>rfl)] at this; exact this
   ·have:=hb.2 p hp
    rw [hmx,Yl (by omega) (fun c=>by rw [c.1,c.2,hm0] at hr; cases hr)]; exact hr
  ·by_cases c3:x = l1 ∧ y = q1
   ·obtain ⟨rfl,rfl⟩:=c3
    rw [hto1] at hbb; cases hbb
    have e0:sw n j l k x y = (x,y):=Yl hnj c2
    refine (h.blk x y b1 hx hf1).ZfH _ (by rw [hmx,e0]) (by rw [hgx,e0]) (fun i=>by simp only [Env.swap,e0]) (fun p hp r hr=>?_) (fun _ _=>rfl) (fun _ _ _ h=>h) (fun a ha v hv=>hv.ren hl hm0 hh0 (ht1 a ha)) (fun e=>by rw [hr1] at e; cases e)
    rw [hat1] at hp; cases hp
   by_cases c1:x = n ∧ y = j
   ·obtain ⟨rfl,rfl⟩:=c1
    rw [hf] at hbb; cases hbb
   ·rw [hot x y c1 c2 c3] at hbb
    have e0:sw n j l k x y = (x,y):=Yl c1 c2
    split at hbb
    ·rename_i e; subst e
     simp only [Option.map_eq_some_iff] at hbb
     obtain ⟨b0,hb0,rfl⟩:=hbb
     have hmem:(y,b0) ∈ delb L j:=by
      have:=lkb_delb L j y
      rw [if_neg (fun e'=>c1 ⟨rfl,e'⟩),hb0] at this
      exact lkb_mem this
     obtain ⟨t1,t2,t3⟩:=hL _ hmem
     refine (h.blk x y b0 hx (by simp only [full,if_true]; exact hb0)).ZfH _ (by rw [hmx,e0]) (by rw [hgx,e0]) (fun i=>by simp only [Env.swap,e0]) (fun p hp r hr=>?_) (fun _ _=>rfl) (fun _ _ _ h=>h) (fun a ha v hv=>hv.ren hl hm0 hh0 (t1 a ha)) (fun e=>by rw [t3] at e; cases e)
     rw [hmx,Yl (t2 p hp) (fun c=>by rw [c.1,c.2,hm0] at hr; cases hr)]; exact hr
    ·rename_i e
     have hbl:=hs.out x y bb (by omega) c3 hbb
     refine (h.blk x y bb hx (by simp only [full,if_neg e]; exact hbb)).keep (by rw [hmx,e0]) (by rw [hgx,e0]) (fun i=>by simp only [Env.swap,e0]) (fun p hp r hr=>?_) (fun _ _=>rfl) (fun _ _ _ h=>h) (fun a ha v hv=>hv.swap hl hm0 hh0 (hbl.1 a ha).inside)
     have:=hbl.2 p hp
     rw [hmx,Yl (by omega) (fun c=>by rw [c.1,c.2,hm0] at hr; cases hr)]; exact hr
 ·by_cases c2:x = l ∧ y = k
  ·rw [c2.1,c2.2,hto] at hbb; cases hbb
  ·by_cases c3:x = l1 ∧ y = q1
   ·rw [c3.1,c3.2,hto1] at hbb; cases hbb
   by_cases c1:x = n ∧ y = j
   ·simp only [Env.swap,c1.1,c1.2,ZcD]; exact ⟨hm0,hg0,hh0⟩
   ·have e0:sw n j l k x y = (x,y):=Yl c1 c2
    simp only [Env.swap,e0]
    exact h.dom x y hx (hnone x y c1 c2 c3 hbb)
 ·by_cases c2:x = l ∧ y = k
  ·rw [c2.1,c2.2]
   rw [hgx,c2.1,c2.2,JK hne] at hg
   obtain ⟨b',hb',hbi⟩:=h.nobuf n j hg
   rw [hfn] at hb'; cases hb'
   exact ⟨b,hto,hbi⟩
  ·by_cases c3:x = l1 ∧ y = q1
   ·obtain ⟨rfl,rfl⟩:=c3
    rw [hgx,Yl hnj c2] at hg
    obtain ⟨b',hb',hbi⟩:=h.nobuf x y hg
    rw [hf1] at hb'; cases hb'
    refine ⟨_,hto1,?_⟩
    cases b1 <;> first | rfl | cases hbi
   by_cases c1:x = n ∧ y = j
   ·rw [hgx,c1.1,c1.2,ZcD] at hg; exact absurd hg0 hg
   ·rw [hgx,Yl c1 c2] at hg
    obtain ⟨b',hb',hbi⟩:=h.nobuf x y hg
    rw [hot x y c1 c2 c3]
    simp only [full] at hb'
    split
    ·rename_i e; rw [if_pos e] at hb'
     refine ⟨_,by rw [hb']; rfl,?_⟩
     cases b' <;> first | rfl | cases hbi
    ·rename_i e; rw [if_neg e] at hb'
     exact ⟨b',hb',hbi⟩
 ·intro x y x' y' r a1 a2
  rw [hmx] at a1 a2
  have:=h.inj _ _ _ _ _ a1 a2
  exact Ze3 hne (Prod.ext this.1 this.2)
 ·intro x y x' y' r a1 a2
  rw [hgx] at a1 a2
  have:=h.injg _ _ _ _ _ a1 a2
  exact Ze3 hne (Prod.ext this.1 this.2)
 ·intro x y x' y' r a1 a2
  rw [hmx] at a1; rw [hgx] at a2
  exact h.mg _ _ _ _ _ a1 a2
 ·intro x y r o a1
  rw [hmx] at a1
  exact h.mF _ _ _ _ a1
 ·intro r hr
  rcases hr with ⟨x,y,hm⟩ | ⟨x,y,hm⟩
  ·exact h.lt r (.inl ⟨_,_,hm⟩)
  ·exact h.lt r (.inr ⟨_,_,hm⟩)
 ·have hbb:((H.upd l k b).upd l1 q1 (b1.WI (ren n j l k))) x y = some bb:=hbb
  by_cases c3:x = l1 ∧ y = q1
  ·rw [c3.1,c3.2,Zf.upd_same] at hbb; cases hbb; exact hbl1
  ·rw [Zf.upd_ne _ _ c3] at hbb
   simp only [Zf.upd] at hbb
   split at hbb
   ·cases hbb; exact hb
   ·exact hs.out x y bb hx c3 hbb
 ·rw [hmx,Yl (by omega) (fun c=>by rw [c.1,c.2,hm0] at hm; cases hm)]; exact hm
 ·simp only [Env.swap]
  rw [Yl (by omega) (fun c=>by rw [c.1,c.2,hh0] at hm; cases hm)]; exact hm
 ·rcases ho with ⟨x,y,hm⟩ | ⟨x,y,hm⟩
  ·exact .inl ⟨_,_,hm⟩
  ·exact .inr ⟨_,_,hm⟩
theorem Wj.other {P:Program} {m n:Nat} {A:Nat → Bool} {all all':List Oper} {kd:Nat → Kd} {i:Nat} {l:List Oper} {tm tm':List (Nat × AV)} {H H':Zf} (h:Wj P m n A all kd i l tm H tm' H') (hg:∀ o ∈ l,o.guard = none):Wj P m n A all' kd i l tm H tm' H':=by
 induction h with
 | nil i tm H=>exact .nil i tm H
 | run i o r tm tm' H H1 H' v hg' h _ ih=>exact .run i o r tm tm' H H1 H' v (by unfold YD; rw [hg o (by simp)]) h (ih fun x hx=>hg x (by simp [hx]))
 | pass i o r tm tm' H H' hg' _ ih=>unfold YD at hg'; rw [hg o (by simp)] at hg'; cases hg'
theorem Wj.snoc {P:Program} {m n:Nat} {A:Nat → Bool} {all:List Oper} {kd:Nat → Kd} {i:Nat} {l:List Oper} {tm tm':List (Nat × AV)} {H H' H1:Zf} {o:Oper} {v:AV} (h:Wj P m n A all kd i l tm H tm' H') (hg:o.guard = none)
  (ho:(kd (i + l.length)).sem P m n A o (evT tm') H' v H1):Wj P m n A all kd i (l ++ [o]) tm H (YP tm' o.dst v) H1:=by
 induction h with
 | nil i tm H=>exact .run i o [] _ _ _ _ _ v (by unfold YD; rw [hg]) ho (.nil _ _ _)
 | run i o' r tm tm' H H2 H' v' hg' h _ ih=>exact .run i o' _ tm _ H H2 _ v' hg' h (ih (by rw [List.length_cons] at ho; rwa [show i + (r.length + 1) = i + 1 + r.length by omega] at ho))
 | pass i o' r tm tm' H H' hg' _ ih=>exact .pass i o' _ tm _ H _ hg' (ih (by rw [List.length_cons] at ho; rwa [show i + (r.length + 1) = i + 1 + r.length by omega] at ho))
def ZcY (cx:Cx) (o:Oper) (l1 q1:Nat) (k:List Itm) (Q:Exit → Zh → Prop) (s:Zh):Prop :=
 (evW cx.T cx.n o.op o.dst .auto (evT s.tmps) (full cx.n s.L s.H)).1 ∧ ∃ v b',(evW cx.T cx.n o.op o.dst .auto (evT s.tmps) (full cx.n s.L s.H)).2 = (v,some (l1,q1,b')) ∧
  ∃ s',Zlm cx.n cx.N l1 q1 ⟨YP s.tmps o.dst v,s.L,s.H.upd l1 q1 b'⟩ s' ∧ AKc cx k Q s'
theorem ZjG {cx:Cx} {c:Code} {k:List Itm} {Q:Exit → Zh → Prop} {s:Zh} (hT:TOK cx.P cx.T) (hm:cx.P.follows .mixedOrders = true) (op:Opt) (hop:op.dr = true) {id:Nat} {ops:Array Oper} (hc:c = .region id ops true) (hd:ZaT cx.N ops.toList = true)
  (hok:(VI ops.toList (ZaE op ops.toList) && Zdf op ops.toList) = true) (p:List Oper) (o:Oper) (hops:ops.toList = p ++ [o]) (hg:∀ x ∈ ops.toList,x.guard = none) (ho:XG op o = .w) (l1 q1:Nat) (hl1:l1 < cx.n)
  (h:Xy cx op p [] (fun _ s1=>ZcY cx o l1 q1 k Q s1) p s):AKc cx (.code c :: k) Q s:=by
 subst hc
 intro E w a hs
 obtain ⟨hok,hlay⟩:=Bool.and_eq_true_iff.1 hok
 have hkp:∀ i o',p[i]? = some o' → ZaE op ops.toList i = XG op o':=fun i o' hi=>by
  have hlt:i < p.length:=(List.getElem?_eq_some_iff.1 hi).1
  unfold ZaE
  rw [hops,List.getElem?_append_left hlt,hi]
 obtain ⟨tm',L',H',hr,hout,hk⟩:=JA (k:=[]) (Q:=fun _ s1=>ZcY cx o l1 q1 k Q s1) hT (kd:=ZaE op ops.toList) hop hkp p 0 s rfl h
 obtain ⟨hw1,v,b',hw2,s',hwx,hks⟩:ZcY cx o l1 q1 k Q ⟨tm',L',H'⟩:=hk
 have hsem:=Zd8 (P:=cx.P) hT (n:=cx.n) (am:=.auto) (o:=o) (ρ:=evT tm') (G:=full cx.n L' H') _ rfl hw1
 rw [hw2] at hsem
 have hr2:=(hr.other (all':=ops.toList) (fun x hx=>hg x (by rw [hops]; simp [hx]))).snoc (o:=o) (v:=v) (H1:=full cx.n L' (H'.upd l1 q1 b')) (hg o (by rw [hops]; simp)) (by
  have:ZaE op ops.toList (0 + p.length) = .w:=by unfold ZaE; rw [hops,Nat.zero_add]; simp [ho]
  rw [this]
  show Wi _ _ _ _ _ _ _
  rw [XI _ _ _ _ _ _ (show l1 ≠ cx.n by omega)]; exact hsem)
 rw [← hops] at hr2
 obtain ⟨T,G,V,t0,g0,t1,g1,hc⟩:=(hr2.mono (Zc1 hlay)).course
 refine wpIn_region_any hm ?_
 have hlen:ops.toList.length = ops.size:=by simp
 have hu:unl (Array.replicate ops.size false) ≤ ops.size:=by
  unfold unl; exact Nat.le_trans List.countP_le_length (by simp)
 have hL:∀ i,(Array.replicate ops.size false).getD i false = false:=fun i=>by
  rw [Array.getD_eq_getD_getElem?]
  by_cases hi:i < ops.size <;> simp [hi]
 have hva:∀ n t,va ops.toList (lkv (T 0)) V ((Array.replicate ops.size false).getD · false) n t = lkv (T 0) t:=by
  intro n t
  induction n with
  | zero=>rfl
  | succ n ih=>rw [va,if_neg (fun c=>by rw [hL] at c; cases c.1),ih]
 have hhv:∀ n,hv cx.n (ZaE op ops.toList) G ((Array.replicate ops.size false).getD · false) n = G 0:=by
  intro n
  induction n with
  | zero=>rfl
  | succ n ih =>
   funext l s
   rw [Zax,if_neg (fun c=>by rw [hL] at c; cases c.1),ih]
 refine Zbe cx.φ.ro a.defers (m:=cx.n + 1) (N:=cx.N) (ZaU hd) hc (ZaS hok) E { w with drawn:=w.drawn + 1 } ?_ ops.size _ E { w with drawn:=w.drawn + 1 } a hu (by simp) (fun i o _ hi=>by have:=hL i; simp only at hi; rw [this] at hi; cases hi) hs.size rfl ?_ ?_ (.refl _ _ _)
 ·intro E' w' a' h1 h2 h3 h4 h5
  rw [← hlen,t1] at h3
  rw [← hlen,g1] at h4
  obtain ⟨E2,hs2,hx2⟩:=hwx _ E' w' a' ⟨h1,by rw [h2]; exact (hs.defs.ext (Env.Jp cx.n E w)).ext h5,h3,h4,fun x y bb hx hne hbb=>by
   have hbb:(H'.upd l1 q1 b') x y = some bb:=hbb
   rw [Zf.upd_ne _ _ hne] at hbb
   exact WZ.ZbK hs.out hout x y bb hx hbb⟩
  exact ⟨s',E2,hks,hs2,((Env.Jp cx.n E w).trans (h5.mono (Nat.le_succ _))).trans hx2⟩
 ·intro t; rw [hva,t0]; exact hs.tmps t
 ·rw [hhv,g0]; exact hs.heap.drew
theorem Zke {cx:Cx} {c:Code} {k:List Itm} {Q:Exit → Zh → Prop} {s:Zh} (hT:TOK cx.P cx.T) (hm:cx.P.follows .mixedOrders = true) (op:Opt) (hop:op.dr = true) {id:Nat} {ops:Array Oper} (hc:c = .region id ops true) (hd:ZaT cx.N ops.toList = true)
  (hok:(VI ops.toList (ZaE op ops.toList) && Zdf op ops.toList) = true) (m:Nat) {o:Oper} (ho1:ops.toList.drop m = [o]) (hg:(ops.toList.all fun x=>x.guard.isNone) = true) (ho:XG op o = .w) (l1 q1:Nat) (hl1:l1 < cx.n)
  (h:Xy cx op (ops.toList.take m) [] (fun _ s1=>ZcY cx o l1 q1 k Q s1) (ops.toList.take m) s):AKc cx (.code c :: k) Q s :=
 ZjG hT hm op hop hc hd hok (ops.toList.take m) o (by rw [← ho1,List.take_append_drop]) (fun x hx=>by
  have:=List.all_eq_true.1 hg x hx
  simpa using this) ho l1 q1 hl1 h
theorem ZcY.mk {cx:Cx} {o:Oper} {l1 q1:Nat} {k:List Itm} {Q:Exit → Zh → Prop} {s:Zh} {v:AV} {b':Zk} (s':Zh) (h1:(evW cx.T cx.n o.op o.dst .auto (evT s.tmps) (full cx.n s.L s.H)).1)
  (h2:(evW cx.T cx.n o.op o.dst .auto (evT s.tmps) (full cx.n s.L s.H)).2 = (v,some (l1,q1,b'))) (h3:Zlm cx.n cx.N l1 q1 ⟨YP s.tmps o.dst v,s.L,s.H.upd l1 q1 b'⟩ s') (h4:AKc cx k Q s'):ZcY cx o l1 q1 k Q s:=⟨h1,v,b',h2,s',h3,h4⟩
end Go.Abs

/- The first penalty: the walk. -/
namespace Go.Abs
def Pen.cs (p:Pen):List AV:=[.int .i64 p.weight,.int .i64 p.level,.sl 4 (p.tup.map Tm.enc) .any,.sl 1 ([p.body].map Zw) .any]
def V9 (H:Zf) (l b kk:Nat) (p:Pen):Zf :=
 ((H.upd l (b + 10) (.box p.cs)).upd l kk (.map [(.str p.key,.ptr l (b + 10) 0)])).upd l (b + 2) (.ZN 173 1 [.ptr l (b + 10) 0] 1)
structure Zc9 (H:Zf) (l b kk:Nat) (F:Fr):Prop where
 pn:F.pn = .msl 1 l (b + 2) 0
 kn:F.kn = .map l kk
 p:H l (b + 2) = some (.ZN 173 1 [] 0)
 k:H l kk = some (.map [])
 f:H l (b + 10) = none
 d:kk ≠ b ∧ kk ≠ b + 1 ∧ kk ≠ b + 2 ∧ kk ≠ b + 10
def Fr.one (F:Fr) (l b:Nat):Fr:=⟨F.a,F.num,.msl 1 l (b + 2) 1,F.kn⟩
end Go.Abs
namespace Go.Proofs.YthgbkalgmicniaaGreatDoor
open Go.Abs
set_option maxRecDepth 100000
theorem Wk.ZmN (k k':Nat):Wk (.sl k [] .full) (.sl k' [] .full):=.sem fun E v h=>by
 cases h with
 | slnil _ _ a ho ha=>exact .slnil k' .full a ho ha
 | sl _ _ _ b off cap c hk hc hv hcap hm ho=>exact .sl k' [] .full b off cap c (fun i h=>absurd h (Nat.not_lt_zero _)) (fun i j h=>absurd h (Nat.not_lt_zero _)) (fun i h=>absurd h (Nat.not_lt_zero _)) hcap hm ho
def op127a:Opt:=⟨true,true,fun _=>.auto,[45]⟩
def op127b:Opt:=⟨true,false,fun d=>if d = 58 then .heap else .auto,[]⟩
theorem Zm2 (n:Nat) (H:Zf) (l b kk:Nat) (F:Fr) (s:St) (hl:l < n) (h0:0 < l) (hF:F.bel n) (hT0:Tabs H) (hN:Zc9 H l b kk F) (x:Ins) (hx:XK x.tuple) (hv:x.tuple.all ZW = true) (hw:0 ≤ x.weight ∧ x.weight ≤ 1048576) (hlv:-2147483647 ≤ x.level ∧ x.level ≤ 2147483647)
  (body:List Int) (hb:body.length ≤ 1000000) :
  Zr Tryz.prog n 127 [.ptr l b 0,x.enc,Zw body] (bxH H l b F s) fun r H'=>r = .tup [] ∧ H' = bxH (V9 H l b kk (x.pen body)) l b (F.one l b) s:=by
 obtain ⟨d1,d2,d3,d4⟩:=hN.d
 have hne:¬ l = n:=by omega
 have hn:0 < n:=by omega
 have hT:Tabs (bxH H l b F s):=Tabs.up hT0 fun k=>Za6 (by omega)
 have hbx:bxH H l b F s l b = some (.box [F.a,F.num,.int .i64 s.n,.msl 6 l (b + 1) s.rules.length,.msl 1 l (b + 2) 0,.map l kk,.int .i64 s.err]):=by rw [bxH_box,bxC,hN.pn,hN.kn]
 have hkm:bxH H l b F s l kk = some (.map []):=by rw [Xt (by omega) (by omega)]; exact hN.k
 have hpm:bxH H l b F s l (b + 2) = some (.ZN 173 1 [] 0):=by rw [Xt (by omega) (by omega)]; exact hN.p
 have htl:=Zbt hx hv
 have hk1:=hx.len
 have hi1:=Lib.itoa_length_le x.weight (by omega) (by omega)
 have hi2:=Lib.itoa_length_le x.level (by omega) (by omega)
 have hi3:=Lib.itoa_length_le (x.tuple.length:Int) (by omega) (by omega)
 refine Zm tok (Zb Tryz.func127 rfl rfl) (by simp) fun B=>?_
 refine Za tok rfl rfl ?_
 simp only [go_sem,simprocAttr]
 repeat refine kn rfl ?_
 refine Ym 4 x.cs [(0,.ptr l b 0),(2,Zw body),(4,.ZA x.cs)] rfl (ZC fun c hc=>(x.bcs.mem c hc).inside) ⟨.inl ⟨.refl _,Inside.ptr _ _ _ (.inl hl)⟩,.inl ⟨.refl _,(Zz _).inside⟩,.inr ⟨0,rfl,rfl⟩,trivial⟩ trivial ?_
 simp only [go_sem,simprocAttr]
 refine YX tok mixed drawO rfl rfl rfl ?_
 simp only [go_sem,simprocAttr]
 refine ZH (Zb Tryz.func214 rfl rfl) (Zi1 x.weight (by omega) (by omega)) hn hT rfl ?_
 simp only [go_sem,simprocAttr]
 repeat refine ⟨by first | omega | (simp only [List.length_append,List.length_cons,List.length_nil]; omega),?_⟩
 refine ZH (Zb Tryz.func214 rfl rfl) (Zi1 x.level (by omega) (by omega)) hn hT rfl ?_
 simp only [go_sem,simprocAttr]
 repeat refine ⟨by first | omega | (simp only [List.length_append,List.length_cons,List.length_nil]; omega),?_⟩
 refine ZH (Zb Tryz.func214 rfl rfl) (Zi1 (x.tuple.length:Int) (by omega) (by omega)) hn hT rfl ?_
 simp only [go_sem,simprocAttr]
 repeat refine ⟨by first | omega | (simp only [List.length_append,List.length_cons,List.length_nil]; omega),?_⟩
 refine ZH (Zb Tryz.func60 rfl rfl) (a60 x.tuple hx hv) hn hT rfl ?_
 simp only [go_sem,simprocAttr]
 repeat refine ⟨by first | omega | (simp only [List.length_append,List.length_cons,List.length_nil]; omega),?_⟩
 have hkey:((((((Lib.itoa x.weight ++ [64]) ++ Lib.itoa x.level) ++ [58]) ++ Lib.itoa (x.tuple.length:Int)) ++ [58]) ++ ZaH x.tuple) = ZkY x:=rfl
 rw [hkey]
 generalize hkk:ZkY x = key at *
 have hl0:lookA ⟨.ptr,1,8,[.nilp]⟩ (AV.str key) [] false = .nilp:=rfl
 refine Za tok rfl rfl ?_
 simp only [go_sem,simprocAttr,hne,hbx,hkm,hl0]
 refine Zp rfl rfl rfl ?_
 repeat refine kn rfl ?_
 refine Zke tok mixed op127a rfl rfl (by kernel_rfl) (by kernel_rfl) 13 rfl rfl rfl l kk hl ?_
 simp only [go_sem,simprocAttr,op127a,hne,hbx,List.take_succ_cons,List.take_zero]
 refine XW ?_
 have hcs:Yj (fun c=>Below n c) [.int .i64 x.weight,.int .i64 x.level,.sl 4 (x.tuple.map Tm.enc) .any,.sl 0 [] .full]:=⟨.int _ _,.int _ _,ZB _,ZV (fun _ h=>by cases h) (fun _ _ e=>by cases e),trivial⟩
 refine ZcY.mk (v:=.tup []) (b':=.map [(.str key,.ptr n 45 0)]) ⟨[(0,.ptr l b 0),(2,Zw body),(4,.ZA x.cs),(6,.str key)],_,_⟩ ?_ ?_
  (Zh0 (b:=.box [.int .i64 x.weight,.int .i64 x.level,.sl 4 (x.tuple.map Tm.enc) .any,.sl 0 [] .full]) (b1:=.map [(.str key,.ptr n 45 0)]) 45 l (b + 10) l kk hl hl ?_ ?_ (Zk.YV hcs) ?_ ?_ (Zf.upd_same _ _ _ _) ?_ rfl rfl ?_) ?_
 ·simp only [go_sem,simprocAttr,hne,hkm]
 ·simp only [go_sem,simprocAttr,hne,hkm]
  rfl
 ·have hfr:=hN.f
  show (bxH H l b F s).upd l kk _ l (b + 10) = none
  rw [Zf.upd_ne _ _ (by omega),Xt (by omega) (by omega)]; exact hfr
 ·simp only [go_sem,simprocAttr]
 ·intro q hq
  simp only [List.mem_cons,List.not_mem_nil,or_false] at hq
  rcases hq with rfl | rfl | rfl | rfl
  ·simp only [go_sem,simprocAttr,ren,hne,false_and,if_false]
   exact ⟨.inl (Inside.ptr _ _ _ (.inl hl)),.refl _⟩
  ·simp only [go_sem,simprocAttr,ren,Zw]
   exact ⟨.inl (Zz _).inside,.refl _⟩
  ·simp only [go_sem,simprocAttr,ren]
   exact ⟨.inl (Yd x.bcs).inside,.refl _⟩
  ·simp only [go_sem,simprocAttr,ren]
   exact ⟨.inl (.str _),.refl _⟩
 ·intro p hp
  cases hp
 ·intro a ha
  simp only [Zk.avs,List.map_cons,List.map_nil,List.cons_append,List.nil_append,List.mem_cons,List.not_mem_nil,or_false] at ha
  rcases ha with rfl | rfl
  ·exact .inl (.str _)
  ·exact .inr (.inl ⟨0,rfl⟩)
 ·have e:Zk.WI (ren n 45 l (b + 10)) (.map [(.str key,.ptr n 45 0)]) = .map [(.str key,.ptr l (b + 10) 0)]:=by simp [Zk.WI,ren]
  rw [e]
  refine ⟨?_,by simp [Zk.at_]⟩
  intro a ha
  simp only [Zk.avs,List.map_cons,List.map_nil,List.cons_append,List.nil_append,List.mem_cons,List.not_mem_nil,or_false] at ha
  rcases ha with rfl | rfl
  ·exact .str _
  ·exact .ptr _ _ _ hl
 have e:Zk.WI (ren n 45 l (b + 10)) (.map [(.str key,.ptr n 45 0)]) = .map [(.str key,.ptr l (b + 10) 0)]:=by simp [Zk.WI,ren]
 rw [e]
 simp only [go_sem,simprocAttr,JU,delb]
 rw [Wy _ (l:=l) (k:=kk) (l':=l) (k':=b + 10) (by omega),WT,Zaq (by omega) (by omega),Zaq (by omega) (by omega)]
 have hfr:=hN.p
 obtain ⟨H2,hH2⟩:∃ H2,H2 = (H.upd l (b + 10) (.box [.int .i64 x.weight,.int .i64 x.level,.sl 4 (x.tuple.map Tm.enc) .any,.sl 0 [] .full])).upd l kk (.map [(.str key,.ptr l (b + 10) 0)]):=⟨_,rfl⟩
 rw [← hH2]
 have hbx2:bxH H2 l b F s l b = some (.box [F.a,F.num,.int .i64 s.n,.msl 6 l (b + 1) s.rules.length,.msl 1 l (b + 2) 0,.map l kk,.int .i64 s.err]):=by rw [bxH_box,bxC,hN.pn,hN.kn]
 have hkm2:bxH H2 l b F s l kk = some (.map [(.str key,.ptr l (b + 10) 0)]):=by rw [Xt (by omega) (by omega),hH2,Zf.upd_same]
 have hpm2:bxH H2 l b F s l (b + 2) = some (.ZN 173 1 [] 0):=by rw [Xt (by omega) (by omega),hH2,Zf.upd_ne _ _ (by omega),Zf.upd_ne _ _ (by omega)]; exact hN.p
 have hkkp:∀ p ∈ [(AV.str key,AV.ptr l (b + 10) 0)],Yv tt 9 p.1 = true:=fun p hp=>by simp only [List.mem_singleton] at hp; subst hp; exact Jv _
 have hl1:lookA ⟨.ptr,1,8,[.nilp]⟩ (AV.str key) [(.str key,.ptr l (b + 10) 0)] false = .ptr l (b + 10) 0:=by
  have h:=JH kinj_str (fun _:Unit=>AV.ptr l (b + 10) 0) ⟨.ptr,1,8,[.nilp]⟩ key [(key,())]
  simpa [getM,Y0] using h
 repeat refine kn rfl ?_
 refine WH tok mixed op127b rfl rfl (by kernel_rfl) (by kernel_rfl) ?_
 have hq2:∀ Y,((bxH H2 l b F s).upd l (b + 2) Y) l b = (bxH H2 l b F s) l b:=fun Y=>Zf.upd_ne _ _ (by omega)
 have hF1:(F.one l b).bel n:=by
  obtain ⟨g1,g2,g3,g4,_⟩:=hF
  exact ⟨g1,g2,.msl _ _ _ _ hl,g4,trivial⟩
 have hfl:flat [AV.ptr l (b + 10) 0] = [.ptr l (b + 10) 0]:=rfl
 have hmb:Zk.Below n (.ZN 173 1 [.ptr l (b + 10) 0] 1):=⟨fun a ha=>by simp only [Zk.avs,List.mem_singleton] at ha; subst ha; exact .ptr _ _ _ hl,by simp [Zk.at_]⟩
 have hbc:=XD (b:=b) hF1 hl s
 have hbe:bxC l b (F.one l b) s = [F.a,F.num,.int .i64 s.n,.msl 6 l (b + 1) s.rules.length,.msl 1 l (b + 2) 1,.map l kk,.int .i64 s.err]:=by simp only [bxC,Fr.one,hN.kn]
 simp only [go_sem,simprocAttr,op127b,hne,hbx2,hkm2,hpm2,hl1,hq2,hfl]
 refine ⟨rfl,ZQ (by omega),.inr hmb,.inr (by rw [hbe] at hbc; exact hbc),?_⟩
 rw [← hbe,Zaq (by omega) (by omega),ZiW]
 have hbx3:∀ H,bxH H l b (F.one l b) s l b = some (.box [F.a,F.num,.int .i64 s.n,.msl 6 l (b + 1) s.rules.length,.msl 1 l (b + 2) 1,.map l kk,.int .i64 s.err]):=fun H=>by rw [bxH_box,hbe]
 obtain ⟨H3,hH3⟩:∃ H3,H3 = H2.upd l (b + 2) (.ZN 173 1 [.ptr l (b + 10) 0] 1):=⟨_,rfl⟩
 rw [← hH3]
 have hkm3:bxH H3 l b (F.one l b) s l kk = some (.map [(.str key,.ptr l (b + 10) 0)]):=by rw [Xt (by omega) (by omega),hH3,Zf.upd_ne _ _ (by omega),hH2,Zf.upd_same]
 have hpb3:bxH H3 l b (F.one l b) s l (b + 10) = some (.box [.int .i64 x.weight,.int .i64 x.level,.sl 4 (x.tuple.map Tm.enc) .any,.sl 0 [] .full]):=by rw [Xt (by omega) (by omega),hH3,Zf.upd_ne _ _ (by omega),hH2,Zf.upd_ne _ _ (by omega),Zf.upd_same]
 have hT3:Tabs (bxH H3 l b (F.one l b) s):=Tabs.up hT0 fun k=>by
  rw [Za6 (by omega),hH3,Zf.upd_ne _ _ (by omega),hH2,Zf.upd_ne _ _ (by omega),Zf.upd_ne _ _ (by omega)]
 have hdis:=(ZlP body hb).args (args':=[.sl 0 [] .full,Zw body]) ⟨Wk.ZmN _ _,.refl _,trivial⟩
 have hq3:∀ X,bxH (H3.upd l (b + 10) X) l b (F.one l b) s = (bxH H3 l b (F.one l b) s).upd l (b + 10) X:=fun X=>(Zaq (by omega) (by omega) X).symm
 refine YX tok mixed drawO rfl rfl rfl ?_
 simp only [go_sem,simprocAttr,hne,hbx3,hkm3,hpb3,hl1]
 refine ZH (Zb Tryz.func215 rfl rfl) hdis hn hT3 (by simp only [go_sem,simprocAttr]) ?_
 simp only [go_sem,simprocAttr,hne,hpb3]
 have hpc:(Pen.cs (x.pen body)) = [.int .i64 x.weight,.int .i64 x.level,.sl 4 (x.tuple.map Tm.enc) .any,.sl 1 [Zw body] .any]:=rfl
 refine ⟨.inr (Zk.YV ⟨.int _ _,.int _ _,ZB _,ZK (fun y hy=>?_),trivial⟩),?_⟩
 ·simp only [List.mem_singleton] at hy; subst hy; exact Zz _
 refine XW ⟨by simp [YH],[],trivial,by simp,rfl,?_⟩
 show (bxH H3 l b (F.one l b) s).upd l (b + 10) _ = _
 rw [Zaq (by omega) (by omega),← hpc]
 congr 1
 have hk2:(x.pen body).key = key:=hkk
 rw [hH3,hH2,V9,hk2,Wy _ (l:=l) (k:=b + 2) (l':=l) (k':=b + 10) (by omega),Wy _ (l:=l) (k:=kk) (l':=l) (k':=b + 10) (by omega),WT]
end Go.Proofs.YthgbkalgmicniaaGreatDoor
