/- The table: note. -/
import Derived.Test.YthgbkalgmicniaaGreatDoorM15
import Derived.Test.YthgbkalgmicniaaGreatDoorM13
import Derived.Test.YthgbkalgmicniaaGreatDoorM14
set_option linter.all false
namespace Go.Abs
open Go.Proofs.YthgbkalgmicniaaGreatDoor
structure Tb where
 A:List Am
 M:List (List UInt8 × Int)
def Tb.add (t:Tb) (a:Am):Tb:=if numOf t.M a = 0 then ⟨t.A ++ [a],putM (nameA a) 1 t.M⟩ else t
def Tb.adds (t:Tb) (l:List Am):Tb:=l.foldl Tb.add t
def tbC (l:Nat) (t:Tb):List AV:=[.msl 2 l 200 t.A.length,.map l 12]
def tbA (t:Tb):ABlk:=.mbuf 33 2 (fl Am.cs t.A) t.A.length
def tbH (H:AHeap) (l:Nat) (t:Tb):AHeap:=((H.upd l 12 (.map (encN t.M))).upd l 200 (tbA t)).upd l 3 (.box (tbC l t))
theorem tbH_box {H:AHeap} {l:Nat} {t:Tb}:tbH H l t l 3 = some (.box (tbC l t)):=AHeap.upd_same _ _ _ _
theorem tbH_at {H:AHeap} {l:Nat} {t:Tb}:tbH H l t l 200 = some (tbA t):=by unfold tbH; rw [AHeap.upd_ne _ _ (by omega),AHeap.upd_same]
theorem tbH_map {H:AHeap} {l:Nat} {t:Tb}:tbH H l t l 12 = some (.map (encN t.M)):=by unfold tbH; rw [AHeap.upd_ne _ _ (by omega),AHeap.upd_ne _ _ (by omega),AHeap.upd_same]
theorem tbH_lv {H:AHeap} {l l' k:Nat} {t:Tb} (h:l' ≠ l):tbH H l t l' k = H l' k:=by unfold tbH; rw [AHeap.upd_ne _ _ (fun e=>h e.1),AHeap.upd_ne _ _ (fun e=>h e.1),AHeap.upd_ne _ _ (fun e=>h e.1)]
theorem tbH_set {H:AHeap} {l:Nat} {t t':Tb}:(((tbH H l t).upd l 12 (.map (encN t'.M))).upd l 200 (tbA t')).upd l 3 (.box (tbC l t')) = tbH H l t':=by
 unfold tbH
 rw [upd_comm _ (l:=l) (k:=3) (l':=l) (k':=12) (by omega),upd_comm _ (l:=l) (k:=200) (l':=l) (k':=12) (by omega),upd_upd,upd_comm _ (l:=l) (k:=3) (l':=l) (k':=200) (by omega),upd_upd,upd_upd]
theorem Am.cs_in {n:Nat} (l:List Am):∀ c ∈ fl Am.cs l,Below n c:=fun c hc=>by
 simp only [fl,List.mem_flatMap] at hc
 obtain ⟨x,_,hx⟩:=hc; exact x.bcs.mem _ hx
theorem below_tbA {n:Nat} (t:Tb):ABlk.Below n (tbA t):=⟨fun a ha=>Am.cs_in _ a ha,by simp [ABlk.at_,tbA]⟩
theorem below_encN {n:Nat} (M:List (List UInt8 × Int)):ABlk.Below n (.map (encN M)):=ablk_map (below_encM (fun _=>.str _) (fun _ _=>.int _ _))
theorem below_tbC {n l:Nat} (h:l < n) (t:Tb):ABlk.Below n (.box (tbC l t)):=ABlk.below_box ⟨.msl _ _ _ _ h,.map _ _ h,trivial⟩
theorem Tb.add_len (t:Tb) (a:Am):(t.add a).A.length ≤ t.A.length + 1:=by unfold Tb.add; split <;> simp
theorem Tb.adds_len:∀ (l:List Am) (t:Tb),(t.adds l).A.length ≤ t.A.length + l.length
 | [],t=>by simp [Tb.adds]
 | a :: l,t=>by
  have h1:=Tb.adds_len l (t.add a)
  have h2:=t.add_len a
  simp only [Tb.adds,List.foldl_cons,List.length_cons] at *; omega
theorem Tb.adds_snoc (t:Tb) (l:List Am) (a:Am):t.adds (l ++ [a]) = (t.adds l).add a:=by simp [Tb.adds]
end Go.Abs
namespace Go.Proofs.YthgbkalgmicniaaGreatDoor
open Go.Abs
set_option maxRecDepth 100000
def sn113 (n l:Nat) (hs:List Am) (H:AHeap) (t:Tb) (i:Nat):AState :=
 ⟨[(8,.int .i64 i),(7,.int .i64 hs.length),(6,.sl 2 (hs.map Am.enc) .any),(0,.ptr l 3 0)],[],tbH H l (t.adds (hs.take i))⟩
def op113:Opt:=⟨true,false,fun d=>if d = 29 then .heap else .auto,[]⟩
theorem Tabs.tbH {H:AHeap} {l:Nat} {t:Tb} (h:Tabs H) (hl:0 < l):Tabs (tbH H l t):=Tabs.up h fun k=>tbH_lv (by omega)
theorem b113 (n:Nat) (H:AHeap) (l:Nat) (t:Tb) (hl:l < n) (h0:0 < l) (hT:Tabs H) (hs:List Am) (o:Own) (hg:∀ a ∈ hs,a.Good) (hlen:t.A.length + hs.length ≤ 1000000) :
  ACalls Tryz.prog n 113 [.ptr l 3 0,.sl 2 (hs.map Am.enc) o] (tbH H l t) fun r H'=>r = .tup [] ∧ H' = tbH H l (t.adds hs):=by
 have hne:¬ l = n:=by omega
 have hn:0 < n:=by omega
 refine a_fun tok (fun_of Tryz.func113 rfl rfl) (by simp) fun B=>?_
 repeat refine kn rfl ?_
 refine k_region tok rfl (by kernel_rfl) ?_
 simp only [go_sem,simprocAttr]
 repeat refine kn rfl ?_
 refine k_loop_ix (sn113 n l hs H t) hs.length rfl ?_ ?_
 ·unfold sn113
  rw [List.take_zero]
  refine AWk_kept ?_ ?_ ?_ ?_ <;> repeat' first | exact trivial | refine q0 ?_ | exact qb | exact q1 | exact q2 | exact q3 | exact rfl | refine And.intro ?_ ?_ | exact q4 | exact q5 | exact q6 | exact q7 | exact Inside.ptr _ _ _ (.inr ⟨rfl,rfl⟩) | exact q8 | exact q9 | exact qd | exact Tm.ins _ | exact Tm.inss _ _ | exact Am.ins _ | exact Am.inss _ _ | refine ins_buf_str ?_ | refine Tm.ins_buf ?_ | refine Am.ins_buf ?_ | exact qf
  all_goals first | exact Inside.ptr _ _ _ (.inl hl) | exact Am.inss _ _ | exact Wk.any _ _ _
 intro i hi
 refine k_st rfl ?_
 rcases Nat.lt_or_ge i hs.length with h | h
 ·have ha:=hg _ (List.getElem_mem h)
  have hnx:t.adds (hs.take (i + 1)) = (t.adds (hs.take i)).add hs[i]:=by rw [List.take_succ_eq_append_getElem h,Tb.adds_snoc]
  have hml:=Tb.adds_len (hs.take i) t
  rw [List.length_take] at hml
  generalize t.adds (hs.take i) = u at *
  repeat refine kn rfl ?_
  refine k_region tok rfl (by kernel_rfl) ?_
  simp only [go_sem,simprocAttr,h]
  repeat refine kn rfl ?_
  refine k_cond_t rfl (by simp only [go_sem,simprocAttr]) ?_
  repeat refine kn rfl ?_
  refine k_region tok rfl (by kernel_rfl) ?_
  simp only [go_sem,simprocAttr,Am.getD_enc _ _ h,h]
  repeat refine kn rfl ?_
  refine k_region tok rfl (by kernel_rfl) ?_
  simp only [go_sem,simprocAttr]
  refine callH (fun_of Tryz.func124 rfl rfl) (b124 (n + 1) _ l 3 (.msl 2 l 200 u.A.length) [] l 12 u.M (show l < n + 1 by omega) (show l < n + 1 by omega) (by show full n _ (tbH H l u) l 3 = _; rw [full_low hl]; exact tbH_box) (by show full n _ (tbH H l u) l 12 = _; rw [full_low hl]; exact tbH_map) (Nat.succ_pos _) ((hT.tbH h0).full hn) hs[i] ha) (by simp only [go_sem,simprocAttr]) ?_
  simp only [go_sem,simprocAttr]
  by_cases hz:numOf u.M hs[i] = 0
  ·have hz':(numOf u.M hs[i] == 0) = true:=by simpa using hz
   repeat refine kn rfl ?_
   refine k_cond_t rfl (by simp only [go_sem,simprocAttr,hz']) ?_
   have hadd:u.add hs[i] = ⟨u.A ++ [hs[i]],putM (nameA hs[i]) 1 u.M⟩:=by rw [Tb.add,if_pos hz]
   rw [hadd] at hnx
   have hb:=tbH_box (H:=H) (l:=l) (t:=u)
   have hm:=tbH_map (H:=H) (l:=l) (t:=u)
   have hat:=tbH_at (H:=H) (l:=l) (t:=u)
   have hset:=tbH_set (H:=H) (l:=l) (t:=u) (t':=⟨u.A ++ [hs[i]],putM (nameA hs[i]) 1 u.M⟩)
   have hTu:Tabs (tbH H l u):=hT.tbH h0
   have hput:=putA_M kinj_str (AV.int .i64) (nameA hs[i]) 1 u.M
   have hkk:∀ p ∈ encN u.M,keyOK tt 9 p.1 = true:=fun p hp=>by
    obtain ⟨q,_,rfl⟩:=List.mem_map.1 hp; exact keyStr _
   have hq:∀ Y,((tbH H l u).upd l 12 Y) l 3 = tbH H l u l 3:=fun Y=>AHeap.upd_ne _ _ (by omega)
   have hq2:∀ Y,((tbH H l u).upd l 12 Y) l 200 = tbH H l u l 200:=fun Y=>AHeap.upd_ne _ _ (by omega)
   have hq3:∀ Y Z,(((tbH H l u).upd l 12 Y).upd l 200 Z) l 3 = tbH H l u l 3:=fun Y Z=>by rw [AHeap.upd_ne _ _ (by omega),AHeap.upd_ne _ _ (by omega)]
   have hcell:=below_tbC hl (⟨u.A ++ [hs[i]],putM (nameA hs[i]) 1 u.M⟩:Tb)
   have hbA:=below_tbA (n:=n) (⟨u.A ++ [hs[i]],putM (nameA hs[i]) 1 u.M⟩:Tb)
   have hbN:=below_encN (n:=n) (putM (nameA hs[i]) 1 u.M)
   generalize tbH H l u = G at *
   repeat refine kn rfl ?_
   refine k_draw tok mixed drawO rfl rfl (by kernel_rfl) (by kernel_rfl) ?_
   simp only [go_sem,simprocAttr,hne,hb,tbC]
   refine callT (fun_of Tryz.func17 rfl rfl) (a17n hs[i] ha) hn hTu (by simp only [go_sem,simprocAttr]) ?_
   simp only [go_sem,simprocAttr,hne,hb,tbC,hm,hput]
   refine ⟨hkk,.inr hbN,?_⟩
   repeat refine kn rfl ?_
   refine k_draw tok mixed op113 rfl rfl (by kernel_rfl) (by kernel_rfl) ?_
   simp only [go_sem,simprocAttr,op113,hne,hb,tbC,hq,hq2,hq3,hat,tbA]
   have e1:fl Am.cs u.A ++ flat [hs[i].enc] = fl Am.cs (u.A ++ [hs[i]]):=by simp [fl_append,flat,fl,Am.enc,AV.cells]
   have e2:u.A.length + 1 = (u.A ++ [hs[i]]).length:=by simp
   rw [e1]
   refine ⟨rfl,⟨le_maxLen (by omega),by omega⟩,.inr (by rw [e2]; exact hbA),.inr (by rw [e2]; exact hcell),?_⟩
   rw [e2]
   simp only [tbA,tbC] at hset
   rw [hset,← hnx]
   repeat refine kn rfl ?_
   refine k_region tok rfl (by kernel_rfl) ?_
   simp only [go_sem,simprocAttr]
   repeat refine kn rfl ?_
   refine k_nil ?_
   refine AWk_kept ?_ ?_ ?_ ?_ <;> repeat' first | exact trivial | refine q0 ?_ | exact qb | exact q1 | exact q2 | exact q3 | exact rfl | refine And.intro ?_ ?_ | exact q4 | exact q5 | exact q6 | exact q7 | exact Inside.ptr _ _ _ (.inr ⟨rfl,rfl⟩) | exact q8 | exact q9 | exact qd | exact Tm.ins _ | exact Tm.inss _ _ | exact Am.ins _ | exact Am.inss _ _ | refine ins_buf_str ?_ | refine Tm.ins_buf ?_ | refine Am.ins_buf ?_ | exact qf
   ·simp only [go_sem,simprocAttr]
    rw [IntWalk.i64_in _ (by omega)]; exact .refl _
   all_goals first | exact Inside.ptr _ _ _ (.inl hl) | exact Am.inss _ _
  ·have hz':(numOf u.M hs[i] == 0) = false:=by simpa using hz
   repeat refine kn rfl ?_
   refine k_cond_f rfl (by simp only [go_sem,simprocAttr,hz']) ?_
   refine k_skip rfl ?_
   have hadd:u.add hs[i] = u:=by rw [Tb.add,if_neg hz]
   rw [hadd] at hnx
   repeat refine kn rfl ?_
   refine k_region tok rfl (by kernel_rfl) ?_
   simp only [go_sem,simprocAttr]
   repeat refine kn rfl ?_
   refine k_nil ?_
   unfold sn113
   rw [hnx]
   refine AWk_kept ?_ ?_ ?_ ?_ <;> repeat' first | exact trivial | refine q0 ?_ | exact qb | exact q1 | exact q2 | exact q3 | exact rfl | refine And.intro ?_ ?_ | exact q4 | exact q5 | exact q6 | exact q7 | exact Inside.ptr _ _ _ (.inr ⟨rfl,rfl⟩) | exact q8 | exact q9 | exact qd | exact Tm.ins _ | exact Tm.inss _ _ | exact Am.ins _ | exact Am.inss _ _ | refine ins_buf_str ?_ | refine Tm.ins_buf ?_ | refine Am.ins_buf ?_ | exact qf
   ·simp only [go_sem,simprocAttr]
    rw [IntWalk.i64_in _ (by omega)]; exact .refl _
   all_goals first | exact Inside.ptr _ _ _ (.inl hl) | exact Am.inss _ _
 ·repeat refine kn rfl ?_
  refine k_region tok rfl (by kernel_rfl) ?_
  simp only [go_sem,simprocAttr,Nat.not_lt.2 h]
  repeat refine kn rfl ?_
  refine k_cond_f rfl (by simp only [go_sem,simprocAttr]) ?_
  repeat refine kn rfl ?_
  refine k_exit_round rfl rfl rfl ?_
  have hi':i = hs.length:=by omega
  subst hi'
  rw [List.take_length]
  exact k_nil ⟨by simp [okRes],[],trivial,by simp,rfl,rfl⟩
end Go.Proofs.YthgbkalgmicniaaGreatDoor

/- The rules of a choice. -/
namespace Go.Abs
def allW (h:List Int):Wm:=h.foldl (fun w a=>putM a 1 w) []
def St.pick (s:St) (h:List Int):St:=if h.length = 0 then s else s.choose
def St.low (s:St) (x:Ins) (h body:List Int):St :=
 if x.lower ≤ 0 then s else if (h.length:Int) < x.lower then s.rule [] body else (s.aux.sum [s.n + 1] (allW h) x.lower).rule [] (body ++ [-(s.n + 1)])
def St.upp (s:St) (x:Ins) (h body:List Int):St :=
 if x.upper < 0 ∨ (h.length:Int) ≤ x.upper then s else if body.length = 0 then s.sum [] (allW h) (x.upper + 1) else (s.aux.sum [s.n + 1] (allW h) (x.upper + 1)).rule [] (body ++ [s.n + 1])
def St.pickRule (s:St) (h body:List Int):St:=if h.length = 0 then s else (s.rule h body).choose
def St.choice (s:St) (x:Ins) (h:List Int) (l:List Cnd):St :=
 if x.lower ≤ 0 ∧ (x.upper < 0 ∨ (h.length:Int) ≤ x.upper) then (if h.length = 0 then s else (s.emit h l).choose)
 else (((s.lits l).2.pickRule h (s.lits l).1).low x h (s.lits l).1).upp x h (s.lits l).1
theorem allW_snoc (h:List Int) (a:Int):allW (h ++ [a]) = putM a 1 (allW h):=by simp [allW]
theorem allW_len:∀ (h:List Int),(allW h).length ≤ h.length:=by
 intro h
 have:∀ (h:List Int) (w:Wm),(h.foldl (fun w a=>putM a 1 w) w).length ≤ w.length + h.length:=by
  intro h
  induction h with
  | nil=>intro w; simp
  | cons a h ih =>
   intro w
   have h1:=ih (putM a 1 w)
   have h2:=putM_len a 1 w
   simp only [List.foldl_cons,List.length_cons]
   split at h2 <;> omega
 have:=this h []
 simpa [allW] using this
theorem allW_nd (h:List Int):((allW h).map Prod.fst).Nodup:=by
 have:∀ (h:List Int) (w:Wm),(w.map Prod.fst).Nodup → ((h.foldl (fun w a=>putM a 1 w) w).map Prod.fst).Nodup:=by
  intro h
  induction h with
  | nil=>intro w hw; exact hw
  | cons a h ih=>intro w hw; exact ih _ (putM_nodup hw)
 exact this h [] (by simp)
theorem allW_mem {h:List Int} {p:Int × Int} (hp:p ∈ allW h):p.1 ∈ h ∧ p.2 = 1:=by
 have:∀ (h:List Int) (w:Wm),p ∈ (h.foldl (fun w a=>putM a 1 w) w) → p ∈ w ∨ (p.1 ∈ h ∧ p.2 = 1):=by
  intro h
  induction h with
  | nil=>intro w hw; exact .inl hw
  | cons a h ih =>
   intro w hw
   rcases ih _ hw with h1 | h1
   ·rcases putM_mem h1 with h2 | h2
    ·subst h2; exact .inr ⟨by simp,rfl⟩
    ·exact .inl h2
   ·exact .inr ⟨List.mem_cons_of_mem _ h1.1,h1.2⟩
 rcases this h [] hp with h1 | h1
 ·cases h1
 ·exact h1
end Go.Abs
namespace Go.Proofs.YthgbkalgmicniaaGreatDoor
open Go.Abs
set_option maxRecDepth 100000
theorem allW_ok {h:List Int} (hh:∀ x ∈ h,SmI x) (hl:h.length ≤ 100000):WOk (allW h) :=
 ⟨⟨by have:=allW_len h; omega,fun p hp=>by rw [(allW_mem hp).2]; decide⟩,allW_nd h,fun p hp=>hh _ (allW_mem hp).1⟩
def op207b (l k:Nat):Opt:=⟨false,false,fun d=>if d = 7 then .place l k false else .auto,[]⟩
theorem b207 (n:Nat) (H:AHeap) (xs:List Int) (o:Own) (l2 k2:Nat) (hl2:l2 < n) (hf:H l2 k2 = none) (hlen:xs.length ≤ 1000000) :
  ACalls Tryz.prog n 207 [.sl 1 (aInts xs) o] H fun r H'=>r = .sl 1 (aInts xs) (.buf l2 k2) ∧ H' = H.upd l2 k2 (.buf 3 1 xs.length):=by
 have hne:¬ l2 = n:=by omega
 have hle:l2 ≤ n:=by omega
 have hbb:∀ m,l2 < m → Below m (.sl 1 (aInts xs) (.buf l2 k2)):=fun m hm=>below_sl (fun x hx=>by obtain ⟨u,_,rfl⟩:=List.mem_map.1 hx; exact .int _ _) (fun _ _ e=>by cases e; exact hm)
 have hb2:ABlk.Below n (.buf 3 1 xs.length):=⟨by simp [ABlk.avs],by simp [ABlk.at_]⟩
 cases xs with
 | nil =>
  refine ACalls.nil_or ?_ ?_
  ·refine a_fun tok (fun_of Tryz.func207 rfl rfl) (by simp) fun B=>?_
   repeat refine kn rfl ?_
   refine k_region tok rfl (by kernel_rfl) ?_
   simp only [go_sem,simprocAttr]
   repeat refine kn rfl ?_
   refine k_region tok rfl (by kernel_rfl) ?_
   simp only [go_sem,simprocAttr]
   refine ⟨⟨_,rfl⟩,?_⟩
   repeat refine kn rfl ?_
   refine k_cond_t rfl (by simp only [go_sem,simprocAttr]) ?_
   repeat refine kn rfl ?_
   refine k_region tok rfl (by kernel_rfl) ?_
   simp only [go_sem,simprocAttr]
   repeat refine kn rfl ?_
   refine k_weak (AWk_adopt (t:=2) (l:=l2) (j:=k2) 3 1 false hle rfl (by simp only [full,if_neg hne]; exact hf)) ?_
   simp only [setL,setH,if_neg hne,if_false]
   repeat refine kn rfl ?_
   refine k_ret rfl ?_
   exact post_oneQ (.refl _) (hbb _ hl2) ⟨rfl,rfl⟩
  ·refine a_fun tok (fun_of Tryz.func207 rfl rfl) (by simp) fun B=>?_
   repeat refine kn rfl ?_
   refine k_region tok rfl (by kernel_rfl) ?_
   simp only [go_sem,simprocAttr]
   repeat refine kn rfl ?_
   refine k_region tok rfl (by kernel_rfl) ?_
   simp only [go_sem,simprocAttr]
   refine ⟨⟨_,rfl⟩,?_⟩
   repeat refine kn rfl ?_
   refine k_cond_f rfl (by simp only [go_sem,simprocAttr]) ?_
   repeat refine kn rfl ?_
   refine k_weak (s':=⟨[(0,.sl 1 [] .any)],[],H⟩) ?_ ?_
   ·refine AWk_kept ⟨Wk.sln 1,trivial⟩ trivial ⟨?_,trivial⟩ trivial
    exact (below_aInts []).inside
   refine k_region_o tok (op207b l2 k2) rfl rfl (by kernel_rfl) ?_
   simp only [go_sem,simprocAttr,op207b,hne]
   refine ⟨rfl,⟨hle,hf⟩,.inr hb2,?_⟩
   repeat refine kn rfl ?_
   refine k_ret rfl ?_
   exact post_oneQ (.refl _) (hbb _ hl2) ⟨rfl,rfl⟩
 | cons x r =>
  have h1:=ones_aInts (x :: r)
  simp only [List.length_cons] at hlen hb2
  simp only [aInts,List.map_cons,List.mem_cons,forall_eq_or_imp] at h1 hbb
  refine a_fun tok (fun_of Tryz.func207 rfl rfl) (by simp) fun B=>?_
  repeat refine kn rfl ?_
  refine k_region tok rfl (by kernel_rfl) ?_
  simp only [go_sem,simprocAttr]
  repeat refine kn rfl ?_
  refine k_region tok rfl (by kernel_rfl) ?_
  simp only [go_sem,simprocAttr]
  refine ⟨⟨_,rfl⟩,?_⟩
  repeat refine kn rfl ?_
  refine k_cond_f rfl (by simp only [go_sem,simprocAttr]) ?_
  repeat refine kn rfl ?_
  refine k_region_o tok (op207b l2 k2) rfl rfl (by kernel_rfl) ?_
  simp only [go_sem,simprocAttr,op207b,hne]
  refine ⟨rfl,⟨hle,hf,h1.2,le_maxLen (by omega),by omega⟩,.inr hb2,?_⟩
  repeat refine kn rfl ?_
  refine k_ret rfl ?_
  exact post_oneQ (.refl _) (hbb _ hl2) ⟨rfl,rfl⟩
end Go.Proofs.YthgbkalgmicniaaGreatDoor

/- The rules of a choice: the walk. -/
namespace Go.Proofs.YthgbkalgmicniaaGreatDoor
open Go.Abs
set_option maxRecDepth 100000
theorem td263:tdOf tt 263 = some (.struct [(0,183),(1,3)]):=rfl
theorem emit_last (s:St) (h:List Int) (l:List Cnd):∃ rs x,(s.emit h l).rules = rs ++ [x]:=by
 unfold St.emit
 split
 ·exact ⟨_,_,rfl⟩
 ·exact ⟨_,_,rfl⟩
theorem lits_sm {n l b:Nat} {H:AHeap} {s:St} {k:Int} (hs:s.Fit k) (hk:k ≤ 800000) {cs:List Cnd} (hcs:∀ c ∈ cs,c.Ok n l b H) (hlen:cs.length ≤ 10000):∀ x ∈ (s.lits cs).1,SmI x:=fun x hx=>by
 have hfit:∀ i,((s.names (cs.take i)).2).Fit 900000:=fun i=>(names_fit (cs.take i) hs).mono (by rw [List.length_take]; omega)
 have hx:=(ordL_mem _ _).1 hx
 obtain ⟨i,hi,rfl⟩:=List.getElem_of_mem hx
 have hi':i < cs.length:=by rw [names_len] at hi; exact hi
 rw [(names_take cs s i hi').2 hi]
 exact name_sm (hfit i) (by omega) (hcs _ (List.getElem_mem hi'))
theorem allP_of {α:Type} {p:α → Prop}:∀ {l:List α},(∀ x ∈ l,p x) → AllP p l
 | [],_=>trivial
 | a :: r,h=>⟨h a (by simp),allP_of fun x hx=>h x (by simp [hx])⟩
def tm126 (n l b:Nat) (h body:List Int) (lo up:Bool):List (Nat × AV):=[(0,.ptr l b 0),(2,.sl 1 (aInts h) .any),(8,.int .i64 h.length),(9,.bool lo),(10,.bool up),(11,.sl 1 (aInts body) .any),(12,.map n 56),(5,.ptr n 5 0)]
def st126 (n l b:Nat) (H:AHeap) (F:Fr) (s:St) (x:Ins) (h body:List Int) (lo up:Bool):AState :=
 ⟨tm126 n l b h body lo up,[(5,.box x.cs),(56,.map (encW (allW h)))],bxH H l b F s⟩
def st126i (n l b:Nat) (H:AHeap) (F:Fr) (s:St) (x:Ins) (h body:List Int) (lo up:Bool) (i:Nat):AState :=
 ⟨(59,.int .i64 i) :: (58,.int .i64 h.length) :: (57,.sl 1 (aInts h) .any) :: tm126 n l b h body lo up,[(5,.box x.cs),(56,.map (encW (allW (h.take i))))],bxH H l b F s⟩
theorem b126 (n:Nat) (H:AHeap) (l b:Nat) (F:Fr) (s:St) (hl:l < n) (hF:F.bel n) (hs:s.Fit 600000) (x:Ins) (h:List Int) (g1:∀ x ∈ h,SmI x) (l1:h.length ≤ 10000) (cs:List Cnd) (hcs:∀ c ∈ cs,c.Ok n l b H) (hlen:cs.length ≤ 10000)
  (hlo:-1 ≤ x.lower ∧ x.lower ≤ 1048576) (hup:-1 ≤ x.upper ∧ x.upper ≤ 1048576) :
  ACalls Tryz.prog n 126 [.ptr l b 0,x.enc,.sl 1 (aInts h) .any,.sl 1 (cs.map Cnd.enc) .any] (bxH H l b F s) fun r H'=>r = .tup [] ∧ H' = bxH H l b F (s.choice x h cs):=by
 have hne:¬ l = n:=by omega
 obtain ⟨lo,elo⟩:∃ lo,lo = decide (0 < x.lower):=⟨_,rfl⟩
 obtain ⟨up,eup⟩:∃ up,up = (decide (0 ≤ x.upper) && decide (x.upper < h.length)):=⟨_,rfl⟩
 have hbi:=below_aInts (n:=n) (k:=1) h
 have hbc:=below_cnds (k:=1) hcs
 refine a_fun tok (fun_of Tryz.func126 rfl rfl) (by simp) fun B=>?_
 repeat refine kn rfl ?_
 refine k_region tok rfl (by kernel_rfl) ?_
 simp only [go_sem,simprocAttr]
 repeat refine kn rfl ?_
 refine k_region tok rfl (by kernel_rfl) ?_
 simp only [go_sem,simprocAttr]
 refine k_seq rfl ?_
 refine k_cut ⟨[(0,.ptr l b 0),(2,.sl 1 (aInts h) .any),(3,.sl 1 (cs.map Cnd.enc) .any),(8,.int .i64 h.length),(9,.bool lo),(10,.bool up),(5,.ptr n 5 0)],[(5,.box x.cs)],bxH H l b F s⟩ ?_ ?_
 ·repeat refine kn rfl ?_
  refine k_draw tok mixed drawO rfl rfl (by kernel_rfl) (by kernel_rfl) ?_
  simp only [go_sem,simprocAttr]
  cases h1:decide (0 ≤ x.upper) with
  | false =>
   rw [h1,Bool.false_and] at eup
   subst eup elo
   simp only [go_sem,simprocAttr]
   repeat refine kn rfl ?_
   refine k_nil ?_
   refine ⟨rfl,?_⟩
   refine AWk_kept ?_ ?_ ?_ ?_ <;> repeat' first | exact trivial | refine q0 ?_ | exact qb | exact q1 | exact q2 | exact q3 | exact rfl | refine And.intro ?_ ?_ | exact q4 | exact q5 | exact q6 | exact q7 | exact Inside.ptr _ _ _ (.inr ⟨rfl,rfl⟩) | exact q8 | exact q9 | exact qd | exact Tm.ins _ | exact Tm.inss _ _ | exact Am.ins _ | exact Am.inss _ _ | refine ins_buf_str ?_ | refine Tm.ins_buf ?_ | refine Am.ins_buf ?_ | exact qf
   all_goals first | exact hbi.inside | exact hbc.inside | exact Inside.ptr _ _ _ (.inl hl) | exact (below_gbs _).inside | skip
  | true =>
   rw [h1,Bool.true_and] at eup
   subst eup elo
   simp only [go_sem,simprocAttr,h1]
   repeat refine kn rfl ?_
   refine k_nil ?_
   refine ⟨rfl,?_⟩
   refine AWk_kept ?_ ?_ ?_ ?_ <;> repeat' first | exact trivial | refine q0 ?_ | exact qb | exact q1 | exact q2 | exact q3 | exact rfl | refine And.intro ?_ ?_ | exact q4 | exact q5 | exact q6 | exact q7 | exact Inside.ptr _ _ _ (.inr ⟨rfl,rfl⟩) | exact q8 | exact q9 | exact qd | exact Tm.ins _ | exact Tm.inss _ _ | exact Am.ins _ | exact Am.inss _ _ | refine ins_buf_str ?_ | refine Tm.ins_buf ?_ | refine Am.ins_buf ?_ | exact qf
   all_goals first | exact hbi.inside | exact hbc.inside | exact Inside.ptr _ _ _ (.inl hl) | exact (below_gbs _).inside | skip
 by_cases hno:lo = false ∧ up = false
 ·-- no bound
  obtain ⟨rfl,rfl⟩:=hno
  have hch:s.choice x h cs = if h.length = 0 then s else (s.emit h cs).choose:=by
   have c1:x.lower ≤ 0:=by
    have:=elo; simp only [Bool.false_eq,decide_eq_false_iff_not] at this; omega
   have c2:x.upper < 0 ∨ (h.length:Int) ≤ x.upper:=by
    by_cases c:0 ≤ x.upper
    ·by_cases c':x.upper < h.length
     ·simp [c,c'] at eup
     ·right; omega
    ·left; omega
   rw [St.choice,if_pos ⟨c1,c2⟩]
  rw [hch]
  repeat refine kn rfl ?_
  refine k_region tok rfl (by kernel_rfl) ?_
  simp only [go_sem,simprocAttr]
  repeat refine kn rfl ?_
  refine k_cond_t rfl (by simp only [go_sem,simprocAttr]) ?_
  repeat refine kn rfl ?_
  refine k_region tok rfl (by kernel_rfl) ?_
  simp only [go_sem,simprocAttr]
  by_cases h0:h.length = 0
  ·rw [if_pos h0]
   repeat refine kn rfl ?_
   refine k_cond_f rfl (by simp only [go_sem,simprocAttr,h0]) ?_
   refine k_skip rfl ?_
   repeat refine kn rfl ?_
   refine k_ret rfl ?_
   exact ⟨by simp [okRes],[],trivial,by simp,rfl,rfl⟩
  ·rw [if_neg h0]
   have h1:decide (0 < (h.length:Int)) = true:=by simp; omega
   repeat refine kn rfl ?_
   refine k_cond_t rfl (by simp only [go_sem,simprocAttr,h1]) ?_
   repeat refine kn rfl ?_
   refine k_region tok rfl (by kernel_rfl) ?_
   simp only [go_sem,simprocAttr]
   refine callB hl hF (fun_of Tryz.func125 rfl rfl) (b125 (n + 1) (full n [(5,.box x.cs)] H) l b F s (by omega) (hF.mono (Nat.le_succ n)) (hs.mono (by omega)) h .any g1 (by omega) cs (fun c hc=>Cnd_up (hcs c hc) _) hlen) (by simp only [go_sem,simprocAttr]) ?_
   simp only [go_sem,simprocAttr]
   repeat refine kn rfl ?_
   refine k_region tok rfl (by kernel_rfl) ?_
   simp only [go_sem,simprocAttr]
   obtain ⟨rs,y,hlast⟩:=emit_last s h cs
   refine callB hl hF (fun_of Tryz.func212 rfl rfl) (a212 (n + 1) _ l b F (s.emit h cs) (by omega) (hF.mono (Nat.le_succ n)) ((emit_fit h cs hs).mono (by omega)) rs y hlast) (by simp only [go_sem,simprocAttr]) ?_
   simp only [go_sem,simprocAttr]
   repeat refine kn rfl ?_
   refine k_ret rfl ?_
   exact ⟨by simp [okRes],[],trivial,by simp,rfl,rfl⟩
 ·have hch:s.choice x h cs = (((s.lits cs).2.pickRule h (s.lits cs).1).low x h (s.lits cs).1).upp x h (s.lits cs).1:=by
   rw [St.choice,if_neg]
   rintro ⟨c1,c2⟩
   refine hno ⟨by rw [elo]; simp; omega,?_⟩
   rw [eup]
   rcases c2 with c2 | c2
   ·simp; omega
   ·simp; omega
  rw [hch]
  have go:∀ tm:List (Nat × AV),lkv tm 0 = .ptr l b 0 → lkv tm 2 = .sl 1 (aInts h) .any → lkv tm 3 = .sl 1 (cs.map Cnd.enc) .any → lkv tm 8 = .int .i64 h.length → lkv tm 9 = .bool lo → lkv tm 10 = .bool up → lkv tm 5 = .ptr n 5 0 →
    AKc ⟨Tryz.prog,tt,⟨none,B⟩,n,Tryz.f126.ntmps⟩ [.code (bodyOf Tryz.f126).snd.snd.snd.snd] (PostF Tryz.prog tt n Tryz.f126.results.toList fun r H'=>r = .tup [] ∧ H' = bxH H l b F ((((s.lits cs).2.pickRule h (s.lits cs).1).low x h (s.lits cs).1).upp x h (s.lits cs).1)) ⟨tm,[(5,.box x.cs)],bxH H l b F s⟩:=by
   intro tm t0 t2 t3 t8 t9 t10 t5
   repeat refine kn rfl ?_
   refine k_region tok rfl (by kernel_rfl) ?_
   simp only [go_sem,simprocAttr,t0,t2,t3]
   refine callB hl hF (fun_of Tryz.func128 rfl rfl) (a128 (n + 1) (full n [(5,.box x.cs)] H) l b F s (by omega) (hF.mono (Nat.le_succ n)) (hs.mono (by omega)) cs (fun c hc=>Cnd_up (hcs c hc) _) hlen) (by simp only [go_sem,simprocAttr,t0,t3]) ?_
   simp only [go_sem,simprocAttr]
   have hsm:∀ x ∈ (s.lits cs).1,SmI x:=lits_sm hs (by omega) hcs hlen
   have hbl:((s.lits cs).1).length ≤ 10000:=by have:=ordL_len (s.names cs).1; rw [names_len] at this; simp only [St.lits]; omega
   have hf1:(s.lits cs).2.Fit 620000:=(lits_fit cs hs).mono (by omega)
   have e1:sInts (ordL (s.names cs).1) = .sl 1 (aInts (s.lits cs).1) .any:=rfl
   have e2:(s.names cs).2 = (s.lits cs).2:=rfl
   rw [e1,e2]
   obtain ⟨body,hbody⟩:∃ body,body = (s.lits cs).1:=⟨_,rfl⟩
   obtain ⟨s1,hs1⟩:∃ s1,s1 = (s.lits cs).2:=⟨_,rfl⟩
   rw [← hbody] at hsm hbl ⊢
   rw [← hs1] at hf1 ⊢
   have hbb:=below_aInts (n:=n) (k:=1) body
   repeat refine kn rfl ?_
   refine k_region tok rfl (by kernel_rfl) ?_
   simp only [go_sem,simprocAttr,t8]
   refine k_cut ⟨[(0,.ptr l b 0),(2,.sl 1 (aInts h) .any),(8,.int .i64 h.length),(9,.bool lo),(10,.bool up),(11,.sl 1 (aInts body) .any),(5,.ptr n 5 0)],[(5,.box x.cs)],bxH H l b F (s1.pickRule h body)⟩ ?_ ?_
   ·by_cases h0:h.length = 0
    ·rw [St.pickRule,if_pos h0]
     repeat refine kn rfl ?_
     refine k_cond_f rfl (by simp only [go_sem,simprocAttr,h0]) ?_
     refine k_skip rfl ?_
     repeat refine kn rfl ?_
     refine k_nil ?_
     refine ⟨rfl,?_⟩
     refine AWk_kept ?_ ?_ ?_ ?_ <;> repeat' first | exact trivial | refine q0 ?_ | exact qb | exact q1 | exact q2 | exact q3 | exact rfl | refine And.intro ?_ ?_ | exact q4 | exact q5 | exact q6 | exact q7 | exact Inside.ptr _ _ _ (.inr ⟨rfl,rfl⟩) | exact q8 | exact q9 | exact qd | exact Tm.ins _ | exact Tm.inss _ _ | exact Am.ins _ | exact Am.inss _ _ | refine ins_buf_str ?_ | refine Tm.ins_buf ?_ | refine Am.ins_buf ?_ | exact qf
     ·simp only [go_sem,simprocAttr,t0]
      exact .refl _
     ·simp only [go_sem,simprocAttr,t2]
      exact .refl _
     ·simp only [go_sem,simprocAttr,t8]
      exact .refl _
     ·simp only [go_sem,simprocAttr,t9]
      exact .refl _
     ·simp only [go_sem,simprocAttr,t10]
      exact .refl _
     ·simp only [go_sem,simprocAttr,t5]
      exact .refl _
     all_goals first | exact hbi.inside | exact hbb.inside | exact Inside.ptr _ _ _ (.inl hl) | exact Inside.ptr _ _ _ (.inr ⟨rfl,rfl⟩) | exact (below_gbs _).inside | skip
    ·rw [St.pickRule,if_neg h0]
     have h1:decide (0 < (h.length:Int)) = true:=by simp; omega
     repeat refine kn rfl ?_
     refine k_cond_t rfl (by simp only [go_sem,simprocAttr,h1]) ?_
     repeat refine kn rfl ?_
     refine k_region tok rfl (by kernel_rfl) ?_
     simp only [go_sem,simprocAttr,t0,t2]
     refine callB hl hF (fun_of Tryz.func206 rfl rfl) (a206 (n + 1) (full n [(5,.box x.cs)] H) l b F s1 (by omega) (hF.mono (Nat.le_succ n)) (hf1.mono (by omega)) h .any body .any g1 hsm (by omega) (by omega)) (by simp only [go_sem,simprocAttr,t0,t2]) ?_
     simp only [go_sem,simprocAttr]
     repeat refine kn rfl ?_
     refine k_region tok rfl (by kernel_rfl) ?_
     simp only [go_sem,simprocAttr,t0]
     refine callB hl hF (fun_of Tryz.func212 rfl rfl) (a212 (n + 1) _ l b F (s1.rule h body) (by omega) (hF.mono (Nat.le_succ n)) ((hf1.rule _ _).mono (by omega)) s1.rules _ rfl) (by simp only [go_sem,simprocAttr,t0]) ?_
     simp only [go_sem,simprocAttr]
     repeat refine kn rfl ?_
     refine k_nil ?_
     refine ⟨rfl,?_⟩
     refine AWk_kept ?_ ?_ ?_ ?_ <;> repeat' first | exact trivial | refine q0 ?_ | exact qb | exact q1 | exact q2 | exact q3 | exact rfl | refine And.intro ?_ ?_ | exact q4 | exact q5 | exact q6 | exact q7 | exact Inside.ptr _ _ _ (.inr ⟨rfl,rfl⟩) | exact q8 | exact q9 | exact qd | exact Tm.ins _ | exact Tm.inss _ _ | exact Am.ins _ | exact Am.inss _ _ | refine ins_buf_str ?_ | refine Tm.ins_buf ?_ | refine Am.ins_buf ?_ | exact qf
     ·simp only [go_sem,simprocAttr,t0]
      exact .refl _
     ·simp only [go_sem,simprocAttr,t2]
      exact .refl _
     ·simp only [go_sem,simprocAttr,t8]
      exact .refl _
     ·simp only [go_sem,simprocAttr,t9]
      exact .refl _
     ·simp only [go_sem,simprocAttr,t10]
      exact .refl _
     ·simp only [go_sem,simprocAttr,t5]
      exact .refl _
     all_goals first | exact hbi.inside | exact hbb.inside | exact Inside.ptr _ _ _ (.inl hl) | exact Inside.ptr _ _ _ (.inr ⟨rfl,rfl⟩) | exact (below_gbs _).inside | skip
   have hf2:(s1.pickRule h body).Fit 630000:=by
    unfold St.pickRule
    split
    ·exact hf1.mono (by omega)
    ·exact (hf1.rule _ _).choose.mono (by omega)
   generalize s1.pickRule h body = s2 at *
   repeat refine kn rfl ?_
   refine k_region tok rfl (by kernel_rfl) ?_
   simp only [go_sem,simprocAttr]
   repeat refine kn rfl ?_
   refine k_region tok rfl (by kernel_rfl) ?_
   simp only [go_sem,simprocAttr]
   refine k_cut (st126 n l b H F s2 x h body lo up) ?_ ?_
   ·repeat refine kn rfl ?_
    refine k_loop_ix (st126i n l b H F s2 x h body lo up) h.length rfl ?_ ?_
    ·unfold st126i tm126
     refine AWk_kept ?_ ?_ ?_ ?_ <;> repeat' first | exact trivial | refine q0 ?_ | exact qb | exact q1 | exact q2 | exact q3 | exact rfl | refine And.intro ?_ ?_ | exact q4 | exact q5 | exact q6 | exact q7 | exact Inside.ptr _ _ _ (.inr ⟨rfl,rfl⟩) | exact q8 | exact q9 | exact qd | exact Tm.ins _ | exact Tm.inss _ _ | exact Am.ins _ | exact Am.inss _ _ | refine ins_buf_str ?_ | refine Tm.ins_buf ?_ | refine Am.ins_buf ?_ | exact qf
     all_goals first | exact hbi.inside | exact hbb.inside | exact Inside.ptr _ _ _ (.inl hl) | exact Inside.ptr _ _ _ (.inr ⟨rfl,rfl⟩) | exact Inside.map _ _ (.inr ⟨rfl,rfl⟩) | exact (below_gbs _).inside | skip
     all_goals exact 0
    intro i hi
    refine k_st rfl ?_
    rcases Nat.lt_or_ge i h.length with hlt | hge
    ·have hput:=putA_M kinj_int (AV.int .i64) h[i] 1 (allW (h.take i))
     have hkk:∀ p ∈ encW (allW (h.take i)),keyOK tt 3 p.1 = true:=fun p hp=>by
      obtain ⟨q,_,rfl⟩:=List.mem_map.1 hp; rfl
     have hsn:putM h[i] 1 (allW (h.take i)) = allW (h.take (i + 1)):=by rw [List.take_succ_eq_append_getElem hlt,allW_snoc]
     rw [hsn] at hput
     repeat refine kn rfl ?_
     refine k_region tok rfl (by kernel_rfl) ?_
     simp only [go_sem,simprocAttr,hlt,tm126]
     repeat refine kn rfl ?_
     refine k_cond_t rfl (by simp only [go_sem,simprocAttr]) ?_
     repeat refine kn rfl ?_
     refine k_region tok rfl (by kernel_rfl) ?_
     simp only [go_sem,simprocAttr,getD_ints _ _ hlt,hlt]
     repeat refine kn rfl ?_
     refine k_region tok rfl (by kernel_rfl) ?_
     simp only [go_sem,simprocAttr,hput]
     refine ⟨⟨rfl,hkk⟩,?_⟩
     repeat refine kn rfl ?_
     refine k_region tok rfl (by kernel_rfl) ?_
     simp only [go_sem,simprocAttr]
     repeat refine kn rfl ?_
     refine k_nil ?_
     unfold st126i tm126
     refine AWk_kept ?_ ?_ ?_ ?_ <;> repeat' first | exact trivial | refine q0 ?_ | exact qb | exact q1 | exact q2 | exact q3 | exact rfl | refine And.intro ?_ ?_ | exact q4 | exact q5 | exact q6 | exact q7 | exact Inside.ptr _ _ _ (.inr ⟨rfl,rfl⟩) | exact q8 | exact q9 | exact qd | exact Tm.ins _ | exact Tm.inss _ _ | exact Am.ins _ | exact Am.inss _ _ | refine ins_buf_str ?_ | refine Tm.ins_buf ?_ | refine Am.ins_buf ?_ | exact qf
     ·simp only [go_sem,simprocAttr]
      rw [IntWalk.i64_in _ (by omega)]; exact .refl _
     all_goals first | exact hbi.inside | exact hbb.inside | exact Inside.ptr _ _ _ (.inl hl) | exact Inside.ptr _ _ _ (.inr ⟨rfl,rfl⟩) | exact Inside.map _ _ (.inr ⟨rfl,rfl⟩) | exact (below_gbs _).inside | exact allP_of fun c hc=>((below_encW (n:=n) _).1 c hc).inside | skip
    ·have hi':i = h.length:=by omega
     subst hi'
     repeat refine kn rfl ?_
     refine k_region tok rfl (by kernel_rfl) ?_
     simp only [go_sem,simprocAttr,Nat.not_lt.2 hge,tm126]
     repeat refine kn rfl ?_
     refine k_cond_f rfl (by simp only [go_sem,simprocAttr]) ?_
     repeat refine kn rfl ?_
     refine k_exit_round rfl rfl rfl ?_
     repeat refine kn rfl ?_
     refine k_nil ?_
     refine ⟨rfl,?_⟩
     rw [List.take_length]
     unfold st126 tm126
     refine AWk_kept ?_ ?_ ?_ ?_ <;> repeat' first | exact trivial | refine q0 ?_ | exact qb | exact q1 | exact q2 | exact q3 | exact rfl | refine And.intro ?_ ?_ | exact q4 | exact q5 | exact q6 | exact q7 | exact Inside.ptr _ _ _ (.inr ⟨rfl,rfl⟩) | exact q8 | exact q9 | exact qd | exact Tm.ins _ | exact Tm.inss _ _ | exact Am.ins _ | exact Am.inss _ _ | refine ins_buf_str ?_ | refine Tm.ins_buf ?_ | refine Am.ins_buf ?_ | exact qf
     all_goals first | exact hbi.inside | exact hbb.inside | exact Inside.ptr _ _ _ (.inl hl) | exact Inside.ptr _ _ _ (.inr ⟨rfl,rfl⟩) | exact Inside.map _ _ (.inr ⟨rfl,rfl⟩) | exact (below_gbs _).inside | exact allP_of fun c hc=>((below_encW (n:=n) _).1 c hc).inside | skip
   have hW:=allW_ok g1 (by omega)
   have hn2:=hf2.n
   refine k_seq rfl ?_
   refine k_cut (st126 n l b H F (s2.low x h body) x h body lo up) ?_ ?_
   ·refine k_st rfl ?_
    unfold tm126
    cases lo with
    | false =>
     have c1:x.lower ≤ 0:=by
      simp only [Bool.false_eq,decide_eq_false_iff_not] at elo; omega
     rw [St.low,if_pos c1]
     repeat refine kn rfl ?_
     refine k_region tok rfl (by kernel_rfl) ?_
     simp only [go_sem,simprocAttr]
     repeat refine kn rfl ?_
     refine k_cond_t rfl (by simp only [go_sem,simprocAttr]) ?_
     refine k_skip rfl ?_
     repeat refine kn rfl ?_
     refine k_nil ?_
     refine ⟨rfl,?_⟩
     unfold st126 tm126
     refine AWk_kept ?_ ?_ ?_ ?_ <;> repeat' first | exact trivial | refine q0 ?_ | exact qb | exact q1 | exact q2 | exact q3 | exact rfl | refine And.intro ?_ ?_ | exact q4 | exact q5 | exact q6 | exact q7 | exact Inside.ptr _ _ _ (.inr ⟨rfl,rfl⟩) | exact q8 | exact q9 | exact qd | exact Tm.ins _ | exact Tm.inss _ _ | exact Am.ins _ | exact Am.inss _ _ | refine ins_buf_str ?_ | refine Tm.ins_buf ?_ | refine Am.ins_buf ?_ | exact qf
     all_goals first | exact hbi.inside | exact hbb.inside | exact Inside.ptr _ _ _ (.inl hl) | exact Inside.ptr _ _ _ (.inr ⟨rfl,rfl⟩) | exact Inside.map _ _ (.inr ⟨rfl,rfl⟩) | exact (below_gbs _).inside | exact allP_of fun c hc=>((below_encW (n:=n) _).1 c hc).inside | skip
    | true =>
     have c1:¬ x.lower ≤ 0:=by
      simp only [Bool.true_eq,decide_eq_true_eq] at elo; omega
     by_cases c2:(h.length:Int) < x.lower
     ·rw [St.low,if_neg c1,if_pos c2]
      repeat refine kn rfl ?_
      refine k_region tok rfl (by kernel_rfl) ?_
      simp only [go_sem,simprocAttr]
      repeat refine kn rfl ?_
      refine k_cond_f rfl (by simp only [go_sem,simprocAttr]) ?_
      repeat refine kn rfl ?_
      refine k_region tok rfl (by kernel_rfl) ?_
      simp only [go_sem,simprocAttr]
      repeat refine kn rfl ?_
      refine k_cond_t rfl (by simp only [go_sem,simprocAttr,c2]) ?_
      repeat refine kn rfl ?_
      refine k_region tok rfl (by kernel_rfl) ?_
      simp only [go_sem,simprocAttr]
      refine callB hl hF (fun_of Tryz.func206 rfl rfl) (a206 (n + 1) _ l b F s2 (by omega) (hF.mono (Nat.le_succ n)) (hf2.mono (by omega)) [] .full body .any (by simp) hsm (by simp) (by omega)) (by simp only [go_sem,simprocAttr]) ?_
      simp only [go_sem,simprocAttr]
      repeat refine kn rfl ?_
      refine k_nil ?_
      refine ⟨rfl,?_⟩
      unfold st126 tm126
      refine AWk_kept ?_ ?_ ?_ ?_ <;> repeat' first | exact trivial | refine q0 ?_ | exact qb | exact q1 | exact q2 | exact q3 | exact rfl | refine And.intro ?_ ?_ | exact q4 | exact q5 | exact q6 | exact q7 | exact Inside.ptr _ _ _ (.inr ⟨rfl,rfl⟩) | exact q8 | exact q9 | exact qd | exact Tm.ins _ | exact Tm.inss _ _ | exact Am.ins _ | exact Am.inss _ _ | refine ins_buf_str ?_ | refine Tm.ins_buf ?_ | refine Am.ins_buf ?_ | exact qf
      all_goals first | exact hbi.inside | exact hbb.inside | exact Inside.ptr _ _ _ (.inl hl) | exact Inside.ptr _ _ _ (.inr ⟨rfl,rfl⟩) | exact Inside.map _ _ (.inr ⟨rfl,rfl⟩) | exact (below_gbs _).inside | exact allP_of fun c hc=>((below_encW (n:=n) _).1 c hc).inside | skip
     ·rw [St.low,if_neg c1,if_neg c2]
      repeat refine kn rfl ?_
      refine k_region tok rfl (by kernel_rfl) ?_
      simp only [go_sem,simprocAttr]
      repeat refine kn rfl ?_
      refine k_cond_f rfl (by simp only [go_sem,simprocAttr]) ?_
      repeat refine kn rfl ?_
      refine k_region tok rfl (by kernel_rfl) ?_
      simp only [go_sem,simprocAttr]
      repeat refine kn rfl ?_
      refine k_cond_f rfl (by simp only [go_sem,simprocAttr,c2]) ?_
      repeat refine kn rfl ?_
      refine k_region tok rfl (by kernel_rfl) ?_
      simp only [go_sem,simprocAttr,td263]
      have hwn:IntKind.i64.wrap (0 - (s2.n + 1)) = -(s2.n + 1):=by rw [IntWalk.i64_in _ (by omega)]; omega
      refine callB hl hF (fun_of Tryz.func213 rfl rfl) (a213 (n + 1) (full n [(5,.box x.cs),(56,.map (encW (allW h)))] H) l b F s2 (by omega) (hF.mono (Nat.le_succ n)) (hf2.mono (by omega)) (.pend n 56 (allW h) x.lower) ⟨Nat.lt_succ_self n,hW,by simp only [go_sem,simprocAttr],by omega,by omega⟩) (by simp only [go_sem,simprocAttr,enc_pend]) ?_
      have enm:s2.name (.pend n 56 (allW h) x.lower) = (.lit (s2.n + 1),s2.aux.sum [s2.n + 1] (allW h) x.lower):=rfl
      rw [enm]
      simp only [go_sem,simprocAttr,enc_lit]
      repeat refine kn rfl ?_
      refine k_region tok rfl (by kernel_rfl) ?_
      simp only [go_sem,simprocAttr]
      refine callR (caps:=[]) (avs:=[.sl 1 (aInts body) .any]) rfl (fun_of Tryz.func207 rfl rfl) (b207 (n + 1) _ body .any n 300 (Nat.lt_succ_self n) (by simp only [go_sem,simprocAttr]) (by omega)) (by simp only [go_sem,simprocAttr]) ?_
      rintro r H1 ⟨rfl,rfl⟩
      refine ⟨[(5,.box x.cs),(56,.map (encW (allW h))),(300,.buf 3 1 body.length)],bxH H l b F (s2.aux.sum [s2.n + 1] (allW h) x.lower),(full_setb n [(5,.box x.cs),(56,.map (encW (allW h)))] _ 300 _).symm,.refl _ _,?_⟩
      simp only [go_sem,simprocAttr,hwn]
      refine ⟨rfl,⟨le_maxLen (by omega),by omega⟩,?_⟩
      refine callB hl hF (fun_of Tryz.func206 rfl rfl) (a206 (n + 1) _ l b F (s2.aux.sum [s2.n + 1] (allW h) x.lower) (by omega) (hF.mono (Nat.le_succ n)) ((hf2.aux.sum _ _ _).mono (by omega)) [] .full (body ++ [-(s2.n + 1)]) (.buf n 300) (by simp) (by intro y hy; rcases List.mem_append.1 hy with hy | hy; exact hsm y hy; simp only [List.mem_singleton] at hy; subst hy; unfold SmI; omega) (by simp) (by simp; omega)) (by simp only [go_sem,simprocAttr,aInts,List.map_append]) ?_
      simp only [go_sem,simprocAttr]
      repeat refine kn rfl ?_
      refine k_nil ?_
      refine ⟨rfl,?_⟩
      unfold st126 tm126
      refine AWk_kept ?_ ?_ ?_ ?_ <;> repeat' first | exact trivial | refine q0 ?_ | exact qb | exact q1 | exact q2 | exact q3 | exact rfl | refine And.intro ?_ ?_ | exact q4 | exact q5 | exact q6 | exact q7 | exact Inside.ptr _ _ _ (.inr ⟨rfl,rfl⟩) | exact q8 | exact q9 | exact qd | exact Tm.ins _ | exact Tm.inss _ _ | exact Am.ins _ | exact Am.inss _ _ | refine ins_buf_str ?_ | refine Tm.ins_buf ?_ | refine Am.ins_buf ?_ | exact qf
      all_goals first | exact hbi.inside | exact hbb.inside | exact Inside.ptr _ _ _ (.inl hl) | exact Inside.ptr _ _ _ (.inr ⟨rfl,rfl⟩) | exact Inside.map _ _ (.inr ⟨rfl,rfl⟩) | exact (below_gbs _).inside | exact allP_of fun c hc=>((below_encW (n:=n) _).1 c hc).inside | skip
   have hf3:(s2.low x h body).Fit 640000:=by
    unfold St.low
    split
    ·exact hf2.mono (by omega)
    ·split
     ·exact (hf2.rule _ _).mono (by omega)
     ·exact ((hf2.aux.sum _ _ _).rule _ _).mono (by omega)
   generalize s2.low x h body = s3 at *
   have hn3:=hf3.n
   have hwu:IntKind.i64.wrap (x.upper + 1) = x.upper + 1:=by rw [IntWalk.i64_in _ (by omega)]
   refine k_st rfl ?_
   unfold tm126
   cases up with
   | false =>
    have c1:x.upper < 0 ∨ (h.length:Int) ≤ x.upper:=by
     by_cases c:0 ≤ x.upper
     ·by_cases c':x.upper < h.length
      ·simp [c,c'] at eup
      ·right; omega
     ·left; omega
    rw [St.upp,if_pos c1]
    repeat refine kn rfl ?_
    refine k_region tok rfl (by kernel_rfl) ?_
    simp only [go_sem,simprocAttr]
    repeat refine kn rfl ?_
    refine k_cond_t rfl (by simp only [go_sem,simprocAttr]) ?_
    refine k_skip rfl ?_
    repeat refine kn rfl ?_
    exact k_nil ⟨by simp [okRes],[],trivial,by simp,rfl,rfl⟩
   | true =>
    have c1:¬ (x.upper < 0 ∨ (h.length:Int) ≤ x.upper):=by
     simp only [Bool.true_eq,Bool.and_eq_true,decide_eq_true_eq] at eup; omega
    by_cases c2:body.length = 0
    ·rw [St.upp,if_neg c1,if_pos c2]
     repeat refine kn rfl ?_
     refine k_region tok rfl (by kernel_rfl) ?_
     simp only [go_sem,simprocAttr]
     repeat refine kn rfl ?_
     refine k_cond_f rfl (by simp only [go_sem,simprocAttr]) ?_
     repeat refine kn rfl ?_
     refine k_region tok rfl (by kernel_rfl) ?_
     simp only [go_sem,simprocAttr]
     repeat refine kn rfl ?_
     refine k_cond_t rfl (by simp only [go_sem,simprocAttr,c2]) ?_
     repeat refine kn rfl ?_
     refine k_region tok rfl (by kernel_rfl) ?_
     simp only [go_sem,simprocAttr,hwu]
     refine callB hl hF (fun_of Tryz.func211 rfl rfl) (a211 (n + 1) (full n [(5,.box x.cs),(56,.map (encW (allW h)))] H) l b F s3 (by omega) (hF.mono (Nat.le_succ n)) (hf3.mono (by omega)) [] .full (by simp) (by simp) n 56 (allW h) (Nat.lt_succ_self n) hW (by simp only [go_sem,simprocAttr]) (by omega) (by omega) (x.upper + 1)) (by simp only [go_sem,simprocAttr]) ?_
     simp only [go_sem,simprocAttr]
     repeat refine kn rfl ?_
     exact k_nil ⟨by simp [okRes],[],trivial,by simp,rfl,rfl⟩
    ·rw [St.upp,if_neg c1,if_neg c2]
     have c3:((body.length:Int) == 0) = false:=by rw [beq_eq_false_iff_ne]; omega
     repeat refine kn rfl ?_
     refine k_region tok rfl (by kernel_rfl) ?_
     simp only [go_sem,simprocAttr]
     repeat refine kn rfl ?_
     refine k_cond_f rfl (by simp only [go_sem,simprocAttr]) ?_
     repeat refine kn rfl ?_
     refine k_region tok rfl (by kernel_rfl) ?_
     simp only [go_sem,simprocAttr]
     repeat refine kn rfl ?_
     refine k_cond_f rfl (by simp only [go_sem,simprocAttr,c3]) ?_
     repeat refine kn rfl ?_
     refine k_region tok rfl (by kernel_rfl) ?_
     simp only [go_sem,simprocAttr,hwu,td263]
     refine callB hl hF (fun_of Tryz.func213 rfl rfl) (a213 (n + 1) (full n [(5,.box x.cs),(56,.map (encW (allW h)))] H) l b F s3 (by omega) (hF.mono (Nat.le_succ n)) (hf3.mono (by omega)) (.pend n 56 (allW h) (x.upper + 1)) ⟨Nat.lt_succ_self n,hW,by simp only [go_sem,simprocAttr],by omega,by omega⟩) (by simp only [go_sem,simprocAttr,enc_pend]) ?_
     have enm:s3.name (.pend n 56 (allW h) (x.upper + 1)) = (.lit (s3.n + 1),s3.aux.sum [s3.n + 1] (allW h) (x.upper + 1)):=rfl
     rw [enm]
     simp only [go_sem,simprocAttr,enc_lit]
     repeat refine kn rfl ?_
     refine k_region tok rfl (by kernel_rfl) ?_
     simp only [go_sem,simprocAttr]
     refine callR (caps:=[]) (avs:=[.sl 1 (aInts body) .any]) rfl (fun_of Tryz.func207 rfl rfl) (b207 (n + 1) _ body .any n 300 (Nat.lt_succ_self n) (by simp only [go_sem,simprocAttr]) (by omega)) (by simp only [go_sem,simprocAttr]) ?_
     rintro r H1 ⟨rfl,rfl⟩
     refine ⟨[(5,.box x.cs),(56,.map (encW (allW h))),(300,.buf 3 1 body.length)],bxH H l b F (s3.aux.sum [s3.n + 1] (allW h) (x.upper + 1)),(full_setb n [(5,.box x.cs),(56,.map (encW (allW h)))] _ 300 _).symm,.refl _ _,?_⟩
     simp only [go_sem,simprocAttr]
     refine ⟨rfl,⟨le_maxLen (by omega),by omega⟩,?_⟩
     refine callB hl hF (fun_of Tryz.func206 rfl rfl) (a206 (n + 1) _ l b F (s3.aux.sum [s3.n + 1] (allW h) (x.upper + 1)) (by omega) (hF.mono (Nat.le_succ n)) ((hf3.aux.sum _ _ _).mono (by omega)) [] .full (body ++ [s3.n + 1]) (.buf n 300) (by simp) (by intro y hy; rcases List.mem_append.1 hy with hy | hy; exact hsm y hy; simp only [List.mem_singleton] at hy; subst hy; unfold SmI; omega) (by simp) (by simp; omega)) (by simp only [go_sem,simprocAttr,aInts,List.map_append]) ?_
     simp only [go_sem,simprocAttr]
     repeat refine kn rfl ?_
     exact k_nil ⟨by simp [okRes],[],trivial,by simp,rfl,rfl⟩
  have h3:(lo || up) = true:=by
   cases hlo':lo <;> cases hup':up <;> simp [hlo',hup'] at hno ⊢
  cases hlo':lo with
  | true =>
   rw [hlo'] at go
   repeat refine kn rfl ?_
   refine k_region tok rfl (by kernel_rfl) ?_
   simp only [go_sem,simprocAttr]
   repeat refine kn rfl ?_
   refine k_cond_f rfl (by simp only [go_sem,simprocAttr]) ?_
   refine k_skip rfl ?_
   exact go _ rfl rfl rfl rfl rfl rfl rfl
  | false =>
   cases hup':up with
   | false=>rw [hlo',hup'] at h3; cases h3
   | true =>
    rw [hlo',hup'] at go
    repeat refine kn rfl ?_
    refine k_region tok rfl (by kernel_rfl) ?_
    simp only [go_sem,simprocAttr]
    repeat refine kn rfl ?_
    refine k_cond_f rfl (by simp only [go_sem,simprocAttr]) ?_
    refine k_skip rfl ?_
    exact go _ rfl rfl rfl rfl rfl rfl rfl
end Go.Proofs.YthgbkalgmicniaaGreatDoor

/- Orders by lists of numbers; sorted lists that are permutations of each other. -/
namespace Go.Proofs.YthgbkalgmicniaaGreatDoor
open Go.Abs
section
variable {X:Type} {G:X → Prop} {cf:X → X → Int} {f:X → List Int}
theorem lexI_trans' {x y z:List Int} (h:lexI x y < 0) (h':lexI y z < 0):lexI x z < 0:=by
 have h1:=lexI_trans x y z (by omega) (by omega)
 rcases Int.lt_or_eq_of_le h1 with h2 | h2
 ·exact h2
 ·have h3:=lexI_anti x z
  have h4:=lexI_trans z x y (by omega) (by omega)
  have h5:=lexI_anti z y
  omega
theorem swo_lex (h:∀ x y,G x → G y → cf x y = lexI (f x) (f y)):SWOn G (ltOf cf) where
 irrefl x hx:=by rw [ltOf,h x x hx hx,lexI_self]; rfl
 trans x y z hx hy hz h1 h2:=by
  rw [ltOf,decide_eq_true_eq] at *
  rw [h _ _ hx hy] at h1
  rw [h _ _ hy hz] at h2
  rw [h _ _ hx hz]
  exact lexI_trans' h1 h2
 ntrans x y z hx hy hz h1 h2:=by
  rw [ltOf,decide_eq_false_iff_not] at *
  rw [h _ _ hx hy] at h1
  rw [h _ _ hy hz] at h2
  rw [h _ _ hx hz]
  have a1:=lexI_anti (f x) (f y)
  have a2:=lexI_anti (f y) (f z)
  have a3:=lexI_anti (f x) (f z)
  have:=lexI_trans (f z) (f y) (f x) (by omega) (by omega)
  omega
end
def Asc {X:Type} (lt:X → X → Bool) (l:List X):Prop:=l.Pairwise fun a b=>lt b a = false
theorem asc_of {X:Type} {lt:X → X → Bool} {l:List X} (h:∀ i i' (h:i < l.length) (h':i' < l.length),i < i' → lt l[i'] l[i] = false):Asc lt l :=
 List.pairwise_iff_getElem.2 fun i j hi hj hij=>h i j hi hj hij
theorem asc_unique {X:Type} {lt:X → X → Bool} {p q:List X} (hp:p.Perm q) (h1:Asc lt p) (h2:Asc lt q) (hT:∀ x ∈ p,∀ y ∈ p,lt x y = false → lt y x = false → x = y):p = q :=
 hp.eq_of_pairwise (fun a b ha hb hab hba=>(hT a ha b (hp.mem_iff.2 hb) hba hab)) h1 h2
section
variable {X:Type} {G:X → Prop} {lt:X → X → Bool}
theorem insRev_mem {s x:X}:∀ {r:List X},x ∈ insRev lt s r → x = s ∨ x ∈ r
 | [],h=>by simp [insRev] at h; exact .inl h
 | y :: r,h=>by
  simp only [insRev] at h
  split at h
  ·rcases List.mem_cons.1 h with rfl | h
   ·exact .inr (by simp)
   ·rcases insRev_mem h with h | h
    ·exact .inl h
    ·exact .inr (by simp [h])
  ·rcases List.mem_cons.1 h with rfl | h
   ·exact .inl rfl
   ·exact .inr h
theorem insRev_asc (hO:SWOn G lt) {s:X} (hs:G s):∀ {r:List X},(∀ x ∈ r,G x) → r.Pairwise (fun a b=>lt a b = false) → (insRev lt s r).Pairwise (fun a b=>lt a b = false)
 | [],_,_=>by simp [insRev]
 | x :: r,hr,h=>by
  rw [List.pairwise_cons] at h
  simp only [insRev]
  split
  ·rename_i hsx
   rw [List.pairwise_cons]
   refine ⟨fun y hy=>?_,insRev_asc hO hs (fun y hy=>hr y (by simp [hy])) h.2⟩
   rcases insRev_mem hy with rfl | hy
   ·cases hxy:lt x y with
    | false=>rfl
    | true =>
     have:=hO.trans x y x (hr x (by simp)) hs (hr x (by simp)) hxy hsx
     rw [hO.irrefl x (hr x (by simp))] at this; cases this
   ·exact h.1 y hy
  ·rename_i hsx
   rw [List.pairwise_cons]
   have hsx':lt s x = false:=by simpa using hsx
   refine ⟨fun y hy=>?_,List.pairwise_cons.2 h⟩
   rcases List.mem_cons.1 hy with rfl | hy
   ·exact hsx'
   ·exact hO.ntrans s x y hs (hr x (by simp)) (hr y (by simp [hy])) hsx' (h.1 y hy)
theorem insB_asc (hO:SWOn G lt) {s:X} (hs:G s) {l:List X} (hl:∀ x ∈ l,G x) (h:Asc lt l):Asc lt (insB lt s l):=by
 unfold Asc insB at *
 rw [List.pairwise_reverse]
 exact insRev_asc hO hs (fun x hx=>hl x (by simpa using hx)) (by rw [List.pairwise_reverse]; exact h)
theorem sortB_asc (hO:SWOn G lt) {l:List X} (hl:∀ x ∈ l,G x):Asc lt (sortB lt l):=by
 have key:∀ (l b:List X),(∀ x ∈ l,G x) → (∀ x ∈ b,G x) → Asc lt b → Asc lt (l.foldl (fun out s=>insB lt s out) b):=by
  intro l
  induction l with
  | nil=>intro b _ _ h; exact h
  | cons s l ih =>
   intro b hl hb h
   have hs:=hl s (by simp)
   refine ih _ (fun x hx=>hl x (by simp [hx])) (fun x hx=>?_) (insB_asc hO hs hb h)
   rcases List.mem_cons.1 ((insB_perm lt s b).mem_iff.1 hx) with rfl | hx
   ·exact hs
   ·exact hb x hx
 exact key l [] hl (by simp) .nil
end
def ltA (a b:Am):Bool:=decide (cmpA a b < 0)
theorem Am.cs2 (a:Am):a.cs.length = 2:=rfl
theorem Am.cs1:∀ x:Am,∀ c ∈ x.cs,c.one = true:=fun x c hc=>by
 simp only [Am.cs,List.mem_cons,List.not_mem_nil,or_false] at hc
 rcases hc with rfl | rfl <;> rfl
def GoodL (l:List Am):Prop:=∀ a ∈ l,a.Good
theorem swoA:SWOn Am.Good (ltOf cmpA):=swo_lex (f:=serA) fun x y hx hy=>cmpA_lex hx.nm hy.nm
theorem sortA_unique {l ys:List Am} (hg:∀ a ∈ l,a.Good) (hp:ys.Perm l) (ha:∀ i i' (h:i < ys.length) (h':i' < ys.length),i < i' → ltOf cmpA ys[i'] ys[i] = false):ys = sortB ltA l:=by
 refine asc_unique (lt:=ltA) (hp.trans (sortB_perm ltA l).symm) (asc_of ha) (sortB_asc swoA hg) fun x hx y hy h1 h2=>?_
 have gx:=hg x (hp.mem_iff.1 hx)
 have gy:=hg y (hp.mem_iff.1 hy)
 rw [ltA,decide_eq_false_iff_not] at h1 h2
 refine cmpA_zero gx.nm gy.nm ?_
 have:=cmpA_lex gx.nm gy.nm
 have a:=lexI_anti (serA x) (serA y)
 have b:=cmpA_lex gy.nm gx.nm
 omega
theorem b116 (n:Nat) (H:AHeap) (l j sz0:Nat) (A:List Am) (hl:l < n) (hg:GoodL A) (hlen:A.length ≤ 1000000) (hH:H l j = some (.mbuf 33 2 (fl Am.cs A) A.length)) :
  ACalls Tryz.prog n 116 [.msl sz0 l j A.length,.fn (.func 81) []] H (fun r H'=>r = .tup [] ∧ H' = H.upd l j (.mbuf 33 2 (fl Am.cs (sortB ltA A)) A.length)):=by
 have h:=msl_sort (P:=Tryz.prog) (ρ:=Tryz.sort116_ren) Tryz.sort116 2 (by decide) Tryz.isAgg33 Tryz.sizeOf33 Am.cs Am.cs2 Am.cs1 (fun x=>x.bcs.mem) cmpA Am.Good swoA 81 _ _ (fun_of Tryz.func81 rfl rfl) (fun x y hx hy=>a16 x y hx hy) n H l j 33 sz0 A hl hg hH (by omega)
 refine ACalls.mono h ?_
 rintro r H' ⟨rfl,ys,hp,ha,rfl⟩
 rw [sortA_unique hg hp ha]
 have:(sortB ltA A).length = A.length:=(sortB_perm ltA A).length_eq
 rw [this]
 exact ⟨rfl,rfl⟩
end Go.Proofs.YthgbkalgmicniaaGreatDoor
