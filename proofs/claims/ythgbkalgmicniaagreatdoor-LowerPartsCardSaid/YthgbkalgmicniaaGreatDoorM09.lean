/- More weakenings; a slice without elements as an argument. No program, no condition. -/
import Derived.Test.YthgbkalgmicniaaGreatDoorM07
import Derived.Test.YthgbkalgmicniaaGreatDoorM08
import Derived.Test.YthgbkalgmicniaaGreatDoorM04
import Derived.Test.YthgbkalgmicniaaGreatDoorProg
import Derived.KernelRfl
set_option linter.all false
namespace Go.Abs
theorem ZcN {n N:Nat} {tm:List (Nat × AV)} {L:List (Nat × Zk)} {H:Zf} {j0 j i k0:Nat} {cs:List AV} (e k:Nat) (hb:lkb L j0 = some (.box cs)) (hi:cs[i]? = some (.sl k0 [] .full)) (hj:lkb L j = none) :
  AWk n N ⟨tm,L,H⟩ ⟨tm,setb (setb L j (.ZN e k [] 0)) j0 (.box (cs.set i (.msl k n j 0))),H⟩:=fun B E w a hs=>by
 have h:=hs.heap
 obtain ⟨b0,hm0,c,t,hc,hv⟩:=h.box n j0 cs (Nat.lt_succ_self n) (by simp only [full,if_true]; exact hb)
 obtain ⟨hil,hie⟩:=List.getElem?_eq_some_iff.1 hi
 have hvi:=hv.2 i hil (by rw [hv.1]; exact hil)
 rw [hie] at hvi
 have hval:∃ ad,c.toList[i]'(by rw [hv.1]; exact hil) = .slice ad 0 0 ∧ ∀ x,ad = some x → x.spot = none:=by
  generalize c.toList[i]'(by rw [hv.1]; exact hil) = x at hvi
  cases hvi with
  | slnil _ _ a ho ha=>obtain rfl:=ha (by simp); exact ⟨none,rfl,fun _ e=>by cases e⟩
  | sl _ _ _ b off cap c hk hc hv hcap hm ho =>
   have:cap = 0:=ho
   subst this; exact ⟨_,rfl,fun _ e=>by cases e; rfl⟩
 obtain ⟨ad,hval,hsp⟩:=hval
 have hfree:full n L H n j = none:=by simp only [full,if_true]; exact hj
 obtain ⟨hh,hx⟩:=h.adopt (Nat.lt_succ_self n) hfree ad e k true
 have hne:j0 ≠ j:=fun e=>by rw [e,hj] at hb; cases hb
 have hm1:(E.Yy n j (.slice ad 0 0)).m n j0 = some b0:=hm0
 obtain ⟨hh2,hx2⟩:=hh.turn (w':=w) (.inl hm1) (.box (cs.set i (.msl k n j 0))) (fun hg=>absurd (hh.m_g hm1) hg) rfl rfl rfl (fun _=>Nat.le_refl _) rfl (fun _ _=>rfl) (fun o=>hh.mF _ _ _ o hm1)
  ⟨b0,hm1,c,t,hc,by rw [List.length_set]; exact hv.1,fun i' h1 h2=>by
   rw [List.getElem_set]
   split
   ·rename_i e1; subst e1
    rw [hval]; exact .mnil _ _ _ _ (by simp [Env.Yy]) hsp
   ·exact (hv.2 i' (by simpa using h1) h2).mono h.norm hx.le⟩
 have hxx:=hx.trans hx2
 refine ⟨_,⟨hs.size,hs.defs.ext hxx,fun t'=>(hs.tmps t').mono h.norm hxx.le,?_,hs.out⟩,hxx.mono (Nat.le_succ n)⟩
 show ZJ (n + 1) (full n (setb (setb L j _) j0 _) H) _ _
 rw [ZU,ZU]; exact hh2
theorem Wl {cx:Cx} {c:Code} {k:List Itm} {Q:Exit → Zh → Prop} {tm:List (Nat × AV)} {L:List (Nat × Zk)} {H:Zf} {k0:Nat} {cs:List AV} (j0 j i e sz:Nat) (hb:lkb L j0 = some (.box cs)) (hi:cs[i]? = some (.sl k0 [] .full)) (hj:lkb L j = none)
  (h:AKc cx (.code c :: k) Q ⟨tm,setb (setb L j (.ZN e sz [] 0)) j0 (.box (cs.set i (.msl sz cx.n j 0))),H⟩):AKc cx (.code c :: k) Q ⟨tm,L,H⟩ :=
 Yx (ZcN e sz hb hi hj) h
theorem X5 {n N:Nat} {tm tm':List (Nat × AV)} {L:List (Nat × Zk)} {H:Zf} {j0 j i e sz k sz0:Nat} {cs0 cs:List AV} (T:Nat) (hT:T < N) (xs:List AV) (hne:j0 ≠ j) (hj0:lkb L j0 = some (.box cs0)) (hi:cs0[i]? = some (.msl sz0 n j k)) (hb:lkb L j = some (.ZN e sz cs k))
  (hfl:flat xs = cs) (hxl:xs.length = k) (hxk:∀ x ∈ xs,x.cells.length = sz) (hcs:∀ c ∈ cs,Inside n (fun k=>k ≠ j) c) (h1:∀ p ∈ tm',p.1 ≠ T ∧ Wk (lkv tm p.1) p.2 ∧ Inside n (fun k=>k ≠ j) (lkv tm p.1))
  (hL:∀ p ∈ delb (setb L j0 (.box (cs0.set i .dead))) j,p.2.Inside n (fun k=>k ≠ j)) :
  AWk n N ⟨tm,L,H⟩ ⟨tm',setb (delb (setb L j0 (.box (cs0.set i .dead))) j) j0 (.box (cs0.set i (.sl sz xs .any))),H⟩:=fun B E w a hs=>by
 have h:=hs.heap
 obtain ⟨b0,hm0,c,t,hc,hv⟩:=h.box n j0 cs0 (Nat.lt_succ_self n) (by simp only [full,if_true]; exact hj0)
 obtain ⟨hil,hie⟩:=List.getElem?_eq_some_iff.1 hi
 have hcl:i < c.toList.length:=by rw [hv.1]; exact hil
 have hvi:=hv.2 i hil hcl
 rw [hie] at hvi
 obtain ⟨hh2,hx2⟩:=h.turn (w':=w) (.inl hm0) (.box (cs0.set i .dead)) (fun hg=>absurd (h.m_g hm0) hg) rfl rfl rfl (fun _=>Nat.le_refl _) rfl (fun _ _=>rfl) (fun o=>h.mF _ _ _ o hm0)
  ⟨b0,hm0,c,t,hc,by rw [List.length_set]; exact hv.1,fun i' g1 g2=>by
   rw [List.getElem_set]
   split
   ·exact .dead _
   ·exact hv.2 i' (by simpa using g1) g2⟩
 rw [← ZU] at hh2
 have hb2:lkb (setb L j0 (.box (cs0.set i .dead))) j = some (.ZN e sz cs k):=by rw [lkb_setb,if_neg (fun e=>hne e.symm)]; exact hb
 have hs1:WZ B n N ⟨(T,.msl sz0 n j k) :: tm,setb L j0 (.box (cs0.set i .dead)),H⟩ E { a with tmps:=a.tmps.setIfInBounds T c.toList[i] } w:=by
  refine ⟨by simpa using hs.size,hs.defs,fun t'=>?_,hh2,hs.out⟩
  show VR E (lkv ((T,.msl sz0 n j k) :: tm) t') _
  simp only [lkv,Array.getD_eq_getD_getElem?]
  by_cases ht:T = t'
  ·subst ht
   rw [if_pos rfl]
   have:T < a.tmps.size:=by rw [hs.size]; exact hT
   simpa [this] using hvi
  ·rw [if_neg ht,Array.getElem?_setIfInBounds_ne ht]
   have:=hs.tmps t'
   rwa [Array.getD_eq_getD_getElem?] at this
 obtain ⟨o,hs2,hx3⟩:=Zdm (tm':=(T,.sl sz xs .any) :: tm') xs hb2 hfl hxl hxk hcs (fun p hp=>by
  rcases List.mem_cons.1 hp with rfl | hp
  ·exact .inr (.inl ⟨sz0,by simp [lkv],rfl⟩)
  ·obtain ⟨g1,g2,g3⟩:=h1 p hp
   have e:lkv ((T,.msl sz0 n j k) :: tm) p.1 = lkv tm p.1:=by simp only [lkv,if_neg (Ne.symm g1)]
   rw [e]; exact .inl ⟨g2,g3⟩) hL B E w _ hs1
 have hval:VR (E.freeze n j o) (.sl sz xs .any) c.toList[i]:=by
  have:=hs2.tmps T
  simp only [lkv,if_true,Array.getD_eq_getD_getElem?] at this
  have hTs:T < a.tmps.size:=by rw [hs.size]; exact hT
  simpa [hTs] using this
 have hm0':(E.freeze n j o).m n j0 = some b0:=by simp only [Env.freeze]; rw [if_neg (fun e=>hne e.2)]; exact hm0
 have hcur:lkb (delb (setb L j0 (.box (cs0.set i .dead))) j) j0 = some (.box (cs0.set i .dead)):=by
  rw [lkb_delb,if_neg hne,lkb_setb,if_pos rfl]
 obtain ⟨b1,hm1,c1,t1,hc1,hv1⟩:=hs2.heap.box n j0 _ (Nat.lt_succ_self n) (by simp only [full,if_true]; exact hcur)
 rw [hm0'] at hm1; cases hm1
 rw [hc] at hc1; cases hc1
 obtain ⟨hh4,hx4⟩:=hs2.heap.turn (w':=w) (.inl hm0') (.box (cs0.set i (.sl sz xs .any))) (fun hg=>absurd (hs2.heap.m_g hm0') hg) rfl rfl rfl (fun _=>Nat.le_refl _) rfl (fun _ _=>rfl) (fun o=>hs2.heap.mF _ _ _ o hm0')
  ⟨b0,hm0',c,t,hc,by rw [List.length_set]; exact hv.1,fun i' g1 g2=>by
   rw [List.getElem_set]
   split
   ·rename_i e; subst e; exact hval
   ·rename_i e
    have:=hv1.2 i' (by simpa using g1) g2
    rwa [List.getElem_set_ne e] at this⟩
 rw [← ZU] at hh4
 refine ⟨E.freeze n j o,⟨hs.size,hs.defs.ext hx3,fun t'=>?_,hh4,hs.out⟩,hx3⟩
 rcases lkv_mem (tm:=tm') (t:=t') with hd | hmm
 ·show VR _ (lkv tm' t') _
  rw [hd]; exact .dead _
 ·obtain ⟨g1,_,_⟩:=h1 _ hmm
  have:=hs2.tmps t'
  simp only [lkv,if_neg (Ne.symm g1),Array.getD_eq_getD_getElem?] at this
  rw [Array.getElem?_setIfInBounds_ne (Ne.symm g1)] at this
  show VR _ (lkv tm' t') _
  rwa [Array.getD_eq_getD_getElem?]
theorem Zr.ZeJ {P:Program} {n:Nat} {f:FuncId} {args:List AV} {H:Zf} {Q:AV → Zf → Prop} {k:Nat} {o:Own} (h1:Zr P n f (.Y8 :: args) H Q) (h2:Zr P n f (.sln k :: args) H Q):Zr P n f (.sl k [] o :: args) H Q:=fun E w vs hr hv=>by
 obtain ⟨v,r,rfl,hv1,hv2⟩:=hv.YR
 rcases hv1.ZeJ with h | h
 ·exact h1 E w _ hr (VRs.cons h hv2)
 ·exact h2 E w _ hr (VRs.cons h hv2)
theorem Zr.args {P:Program} {n:Nat} {f:FuncId} {args args':List AV} {H:Zf} {Q:AV → Zf → Prop} (h:Zr P n f args H Q) (hw:Wks args' args):Zr P n f args' H Q:=fun E w vs hr hv=>h E w vs hr (forall₂_vr hw hv)
theorem Pure.args {P:Program} {f:FuncId} {args args':List AV} {r:AV} (h:Pure P f args r) (hw:Wks args' args):Pure P f args' r:=fun n H=>(h n H).args hw
theorem Wk.sln (k:Nat):Wk (.sln k) (.sl k [] .any):=.sem fun _ _ h=>h.Zlx
theorem Wk.Y8 (k:Nat):Wk .Y8 (.sl k [] .full):=.sem fun _ _ h=>h.ZjI
end Go.Abs

/- Ground instances and ground programs as plain data, and as abstract values. No program. -/
namespace Go.Abs
structure GL where
 no:Bool
 a:Am
structure GE where
 tuple:List Tm
 cond:List GL
structure GB where
 kind:Int
 lit:GL
 no:Bool
 fn:Int
 elems:List GE
 op:Int
 bound:Int
structure Ins where
 kind:Int
 heads:List Am
 lower:Int
 upper:Int
 body:List GB
 weight:Int
 level:Int
 tuple:List Tm
structure GR where
 choice:Bool
 head:List Int
 sum:Bool
 bound:Int
 body:List Int
 w:List Int
structure GM where
 level:Int
 lits:List Int
 w:List Int
structure GP where
 n:Int
 names:List (List UInt8)
 shows:List Int
 rules:List GR
 min:List GM
abbrev Zw (l:List Int):AV:=.sl 1 (l.map (AV.int .i64)) .any
def GL.cs (x:GL):List AV:=[.bool x.no,.str x.a.pred,.sl 4 (x.a.args.map Tm.enc) .any]
def GL.enc (x:GL):AV:=.agg x.cs
def GE.cs (x:GE):List AV:=[.sl 4 (x.tuple.map Tm.enc) .any,.sl 3 (x.cond.map GL.enc) .any]
def GE.enc (x:GE):AV:=.agg x.cs
def GB.cs (x:GB):List AV:=[.int .u8 x.kind,.bool x.lit.no,.str x.lit.a.pred,.sl 4 (x.lit.a.args.map Tm.enc) .any,.bool x.no,.int .u8 x.fn,.sl 2 (x.elems.map GE.enc) .any,.int .u8 x.op,.int .i64 x.bound]
def GB.enc (x:GB):AV:=.agg x.cs
def Ins.cs (x:Ins):List AV:=[.int .u8 x.kind,.sl 2 (x.heads.map Am.enc) .any,.int .i64 x.lower,.int .i64 x.upper,.sl 9 (x.body.map GB.enc) .any,.int .i64 x.weight,.int .i64 x.level,.sl 4 (x.tuple.map Tm.enc) .any]
def Ins.enc (x:Ins):AV:=.agg x.cs
def GR.cs (x:GR):List AV:=[.bool x.choice,Zw x.head,.bool x.sum,.int .i64 x.bound,Zw x.body,Zw x.w]
def GR.enc (x:GR):AV:=.agg x.cs
def GM.cs (x:GM):List AV:=[.int .i64 x.level,Zw x.lits,Zw x.w]
def GM.enc (x:GM):AV:=.agg x.cs
def GP.cs (x:GP):List AV:=[.int .i64 x.n,.sl 1 (x.names.map .str) .any,Zw x.shows,.sl 6 (x.rules.map GR.enc) .any,.sl 3 (x.min.map GM.enc) .any]
def GP.enc (x:GP):AV:=.agg x.cs
theorem Zz {n:Nat} (l:List Int):Below n (Zw l):=ZK fun x hx=>by obtain ⟨u,_,rfl⟩:=List.mem_map.1 hx; exact .int _ _
theorem GL.bcs {n:Nat} (x:GL):Yj (fun c=>Below n c) x.cs:=⟨.bool _,.str _,ZB _,trivial⟩
theorem GL.blw (n:Nat) (x:GL):Below n x.enc:=YL x.bcs.mem
theorem Xm {n k:Nat} (l:List GL):Below n (.sl k (l.map GL.enc) .any):=ZK fun x hx=>by obtain ⟨u,_,rfl⟩:=List.mem_map.1 hx; exact u.blw n
theorem GE.bcs {n:Nat} (x:GE):Yj (fun c=>Below n c) x.cs:=⟨ZB _,Xm _,trivial⟩
theorem GE.blw (n:Nat) (x:GE):Below n x.enc:=YL x.bcs.mem
theorem Zx {n k:Nat} (l:List GE):Below n (.sl k (l.map GE.enc) .any):=ZK fun x hx=>by obtain ⟨u,_,rfl⟩:=List.mem_map.1 hx; exact u.blw n
theorem GB.bcs {n:Nat} (x:GB):Yj (fun c=>Below n c) x.cs:=⟨.int _ _,.bool _,.str _,ZB _,.bool _,.int _ _,Zx _,.int _ _,.int _ _,trivial⟩
theorem GB.blw (n:Nat) (x:GB):Below n x.enc:=YL x.bcs.mem
theorem ZF {n k:Nat} (l:List GB):Below n (.sl k (l.map GB.enc) .any):=ZK fun x hx=>by obtain ⟨u,_,rfl⟩:=List.mem_map.1 hx; exact u.blw n
theorem Ins.bcs {n:Nat} (x:Ins):Yj (fun c=>Below n c) x.cs:=⟨.int _ _,ZO _,.int _ _,.int _ _,ZF _,.int _ _,.int _ _,ZB _,trivial⟩
theorem Ins.blw (n:Nat) (x:Ins):Below n x.enc:=YL x.bcs.mem
theorem Zu {n k:Nat} (l:List Ins):Below n (.sl k (l.map Ins.enc) .any):=ZK fun x hx=>by obtain ⟨u,_,rfl⟩:=List.mem_map.1 hx; exact u.blw n
theorem GR.bcs {n:Nat} (x:GR):Yj (fun c=>Below n c) x.cs:=⟨.bool _,Zz _,.bool _,.int _ _,Zz _,Zz _,trivial⟩
theorem GR.blw (n:Nat) (x:GR):Below n x.enc:=YL x.bcs.mem
theorem Zef {n k:Nat} (l:List GR):Below n (.sl k (l.map GR.enc) .any):=ZK fun x hx=>by obtain ⟨u,_,rfl⟩:=List.mem_map.1 hx; exact u.blw n
theorem GM.bcs {n:Nat} (x:GM):Yj (fun c=>Below n c) x.cs:=⟨.int _ _,Zz _,Zz _,trivial⟩
theorem GM.blw (n:Nat) (x:GM):Below n x.enc:=YL x.bcs.mem
theorem WE {n k:Nat} (l:List GM):Below n (.sl k (l.map GM.enc) .any):=ZK fun x hx=>by obtain ⟨u,_,rfl⟩:=List.mem_map.1 hx; exact u.blw n
theorem GP.bcs {n:Nat} (x:GP):Yj (fun c=>Below n c) x.cs:=⟨.int _ _,Xh _,Zz _,Zef _,WE _,trivial⟩
theorem GP.blw (n:Nat) (x:GP):Below n x.enc:=YL x.bcs.mem
theorem GL.YG (x:GL):x.enc.cells = [.bool x.no,.str x.a.pred,.sl 4 (x.a.args.map Tm.enc) .any]:=rfl
theorem GL.fold (x:GL):AV.agg [.bool x.no,.str x.a.pred,.sl 4 (x.a.args.map Tm.enc) .any] = x.enc:=rfl
theorem GE.YG (x:GE):x.enc.cells = [.sl 4 (x.tuple.map Tm.enc) .any,.sl 3 (x.cond.map GL.enc) .any]:=rfl
theorem GE.fold (x:GE):AV.agg [.sl 4 (x.tuple.map Tm.enc) .any,.sl 3 (x.cond.map GL.enc) .any] = x.enc:=rfl
theorem GB.YG (x:GB):x.enc.cells = [.int .u8 x.kind,.bool x.lit.no,.str x.lit.a.pred,.sl 4 (x.lit.a.args.map Tm.enc) .any,.bool x.no,.int .u8 x.fn,.sl 2 (x.elems.map GE.enc) .any,.int .u8 x.op,.int .i64 x.bound]:=rfl
theorem GB.fold (x:GB):AV.agg [.int .u8 x.kind,.bool x.lit.no,.str x.lit.a.pred,.sl 4 (x.lit.a.args.map Tm.enc) .any,.bool x.no,.int .u8 x.fn,.sl 2 (x.elems.map GE.enc) .any,.int .u8 x.op,.int .i64 x.bound] = x.enc:=rfl
theorem Ins.YG (x:Ins):x.enc.cells = [.int .u8 x.kind,.sl 2 (x.heads.map Am.enc) .any,.int .i64 x.lower,.int .i64 x.upper,.sl 9 (x.body.map GB.enc) .any,.int .i64 x.weight,.int .i64 x.level,.sl 4 (x.tuple.map Tm.enc) .any]:=rfl
theorem Ins.fold (x:Ins):AV.agg [.int .u8 x.kind,.sl 2 (x.heads.map Am.enc) .any,.int .i64 x.lower,.int .i64 x.upper,.sl 9 (x.body.map GB.enc) .any,.int .i64 x.weight,.int .i64 x.level,.sl 4 (x.tuple.map Tm.enc) .any] = x.enc:=rfl
theorem GR.YG (x:GR):x.enc.cells = [.bool x.choice,Zw x.head,.bool x.sum,.int .i64 x.bound,Zw x.body,Zw x.w]:=rfl
theorem GR.fold (x:GR):AV.agg [.bool x.choice,Zw x.head,.bool x.sum,.int .i64 x.bound,Zw x.body,Zw x.w] = x.enc:=rfl
theorem GM.YG (x:GM):x.enc.cells = [.int .i64 x.level,Zw x.lits,Zw x.w]:=rfl
theorem GM.fold (x:GM):AV.agg [.int .i64 x.level,Zw x.lits,Zw x.w] = x.enc:=rfl
theorem GP.YG (x:GP):x.enc.cells = [.int .i64 x.n,.sl 1 (x.names.map .str) .any,Zw x.shows,.sl 6 (x.rules.map GR.enc) .any,.sl 3 (x.min.map GM.enc) .any]:=rfl
theorem GP.fold (x:GP):AV.agg [.int .i64 x.n,.sl 1 (x.names.map .str) .any,Zw x.shows,.sl 6 (x.rules.map GR.enc) .any,.sl 3 (x.min.map GM.enc) .any] = x.enc:=rfl
attribute [go_sem] GL.YG GL.fold GL.cs GE.YG GE.fold GE.cs GB.YG GB.fold GB.cs Ins.YG Ins.fold Ins.cs GR.YG GR.fold GR.cs GM.YG GM.fold GM.cs GP.YG GP.fold GP.cs
inductive Cnd where
 | lit (x:Int)
 | con (b:Bool)
 | pend (l k:Nat) (w:List (Int × Int)) (n:Int)
def Cnd.enc:Cnd → AV
 | .lit x=>.ifc 160 (.int .i64 x)
 | .con b=>.ifc 261 (.bool b)
 | .pend l k _ n=>.ifc 263 (.agg [.map l k,.int .i64 n])
theorem Cnd.Jb (c:Cnd):c.enc.cells = [c.enc]:=by cases c <;> rfl
theorem Cnd.Zks (c:Cnd):ones c.enc = true:=by cases c <;> rfl
attribute [go_sem] Cnd.Jb Cnd.Zks
end Go.Abs

/- The small table of types of this translation, held against it. -/
namespace Go.Proofs.YthgbkalgmicniaaGreatDoor
open Go.Abs
set_option maxRecDepth 100000
def rows:List (TypeId × ZE):=[
 (2,⟨.int .i64,1,8,[.int .i64 0]⟩),
 (3,⟨.int .i64,1,8,[.int .i64 0]⟩),
 (4,⟨.bool,1,1,[.bool false]⟩),
 (5,⟨.int .u8,1,1,[.int .u8 0]⟩),
 (6,⟨.int .u8,1,1,[.int .u8 0]⟩),
 (7,⟨.struct [(0,2),(1,3),(2,4),(3,6)],4,24,[.int .i64 0,.int .i64 0,.bool false,.int .u8 0]⟩),
 (8,⟨.struct [(0,2),(1,3),(2,4),(3,6)],4,24,[.int .i64 0,.int .i64 0,.bool false,.int .u8 0]⟩),
 (9,⟨.str,1,16,[.str []]⟩),
 (20,⟨.iface,1,16,[.nili]⟩),
 (22,⟨.slice 31,1,24,[.sl 8 [] .full]⟩),
 (23,⟨.slice 59,1,24,[.sl 2 [] .full]⟩),
 (25,⟨.func,1,8,[.nilf]⟩),
 (27,⟨.slice 33,1,24,[.sl 2 [] .full]⟩),
 (28,⟨.slice 52,1,24,[.sl 9 [] .full]⟩),
 (29,⟨.slice 47,1,24,[.sl 4 [] .full]⟩),
 (31,⟨.struct [(0,5),(1,27),(2,3),(3,3),(4,28),(5,3),(6,3),(7,29)],8,112,[.int .u8 0,.sl 2 [] .full,.int .i64 0,.int .i64 0,.sl 9 [] .full,.int .i64 0,.int .i64 0,.sl 4 [] .full]⟩),
 (33,⟨.struct [(0,9),(1,29)],2,40,[.str [],.sl 4 [] .full]⟩),
 (36,⟨.func,1,8,[.nilf]⟩),
 (37,⟨.func,1,8,[.nilf]⟩),
 (39,⟨.slice 44,1,24,[.sl 3 [] .full]⟩),
 (41,⟨.struct [(0,29),(1,39)],2,48,[.sl 4 [] .full,.sl 3 [] .full]⟩),
 (44,⟨.struct [(0,4),(1,33)],3,48,[.bool false,.str [],.sl 4 [] .full]⟩),
 (47,⟨.struct [(0,5),(1,3),(2,9),(3,29)],4,56,[.int .u8 0,.int .i64 0,.str [],.sl 4 [] .full]⟩),
 (49,⟨.func,1,8,[.nilf]⟩),
 (50,⟨.slice 41,1,24,[.sl 2 [] .full]⟩),
 (52,⟨.struct [(0,5),(1,44),(4,4),(5,5),(6,50),(7,5),(8,3)],9,104,[.int .u8 0,.bool false,.str [],.sl 4 [] .full,.bool false,.int .u8 0,.sl 2 [] .full,.int .u8 0,.int .i64 0]⟩),
 (59,⟨.struct [(0,9),(1,3)],2,24,[.str [],.int .i64 0]⟩),
 (60,⟨.slice 9,1,24,[.sl 1 [] .full]⟩),
 (61,⟨.slice 3,1,24,[.sl 1 [] .full]⟩),
 (62,⟨.slice 70,1,24,[.sl 6 [] .full]⟩),
 (63,⟨.slice 75,1,24,[.sl 3 [] .full]⟩),
 (65,⟨.struct [(0,3),(1,60),(2,61),(3,62),(4,63)],5,104,[.int .i64 0,.sl 1 [] .full,.sl 1 [] .full,.sl 6 [] .full,.sl 3 [] .full]⟩),
 (66,⟨.int .i64,1,8,[.int .i64 0]⟩),
 (70,⟨.struct [(0,4),(1,61),(2,4),(3,3),(4,61),(5,61)],6,96,[.bool false,.sl 1 [] .full,.bool false,.int .i64 0,.sl 1 [] .full,.sl 1 [] .full]⟩),
 (75,⟨.struct [(0,3),(1,61),(2,61)],3,56,[.int .i64 0,.sl 1 [] .full,.sl 1 [] .full]⟩),
 (90,⟨.func,1,8,[.nilf]⟩),
 (91,⟨.func,1,8,[.nilf]⟩),
 (92,⟨.func,1,8,[.nilf]⟩),
 (93,⟨.func,1,8,[.nilf]⟩),
 (96,⟨.func,1,8,[.nilf]⟩),
 (98,⟨.func,1,8,[.nilf]⟩),
 (104,⟨.func,1,8,[.nilf]⟩),
 (106,⟨.ptr,1,8,[.nilp]⟩),
 (107,⟨.map 9 3,1,8,[.nilm]⟩),
 (109,⟨.struct [(0,27),(1,107)],2,32,[.sl 2 [] .full,.nilm]⟩),
 (111,⟨.map 9 173,1,8,[.nilm]⟩),
 (112,⟨.slice 173,1,24,[.sl 1 [] .full]⟩),
 (114,⟨.struct [(0,109),(2,3),(3,62),(4,112),(5,111),(6,66)],7,104,[.sl 2 [] .full,.nilm,.int .i64 0,.sl 6 [] .full,.sl 1 [] .full,.nilm,.int .i64 0]⟩),
 (117,⟨.func,1,8,[.nilf]⟩),
 (132,⟨.func,1,8,[.nilf]⟩),
 (155,⟨.func,1,8,[.nilf]⟩),
 (159,⟨.slice 260,1,24,[.sl 1 [] .full]⟩),
 (160,⟨.int .i64,1,8,[.int .i64 0]⟩),
 (161,⟨.func,1,8,[.nilf]⟩),
 (167,⟨.func,1,8,[.nilf]⟩),
 (173,⟨.ptr,1,8,[.nilp]⟩),
 (175,⟨.func,1,8,[.nilf]⟩),
 (176,⟨.slice 61,1,24,[.sl 1 [] .full]⟩),
 (178,⟨.struct [(0,3),(1,3),(2,29),(3,176)],4,64,[.int .i64 0,.int .i64 0,.sl 4 [] .full,.sl 1 [] .full]⟩),
 (180,⟨.func,1,8,[.nilf]⟩),
 (181,⟨.func,1,8,[.nilf]⟩),
 (183,⟨.map 3 3,1,8,[.nilm]⟩),
 (187,⟨.ptr,1,8,[.nilp]⟩),
 (230,⟨.func,1,8,[.nilf]⟩),
 (231,⟨.func,1,8,[.nilf]⟩),
 (235,⟨.struct [(0,47)],4,56,[.int .u8 0,.int .i64 0,.str [],.sl 4 [] .full]⟩),
 (241,⟨.ptr,1,8,[.nilp]⟩),
 (242,⟨.slice 5,1,24,[.sl 1 [] .full]⟩),
 (244,⟨.struct [(0,241),(1,242)],2,32,[.nilp,.sl 1 [] .full]⟩),
 (247,⟨.iface,1,16,[.nili]⟩),
 (253,⟨.ptr,1,8,[.nilp]⟩),
 (256,⟨.int .u64,1,8,[.int .u64 0]⟩),
 (260,⟨.iface,1,16,[.nili]⟩),
 (261,⟨.bool,1,1,[.bool false]⟩),
 (263,⟨.struct [(0,183),(1,3)],2,16,[.nilm,.int .i64 0]⟩),
 (264,⟨.func,1,8,[.nilf]⟩),
 (266,⟨.func,1,8,[.nilf]⟩),
 (267,⟨.array 7 266,7,56,[.nilf,.nilf,.nilf,.nilf,.nilf,.nilf,.nilf]⟩),
 (276,⟨.func,1,8,[.nilf]⟩),
 (278,⟨.func,1,8,[.nilf]⟩),
 (281,⟨.func,1,8,[.nilf]⟩),
 (283,⟨.func,1,8,[.nilf]⟩),
 (284,⟨.func,1,8,[.nilf]⟩),
 (287,⟨.func,1,8,[.nilf]⟩),
 (305,⟨.map 5 25,1,8,[.nilm]⟩),
 (306,⟨.func,1,8,[.nilf]⟩),
 (308,⟨.ptr,1,8,[.nilp]⟩),
 (310,⟨.int .u64,1,8,[.int .u64 0]⟩),
 (312,⟨.int .i64,1,8,[.int .i64 0]⟩),
 (319,⟨.int .u32,1,4,[.int .u32 0]⟩),
 (321,⟨.map 9 176,1,8,[.nilm]⟩),
 (322,⟨.map 9 29,1,8,[.nilm]⟩),
 (344,⟨.ptr,1,8,[.nilp]⟩),
 (349,⟨.int .u64,1,8,[.int .u64 0]⟩),
 (353,⟨.ptr,1,8,[.nilp]⟩),
 (369,⟨.ptr,1,8,[.nilp]⟩),
 (374,⟨.array 24 5,24,24,[.int .u8 0,.int .u8 0,.int .u8 0,.int .u8 0,.int .u8 0,.int .u8 0,.int .u8 0,.int .u8 0,.int .u8 0,.int .u8 0,.int .u8 0,.int .u8 0,.int .u8 0,.int .u8 0,.int .u8 0,.int .u8 0,.int .u8 0,.int .u8 0,.int .u8 0,.int .u8 0,.int .u8 0,.int .u8 0,.int .u8 0,.int .u8 0]⟩),
 (384,⟨.array 20 310,20,160,[.int .u64 0,.int .u64 0,.int .u64 0,.int .u64 0,.int .u64 0,.int .u64 0,.int .u64 0,.int .u64 0,.int .u64 0,.int .u64 0,.int .u64 0,.int .u64 0,.int .u64 0,.int .u64 0,.int .u64 0,.int .u64 0,.int .u64 0,.int .u64 0,.int .u64 0,.int .u64 0]⟩),
 (394,⟨.array 32 5,32,32,[.int .u8 0,.int .u8 0,.int .u8 0,.int .u8 0,.int .u8 0,.int .u8 0,.int .u8 0,.int .u8 0,.int .u8 0,.int .u8 0,.int .u8 0,.int .u8 0,.int .u8 0,.int .u8 0,.int .u8 0,.int .u8 0,.int .u8 0,.int .u8 0,.int .u8 0,.int .u8 0,.int .u8 0,.int .u8 0,.int .u8 0,.int .u8 0,.int .u8 0,.int .u8 0,.int .u8 0,.int .u8 0,.int .u8 0,.int .u8 0,.int .u8 0,.int .u8 0]⟩)
]
def tt:TT:=fun t=>(rows.find? (·.1 == t)).map (·.2)
theorem tok:TOK Tryz.prog tt:=Zev (by kernel_rfl)
theorem mixed:Tryz.prog.follows .mixedOrders = true:=by kernel_rfl
def cxP (P:Program) (φ:Fm) (n N:Nat):Cx:=⟨P,tt,φ,n,N⟩
theorem ttT :
  tt 2 = some ⟨.int .i64,1,8,[.int .i64 0]⟩ ∧
  tt 3 = some ⟨.int .i64,1,8,[.int .i64 0]⟩ ∧
  tt 4 = some ⟨.bool,1,1,[.bool false]⟩ ∧
  tt 5 = some ⟨.int .u8,1,1,[.int .u8 0]⟩ ∧
  tt 6 = some ⟨.int .u8,1,1,[.int .u8 0]⟩ ∧
  tt 7 = some ⟨.struct [(0,2),(1,3),(2,4),(3,6)],4,24,[.int .i64 0,.int .i64 0,.bool false,.int .u8 0]⟩ ∧
  tt 8 = some ⟨.struct [(0,2),(1,3),(2,4),(3,6)],4,24,[.int .i64 0,.int .i64 0,.bool false,.int .u8 0]⟩ ∧
  tt 9 = some ⟨.str,1,16,[.str []]⟩ ∧
  tt 20 = some ⟨.iface,1,16,[.nili]⟩ ∧
  tt 22 = some ⟨.slice 31,1,24,[.sl 8 [] .full]⟩ ∧
  tt 23 = some ⟨.slice 59,1,24,[.sl 2 [] .full]⟩ ∧
  tt 25 = some ⟨.func,1,8,[.nilf]⟩ ∧
  tt 27 = some ⟨.slice 33,1,24,[.sl 2 [] .full]⟩ ∧
  tt 28 = some ⟨.slice 52,1,24,[.sl 9 [] .full]⟩ ∧
  tt 29 = some ⟨.slice 47,1,24,[.sl 4 [] .full]⟩ ∧
  tt 31 = some ⟨.struct [(0,5),(1,27),(2,3),(3,3),(4,28),(5,3),(6,3),(7,29)],8,112,[.int .u8 0,.sl 2 [] .full,.int .i64 0,.int .i64 0,.sl 9 [] .full,.int .i64 0,.int .i64 0,.sl 4 [] .full]⟩ ∧
  tt 33 = some ⟨.struct [(0,9),(1,29)],2,40,[.str [],.sl 4 [] .full]⟩ ∧
  tt 36 = some ⟨.func,1,8,[.nilf]⟩ ∧
  tt 37 = some ⟨.func,1,8,[.nilf]⟩ ∧
  tt 39 = some ⟨.slice 44,1,24,[.sl 3 [] .full]⟩ ∧
  tt 41 = some ⟨.struct [(0,29),(1,39)],2,48,[.sl 4 [] .full,.sl 3 [] .full]⟩ ∧
  tt 44 = some ⟨.struct [(0,4),(1,33)],3,48,[.bool false,.str [],.sl 4 [] .full]⟩ ∧
  tt 47 = some ⟨.struct [(0,5),(1,3),(2,9),(3,29)],4,56,[.int .u8 0,.int .i64 0,.str [],.sl 4 [] .full]⟩ ∧
  tt 49 = some ⟨.func,1,8,[.nilf]⟩ ∧
  tt 50 = some ⟨.slice 41,1,24,[.sl 2 [] .full]⟩ ∧
  tt 52 = some ⟨.struct [(0,5),(1,44),(4,4),(5,5),(6,50),(7,5),(8,3)],9,104,[.int .u8 0,.bool false,.str [],.sl 4 [] .full,.bool false,.int .u8 0,.sl 2 [] .full,.int .u8 0,.int .i64 0]⟩ ∧
  tt 59 = some ⟨.struct [(0,9),(1,3)],2,24,[.str [],.int .i64 0]⟩ ∧
  tt 60 = some ⟨.slice 9,1,24,[.sl 1 [] .full]⟩ ∧
  tt 61 = some ⟨.slice 3,1,24,[.sl 1 [] .full]⟩ ∧
  tt 62 = some ⟨.slice 70,1,24,[.sl 6 [] .full]⟩ ∧
  tt 63 = some ⟨.slice 75,1,24,[.sl 3 [] .full]⟩ ∧
  tt 65 = some ⟨.struct [(0,3),(1,60),(2,61),(3,62),(4,63)],5,104,[.int .i64 0,.sl 1 [] .full,.sl 1 [] .full,.sl 6 [] .full,.sl 3 [] .full]⟩ ∧
  tt 66 = some ⟨.int .i64,1,8,[.int .i64 0]⟩ ∧
  tt 70 = some ⟨.struct [(0,4),(1,61),(2,4),(3,3),(4,61),(5,61)],6,96,[.bool false,.sl 1 [] .full,.bool false,.int .i64 0,.sl 1 [] .full,.sl 1 [] .full]⟩ ∧
  tt 75 = some ⟨.struct [(0,3),(1,61),(2,61)],3,56,[.int .i64 0,.sl 1 [] .full,.sl 1 [] .full]⟩ ∧
  tt 90 = some ⟨.func,1,8,[.nilf]⟩ ∧
  tt 91 = some ⟨.func,1,8,[.nilf]⟩ ∧
  tt 92 = some ⟨.func,1,8,[.nilf]⟩ ∧
  tt 93 = some ⟨.func,1,8,[.nilf]⟩ ∧
  tt 96 = some ⟨.func,1,8,[.nilf]⟩ ∧
  tt 98 = some ⟨.func,1,8,[.nilf]⟩ ∧
  tt 104 = some ⟨.func,1,8,[.nilf]⟩ ∧
  tt 106 = some ⟨.ptr,1,8,[.nilp]⟩ ∧
  tt 107 = some ⟨.map 9 3,1,8,[.nilm]⟩ ∧
  tt 109 = some ⟨.struct [(0,27),(1,107)],2,32,[.sl 2 [] .full,.nilm]⟩ ∧
  tt 111 = some ⟨.map 9 173,1,8,[.nilm]⟩ ∧
  tt 112 = some ⟨.slice 173,1,24,[.sl 1 [] .full]⟩ ∧
  tt 114 = some ⟨.struct [(0,109),(2,3),(3,62),(4,112),(5,111),(6,66)],7,104,[.sl 2 [] .full,.nilm,.int .i64 0,.sl 6 [] .full,.sl 1 [] .full,.nilm,.int .i64 0]⟩ ∧
  tt 117 = some ⟨.func,1,8,[.nilf]⟩ ∧
  tt 132 = some ⟨.func,1,8,[.nilf]⟩ ∧
  tt 155 = some ⟨.func,1,8,[.nilf]⟩ ∧
  tt 159 = some ⟨.slice 260,1,24,[.sl 1 [] .full]⟩ ∧
  tt 160 = some ⟨.int .i64,1,8,[.int .i64 0]⟩ ∧
  tt 161 = some ⟨.func,1,8,[.nilf]⟩ ∧
  tt 167 = some ⟨.func,1,8,[.nilf]⟩ ∧
  tt 173 = some ⟨.ptr,1,8,[.nilp]⟩ ∧
  tt 175 = some ⟨.func,1,8,[.nilf]⟩ ∧
  tt 176 = some ⟨.slice 61,1,24,[.sl 1 [] .full]⟩ ∧
  tt 178 = some ⟨.struct [(0,3),(1,3),(2,29),(3,176)],4,64,[.int .i64 0,.int .i64 0,.sl 4 [] .full,.sl 1 [] .full]⟩ ∧
  tt 180 = some ⟨.func,1,8,[.nilf]⟩ ∧
  tt 181 = some ⟨.func,1,8,[.nilf]⟩ ∧
  tt 183 = some ⟨.map 3 3,1,8,[.nilm]⟩ ∧
  tt 187 = some ⟨.ptr,1,8,[.nilp]⟩ ∧
  tt 230 = some ⟨.func,1,8,[.nilf]⟩ ∧
  tt 231 = some ⟨.func,1,8,[.nilf]⟩ ∧
  tt 235 = some ⟨.struct [(0,47)],4,56,[.int .u8 0,.int .i64 0,.str [],.sl 4 [] .full]⟩ ∧
  tt 241 = some ⟨.ptr,1,8,[.nilp]⟩ ∧
  tt 242 = some ⟨.slice 5,1,24,[.sl 1 [] .full]⟩ ∧
  tt 244 = some ⟨.struct [(0,241),(1,242)],2,32,[.nilp,.sl 1 [] .full]⟩ ∧
  tt 247 = some ⟨.iface,1,16,[.nili]⟩ ∧
  tt 253 = some ⟨.ptr,1,8,[.nilp]⟩ ∧
  tt 256 = some ⟨.int .u64,1,8,[.int .u64 0]⟩ ∧
  tt 260 = some ⟨.iface,1,16,[.nili]⟩ ∧
  tt 261 = some ⟨.bool,1,1,[.bool false]⟩ ∧
  tt 263 = some ⟨.struct [(0,183),(1,3)],2,16,[.nilm,.int .i64 0]⟩ ∧
  tt 264 = some ⟨.func,1,8,[.nilf]⟩ ∧
  tt 266 = some ⟨.func,1,8,[.nilf]⟩ ∧
  tt 267 = some ⟨.array 7 266,7,56,[.nilf,.nilf,.nilf,.nilf,.nilf,.nilf,.nilf]⟩ ∧
  tt 276 = some ⟨.func,1,8,[.nilf]⟩ ∧
  tt 278 = some ⟨.func,1,8,[.nilf]⟩ ∧
  tt 281 = some ⟨.func,1,8,[.nilf]⟩ ∧
  tt 283 = some ⟨.func,1,8,[.nilf]⟩ ∧
  tt 284 = some ⟨.func,1,8,[.nilf]⟩ ∧
  tt 287 = some ⟨.func,1,8,[.nilf]⟩ ∧
  tt 305 = some ⟨.map 5 25,1,8,[.nilm]⟩ ∧
  tt 306 = some ⟨.func,1,8,[.nilf]⟩ ∧
  tt 308 = some ⟨.ptr,1,8,[.nilp]⟩ ∧
  tt 310 = some ⟨.int .u64,1,8,[.int .u64 0]⟩ ∧
  tt 312 = some ⟨.int .i64,1,8,[.int .i64 0]⟩ ∧
  tt 319 = some ⟨.int .u32,1,4,[.int .u32 0]⟩ ∧
  tt 321 = some ⟨.map 9 176,1,8,[.nilm]⟩ ∧
  tt 322 = some ⟨.map 9 29,1,8,[.nilm]⟩ ∧
  tt 344 = some ⟨.ptr,1,8,[.nilp]⟩ ∧
  tt 349 = some ⟨.int .u64,1,8,[.int .u64 0]⟩ ∧
  tt 353 = some ⟨.ptr,1,8,[.nilp]⟩ ∧
  tt 369 = some ⟨.ptr,1,8,[.nilp]⟩ ∧
  tt 374 = some ⟨.array 24 5,24,24,[.int .u8 0,.int .u8 0,.int .u8 0,.int .u8 0,.int .u8 0,.int .u8 0,.int .u8 0,.int .u8 0,.int .u8 0,.int .u8 0,.int .u8 0,.int .u8 0,.int .u8 0,.int .u8 0,.int .u8 0,.int .u8 0,.int .u8 0,.int .u8 0,.int .u8 0,.int .u8 0,.int .u8 0,.int .u8 0,.int .u8 0,.int .u8 0]⟩ ∧
  tt 384 = some ⟨.array 20 310,20,160,[.int .u64 0,.int .u64 0,.int .u64 0,.int .u64 0,.int .u64 0,.int .u64 0,.int .u64 0,.int .u64 0,.int .u64 0,.int .u64 0,.int .u64 0,.int .u64 0,.int .u64 0,.int .u64 0,.int .u64 0,.int .u64 0,.int .u64 0,.int .u64 0,.int .u64 0,.int .u64 0]⟩ ∧
  tt 394 = some ⟨.array 32 5,32,32,[.int .u8 0,.int .u8 0,.int .u8 0,.int .u8 0,.int .u8 0,.int .u8 0,.int .u8 0,.int .u8 0,.int .u8 0,.int .u8 0,.int .u8 0,.int .u8 0,.int .u8 0,.int .u8 0,.int .u8 0,.int .u8 0,.int .u8 0,.int .u8 0,.int .u8 0,.int .u8 0,.int .u8 0,.int .u8 0,.int .u8 0,.int .u8 0,.int .u8 0,.int .u8 0,.int .u8 0,.int .u8 0,.int .u8 0,.int .u8 0,.int .u8 0,.int .u8 0]⟩:=by
 refine ⟨?_,?_,?_,?_,?_,?_,?_,?_,?_,?_,?_,?_,?_,?_,?_,?_,?_,?_,?_,?_,?_,?_,?_,?_,?_,?_,?_,?_,?_,?_,?_,?_,?_,?_,?_,?_,?_,?_,?_,?_,?_,?_,?_,?_,?_,?_,?_,?_,?_,?_,?_,?_,?_,?_,?_,?_,?_,?_,?_,?_,?_,?_,?_,?_,?_,?_,?_,?_,?_,?_,?_,?_,?_,?_,?_,?_,?_,?_,?_,?_,?_,?_,?_,?_,?_,?_,?_,?_,?_,?_,?_,?_,?_,?_,?_,?_,?_,?_,?_⟩ <;> rfl
theorem ttF :
  Zv tt 7 0 = some (0,⟨.int .i64,1,8,[.int .i64 0]⟩) ∧
  Zv tt 7 1 = some (1,⟨.int .i64,1,8,[.int .i64 0]⟩) ∧
  Zv tt 7 2 = some (2,⟨.bool,1,1,[.bool false]⟩) ∧
  Zv tt 7 3 = some (3,⟨.int .u8,1,1,[.int .u8 0]⟩) ∧
  Zv tt 8 0 = some (0,⟨.int .i64,1,8,[.int .i64 0]⟩) ∧
  Zv tt 8 1 = some (1,⟨.int .i64,1,8,[.int .i64 0]⟩) ∧
  Zv tt 8 2 = some (2,⟨.bool,1,1,[.bool false]⟩) ∧
  Zv tt 8 3 = some (3,⟨.int .u8,1,1,[.int .u8 0]⟩) ∧
  Zv tt 31 0 = some (0,⟨.int .u8,1,1,[.int .u8 0]⟩) ∧
  Zv tt 31 1 = some (1,⟨.slice 33,1,24,[.sl 2 [] .full]⟩) ∧
  Zv tt 31 2 = some (2,⟨.int .i64,1,8,[.int .i64 0]⟩) ∧
  Zv tt 31 3 = some (3,⟨.int .i64,1,8,[.int .i64 0]⟩) ∧
  Zv tt 31 4 = some (4,⟨.slice 52,1,24,[.sl 9 [] .full]⟩) ∧
  Zv tt 31 5 = some (5,⟨.int .i64,1,8,[.int .i64 0]⟩) ∧
  Zv tt 31 6 = some (6,⟨.int .i64,1,8,[.int .i64 0]⟩) ∧
  Zv tt 31 7 = some (7,⟨.slice 47,1,24,[.sl 4 [] .full]⟩) ∧
  Zv tt 33 0 = some (0,⟨.str,1,16,[.str []]⟩) ∧
  Zv tt 33 1 = some (1,⟨.slice 47,1,24,[.sl 4 [] .full]⟩) ∧
  Zv tt 41 0 = some (0,⟨.slice 47,1,24,[.sl 4 [] .full]⟩) ∧
  Zv tt 41 1 = some (1,⟨.slice 44,1,24,[.sl 3 [] .full]⟩) ∧
  Zv tt 44 0 = some (0,⟨.bool,1,1,[.bool false]⟩) ∧
  Zv tt 44 1 = some (1,⟨.struct [(0,9),(1,29)],2,40,[.str [],.sl 4 [] .full]⟩) ∧
  Zv tt 47 0 = some (0,⟨.int .u8,1,1,[.int .u8 0]⟩) ∧
  Zv tt 47 1 = some (1,⟨.int .i64,1,8,[.int .i64 0]⟩) ∧
  Zv tt 47 2 = some (2,⟨.str,1,16,[.str []]⟩) ∧
  Zv tt 47 3 = some (3,⟨.slice 47,1,24,[.sl 4 [] .full]⟩) ∧
  Zv tt 52 0 = some (0,⟨.int .u8,1,1,[.int .u8 0]⟩) ∧
  Zv tt 52 1 = some (1,⟨.struct [(0,4),(1,33)],3,48,[.bool false,.str [],.sl 4 [] .full]⟩) ∧
  Zv tt 52 2 = some (4,⟨.bool,1,1,[.bool false]⟩) ∧
  Zv tt 52 3 = some (5,⟨.int .u8,1,1,[.int .u8 0]⟩) ∧
  Zv tt 52 4 = some (6,⟨.slice 41,1,24,[.sl 2 [] .full]⟩) ∧
  Zv tt 52 5 = some (7,⟨.int .u8,1,1,[.int .u8 0]⟩) ∧
  Zv tt 52 6 = some (8,⟨.int .i64,1,8,[.int .i64 0]⟩) ∧
  Zv tt 59 0 = some (0,⟨.str,1,16,[.str []]⟩) ∧
  Zv tt 59 1 = some (1,⟨.int .i64,1,8,[.int .i64 0]⟩) ∧
  Zv tt 65 0 = some (0,⟨.int .i64,1,8,[.int .i64 0]⟩) ∧
  Zv tt 65 1 = some (1,⟨.slice 9,1,24,[.sl 1 [] .full]⟩) ∧
  Zv tt 65 2 = some (2,⟨.slice 3,1,24,[.sl 1 [] .full]⟩) ∧
  Zv tt 65 3 = some (3,⟨.slice 70,1,24,[.sl 6 [] .full]⟩) ∧
  Zv tt 65 4 = some (4,⟨.slice 75,1,24,[.sl 3 [] .full]⟩) ∧
  Zv tt 70 0 = some (0,⟨.bool,1,1,[.bool false]⟩) ∧
  Zv tt 70 1 = some (1,⟨.slice 3,1,24,[.sl 1 [] .full]⟩) ∧
  Zv tt 70 2 = some (2,⟨.bool,1,1,[.bool false]⟩) ∧
  Zv tt 70 3 = some (3,⟨.int .i64,1,8,[.int .i64 0]⟩) ∧
  Zv tt 70 4 = some (4,⟨.slice 3,1,24,[.sl 1 [] .full]⟩) ∧
  Zv tt 70 5 = some (5,⟨.slice 3,1,24,[.sl 1 [] .full]⟩) ∧
  Zv tt 75 0 = some (0,⟨.int .i64,1,8,[.int .i64 0]⟩) ∧
  Zv tt 75 1 = some (1,⟨.slice 3,1,24,[.sl 1 [] .full]⟩) ∧
  Zv tt 75 2 = some (2,⟨.slice 3,1,24,[.sl 1 [] .full]⟩) ∧
  Zv tt 109 0 = some (0,⟨.slice 33,1,24,[.sl 2 [] .full]⟩) ∧
  Zv tt 109 1 = some (1,⟨.map 9 3,1,8,[.nilm]⟩) ∧
  Zv tt 114 0 = some (0,⟨.struct [(0,27),(1,107)],2,32,[.sl 2 [] .full,.nilm]⟩) ∧
  Zv tt 114 1 = some (2,⟨.int .i64,1,8,[.int .i64 0]⟩) ∧
  Zv tt 114 2 = some (3,⟨.slice 70,1,24,[.sl 6 [] .full]⟩) ∧
  Zv tt 114 3 = some (4,⟨.slice 173,1,24,[.sl 1 [] .full]⟩) ∧
  Zv tt 114 4 = some (5,⟨.map 9 173,1,8,[.nilm]⟩) ∧
  Zv tt 114 5 = some (6,⟨.int .i64,1,8,[.int .i64 0]⟩) ∧
  Zv tt 178 0 = some (0,⟨.int .i64,1,8,[.int .i64 0]⟩) ∧
  Zv tt 178 1 = some (1,⟨.int .i64,1,8,[.int .i64 0]⟩) ∧
  Zv tt 178 2 = some (2,⟨.slice 47,1,24,[.sl 4 [] .full]⟩) ∧
  Zv tt 178 3 = some (3,⟨.slice 61,1,24,[.sl 1 [] .full]⟩) ∧
  Zv tt 235 0 = some (0,⟨.struct [(0,5),(1,3),(2,9),(3,29)],4,56,[.int .u8 0,.int .i64 0,.str [],.sl 4 [] .full]⟩) ∧
  Zv tt 244 0 = some (0,⟨.ptr,1,8,[.nilp]⟩) ∧
  Zv tt 244 1 = some (1,⟨.slice 5,1,24,[.sl 1 [] .full]⟩) ∧
  Zv tt 263 0 = some (0,⟨.map 3 3,1,8,[.nilm]⟩) ∧
  Zv tt 263 1 = some (1,⟨.int .i64,1,8,[.int .i64 0]⟩):=by
 refine ⟨?_,?_,?_,?_,?_,?_,?_,?_,?_,?_,?_,?_,?_,?_,?_,?_,?_,?_,?_,?_,?_,?_,?_,?_,?_,?_,?_,?_,?_,?_,?_,?_,?_,?_,?_,?_,?_,?_,?_,?_,?_,?_,?_,?_,?_,?_,?_,?_,?_,?_,?_,?_,?_,?_,?_,?_,?_,?_,?_,?_,?_,?_,?_,?_,?_,?_⟩ <;> rfl
theorem ttS :
  sliceOf tt 22 = some (31,⟨.struct [(0,5),(1,27),(2,3),(3,3),(4,28),(5,3),(6,3),(7,29)],8,112,[.int .u8 0,.sl 2 [] .full,.int .i64 0,.int .i64 0,.sl 9 [] .full,.int .i64 0,.int .i64 0,.sl 4 [] .full]⟩) ∧
  sliceOf tt 23 = some (59,⟨.struct [(0,9),(1,3)],2,24,[.str [],.int .i64 0]⟩) ∧
  sliceOf tt 27 = some (33,⟨.struct [(0,9),(1,29)],2,40,[.str [],.sl 4 [] .full]⟩) ∧
  sliceOf tt 28 = some (52,⟨.struct [(0,5),(1,44),(4,4),(5,5),(6,50),(7,5),(8,3)],9,104,[.int .u8 0,.bool false,.str [],.sl 4 [] .full,.bool false,.int .u8 0,.sl 2 [] .full,.int .u8 0,.int .i64 0]⟩) ∧
  sliceOf tt 29 = some (47,⟨.struct [(0,5),(1,3),(2,9),(3,29)],4,56,[.int .u8 0,.int .i64 0,.str [],.sl 4 [] .full]⟩) ∧
  sliceOf tt 39 = some (44,⟨.struct [(0,4),(1,33)],3,48,[.bool false,.str [],.sl 4 [] .full]⟩) ∧
  sliceOf tt 50 = some (41,⟨.struct [(0,29),(1,39)],2,48,[.sl 4 [] .full,.sl 3 [] .full]⟩) ∧
  sliceOf tt 60 = some (9,⟨.str,1,16,[.str []]⟩) ∧
  sliceOf tt 61 = some (3,⟨.int .i64,1,8,[.int .i64 0]⟩) ∧
  sliceOf tt 62 = some (70,⟨.struct [(0,4),(1,61),(2,4),(3,3),(4,61),(5,61)],6,96,[.bool false,.sl 1 [] .full,.bool false,.int .i64 0,.sl 1 [] .full,.sl 1 [] .full]⟩) ∧
  sliceOf tt 63 = some (75,⟨.struct [(0,3),(1,61),(2,61)],3,56,[.int .i64 0,.sl 1 [] .full,.sl 1 [] .full]⟩) ∧
  sliceOf tt 112 = some (173,⟨.ptr,1,8,[.nilp]⟩) ∧
  sliceOf tt 159 = some (260,⟨.iface,1,16,[.nili]⟩) ∧
  sliceOf tt 176 = some (61,⟨.slice 3,1,24,[.sl 1 [] .full]⟩) ∧
  sliceOf tt 242 = some (5,⟨.int .u8,1,1,[.int .u8 0]⟩):=by
 refine ⟨?_,?_,?_,?_,?_,?_,?_,?_,?_,?_,?_,?_,?_,?_,?_⟩ <;> rfl
theorem ttD :
  Z7 tt 2 = some (.int .i64) ∧
  Z7 tt 3 = some (.int .i64) ∧
  Z7 tt 4 = some (.bool) ∧
  Z7 tt 5 = some (.int .u8) ∧
  Z7 tt 6 = some (.int .u8) ∧
  Z7 tt 9 = some (.str) ∧
  Z7 tt 20 = some (.iface) ∧
  Z7 tt 25 = some (.func) ∧
  Z7 tt 36 = some (.func) ∧
  Z7 tt 37 = some (.func) ∧
  Z7 tt 49 = some (.func) ∧
  Z7 tt 66 = some (.int .i64) ∧
  Z7 tt 90 = some (.func) ∧
  Z7 tt 91 = some (.func) ∧
  Z7 tt 92 = some (.func) ∧
  Z7 tt 93 = some (.func) ∧
  Z7 tt 96 = some (.func) ∧
  Z7 tt 98 = some (.func) ∧
  Z7 tt 104 = some (.func) ∧
  Z7 tt 106 = some (.ptr) ∧
  Z7 tt 107 = some (.map 9 3) ∧
  Z7 tt 111 = some (.map 9 173) ∧
  Z7 tt 117 = some (.func) ∧
  Z7 tt 132 = some (.func) ∧
  Z7 tt 155 = some (.func) ∧
  Z7 tt 160 = some (.int .i64) ∧
  Z7 tt 161 = some (.func) ∧
  Z7 tt 167 = some (.func) ∧
  Z7 tt 173 = some (.ptr) ∧
  Z7 tt 175 = some (.func) ∧
  Z7 tt 180 = some (.func) ∧
  Z7 tt 181 = some (.func) ∧
  Z7 tt 183 = some (.map 3 3) ∧
  Z7 tt 187 = some (.ptr) ∧
  Z7 tt 230 = some (.func) ∧
  Z7 tt 231 = some (.func) ∧
  Z7 tt 241 = some (.ptr) ∧
  Z7 tt 247 = some (.iface) ∧
  Z7 tt 253 = some (.ptr) ∧
  Z7 tt 256 = some (.int .u64) ∧
  Z7 tt 260 = some (.iface) ∧
  Z7 tt 261 = some (.bool) ∧
  Z7 tt 264 = some (.func) ∧
  Z7 tt 266 = some (.func) ∧
  Z7 tt 276 = some (.func) ∧
  Z7 tt 278 = some (.func) ∧
  Z7 tt 281 = some (.func) ∧
  Z7 tt 283 = some (.func) ∧
  Z7 tt 284 = some (.func) ∧
  Z7 tt 287 = some (.func) ∧
  Z7 tt 305 = some (.map 5 25) ∧
  Z7 tt 306 = some (.func) ∧
  Z7 tt 308 = some (.ptr) ∧
  Z7 tt 310 = some (.int .u64) ∧
  Z7 tt 312 = some (.int .i64) ∧
  Z7 tt 319 = some (.int .u32) ∧
  Z7 tt 321 = some (.map 9 176) ∧
  Z7 tt 322 = some (.map 9 29) ∧
  Z7 tt 344 = some (.ptr) ∧
  Z7 tt 349 = some (.int .u64) ∧
  Z7 tt 353 = some (.ptr) ∧
  Z7 tt 369 = some (.ptr):=by
 refine ⟨?_,?_,?_,?_,?_,?_,?_,?_,?_,?_,?_,?_,?_,?_,?_,?_,?_,?_,?_,?_,?_,?_,?_,?_,?_,?_,?_,?_,?_,?_,?_,?_,?_,?_,?_,?_,?_,?_,?_,?_,?_,?_,?_,?_,?_,?_,?_,?_,?_,?_,?_,?_,?_,?_,?_,?_,?_,?_,?_,?_,?_,?_⟩ <;> rfl
theorem ttM :
  mapOf tt 107 = some (9,3,⟨.int .i64,1,8,[.int .i64 0]⟩) ∧
  mapOf tt 111 = some (9,173,⟨.ptr,1,8,[.nilp]⟩) ∧
  mapOf tt 183 = some (3,3,⟨.int .i64,1,8,[.int .i64 0]⟩) ∧
  mapOf tt 305 = some (5,25,⟨.func,1,8,[.nilf]⟩) ∧
  mapOf tt 321 = some (9,176,⟨.slice 61,1,24,[.sl 1 [] .full]⟩) ∧
  mapOf tt 322 = some (9,29,⟨.slice 47,1,24,[.sl 4 [] .full]⟩):=by
 refine ⟨?_,?_,?_,?_,?_,?_⟩ <;> rfl
end Go.Proofs.YthgbkalgmicniaaGreatDoor

/- The standing list of rewriting rules. -/
namespace Go.Proofs.YthgbkalgmicniaaGreatDoor
open Go.Abs
theorem ZlX (n:Int):Yv tt 5 (.int .u8 n) = true:=rfl
theorem Jv (l:List UInt8):Yv tt 9 (.str l) = true:=rfl
theorem ZkU (l:List UInt8) (n:Int):Yv tt 59 (.agg [.str l,.int .i64 n]) = true:=by
 simp only [Yv,show tt 59 = some ⟨.struct [(0,9),(1,3)],2,24,[.str [],.int .i64 0]⟩ from rfl,AV.cells,klAll,AV.kl]
 rfl
attribute [go_sem] Am.fold Am.cs Am.YG List.mem_cons List.mem_singleton forall_eq_or_imp forall_eq List.not_mem_nil or_false delb ZlX Jv ZkU Tm.cs cxP Zhv Zgv V6 Zly Zli ZkD ZlA Zla J7 ZcR plainO drawO VO Zcq Zhk stepW Zcl Zky ZgX evP evR evW evA evT avoids lookOpd ZbS setH AV.ofValue mv ZdY lkv lkb YP setb full Xj ldA isBuf isEq eqB ZjF Zg5 Zg7 ZbD YN Vt splice bnd inOrder ones numbered ZE.isAgg cellsT oneT List.drop_succ_cons List.drop_zero List.take_succ_cons List.take_zero List.getD_cons_zero List.getD_cons_succ List.length_cons List.length_nil List.all_cons List.all_nil List.map_cons List.map_nil Bool.and_true Bool.true_and Bool.and_self Bool.false_and Bool.and_false and_true true_and and_self Nat.zero_add Nat.le_refl Nat.zero_le Nat.add_zero ne_eq not_true_eq_false not_false_eq_true Option.some.injEq exists_eq' exists_eq forall_const false_implies implies_true Bool.false_eq_true Bool.true_eq_false List.length_map List.getElem?_cons_zero List.getElem?_cons_succ List.contains_nil List.nil_append List.append_nil List.cons_append List.drop_nil List.take_nil true_or or_true Int.natCast_nonneg Int.toNat_natCast Int.natCast_one Int.natCast_zero Int.cast_ofNat_Int gt_iff_lt ge_iff_le beq_self_eq_true List.isEmpty_cons List.isEmpty_nil Bool.not_true Bool.not_false Int.ofNat_lt Int.ofNat_le decide_true decide_false Option.map_some Option.bind_some Option.join_some Tm.fold Tm.YG ttT ttF ttS ttD ttM ZjK nilA WB cellsU oneU Ziw evL
end Go.Proofs.YthgbkalgmicniaaGreatDoor

/- Bytes and names. -/
namespace Go.Proofs.YthgbkalgmicniaaGreatDoor
open Go.Abs
set_option maxRecDepth 100000
def isLow (b:Int):Bool:=decide (b ≥ 97) && decide (b ≤ 122)
def isUp (b:Int):Bool:=decide (b ≥ 65) && decide (b ≤ 90)
def Ws (b:Int):Bool:=decide (b ≥ 48) && decide (b ≤ 57)
def isIn (b:Int):Bool:=isLow b || isUp b || Ws b || b == 95
theorem a79 (b:Int):Pure Tryz.prog 183 [.int .u8 b] (.bool (isLow b)):=by
 intro n H
 refine Zm tok (Zb Tryz.func183 rfl rfl) (by simp) fun B=>?_
 refine Xl rfl ?_
 refine Za tok rfl rfl ?_
 simp only [go_sem,simprocAttr]
 refine Xl rfl ?_
 refine Za tok rfl rfl ?_
 simp only [go_sem,simprocAttr]
 refine XJ _ (fun hb=>?_) (fun hb=>?_) <;> simp only [go_sem,simprocAttr,hb]
 all_goals
  refine Zaa rfl (Ze ?_ (.bool _) rfl)
  simp only [go_sem,simprocAttr,isLow,hb]
  exact .refl _
theorem a82 (b:Int):Pure Tryz.prog 187 [.int .u8 b] (.bool (isLow b)):=by
 intro n H
 refine Zm tok (Zb Tryz.func187 rfl rfl) (by simp) fun B=>?_
 refine Xl rfl ?_
 refine Za tok rfl rfl ?_
 simp only [go_sem,simprocAttr]
 refine Xl rfl ?_
 refine Za tok rfl rfl ?_
 simp only [go_sem,simprocAttr]
 refine XJ _ (fun hb=>?_) (fun hb=>?_) <;> simp only [go_sem,simprocAttr,hb]
 all_goals
  refine Zaa rfl (Ze ?_ (.bool _) rfl)
  simp only [go_sem,simprocAttr,isLow,hb]
  exact .refl _
theorem a160 (b:Int):Pure Tryz.prog 313 [.int .u8 b] (.bool (isUp b)):=by
 intro n H
 refine Zm tok (Zb Tryz.func313 rfl rfl) (by simp) fun B=>?_
 refine Xl rfl ?_
 refine Za tok rfl rfl ?_
 simp only [go_sem,simprocAttr]
 refine Xl rfl ?_
 refine Za tok rfl rfl ?_
 simp only [go_sem,simprocAttr]
 refine XJ _ (fun hb=>?_) (fun hb=>?_) <;> simp only [go_sem,simprocAttr,hb]
 all_goals
  refine Zaa rfl (Ze ?_ (.bool _) rfl)
  simp only [go_sem,simprocAttr,isUp,hb]
  exact .refl _
theorem Zl6 (b:Int):Pure Tryz.prog 271 [.int .u8 b] (.bool (isUp b)):=by
 intro n H
 refine Zm tok (Zb Tryz.func271 rfl rfl) (by simp) fun B=>?_
 refine Xl rfl ?_
 refine Za tok rfl rfl ?_
 simp only [go_sem,simprocAttr]
 refine Xl rfl ?_
 refine Za tok rfl rfl ?_
 simp only [go_sem,simprocAttr]
 refine XJ _ (fun hb=>?_) (fun hb=>?_) <;> simp only [go_sem,simprocAttr,hb]
 all_goals
  refine Zaa rfl (Ze ?_ (.bool _) rfl)
  simp only [go_sem,simprocAttr,isUp,hb]
  exact .refl _
theorem Zms (b:Int):Pure Tryz.prog 314 [.int .u8 b] (.bool (Ws b)):=by
 intro n H
 refine Zm tok (Zb Tryz.func314 rfl rfl) (by simp) fun B=>?_
 refine Xl rfl ?_
 refine Za tok rfl rfl ?_
 simp only [go_sem,simprocAttr]
 refine Xl rfl ?_
 refine Za tok rfl rfl ?_
 simp only [go_sem,simprocAttr]
 refine XJ _ (fun hb=>?_) (fun hb=>?_) <;> simp only [go_sem,simprocAttr,hb]
 all_goals
  refine Zaa rfl (Ze ?_ (.bool _) rfl)
  simp only [go_sem,simprocAttr,Ws,hb]
  exact .refl _
theorem a116 (b:Int):Pure Tryz.prog 272 [.int .u8 b] (.bool (Ws b)):=by
 intro n H
 refine Zm tok (Zb Tryz.func272 rfl rfl) (by simp) fun B=>?_
 refine Xl rfl ?_
 refine Za tok rfl rfl ?_
 simp only [go_sem,simprocAttr]
 refine Xl rfl ?_
 refine Za tok rfl rfl ?_
 simp only [go_sem,simprocAttr]
 refine XJ _ (fun hb=>?_) (fun hb=>?_) <;> simp only [go_sem,simprocAttr,hb]
 all_goals
  refine Zaa rfl (Ze ?_ (.bool _) rfl)
  simp only [go_sem,simprocAttr,Ws,hb]
  exact .refl _
theorem ZnI (b:Int):Pure Tryz.prog 269 [.int .u8 b] (.bool (isIn b)):=by
 intro n H
 refine Zm tok (Zb Tryz.func269 rfl rfl) (by simp) fun B=>?_
 refine Xl rfl ?_
 refine Za tok rfl rfl ?_
 simp only [go_sem,simprocAttr]
 refine Xl rfl ?_
 refine Za tok rfl rfl ?_
 simp only [go_sem,simprocAttr]
 refine Zq (Zb Tryz.func183 rfl rfl) (a79 b) rfl ?_
 simp only [go_sem,simprocAttr]
 refine XJ _ (fun hb=>?_) (fun hb=>?_) <;> simp only [go_sem,simprocAttr,hb]
 ·refine Zaa rfl (Ze ?_ (.bool _) rfl)
  simp only [go_sem,simprocAttr,isIn,hb,Bool.true_or]
  exact .refl _
 refine Zq (Zb Tryz.func313 rfl rfl) (a160 b) rfl ?_
 simp only [go_sem,simprocAttr]
 refine XJ _ (fun h2=>?_) (fun h2=>?_) <;> simp only [go_sem,simprocAttr,h2]
 ·refine Zaa rfl (Ze ?_ (.bool _) rfl)
  simp only [go_sem,simprocAttr,isIn,h2,Bool.true_or,Bool.or_true]
  exact .refl _
 refine Zq (Zb Tryz.func314 rfl rfl) (Zms b) rfl ?_
 simp only [go_sem,simprocAttr]
 refine XJ _ (fun h3=>?_) (fun h3=>?_) <;> simp only [go_sem,simprocAttr,h3]
 all_goals
  refine Zaa rfl (Ze ?_ (.bool _) rfl)
  simp only [go_sem,simprocAttr,isIn,hb,h2,h3,Bool.true_or,Bool.or_true,Bool.false_or]
  exact .refl _
end Go.Proofs.YthgbkalgmicniaaGreatDoor

/- Names, as the document's answer says it. -/
namespace Go.Proofs.YthgbkalgmicniaaGreatDoor
open Go.Abs
set_option maxRecDepth 100000
abbrev bt (s:List UInt8) (i:Nat):Int:=((s.getD i 0).toNat:Int)
def und:List UInt8 → Nat
 | []=>0
 | b :: r=>if ((b.toNat:Int) == 95) = true then und r + 1 else 0
theorem und_le:∀ s:List UInt8,und s ≤ s.length
 | []=>Nat.le_refl _
 | b :: r=>by
  simp only [und]; split
  ·have:=und_le r; simp; omega
  ·simp
theorem und_lt:∀ {s:List UInt8} {i:Nat},i < und s → (bt s i == 95) = true
 | [],i,h=>by simp [und] at h
 | b :: r,i,h=>by
  simp only [und] at h
  split at h
  ·rename_i hb
   cases i with
   | zero=>exact hb
   | succ i=>exact und_lt (s:=r) (by omega)
  ·omega
theorem und_at:∀ {s:List UInt8},und s < s.length → (bt s (und s) == 95) = false
 | [],h=>by simp at h
 | b :: r,h=>by
  simp only [und] at h ⊢
  split
  ·rename_i hb
   rw [if_pos hb] at h
   exact und_at (s:=r) (by simpa using h)
  ·rename_i hb
   exact Bool.not_eq_true _ ▸ hb
def Zm7 (s:List UInt8) (H:Zf) (i:Nat):Zh:=⟨[(3,.int .i64 i),(0,.str s)],[],H⟩
theorem a81 (s:List UInt8) (hs:s.length ≤ 9223372036854775807):Pure Tryz.prog 186 [.str s] (.int .i64 (und s)):=by
 intro n H
 have hu:=und_le s
 refine Zm tok (Zb Tryz.func186 rfl rfl) (by simp) fun B=>?_
 refine Xl rfl ?_
 refine Za tok rfl rfl ?_
 simp only [go_sem,simprocAttr]
 refine Xl rfl ?_
 refine Za tok rfl rfl ?_
 simp only [go_sem,simprocAttr]
 refine Xl rfl ?_
 refine Ze2 rfl ?_
 refine Zy (Zm7 s H) (und s) rfl ?_ ?_
 ·refine Zg ?_ ?_ ?_ ?_ <;> repeat' first|exact trivial|refine q0 ?_|exact qb|exact q1|exact q2|exact q3|exact rfl|refine And.intro ?_ ?_|exact qA rfl|exact Inside.ptr _ _ _ (.inr ⟨rfl,rfl⟩)|exact Tm.ins _|exact Tm.Zj _ _|exact Am.ins _|exact Am.Zj _ _|refine Zd ?_|refine Tm.Zc ?_|refine Am.Zc ?_
 intro i hi
 refine Yi rfl ?_
 rcases Nat.lt_or_ge i (und s) with h | h
 ·have hl:i < s.length:=by omega
  refine Xl rfl ?_
  refine Xl rfl ?_
  refine Za tok rfl rfl ?_
  simp only [go_sem,simprocAttr,hl,und_lt h]
  refine Zfb rfl (by simp only [go_sem,simprocAttr]) ?_
  refine ZM rfl ?_
  refine Ze2 rfl ?_
  refine Za tok rfl rfl ?_
  simp only [go_sem,simprocAttr]
  refine Zkt ?_
  refine XW ?_
  refine ⟨h,?_⟩
  refine Zg ?_ ?_ ?_ ?_ <;> repeat' first|exact trivial|refine q0 ?_|exact qb|exact q1|exact q2|exact q3|exact rfl|refine And.intro ?_ ?_|exact qA rfl|exact Inside.ptr _ _ _ (.inr ⟨rfl,rfl⟩)|exact Tm.ins _|exact Tm.Zj _ _|exact Am.ins _|exact Am.Zj _ _|refine Zd ?_|refine Tm.Zc ?_|refine Am.Zc ?_
  simp only [go_sem,simprocAttr]
  rw [IntWalk.i64_in _ (by omega)]; exact .refl _
 ·have hi:i = und s:=by omega
  subst hi
  have fin:∀ tm,lkv tm 3 = .int .i64 (und s) → AKc (cxP Tryz.prog ⟨none,B⟩ n Tryz.f186.ntmps) [.code (Y9 Tryz.f186).snd.snd.snd] (PostF Tryz.prog tt n Tryz.f186.results.toList fun r' H'=>r' = .int .i64 (und s) ∧ H' = H) ⟨tm,[],H⟩:=by
   intro tm htm
   refine Xl rfl ?_
   refine Za tok rfl rfl ?_
   simp only [go_sem,simprocAttr,htm]
   refine Zaa rfl (Ze ?_ (.int _ _) rfl)
   simp only [go_sem,simprocAttr]
   exact .refl _
  rcases Nat.lt_or_ge (und s) s.length with hl | hl
  ·refine Xl rfl ?_
   refine Xl rfl ?_
   refine Za tok rfl rfl ?_
   simp only [go_sem,simprocAttr,hl,und_at hl]
   refine ZcP rfl (by simp only [go_sem,simprocAttr]) ?_
   refine Wq rfl rfl rfl (fin _ ?_)
   simp only [go_sem,simprocAttr]
  ·refine Xl rfl ?_
   refine Xl rfl ?_
   refine Za tok rfl rfl ?_
   simp only [go_sem,simprocAttr,Nat.not_lt.2 hl]
   refine ZcP rfl (by simp only [go_sem,simprocAttr]) ?_
   refine Wq rfl rfl rfl (fin _ ?_)
   simp only [go_sem,simprocAttr]
def wd (s:List UInt8) (f:Nat):Bool:=(s.drop f).all (fun b=>isIn (b.toNat:Int)) && decide (s.length ≤ 32)
def Zm0 (s:List UInt8) (f:Nat) (H:Zf) (i:Nat):Zh:=⟨[(5,.int .i64 ((f + i:Nat):Int)),(0,.str s)],[],H⟩
theorem ZfC {s:List UInt8} {f:Nat}:(s.drop f).all (fun b=>isIn (b.toNat:Int)) = true ↔ ∀ i,f + i < s.length → isIn (bt s (f + i)) = true:=by
 rw [List.all_eq_true]
 constructor
 ·intro h i hi
  have:s[f + i] ∈ s.drop f:=by
   rw [List.mem_iff_getElem]
   exact ⟨i,by rw [List.length_drop]; omega,by rw [List.getElem_drop]⟩
  have:=h _ this
  simpa [bt,List.getD_eq_getElem?_getD,List.getElem?_eq_getElem hi] using this
 ·intro h b hb
  obtain ⟨i,hi,rfl⟩:=List.getElem_of_mem hb
  rw [List.length_drop] at hi
  have hlt:f + i < s.length:=by omega
  have:=h i hlt
  rw [List.getElem_drop]
  simpa [bt,List.getD_eq_getElem?_getD,List.getElem?_eq_getElem hlt] using this
theorem a83 (s:List UInt8) (f:Nat) (hf:f ≤ s.length) (hs:s.length ≤ 9223372036854775807):Pure Tryz.prog 188 [.str s,.int .i64 f] (.bool (wd s f)):=by
 intro n H
 refine Zm tok (Zb Tryz.func188 rfl rfl) (by simp) fun B=>?_
 refine Za tok rfl rfl ?_
 simp only [go_sem,simprocAttr]
 refine Za tok rfl rfl ?_
 simp only [go_sem,simprocAttr]
 repeat refine kn rfl ?_
 refine Ye (Zm0 s f H) (fun i=>∀ j,j < i → isIn (bt s (f + j)) = true) (s.length - f) rfl ?_ (fun j h=>absurd h (Nat.not_lt_zero _)) ?_
 ·refine Zg ?_ ?_ ?_ ?_ <;> repeat' first|exact trivial|refine q0 ?_|exact qb|exact q1|exact q2|exact q3|exact rfl|refine And.intro ?_ ?_|exact qA rfl|exact Inside.ptr _ _ _ (.inr ⟨rfl,rfl⟩)|exact Tm.ins _|exact Tm.Zj _ _|exact Am.ins _|exact Am.Zj _ _|refine Zd ?_|refine Tm.Zc ?_|refine Am.Zc ?_
 intro i hi hp
 refine Yi rfl ?_
 rcases Nat.lt_or_ge (f + i) s.length with h | h
 ·refine Za tok rfl rfl ?_
  simp only [go_sem,simprocAttr,h]
  refine Zp rfl rfl rfl ?_
  repeat refine kn rfl ?_
  refine XF ⟨[(37,.bool (!isIn (bt s (f + i)))),(5,.int .i64 ((f + i:Nat):Int)),(0,.str s)],[],H⟩ ?_ ?_
  ·refine Za tok rfl rfl ?_
   simp only [go_sem,simprocAttr,h]
   refine Zq (Zb Tryz.func187 rfl rfl) (a82 (bt s (f + i))) (by simp only [go_sem,simprocAttr,h]) ?_
   simp only [go_sem,simprocAttr,h]
   cases h1:isLow (bt s (f + i)) with
   | true =>
    simp only [go_sem,simprocAttr,h1,Bool.not_true]
    refine XW ⟨rfl,?_⟩
    refine Zg ?_ ?_ ?_ ?_ <;> repeat' first|exact trivial|refine q0 ?_|exact qb|exact q1|exact q2|exact q3|exact rfl|refine And.intro ?_ ?_|exact qA rfl|exact Inside.ptr _ _ _ (.inr ⟨rfl,rfl⟩)|exact Tm.ins _|exact Tm.Zj _ _|exact Am.ins _|exact Am.Zj _ _|refine Zd ?_|refine Tm.Zc ?_|refine Am.Zc ?_
    simp only [go_sem,simprocAttr,isIn,h1,Bool.true_or,Bool.not_true]
    exact .refl _
   | false =>
    simp only [go_sem,simprocAttr,h1,h,Bool.not_false]
    refine Zq (Zb Tryz.func271 rfl rfl) (Zl6 (bt s (f + i))) (by simp only [go_sem,simprocAttr,h]) ?_
    simp only [go_sem,simprocAttr,h]
    cases h2:isUp (bt s (f + i)) with
    | true =>
     simp only [go_sem,simprocAttr,h2,Bool.not_true]
     refine XW ⟨rfl,?_⟩
     refine Zg ?_ ?_ ?_ ?_ <;> repeat' first|exact trivial|refine q0 ?_|exact qb|exact q1|exact q2|exact q3|exact rfl|refine And.intro ?_ ?_|exact qA rfl|exact Inside.ptr _ _ _ (.inr ⟨rfl,rfl⟩)|exact Tm.ins _|exact Tm.Zj _ _|exact Am.ins _|exact Am.Zj _ _|refine Zd ?_|refine Tm.Zc ?_|refine Am.Zc ?_
     simp only [go_sem,simprocAttr,isIn,h1,h2,Bool.true_or,Bool.or_true,Bool.not_true]
     exact .refl _
    | false =>
     simp only [go_sem,simprocAttr,h2,h,Bool.not_false]
     refine Zq (Zb Tryz.func272 rfl rfl) (a116 (bt s (f + i))) (by simp only [go_sem,simprocAttr,h]) ?_
     simp only [go_sem,simprocAttr,h]
     cases h3:Ws (bt s (f + i)) with
     | true =>
      simp only [go_sem,simprocAttr,h3,Bool.not_true]
      refine XW ⟨rfl,?_⟩
      refine Zg ?_ ?_ ?_ ?_ <;> repeat' first|exact trivial|refine q0 ?_|exact qb|exact q1|exact q2|exact q3|exact rfl|refine And.intro ?_ ?_|exact qA rfl|exact Inside.ptr _ _ _ (.inr ⟨rfl,rfl⟩)|exact Tm.ins _|exact Tm.Zj _ _|exact Am.ins _|exact Am.Zj _ _|refine Zd ?_|refine Tm.Zc ?_|refine Am.Zc ?_
      simp only [go_sem,simprocAttr,isIn,h1,h2,h3,Bool.true_or,Bool.or_true,Bool.not_true]
      exact .refl _
     | false =>
      simp only [go_sem,simprocAttr,h3,h,Bool.not_false]
      refine XW ⟨rfl,?_⟩
      refine Zg ?_ ?_ ?_ ?_ <;> repeat' first|exact trivial|refine q0 ?_|exact qb|exact q1|exact q2|exact q3|exact rfl|refine And.intro ?_ ?_|exact qA rfl|exact Inside.ptr _ _ _ (.inr ⟨rfl,rfl⟩)|exact Tm.ins _|exact Tm.Zj _ _|exact Am.ins _|exact Am.Zj _ _|refine Zd ?_|refine Tm.Zc ?_|refine Am.Zc ?_
      simp only [go_sem,simprocAttr,isIn,h1,h2,h3,Bool.false_or,bne]
      exact .refl _
  cases hi1:isIn (bt s (f + i)) with
  | false =>
   refine Zp rfl rfl (by simp only [go_sem,simprocAttr,Bool.not_false]) ?_
   refine Za tok rfl rfl ?_
   simp only [go_sem,simprocAttr]
   refine XO rfl rfl ?_
   refine Ze ?_ (.bool _) rfl
   have:wd s f = false:=by
    unfold wd
    rw [Bool.and_eq_false_iff]
    left
    rw [← Bool.not_eq_true,ZfC]
    intro hh
    have:=hh i h
    rw [hi1] at this; cases this
   rw [this]
   exact .refl _
  | true =>
   refine Zn rfl rfl (by simp only [go_sem,simprocAttr,Bool.not_true]) ?_
   refine Za tok rfl rfl ?_
   simp only [go_sem,simprocAttr]
   refine Zt rfl ?_
   refine ⟨by omega,fun j hj=>?_,?_⟩
   ·rcases Nat.lt_or_ge j i with h' | h'
    ·exact hp j h'
    ·have:j = i:=by omega
     subst this; exact hi1
   ·refine Zg ?_ ?_ ?_ ?_ <;> repeat' first|exact trivial|refine q0 ?_|exact qb|exact q1|exact q2|exact q3|exact rfl|refine And.intro ?_ ?_|exact qA rfl|exact Inside.ptr _ _ _ (.inr ⟨rfl,rfl⟩)|exact Tm.ins _|exact Tm.Zj _ _|exact Am.ins _|exact Am.Zj _ _|refine Zd ?_|refine Tm.Zc ?_|refine Am.Zc ?_
    simp only [go_sem,simprocAttr]
    rw [IntWalk.i64_in _ (by omega)]; exact .refl _
 ·refine Za tok rfl rfl ?_
  simp only [go_sem,simprocAttr,Nat.not_lt.2 h]
  refine Zn rfl rfl rfl ?_
  refine Yh rfl rfl rfl rfl ?_
  refine Za tok rfl rfl ?_
  simp only [go_sem,simprocAttr]
  refine Zi rfl rfl ?_
  refine Ze ?_ (.bool _) rfl
  have:wd s f = decide (s.length ≤ 32):=by
   unfold wd
   rw [(ZfC (s:=s) (f:=f)).2 (fun j hj=>hp j (by omega)),Bool.true_and]
  rw [this]
  simp only [go_sem,simprocAttr]
  have e:decide ((s.length:Int) ≤ 32) = decide (s.length ≤ 32):=by congr 1; simp; omega
  first | exact .refl _ | (rw [e]; exact .refl _)
end Go.Proofs.YthgbkalgmicniaaGreatDoor

/- Names, as the document's answer says it. -/
namespace Go.Proofs.YthgbkalgmicniaaGreatDoor
open Go.Abs
set_option maxRecDepth 100000
def sNot:List UInt8:=[110,111,116]
def sym (s:List UInt8):Bool:=decide (und s < s.length) && isLow (bt s (und s)) && wd s (und s) && !(s == sNot)
theorem a47 (s:List UInt8) (hs:s.length ≤ 9223372036854775807):Pure Tryz.prog 106 [.str s] (.bool (sym s)):=by
 intro n H
 have hu:=und_le s
 refine Zm tok (Zb Tryz.func106 rfl rfl) (by simp) fun B=>?_
 refine Za tok rfl rfl ?_
 simp only [go_sem,simprocAttr]
 refine Za tok rfl rfl ?_
 simp only [go_sem,simprocAttr]
 refine Zq (Zb Tryz.func186 rfl rfl) (a81 s hs) rfl ?_
 simp only [go_sem,simprocAttr]
 rcases Nat.lt_or_ge (und s) s.length with h | h
 ·refine Za tok rfl rfl ?_
  simp only [go_sem,simprocAttr,h]
  refine Zq (Zb Tryz.func187 rfl rfl) (a82 (bt s (und s))) (by simp only [go_sem,simprocAttr,h]) ?_
  simp only [go_sem,simprocAttr,h]
  cases h1:isLow (bt s (und s)) with
  | false =>
   simp only [go_sem,simprocAttr,h1]
   refine Zi rfl rfl ?_
   refine Ze ?_ (.bool _) rfl
   simp only [go_sem,simprocAttr,sym,h,h1]
   exact .refl _
  | true =>
   simp only [go_sem,simprocAttr,h1]
   refine Zq (Zb Tryz.func188 rfl rfl) (a83 s (und s) hu hs) rfl ?_
   simp only [go_sem,simprocAttr]
   cases h2:wd s (und s) with
   | false =>
    simp only [go_sem,simprocAttr,h2]
    refine Zi rfl rfl ?_
    refine Ze ?_ (.bool _) rfl
    simp only [go_sem,simprocAttr,sym,h,h1,h2]
    exact .refl _
   | true =>
    simp only [go_sem,simprocAttr,h2]
    refine Zi rfl rfl ?_
    refine Ze ?_ (.bool _) rfl
    simp only [go_sem,simprocAttr,sym,h,h1,h2]
    exact .refl _
 ·refine Za tok rfl rfl ?_
  simp only [go_sem,simprocAttr,Nat.not_lt.2 h]
  refine Zi rfl rfl ?_
  refine Ze ?_ (.bool _) rfl
  simp only [go_sem,simprocAttr,sym,Nat.not_lt.2 h]
  exact .refl _
end Go.Proofs.YthgbkalgmicniaaGreatDoor

/- Names, as the program says it. -/
namespace Go.Proofs.YthgbkalgmicniaaGreatDoor
open Go.Abs
set_option maxRecDepth 100000
def ZlN (s:List UInt8) (H:Zf) (i:Nat):Zh:=⟨[(0,.str (s.drop i)),(1,.int .u8 95)],[],H⟩
theorem ZgT (s:List UInt8) (i j:Nat):bt (s.drop i) j = bt s (i + j):=by
 simp [bt,List.getD_eq_getElem?_getD,List.getElem?_drop]
theorem a156 (s:List UInt8):Pure Tryz.prog 315 [.str s,.int .u8 95] (.str (s.drop (und s))):=by
 intro n H
 have hu:=und_le s
 refine Zm tok (Zb Tryz.func315 rfl rfl) (by simp) fun B=>?_
 refine Za tok rfl rfl ?_
 simp only [go_sem,simprocAttr]
 repeat refine kn rfl ?_
 refine Zy (ZlN s H) (und s) rfl ?_ ?_
 ·refine Zg ?_ ?_ ?_ ?_ <;> repeat' first|exact trivial|refine q0 ?_|exact qb|exact q1|exact q2|exact q3|exact rfl|refine And.intro ?_ ?_|exact qA rfl|exact Inside.ptr _ _ _ (.inr ⟨rfl,rfl⟩)|exact Tm.ins _|exact Tm.Zj _ _|exact Am.ins _|exact Am.Zj _ _|refine Zd ?_|refine Tm.Zc ?_|refine Am.Zc ?_
 intro i hi
 refine Yi rfl ?_
 have hlen:(s.drop i).length = s.length - i:=List.length_drop
 have hb0:bt (s.drop i) 0 = bt s i:=ZgT s i 0
 rcases Nat.lt_or_ge i (und s) with h | h
 ·have h1:(decide (0 < ((s.drop i).length:Int))) = true:=by rw [hlen]; simp; omega
  have h2:(0:Int) < ((s.drop i).length:Int):=by rw [hlen]; omega
  have h3:(bt (s.drop i) 0 == 95) = true:=by rw [hb0]; exact und_lt h
  refine Za tok rfl rfl ?_
  simp only [go_sem,simprocAttr,h1,h2,h3]
  refine Zp rfl rfl rfl ?_
  refine Za tok rfl rfl ?_
  simp only [go_sem,simprocAttr,List.take_length]
  refine ⟨by omega,?_⟩
  refine Zt rfl ?_
  refine ⟨h,?_⟩
  refine Zg ?_ ?_ ?_ ?_ <;> repeat' first|exact trivial|refine q0 ?_|exact qb|exact q1|exact q2|exact q3|exact rfl|refine And.intro ?_ ?_|exact qA rfl|exact Inside.ptr _ _ _ (.inr ⟨rfl,rfl⟩)|exact Tm.ins _|exact Tm.Zj _ _|exact Am.ins _|exact Am.Zj _ _|refine Zd ?_|refine Tm.Zc ?_|refine Am.Zc ?_
  simp only [go_sem,simprocAttr,List.drop_drop,Nat.add_comm]
  exact .refl _
 ·have hi:i = und s:=by omega
  subst hi
  have fin:∀ tm,lkv tm 0 = .str (s.drop (und s)) → AKc (cxP Tryz.prog ⟨none,B⟩ n Tryz.f315.ntmps) [.code (Y9 Tryz.f315).snd.snd] (PostF Tryz.prog tt n Tryz.f315.results.toList fun r' H'=>r' = .str (s.drop (und s)) ∧ H' = H) ⟨tm,[],H⟩:=by
   intro tm htm
   refine Za tok rfl rfl ?_
   simp only [go_sem,simprocAttr,htm]
   refine Zi rfl rfl ?_
   refine Ze ?_ (.str _) rfl
   simp only [go_sem,simprocAttr]
   exact .refl _
  rcases Nat.lt_or_ge (und s) s.length with hl | hl
  ·have h1:(decide (0 < ((s.drop (und s)).length:Int))) = true:=by rw [hlen]; simp; omega
   have h2:(0:Int) < ((s.drop (und s)).length:Int):=by rw [hlen]; omega
   have h3:(bt (s.drop (und s)) 0 == 95) = false:=by rw [hb0]; exact und_at hl
   refine Za tok rfl rfl ?_
   simp only [go_sem,simprocAttr,h1,h2,h3]
   refine Zn rfl rfl rfl ?_
   refine Wq rfl rfl rfl (fin _ ?_)
   simp only [go_sem,simprocAttr]
  ·have h1:(decide (0 < ((s.drop (und s)).length:Int))) = false:=by rw [hlen]; simp; omega
   refine Za tok rfl rfl ?_
   simp only [go_sem,simprocAttr,h1]
   refine Zn rfl rfl rfl ?_
   refine Wq rfl rfl rfl (fin _ ?_)
   simp only [go_sem,simprocAttr]
theorem ZnB (s:List UInt8):Pure Tryz.prog 267 [.str s,.str [95]] (.str (s.drop (und s))):=by
 intro n H
 refine Zm tok (Zb Tryz.func267 rfl rfl) (by simp) fun B=>?_
 refine Za tok rfl rfl ?_
 simp only [go_sem,simprocAttr]
 cases h:s.isEmpty with
 | true =>
  have:s = []:=by simpa using h
  subst this
  refine Za tok rfl rfl ?_
  simp only [go_sem,simprocAttr,List.beq_nil_eq,List.isEmpty_nil]
  refine Zp rfl rfl rfl ?_
  refine Za tok rfl rfl ?_
  simp only [go_sem,simprocAttr]
  refine Zi rfl rfl ?_
  refine Ze ?_ (.str _) rfl
  simp only [go_sem,simprocAttr]
  exact .refl _
 | false =>
  refine Za tok rfl rfl ?_
  simp only [go_sem,simprocAttr,h,List.beq_nil_eq,List.isEmpty_cons]
  refine Zn rfl rfl rfl ?_
  refine Za tok rfl rfl ?_
  simp only [go_sem,simprocAttr]
  refine Zp rfl rfl rfl ?_
  refine Za tok rfl rfl ?_
  simp only [go_sem,simprocAttr]
  refine Zq (Zb Tryz.func315 rfl rfl) (a156 s) rfl ?_
  simp only [go_sem,simprocAttr]
  refine Zi rfl rfl ?_
  exact Ze (.refl _) (.str _) rfl
def Zat (f:Nat) (p:Int → Bool):Prop:=(∃ fn c,Fun Tryz.prog f fn c) ∧ ∀ b:Int,Pure Tryz.prog f [.int .u8 b] (.bool (p b))
theorem cls79:Zat 183 isLow:=⟨⟨_,_,Zb Tryz.func183 rfl rfl⟩,a79⟩
theorem cls160:Zat 313 isUp:=⟨⟨_,_,Zb Tryz.func313 rfl rfl⟩,a160⟩
theorem cls161:Zat 314 Ws:=⟨⟨_,_,Zb Tryz.func314 rfl rfl⟩,Zms⟩
theorem cls114:Zat 269 isIn:=⟨⟨_,_,Zb Tryz.func269 rfl rfl⟩,ZnI⟩
def Zma (s:List UInt8) (f:Nat) (H:Zf) (i:Nat):Zh:=⟨[(8,.int .i64 i),(7,.int .i64 s.length),(1,.fn (.func f) []),(0,.str s)],[],H⟩
theorem ZmD (s:List UInt8) (f:Nat) (p:Int → Bool) (hp:Zat f p) (hs:s.length ≤ 9223372036854775807):Pure Tryz.prog 268 [.str s,.fn (.func f) []] (.bool (s.all fun b=>p (b.toNat:Int))):=by
 intro n H
 obtain ⟨⟨fn,c,hf⟩,hp⟩:=hp
 refine Zm tok (Zb Tryz.func268 rfl rfl) (by simp) fun B=>?_
 refine Za tok rfl rfl ?_
 simp only [go_sem,simprocAttr]
 refine Za tok rfl rfl ?_
 simp only [go_sem,simprocAttr]
 repeat refine kn rfl ?_
 refine Ye (Zma s f H) (fun i=>∀ j,j < i → p (bt s j) = true) s.length rfl ?_ (fun j h=>absurd h (Nat.not_lt_zero _)) ?_
 ·refine Zg ?_ ?_ ?_ ?_ <;> repeat' first|exact trivial|refine q0 ?_|exact qb|exact q1|exact q2|exact q3|exact rfl|refine And.intro ?_ ?_|exact qA rfl|exact Inside.ptr _ _ _ (.inr ⟨rfl,rfl⟩)|exact Tm.ins _|exact Tm.Zj _ _|exact Am.ins _|exact Am.Zj _ _|refine Zd ?_|refine Tm.Zc ?_|refine Am.Zc ?_
 intro i hi hq
 refine Yi rfl ?_
 have hall:(s.all fun b=>p (b.toNat:Int)) = true ↔ ∀ j,j < s.length → p (bt s j) = true:=by
  rw [List.all_eq_true]
  constructor
  ·intro h j hj
   have:=h s[j] (List.getElem_mem hj)
   simpa [bt,List.getD_eq_getElem?_getD,List.getElem?_eq_getElem hj] using this
  ·intro h b hb
   obtain ⟨j,hj,rfl⟩:=List.getElem_of_mem hb
   have:=h j hj
   simpa [bt,List.getD_eq_getElem?_getD,List.getElem?_eq_getElem hj] using this
 rcases Nat.lt_or_ge i s.length with h | h
 ·refine Za tok rfl rfl ?_
  simp only [go_sem,simprocAttr,h]
  refine Zp rfl rfl rfl ?_
  refine Za tok rfl rfl ?_
  simp only [go_sem,simprocAttr]
  refine Za tok rfl rfl ?_
  simp only [go_sem,simprocAttr,h]
  refine XM (avs:=[.int .u8 (bt s i)]) (by simp only [go_sem,simprocAttr]) hf (hp (bt s i) _ _) (by simp only [go_sem,simprocAttr]) ?_
  cases h1:p (bt s i) with
  | false =>
   simp only [go_sem,simprocAttr,h1]
   refine Zp rfl rfl rfl ?_
   refine Za tok rfl rfl ?_
   simp only [go_sem,simprocAttr]
   refine XO rfl rfl ?_
   refine Ze ?_ (.bool _) rfl
   have:(s.all fun b=>p (b.toNat:Int)) = false:=by
    rw [← Bool.not_eq_true,hall]
    intro hh
    have:=hh i h
    rw [h1] at this; cases this
   rw [this]; exact .refl _
  | true =>
   simp only [go_sem,simprocAttr,h1]
   refine Zn rfl rfl rfl ?_
   refine Za tok rfl rfl ?_
   simp only [go_sem,simprocAttr]
   refine Zt rfl ?_
   refine ⟨fun j hj=>?_,?_⟩
   ·rcases Nat.lt_or_ge j i with h' | h'
    ·exact hq j h'
    ·have:j = i:=by omega
     subst this; exact h1
   ·refine Zg ?_ ?_ ?_ ?_ <;> repeat' first|exact trivial|refine q0 ?_|exact qb|exact q1|exact q2|exact q3|exact rfl|refine And.intro ?_ ?_|exact qA rfl|exact Inside.ptr _ _ _ (.inr ⟨rfl,rfl⟩)|exact Tm.ins _|exact Tm.Zj _ _|exact Am.ins _|exact Am.Zj _ _|refine Zd ?_|refine Tm.Zc ?_|refine Am.Zc ?_
    ·simp only [go_sem,simprocAttr]
     rw [IntWalk.i64_in _ (by omega)]; exact .refl _
 ·refine Za tok rfl rfl ?_
  simp only [go_sem,simprocAttr,Nat.not_lt.2 h]
  refine Zn rfl rfl rfl ?_
  refine Yh rfl rfl rfl rfl ?_
  refine Za tok rfl rfl ?_
  simp only [go_sem,simprocAttr]
  refine Zi rfl rfl ?_
  refine Ze ?_ (.bool _) rfl
  rw [hall.2 (fun j hj=>hq j (by omega))]
  exact .refl _
theorem a78 (s:List UInt8) (f:Nat) (p:Int → Bool) (hp:Zat f p) (hs:s.length ≤ 9223372036854775807) :
  Pure Tryz.prog 182 [.str s,.fn (.func f) []] (.bool (decide (und s < s.length) && p (bt s (und s)) && wd s (und s))):=by
 intro n H
 have hu:=und_le s
 obtain ⟨⟨fn,c,hf⟩,hp⟩:=hp
 have hlen:(s.drop (und s)).length = s.length - und s:=List.length_drop
 have hb0:bt (s.drop (und s)) 0 = bt s (und s):=ZgT s (und s) 0
 refine Zm tok (Zb Tryz.func182 rfl rfl) (by simp) fun B=>?_
 refine Za tok rfl rfl ?_
 simp only [go_sem,simprocAttr]
 refine Za tok rfl rfl ?_
 simp only [go_sem,simprocAttr]
 refine Zq (Zb Tryz.func267 rfl rfl) (ZnB s) rfl ?_
 simp only [go_sem,simprocAttr]
 rcases Nat.lt_or_ge (und s) s.length with h | h
 ·have he:(s.drop (und s)).isEmpty = false:=by
   rw [← Bool.not_eq_true,List.isEmpty_iff,← List.length_eq_zero_iff,hlen]; omega
  have h2:(0:Int) < ((s.drop (und s)).length:Int):=by rw [hlen]; omega
  have h3:0 < (s.drop (und s)).length:=by rw [hlen]; omega
  refine Za tok rfl rfl ?_
  simp only [go_sem,simprocAttr,he,h2,h3,List.beq_nil_eq]
  refine XM (avs:=[.int .u8 (bt s (und s))]) (by simp only [go_sem,simprocAttr]) hf (hp (bt s (und s)) _ _) (by simp only [go_sem,simprocAttr,hb0]) ?_
  cases h1:p (bt s (und s)) with
  | false =>
   simp only [go_sem,simprocAttr,h1]
   refine Zi rfl rfl ?_
   refine Ze ?_ (.bool _) rfl
   simp only [go_sem,simprocAttr,h]
   exact .refl _
  | true =>
   simp only [go_sem,simprocAttr,h1]
   refine Zq (Zb Tryz.func268 rfl rfl) (ZmD (s.drop (und s)) _ isIn cls114 (by rw [hlen]; omega)) rfl ?_
   simp only [go_sem,simprocAttr]
   cases h4:(s.drop (und s)).all (fun b=>isIn (b.toNat:Int)) with
   | false =>
    simp only [go_sem,simprocAttr,h4]
    refine Zi rfl rfl ?_
    refine Ze ?_ (.bool _) rfl
    simp only [go_sem,simprocAttr,h,wd,h4]
    exact .refl _
   | true =>
    simp only [go_sem,simprocAttr,h4]
    refine Zi rfl rfl ?_
    refine Ze ?_ (.bool _) rfl
    simp only [go_sem,simprocAttr,h,wd,h4]
    have e:decide ((s.length:Int) ≤ 32) = decide (s.length ≤ 32):=by congr 1; simp; omega
    first | exact .refl _ | (rw [e]; exact .refl _)
 ·have he:(s.drop (und s)).isEmpty = true:=by
   rw [List.isEmpty_iff,← List.length_eq_zero_iff,hlen]; omega
  refine Za tok rfl rfl ?_
  simp only [go_sem,simprocAttr,he,List.beq_nil_eq]
  refine Zi rfl rfl ?_
  refine Ze ?_ (.bool _) rfl
  simp only [go_sem,simprocAttr,Nat.not_lt.2 h]
  exact .refl _
theorem a45 (s:List UInt8) (hs:s.length ≤ 9223372036854775807):Pure Tryz.prog 99 [.str s] (.bool (sym s)):=by
 intro n H
 refine Zm tok (Zb Tryz.func99 rfl rfl) (by simp) fun B=>?_
 refine Za tok rfl rfl ?_
 simp only [go_sem,simprocAttr]
 refine Za tok rfl rfl ?_
 simp only [go_sem,simprocAttr]
 refine Zq (Zb Tryz.func182 rfl rfl) (a78 s _ isLow cls79 hs) rfl ?_
 simp only [go_sem,simprocAttr]
 refine XJ _ (fun hb=>?_) (fun hb=>?_) <;> simp only [go_sem,simprocAttr,hb]
 all_goals
  refine Zi rfl rfl ?_
  refine Ze ?_ (.bool _) rfl
  simp only [go_sem,simprocAttr,sym,hb]
  exact .refl _
end Go.Proofs.YthgbkalgmicniaaGreatDoor

/- Variables' names; prefixes. -/
namespace Go.Proofs.YthgbkalgmicniaaGreatDoor
open Go.Abs
set_option maxRecDepth 100000
def hpre (s p:List UInt8):Bool:=decide (p.length ≤ s.length) && (s.take p.length == p)
theorem a198 (s p:List UInt8):Pure Tryz.prog 369 [.str s,.str p] (.bool (hpre s p)):=by
 intro n H
 refine Zm tok (Zb Tryz.func369 rfl rfl) (by simp) fun B=>?_
 refine Za tok rfl rfl ?_
 simp only [go_sem,simprocAttr]
 rcases Nat.lt_or_ge s.length p.length with h | h
 ·refine Za tok rfl rfl ?_
  simp only [go_sem,simprocAttr,Nat.not_le.2 h]
  refine Zi rfl rfl ?_
  refine Ze ?_ (.bool _) rfl
  simp only [go_sem,simprocAttr,hpre,Nat.not_le.2 h]
  exact .refl _
 ·refine Za tok rfl rfl ?_
  simp only [go_sem,simprocAttr,h,List.drop_zero]
  refine Zi rfl rfl ?_
  refine Ze ?_ (.bool _) rfl
  simp only [go_sem,simprocAttr,hpre,h]
  exact .refl _
theorem ZgA {P:Program} {T:TT} {n:Nat} {t u:Nat} {v w:AV} {H:Zf} {s:Zh} (hv:Wk (lkv s.tmps t) v) (hw:Wk (lkv s.tmps u) w) (hb:Below n v) (hc:Below n w) (hH:s.H = H) :
  PostF P T n [.tmp t,.tmp u] (fun r' H'=>r' = .tup [v,w] ∧ H' = H) .ret s:=Vb hv hw hb hc hH
theorem Zns (s p:List UInt8):Pure Tryz.prog 348 [.str s,.str p] (.tup [.str (if hpre s p then s.drop p.length else s),.bool (hpre s p)]):=by
 intro n H
 refine Zm tok (Zb Tryz.func348 rfl rfl) (by simp) fun B=>?_
 refine Za tok rfl rfl ?_
 simp only [go_sem,simprocAttr]
 refine Za tok rfl rfl ?_
 simp only [go_sem,simprocAttr]
 refine Zq (Zb Tryz.func369 rfl rfl) (a198 s p) rfl ?_
 simp only [go_sem,simprocAttr]
 cases h:hpre s p with
 | false =>
  refine Zp rfl rfl rfl ?_
  refine Za tok rfl rfl ?_
  simp only [go_sem,simprocAttr]
  refine Zi rfl rfl ?_
  refine ZgA ?_ ?_ (.str _) (.bool _) rfl
  ·simp only [go_sem,simprocAttr]
   exact .refl _
  ·simp only [go_sem,simprocAttr]
   exact .refl _
 | true =>
  have hl:p.length ≤ s.length:=by
   simp only [hpre,Bool.and_eq_true,decide_eq_true_eq] at h; exact h.1
  refine Zn rfl rfl rfl ?_
  refine Za tok rfl rfl ?_
  simp only [go_sem,simprocAttr,hl,List.take_length]
  refine Zi rfl rfl ?_
  refine ZgA ?_ ?_ (.str _) (.bool _) rfl
  ·simp only [go_sem,simprocAttr]
   exact .refl _
  ·simp only [go_sem,simprocAttr]
   exact .refl _
theorem Znd (s p:List UInt8):Pure Tryz.prog 312 [.str s,.str p] (.tup [.str (if hpre s p then s.drop p.length else s),.bool (hpre s p)]):=by
 intro n H
 refine Zm tok (Zb Tryz.func312 rfl rfl) (by simp) fun B=>?_
 refine Za tok rfl rfl ?_
 simp only [go_sem,simprocAttr]
 refine Za tok rfl rfl ?_
 simp only [go_sem,simprocAttr]
 refine Zq (Zb Tryz.func348 rfl rfl) (Zns s p) rfl ?_
 simp only [go_sem,simprocAttr]
 refine Zi rfl rfl ?_
 refine ZgA ?_ ?_ (.str _) (.bool _) rfl
 ·simp only [go_sem,simprocAttr]
  exact .refl _
 ·simp only [go_sem,simprocAttr]
  exact .refl _
def Wu (s:List UInt8):Bool :=
 (decide (und s < s.length) && isUp (bt s (und s)) && wd s (und s)) || (hpre s [95] && (s.drop 1).all (fun b=>Ws (b.toNat:Int)) && decide (s.length ≤ 32))
theorem Znz (s:List UInt8) (hs:s.length ≤ 9223372036854775807):Pure Tryz.prog 263 [.str s] (.bool (Wu s)):=by
 intro n H
 refine Zm tok (Zb Tryz.func263 rfl rfl) (by simp) fun B=>?_
 refine Za tok rfl rfl ?_
 simp only [go_sem,simprocAttr]
 refine Za tok rfl rfl ?_
 simp only [go_sem,simprocAttr]
 refine Zq (Zb Tryz.func312 rfl rfl) (Znd s [95]) rfl ?_
 simp only [go_sem,simprocAttr]
 refine Za tok rfl rfl ?_
 simp only [go_sem,simprocAttr]
 refine Zq (Zb Tryz.func182 rfl rfl) (a78 s _ isUp cls160 hs) rfl ?_
 simp only [go_sem,simprocAttr]
 refine XJ _ (fun h1=>?_) (fun h1=>?_) <;> simp only [go_sem,simprocAttr,h1]
 ·refine Zi rfl rfl ?_
  refine Ze ?_ (.bool _) rfl
  simp only [go_sem,simprocAttr,Wu,h1,Bool.true_or]
  exact .refl _
 ·cases h2:hpre s [95] with
  | false =>
   simp only [go_sem,simprocAttr,h2]
   refine Zi rfl rfl ?_
   refine Ze ?_ (.bool _) rfl
   simp only [go_sem,simprocAttr,Wu,h1,h2,Bool.or_self]
   exact .refl _
  | true =>
   simp only [go_sem,simprocAttr,h2]
   refine Zq (Zb Tryz.func268 rfl rfl) (ZmD (s.drop 1) _ Ws cls161 (by rw [List.length_drop]; omega)) rfl ?_
   simp only [go_sem,simprocAttr]
   cases h3:(s.drop 1).all (fun b=>Ws (b.toNat:Int)) with
   | false =>
    simp only [go_sem,simprocAttr,h3]
    refine Zi rfl rfl ?_
    refine Ze ?_ (.bool _) rfl
    simp only [go_sem,simprocAttr,Wu,h1,h2,h3,Bool.or_self]
    exact .refl _
   | true =>
    simp only [go_sem,simprocAttr,h3]
    refine Zi rfl rfl ?_
    refine Ze ?_ (.bool _) rfl
    simp only [go_sem,simprocAttr,Wu,h1,h2,h3,Bool.false_or]
    have e:decide ((s.length:Int) ≤ 32) = decide (s.length ≤ 32):=by congr 1; simp; omega
    first | exact .refl _ | (rw [e]; exact .refl _)
def ZmT (s:List UInt8) (H:Zf) (i:Nat):Zh:=⟨[(4,.int .i64 ((1 + i:Nat):Int)),(0,.str s)],[],H⟩
theorem ZfO (s:List UInt8):hpre s [95] = decide (1 ≤ und s):=by
 cases s with
 | nil=>rfl
 | cons b r =>
  simp only [hpre,und,List.length_cons,List.length_nil,List.take_succ_cons,List.take_zero]
  have:([b] == [(95:UInt8)]) = ((b.toNat:Int) == 95):=by
   rw [Bool.eq_iff_iff]; simp
   constructor
   ·intro h; subst h; rfl
   ·intro h; exact UInt8.toNat_inj.1 (by show b.toNat = 95; omega)
  rw [this]
  split
  ·rename_i h; rw [h]; simp
  ·rename_i h; simp at h ⊢; exact fun e=>absurd e h
theorem ZfU {b:Int} (h:Ws b = true):(b == 95) = false:=by
 simp only [Ws,Bool.and_eq_true,decide_eq_true_eq] at h
 simp; omega
end Go.Proofs.YthgbkalgmicniaaGreatDoor
