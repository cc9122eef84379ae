/- More weakenings; a slice without elements az an argument. No program, no condition. -/
import Derived.Test.YtmdeagmbfhbbnaaGreatDoorRM03
import Derived.Test.YtmdeagmbfhbbnaaGreatDoorRM04
import Derived.Shelf.Slices.Cells
import Derived.Shelf.Slices.CompactS
import Derived.Shelf.Slices.In.SortNone
import Derived.Test.YtmdeagmbfhbbnaaGreatDoorRM05
set_option linter.all false
set_option maxRecDepth 100000
open Go.Proofs.Tryz
namespace Go.Abs
section
variable {cs:List AV} {H:Za} {L:List (Nat×Ze)} {tm:List (Nat×AV)}
def JC{n N:Nat}{j0 j i k0:Nat}(e k:Nat)(hb:lkb L j0=some (.box cs))(hi:cs[i]? =some (.sl k0 [] .full))(hj:lkb L j=none):
  AWk n N ⟨tm,L,H⟩ ⟨tm,setb (setb L j (.Zg e k [] 0)) j0 (.box (cs.set i (.msl k n j 0))),H⟩:=fun B E w a hs=>by
 have h:=hs.heap;obtain⟨b0,hm0,c,t,hc,hv⟩:=h.box n j0 cs (Qr n) (by simp only[full,if_true];exact hb);obtain⟨hil,hie⟩:=Ub.1 hi;have hvi:=hv.2 i hil (by rw[hv.1];exact hil);rw[hie]at hvi;have hval:∃ad,c.toList[i]'(by rw[hv.1];exact hil)= .slice ad 0 0∧ ∀x,ad=some x→x.spot=none:=by
  generalize c.toList[i]'(by rw[hv.1];exact hil)=x at hvi;cases hvi with
  |slnil _ _ a ho ha=>obtain rfl:=ha sm;exact⟨none,rfl,fun _ e=>by cases e⟩
  |sl _ _ _ b off cap c hk hc hv hcap hm ho=>
   have:cap=0:=ho;subst this;exact⟨_,rfl,fun _ e=>by cases e;rfl⟩
 obtain⟨ad,hval,hsp⟩:=hval;have hfree:full n L H n j=none:=by simp only[full,if_true];exact hj
 obtain⟨hh,hx⟩:=h.adopt (Qr n) hfree ad e k true;have hne:j0≠j:=fun e=>by rw[e,hj]at hb;cases hb
 have hm1:(E.Yy n j (.slice ad 0 0)).m n j0=some b0:=hm0;obtain⟨hh2,hx2⟩:=hh.turn (w':=w) (.inl hm1) (.box (cs.set i (.msl k n j 0))) (fun hg=>absurd (hh.m_g hm1) hg) rfl rfl rfl (fun _=>Qg _) rfl (fun _ _=>rfl) (fun o=>hh.mF _ _ _ o hm1)
  ⟨b0,hm1,c,t,hc,by rw[MO];exact hv.1,fun i' h1 h2=>by
   rw[Gy];split
   ·rename_i e1;subst e1;rw[hval];exact .mnil _ _ _ _ (by simp[Env.Yy]) hsp
   ·exact(hv.2 i' (by simpa using h1) h2).mono h.norm hx.le⟩
 have hxx:=hx.trans hx2;refine⟨_,⟨hs.size,hs.defs.ext hxx,fun t'=>(hs.tmps t').mono h.norm hxx.le,?_,hs.out⟩,hxx.mono (Ul n)⟩;show Zt (n+1) (full n (setb (setb L j _) j0 _) H) _ _;rw[Zr,Zr];exact hh2
def Zbc{cx:Cx}{c:Code}{k:List Itm}{Q:Exit→Zb→Prop}{k0:Nat}(j0 j i e sz:Nat)(hb:lkb L j0=some (.box cs))(hi:cs[i]? =some (.sl k0 [] .full))(hj:lkb L j=none)
  (h:AKc cx (.code c::k) Q ⟨tm,setb (setb L j (.Zg e sz [] 0)) j0 (.box (cs.set i (.msl sz cx.n j 0))),H⟩):AKc cx (.code c::k) Q ⟨tm,L,H⟩:=
 ZO (JC e sz hb hi hj) h
def Y1{n N:Nat}{tm':List (Nat×AV)}{j0 j i e sz k:Nat}{av av':AV}{cs0:List AV}(T:Nat)(hT:T<N)(xs:List AV)(hne:j0≠j)(hj0:lkb L j0=some (.box cs0))(hi:cs0[i]? =some av)(hav:(∃sz0,av= .msl sz0 n j k∧av'= .sl sz xs .any)∨(∃o m,av= .sub sz n j k o m∧av'= .sl sz ((xs.drop o).take m) .any))(hb:lkb L j=some (.Zg e sz cs k))
  (hfl:flat xs=cs) (hxl:xs.length=k) (hxk:∀x∈xs,x.cells.length=sz) (hcs:∀c∈cs,Inside n (fun k=>k≠j) c) (h1:∀p∈tm',p.1≠T∧Wk (lkv tm p.1) p.2∧Inside n (fun k=>k≠j) (lkv tm p.1))
  (hL:∀p∈delb (setb L j0 (.box (cs0.set i .dead))) j,p.2.Inside n (fun k=>k≠j)):
  AWk n N ⟨tm,L,H⟩ ⟨tm',setb (delb (setb L j0 (.box (cs0.set i .dead))) j) j0 (.box (cs0.set i av')),H⟩:=fun B E w a hs=>by
 have h:=hs.heap;obtain⟨b0,hm0,c,t,hc,hv⟩:=h.box n j0 cs0 (Qr n) (by simp only[full,if_true];exact hj0);obtain⟨hil,hie⟩:=Ub.1 hi;have hcl:i<c.toList.length:=by rw[hv.1];exact hil
 have hvi:=hv.2 i hil hcl;rw[hie]at hvi
 obtain⟨hh2,hx2⟩:=h.turn (w':=w) (.inl hm0) (.box (cs0.set i .dead)) (fun hg=>absurd (h.m_g hm0) hg) rfl rfl rfl (fun _=>Qg _) rfl (fun _ _=>rfl) (fun o=>h.mF _ _ _ o hm0)
  ⟨b0,hm0,c,t,hc,by rw[MO];exact hv.1,fun i' g1 g2=>by
   rw[Gy];split
   ·exact .dead _
   ·exact hv.2 i' (by simpa using g1) g2⟩
 rw[←Zr]at hh2;have hb2:lkb (setb L j0 (.box (cs0.set i .dead))) j=some (.Zg e sz cs k):=by rw[lkb_setb,if_neg (fun e=>hne e.symm)];exact hb
 have hs1:Yq B n N ⟨(T,av)::tm,setb L j0 (.box (cs0.set i .dead)),H⟩ E {a with tmps:=a.tmps.setIfInBounds T c.toList[i]} w:=by
  refine⟨by simpa using hs.size,hs.defs,fun t'=>?_,hh2,hs.out⟩;show VR E (lkv ((T,av)::tm) t') _;simp only[lkv,QE];by_cases ht:T=t'
  ·subst ht;rw[if_pos rfl];have:T<a.tmps.size:=by rw[hs.size];exact hT
   simpa[this]using hvi
  ·rw[if_neg ht,UQ ht];have:=hs.tmps t'
   rwa [QE]at this
 obtain⟨o,hs2,hx3⟩:=ZgN (tm':=(T,av')::tm') xs hb2 hfl hxl hxk hcs (fun p hp=>by
  rcases Ql.1 hp with rfl|hp
  ·have e:lkv ((T,av)::tm) T=av:=by simp[lkv]
   rw[e];exact .inr hav
  ·obtain⟨g1,g2,g3⟩:=h1 p hp;have e:lkv ((T,av)::tm) p.1=lkv tm p.1:=by simp only[lkv,if_neg (Ne.symm g1)]
   rw[e];exact .inl ⟨g2,g3⟩) hL B E w _ hs1
 have hval:VR (E.freeze n j o) av' c.toList[i]:=by
  have:=hs2.tmps T;simp only[lkv,if_true,QE]at this;have hTs:T<a.tmps.size:=by rw[hs.size];exact hT
  simpa[hTs]using this
 have hm0':(E.freeze n j o).m n j0=some b0:=by simp only[Env.freeze];rw[if_neg (fun e=>hne e.2)];exact hm0
 have hcur:lkb (delb (setb L j0 (.box (cs0.set i .dead))) j) j0=some (.box (cs0.set i .dead)):=by
  rw[lkb_delb,if_neg hne,lkb_setb,if_pos rfl]
 obtain⟨b1,hm1,c1,t1,hc1,hv1⟩:=hs2.heap.box n j0 _ (Qr n) (by simp only[full,if_true];exact hcur);rw[hm0']at hm1;cases hm1;rw[hc]at hc1;cases hc1;obtain⟨hh4,hx4⟩:=hs2.heap.turn (w':=w) (.inl hm0') (.box (cs0.set i av')) (fun hg=>absurd (hs2.heap.m_g hm0') hg) rfl rfl rfl (fun _=>Qg _) rfl (fun _ _=>rfl) (fun o=>hs2.heap.mF _ _ _ o hm0')
  ⟨b0,hm0',c,t,hc,by rw[MO];exact hv.1,fun i' g1 g2=>by
   rw[Gy];split
   ·rename_i e;subst e;exact hval
   ·rename_i e;have:=hv1.2 i' (by simpa using g1) g2
    rwa [List.getElem_set_ne e]at this⟩
 rw[←Zr]at hh4;refine⟨E.freeze n j o,⟨hs.size,hs.defs.ext hx3,fun t'=>?_,hh4,hs.out⟩,hx3⟩;rcases lkv_mem (tm:=tm') (t:=t')with hd|hmm
 ·show VR _ (lkv tm' t') _;rw[hd];exact .dead _
 ·obtain⟨g1,_,_⟩:=h1 _ hmm;have:=hs2.tmps t';simp only[lkv,if_neg (Ne.symm g1),QE]at this;rw[UQ (Ne.symm g1)]at this;show VR _ (lkv tm' t') _
  rwa [QE]
def Zi.Zi5{P:Program}{n:Nat}{f:FuncId}{args:List AV}{H:Za}{Q:AV→Za→Prop}{k:Nat}{o:Own}(h1:Zi P n f (.Xl::args) H Q)(h2:Zi P n f (.sln k::args) H Q):Zi P n f (.sl k [] o::args) H Q:=fun E w vs hr hv=>by
 obtain⟨v,r,rfl,hv1,hv2⟩:=hv.YW;rcases hv1.Zi5 with h|h
 ·exact h1 E w _ hr (VRs.cons h hv2)
 ·exact h2 E w _ hr (VRs.cons h hv2)
def Zi.args{P:Program}{n:Nat}{f:FuncId}{args args':List AV}{H:Za}{Q:AV→Za→Prop}(h:Zi P n f args H Q)(hw:Wks args' args):Zi P n f args' H Q:=fun E w vs hr hv=>h E w vs hr (forall₂_vr hw hv)
def Pure.args{P:Program}{f:FuncId}{args args':List AV}{r:AV}(h:Pure P f args r)(hw:Wks args' args):Pure P f args' r:=fun n H=>(h n H).args hw
def Wk.sln(k:Nat):Wk (.sln k) (.sl k [] .any):=.sem fun _ _ h=>h.ZsD
def Wk.Xl(k:Nat):Wk .Xl (.sl k [] .full):=.sem fun _ _ h=>h.ZiW
end
end Go.Abs

namespace Go.Proofs
open Go.Shelf
def Tryz.lays190_ren:Go.Shelf.Ren:=⟨fun|190=>105|125=>97|258=>165|128=>150|129=>151|302=>204|303=>205|304=>206|305=>207|306=>208|307=>209|308=>210|309=>211|310=>212|333=>241|329=>193|330=>194|334=>242|335=>243|336=>244|344=>269|n=>n,fun|31=>35|9=>9|3=>3|46=>144|0=>0|51=>194|53=>196|4=>4|183=>188|182=>187|131=>165|5=>5|218=>223|222=>227|228=>253|229=>254|n=>n,fun|n=>n⟩
def Tryz.lays190:Go.Proofs.Lays.n190 prog Tryz.lays190_ren:=by
 repeat' first|kernel_rfl|exact bO|(intro w;kernel_rfl)|constructor
def Tryz.lays194_ren:Go.Shelf.Ren:=⟨fun|194=>106|n=>n,fun|31=>35|9=>9|3=>3|4=>4|0=>0|n=>n,fun|n=>n⟩
def Tryz.lays194:Go.Proofs.Lays.n194 prog Tryz.lays194_ren:=by
 repeat' first|kernel_rfl|exact bO|(intro w;kernel_rfl)|constructor
end Go.Proofs

namespace Go.Proofs.YtmdeagmbfhbbnaaGreatDoorR
open Go.Abs
def nm1(t:Tm):List Str:=if t.kind=3 then [t.name]else []
theorem nmT_subs:(∀t:Tm,nmT t=(subs t).flatMap nm1)∧ ∀l:List Tm,nmT.nms l=(subs.subss l).flatMap nm1:=by
 have h:∀t:Tm,nmT t=(subs t).flatMap nm1:=fun t=>Tm.rec (motive_1:=fun t=>nmT t=(subs t).flatMap nm1) (motive_2:=fun l=>nmT.nms l=(subs.subss l).flatMap nm1)
  (fun k n s l ih=>by rw[nmT,subs,QV,ih];rfl) rfl (fun t r h1 h2=>by rw[nmT.nms,subs.subss,Ut,h1,h2]) t
 refine⟨h,fun l=>?_⟩;induction l with
 |nil=>rfl
 |cons t r ih=>rw[nmT.nms,subs.subss,Ut,h,ih]
def subs_good:∀(t:Tm),t.Good→ ∀u∈subs t,u.Good
 | .mk k n s l,h,u,hu=>by
  rw[ZnD]at hu;rcases Ql.1 hu with rfl|hu
  ·exact h
  ·obtain⟨v,hv,hu⟩:=Qx.1 hu;have hv':v∈l:=hv;exact subs_good v (h.arg hv) u hu
termination_by t=>SizeOf.sizeOf t
decreasing_by
 have:=QL hv';simp only[Tm.mk.sizeOf_spec];omega
abbrev Yo(l:List Str):List AV:=l.map AV.str
theorem flat_aStrs:∀l:List Str,flat (Yo l)=Yo l
 |[]=>rfl
 |x::l=>by simp only[Yo,Qv,Yw];rw[show flat (l.map AV.str)=l.map AV.str from flat_aStrs l];rfl
section
variable {p:Nat→Prop} {n:Nat}
def Zve(l:List Str):∀c∈Yo l,Inside n p c:=fun c hc=>by obtain⟨u,_,rfl⟩:=Qi.1 hc;exact .str _
def Zt3(e sz k:Nat)(l:List Str):Ze.Below n (.Zg e sz (Yo l) k):=⟨fun a ha=>by obtain⟨u,_,rfl⟩:=Qi.1 ha;exact .str _,by simp[Ze.at_]⟩
def Xo{n:Nat}{p:Nat→Prop}:∀l:List Str,Yg (fun c=>Inside n p c) (Yo l)
 |[]=>trivial
 |_::l=>⟨.str _,Xo l⟩
def Wq{k:Nat}(l:List Str):Below n (.sl k (Yo l) .any):=ZB fun x hx=>by obtain⟨u,_,rfl⟩:=Qi.1 hx;exact .str _
def ZmQ{sz l k i:Nat}(h:l<n∨(l=n∧p k)):Inside n p (.msl sz l k i):=.msl _ _ _ _ h
def ZaP{f:Nat}{caps:List AV}(h:Yg (fun c=>Below n c) caps):Below n (.fn (.func f) caps):=.fn _ _ fun i hi=>h.mem _ (Qa hi)
def Zdo(t:Tm)(i:Nat):List Str:=((subs t).take i).flatMap nm1
def L56(t:Tm)(n:Nat)(ns:List Str):List (Nat×Ze):=[(1,.box t.cs),(2,.box [.msl 1 n 200 ns.length]),(200,.Zg 9 1 (Yo ns) ns.length)]
def j56(t:Tm)(ht:t.Good)(hl:(nmT t).length≤1000000):Pure prog 56 [t.enc] (.sl 1 (Yo (ZU t)) .any):=by
 intro n H;refine aF func56 fun B=>?_
 refine gc ?_;refine cP (Zu9 t) ?_;refine kK ?_;refine Zbc 2 200 0 9 1 rfl rfl rfl ?_;refine aS ?_;simp only[go_sem,simprocAttr,UO];obtain⟨tm,htm⟩:∃tm:List (Nat×AV),tm=[(5,.fn (.func 163) [.iptr t.cs]),(4,t.enc),(2,.ptr n 2 0),(1,.ptr n 1 0),(0,t.enc)]:=⟨_,rfl⟩
 have h5:lkv tm 5= .fn (.func 163) [.iptr t.cs]:=by rw[htm];rfl
 have h2:lkv tm 2= .ptr n 2 0:=by rw[htm];rfl
 have hbt:Yg (fun p=>Below (n+1) p.2) tm:=by
  rw[htm];exact⟨ZaP ⟨Zq t.bcs,trivial⟩,t.blw _,.ptr _ _ _ (Qr n),.ptr _ _ _ (Qr n),t.blw _,trivial⟩
 refine ZQ (tm:=[(5,.fn (.func 163) [.iptr t.cs]),(4,t.enc),(2,.ptr n 2 0),(1,.ptr n 1 0),(0,t.enc)]) (L:=L56 t n []) (H:=H) rfl ?_;rw[←htm];clear htm;refine Ze5 (caps:=[.iptr t.cs]) 100 rfl (by simp only[go_sem,simprocAttr,h5]) (Zf func163 rfl rfl) rfl fun y=>?_
 refine⟨_,Zwu (x:=n) (l:=y) (L:=subs t) (S:=fun i=>lkb (setb (L56 t n (Zdo t i)) 100 (.lrec y Tryz.f56.ntmps 0 tm #[6] (ZW Tryz.f56).snd.fst.snd.fst.fst (ZW Tryz.f56).snd.fst.snd.fst.snd .ready none))) (H0:=H) ?_ ?_ t ht rfl (n+1) _ (Qr n) (fun l' k h=>by simp only[full];rw[if_neg om]) (fun k=>by simp only[full,if_true];rfl),?_⟩
 ·intro m H' i u hm hu hlow hlv;have hnm:¬n=m:=om;have h2':=hlv 2;have h200:=hlv 200;have h100:=hlv 100;simp only[L56,setb,lkb]at h2' h200 h100;have hug:=subs_good t ht u (GH hu);refine ZhH tt (x:=n) (y:=100) h100 hm rfl dc fun B'=>?_
  show AKc _ _ _ ⟨(6,u.enc)::tm,[],H'⟩;refine gd ?_;refine⟨rfl,h100,?_⟩;refine gP ?_;have hns:Zdo t (i+1)=Zdo t i++nm1 u:=by
   obtain⟨hi,hie⟩:=Ub.1 hu;unfold Zdo;rw[Qj hi,Ut,hie];simp
  have hnl:(Zdo t i).length≤1000000:=by
   have h3:(Zdo t i).length≤(nmT t).length:=by
    rw[nmT_subs.1 t];unfold Zdo
    conv=>rhs;rw[←Q7 i (subs t),Ut,Qh]
    omega
   omega
  cases hk:u.kind==3 with
  |false=>
   have hn1:nm1 u=[]:=by unfold nm1;rw[if_neg (by simpa using hk)]
   rw[hn1,Qs]at hns;refine nFq hk ?_;refine kK ?_;refine nN ?_;refine⟨by simp[Za.upd],rfl,?_⟩;rw[hns,ZmG hlv];exact Zlo h100
  |true=>
   have hn1:nm1 u=[u.name]:=by unfold nm1;rw[if_pos (by simpa using hk)]
   rw[hn1]at hns;refine nTq hk ?_;refine nr ?_;simp only[go_sem,simprocAttr,hnm,h2,h2',h200,full,Za.upd,(show¬m=n by omega)];have hfl:Yo (Zdo t i)++flat [AV.str u.name]=Yo (Zdo t i++[u.name]):=by simp[Yo,flat,AV.cells]
   have hl1:(Zdo t i).length+1=(Zdo t i++[u.name]).length:=sm;rw[hfl];refine⟨rfl,⟨Zl om,om⟩,.inr (Zt3 _ _ _ _),.inr (Ze.ZC ⟨.msl _ _ _ _ hm,trivial⟩),?_⟩;rw[hl1];refine kK ?_;refine nN ?_;refine⟨by simp[Za.upd],rfl,ZkH (fun j=>?_) (fun l' j hne=>?_)⟩
   ·rw[hns];by_cases e1:j=100
    ·subst e1;simp[Za.upd,setb,lkb,L56]
    ·by_cases e2:j=2
     ·subst e2;simp[Za.upd,setb,lkb,L56]
     ·by_cases e3:j=200
      ·subst e3;simp[Za.upd,setb,lkb,L56]
      ·simp[Za.upd,e1,e2,e3,hlv j,setb,lkb,L56,Ne.symm e1,Ne.symm e2,Ne.symm e3]
   ·simp[Za.upd,hne]
 ·intro i j b' h;have hb:Yg (fun q:Nat×Ze=>q.2.Below (n+1)) (setb (L56 t n (Zdo t i)) 100 (.lrec y Tryz.f56.ntmps 0 tm #[6] (ZW Tryz.f56).snd.fst.snd.fst.fst (ZW Tryz.f56).snd.fst.snd.fst.snd .ready none)):=
   ⟨Ze.ZC t.bcs,Ze.ZC ⟨.msl _ _ _ _ (Qr n),trivial⟩,Zt3 _ _ _ _,Ze.Za4 hbt,trivial⟩
  exact hb.mem _ (lkb_mem h)
 ·rintro r H1 rfl;have hall:Zdo t (subs t).length=nmT t:=by unfold Zdo;rw[QI,←nmT_subs.1]
  rw[hall];generalize hN:nmT t=ns at hl;have hv:Lib.compact (ns.mergeSort fun x y=>decide (x≤y))=ZU t:=by rw[Zjp,ZU,hN]
  refine⟨setb (L56 t n ns) 100 (.lrec y Tryz.f56.ntmps 0 tm #[6] (ZW Tryz.f56).snd.fst.snd.fst.fst (ZW Tryz.f56).snd.fst.snd.fst.snd .ready none),H,.ready,none,?_,.refl _ _,rfl,sm,?_⟩
  ·funext l' j;simp only[Za.YS,full];by_cases e:l'=n
   ·rw[if_pos e,if_pos e]
   ·rw[if_neg e,if_neg e,if_neg e]
  simp only[go_sem,simprocAttr,L56,setb];refine nq h2 ?_;refine YT (caps:=[]) (avs:=[.msl 1 n 200 ns.length]) rfl (Zf func105 rfl rfl) (ZpA (P:=prog) Tryz.lays190 (n+1) _ n 200 9 1 ns sS om) sS ?_;rintro r H1 ⟨rfl,rfl⟩;obtain⟨ys,hys⟩:∃ys,ys=ns.mergeSort fun x y=>decide (x≤y):=⟨_,rfl⟩
  have hyl:ys.length=ns.length:=by rw[hys];simp
  rw[←hys]at hv⊢;refine⟨[(1,.box t.cs),(2,.box [.msl 1 n 200 ns.length]),(200,.Zg 9 1 (Yo ys) ns.length),(100,.lrec y Tryz.f56.ntmps 0 tm #[6] (ZW Tryz.f56).snd.fst.snd.fst.fst (ZW Tryz.f56).snd.fst.snd.fst.snd .exhausted none)],H,(Zr n _ H 200 _).symm,.refl _ _,?_⟩;rw[←hyl];refine gM ?_;refine ZO (s':=⟨[(2,.ptr n 2 0)],[(2,.box [.msl 1 n 200 ys.length]),(200,.Zg 9 1 (Yo ys) ys.length)],H⟩) ?_ ?_
  ·apply kZ;repeat' first|apply q0|exact xx|apply aI
   all_goals first|exact Xo ys|(show Wk (lkv tm 2) _;rw[h2];exact .refl _)|(show Inside _ _ (lkv tm 2);rw[h2];exact .ptr _ _ _ (.inr ⟨rfl,rfl⟩))|(show Inside n _ (.msl 1 n 200 ys.length);exact ZmQ (.inr ⟨rfl,rfl⟩))
  rcases Gf ys.length with h0|hpos
  ·have hn:ys=[]:=Ug h0;subst hn;refine nR ?_;refine YT (caps:=[]) (avs:=[.msl 1 n 200 0]) rfl (Zf func106 rfl rfl) (Zja (P:=prog) Tryz.lays194 (n+1) _ n 200) sS ?_;rintro r H1 ⟨rfl,rfl⟩;refine⟨[(2,.box [.msl 1 n 200 0]),(200,.Zg 9 1 [] 0)],H,rfl,.refl _ _,?_⟩;refine gM ?_;refine ZO (Y1 (tm':=[(2,.ptr n 2 0)]) (av':=.sl 1 (Yo []) .any) (j0:=2) (i:=0) (j:=200) 14 (show 14<19 by decide) [] dc rfl rfl (.inl ⟨_,rfl,rfl⟩) rfl rfl rfl sm sm ?_ ?_) ?_
   ·simp[lkv,Wk.refl];exact .ptr _ _ _ sm
   ·simp[setb,delb];exact Ze.Zy ⟨.dead,trivial⟩
   simp only[go_sem,simprocAttr,setb,delb];refine nV ?_;rw[←hv];refine Z9 (.inl rfl) _ n 2 0 [.sl 1 [] .any] sS (by simp only[go_sem,simprocAttr,full,UO]) rfl (Qg _) sS ?_ (Wq _) rfl;refine aS ?_;exact .refl _
  ·refine nR ?_;refine YT (caps:=[]) (avs:=[.msl 1 n 200 ys.length]) rfl (Zf func106 rfl rfl) (ZkM (P:=prog) Tryz.lays194 (n+1) _ n 200 9 ys hpos sS om) sS ?_;rintro r H1 ⟨rfl,rfl⟩;rw[hv];have hle:(ZU t).length≤ys.length:=by rw[←hv];exact Lib.compact_length_le ys
   obtain⟨zs,hzs⟩:∃zs,zs=ZU t++List.replicate (ys.length - (ZU t).length) ([]:List UInt8):=⟨_,rfl⟩
   rw[←hzs];have hzl:zs.length=ys.length:=by rw[hzs];simp;omega
   have htk:zs.take (ZU t).length=ZU t:=by rw[hzs];simp
   refine⟨[(2,.box [.msl 1 n 200 ys.length]),(200,.Zg 9 1 (Yo zs) ys.length)],H,(Zr n _ H 200 _).symm,.refl _ _,?_⟩;refine gM ?_;refine ZO (Y1 (tm':=[(2,.ptr n 2 0)]) (av':=.sl 1 (Yo (ZU t)) .any) (j0:=2) (i:=0) (j:=200) 14 (show 14<19 by decide) (Yo zs) dc rfl rfl (.inr ⟨0,_,rfl,by rw[Qab,Yo,Yo,←List.map_take,htk]⟩) rfl (flat_aStrs zs) (by simp[hzl]) (fun x hx=>by obtain⟨u,_,rfl⟩:=Qi.1 hx;rfl) (Zve zs) ?_ ?_) ?_
   ·simp[lkv,Wk.refl];exact .ptr _ _ _ sm
   ·simp[setb,delb];exact Ze.Zy ⟨.dead,trivial⟩
   simp only[go_sem,simprocAttr,setb,delb];refine nV ?_;refine Z9 (.inl rfl) _ n 2 0 [.sl 1 (Yo (ZU t)) .any] sS (by simp only[go_sem,simprocAttr,full,UO]) rfl (Qg _) sS ?_ (Wq _) rfl;refine aS ?_;exact .refl _
end
def addN(S:List Str)(x:Str):List Str:=if x∈S then S else S++[x]
def ZP(S l:List Str):List Str:=l.foldl addN S
def encS(S:List Str):List (AV×AV):=Za5 AV.str (fun _:Unit=>AV.agg []) (S.map fun s=>(s,()))
theorem Zlm(x:Str):∀S:List Str,(getM x (S.map fun s=>(s,()))).isSome=decide (x∈S)
 |[]=>rfl
 |y::r=>by
  have ih:=Zlm x r;simp only[Qv,getM];by_cases h:y=x
  ·simp[h]
  ·rw[if_neg h,ih];have:¬x=y:=fun e=>h e.symm
   simp[this]
theorem Zkb(x:Str):∀S:List Str,ZgP x () (S.map fun s=>(s,()))=(addN S x).map fun s=>(s,())
 |[]=>rfl
 |y::r=>by
  have ih:=Zkb x r;simp only[Qv,ZgP];by_cases h:y=x
  ·simp[h,addN]
  ·rw[if_neg h,ih];have:¬x=y:=fun e=>h e.symm
   unfold addN;by_cases h2:x∈r<;>simp[h2,this]
def ZrC(x:Str)(S:List Str):ZaN (.str x) (.agg []) (encS S)=encS (addN S x):=by
 unfold encS;rw[←Zkb];exact Zmy kinj_str (fun _:Unit=>AV.agg []) x () _
def WX{n:Nat}(S:List Str):Ze.Below n (.map (encS S)):=Zkn (Zgr (ek:=AV.str) (ev:=fun _:Unit=>AV.agg []) (fun _=>.str _) (fun _ _=>Xf fun _ h=>absurd h (QA)))
def Zqi(x:Str)(S:List Str):lookA ⟨.struct [],0,0,[]⟩ (.str x) (encS S) true= .tup [.agg [],.bool (decide (x∈S))]:=by
 have h:=Zlm x S;unfold encS lookA;rw[Zjt kinj_str];cases e:getM x (S.map fun s=>(s,()))with
 |none=>rw[e]at h;simp at h;simp[h];rfl
 |some v=>
  rw[e]at h;simp at h;have h1:=ZiP e;have h2:(Za5 AV.str (fun _:Unit=>AV.agg []) (S.map fun s=>(s,()))).getD (ixM x (S.map fun s=>(s,()))) (.dead,.dead)=(.str x,.agg []):=by
   rw[Qn,Za5,Ua,h1];rfl
  simp only[Qag,if_true,h2,h,decide_true]
def _root_.Go.Abs.Za.Zau(H:Za)(l k:Nat)(b b':Ze):(H.upd l k b).upd l k b'=H.upd l k b':=by
 funext x y;simp only[Za.upd];split<;>rfl
def Zp7{S:List Str}{x y:Str}:y∈addN S x↔y∈S∨y=x:=by
 unfold addN;split
 ·rename_i h;constructor
  ·exact .inl
  ·rintro(h'|rfl)
   ·exact h'
   ·exact h
 ·simp
def VG{y:Str}:∀{l S:List Str},y∈ZP S l↔y∈S∨y∈l
 |[],S=>by simp[ZP]
 |x::l,S=>by
  have:=VG (y:=y) (l:=l) (S:=addN S x);unfold ZP at*;rw[Uz,this,Zp7,Ql,or_assoc]
def addsN_nodup:∀{l S:List Str},S.Nodup→(ZP S l).Nodup
 |[],S,h=>h
 |x::l,S,h=>by
  refine addsN_nodup (l:=l) (S:=addN S x) ?_;unfold addN;split
  ·exact h
  ·rename_i hn;exact GK.2 ⟨h,sm,fun a ha b hb e=>by simp only[Qm]at hb;subst hb;subst e;exact hn ha⟩
def addsN_len:∀{l S:List Str},(ZP S l).length≤S.length+l.length
 |[],S=>by simp[ZP]
 |x::l,S=>by
  have h1:=addsN_len (l:=l) (S:=addN S x);have h2:(addN S x).length≤S.length+1:=by unfold addN;split<;>simp
  unfold ZP at*;rw[Uz,Qq];omega
def ZlB(S l:List Str)(i:Nat)(h:i<l.length):ZP S (l.take (i+1))=addN (ZP S (l.take i)) l[i]:=by
 unfold ZP;rw[Qj h,Md];rfl
def ZuK(l k:Nat)(S xs:List Str)(H:Za)(i:Nat):Zb:=
 ⟨[(8,.int .i64 i),(7,.int .i64 xs.length),(6,.sl 1 (Yo xs) .any),(0,.map l k)],[],H.upd l k (.map (encS (ZP S (xs.take i))))⟩
def j40(n:Nat)(H:Za)(l k:Nat)(hl:l<n)(S xs:List Str)(hlen:xs.length≤1000000)(hH:H l k=some (.map (encS S))):
  Zi prog n 40 [.map l k,.sl 1 (Yo xs) .any] H fun r H'=>r= .tup []∧H'=H.upd l k (.map (encS (ZP S xs))):=by
 have hne:¬l=n:=om;have h0:H=H.upd l k (.map (encS (ZP S (xs.take 0)))):=(Yd hH).symm;refine aF func40 fun B=>?_
 refine gh ?_;refine Zm (ZuK l k S xs H) xs.length rfl ?_ ?_
 ·unfold ZuK;rw[←h0];exact KK
 intro i hi;refine ZQ rfl ?_;rcases Qe i xs.length with h|h
 ·refine nq h ?_;refine nT ?_;refine nq2 (getD_map AV.str _ _ h) h ?_;have hput:=ZrC xs[i] (ZP S (xs.take i));have hkk:∀p∈encS (ZP S (xs.take i)),YF tt 9 p.1=true:=fun p hp=>by
   obtain⟨q,_,rfl⟩:=Qi.1 hp;exact Zev _
  have hup:H.upd l k (.map (encS (ZP S (xs.take i)))) l k=some (.map (encS (ZP S (xs.take i)))):=Za.upd_same _ _ _ _;have huu:∀b,(H.upd l k (.map (encS (ZP S (xs.take i))))).upd l k b=H.upd l k b:=fun b=>Za.Zau _ _ _ _ _
  refine nr ?_;simp only[go_sem,simprocAttr,hne,hup,hput,huu,←ZlB S xs i h];refine⟨hkk,.inr (WX _),?_⟩;refine kK ?_;refine gd ?_;apply kZ;repeat' first|apply q0|exact xx|apply aI
  ·refine aS ?_;rw[iw];exact .refl _
  all_goals first|exact Inside.map _ _ (.inl hl)|exact(Wq _).inside
 ·refine nq (QD.2 h) ?_;refine gg ?_;have hi':i=xs.length:=om;subst hi';refine nN ?_;exact⟨by simp[X8],[],trivial,sm,rfl,by rw[QI]⟩
def ZvE(l k:Nat)(xs:List Str)(H:Za)(i:Nat):Zb:=
 ⟨[(11,.int .i64 i),(10,.int .i64 xs.length),(9,.sl 1 (Yo xs) .any),(0,.map l k)],[],H⟩
def j48(n:Nat)(H:Za)(l k:Nat)(hl:l<n)(S xs:List Str)(hlen:xs.length≤1000000)(hH:H l k=some (.map (encS S))):
  PC prog n 48 [.map l k,.sl 1 (Yo xs) .any] H (.bool (Vd S xs)):=by
 have hne:¬l=n:=om;refine aF func48 fun B=>?_
 refine gk ?_;refine ZL (ZvE l k xs H) (fun i=>∀j (h:j<xs.length),j<i→xs[j]∈S) xs.length rfl ?_ (fun j _ h=>absurd h (Qo _)) ?_
 ·exact KK
 intro i hi hq;refine ZQ rfl ?_;rcases Qe i xs.length with h|h
 ·refine nq h ?_;refine nT ?_;refine nq2 (getD_map AV.str _ _ h) h ?_;have hkk:∀p∈encS S,YF tt 9 p.1=true:=fun p hp=>by
   obtain⟨q,_,rfl⟩:=Qi.1 hp;exact Zev _
  have hlook:=Zqi xs[i] S;refine nq3 hne hH hlook ?_;refine⟨hkk,?_⟩;refine kK ?_;refine nR ?_;by_cases hx:xs[i]∈S
  ·have e:(!decide (xs[i]∈S))=false:=by simp[hx]
   refine nFq e ?_;refine gd ?_;refine⟨fun j hj hji=>?_,?_⟩
   ·rcases Qe j i with h'|h'
    ·exact hq j hj h'
    ·have:j=i:=om;subst this;exact hx
   ·apply kZ;repeat' first|apply q0|exact xx|apply aI
    ·refine aS ?_;rw[iw];exact .refl _
    all_goals first|exact Inside.map _ _ (.inl hl)|exact(Wq _).inside|skip
  ·have e:(!decide (xs[i]∈S))=true:=by simp[hx]
   have e2:Vd S xs=false:=by
    rw[←Gl,ZbW];exact fun hh=>hx (hh _ (Qa h))
   refine nTq e ?_;refine nR ?_;refine nW ?_;rw[e2];refine Zc ?_ (.bool _) rfl;exact xS
 ·refine nq (QD.2 h) ?_;refine gg ?_;have e2:Vd S xs=true:=by
   rw[ZbW];intro x hx;obtain⟨j,hj,rfl⟩:=QJ hx;exact hq j hj om
  refine ge ?_;rw[e2];refine Zc ?_ (.bool _) rfl;exact xS
end Go.Proofs.YtmdeagmbfhbbnaaGreatDoorR

namespace Go.Abs
def eBd(p:List UInt8×Tm):AV:=.agg (.str p.1::p.2.cs)
def Zj(b:Bnd):AV:=.sl 5 (b.map eBd) .any
def Zdh(n:Nat)(p:List UInt8×Tm):Below n (eBd p):=Xf (List.forall_mem_cons.2 ⟨.str _,p.2.bcs.mem⟩)
def Zw(n:Nat)(b:Bnd):Below n (Zj b):=ZB fun x hx=>by obtain⟨u,_,rfl⟩:=Qi.1 hx;exact Zdh n u
def eSs(l:List (List UInt8)):AV:=.sl 1 (l.map .str) .any
def ZfG(n:Nat)(l:List (List UInt8)):Below n (eSs l):=ZB fun x hx=>by obtain⟨u,_,rfl⟩:=Qi.1 hx;exact .str _
theorem Zmz(b:Bnd):(Zj b).cells=[Zj b]:=rfl
theorem Zo0(l:List (List UInt8)):(eSs l).cells=[eSs l]:=rfl
theorem Zpm(b:Bnd):(Zj b).one=true:=rfl
theorem Zrc(l:List (List UInt8)):(eSs l).one=true:=rfl
attribute [go_sem] Zmz Zo0 Zpm Zrc
namespace Lt
def cs(x:Lt):List AV:=[.int .u8 x.kind,.bool x.neg,.str x.at_.pred,.sl 4 (x.at_.args.map Tm.enc) .any,.int .u8 x.op,
 .int .u8 x.L.kind,.int .i64 x.L.num,.str x.L.name,.sl 4 (x.L.args.map Tm.enc) .any,.int .u8 x.R.kind,.int .i64 x.R.num,.str x.R.name,.sl 4 (x.R.args.map Tm.enc) .any]
def enc(x:Lt):AV:=.agg x.cs
def bcs{n:Nat}(x:Lt):Yg (fun c=>Below n c) x.cs:=⟨.int _ _,.bool _,.str _,ZH _,.int _ _,.int _ _,.int _ _,.str _,ZH _,.int _ _,.int _ _,.str _,ZH _,trivial⟩
def blw(n:Nat)(x:Lt):Below n x.enc:=Xf x.bcs.mem
theorem fold(x:Lt):AV.agg [.int .u8 x.kind,.bool x.neg,.str x.at_.pred,.sl 4 (x.at_.args.map Tm.enc) .any,.int .u8 x.op,
 .int .u8 x.L.kind,.int .i64 x.L.num,.str x.L.name,.sl 4 (x.L.args.map Tm.enc) .any,.int .u8 x.R.kind,.int .i64 x.R.num,.str x.R.name,.sl 4 (x.R.args.map Tm.enc) .any]=x.enc:=rfl
theorem Xg(x:Lt):x.enc.cells=x.cs:=rfl
def Zh(l:List Lt)(i:Nat)(h:i<l.length)(d:AV):(l.map enc).getD i d=(l[i]).enc:=by
 rw[Qn,Ua,Qb h];rfl
structure Good (x:Lt):Prop where
 at_:x.at_.Good
 L:x.L.Good
 R:x.R.Good
end Lt
def Yf{n k:Nat}(l:List Lt):Below n (.sl k (l.map Lt.enc) .any):=ZB fun x hx=>by obtain⟨u,_,rfl⟩:=Qi.1 hx;exact u.blw n
def ZF{n k:Nat}(l:List Bnd):Below n (.sl k (l.map Zj) .any):=ZB fun x hx=>by obtain⟨u,_,rfl⟩:=Qi.1 hx;exact Zw n u
def ZhT{n k:Nat}(l:List (List (List UInt8))):Below n (.sl k (l.map eSs) .any):=ZB fun x hx=>by obtain⟨u,_,rfl⟩:=Qi.1 hx;exact ZfG n u
end Go.Abs
namespace Go.Proofs.YtmdeagmbfhbbnaaGreatDoorR
open Go.Abs
abbrev SS:=List Str
def ZtP(l:List (Tm))(f:Nat)(caps:List AV)(g:Tm→Tm)(n:Nat)(H:Za)(i:Nat):Zb:=
 ⟨[(10,.int .i64 i),(9,.int .i64 l.length),(8,.sl 4 (l.map Tm.enc) .any),(5,.sl 4 (((l.take i).map g).map Tm.enc) (.buf n 200)),(1,.fn (.func f) caps)],[(200,.buf 40 4 i)],H⟩
def j70(l:List (Tm))(hl:l.length≤1000000)(f:Nat)(caps:List AV)(g:Tm→Tm)(hp:Zft f caps Tm.enc Tm.enc l g):ZR prog 70 [.sl 4 (l.map Tm.enc) .any,.fn (.func f) caps] (.sl 4 ((l.map g).map Tm.enc) .any):=by
 intro n H hn hT;obtain⟨⟨fn,c,hf⟩,hp,hbl⟩:=hp;have hfi:∀q,Inside n q (.fn (.func f) caps):=fun q=>(Below.fn _ _ fun i hi=>(hbl n).mem _ (Qa hi)).inside
 have hbi:∀q,Inside n q (.sl 4 (l.map Tm.enc) .any):=fun q=>(ZH _).inside
 have ho:∀(q:Nat→Prop) (r:List (Tm)),q 200→Inside n q (.sl 4 (r.map Tm.enc) (.buf n 200)):=fun q r h=>Abs.Yj (mB fun u=>Tm.blw n u) h
 refine aF func70 fun B=>?_
 refine gz ?_;refine Xn 5 200 40 4 rfl rfl ?_;refine Zm (ZtP l f caps g n H) l.length rfl ?_ ?_
 ·exact KK
 intro i hi;refine ZQ rfl ?_;rcases Qe i l.length with h|h
 ·have hmin:(l.take i).length=i:=Uo om;refine nq h ?_;refine nT ?_;refine nq2 (getD_map Tm.enc _ _ h) h ?_;refine nR ?_;refine YE (avs:=[Tm.enc l[i]]) rfl hf (hp l[i] (Qa h) _ _ (QO _) (hT.full hn)) rfl ?_;refine aq hmin ?_;refine⟨by first|exact⟨rfl,dc⟩|exact⟨rfl,rfl,rfl⟩|exact rfl,⟨Zl om,om⟩,?_⟩;refine gd ?_;apply kZ;repeat' first|apply q0|exact xx|apply aI
  ·refine aS ?_;rw[iw];exact .refl _
  ·simp only[go_sem,simprocAttr,Qj h,QC];exact .refl _
  all_goals first|exact hfi _|exact hbi _|exact ho _ _ rfl
 ·refine nq (QD.2 h) ?_;refine gg ?_;have hi':i=l.length:=om;subst hi';refine gE ?_;refine Zc ?_ (ZH _) rfl;refine aS ?_;exact .any _ _ _
def Zt7(l:List (Tm))(f:Nat)(caps:List AV)(g:Tm→SS)(n:Nat)(H:Za)(i:Nat):Zb:=
 ⟨[(10,.int .i64 i),(9,.int .i64 l.length),(8,.sl 4 (l.map Tm.enc) .any),(5,.sl 1 (((l.take i).map g).map eSs) (.buf n 200)),(1,.fn (.func f) caps)],[(200,.buf 35 1 i)],H⟩
def j83(l:List (Tm))(hl:l.length≤1000000)(f:Nat)(caps:List AV)(g:Tm→SS)(hp:Zft f caps Tm.enc eSs l g):ZR prog 83 [.sl 4 (l.map Tm.enc) .any,.fn (.func f) caps] (.sl 1 ((l.map g).map eSs) .any):=by
 intro n H hn hT;obtain⟨⟨fn,c,hf⟩,hp,hbl⟩:=hp;have hfi:∀q,Inside n q (.fn (.func f) caps):=fun q=>(Below.fn _ _ fun i hi=>(hbl n).mem _ (Qa hi)).inside
 have hbi:∀q,Inside n q (.sl 4 (l.map Tm.enc) .any):=fun q=>(ZH _).inside
 have ho:∀(q:Nat→Prop) (r:List (SS)),q 200→Inside n q (.sl 1 (r.map eSs) (.buf n 200)):=fun q r h=>Abs.Yj (mB fun u=>ZfG n u) h
 refine aF func83 fun B=>?_
 refine gz ?_;refine Xn 5 200 35 1 rfl rfl ?_;refine Zm (Zt7 l f caps g n H) l.length rfl ?_ ?_
 ·exact KK
 intro i hi;refine ZQ rfl ?_;rcases Qe i l.length with h|h
 ·have hmin:(l.take i).length=i:=Uo om;refine nq h ?_;refine nT ?_;refine nq2 (getD_map Tm.enc _ _ h) h ?_;refine nR ?_;refine YE (avs:=[Tm.enc l[i]]) rfl hf (hp l[i] (Qa h) _ _ (QO _) (hT.full hn)) rfl ?_;refine aq hmin ?_;refine⟨by first|exact⟨rfl,dc⟩|exact⟨rfl,rfl,rfl⟩|exact rfl,⟨Zl om,om⟩,?_⟩;refine gd ?_;apply kZ;repeat' first|apply q0|exact xx|apply aI
  ·refine aS ?_;rw[iw];exact .refl _
  ·simp only[go_sem,simprocAttr,Qj h,QC];exact .refl _
  all_goals first|exact hfi _|exact hbi _|exact ho _ _ rfl
 ·refine nq (QD.2 h) ?_;refine gg ?_;have hi':i=l.length:=om;subst hi';refine gE ?_;refine Zc ?_ (ZhT _) rfl;refine aS ?_;exact .any _ _ _
def Zs7(l:List (Tm))(f:Nat)(caps:List AV)(g:Tm→Bnd)(n:Nat)(H:Za)(i:Nat):Zb:=
 ⟨[(10,.int .i64 i),(9,.int .i64 l.length),(8,.sl 4 (l.map Tm.enc) .any),(5,.sl 1 (((l.take i).map g).map Zj) (.buf n 200)),(1,.fn (.func f) caps)],[(200,.buf 34 1 i)],H⟩
def j136(l:List (Tm))(hl:l.length≤1000000)(f:Nat)(caps:List AV)(g:Tm→Bnd)(hp:Zft f caps Tm.enc Zj l g):ZR prog 136 [.sl 4 (l.map Tm.enc) .any,.fn (.func f) caps] (.sl 1 ((l.map g).map Zj) .any):=by
 intro n H hn hT;obtain⟨⟨fn,c,hf⟩,hp,hbl⟩:=hp;have hfi:∀q,Inside n q (.fn (.func f) caps):=fun q=>(Below.fn _ _ fun i hi=>(hbl n).mem _ (Qa hi)).inside
 have hbi:∀q,Inside n q (.sl 4 (l.map Tm.enc) .any):=fun q=>(ZH _).inside
 have ho:∀(q:Nat→Prop) (r:List (Bnd)),q 200→Inside n q (.sl 1 (r.map Zj) (.buf n 200)):=fun q r h=>Abs.Yj (mB fun u=>Zw n u) h
 refine aF func136 fun B=>?_
 refine gz ?_;refine Xn 5 200 34 1 rfl rfl ?_;refine Zm (Zs7 l f caps g n H) l.length rfl ?_ ?_
 ·exact KK
 intro i hi;refine ZQ rfl ?_;rcases Qe i l.length with h|h
 ·have hmin:(l.take i).length=i:=Uo om;refine nq h ?_;refine nT ?_;refine nq2 (getD_map Tm.enc _ _ h) h ?_;refine nR ?_;refine YE (avs:=[Tm.enc l[i]]) rfl hf (hp l[i] (Qa h) _ _ (QO _) (hT.full hn)) rfl ?_;refine aq hmin ?_;refine⟨by first|exact⟨rfl,dc⟩|exact⟨rfl,rfl,rfl⟩|exact rfl,⟨Zl om,om⟩,?_⟩;refine gd ?_;apply kZ;repeat' first|apply q0|exact xx|apply aI
  ·refine aS ?_;rw[iw];exact .refl _
  ·simp only[go_sem,simprocAttr,Qj h,QC];exact .refl _
  all_goals first|exact hfi _|exact hbi _|exact ho _ _ rfl
 ·refine nq (QD.2 h) ?_;refine gg ?_;have hi':i=l.length:=om;subst hi';refine gE ?_;refine Zc ?_ (ZF _) rfl;refine aS ?_;exact .any _ _ _
end Go.Proofs.YtmdeagmbfhbbnaaGreatDoorR

namespace Go.Proofs.YtmdeagmbfhbbnaaGreatDoorR
open Go.Abs
def inZ{n k:Nat}{p:Nat→Prop}:Inside n p (.sl k [] .full):=(YN (n:=n) (fun _ h=>by cases h) (fun _ _ e=>by cases e)).inside
def ZwI(t:Tm)(ht:t.Good)(hm:Zft 49 [] Tm.enc Tm.enc t.args id):ZR prog 49 [t.enc] t.enc:=by
 intro n H hn hT;have ha:=j70 t.args ht.len _ [] id hm;rw[QbI]at ha;refine aF func49 fun B=>?_
 refine gc ?_;refine cT (ha) ?_;refine ge ?_;refine Z9 (.inl rfl) _ n 2 0 t.cs sS sF rfl (Qg _) sS ?_ (Tm.blw _ t) rfl;exact xS
def j49(t:Tm)(ht:t.Good):ZR prog 49 [t.enc] t.enc:=
 ZwI t ht ⟨⟨_,_,Zf func49 rfl rfl⟩,fun u hu=>j49 u (ht.arg hu),fun _=>trivial⟩
termination_by SizeOf.sizeOf t
decreasing_by exact Tm.Y2 hu
def Zwt(s p:List UInt8):Pure prog 183 [.str s,.str p] (.bool (hpre s p)):=by
 intro n H;refine aF func183 fun B=>?_
 refine gc ?_;refine cP (a198 s p) ?_;exact pB
theorem Zqc(s:List UInt8):hpre s [35]=decide (s.head? =some 35):=by
 cases s with
 |nil=>rfl
 |cons b r=>rw[U3];simp[hpre]
def Zow(t:Tm):plainT t= .mk t.kind t.num (if t.kind=3∧t.name.head? =some 35 then [88]else t.name) (t.args.map plainT):=by
 cases t;rw[plainT,plains_eq];rfl
def Zt0(t:Tm)(ht:t.Good)(hm:Zft 124 [] Tm.enc Tm.enc t.args plainT):ZR prog 124 [t.enc] (plainT t).enc:=by
 intro n H hn hT;have ha:=j70 t.args ht.len _ [] plainT hm;have he:(plainT t).enc= .agg [.int .u8 t.kind,.int .i64 t.num,.str (if t.kind=3∧t.name.head? =some 35 then [88]else t.name),.sl 4 ((t.args.map plainT).map Tm.enc) .any]:=by
  rw[Zow,Tm.VJ];rfl
 refine aF func124 fun B=>?_
 obtain⟨nw,hnw⟩:∃nw:Bool,nw=decide (t.kind=3∧t.name.head? =some 35):=⟨_,rfl⟩
 obtain⟨nm,hnm⟩:∃nm:Str,nm=if t.kind=3∧t.name.head? =some 35 then [88]else t.name:=⟨_,rfl⟩
 rw[←hnm]at he;rw[he];refine gh ?_;refine WM ⟨[(10,.bool nw),(2,.ptr n 2 0),(1,.ptr n 1 0)],[(1,.box [.int .u8 t.kind,.int .i64 t.num,.str t.name,.sl 4 (t.args.map Tm.enc) .any]),(2,.box [.int .u8 0,.int .i64 0,.str [],.sl 4 [] .full])],H⟩ ?_ ?_
 ·refine nR ?_;cases h1:t.kind==3 with
  |false=>
   have e:nw=false:=by rw[hnw];simp only[beq_eq_false_iff_ne]at h1;simp[h1]
   refine aq h1 ?_;refine nN ?_;refine⟨rfl,?_⟩;rw[e];exact KK
  |true=>
   have e:nw=hpre t.name [35]:=by rw[hnw,Zqc];simp only[beq_iff_eq]at h1;simp[h1]
   refine aq h1 ?_;refine cP (Zwt t.name [35]) ?_;refine nN ?_;refine⟨rfl,?_⟩;rw[e];exact KK
 refine kK ?_;refine WM ⟨[(2,.ptr n 2 0),(1,.ptr n 1 0)],[(1,.box [.int .u8 t.kind,.int .i64 t.num,.str nm,.sl 4 (t.args.map Tm.enc) .any]),(2,.box [.int .u8 0,.int .i64 0,.str [],.sl 4 [] .full])],H⟩ ?_ ?_
 ·cases nw with
  |false=>
   have e:nm=t.name:=by rw[hnm,if_neg (of_decide_eq_false hnw.symm)]
   refine nF ?_;refine nN ?_;refine⟨rfl,?_⟩;rw[e];exact KK
  |true=>
   have e:nm=[88]:=by rw[hnm,if_pos (of_decide_eq_true hnw.symm)]
   refine nT ?_;refine gd ?_;refine⟨rfl,?_⟩;rw[e];exact KK
 refine nR ?_;refine cT (ha) ?_;refine ge ?_;refine Z9 (.inl rfl) _ n 2 0 [.int .u8 t.kind,.int .i64 t.num,.str nm,.sl 4 ((t.args.map plainT).map Tm.enc) .any] sS sF rfl (Qg _) sS ?_ (by rw[←he];exact Tm.blw _ _) rfl;exact xS
def j124(t:Tm)(ht:t.Good):ZR prog 124 [t.enc] (plainT t).enc:=
 Zt0 t ht ⟨⟨_,_,Zf func124 rfl rfl⟩,fun u hu=>j124 u (ht.arg hu),fun _=>trivial⟩
termination_by SizeOf.sizeOf t
decreasing_by exact Tm.Y2 hu
def plain_good:∀(t:Tm),(t.Nm→(plainT t).Nm)∧(plainT t).sz=t.sz
 | .mk k n s l=>by
  have ih:∀u∈l,(u.Nm→(plainT u).Nm)∧(plainT u).sz=u.sz:=fun u hu=>plain_good u
  refine⟨fun h=>?_,?_⟩
  ·cases h with|mk _ _ _ _ h1 h2 h3 h4 h5=>
   rw[plainT,plains_eq];refine .mk _ _ _ _ ?_ h2 h3 (by simpa using h4) fun u hu=>?_
   ·split
    ·simp
    ·exact h1
   ·obtain⟨v,hv,rfl⟩:=Qi.1 hu;exact(ih v hv).1 (h5 v hv)
  ·rw[plainT,plains_eq,Tm.sz,Tm.sz];have:∀q:List Tm,(∀u∈q,u∈l)→Tm.sz.szs (q.map plainT)=Tm.sz.szs q:=by
    intro q;induction q with
    |nil=>intro _;rfl
    |cons u q ihq=>intro hq;simp only[Qv,Tm.sz.szs,(ih u (hq u sm)).2,ihq fun v hv=>hq v (by simp[hv])]
   rw[this l fun _ h=>h]
termination_by t=>SizeOf.sizeOf t
decreasing_by
 have:=QL hu;simp only[Tm.mk.sizeOf_spec];omega
def _root_.Go.Abs.Tm.Good.plain{t:Tm}(h:t.Good):(plainT t).Good:=⟨by rw[(plain_good t).2];exact h.sz,(plain_good t).1 h.nm⟩
def j77(t:Tm)(ht:t.Good):ZR prog 77 [t.enc] (.bool (Jf t)):=by
 intro n H hn hT;refine aF func77 fun B=>?_
 refine gc ?_;refine cT (j124 t ht) ?_;refine cT (a72 (plainT t) ht.plain) ?_;refine YG rfl rfl ?_;refine Zc ?_ (.bool _) rfl;try simp only[go_sem,simprocAttr,Jf]
 exact .refl _
def j76(t:Tm)(ht:t.Good):ZR prog 76 [t.enc] (.bool (!Jf t)):=by
 intro n H hn hT;refine aF func76 fun B=>?_
 refine gc ?_;refine cT (j77 t ht) ?_;exact pB
def eqL{α:Type}(e:α→α→Bool):List α→List α→Bool
 |[],[]=>true
 |a::x,b::y=>e a b&&eqL e x y
 |_,_=>false
theorem Zm2{α:Type}{e:α→α→Bool}:∀{p q:List α},p.length≠q.length→eqL e p q=false
 |[],[],h=>absurd rfl h
 |[],_::_,_=>rfl
 |_::_,[],_=>rfl
 |a::p,b::q,h=>by rw[eqL,Zm2 (p:=p) (q:=q) (by simpa using h),Gq]
theorem Zks{α:Type}{e:α→α→Bool}:∀{p q:List α},p.length=q.length→(∀j (h:j<p.length) (h':j<q.length),e p[j] q[j]=true)→eqL e p q=true
 |[],[],_,_=>rfl
 |[],_::_,h,_=>by cases h
 |_::_,[],h,_=>by cases h
 |a::p,b::q,h,hj=>by
  have h0:=hj 0 sm sm;simp only[Uh]at h0;rw[eqL,h0,Ud];exact Zks (by simpa using h) (fun j h1 h2=>by have:=hj (j+1) (by simpa using h1) (by simpa using h2);simpa using this)
def ZhD{α:Type}{e:α→α→Bool}:∀{p q:List α} {j:Nat} (h:j<p.length) (h':j<q.length),e p[j] q[j]=false→eqL e p q=false
 |a::p,b::q,0,_,_,hj=>by simp only[Uh]at hj;rw[eqL,hj,UA]
 |a::p,b::q,j+1,h,h',hj=>by
  simp only[UU]at hj;rw[eqL,ZhD (by simpa using h) (by simpa using h') hj,Gq]
theorem eqs_eqL:∀p q:List Tm,eqT.eqs p q=eqL eqT p q
 |[],[]=>rfl
 |[],_::_=>rfl
 |_::_,[]=>rfl
 |a::p,b::q=>by rw[eqT.eqs,eqL,eqs_eqL p q]
def ZwF(p q:List Tm)(H:Za)(i:Nat):Zb:=
 ⟨[(5,.int .i64 i),(0,.sl 4 (p.map Tm.enc) .any),(1,.sl 4 (q.map Tm.enc) .any)],[],H⟩
def ZuP(p q:List Tm)(hl:p.length≤1000000)(hc:∀x∈p,∀y∈q,Pure prog 73 [x.enc,y.enc] (.bool (eqT x y))):Pure prog 123 [.sl 4 (p.map Tm.enc) .any,.sl 4 (q.map Tm.enc) .any] (.bool (eqL eqT p q)):=by
 intro n H;refine aF func123 fun B=>?_
 refine nR ?_;cases h4:((p.length:Int)==q.length)with
 |false=>
  refine nr ?_;simp only[go_sem,simprocAttr,bne,h4];refine gi ?_;refine YG rfl rfl ?_;refine Zc ?_ (.bool _) rfl;try simp only[go_sem,simprocAttr,Zm2 (nat_ne h4)]
  exact .refl _
 |true=>
 have hlen:p.length=q.length:=nat_eq h4;refine nr ?_;simp only[go_sem,simprocAttr,bne,h4];refine gv ?_;repeat refine kn rfl ?_
 refine ZL (ZwF p q H) (fun i=>∀j (h:j<p.length),j<i→eqT p[j] (q[j]'om)=true) p.length rfl ?_ (fun j _ h=>absurd h (Qo _)) ?_
 ·exact KK
 intro i hi hq;refine ZQ rfl ?_;rcases Qe i p.length with h|h
 ·have h':i<q.length:=om;refine nq h ?_;refine nT ?_;refine dq4 (Tm.Zh _ _ h) h (Tm.Zh _ _ h') h' ?_;refine cP (hc _ (Qa h) _ (Qa h')) ?_;cases h5:eqT p[i] q[i]with
  |false=>
   refine nTq h5 ?_;refine nR ?_;refine nW ?_;refine Zc ?_ (.bool _) rfl;refine aq (ZhD h h' h5) ?_;exact .refl _
  |true=>
   refine nFq h5 ?_;refine gd ?_;refine⟨fun j hj hji=>?_,?_⟩
   ·rcases Qe j i with h'|h'
    ·exact hq j hj h'
    ·have:j=i:=om;subst this;exact h5
   ·apply kZ;repeat' first|apply q0|exact xx|apply aI
    refine aS ?_;rw[iw];exact .refl _
 ·refine nq (QD.2 h) ?_;refine gt ?_;refine Zc ?_ (.bool _) rfl;refine aq (Zks hlen (fun j h h'=>hq j h om)) ?_;exact .refl _
def a62(a b:Tm)(ha:a.Good):Pure prog 73 [a.enc,b.enc] (.bool (eqT a b)):=by
 intro n H;have hx:=ZpS a b;have hl:=ha.len;refine aF func73 fun B=>?_
 refine nR ?_;cases h1:(a.kind==b.kind)with
 |false=>
  refine nq h1 ?_;refine YG rfl rfl ?_;refine Zc ?_ (.bool _) rfl;try simp only[go_sem,simprocAttr,hx,h1]
  exact .refl _
 |true=>
 cases h2:(a.num==b.num)with
 |false=>
  refine nq2 h1 h2 ?_;refine YG rfl rfl ?_;refine Zc ?_ (.bool _) rfl;try simp only[go_sem,simprocAttr,hx,h1,h2]
  exact .refl _
 |true=>
 cases h3:(a.name==b.name)with
 |false=>
  refine nq3 h1 h2 h3 ?_;refine YG rfl rfl ?_;refine Zc ?_ (.bool _) rfl;try simp only[go_sem,simprocAttr,hx,h1,h2,h3]
  exact .refl _
 |true=>
  refine nq3 h1 h2 h3 ?_;refine cP (ZuP a.args b.args hl (fun x hx y _=>a62 x y (ha.arg hx))) ?_;refine YG rfl rfl ?_;refine Zc ?_ (.bool _) rfl;try simp only[go_sem,simprocAttr,hx,h1,h2,h3,eqs_eqL]
  exact .refl _
termination_by SizeOf.sizeOf a
decreasing_by exact Tm.Y2 hx
def a28(a b:Am)(ha:a.Good):Pure prog 72 [a.enc,b.enc] (.bool (eqA a b)):=by
 intro n H;have hx:eqA a b=((a.pred==b.pred)&&eqL eqT a.args b.args):=by rw[eqA,eqs_eqL]
 have hl:=ha.len;refine aF func72 fun B=>?_
 refine nR ?_;cases h3:(a.pred==b.pred)with
 |false=>
  refine nq h3 ?_;refine YG rfl rfl ?_;refine Zc ?_ (.bool _) rfl;try simp only[go_sem,simprocAttr,hx,h3]
  exact .refl _
 |true=>
  refine nq h3 ?_;refine cP (ZuP a.args b.args hl (fun x hx y _=>a62 x y (ha.arg hx))) ?_;refine YG rfl rfl ?_;refine Zc ?_ (.bool _) rfl;try simp only[go_sem,simprocAttr,hx,h3]
  exact .refl _
end Go.Proofs.YtmdeagmbfhbbnaaGreatDoorR

namespace Go.Abs
structure Ak where
 s:Sg
 c:Int
 t:List UInt8
deriving DecidableEq
def Ak.enc(k:Ak):AV:=.agg [.str k.s.p,.int .i64 k.s.n,.int .i64 k.c,.str k.t]
structure Sto where
 A:List Am
 N:List (List UInt8×Int)
 S:List (Sg×List Int)
 R:List (Ak×List Int)
def intsOf(ix:List Int):List AV:=ix.map (AV.int .i64)
def ents{κ:Type}(enc:κ→AV)(l b:Nat):Nat→List (κ×List Int)→List (AV×AV)
 |_,[]=>[]
 |i,p::r=>(enc p.1,.sl 1 (intsOf p.2) (.buf l (b+2*i)))::ents enc l b (i+1) r
def Zol{κ:Type}(b:Nat):Nat→List (κ×List Int)→List (Nat×Ze)
 |_,[]=>[]
 |i,p::r=>(b+2*i,.buf 3 1 p.2.length)::Zol b (i+1) r
def YC(l b:Nat)(A:List Am):AV:=if A=[]then .sl 2 [] .full else .sl 2 (A.map Am.enc) (.buf l (b+1))
def ZT(l b:Nat)(A:List Am):List AV:=[YC l b A,.map l (b+2),.map l (b+3),.map l (b+4)]
def lst(l b:Nat)(s:Sto):List (Nat×Ze):=
 (b,.box (ZT l b s.A))::(b+2,.map (s.N.map fun p=>(.str p.1,.int .i64 p.2)))::(b+3,.map (ents Sg.enc l (b+5) 0 s.S))::(b+4,.map (ents Ak.enc l (b+6) 0 s.R))::
  ((if s.A=[]then []else [(b+1,.buf 52 2 s.A.length)])++Zol (b+5) 0 s.S++Zol (b+6) 0 s.R)
def put(H:Za)(l b:Nat)(s:Sto):Za:=fun l' k=>if l'=l then(lkb (lst l b s) k).or (H l' k)else H l' k
theorem lkb_append:∀(p q:List (Nat×Ze)) (k:Nat),lkb (p++q) k=(lkb p k).or (lkb q k)
 |[],q,k=>rfl
 |(i,x)::p,q,k=>by
  simp only[Q8,lkb];split
  ·rfl
  ·exact lkb_append p q k
def ZkW{κ:Type}(b:Nat):∀(i:Nat) (es:List (κ×List Int)) (k:Nat),lkb (Zol b i es) k=if b+2*i≤k∧(k - b) % 2=0 then(es[(k - b) / 2 - i]?).map (fun p=>Ze.buf 3 1 p.2.length)else none
 |i,[],k=>by simp[Zol,lkb]
 |i,p::r,k=>by
  rw[Zol,lkb];by_cases h:b+2*i=k
  ·subst h;rw[if_pos rfl,if_pos ⟨Qg _,om⟩];have:(b+2*i - b) / 2 - i=0:=om;rw[this];rfl
  ·rw[if_neg h,ZkW b (i+1) r k];by_cases h2:b+2*(i+1)≤k∧(k - b) % 2=0
   ·rw[if_pos h2,if_pos ⟨om,h2.2⟩];have:(k - b) / 2 - i=(k - b) / 2 - (i+1)+1:=om;rw[this,U2]
   ·rw[if_neg h2];by_cases h3:b+2*i≤k∧(k - b) % 2=0
    ·exfalso;exact h2 ⟨om,h3.2⟩
    ·rw[if_neg h3]
def Y9(l b:Nat)(s:Sto)(k:Nat):lkb (lst l b s) k=
  if k=b then some (.box (ZT l b s.A))else if k=b+2 then some (.map (s.N.map fun p=>(.str p.1,.int .i64 p.2)))else if k=b+3 then some (.map (ents Sg.enc l (b+5) 0 s.S))else if k=b+4 then some (.map (ents Ak.enc l (b+6) 0 s.R))
  else if k=b+1 then(if s.A=[]then none else some (.buf 52 2 s.A.length))
  else if b+5≤k∧(k - (b+5)) % 2=0 then(s.S[(k - (b+5)) / 2]?).map (fun p=>Ze.buf 3 1 p.2.length)
  else if b+6≤k∧(k - (b+6)) % 2=0 then(s.R[(k - (b+6)) / 2]?).map (fun p=>Ze.buf 3 1 p.2.length)else none:=by
 unfold lst;simp only[lkb,lkb_append,ZkW,Nat.mul_zero,UF,MW,eq_comm (a:=k)];split
 ·rfl
 split
 ·rfl
 split
 ·rfl
 split
 ·rfl
 by_cases h1:b+1=k
 ·rw[if_pos h1];subst h1;by_cases hA:s.A=[]
  ·simp[hA,lkb]
  ·simp[hA,lkb]
 ·rw[if_neg h1];have hA:lkb (if s.A=[]then []else [(b+1,Ze.buf 52 2 s.A.length)]) k=none:=by
   split
   ·rfl
   ·simp[lkb,h1]
  rw[hA,Option.none_or];by_cases h2:b+5≤k∧(k - (b+5)) % 2=0
  ·rw[if_pos h2,if_pos h2];have:¬(b+6≤k∧(k - (b+6)) % 2=0):=om;rw[if_neg this,Option.or_none]
  ·rw[if_neg h2,if_neg h2,Option.none_or]
end Go.Abs

namespace Go.Proofs.YtmdeagmbfhbbnaaGreatDoorR
open Go.Abs
def ZV(H:Za)(l b:Nat)(s:Sto):Prop:=∀k x,lkb (lst l b s) k=some x→H l k=some x
def ZV.box{H:Za}{l b:Nat}{s:Sto}(h:ZV H l b s):H l b=some (.box (ZT l b s.A)):=h b _ (by rw[Y9,if_pos rfl])
section
variable {s:Sto} {l b:Nat} {H:Za}
def ZV.num(h:ZV H l b s):H l (b+2)=some (.map (s.N.map fun p=>(.str p.1,.int .i64 p.2))):=h _ _ (by rw[Y9,if_neg om,if_pos rfl])
def ZV.sig(h:ZV H l b s):H l (b+3)=some (.map (ents Sg.enc l (b+5) 0 s.S)):=h _ _ (by rw[Y9,if_neg om,if_neg om,if_pos rfl])
def ZV.arg(h:ZV H l b s):H l (b+4)=some (.map (ents Ak.enc l (b+6) 0 s.R)):=h _ _ (by rw[Y9,if_neg om,if_neg om,if_neg om,if_pos rfl])
def ZV.put(H:Za)(l b:Nat)(s:Sto):ZV (put H l b s) l b s:=fun k x h=>by
 unfold Go.Abs.put;rw[if_pos rfl,h];rfl
def a55(n:Nat)(H:Za)(l b:Nat)(s:Sto)(hl:l<n)(hs:ZV H l b s):PC prog n 63 [.ptr l b 0] H (.bool true):=by
 have hne:¬l=n:=om;have hb:=hs.box;refine aF func63 fun B=>?_
 refine nR ?_;refine nr ?_;simp only[go_sem,simprocAttr,hne,hb,ZT];refine⟨⟨_,_,rfl⟩,?_⟩;exact pB
def zeroCells:List AV:=[.sl 2 [] .full,.nilm,.nilm,.nilm]
def Zk{n:Nat}(h:l<n)(L:List (Nat×Ze))(H:Za)(k:Nat):full n L H l k=H l k:=by unfold full;rw[if_neg om]
def ZV.full{n l b:Nat}{s:Sto}{H:Za}(hs:ZV H l b s)(h:l<n)(L:List (Nat×Ze)):ZV (full n L H) l b s:=fun k x hk=>by rw[Zk h];exact hs k x hk
def VI{P:Program}{T:TT}{n:Nat}{t ty u:Nat}{v y:AV}{s:Zb}(r:Zu)(l k off:Nat)(cs:List AV)(h1:lkv s.tmps t= .ptr l k off)(h2:full n s.L s.H l k=some (.box cs))(h3:T ty=some r)
  (h4:off+r.size≤cs.length) (h5:r.isAgg=false→off<cs.length) (hv:Wk (if r.isAgg then .agg ((cs.drop off).take r.size)else(cs.drop off).getD 0 .dead) v) (hy:Wk (lkv s.tmps u) y) (hb:Below n v) (hc:Below n y) (hH:s.H=H):
  PostF P T n [.cell t ty,.tmp u] (fun r' H'=>r'= .tup [v,y]∧H'=H) .ret s:=by
 refine⟨?_,[v,y],⟨?_,hy,trivial⟩,by simp[hb,hc],rfl,hH⟩
 ·intro x hx;simp only[Ql,QA,or_false]at hx;rcases hx with rfl|rfl
  ·simp only[X8];exact⟨l,k,off,cs,r,h1,h2,h3,h4,h5⟩
  ·simp[X8]
 ·simp only[Zdi,h1,h2,h3];rw[if_pos ⟨h4,h5⟩];exact hv
def atR(A:List Am)(i:Int):Am×Int:=if 0≤i then(match A[i.toNat]? with
 |some a=>(a,0)
 |none=>(⟨[],[]⟩,6))else(⟨[],[]⟩,6)
def a27(n:Nat)(H:Za)(l b:Nat)(s:Sto)(i:Int)(hl:l<n)(hs:ZV H l b s)(hg:Vp s.A)(hn:0<n)(hT:Tabs H):PC prog n 37 [.ptr l b 0,.int .i64 i] H (.tup [(atR s.A i).1.enc,.int .i64 (atR s.A i).2]):=by
 have hne:¬l=n:=om;have hb:=hs.box;refine aF func37 fun B=>?_
 refine gc ?_;refine cQ (a55 (n+1) _ l b s om (hs.full hl _)) ?_;refine aS ?_;refine nF ?_;have hz:Wk (.agg [.str [],.sl 4 [] .full]) (Am.mk [] []).enc:=.deep (.ZcZ ⟨.refl _,.nil _ _ _,trivial⟩);rcases QaM i 0 with h0|h0
 ·have e:atR s.A i=(⟨[],[]⟩,6):=by rw[atR,if_neg om]
  refine nq h0 ?_;refine gj ?_;rw[e];exact VI _ n 4 0 [.str [],.sl 4 [] .full] sS (by simp only[go_sem,simprocAttr,Go.Abs.full]) rfl (Qg _) sS hz (by simp only[go_sem,simprocAttr];exact .refl _) (Am.blw _ _) (.int _ _) rfl
 ·have h0':¬i<0:=om;by_cases hA:s.A=[]
  ·have e:atR [] i=(⟨[],[]⟩,6):=by rw[atR,if_pos h0];rfl
   refine nr ?_;simp only[go_sem,simprocAttr,hne,hb,ZT,YC,hA,h0',h0];refine gj ?_;rw[e];exact VI _ n 4 0 [.str [],.sl 4 [] .full] sS (by simp only[go_sem,simprocAttr,Go.Abs.full]) rfl (Qg _) sS hz (by simp only[go_sem,simprocAttr];exact .refl _) (Am.blw _ _) (.int _ _) rfl
  ·rcases QaM i s.A.length with h1|h1
   ·have h2:i.toNat<s.A.length:=om;have e:atR s.A i=(s.A[i.toNat],0):=by rw[atR,if_pos h0,Qb h2]
    have h1':¬(s.A.length:Int)≤i:=om;refine nr ?_;simp only[go_sem,simprocAttr,hne,hb,ZT,YC,hA,h0',h0,h1'];refine nF ?_;refine nr ?_;simp only[go_sem,simprocAttr,hne,hb,ZT,YC,hA,h0,h2,Am.Zh _ _ h2];refine⟨h1,?_⟩;refine cT (a59 s.A[i.toNat] (hg _ (Qa h2))) ?_;refine nV ?_;rw[e];exact VI _ n 4 0 s.A[i.toNat].cs sS (by simp only[go_sem,simprocAttr,Go.Abs.full]) rfl (Qg _) sS (by simp only[go_sem,simprocAttr];exact .refl _) (by simp only[go_sem,simprocAttr];exact .refl _) (Am.blw _ _) (.int _ _) rfl
   ·have e:atR s.A i=(⟨[],[]⟩,6):=by rw[atR,if_pos h0,Uu om]
    refine nr ?_;simp only[go_sem,simprocAttr,hne,hb,ZT,YC,hA,h0',h0,h1];refine gj ?_;rw[e];exact VI _ n 4 0 [.str [],.sl 4 [] .full] sS (by simp only[go_sem,simprocAttr,Go.Abs.full]) rfl (Qg _) sS hz (by simp only[go_sem,simprocAttr];exact .refl _) (Am.blw _ _) (.int _ _) rfl
end
attribute [go_sem] Lt.fold Lt.cs Lt.Xg
def eTs(l:List Tm):AV:=.sl 4 (l.map Tm.enc) .any
def Zao(n:Nat)(l:List Tm):Below n (eTs l):=ZH l
theorem Zn0(l:List Tm):(eTs l).cells=[eTs l]:=rfl
theorem ZrF(l:List Tm):(eTs l).one=true:=rfl
attribute [go_sem] Zn0 ZrF
section
variable {n:Nat}
def Zcp{k:Nat}(l:List (List Tm)):Below n (.sl k (l.map eTs) .any):=ZB fun x hx=>by obtain⟨u,_,rfl⟩:=Qi.1 hx;exact Zao n u
abbrev LTm:=List Tm
structure Zbo {α:Type} (n:Nat) (H:Za) (f:Nat) (caps:List AV) (enc:α→AV) (l:List α) (p:α→Bool):Prop where
 fn:∃fn c,Fun prog f fn c
 ans:∀x∈l,∀m G,n≤m→(∀l' k,l'<n→G l' k=H l' k)→PC prog m f (enc x::caps) G (.bool (p x))
 blw:∀m,n≤m→Yg (fun c=>Below m c) caps
variable {caps:List AV}
def Zbo.up{α:Type}{H G:Za}{f:Nat}{enc:α→AV}{l:List α}{p:α→Bool}(h:Zbo n H f caps enc l p)(hG:∀l' k,l'<n→G l' k=H l' k):Zbo (n+1) G f caps enc l p:=
 ⟨h.fn,fun x hx m G' hm hG'=>h.ans x hx m G' om fun l' k hl=>(hG' l' k om).trans (hG l' k hl),fun m hm=>h.blw m om⟩
def ZeZ.cond{α:Type}{H:Za}{f:Nat}{enc:α→AV}{l:List α}{p:α→Bool}(h:ZeZ f caps enc l p)(hn:0<n)(hT:Tabs H):Zbo n H f caps enc l p:=
 ⟨h.fn,fun x hx m G hm hG=>h.on x hx m G om (hT.up fun k=>hG 0 k hn),fun m _=>h.below m⟩
def Zte(l:List (Lt))(f:Nat)(caps:List AV)(H:Za)(i:Nat):Zb:=
 ⟨[(8,.int .i64 i),(7,.int .i64 l.length),(1,.fn (.func f) caps),(0,.sl 13 (l.map Lt.enc) .any)],[],H⟩
def Zvw(l:List (Lt))(hl:l.length≤1000000)(f:Nat)(caps:List AV)(p:Lt→Bool)(n:Nat)(H:Za)(hp:Zbo n H f caps Lt.enc l p):PC prog n 125 [.sl 13 (l.map Lt.enc) .any,.fn (.func f) caps] H (.int .i64 (ZcR p l)):=by
 obtain⟨⟨fn,c,hf⟩,hp,hbl⟩:=hp;have hfi:∀q,Inside n q (.fn (.func f) caps):=fun q=>(Below.fn _ _ fun i hi=>(hbl n (Qg n)).mem _ (Qa hi)).inside
 have hbi:∀q,Inside n q (.sl 13 (l.map Lt.enc) .any):=fun q=>(Yf l).inside
 refine aF func125 fun B=>?_
 refine gk ?_;refine ZL (Zte l f caps H) (fun i=>∀j (h:j<l.length),j<i→p l[j]=false) l.length rfl ?_ (fun j _ h=>absurd h (Qo _)) ?_
 ·exact KK
 intro i hi hq;refine ZQ rfl ?_;rcases Qe i l.length with h|h
 ·refine nq h ?_;refine gi ?_;refine nq2 (getD_map Lt.enc _ _ h) h ?_;refine YE (avs:=[Lt.enc l[i]]) rfl hf (hp l[i] (Qa h) (n+1) _ om fun l' k h=>Zk h _ _ _) rfl ?_;cases h1:p l[i]with
  |true=>
   refine aS ?_;refine gn ?_;refine Zc ?_ (.int _ _) rfl;rw[ZaR h h1 hq];exact .refl _
  |false=>
   refine gI ?_;refine⟨fun j hj hji=>?_,?_⟩
   ·rcases Qe j i with h'|h'
    ·exact hq j hj h'
    ·have:j=i:=om;subst this;exact h1
   ·apply kZ;repeat' first|apply q0|exact xx|apply aI
    ·refine aS ?_;rw[iw];exact .refl _
    all_goals first|exact hfi _|exact hbi _
 ·refine nq (QD.2 h) ?_;refine gt ?_;refine Zc ?_ (.int _ _) rfl;rw[VA (fun j hj=>hq j hj om)];exact .refl _
def h78(l:List (Lt))(hl:l.length≤1000000)(f:Nat)(caps:List AV)(p:Lt→Bool)(n:Nat)(H:Za)(hp:Zbo n H f caps Lt.enc l p):PC prog n 78 [.sl 13 (l.map Lt.enc) .any,.fn (.func f) caps] H (.bool (l.any p)):=by
 refine aF func78 fun B=>?_
 refine gc ?_;refine cQ (Zvw l hl f caps p (n+1) _ (hp.up fun l' k h=>Zk h _ _ _)) ?_;simp only[go_sem,simprocAttr];refine nV ?_;refine Zc ?_ (.bool _) rfl;simp only[go_sem,simprocAttr,ZfP];exact .refl _
def j78(l:List (Lt))(hl:l.length≤1000000)(f:Nat)(caps:List AV)(p:Lt→Bool)(hp:ZeZ f caps Lt.enc l p):ZR prog 78 [.sl 13 (l.map Lt.enc) .any,.fn (.func f) caps] (.bool (l.any p)):=
 fun n H hn hT=>h78 l hl f caps p n H (hp.cond hn hT)
def ZtF(l:List (LTm))(f:Nat)(caps:List AV)(H:Za)(i:Nat):Zb:=
 ⟨[(8,.int .i64 i),(7,.int .i64 l.length),(1,.fn (.func f) caps),(0,.sl 1 (l.map eTs) .any)],[],H⟩
def Zwz(l:List (LTm))(hl:l.length≤1000000)(f:Nat)(caps:List AV)(p:LTm→Bool)(n:Nat)(H:Za)(hp:Zbo n H f caps eTs l p):PC prog n 266 [.sl 1 (l.map eTs) .any,.fn (.func f) caps] H (.int .i64 (ZcR p l)):=by
 obtain⟨⟨fn,c,hf⟩,hp,hbl⟩:=hp;have hfi:∀q,Inside n q (.fn (.func f) caps):=fun q=>(Below.fn _ _ fun i hi=>(hbl n (Qg n)).mem _ (Qa hi)).inside
 have hbi:∀q,Inside n q (.sl 1 (l.map eTs) .any):=fun q=>(Zcp l).inside
 refine aF func266 fun B=>?_
 refine gk ?_;refine ZL (ZtF l f caps H) (fun i=>∀j (h:j<l.length),j<i→p l[j]=false) l.length rfl ?_ (fun j _ h=>absurd h (Qo _)) ?_
 ·exact KK
 intro i hi hq;refine ZQ rfl ?_;rcases Qe i l.length with h|h
 ·refine nq h ?_;refine gi ?_;refine nq2 (getD_map eTs _ _ h) h ?_;refine YE (avs:=[eTs l[i]]) rfl hf (hp l[i] (Qa h) (n+1) _ om fun l' k h=>Zk h _ _ _) rfl ?_;cases h1:p l[i]with
  |true=>
   refine aS ?_;refine gn ?_;refine Zc ?_ (.int _ _) rfl;rw[ZaR h h1 hq];exact .refl _
  |false=>
   refine gI ?_;refine⟨fun j hj hji=>?_,?_⟩
   ·rcases Qe j i with h'|h'
    ·exact hq j hj h'
    ·have:j=i:=om;subst this;exact h1
   ·apply kZ;repeat' first|apply q0|exact xx|apply aI
    ·refine aS ?_;rw[iw];exact .refl _
    all_goals first|exact hfi _|exact hbi _
 ·refine nq (QD.2 h) ?_;refine gt ?_;refine Zc ?_ (.int _ _) rfl;rw[VA (fun j hj=>hq j hj om)];exact .refl _
def ZvU(l:List (LTm))(hl:l.length≤1000000)(f:Nat)(caps:List AV)(p:LTm→Bool)(n:Nat)(H:Za)(hp:Zbo n H f caps eTs l p):PC prog n 237 [.sl 1 (l.map eTs) .any,.fn (.func f) caps] H (.bool (l.any p)):=by
 refine aF func237 fun B=>?_
 refine gc ?_;refine cQ (Zwz l hl f caps p (n+1) _ (hp.up fun l' k h=>Zk h _ _ _)) ?_;simp only[go_sem,simprocAttr];refine nV ?_;refine Zc ?_ (.bool _) rfl;simp only[go_sem,simprocAttr,ZfP];exact .refl _
def ZwB(l:List (LTm))(hl:l.length≤1000000)(f:Nat)(caps:List AV)(p:LTm→Bool)(hp:ZeZ f caps eTs l p):ZR prog 237 [.sl 1 (l.map eTs) .any,.fn (.func f) caps] (.bool (l.any p)):=
 fun n H hn hT=>ZvU l hl f caps p n H (hp.cond hn hT)
def ZsK(l:List (Int))(f:Nat)(caps:List AV)(H:Za)(i:Nat):Zb:=
 ⟨[(8,.int .i64 i),(7,.int .i64 l.length),(1,.fn (.func f) caps),(0,.sl 1 (l.map eInt) .any)],[],H⟩
def ZvF(l:List (Int))(hl:l.length≤1000000)(f:Nat)(caps:List AV)(p:Int→Bool)(n:Nat)(H:Za)(hp:Zbo n H f caps eInt l p):PC prog n 280 [.sl 1 (l.map eInt) .any,.fn (.func f) caps] H (.int .i64 (ZcR p l)):=by
 obtain⟨⟨fn,c,hf⟩,hp,hbl⟩:=hp;have hfi:∀q,Inside n q (.fn (.func f) caps):=fun q=>(Below.fn _ _ fun i hi=>(hbl n (Qg n)).mem _ (Qa hi)).inside
 have hbi:∀q,Inside n q (.sl 1 (l.map eInt) .any):=fun q=>(ZgW l).inside
 refine aF func280 fun B=>?_
 refine gk ?_;refine ZL (ZsK l f caps H) (fun i=>∀j (h:j<l.length),j<i→p l[j]=false) l.length rfl ?_ (fun j _ h=>absurd h (Qo _)) ?_
 ·exact KK
 intro i hi hq;refine ZQ rfl ?_;rcases Qe i l.length with h|h
 ·refine nq h ?_;refine gi ?_;refine nq2 (getD_map eInt _ _ h) h ?_;refine YE (avs:=[eInt l[i]]) rfl hf (hp l[i] (Qa h) (n+1) _ om fun l' k h=>Zk h _ _ _) rfl ?_;cases h1:p l[i]with
  |true=>
   refine aS ?_;refine gn ?_;refine Zc ?_ (.int _ _) rfl;rw[ZaR h h1 hq];exact .refl _
  |false=>
   refine gI ?_;refine⟨fun j hj hji=>?_,?_⟩
   ·rcases Qe j i with h'|h'
    ·exact hq j hj h'
    ·have:j=i:=om;subst this;exact h1
   ·apply kZ;repeat' first|apply q0|exact xx|apply aI
    ·refine aS ?_;rw[iw];exact .refl _
    all_goals first|exact hfi _|exact hbi _
 ·refine nq (QD.2 h) ?_;refine gt ?_;refine Zc ?_ (.int _ _) rfl;rw[VA (fun j hj=>hq j hj om)];exact .refl _
def ZwK(l:List (Int))(hl:l.length≤1000000)(f:Nat)(caps:List AV)(p:Int→Bool)(n:Nat)(H:Za)(hp:Zbo n H f caps eInt l p):PC prog n 259 [.sl 1 (l.map eInt) .any,.fn (.func f) caps] H (.bool (l.any p)):=by
 refine aF func259 fun B=>?_
 refine gc ?_;refine cQ (ZvF l hl f caps p (n+1) _ (hp.up fun l' k h=>Zk h _ _ _)) ?_;simp only[go_sem,simprocAttr];refine nV ?_;refine Zc ?_ (.bool _) rfl;simp only[go_sem,simprocAttr,ZfP];exact .refl _
end
theorem Zoy(p:Str×Tm):(eBd p).cells=[.str p.1,.int .u8 p.2.kind,.int .i64 p.2.num,.str p.2.name,.sl 4 (p.2.args.map Tm.enc) .any]:=rfl
theorem Zqv(p:Str×Tm):AV.agg [.str p.1,.int .u8 p.2.kind,.int .i64 p.2.num,.str p.2.name,.sl 4 (p.2.args.map Tm.enc) .any]=eBd p:=rfl
attribute [go_sem] Zoy Zqv
def ZvP(p:Str×Tm)(s:Str):Pure prog 228 [eBd p,.str s] (.int .i64 (Lib.compareBytes p.1 s)):=by
 intro n H;refine aF func228 fun B=>?_
 refine gc ?_;refine cP (a50 p.1 s) ?_;refine YG rfl rfl ?_;refine Zc ?_ (.int _ _) rfl;try simp only[go_sem,simprocAttr]
 exact .refl _
def ZwJ(p:Str×Tm)(s:Str):Pure prog 189 [eBd p,.str s] (.int .i64 (Lib.compareBytes p.1 s)):=by
 intro n H;refine aF func189 fun B=>?_
 refine gc ?_;refine cP (a50 p.1 s) ?_;refine YG rfl rfl ?_;refine Zc ?_ (.int _ _) rfl;try simp only[go_sem,simprocAttr]
 exact .refl _
def Zm7(s:Str):∀(b:Bnd) (i:Nat),i≤b.length→(∀k (h:k<b.length),k<i→Lib.compareBytes b[k].1 s<0)→(∀k (h:k<b.length),i≤k→ ¬Lib.compareBytes b[k].1 s<0)→posB s b=i
 |[],i,hi,_,_=>by simp at hi;subst hi;rfl
 |p::r,i,hi,h1,h2=>by
  unfold posB;cases i with
  |zero=>exact if_neg (h2 0 sm (Qg _))
  |succ i=>
   rw[if_pos (show Lib.compareBytes p.1 s<0 from h1 0 sm om),Zm7 s r i (by simpa using hi) (fun k h hk=>h1 (k+1) (by simpa using h) om) (fun k h hk=>h2 (k+1) (by simpa using h) om)]
def Zrl{s:Str}{b:Bnd}{i:Nat}(hb:Jg b)(h1:∀k (h:k<b.length),k<i→Lib.compareBytes b[k].1 s<0)(h2:∀k (h:k<b.length),i≤k→ ¬Lib.compareBytes b[k].1 s<0):(Zz s b).isSome=true↔ ∃h:i<b.length,b[i].1=s:=by
 constructor
 ·intro h;obtain⟨v,hv⟩:=Qbo.1 h;obtain⟨k,hk,he⟩:=QJ (ZaF hv);have e1:b[k].1=s:=by rw[he]
  have hki:i≤k:=Nat.le_of_not_lt fun hlt=>by have:=h1 k hk hlt;rw[e1,cmpBytes_self]at this;omega
  rcases Qe i k with h'|h'
  ·have:=Me.1 hb i k om hk h';rw[e1]at this;exact absurd this (h2 i om (Qg _))
  ·have:k=i:=om;subst this;exact⟨hk,e1⟩
 ·rintro⟨h,e⟩;rw[ZaO hb (n:=s) (v:=b[i].2) (by rw[←e];exact Qa h)];rfl
def ZsZ(f:Nat):Prop:=(∃fn c,Fun prog f fn c)∧ ∀(p:Str×Tm) (s:Str),Pure prog f [eBd p,.str s] (.int .i64 (Lib.compareBytes p.1 s))
def Zno(b:Bnd)(s:Str)(f:Nat)(H:Za)(i j:Nat):Zb:=
 ⟨[(10,.int .i64 j),(9,.int .i64 i),(8,.int .i64 b.length),(2,.fn (.func f) []),(1,.str s),(0,.sl 5 (b.map eBd) .any)],[],H⟩
def ZuL(b:Bnd)(hb:Jg b)(hl:b.length≤1000000)(s:Str)(f:Nat)(hf:ZsZ f):Pure prog 188 [Zj b,.str s,.fn (.func f) []] (.tup [.int .i64 (posB s b),.bool (Zz s b).isSome]):=by
 intro n H;obtain⟨⟨fn,c,hf⟩,hp⟩:=hf;refine aF func188 fun B=>?_
 refine nR ?_;refine nr ?_;simp only[go_sem,simprocAttr,Zj];refine nR ?_;repeat refine kn rfl ?_
 refine Zar (fun m st=>∃i j,i≤j∧j≤b.length∧m=j - i∧st=Zno b s f H i j∧(∀k (h:k<b.length),k<i→Lib.compareBytes b[k].1 s<0)∧ ∀k (h:k<b.length),j≤k→ ¬Lib.compareBytes b[k].1 s<0) (m0:=b.length) (s0:=Zno b s f H 0 b.length) rfl ?_
  ⟨0,b.length,om,Qg _,rfl,rfl,fun k _ h=>absurd h (Qo _),fun k h h'=>by omega⟩ ?_
 ·exact KK
 rintro m st ⟨i,j,hij,hj,rfl,rfl,h1,h2⟩;refine ZQ rfl ?_;rcases Qe i j with h|h
 ·have hm:∃m:Nat,m=(i+j) / 2:=⟨_,rfl⟩
  obtain⟨m,hm⟩:=hm;have hw:IntKind.i64.wrap ((IntKind.u64.wrap (IntKind.i64.wrap ((i:Int)+(j:Int)))).fdiv (2^min 1 64))=(m:Int):=by
   have e1:IntKind.i64.wrap ((i:Int)+(j:Int))=((i+j:Nat):Int):=by rw[iw];omega
   have e2:IntKind.u64.wrap ((i+j:Nat):Int)=((i+j:Nat):Int):=by
    exact IntWalk.u64_in _ om
   rw[e1,e2];have e3:(((i+j:Nat):Int)).fdiv (2^min 1 64)=(m:Int):=by
    rw[show(2:Int)^min 1 64=2 from rfl,Int.fdiv_eq_ediv_of_nonneg _ om];omega
   rw[e3,iw]
  have hml:m<b.length:=om;refine nq h ?_;refine nT ?_;refine nq hw ?_;refine nq2 (getD_map eBd _ _ hml) hml ?_;refine YE (avs:=[eBd b[m],.str s]) rfl hf (hp b[m] s _ _) rfl ?_;by_cases hc:Lib.compareBytes b[m].1 s<0
  ·have e:decide (Lib.compareBytes b[m].1 s<0)=true:=by simp[hc]
   refine aq e ?_;refine nT ?_;refine gd ?_;refine⟨j - (m+1),Zno b s f H (m+1) j,om,?_,m+1,j,om,hj,rfl,rfl,fun k hk hk'=>?_,h2⟩
   ·apply kZ;repeat' first|apply q0|exact xx|apply aI
    ·refine aS ?_;rw[iw];exact .refl _
    all_goals first|exact(Zw n b).inside|exact(ZaP (caps:=[]) trivial).inside|skip
   ·rcases Qe k m with h'|h'
    ·exact serN.trans (y:=b[m].1) trivial trivial trivial (Me.1 hb k m hk hml h') hc
    ·have:k=m:=om;subst this;exact hc
  ·have e:decide (Lib.compareBytes b[m].1 s<0)=false:=by simp[hc]
   refine aq e ?_;refine gm ?_;refine⟨m - i,Zno b s f H i m,om,?_,i,m,om,om,rfl,rfl,h1,fun k hk hk'=>?_⟩
   ·exact KK
   ·intro hlt;rcases Qe m k with h'|h'
    ·exact hc (serN.trans (y:=b[k].1) trivial trivial trivial (Me.1 hb m k hml hk h') hlt)
    ·have:k=m:=om;subst this;exact hc hlt
 ·refine nq (QD.2 h) ?_;refine gg ?_;have hij':j=i:=om;subst hij';have hpos:=Zm7 s b j hj h1 h2;have hlk:=Zrl hb h1 h2;refine nR ?_;cases hlt:decide (j<b.length)with
  |false=>
   have e:(Zz s b).isSome=false:=by
    rw[←Bool.not_eq_true,hlk];rintro⟨h,_⟩;simp at hlt;omega
   refine gw ?_;rw[hpos,e];refine ZG ?_ ?_ (.int _ _) (.bool _) rfl
   ·exact xS
   ·exact xS
  |true=>
   have hl':j<b.length:=by simp at hlt;omega
   refine aq2 (getD_map eBd _ _ hl') hl' ?_;refine YE (avs:=[eBd b[j],.str s]) rfl hf (hp b[j] s _ _) rfl ?_;have e:(Lib.compareBytes b[j].1 s==0)=(Zz s b).isSome:=by
    rw[U3,hlk,beq_iff_eq];exact⟨fun h=>⟨hl',cmpBytes_zero h⟩,fun⟨_,h⟩=>by rw[h,cmpBytes_self]⟩
   refine aq e ?_;refine nV ?_;rw[hpos];refine ZG ?_ ?_ (.int _ _) (.bool _) rfl
   ·exact xS
   ·exact xS
def cmpN228:ZsZ 228:=⟨⟨_,_,Zf func228 rfl rfl⟩,ZvP⟩
def cmpN189:ZsZ 189:=⟨⟨_,_,Zf func189 rfl rfl⟩,ZwJ⟩
def tm0:Tm:=.mk 0 0 [] []
def Zho(s:Str)(b:Bnd):Tm:=(Zz s b).getD tm0
def zero_tm:Wk (.agg [.int .u8 0,.int .i64 0,.str [],.sl 4 [] .full]) tm0.enc:=by
 rw[Tm.VJ];exact .deep (.ZcZ ⟨.refl _,.refl _,.refl _,.nil _ _ _,trivial⟩)
def Zle{s:Str}{v:Tm}:∀{b:Bnd},Jg b→Zz s b=some v→b[posB s b]? =some (s,v)
 |[],_,h=>by cases h
 |p::r,hb,h=>by
  rw[Jg,UN]at hb;simp only[Zz]at h;split at h
  ·rename_i e;cases h;have:¬Lib.compareBytes p.1 s<0:=by rw[e,cmpBytes_self];omega
   rw[posB,if_neg this,GI,←e]
  ·have h1:=hb.1 _ (ZaF h);rw[posB,if_pos h1,U2];exact Zle hb.2 h
def ZiX(s:Str):∀b:Bnd,posB s b≤b.length
 |[]=>Qg _
 |p::r=>by
  have:=ZiX s r;unfold posB;split<;>simp only[Qq]<;>omega
theorem ZgX(s:Str)(v:Tm):∀b:Bnd,WH s v b=b.take (posB s b)++(s,v)::b.drop (posB s b)
 |[]=>rfl
 |p::r=>by
  have:=ZgX s v r;unfold WH posB;split
  ·rw[this];rfl
  ·rfl
def ZjZ(s:Str)(v:Tm)(b:Bnd):(WH s v b).length=b.length+1:=by
 have:=ZiX s b;rw[ZgX];simp;omega
def Zui(b:Bnd)(hb:Jg b)(hl:b.length≤1000000)(s:Str):Pure prog 191 [Zj b,.str s] (.tup [(Zho s b).enc,.bool (Zz s b).isSome]):=by
 intro n H;refine aF func191 fun B=>?_
 refine gc ?_;refine cP (ZuL b hb hl s 228 cmpN228) ?_;cases h:Zz s b with
 |none=>
  refine nr ?_;simp only[go_sem,simprocAttr,Qah];refine gj ?_;have e:Zho s b=tm0:=by rw[Zho,h];rfl
  rw[e];refine VI _ n 4 0 [.int .u8 0,.int .i64 0,.str [],.sl 4 [] .full] sS sF rfl (Qg _) sS zero_tm (.refl _) (Tm.blw _ _) (.bool _) rfl
 |some v=>
  have hp:=Zle hb h;obtain⟨hi,hp⟩:=Ub.1 hp;have e:Zho s b=v:=by rw[Zho,h];rfl
  rw[e];refine nr ?_;simp only[go_sem,simprocAttr,Qag];refine nF ?_;refine nr ?_;simp only[go_sem,simprocAttr,Zj,getD_map eBd _ _ hi,hi,hp];refine nV ?_;refine VI _ n 4 0 v.cs sS sF rfl (Qg _) sS (by simp only[go_sem,simprocAttr];exact .refl _) (.refl _) (Tm.blw _ _) (.bool _) rfl
theorem ZrH(l:Bnd):flat (l.map eBd)=l.flatMap fun p=>AV.str p.1::p.2.cs:=by
 induction l with
 |nil=>rfl
 |cons p r ih=>rw[Qv,Yw,ih];rfl
def Zuz{n:Nat}{p:Nat→Prop}(l:Bnd):Yg (fun c=>Inside n p c) (flat (l.map eBd)):=Yb fun c hc=>by
 rw[ZrH]at hc;obtain⟨u,_,hu⟩:=Qx.1 hc;rcases Ql.1 hu with rfl|hu
 ·exact .str _
 ·exact(u.2.bcs.mem _ hu).inside
def extO:Opt:=⟨true,true,fun d=>if d=24∨d=29 then .heap else if d=26 then .pure else .auto,[]⟩
def j138(b:Bnd)(hb:Jg b)(hl:b.length≤900000)(s:Str)(v:Tm):Pure prog 138 [Zj b,.str s,v.enc] (Zj (WH s v b)):=by
 intro n H;have hi:=ZiX s b;have hext:=ZgX s v b;have hlen:=ZjZ s v b;refine aF func138 fun B=>?_
 refine gc ?_;refine cP (ZuL b hb om s 189 cmpN189) ?_;generalize posB s b=i at hi hext⊢;have hw:IntKind.i64.wrap ((b.length:Int)+1)=((b.length+1:Nat):Int):=by rw[iw];omega
 refine nr ?_;simp only[go_sem,simprocAttr,Zj,hw];refine⟨⟨Zl om,om⟩,?_⟩;repeat refine kn rfl ?_
 refine Ya 5 v.cs [(9,.msl 5 n 19 0),(7,.int .i64 i),(5,.iptr v.cs),(0,.sl 5 (b.map eBd) .any),(1,.str s)] rfl ?_ ?_ ⟨Ze.Zjv (fun c hc=>by cases hc),trivial⟩ ?_
 ·exact Yb fun c hc=>(v.bcs.mem c hc).inside
 ·exact⟨.inl ⟨.refl _,.msl _ _ _ _ (.inr ⟨rfl,dc⟩)⟩,.inl ⟨.refl _,.int _ _⟩,.inr ⟨0,rfl,rfl⟩,.inl ⟨.refl _,(Zw n b).inside⟩,.inl ⟨.refl _,.str _⟩,trivial⟩
 refine nD extO ?_;have hmin:(b.take i).length=i:=Uo hi;have hone:∀q:Bnd,∀y∈q.map eBd,y.cells.all AV.one=true:=fun q y hy=>by obtain⟨u,_,rfl⟩:=Qi.1 hy;rfl
 simp only[go_sem,simprocAttr,extO,←List.map_take,hmin];refine⟨hi,⟨hone _,Zl om,om⟩,rfl,⟨Zl om,om⟩,?_⟩;refine nr ?_;simp only[go_sem,simprocAttr,←List.map_drop,QU,QI,←List.map_take];refine⟨hi,⟨hone _,Zl om,om⟩,?_⟩;refine kK ?_;have hfl:flat ((WH s v b).map eBd)=flat []++flat ((b.take i).map eBd)++flat [eBd (s,v)]++flat ((b.drop i).map eBd):=by
  rw[hext,QC,Qv,YZ,Yw];simp[flat]
 have hen:((WH s v b).map eBd).length=i+1+(b.length - i):=by rw[Qw,hlen];omega
 refine ZO (Xq (tm':=[(6,.sl 5 ((WH s v b).map eBd) .any)]) (j:=19) ((WH s v b).map eBd) rfl hfl hen (fun x hx=>by obtain⟨u,_,rfl⟩:=Qi.1 hx;rfl) ?_ ?_ ?_) ?_
 ·intro c hc;have hc:c∈flat ((WH s v b).map eBd):=by rw[hfl];exact hc
  exact(Zuz _).mem c hc
 ·intro p hp;simp only[Qm]at hp;subst hp;exact .inr ⟨5,rfl,rfl⟩
 ·intro p hp;cases hp
 refine nV ?_;exact Zc (.refl _) (Zw n _) rfl
def Zdj{α:Type}(p:α→Bool)(l:List α)(i:Nat)(h:i<l.length):(l.drop i).any p=(p l[i]||(l.drop (i+1)).any p):=by rw[Qu h,Qan]
def ZtH(t u:Tm):Bool:=farS u||((t.kind==6)&&(u.kind==6))
def Zwd(t:Tm)(n:Nat)(H:Za)(i:Nat):Zb:=⟨[(3,.int .i64 i),(1,.ptr n 1 0)],[(1,.box t.cs)],H⟩
def w75(t:Tm)(ht:t.Good):Pure prog 75 [t.enc] (.bool (farS t)):=by
 intro n H;have ih:∀u∈t.args,Pure prog 75 [u.enc] (.bool (farS u)):=fun u hu=>w75 u (ht.arg hu)
 have hl:=ht.len;have hf:farS t=(((t.kind==1)&&(decide (30<t.num)||decide (t.num< -30)))||t.args.any (ZtH t)):=Zro t;refine aF func75 fun B=>?_
 refine nR ?_;have key:((t.kind==1)&&(decide (30<t.num)||decide (t.num< -30)))=false→AKc ⟨prog,tt,⟨none,B⟩,n,Tryz.f75.ntmps⟩ [.code (ZW Tryz.f75).snd.snd] (PostF prog tt n Tryz.f75.results.toList fun r' H'=>r'= .bool (farS t)∧H'=H) ⟨[(1,.ptr n 1 0)],[(1,.box t.cs)],H⟩:=by
  intro hk;rw[hk,U5]at hf;refine gh ?_;refine ZL (Zwd t n H) (fun i=>farS t=(t.args.drop i).any (ZtH t)) t.args.length rfl ?_ hf ?_
  ·exact KK
  intro i hi hq;refine ZQ rfl ?_;rcases Qe i t.args.length with h|h
  ·rw[Zdj _ _ _ h]at hq;refine nr ?_;simp only[go_sem,simprocAttr,Tm.cs,h];refine nT ?_;have h6:ZtH t t.args[i]=(farS t.args[i]||((t.kind==6)&&(t.args[i].kind==6))):=rfl;rw[h6]at hq;refine nr ?_;simp only[go_sem,simprocAttr,Tm.cs,Tm.Zh _ _ h,h];refine cP (ih _ (Qa h)) ?_;cases h1:farS t.args[i]with
   |true=>
    refine aq h1 ?_;refine gn ?_;refine Zc ?_ (.bool _) rfl;rw[hq,h1];exact .refl _
   |false=>
    cases h2:(t.kind==6)with
    |false=>
     refine aq2 h1 h2 ?_;refine gm ?_;refine⟨by rw[hq,h1,h2];simp,?_⟩;exact KK
    |true=>
     cases h3:(t.args[i].kind==6)with
     |false=>
      simp only[go_sem,simprocAttr,h1,h2,h3,Tm.cs,Tm.Zh _ _ h,h,Tm.Xg];refine gm ?_;refine⟨by rw[hq,h1,h2,h3];simp,?_⟩;exact KK
     |true=>
      simp only[go_sem,simprocAttr,h1,h2,h3,Tm.cs,Tm.Zh _ _ h,h,Tm.Xg];refine gn ?_;refine Zc ?_ (.bool _) rfl;rw[hq,h1,h2,h3];exact .refl _
  ·refine nr ?_;simp only[go_sem,simprocAttr,Tm.cs,QD.2 h];refine gt ?_;refine Zc ?_ (.bool _) rfl;rw[hq,QT h];exact .refl _
 have yes:((t.kind==1)&&(decide (30<t.num)||decide (t.num< -30)))=true→farS t=true:=fun h=>by rw[hf,h,UR]
 cases h1:(t.kind==1)with
 |false=>
  refine nq h1 ?_;refine nF ?_;refine ZaV rfl ?_;refine ZO ?_ (key (by rw[h1];rfl));exact KK
 |true=>
  cases h2:decide (30<t.num)with
  |true=>
   refine nq2 h1 h2 ?_;refine gj ?_;refine Zc ?_ (.bool _) rfl;rw[yes (by rw[h1,h2];rfl)];exact .refl _
  |false=>
   cases h3:decide (t.num< -30)with
   |true=>
    refine nq3 h1 h2 h3 ?_;refine gj ?_;refine Zc ?_ (.bool _) rfl;rw[yes (by rw[h1,h2,h3];rfl)];exact .refl _
   |false=>
    refine nq3 h1 h2 h3 ?_;refine nF ?_;refine ZaV rfl ?_;refine ZO ?_ (key (by rw[h1,h2,h3];rfl));exact KK
termination_by SizeOf.sizeOf t
decreasing_by exact Tm.Y2 hu
def w35(b:Bnd)(hb:b.length≤1000000)(gb:∀p∈b,p.2.Good):Pure prog 35 [.sl 5 (b.map eBd) .any] (.bool (ZlL b)):=by
 intro n H;refine aF func35 fun B=>?_
 refine gk ?_;refine ZL (fun i=>⟨[(3,.int .i64 i),(0,.sl 5 (b.map eBd) .any)],[],H⟩) (fun i=>ZlL b=(b.drop i).any fun p=>farS p.2) b.length rfl ?_ rfl ?_
 ·exact KK
 intro i hi hq;refine ZQ rfl ?_;rcases Qe i b.length with h|h
 ·rw[Zdj _ _ _ h]at hq;refine nq h ?_;refine nT ?_;refine nq2 (getD_map eBd _ _ h) h ?_;refine cP (w75 _ (gb _ (Qa h))) ?_;cases h1:farS b[i].2 with
  |true=>
   refine gn ?_;refine Zc ?_ (.bool _) rfl;rw[hq,h1];exact .refl _
  |false=>
   refine gm ?_;refine⟨by rw[hq,h1];simp,?_⟩;exact KK
 ·refine nq (QD.2 h) ?_;refine gt ?_;refine Zc ?_ (.bool _) rfl;rw[hq,QT h];exact .refl _
def w34(l:List Lt)(hl:l.length≤1000000)(gl:∀x∈l,x.Good):Pure prog 34 [.sl 13 (l.map Lt.enc) .any] (.bool (ZjD l)):=by
 intro n H;refine aF func34 fun B=>?_
 refine gk ?_;refine ZL (fun i=>⟨[(3,.int .i64 i),(0,.sl 13 (l.map Lt.enc) .any)],[],H⟩) (fun i=>ZjD l=(l.drop i).any fun x=>(YB x).any farS) l.length rfl ?_ rfl ?_
 ·exact KK
 intro i hi hq;refine ZQ rfl ?_;rcases Qe i l.length with h|h
 ·rw[Zdj _ _ _ h]at hq;obtain⟨x,hx⟩:∃x,x=l[i]:=⟨_,rfl⟩
  have hg:=gl _ (Qa h);rw[←hx]at hq hg;have hxl:=hg.at_.len;refine nq h ?_;refine nT ?_;refine nD drawO ?_;simp only[go_sem,simprocAttr,Lt.Zh _ _ h,h,←hx];refine⟨rfl,⟨Zl om,om⟩,?_⟩;rw[show x.L.enc::x.R.enc::x.at_.args.map Tm.enc=(YB x).map Tm.enc from rfl];have hgt:∀t∈YB x,t.Good:=fun t ht=>by
   unfold YB at ht;rcases Ql.1 ht with rfl|ht
   ·exact hg.L
   rcases Ql.1 ht with rfl|ht
   ·exact hg.R
   ·exact hg.at_.arg ht
  have htl:(YB x).length≤1000002:=by unfold YB;simp only[Qq];omega
  generalize hT:YB x=T at*;refine gh ?_;refine ZL (fun j=>⟨[(5,.int .i64 j),(4,.sl 4 (T.map Tm.enc) .any),(3,.int .i64 i),(0,.sl 13 (l.map Lt.enc) .any)],[],H⟩) (fun j=>ZjD l=((T.drop j).any farS||(l.drop (i+1)).any fun x=>(YB x).any farS)) T.length rfl ?_ hq ?_
  ·exact KK
  intro j hj hr;refine ZQ rfl ?_;rcases Qe j T.length with h'|h'
  ·rw[Zdj _ _ _ h']at hr;refine nq h' ?_;refine nT ?_;refine nq2 (Tm.Zh _ _ h') h' ?_;refine cP (w75 _ (hgt _ (Qa h'))) ?_;cases h1:farS T[j]with
   |true=>
    refine gn ?_;refine ZeJ ?_ _;refine Zc ?_ (.bool _) rfl;rw[hr,h1];exact .refl _
   |false=>
    refine gm ?_;refine⟨by rw[hr,h1];simp,?_⟩;exact KK
  ·have hj':j=T.length:=om;subst hj';rw[Qad,List.any_nil,U5]at hr;refine nq (QD.2 h') ?_;refine gg ?_;refine gd ?_;refine⟨hr,?_⟩;exact KK
 ·refine nq (QD.2 h) ?_;refine gt ?_;refine Zc ?_ (.bool _) rfl;rw[hq,QT h];exact .refl _
def w31(l:List Lt)(hl:l.length≤100000000000000):Pure prog 31 [.sl 13 (l.map Lt.enc) .any,.int .i64 300] (.int .i64 (Xk 300 l)):=by
 intro n H;refine aF func31 fun B=>?_
 refine gz ?_;refine Zm (fun i=>⟨[(6,.int .i64 i),(5,.int .i64 (Xk 300 (l.take i))),(0,.sl 13 (l.map Lt.enc) .any),(1,.int .i64 300)],[],H⟩) l.length rfl ?_ ?_
 ·exact KK
 intro i hi;refine ZQ rfl ?_;have ht:=size_at (m:=300) om l i;rcases Qe i l.length with h|h
 ·rcases QaM 300 (Xk 300 (l.take i))with h2|h2
  ·have hle:decide (Xk 300 (l.take i)≤300)=false:=by rw[decide_eq_false_iff_not];omega
   have he:=ZnV h2;refine nq2 h hle ?_;refine gt ?_;refine Zc ?_ (.int _ _) rfl;refine aq he ?_;exact .refl _
  ·have he:=Zfb (ZbS 300) 0 l i h;change Xk 300 (l.take (i+1))=ZbS 300 (Xk 300 (l.take i)) l[i]at he;have hst:ZbS 300 (Xk 300 (l.take i)) l[i]=Xk 300 (l.take i)+(1+YD l[i].at_.sz (300 - Xk 300 (l.take i))+YD l[i].L.sz (300 - Xk 300 (l.take i))+YD l[i].R.sz (300 - Xk 300 (l.take i))):=by unfold ZbS;rw[if_pos h2]
   have hle:decide (Xk 300 (l.take i)≤300)=true:=by rw[decide_eq_true_eq];omega
   have hv0:0≤Xk 300 (l.take i):=by rcases ht with ht|ht<;>omega
   rw[hst]at he;generalize hN:Xk 300 (l.take i)=N at*;obtain⟨x,hx⟩:∃x,x=l[i]:=⟨_,rfl⟩
   rw[←hx]at he;have hw:IntKind.i64.wrap (300 - N)=300 - N:=iw;obtain⟨a1,a2,_⟩:=VT (s:=x.at_.sz) (m:=300 - N) om;obtain⟨b1,b2,_⟩:=VT (s:=x.L.sz) (m:=300 - N) om;obtain⟨c1,c2,_⟩:=VT (s:=x.R.sz) (m:=300 - N) om;have w1:IntKind.i64.wrap (1+YD x.at_.sz (300 - N))=1+YD x.at_.sz (300 - N):=iw;have w2:IntKind.i64.wrap (1+YD x.at_.sz (300 - N)+YD x.L.sz (300 - N))=1+YD x.at_.sz (300 - N)+YD x.L.sz (300 - N):=iw;have w3:IntKind.i64.wrap (1+YD x.at_.sz (300 - N)+YD x.L.sz (300 - N)+YD x.R.sz (300 - N))=1+YD x.at_.sz (300 - N)+YD x.L.sz (300 - N)+YD x.R.sz (300 - N):=iw;have w4:IntKind.i64.wrap (N+(1+YD x.at_.sz (300 - N)+YD x.L.sz (300 - N)+YD x.R.sz (300 - N)))=N+(1+YD x.at_.sz (300 - N)+YD x.L.sz (300 - N)+YD x.R.sz (300 - N)):=iw;refine nq2 h hle ?_;refine nT ?_;refine nD drawO ?_;simp only[go_sem,simprocAttr,Lt.Zh _ _ h,h,←hx,hw];refine WE (Zf func32 rfl rfl) (a38 x.at_ (300 - N) om om) (by simp only[go_sem,simprocAttr,Lt.Zh _ _ h,h,←hx,hw]) ?_;simp only[go_sem,simprocAttr,Lt.Zh _ _ h,h,←hx,hw];refine WE (Zf func33 rfl rfl) (a11 x.L (300 - N) om om) (by simp only[go_sem,simprocAttr,Lt.Zh _ _ h,h,←hx,hw]) ?_;simp only[go_sem,simprocAttr,Lt.Zh _ _ h,h,←hx,hw];refine WE (Zf func33 rfl rfl) (a11 x.R (300 - N) om om) (by simp only[go_sem,simprocAttr,Lt.Zh _ _ h,h,←hx,hw]) ?_;simp only[go_sem,simprocAttr,Lt.Zh _ _ h,h,←hx,hw];refine gd ?_;apply kZ;repeat' first|apply q0|exact xx|apply aI
   all_goals first|exact(Yf l).inside|(simp only[go_sem,simprocAttr,w1,w2,w3,w4];rw[he];exact .refl _)|exact xI
 ·refine nq (QD.2 h) ?_;refine gg ?_;have hi':i=l.length:=om;subst hi';refine gE ?_;exact Zc (.refl _) (.int _ _) rfl
def j16(a b:Tm)(ha:a.Good)(hb:b.Good):Pure prog 16 [a.enc,b.enc] (.bool (cmpT a b==0)):=by
 intro n H;refine aF func16 fun B=>?_
 refine gc ?_;refine cP (a53 a b ha hb) ?_;exact pB
def ZrT(b:Bnd)(t:Tm):Zv b t=if((Zz t.name b).isSome&&(t.kind==3))=true then Zho t.name b else .mk t.kind t.num t.name (t.args.map (Zv b)):=by
 cases t with|mk k n s l=>
 rw[Zan];simp only[Tm.kind,Tm.num,Tm.name,Tm.args,Zho];by_cases hk:k=3
 ·rw[if_pos hk];obtain h|⟨v,h⟩:Zz s b=none∨ ∃v,Zz s b=some v:=by cases Zz s b<;>simp
  ·simp[h]
  ·simp[h,hk]
 ·rw[if_neg hk];simp[hk]
def Zt8(b:Bnd)(hb:Jg b)(hl:b.length≤1000000)(t:Tm)(ht:t.Good)(hm:Zft 227 [.iptr [Zj b]] Tm.enc Tm.enc t.args (Zv b)):ZR prog 187 [t.enc,Zj b] (Zv b t).enc:=by
 intro n H hn hT;have ha:=j70 t.args ht.len _ _ (Zv b) hm;have he:=ZrT b t;refine aF func187 fun B=>?_
 refine gh ?_;refine Ya 3 [Zj b] [(4,.ptr n 4 0),(3,.iptr [Zj b]),(2,.ptr n 2 0)] rfl ?_ ?_ ?_ ?_
 ·exact⟨(Zw n b).inside,trivial⟩
 ·refine⟨.inl ⟨.refl _,.ptr _ _ _ (.inr ⟨rfl,dc⟩)⟩,.inr ⟨0,rfl,rfl⟩,.inl ⟨.refl _,.ptr _ _ _ (.inr ⟨rfl,dc⟩)⟩,trivial⟩
 ·exact⟨Ze.Zy (Yb fun c hc=>(t.bcs.mem c hc).inside),Ze.Zy ⟨(Below.int _ _).inside,(Below.int _ _).inside,(Below.str _).inside,inZ,trivial⟩,trivial⟩
 refine gP ?_;refine cP (Zui b hb hl t.name) ?_;by_cases hc:((Zz t.name b).isSome&&(t.kind==3))=true
 ·rw[if_pos hc]at he;rw[he];rw[Qd]at hc;refine nq2 hc.1 hc.2 ?_;refine gj ?_;refine Z9 (.inl rfl) _ n 4 0 (Zho t.name b).cs sS sF rfl (Qg _) sS ?_ (Tm.blw _ _) rfl;exact xS
 ·rw[if_neg hc]at he;rw[he];cases h1:(Zz t.name b).isSome with
  |false=>
   refine nq h1 ?_;refine gv ?_;refine cT (ha) ?_;refine ge ?_;refine Z9 (.inl rfl) _ n 4 0 (Tm.mk t.kind t.num t.name (t.args.map (Zv b))).cs sS (by simp only[go_sem,simprocAttr,full];rfl) rfl (Qg _) sS ?_ (Tm.blw _ _) rfl;rw[Tm.J4];exact .refl _
  |true=>
   have h2:(t.kind==3)=false:=by rw[h1,Ud,Gl]at hc;exact hc
   refine nq2 h1 h2 ?_;refine gv ?_;refine cT (ha) ?_;refine ge ?_;refine Z9 (.inl rfl) _ n 4 0 (Tm.mk t.kind t.num t.name (t.args.map (Zv b))).cs sS (by simp only[go_sem,simprocAttr,full];rfl) rfl (Qg _) sS ?_ (Tm.blw _ _) rfl;rw[Tm.J4];exact .refl _
def ZvC(b:Bnd)(t:Tm)(ht:t.Good)(h:ZR prog 187 [t.enc,Zj b] (Zv b t).enc):ZR prog 227 [t.enc,.iptr [Zj b]] (Zv b t).enc:=by
 intro n H hn hT;refine aF func227 fun B=>?_
 refine gc ?_;refine cT (h) ?_;refine nV ?_;refine Z9 (.inl rfl) _ n 3 0 (Zv b t).cs sS sF rfl (Qg _) sS ?_ (Tm.blw _ _) rfl;exact xS
def ZsQ(b:Bnd)(hb:Jg b)(hl:b.length≤1000000)(t:Tm)(ht:t.Good):ZR prog 187 [t.enc,Zj b] (Zv b t).enc:=
 Zt8 b hb hl t ht ⟨⟨_,_,Zf func227 rfl rfl⟩,fun u hu=>ZvC b u (ht.arg hu) (ZsQ b hb hl u (ht.arg hu)),fun _=>⟨Zq ⟨Zw _ b,trivial⟩,trivial⟩⟩
termination_by SizeOf.sizeOf t
decreasing_by exact Tm.Y2 hu
structure GB (b:Bnd):Prop where
 asc:Jg b
 good:∀q∈b,q.2.Good
section
variable {b:Bnd}
def GB.look(h:GB b){s:Str}{v:Tm}(e:Zz s b=some v):v.Good:=h.good _ (ZaF e)
def GB.ext(h:GB b){s:Str}{v:Tm}(e:Zz s b=none)(hv:v.Good):GB (WH s v b):=
 ⟨Zg1 h.asc (WZ.1 e),fun q hq=>by rcases Zb0.1 hq with rfl|hq;all_goals first|exact hv|exact h.good q hq⟩
def ZI.gb(h:ZI b):GB b:=⟨h.asc,fun q hq=>Xi (h.val q hq)⟩
def mat_gb:(∀t v b c,matT t v b=some c→GB b→v.Good→GB c∧c.length≤b.length+t.sz)∧ ∀l q b c,matT.matL l q b=some c→GB b→(∀v∈q,v.Good)→GB c∧c.length≤b.length+Tm.sz.szs l:=by
 refine XL (fun k n s l ih v b c h hb hv=>?_) (fun q b c h hb hq=>?_) fun t r h1 h2 q b c h hb hq=>?_
 ·rw[matT]at h;split at h
  ·rename_i k3;obtain e|⟨w,e⟩:Zz s b=none∨ ∃v,Zz s b=some v:=by cases Zz s b<;>simp
   ·rw[e]at h;simp only[Qp]at h;subst h;exact⟨hb.ext e hv,by rw[ZjZ];simp only[Tm.sz];omega⟩
   ·rw[e]at h;simp only at h;split at h
    ·cases h;exact⟨hb,om⟩
    ·cases h
  ·split at h
   ·obtain⟨a,b'⟩:=ih v.args b c h hb (fun u hu=>hv.arg hu);exact⟨a,by simp only[Tm.sz];omega⟩
   ·cases h
 ·rw[matT.matL]at h;cases h;exact⟨hb,om⟩
 ·cases q with
  |nil=>rw[matT.matL]at h;cases h;exact⟨hb,om⟩
  |cons v q=>
   rw[matT.matL]at h;cases e:matT t v b with
   |none=>rw[e]at h;cases h
   |some d=>
    rw[e]at h;obtain⟨a1,a2⟩:=h1 v b d e hb (hq v sm);obtain⟨a3,a4⟩:=h2 q d c h a1 (fun u hu=>hq u (by simp[hu]));exact⟨a3,by simp only[Tm.sz.szs];omega⟩
def ZlA(o:Option Bnd):AV:=.tup [Zj (o.getD []),.bool o.isSome]
def Zlr(l v:List Tm)(c:Bnd)(H:Za)(i:Nat):Zb:=
 ⟨[(16,.int .i64 i),(15,.int .i64 l.length),(14,.sl 4 (l.map Tm.enc) .any),(2,Zj c),(1,.sl 4 (v.map Tm.enc) .any)],[],H⟩
def ZqG(l:List Tm)(i:Nat)(h:i<l.length):Tm.sz.szs (l.drop i)=l[i].sz+Tm.sz.szs (l.drop (i+1)):=by
 rw[Qu h];rfl
def Zt2(l v:List Tm)(b:Bnd)(hlen:l.length=v.length)(hl:∀t∈l,t.Good)(hv:∀u∈v,u.Good)(hb:GB b)(hB:b.length+Tm.sz.szs l≤900000)
  (hc:∀t∈l,∀u∈v,∀c,GB c→t.args.length=u.args.length→c.length+Tm.sz.szs t.args≤900000→Pure prog 141 [.sl 4 (t.args.map Tm.enc) .any,.sl 4 (u.args.map Tm.enc) .any,Zj c] (ZlA (matT.matL t.args u.args c))):
  Pure prog 141 [.sl 4 (l.map Tm.enc) .any,.sl 4 (v.map Tm.enc) .any,Zj b] (ZlA (matT.matL l v b)):=by
 intro n H;have hll:=Tm.sz_len l;refine aF func141 fun B=>?_
 refine gk ?_;refine Zar (fun m st=>∃i c,i≤l.length∧m=l.length - i∧st=Zlr l v c H i∧GB c∧c.length+Tm.sz.szs (l.drop i)≤900000∧matT.matL (l.drop i) (v.drop i) c=matT.matL l v b) (m0:=l.length) (s0:=Zlr l v b H 0) rfl ?_
  ⟨0,b,Uw _,rfl,rfl,hb,hB,rfl⟩ ?_
 ·exact KK
 rintro m st ⟨i,c,hi,rfl,rfl,hgc,hcB,hm⟩;refine ZQ rfl ?_;rcases Qe i l.length with h|h
 ·have hiv:i<v.length:=om;have ht:=hl _ (Qa h);have hu:=hv _ (Qa hiv);have hsz:=ZqG l i h;have hstep:matT.matL (l.drop i) (v.drop i) c=match matT l[i] v[i] c with
    |none=>none
    |some d=>matT.matL (l.drop (i+1)) (v.drop (i+1)) d:=by
   rw[Qu h,Qu hiv,matT.matL];rfl
  rw[hm]at hstep;have hcc:=hc _ (Qa h) _ (Qa hiv) c hgc;have hgd:=(mat_gb.1 l[i] v[i] c)
  obtain⟨t,htl⟩:∃t,t=l[i]:=⟨_,rfl⟩
  obtain⟨u,hul⟩:∃u,u=v[i]:=⟨_,rfl⟩
  rw[←htl]at ht hsz hstep hcc hgd;rw[←hul]at hu hstep hcc hgd;have htz:=t.Zc7;have htq:=t.ZhJ;have hwr:IntKind.i64.wrap ((i:Int)+1)=((i+1:Nat):Int):=by rw[iw];omega
  refine nq h ?_;refine gH ?_;simp only[go_sem,simprocAttr,Tm.Zh _ _ h,h,←htl];refine nR ?_;refine cP (Zui c hgc.asc om t.name) ?_;refine kK ?_;by_cases k3:t.kind=3
  ·have e3:(t.kind==3)=true:=by simp[k3]
   obtain e|⟨w,e⟩:Zz t.name c=none∨ ∃w,Zz t.name c=some w:=by cases Zz t.name c<;>simp
   ·have hmt:matT t u c=some (WH t.name u c):=by
     cases t;simp only[Tm.kind,Tm.name]at k3 e⊢;rw[matT,if_pos k3,e]
    rw[hmt]at hstep;refine nr ?_;simp only[go_sem,simprocAttr,e,Qah,e3];refine nT ?_;refine nD drawO ?_;simp only[go_sem,simprocAttr,Tm.Zh _ _ hiv,hiv,←hul];refine cP (j138 c hgc.asc om t.name u) ?_;refine ZlR rfl rfl rfl ?_;refine gd ?_;refine⟨l.length - (i+1),Zlr l v (WH t.name u c) H (i+1),om,?_,i+1,_,om,rfl,rfl,(hgd _ hmt hgc hu).1,by have:=(hgd _ hmt hgc hu).2;omega,hstep.symm⟩;apply kZ;repeat' first|apply q0|exact xx|apply aI
    all_goals first|exact(Zw n _).inside|skip
    refine aq hwr ?_;exact .refl _
   ·have ev:Zho t.name c=w:=by rw[Zho,e];rfl
    refine nr ?_;simp only[go_sem,simprocAttr,e,Qag,e3];refine nF ?_;refine nq e3 ?_;refine nT ?_;refine nD drawO ?_;simp only[go_sem,simprocAttr,Tm.Zh _ _ hiv,hiv,←hul,ev];refine cP (j16 w u (hgc.look e) hu) ?_;by_cases hq:cmpT w u=0
    ·have eq1:(cmpT w u==0)=true:=by simp[hq]
     have hmt:matT t u c=some c:=by
      cases t;simp only[Tm.kind,Tm.name]at k3 e⊢;rw[matT,if_pos k3,e];simp[hq]
     rw[hmt]at hstep;refine nFq eq1 ?_;refine ZlR rfl rfl rfl ?_;refine gd ?_;refine⟨l.length - (i+1),Zlr l v (c) H (i+1),om,?_,i+1,_,om,rfl,rfl,(hgd _ hmt hgc hu).1,by have:=(hgd _ hmt hgc hu).2;omega,hstep.symm⟩;apply kZ;repeat' first|apply q0|exact xx|apply aI
     all_goals first|exact(Zw n _).inside|skip
     refine aq hwr ?_;exact .refl _
    ·have eq1:(cmpT w u==0)=false:=by simp[hq]
     have hmt:matT t u c=none:=by
      cases t;simp only[Tm.kind,Tm.name]at k3 e⊢;rw[matT,if_pos k3,e];simp[hq]
     rw[hmt]at hstep;refine nTq eq1 ?_;refine nR ?_;refine nW ?_;rw[hstep];exact ZG (.any _ _ _) (.refl _) (Zw n _) (.bool _) rfl
  ·have e3:(t.kind==3)=false:=by simp[k3]
   refine nq e3 ?_;refine nF ?_;refine nq e3 ?_;refine gu ?_;have hmt0:matT t u c=if t.kind=u.kind∧t.num=u.num∧t.name=u.name∧t.args.length=u.args.length then matT.matL t.args u.args c else none:=by
    cases t;cases u;simp only[Tm.kind,Tm.name,Tm.num,Tm.args]at k3⊢;rw[matT,if_neg k3];rfl
   by_cases q1:t.kind=u.kind
   ·have p1:(t.kind !=u.kind)=false:=by simp[q1]
    by_cases q2:t.num=u.num
    ·have p2:(t.num !=u.num)=false:=by simp[q2]
     by_cases q3:t.name=u.name
     ·have p3:(t.name==u.name)=true:=by simp[q3]
      by_cases q4:t.args.length=u.args.length
      ·have p4:((t.args.length:Int) !=(u.args.length:Int))=false:=by simp[q4]
       rw[if_pos ⟨q1,q2,q3,q4⟩]at hmt0;refine Xz tok mixed drawO rfl rfl rfl ?_;simp -implicitDefEqProofs (maxSteps:=1000000) only[go_sem,simprocAttr,Tm.Zh _ _ hiv,hiv,←hul,p1,p2,p3,p4];refine nF ?_;refine nD drawO ?_;simp only[go_sem,simprocAttr,Tm.Zh _ _ hiv,hiv,←hul];refine cP (hcc q4 om) ?_;obtain e|⟨d,e⟩:matT.matL t.args u.args c=none∨ ∃d,matT.matL t.args u.args c=some d:=by cases matT.matL t.args u.args c<;>simp
       ·have hmt:matT t u c=none:=hmt0.trans e;rw[hmt]at hstep;simp only[go_sem,simprocAttr,ZlA,e,Qah,Qbv];refine nR ?_;refine gn ?_;rw[hstep];exact ZG (.any _ _ _) (.refl _) (Zw n _) (.bool _) rfl
       ·have hmt:matT t u c=some d:=hmt0.trans e;rw[hmt]at hstep;simp only[go_sem,simprocAttr,ZlA,e,Qag,Um];refine nR ?_;refine nF ?_;refine gc ?_;refine nN ?_;refine⟨l.length - (i+1),Zlr l v d H (i+1),om,?_,i+1,_,om,rfl,rfl,(hgd _ hmt hgc hu).1,by have:=(hgd _ hmt hgc hu).2;omega,hstep.symm⟩;apply kZ;repeat' first|apply q0|exact xx|apply aI
        all_goals first|exact(Zw n _).inside|(simp only[go_sem,simprocAttr,hwr];exact .refl _)|exact xS|(simp only[go_sem,simprocAttr];exact Tm.Zf6 _ _)|(simp only[go_sem,simprocAttr];exact(Below.int _ _).inside)|(simp only[go_sem,simprocAttr];exact(Zw n _).inside)
      ·have p4:((t.args.length:Int) !=(u.args.length:Int))=true:=by simp;omega
       have hmt:matT t u c=none:=by rw[hmt0,if_neg (fun hh=>q4 hh.2.2.2)]
       rw[hmt]at hstep;refine Xz tok mixed drawO rfl rfl rfl ?_;simp -implicitDefEqProofs (maxSteps:=1000000) only[go_sem,simprocAttr,Tm.Zh _ _ hiv,hiv,←hul,p1,p2,p3,p4];refine gn ?_;rw[hstep];exact ZG (.any _ _ _) (.refl _) (Zw n _) (.bool _) rfl
     ·have p3:(t.name==u.name)=false:=by simp[q3]
      have hmt:matT t u c=none:=by rw[hmt0,if_neg (fun hh=>q3 hh.2.2.1)]
      rw[hmt]at hstep;refine Xz tok mixed drawO rfl rfl rfl ?_;simp -implicitDefEqProofs (maxSteps:=1000000) only[go_sem,simprocAttr,Tm.Zh _ _ hiv,hiv,←hul,p1,p2,p3];refine gn ?_;rw[hstep];exact ZG (.any _ _ _) (.refl _) (Zw n _) (.bool _) rfl
    ·have p2:(t.num !=u.num)=true:=by simp[q2]
     have hmt:matT t u c=none:=by rw[hmt0,if_neg (fun hh=>q2 hh.2.1)]
     rw[hmt]at hstep;refine Xz tok mixed drawO rfl rfl rfl ?_;simp -implicitDefEqProofs (maxSteps:=1000000) only[go_sem,simprocAttr,Tm.Zh _ _ hiv,hiv,←hul,p1,p2];refine gn ?_;rw[hstep];exact ZG (.any _ _ _) (.refl _) (Zw n _) (.bool _) rfl
   ·have p1:(t.kind !=u.kind)=true:=by simp[q1]
    have hmt:matT t u c=none:=by rw[hmt0,if_neg (fun hh=>q1 hh.1)]
    rw[hmt]at hstep;refine Xz tok mixed drawO rfl rfl rfl ?_;simp -implicitDefEqProofs (maxSteps:=1000000) only[go_sem,simprocAttr,Tm.Zh _ _ hiv,hiv,←hul,p1];refine gn ?_;rw[hstep];exact ZG (.any _ _ _) (.refl _) (Zw n _) (.bool _) rfl
 ·have hi':i=l.length:=om;subst hi';rw[Qad,show v.drop l.length=[] by rw[hlen];exact Qad]at hm;have hm:matT.matL l v b=some c:=by rw[←hm,matT.matL]
  refine nq (QD.2 h) ?_;refine gt ?_;rw[hm];exact ZG (.refl _) (.refl _) (Zw n _) (.bool _) rfl
def ZuO(l v:List Tm)(b:Bnd)(hlen:l.length=v.length)(hl:∀t∈l,t.Good)(hv:∀u∈v,u.Good)(hb:GB b)(hB:b.length+Tm.sz.szs l≤900000):
  Pure prog 141 [.sl 4 (l.map Tm.enc) .any,.sl 4 (v.map Tm.enc) .any,Zj b] (ZlA (matT.matL l v b)):=
 Zt2 l v b hlen hl hv hb hB fun t ht u hu c hc hq hs=>ZuO t.args u.args c hq (fun _ h=>(hl t ht).arg h) (fun _ h=>(hv u hu).arg h) hc hs
termination_by SizeOf.sizeOf l
decreasing_by
 have h1:=QL ht;have h2:SizeOf.sizeOf t.args<SizeOf.sizeOf t:=by cases t;simp only[Tm.args,Tm.mk.sizeOf_spec];omega
 omega
end
def sw8(l:List Lt)(A:List Am)(b:Bnd)(H:Za)(N:Int):Zb:=⟨[(7,.int .i64 N),(0,.sl 13 (l.map Lt.enc) .any),(1,.sl 2 (A.map Am.enc) .any),(2,.sl 5 (b.map eBd) .any)],[],H⟩
def ZoM(l:List Lt)(A:List Am)(b:Bnd)(H:Za)(t:Nat)(N:Int)(i:Nat):Zb:=⟨[(t,.int .i64 i),(7,.int .i64 N),(0,.sl 13 (l.map Lt.enc) .any),(1,.sl 2 (A.map Am.enc) .any),(2,.sl 5 (b.map eBd) .any)],[],H⟩
def ZkL{n:Int}{s:Nat}(h:n≤300):Zay n s=n+YD s (300 - n):=if_pos h
def w8(l:List Lt)(A:List Am)(b:Bnd)(hl:l.length≤100000000000000)(hA:A.length≤100000000000000)(hb:b.length≤100000000000000)(gl:szLs l≤300→ ∀x∈l,x.Good)(gb:sumN (b.map fun p=>p.2.sz)≤300→ ∀p∈b,p.2.Good):
  Pure prog 8 [.sl 13 (l.map Lt.enc) .any,.sl 2 (A.map Am.enc) .any,.sl 5 (b.map eBd) .any] (.bool (ZcT l A b)):=by
 intro n H;have hin:∀q,Inside n q (.sl 13 (l.map Lt.enc) .any)∧Inside n q (.sl 2 (A.map Am.enc) .any)∧Inside n q (.sl 5 (b.map eBd) .any):=fun q=>⟨(Yf l).inside,Am.Zf6 _ _,(Zw n b).inside⟩
 have t0:=ZgJ (m:=300) om l;have hn0:0≤(b.length:Int)+Xk 300 l∧(b.length:Int)+Xk 300 l≤100000000002000:=by rcases t0 with t0|t0<;>omega
 have hw0:IntKind.i64.wrap ((b.length:Int)+Xk 300 l)=(b.length:Int)+Xk 300 l:=iw;have hsz:=fun h=>Zfj (l:=l) (A:=A) (b:=b) h
 refine aF func8 fun B=>?_
 refine gc ?_;refine WE (Zf func31 rfl rfl) (w31 l hl) (by simp only[go_sem,simprocAttr,hw0]) ?_;refine aq hw0 ?_;unfold ZcT;generalize (b.length:Int)+Xk 300 l=N0 at*;have hs1:=sum_le (A.map Am.sz) hn0.1;refine nR ?_;refine WM (sw8 l A b H (Wx N0 (A.map Am.sz))) ?_ ?_
 ·refine kK ?_;refine Zm (fun i=>ZoM l A b H 8 (Wx N0 ((A.map Am.sz).take i)) i) A.length rfl ?_ ?_
  ·unfold ZoM;exact KK
  intro i hi;refine ZQ rfl ?_;have hsi:=sum_le ((A.map Am.sz).take i) hn0.1;rcases Qe i A.length with h|h
  ·rcases QaM 300 (Wx N0 ((A.map Am.sz).take i))with h2|h2
   ·have hle:decide (Wx N0 ((A.map Am.sz).take i)≤300)=false:=by rw[decide_eq_false_iff_not];omega
    have he:=ZkQ h2;refine nq2 h hle ?_;refine gJ ?_;refine⟨rfl,?_⟩;unfold sw8;rw[he];exact KK
   ·have hle:decide (Wx N0 ((A.map Am.sz).take i)≤300)=true:=by rw[decide_eq_true_eq];omega
    have he:=ZjL (v:=N0) (l:=A.map Am.sz) (i:=i) (by simpa using h);rw[QN,ZkL h2]at he;generalize Wx N0 ((A.map Am.sz).take i)=N at*;have hw:IntKind.i64.wrap (300 - N)=300 - N:=iw;obtain⟨a1,a2,_⟩:=VT (s:=A[i].sz) (m:=300 - N) om;refine nq2 h hle ?_;refine nT ?_;refine nq3 (Am.Zh _ _ h) h hw ?_;refine WE (Zf func32 rfl rfl) (a38 A[i] (300 - N) om om) (by simp only[go_sem,simprocAttr,hw]) ?_;refine aq hw ?_;refine gd ?_;unfold ZoM;exact KK
  ·have hi':i=A.length:=om;subst hi';have hta:(A.map Am.sz).take A.length=A.map Am.sz:=Q9 sm;refine nr ?_;simp only[go_sem,simprocAttr,QY];refine gJ ?_;refine⟨rfl,?_⟩;rw[hta];unfold sw8;exact KK
 generalize Wx N0 (A.map Am.sz)=N1 at*;unfold sw8;refine nR ?_;refine WM (sw8 l A b H (Wx N1 (b.map fun p=>p.2.sz))) ?_ ?_
 ·refine kK ?_;refine Zm (fun i=>ZoM l A b H 9 (Wx N1 ((b.map fun p=>p.2.sz).take i)) i) b.length rfl ?_ ?_
  ·unfold ZoM;exact KK
  intro i hi;refine ZQ rfl ?_;have hsi:=sum_le ((b.map fun p=>p.2.sz).take i) hs1.1;rcases Qe i b.length with h|h
  ·rcases QaM 300 (Wx N1 ((b.map fun p=>p.2.sz).take i))with h2|h2
   ·have hle:decide (Wx N1 ((b.map fun p=>p.2.sz).take i)≤300)=false:=by rw[decide_eq_false_iff_not];omega
    have he:=ZkQ h2;refine nq2 h hle ?_;refine gJ ?_;refine⟨rfl,?_⟩;unfold sw8;rw[he];exact KK
   ·have hle:decide (Wx N1 ((b.map fun p=>p.2.sz).take i)≤300)=true:=by rw[decide_eq_true_eq];omega
    have he:=ZjL (v:=N1) (l:=b.map fun p=>p.2.sz) (i:=i) (by simpa using h);rw[QN,ZkL h2]at he;generalize Wx N1 ((b.map fun p=>p.2.sz).take i)=N at*;have hw:IntKind.i64.wrap (300 - N)=300 - N:=iw;obtain⟨a1,a2,_⟩:=VT (s:=b[i].2.sz) (m:=300 - N) om;refine nq2 h hle ?_;refine nT ?_;refine nq3 (getD_map eBd _ _ h) h hw ?_;refine WE (Zf func33 rfl rfl) (a11 b[i].2 (300 - N) om om) (by simp only[go_sem,simprocAttr,hw]) ?_;refine aq hw ?_;refine gd ?_;unfold ZoM;exact KK
  ·have hi':i=b.length:=om;subst hi';have hta:(b.map fun p=>p.2.sz).take b.length=b.map fun p=>p.2.sz:=Q9 sm
   refine nr ?_;simp only[go_sem,simprocAttr,QY];refine gJ ?_;refine⟨rfl,?_⟩;rw[hta];unfold sw8;exact KK
 generalize Wx N1 (b.map fun p=>p.2.sz)=N2 at*;unfold sw8;have c5:decide ((5:Int)<(l.length:Int))=decide (5<l.length):=by rw[decide_eq_decide];omega
 have c24:decide ((24:Int)<(A.length:Int))=decide (24<A.length):=by rw[decide_eq_decide];omega
 cases g1:decide (300<N2)with
 |true=>
  refine nq g1 ?_;exact pB
 |false=>
  cases g2:decide (5<l.length)with
  |true=>
   refine nq3 g1 c5 g2 ?_;exact pB
  |false=>
   cases g3:decide (24<A.length)with
   |true=>
    refine nr ?_;simp only[go_sem,simprocAttr,g1,c5,c24,g2,g3];exact pB
   |false=>
    have hs3:=hsz (by simpa using g1);have hl5:l.length≤5:=by simpa using g2
    have gl':=gl om;have gb':=gb om;refine nr ?_;simp only[go_sem,simprocAttr,g1,c5,c24,g2,g3];refine cP (w34 l om gl') ?_;cases g4:ZjD l with
    |true=>
     refine aq g4 ?_;exact pB
    |false=>
     refine aq g4 ?_;refine cP (w35 b om gb') ?_;exact pB
def w18(s:Str):Pure prog 18 [.str s] (Tm.mk 3 0 s []).enc:=by
 intro n H;refine aF func18 fun B=>?_
 refine gK ?_;refine Z9 (.inl rfl) _ n 2 0 [.int .u8 3,.int .i64 0,.str s,.sl 4 [] .full] sS sF rfl (Qg _) sS ?_ (Tm.blw _ _) rfl;refine aS ?_;rw[Tm.VJ];exact .deep (.ZcZ ⟨.refl _,.refl _,.refl _,.nil _ _ _,trivial⟩)
def ZY{κ β:Type} [DecidableEq κ](k:κ):List (κ×β)→Nat→Option Nat
 |[],_=>none
 |p::r,i=>if p.1=k then some i else ZY k r (i+1)
theorem ZeT{κ β:Type} [DecidableEq κ](enc:κ→AV)(hi:∀a b,(enc a).kls=(enc b).kls→a=b)(k:κ)(f:κ×β→AV×AV)(hf:∀p,(f p).1=enc p.1):∀(es:List (κ×β)) (i:Nat),XW (enc k).kls ((es.map f).map fun p=>p.1.kls) i=ZY k es i
 |[],_=>rfl
 |p::r,i=>by
  simp only[Qv,XW,ZY,hf];by_cases h:p.1=k
  ·rw[if_pos h,if_pos (by rw[h])]
  ·rw[if_neg h,if_neg (fun e=>h (hi _ _ e).symm),ZeT enc hi k f hf r (i+1)]
theorem Zbj{κ:Type} [DecidableEq κ](enc:κ→AV)(hi:∀a b,(enc a).kls=(enc b).kls→a=b)(k:κ)(l b:Nat):∀(es:List (κ×List Int)) (i j:Nat),XW (enc k).kls ((ents enc l b j es).map fun p=>p.1.kls) i=ZY k es i
 |[],_,_=>rfl
 |p::r,i,j=>by
  simp only[ents,Qv,XW,ZY];by_cases h:p.1=k
  ·rw[if_pos h,if_pos (by rw[h])]
  ·rw[if_neg h,if_neg (fun e=>h (hi _ _ e).symm),Zbj enc hi k l b r (i+1) (j+1)]
def ZmH(a b:List UInt8)(h:(AV.str a).kls=(AV.str b).kls):a=b:=by
 simp[AV.kls,AV.cells,klAll,AV.kl]at h;exact h
def Zl3(a b:Sg)(h:a.enc.kls=b.enc.kls):a=b:=by
 simp[AV.kls,AV.cells,klAll,AV.kl,Sg.enc]at h;cases a;cases b;simp at h;simp[h]
def Zl9(a b:Ak)(h:a.enc.kls=b.enc.kls):a=b:=by
 simp[AV.kls,AV.cells,klAll,AV.kl,Ak.enc]at h;obtain⟨⟨p,n⟩,c,t⟩:=a;obtain⟨⟨p',n'⟩,c',t'⟩:=b;simp at h;simp[h]
def Zc8(p:List UInt8×Int):AV×AV:=(.str p.1,.int .i64 p.2)
def a26(n:Nat)(H:Za)(l b:Nat)(s:Sto)(a:Am)(hl:l<n)(hs:ZV H l b s)(ha:a.Good)(hn:0<n)(hT:Tabs H):PC prog n 65 [.ptr l b 0,a.enc] H (.bool (Yh a&&(ZY (JI a) s.N 0).isSome)):=by
 have hne:¬l=n:=om;have hb:=hs.box;have hnum:=hs.num;have hf:XW (AV.str (JI a)).kls ((s.N.map Zc8).map fun p=>p.1.kls) 0=ZY (JI a) s.N 0:=ZeT AV.str ZmH (JI a) Zc8 (fun _=>rfl) s.N 0;have hkk:∀p,p∈s.N.map Zc8→YF tt 9 p.1=true:=fun p hp=>by
  obtain⟨q,_,rfl⟩:=Qi.1 hp;exact Zev _
 change H l (b+2)=some (Ze.map (s.N.map Zc8))at hnum;generalize s.N.map Zc8=es at hf hkk hnum;refine aF func65 fun B=>?_
 refine gc ?_;refine cQ (a55 (n+1) _ l b s om (hs.full hl _)) ?_;refine aS ?_;refine cT (a14 a ha) ?_;cases h1:Yh a with
 |false=>
  refine nTq h1 ?_;refine nR ?_;refine YG rfl rfl ?_;refine Zc ?_ (.bool _) rfl;try simp only[go_sem,simprocAttr,UA]
  exact .refl _
 |true=>
 refine Zti rfl rfl (by simp only[go_sem,simprocAttr,h1]) ?_;refine nD drawO ?_;simp only[go_sem,simprocAttr,hne,hb,hnum,ZT];refine cT (a57 a ha h1) ?_;simp only[go_sem,simprocAttr,hne,hb,hnum,ZT,lookA,XB,hf];refine⟨fun p hp=>hkk p hp,?_⟩;cases hk:ZY (JI a) s.N 0 with
 |none=>
  refine nR ?_;exact pB
 |some i=>
  refine nR ?_;exact pB
def Zet(m:Nat)(H H0:Za):Prop:=∀l k,l<m→H l k=H0 l k
def Zet.full{m n:Nat}{H H0:Za}(h:Zet m H H0)(hm:m≤n)(L:List (Nat×Ze)):Zet m (Go.Abs.full n L H) H0:=fun l k hl=>by
 rw[Zk om];exact h l k hl
structure Zv7 {α:Type} (m:Nat) (H0:Za) (f:Nat) (caps:List AV) (ea:α→AV) (l:List α) (g:α→Am):Prop where
 fn:∃fn c,Fun prog f fn c
 on:∀x∈l,∀n H,m≤n→Zet m H H0→PC prog n f (ea x::caps) H (g x).enc
 below:∀n,m≤n→Yg (fun c=>Below n c) caps
def Zvd(l:List Int)(o:Own)(f:Nat)(caps:List AV)(g:Int→Am)(n:Nat)(H:Za)(i:Nat):Zb:=
 ⟨[(10,.int .i64 i),(9,.int .i64 l.length),(8,.sl 1 (l.map eInt) o),(5,.sl 2 (((l.take i).map g).map Am.enc) (.buf n 200)),(1,.fn (.func f) caps)],[(200,.buf 52 2 i)],H⟩
def Zvu(l:List Int)(hl:l.length≤1000000)(o:Own)(m:Nat)(H0:Za)(f:Nat)(caps:List AV)(g:Int→Am)(hp:Zv7 m H0 f caps eInt l g)(ho:∀n,m≤n→Below n (.sl 1 (l.map eInt) o))(n:Nat)(H:Za)(hmn:m≤n)(hH:Zet m H H0):
  PC prog n 202 [.sl 1 (l.map eInt) o,.fn (.func f) caps] H (.sl 2 ((l.map g).map Am.enc) .any):=by
 obtain⟨⟨fn,c,hf⟩,hp,hbl⟩:=hp;have hfi:∀q,Inside n q (.fn (.func f) caps):=fun q=>(Below.fn _ _ fun i hi=>(hbl n hmn).mem _ (Qa hi)).inside
 have hoi:∀q,Inside n q (.sl 1 (l.map eInt) o):=fun q=>(ho n hmn).inside
 refine aF func202 fun B=>?_
 refine gz ?_;refine Xn 5 200 52 2 rfl rfl ?_;refine Zm (Zvd l o f caps g n H) l.length rfl ?_ ?_
 ·exact KK
 intro i hi;refine ZQ rfl ?_;rcases Qe i l.length with h|h
 ·have hmin:(l.take i).length=i:=Uo om;refine nq h ?_;refine nT ?_;refine nq2 (getD_map eInt _ _ h) h ?_;refine nR ?_;refine YE (avs:=[eInt l[i]]) rfl hf (hp l[i] (Qa h) _ _ (by show m≤n+1;omega) (hH.full hmn _)) rfl ?_;refine aq hmin ?_;refine⟨by first|exact⟨rfl,dc⟩|exact rfl,⟨Zl om,om⟩,?_⟩;refine gd ?_;apply kZ;repeat' first|apply q0|exact xx|apply aI
  ·refine aS ?_;rw[iw];exact .refl _
  ·simp only[go_sem,simprocAttr,Qj h,QC];exact .refl _
  all_goals first|exact hfi _|exact hoi _
 ·refine nq (QD.2 h) ?_;refine gg ?_;have hi':i=l.length:=om;subst hi';refine gE ?_;refine Zc ?_ (Xp _) rfl;refine aS ?_;exact .any _ _ _
def ZgE(A:List Am)(ix:List Int):List Am:=ix.map fun i=>A.getD i.toNat ⟨[],[]⟩
def a98(n:Nat)(H:Za)(l b q j:Nat)(s:Sto)(i:Int)(hl:l<n)(hq:q<n)(hs:ZV H l b s)(hbx:H q j=some (.box [.ptr l b 0]))(hg:Vp s.A)(hn:0<n)(hT:Tabs H)(h0:0≤i)(h1:i<s.A.length):
  PC prog n 203 [eInt i,.ptr q j 0] H (s.A.getD i.toNat ⟨[],[]⟩).enc:=by
 have hne:¬l=n:=om;have hqn:¬q=n:=om;have hb:=hs.box;have h2:i.toNat<s.A.length:=om;have hA:s.A≠[]:=fun e=>by rw[e]at h2;simp at h2
 have hA':¬s.A=[]:=hA;have hga:s.A.getD i.toNat ⟨[],[]⟩=s.A[i.toNat]:=by rw[Qn,Qb h2];rfl
 refine aF func203 fun B=>?_
 refine nR ?_;refine nr ?_;simp only[go_sem,simprocAttr,hne,hqn,hb,hbx,ZT,YC,hA',h0,h1,h2,Am.Zh _ _ h2];refine cT (a59 s.A[i.toNat] (hg _ (Qa h2))) ?_;refine nV ?_;rw[hga];exact Z9 (.inl rfl) _ n 3 0 s.A[i.toNat].cs sS (by simp only[go_sem,simprocAttr,Go.Abs.full]) rfl (Qg _) sS (by simp only[go_sem,simprocAttr];exact .refl _) (Am.blw _ _) rfl
def a61(n:Nat)(H:Za)(l b:Nat)(s:Sto)(ix:List Int)(o:Own)(hl:l<n)(hs:ZV H l b s)(hg:Vp s.A)(hn:0<n)(hT:Tabs H)(hix:∀i∈ix,0≤i∧i<s.A.length)(hlen:ix.length≤1000000)(ho:Below n (.sl 1 (ix.map eInt) o)):
  PC prog n 162 [.ptr l b 0,.sl 1 (ix.map eInt) o] H (.sl 2 ((ZgE s.A ix).map Am.enc) .any):=by
 refine aF func162 fun B=>?_
 refine gc ?_;refine cQ (Zvu ix hlen o (n+1) _ _ [.ptr n 2 0] (fun i=>s.A.getD i.toNat ⟨[],[]⟩) ⟨⟨_,_,Zf func203 rfl rfl⟩,fun i hi m H1 hm hH1=>?_,fun m hm=>⟨.ptr _ _ _ om,trivial⟩⟩ (fun m hm=>ho.mono om) (n+1) _ (Qg _) (fun _ _ _=>rfl)) ?_
 ·refine a98 m H1 l b n 2 s i om om (fun k x hk=>?_) ?_ hg om ?_ (hix i hi).1 (hix i hi).2
  ·rw[hH1 _ _ om,Zk hl];exact hs k x hk
  ·rw[hH1 _ _ om];simp only[go_sem,simprocAttr,Go.Abs.full]
  ·exact hT.up (fun k=>by rw[hH1 _ _ om];exact Zk hn _ _ _)
 simp only[go_sem,simprocAttr];refine nV ?_;refine Zc ?_ (Xp _) rfl;simp only[go_sem,simprocAttr,ZgE];exact .refl _
def Y8{κ:Type} [DecidableEq κ](k:κ)(es:List (κ×List Int)):List Int:=match ZY k es 0 with
 |some j=>(es[j]?.map Prod.snd).getD []
 |none=>[]
def J9{κ β:Type} [DecidableEq κ]{k:κ}:∀{es:List (κ×β)} {i j:Nat},ZY k es i=some j→i≤j∧j<i+es.length
 |[],_,_,h=>by cases h
 |p::r,i,j,h=>by
  simp only[ZY]at h;split at h
  ·cases h;simp
  ·have:=J9 h;simp only[Qq];omega
theorem Jy{κ:Type}(enc:κ→AV)(l b:Nat):∀(es:List (κ×List Int)) (i j:Nat) (h:j<es.length) (d:AV×AV),(ents enc l b i es).getD j d=(enc es[j].1,.sl 1 (es[j].2.map eInt) (.buf l (b+2*(i+j))))
 |p::r,i,0,_,d=>rfl
 |p::r,i,j+1,h,d=>by
  have:=Jy enc l b r (i+1) j (by simpa using h) d;simp only[ents,Qa2,UU];rw[this];congr 3;omega
def ZbO{κ:Type}(enc:κ→AV)(l b:Nat):∀(es:List (κ×List Int)) (i:Nat) (p:AV×AV),p∈ents enc l b i es→ ∃k,p.1=enc k
 |q::r,i,p,h=>by
  simp only[ents,Ql]at h;rcases h with rfl|h
  ·exact⟨q.1,rfl⟩
  ·exact ZbO enc l b r (i+1) p h
def Y7{n k:Nat}{o:Own}(l:List Int)(h:∀l' j,o= .buf l' j→l'<n):Below n (.sl k (l.map eInt) o):=
 .sl k _ o (fun i hi c hc=>by
  have:=ZbE (n:=n) .i64 l _ (Qa hi);exact this.cells _ (Qa hc)) h
def a30(n:Nat)(H:Za)(l b:Nat)(s:Sto)(g:Sg)(hl:l<n)(hs:ZV H l b s)(hg:Vp s.A)(hn:0<n)(hT:Tabs H)(hix:∀i∈Y8 g s.S,0≤i∧i<s.A.length)(hlen:(Y8 g s.S).length≤1000000):
  PC prog n 102 [.ptr l b 0,g.enc] H (.sl 2 ((ZgE s.A (Y8 g s.S)).map Am.enc) .any):=by
 have hne:¬l=n:=om;have hb:=hs.box;have hsig:=hs.sig;have hf:XW g.enc.kls ((ents Sg.enc l (b+5) 0 s.S).map fun p=>p.1.kls) 0=ZY g s.S 0:=Zbj Sg.enc Zl3 g l (b+5) s.S 0 0;have hkk:∀p,p∈ents Sg.enc l (b+5) 0 s.S→YF tt 110 p.1=true:=fun p hp=>by
  obtain⟨k,hk⟩:=ZbO _ _ _ _ _ _ hp;rw[hk];exact Zl2 _ _
 have hd:=fun j h=>Jy Sg.enc l (b+5) s.S 0 j h (.dead,.dead)
 generalize ents Sg.enc l (b+5) 0 s.S=es at hf hkk hsig hd;simp only[Sg.enc]at hf;refine aF func102 fun B=>?_
 refine gc ?_;refine cQ (a55 (n+1) _ l b s om (hs.full hl _)) ?_;refine aS ?_;refine nF ?_;cases hk:ZY g s.S 0 with
 |none=>
  have e:Y8 g s.S=[]:=by rw[Y8,hk]
  rw[e]at hix hlen;rw[hk]at hf;refine nD drawO ?_;simp only[go_sem,simprocAttr,hne,hb,hsig,ZT,lookA,XB,hf];refine⟨hkk,?_⟩;refine Zdw (Zf func162 rfl rfl) (Zi.args (a61 (n+1) _ l b s [] .full om (hs.full hl _) hg om (hT.full hn) hix hlen (Y7 [] (fun _ _ e=>by cases e))) (args':=[.ptr l b 0,.Xl]) ⟨.refl _,.sem fun _ _ h=>h.ZiW,trivial⟩) (by simp only[go_sem,simprocAttr,XP]) ?_;refine gw ?_;rw[e];exact Zc (.refl _) (Xp _) rfl
 |some j=>
  have hj:=J9 hk;have hj':j<s.S.length:=om;have e:Y8 g s.S=s.S[j].2:=by rw[Y8,hk];simp[Qb hj']
  rw[e]at hix hlen;rw[hk]at hf;have hdj:=hd j hj';refine nD drawO ?_;simp only[go_sem,simprocAttr,hne,hb,hsig,ZT,lookA,XB,hf,hdj];refine⟨hkk,?_⟩;refine cQ (a61 (n+1) _ l b s s.S[j].2 (.buf l (b+5+2*(0+j))) om (hs.full hl _) hg om (hT.full hn) hix hlen (Y7 _ (fun _ _ e=>by cases e;omega))) ?_;refine gw ?_;rw[e];exact Zc (.refl _) (Xp _) rfl
def ZjS(p:List UInt8)(m c:Int)(t:List UInt8):YF tt 116 (.agg [.str p,.int .i64 m,.int .i64 c,.str t])=true:=by
 simp only[YF,AV.cells,klAll,AV.kl];rfl
def a32(n:Nat)(H:Za)(l b:Nat)(s:Sto)(g0:Sg)(c:Int)(v:Tm)(hv:v.Good)(hl:l<n)(hs:ZV H l b s)(hg:Vp s.A)(hn:0<n)(hT:Tabs H)(hix:∀i∈Y8 (⟨g0,c,txt v⟩:Ak) s.R,0≤i∧i<s.A.length)(hlen:(Y8 (⟨g0,c,txt v⟩:Ak) s.R).length≤1000000):
  PC prog n 190 [.ptr l b 0,g0.enc,.int .i64 c,v.enc] H (.sl 2 ((if Zo v=true then ZgE s.A (Y8 (⟨g0,c,txt v⟩:Ak) s.R)else []).map Am.enc) .any):=by
 generalize hgk:(⟨g0,c,txt v⟩:Ak)=g at*;have hne:¬l=n:=om;have hb:=hs.box;have harg:=hs.arg;have hf:XW g.enc.kls ((ents Ak.enc l (b+6) 0 s.R).map fun p=>p.1.kls) 0=ZY g s.R 0:=Zbj Ak.enc Zl9 g l (b+6) s.R 0 0;have hkk:∀p,p∈ents Ak.enc l (b+6) 0 s.R→YF tt 116 p.1=true:=fun p hp=>by
  obtain⟨k,hk⟩:=ZbO _ _ _ _ _ _ hp;rw[hk];exact ZjS _ _ _ _
 have hd:=fun j h=>Jy Ak.enc l (b+6) s.R 0 j h (.dead,.dead)
 generalize ents Ak.enc l (b+6) 0 s.R=es at hf hkk harg hd;have hge:g.enc= .agg [.str g0.p,.int .i64 g0.n,.int .i64 c,.str (txt v)]:=by rw[←hgk];rfl
 rw[hge]at hf;refine aF func190 fun B=>?_
 refine gc ?_;refine cQ (a55 (n+1) _ l b s om (hs.full hl _)) ?_;refine aS ?_;refine cT (a37 v hv) ?_;cases h1:Zo v with
 |false=>
  refine nTq h1 ?_;refine ge ?_;exact Zc (.any _ _ _) (Xp []) rfl
 |true=>
 refine nFq h1 ?_;rw[if_pos rfl];cases hk:ZY g s.R 0 with
 |none=>
  have e:Y8 g s.R=[]:=by rw[Y8,hk]
  rw[e]at hix hlen;rw[hk]at hf;refine nD drawO ?_;simp only[go_sem,simprocAttr,hne,hb,harg,ZT];refine cT (a58 v hv h1) ?_;simp only[go_sem,simprocAttr,hne,hb,harg,ZT,ZjS,lookA,XB,hf];refine⟨hkk,?_⟩;refine Zdw (Zf func162 rfl rfl) (Zi.args (a61 (n+1) _ l b s [] .full om (hs.full hl _) hg om (hT.full hn) hix hlen (Y7 [] (fun _ _ e=>by cases e))) (args':=[.ptr l b 0,.Xl]) ⟨.refl _,.sem fun _ _ h=>h.ZiW,trivial⟩) (by simp only[go_sem,simprocAttr,XP]) ?_;simp only[go_sem,simprocAttr];refine nV ?_;rw[e];exact Zc (.refl _) (Xp _) rfl
 |some j=>
  have hj:=J9 hk;have hj':j<s.R.length:=om;have e:Y8 g s.R=s.R[j].2:=by rw[Y8,hk];simp[Qb hj']
  rw[e]at hix hlen;rw[hk]at hf;have hdj:=hd j hj';refine nD drawO ?_;simp only[go_sem,simprocAttr,hne,hb,harg,ZT];refine cT (a58 v hv h1) ?_;simp only[go_sem,simprocAttr,hne,hb,harg,ZT,ZjS,lookA,XB,hf,hdj];refine⟨hkk,?_⟩;refine cQ (a61 (n+1) _ l b s s.R[j].2 (.buf l (b+6+2*(0+j))) om (hs.full hl _) hg om (hT.full hn) hix hlen (Y7 _ (fun _ _ e=>by cases e;omega))) ?_;simp only[go_sem,simprocAttr];refine nV ?_;rw[e];exact Zc (.refl _) (Xp _) rfl
def YH(H:Za)(l b:Nat):Prop:=∀k,b≤k→H l k=none
def sto0:Sto:=⟨[],[],[],[]⟩
def Zv5(H:Za)(l b:Nat)(hf:YH H l b):(((H.upd l (b+2) (.map [])).upd l (b+3) (.map [])).upd l (b+4) (.map [])).upd l b (.box [.sl 2 [] .full,.map l (b+2),.map l (b+3),.map l (b+4)])=put H l b sto0:=by
 funext l' k;unfold put;by_cases hl:l'=l
 ·subst hl;rw[if_pos rfl,Y9];simp only[Za.upd,sto0,ZT,YC,Ux,ents,true_and,if_true,List.getElem?_nil,QbA];by_cases h1:k=b
  ·subst h1;simp
  ·by_cases h2:k=b+2
   ·subst h2;simp
   ·by_cases h3:k=b+3
    ·subst h3;simp
    ·by_cases h4:k=b+4
     ·subst h4;simp
     ·simp[h1,h2,h3,h4]
 ·rw[if_neg hl];simp[Za.upd,hl]
def ZbV{cx:Cx}{c:Code}{k:List Itm}{Q:Exit→Zb→Prop}{tm:List (Nat×AV)}{L:List (Nat×Ze)}{H:Za}(j l q:Nat)(x:Ze)(tm':List (Nat×AV))(hl:l<cx.n)(hfree:H l q=none)(hj:lkb L j=some x)(hb:x.Below cx.n)
  (h1:Yg (fun p=>Zhf cx.n j (lkv tm p.1)∧Wk (ren cx.n j l q (lkv tm p.1)) p.2) tm') (hL:Yg (fun p=>Yg (fun a=>Zhf cx.n j a) p.2.avs∧p.2.at_=[]∧p.2.isRec=false) (delb L j))
  (h:AKc cx (.code c::k) Q ⟨tm',Zer cx.n j l q L,H.upd l q x⟩):AKc cx (.code c::k) Q ⟨tm,L,H⟩:=
 ZO (ZkC j l q hl hfree hj hb h1.mem (fun p hp=>by
  obtain⟨g1,g2,g3⟩:=hL.mem p hp;exact⟨g1.mem,⟨(fun r hr=>absurd (g2▸hr) (QA)),g3⟩⟩)) h
def a22(n:Nat)(H:Za)(l b:Nat)(hl:l<n)(hf:YH H l b):Zi prog n 36 [] H (fun r H'=>r= .ptr l b 0∧H'=put H l b sto0):=by
 refine aF func36 fun B=>?_
 refine gk ?_;refine ZO (s':=⟨[(0,.ptr n 5 0)],[(1,.map []),(2,.map []),(3,.map []),(5,.box [.sl 2 [] .full,.map n 1,.map n 2,.map n 3])],H⟩) ?_ ?_
 ·exact KK
 have hne:¬l=n:=om;have hsl:∀q,Inside n q (.sl 2 [] .full):=fun q=>ZaM (fun x hx=>by cases hx)
 have hmb:Ze.Below n (.map []):=⟨by simp[Ze.avs],by simp[Ze.at_]⟩
 have hth:∀j,Zhf n j (.sl 2 [] .full):=fun j=>.inl (hsl _)
 have hm:∀j k,k≠j→Zhf n j (.map n k):=fun j k h=>.inl (.map _ _ (.inr ⟨rfl,h⟩))
 have hm':∀j k,Zhf n j (.map l k):=fun j k=>.inl (.map _ _ (.inl hl))
 have hp:∀j k,k≠j→Zhf n j (.ptr n k 0):=fun j k h=>.inl (.ptr _ _ _ (.inr ⟨rfl,h⟩))
 refine ZbV 1 l (b+2) _ [(0,.ptr n 5 0)] hl (hf _ om) rfl hmb ⟨⟨hp _ _ dc,by simp[lkv,ren];exact .refl _⟩,trivial⟩ ⟨⟨trivial,rfl,rfl⟩,⟨trivial,rfl,rfl⟩,⟨⟨hth _,.inr (.inr (.inl rfl)),hm _ _ dc,hm _ _ dc,trivial⟩,rfl,rfl⟩,trivial⟩ ?_;simp only[go_sem,simprocAttr,Zer,delb,Ze.Zcy,ren];refine ZbV 2 l (b+3) _ [(0,.ptr n 5 0)] hl (by simp[Za.upd];exact hf _ om) rfl hmb ⟨⟨hp _ _ dc,by simp[lkv,ren];exact .refl _⟩,trivial⟩ ⟨⟨trivial,rfl,rfl⟩,⟨⟨hth _,hm' _ _,.inr (.inr (.inl rfl)),hm _ _ dc,trivial⟩,rfl,rfl⟩,trivial⟩ ?_;simp only[go_sem,simprocAttr,Zer,delb,Ze.Zcy,ren,hne,false_and,if_false];refine ZbV 3 l (b+4) _ [(0,.ptr n 5 0)] hl (by simp[Za.upd];exact hf _ om) rfl hmb ⟨⟨hp _ _ dc,by simp[lkv,ren];exact .refl _⟩,trivial⟩ ⟨⟨⟨hth _,hm' _ _,hm' _ _,.inr (.inr (.inl rfl)),trivial⟩,rfl,rfl⟩,trivial⟩ ?_;simp only[go_sem,simprocAttr,Zer,delb,Ze.Zcy,ren,hne,false_and,if_false];refine ZbV 5 l b _ [(0,.ptr l b 0)] hl (by simp[Za.upd];exact hf _ om) rfl (Ze.ZC ⟨.sl _ _ _ (fun i h=>absurd h (Qo _)) (fun _ _ e=>by cases e),.map _ _ hl,.map _ _ hl,.map _ _ hl,trivial⟩) ⟨⟨.inr (.inl ⟨0,rfl⟩),by simp[lkv,ren];exact .refl _⟩,trivial⟩ trivial ?_;simp only[go_sem,simprocAttr,Zer,delb,Ze.Zcy,ren,hne,false_and,if_false];refine nV ?_;exact⟨by simp[X8],[.ptr l b 0],⟨.refl _,trivial⟩,by simp only[Qm,forall_eq];exact .ptr _ _ _ hl,rfl,Zv5 H l b hf⟩
section
variable {κ:Type} [DecidableEq κ]
def Wl(k:κ)(x:Int)(es:List (κ×List Int)):List (κ×List Int):=match ZY k es 0 with
 |some j=>es.set j (k,Y8 k es++[x])
 |none=>es++[(k,[x])]
theorem Zd7(enc:κ→AV)(l b:Nat):∀(es:List (κ×List Int)) (i:Nat),(ents enc l b i es).length=es.length
 |[],_=>rfl
 |p::r,i=>by simp only[ents,Qq,Zd7 enc l b r]
def Ze2(enc:κ→AV)(l b:Nat)(p:κ×List Int):∀(es:List (κ×List Int)) (i:Nat),ents enc l b i (es++[p])=ents enc l b i es++[(enc p.1,.sl 1 (intsOf p.2) (.buf l (b+2*(i+es.length))))]
 |[],i=>by simp[ents]
 |q::r,i=>by
  simp only[Q8,ents,Ze2 enc l b p r (i+1),Qq];rw[show i+1+r.length=i+(r.length+1) by omega]
theorem ZdQ(enc:κ→AV)(l b:Nat)(p:κ×List Int):∀(es:List (κ×List Int)) (i j:Nat),ents enc l b i (es.set j p)=(ents enc l b i es).set j (enc p.1,.sl 1 (intsOf p.2) (.buf l (b+2*(i+j))))
 |[],i,j=>rfl
 |q::r,i,0=>by simp[ents]
 |q::r,i,j+1=>by
  simp only[U4,ents,ZdQ enc l b p r (i+1) j];rw[show i+1+j=i+(j+1) by omega]
def Zlf{k:κ}{β:Type}:∀{es:List (κ×β)} {i j:Nat},ZY k es i=some j→ ∃h:j - i<es.length,(es[j - i]).1=k
 |[],_,_,h=>by cases h
 |p::r,i,j,h=>by
  simp only[ZY]at h;split at h
  ·rename_i e;cases h;exact⟨sm,by simpa using e⟩
  ·obtain⟨h1,h2⟩:=Zlf h;have h3:=(J9 h).1;have e:j - i=(j - (i+1))+1:=om;refine⟨by rw[e];simp only[Qq];omega,?_⟩;simp only[e,UU];exact h2
def Zcc{k:κ}{es:List (κ×List Int)}{j:Nat}(h:ZY k es 0=some j):∃hj:j<es.length,es[j]=(k,Y8 k es):=by
 obtain⟨h1,h2⟩:=Zlf h;refine⟨h1,?_⟩;have:Y8 k es=es[j].2:=by
  unfold Y8;rw[h];simp[Qb (show j<es.length from h1)]
 rw[this];exact Qbc h2 rfl
def Bd(es:List (κ×List Int))(m:Nat):Prop:=∀p∈es,p.2.length≤m
def Bd.ix{k:κ}{es:List (κ×List Int)}{m:Nat}(h:Bd es m):(Y8 k es).length≤m:=by
 unfold Y8;cases hk:ZY k es 0 with
 |none=>simp
 |some j=>
  have hj:=J9 hk;have:j<es.length:=om;simp only[Qb this,Us,Um];exact h _ (Qa this)
def Bd.add{k:κ}{x:Int}{es:List (κ×List Int)}{m:Nat}(h:Bd es m):Bd (Wl k x es) (m+1):=by
 intro p hp;unfold Wl at hp;split at hp
 ·rcases Qax hp with hp|rfl
  ·exact Qbl (h p hp)
  ·have:=h.ix (k:=k);simp;exact this
 ·rcases Qk.1 hp with hp|hp
  ·exact Qbl (h p hp)
  ·simp only[Qm]at hp;subst hp;simp
def JO{n l b:Nat}(enc:κ→AV)(hl:l<n)(he:∀k,Below n (enc k)):∀(es:List (κ×List Int)) (i:Nat),∀p∈ents enc l b i es,Below n p.1∧Below n p.2
 |[],_,p,h=>by cases h
 |q::r,i,p,h=>by
  simp only[ents,Ql]at h;rcases h with rfl|h
  ·exact⟨he _,Y7 _ (fun _ _ e=>by cases e;exact hl)⟩
  ·exact JO enc hl he r (i+1) p h
end
section
variable {n:Nat}
def Xt{es:List (AV×AV)}(h:∀p∈es,Below n p.1∧Below n p.2):Ze.Below n (.map es):=by
 refine⟨fun a ha=>?_,by simp[Ze.at_]⟩;rcases Qk.1 ha with ha|ha<;>obtain⟨p,hp,rfl⟩:=Qi.1 ha
 ·exact(h p hp).1
 ·exact(h p hp).2
def Wy(n e sz fr:Nat):Ze.Below n (.buf e sz fr):=⟨by simp[Ze.avs],by simp[Ze.at_]⟩
def Ak.blw(n:Nat)(k:Ak):Below n k.enc:=Xf (by simp only[Ql,QA,or_false,forall_eq_or_imp,forall_eq];exact⟨.str _,.int _ _,.int _ _,.str _⟩)
def Zij(N:List (List UInt8×Int)):∀p∈N.map Zc8,Below n p.1∧Below n p.2:=fun p hp=>by
 obtain⟨q,_,rfl⟩:=Qi.1 hp;exact⟨.str _,.int _ _⟩
def Zgi{l b:Nat}(hl:l<n)(A:List Am):Ze.Below n (.box (ZT l b A)):=by
 refine Ze.ZC ⟨?_,.map _ _ hl,.map _ _ hl,.map _ _ hl,trivial⟩;unfold YC;split
 ·exact .sl _ _ _ (fun i h=>absurd h (Qo _)) (fun _ _ e=>by cases e)
 ·exact YN (mB fun u=>u.blw n) (fun _ _ e=>by cases e;exact hl)
section
variable {H:Za} {l b:Nat} {s:Sto}
def ZdC(hf:YH H l b){k:Nat}(hk:b≤k):put H l b s l k=lkb (lst l b s) k:=by
 unfold put;rw[if_pos rfl,hf k hk,Option.or_none]
def Zr2(hf:YH H l b)(N:List (List UInt8×Int)):(put H l b s).upd l (b+2) (.map (N.map Zc8))=put H l b ⟨s.A,N,s.S,s.R⟩:=by
 funext l' k;unfold Za.upd put;by_cases hl:l'=l
 ·subst hl;simp only[true_and,if_true,Y9];by_cases h:k=b+2
  ·subst h;simp[Zc8]
  ·simp[h]
 ·simp[hl]
theorem Za2(H:Za)(l b:Nat)(s:Sto)(l' k:Nat):put H l b s l' k=if l'=l then(lkb (lst l b s) k).or (H l' k)else H l' k:=rfl
def ZjF(hf:YH H l b)(p:Sg×List Int)(m:Ze):
  (((put H l b s).upd l (b+3) m).upd l (b+5+2*s.S.length) (.buf 3 1 p.2.length)).upd l (b+3) (.map (ents Sg.enc l (b+5) 0 (s.S++[p])))=put H l b ⟨s.A,s.N,s.S++[p],s.R⟩:=by
 funext l' k;simp only[Za.upd,Za2];by_cases hl:l'=l
 ·subst hl;simp only[true_and,if_true,Y9];by_cases h:k=b+3
  ·subst h;simp
  ·simp only[h,if_false];by_cases h2:k=b+5+2*s.S.length
   ·subst h2;rw[if_pos rfl,if_neg om,if_neg om,if_neg om,if_neg om,if_pos om];have:(b+5+2*s.S.length - (b+5)) / 2=s.S.length:=om;rw[this];simp
   ·rw[if_neg h2];by_cases h3:b+5≤k∧(k - (b+5)) % 2=0
    ·rw[if_pos h3,if_pos h3];have:(k - (b+5)) / 2≠s.S.length:=om;have e:(s.S++[p])[(k - (b+5)) / 2]? =s.S[(k - (b+5)) / 2]?:=by
      rcases Qe ((k - (b+5)) / 2) s.S.length with h4|h4
      ·rw[UE h4]
      ·rw[Uu (by simp;omega),Uu h4]
     rw[e]
    ·rw[if_neg h3,if_neg h3]
 ·simp[hl]
def ZjR(hf:YH H l b)(p:Sg×List Int)(j:Nat)(hj:j<s.S.length)(m:Ze):
  (((put H l b s).upd l (b+3) m).upd l (b+5+2*j) (.buf 3 1 p.2.length)).upd l (b+3) (.map (ents Sg.enc l (b+5) 0 (s.S.set j p)))=put H l b ⟨s.A,s.N,s.S.set j p,s.R⟩:=by
 funext l' k;simp only[Za.upd,Za2];by_cases hl:l'=l
 ·subst hl;simp only[true_and,if_true,Y9];by_cases h:k=b+3
  ·subst h;simp
  ·simp only[h,if_false];by_cases h2:k=b+5+2*j
   ·subst h2;rw[if_pos rfl,if_neg om,if_neg om,if_neg om,if_neg om,if_pos om];have:(b+5+2*j - (b+5)) / 2=j:=om;rw[this];simp[hj]
   ·rw[if_neg h2];by_cases h3:b+5≤k∧(k - (b+5)) % 2=0
    ·rw[if_pos h3,if_pos h3];rw[QaU om]
    ·rw[if_neg h3,if_neg h3]
 ·simp[hl]
def Zki(hf:YH H l b)(p:Ak×List Int)(m:Ze):
  (((put H l b s).upd l (b+4) m).upd l (b+6+2*s.R.length) (.buf 3 1 p.2.length)).upd l (b+4) (.map (ents Ak.enc l (b+6) 0 (s.R++[p])))=put H l b ⟨s.A,s.N,s.S,s.R++[p]⟩:=by
 funext l' k;simp only[Za.upd,Za2];by_cases hl:l'=l
 ·subst hl;simp only[true_and,if_true,Y9];by_cases h:k=b+4
  ·subst h;simp
  ·simp only[h,if_false];by_cases h2:k=b+6+2*s.R.length
   ·subst h2;rw[if_pos rfl,if_neg om,if_neg om,if_neg om,if_neg om,if_neg om,if_pos om];have:(b+6+2*s.R.length - (b+6)) / 2=s.R.length:=om;rw[this];simp
   ·rw[if_neg h2];by_cases h3:b+6≤k∧(k - (b+6)) % 2=0
    ·rw[if_pos h3,if_pos h3];have:(k - (b+6)) / 2≠s.R.length:=om;have e:(s.R++[p])[(k - (b+6)) / 2]? =s.R[(k - (b+6)) / 2]?:=by
      rcases Qe ((k - (b+6)) / 2) s.R.length with h4|h4
      ·rw[UE h4]
      ·rw[Uu (by simp;omega),Uu h4]
     rw[e]
    ·rw[if_neg h3,if_neg h3]
 ·simp[hl]
def ZkY(hf:YH H l b)(p:Ak×List Int)(j:Nat)(hj:j<s.R.length)(m:Ze):
  (((put H l b s).upd l (b+4) m).upd l (b+6+2*j) (.buf 3 1 p.2.length)).upd l (b+4) (.map (ents Ak.enc l (b+6) 0 (s.R.set j p)))=put H l b ⟨s.A,s.N,s.S,s.R.set j p⟩:=by
 funext l' k;simp only[Za.upd,Za2];by_cases hl:l'=l
 ·subst hl;simp only[true_and,if_true,Y9];by_cases h:k=b+4
  ·subst h;simp
  ·simp only[h,if_false];by_cases h2:k=b+6+2*j
   ·subst h2;rw[if_pos rfl,if_neg om,if_neg om,if_neg om,if_neg om,if_neg om,if_pos om];have:(b+6+2*j - (b+6)) / 2=j:=om;rw[this];simp[hj]
   ·rw[if_neg h2];by_cases h3:b+6≤k∧(k - (b+6)) % 2=0
    ·rw[if_pos h3,if_pos h3];rw[QaU om]
    ·rw[if_neg h3,if_neg h3]
 ·simp[hl]
def ZoK(hf:YH H l b)(a:Am):
  ((put H l b s).upd l (b+1) (.buf 52 2 (s.A.length+1))).upd l b (.box (ZT l b (s.A++[a])))=put H l b ⟨s.A++[a],s.N,s.S,s.R⟩:=by
 funext l' k;simp only[Za.upd,Za2];by_cases hl:l'=l
 ·subst hl;simp only[true_and,if_true,Y9];by_cases h:k=b
  ·subst h;simp
  ·simp only[h,if_false];by_cases h2:k=b+1
   ·subst h2;rw[if_pos rfl,if_neg om,if_neg om,if_neg om,if_pos rfl,if_neg sm];simp
   ·simp only[if_neg h2]
 ·simp[hl]
end
end
def WA(a:Am):List Ak:=a.args.zipIdx.map fun p=>⟨a.sg,p.2,txt p.1⟩
def Zbz(s:Sto)(a:Am):Sto:=⟨s.A++[a],s.N++[(JI a,(s.A.length:Int))],Wl a.sg s.A.length s.S,(WA a).foldl (fun R k=>Wl k (s.A.length:Int) R) s.R⟩
def Vb(s:Sto)(a:Am):Sto×Bool×Int:=
 if Yh a=false then(s,false,2)else if(ZY (JI a) s.N 0).isSome=true then(s,false,0)else if s.A.length=2000 then(s,false,5)else(Zbz s a,true,0)
structure Fit (s:Sto):Prop where
 A:s.A.length≤2000
 S:Bd s.S 100000
 R:Bd s.R 100000
 g:Vp s.A
section
variable {κ:Type}
def Zgl [DecidableEq κ](enc:κ→AV)(hi:∀a b,(enc a).kls=(enc b).kls→a=b)(k:κ)(l b:Nat)(es:List (κ×List Int)):XB (enc k) (ents enc l b 0 es)=ZY k es 0:=Zbj enc hi k l b es 0 0
theorem Zmq{β:Type} [DecidableEq κ]{k:κ}{es:List (κ×β)}(h:(ZY k es 0).isSome=false):ZY k es 0=none:=by
 cases hk:ZY k es 0 with
 |none=>rfl
 |some j=>rw[hk]at h;cases h
def op9:Opt:=⟨true,true,fun _=>.auto,[7]⟩
def op15:Opt:=⟨true,true,fun d=>if d=68 then .heap else .auto,[10]⟩
def opS(l q:Nat)(nw:Bool):Opt:=⟨true,false,fun d=>if d=55 then(if nw then .place l q false else .heap)else .auto,[]⟩
def opR(l q:Nat)(nw:Bool):Opt:=⟨true,false,fun d=>if d=79 then(if nw then .place l q false else .heap)else .auto,[]⟩
def opA(l q:Nat)(nw:Bool):Opt:=⟨true,false,fun d=>if d=91 then(if nw then .place l q false else .heap)else .auto,[]⟩
def Rat(s:Sto)(a:Am)(i:Nat):List (Ak×List Int):=((WA a).take i).foldl (fun R k=>Wl k (s.A.length:Int) R) s.R
def ZuS(n l b:Nat)(s:Sto)(a:Am)(H:Za)(i:Nat):Zb:=
 ⟨[(60,.int .i64 i),(58,.sl 4 (a.args.map Tm.enc) .any),(59,.int .i64 a.args.length),(0,.ptr l b 0),(3,.ptr n 3 0),(6,.int .i64 s.A.length),(7,.ptr n 7 0)],[(3,.box a.cs),(7,.box a.sg.cs)],
  put H l b ⟨s.A,s.N,s.S,Rat s a i⟩⟩
variable {l b:Nat} {H:Za}
def Zpn{s:Sto}{k:Nat}(h:k<b):put H l b s l k=H l k:=by
 rw[Za2,if_pos rfl,Y9,if_neg om,if_neg om,if_neg om,if_neg om,if_neg om,if_neg om,if_neg om];rfl
def ZeE{s:Sto}{l' k:Nat}(h:l'≠l):put H l b s l' k=H l' k:=by
 rw[Za2,if_neg h]
def Tabs.put{H:Za}{l b:Nat}(hT:Tabs H)(hf:YH H l b)(s:Sto):Tabs (Go.Abs.put H l b s):=by
 have key:∀k x,H 0 k=some x→Go.Abs.put H l b s 0 k=H 0 k:=fun k x hx=>by
  by_cases h:0=l
  ·subst h;refine Zpn ?_;rcases Qe k b with h1|h1
   ·exact h1
   ·rw[hf k h1]at hx;cases hx
  ·exact ZeE h
 obtain⟨m,t,t',h1,h2⟩:=hT;exact⟨m,t,t',by rw[key _ _ h1];exact h1,by rw[key _ _ h2];exact h2⟩
variable {j:Nat}
def Zng [DecidableEq κ](enc:κ→AV)(hi:∀a b,(enc a).kls=(enc b).kls→a=b)(k:κ)(l b:Nat)(es:List (κ×List Int))(re:Zu)(h:ZY k es 0=some j):
  Zfs re (enc k) (ents enc l b 0 es)=(.tup [.sl 1 (intsOf (Y8 k es)) (.buf l (b+2*j)),.int .i64 j],ents enc l b 0 es):=by
 obtain⟨hj,he⟩:=Zcc h;have h1:=Jy enc l b es 0 j hj (.dead,.dead);rw[he,QK]at h1;unfold Zfs;rw[Zgl enc hi,h];simp only[h1];refine Qbc rfl ?_;have h2:=ZdQ enc l b es[j] es 0 j;rw[QbE,he,QK]at h2;exact h2.symm
def ZnN [DecidableEq κ](enc:κ→AV)(hi:∀a b,(enc a).kls=(enc b).kls→a=b)(k:κ)(l b:Nat)(es:List (κ×List Int))(re:Zu)(h:ZY k es 0=none):
  Zfs re (enc k) (ents enc l b 0 es)=(.tup [XP re,.int .i64 es.length],ents enc l b 0 es++[(enc k,XP re)]):=by
 unfold Zfs;rw[Zgl enc hi,h,Zd7]
def ZhE{α:Type}(es:List α)(m:Nat)(h:es.length=m)(x d:α):(es++[x]).getD m d=x:=by
 subst h;rw[Qn];simp
def Zk2{α:Type}(es:List α)(m:Nat)(h:es.length=m)(x q:α):(es++[x]).set m q=es++[q]:=by
 subst h;simp
def Zig [DecidableEq κ](enc:κ→AV)(l b:Nat)(es:List (κ×List Int))(k:κ)(x:Int):ents enc l b 0 es++[(enc k,.sl 1 [.int .i64 x] (.buf l (b+2*es.length)))]=ents enc l b 0 (es++[(k,[x])]):=by
 rw[Ze2,QK];rfl
def Q23(n:Nat)(H':Za):Exit→Zb→Prop:=PostF prog tt n Tryz.f20.results.toList fun r G=>r=AV.tup [AV.bool true,eInt 0]∧G=H'
def Zqh(s:Sto)(hf:YH H l b)(X:Ze):((put H l b s).upd l (b+3) X) l (b+5+2*s.S.length)=none:=by
 rw[Za.upd_ne _ _ om,ZdC hf om,Y9,if_neg om,if_neg om,if_neg om,if_neg om,if_neg om,if_pos om];have:(b+5+2*s.S.length - (b+5)) / 2=s.S.length:=om;rw[this];simp
def ZpN(s:Sto)(hf:YH H l b)(X:Ze):((put H l b s).upd l (b+4) X) l (b+6+2*s.R.length)=none:=by
 rw[Za.upd_ne _ _ om,ZdC hf om,Y9,if_neg om,if_neg om,if_neg om,if_neg om,if_neg om,if_neg om,if_pos om];have:(b+6+2*s.R.length - (b+6)) / 2=s.R.length:=om;rw[this];simp
def Zrd(s:Sto)(hj:j<s.S.length)(X:Ze):((put H l b s).upd l (b+3) X) l (b+5+2*j)=some (.buf 3 1 s.S[j].2.length):=by
 rw[Za.upd_ne _ _ om];refine ZV.put H l b s _ _ ?_;rw[Y9,if_neg om,if_neg om,if_neg om,if_neg om,if_neg om,if_pos om];have:(b+5+2*j - (b+5)) / 2=j:=om;rw[this,Qb hj];rfl
def Zra(s:Sto)(hj:j<s.R.length)(X:Ze):((put H l b s).upd l (b+4) X) l (b+6+2*j)=some (.buf 3 1 s.R[j].2.length):=by
 rw[Za.upd_ne _ _ om];refine ZV.put H l b s _ _ ?_;rw[Y9,if_neg om,if_neg om,if_neg om,if_neg om,if_neg om,if_neg om,if_pos om];have:(b+6+2*j - (b+6)) / 2=j:=om;rw[this,Qb hj];rfl
def ZcQ(p:List Int)(x:Int):intsOf p++[.int .i64 x]=intsOf (p++[x]):=by simp[intsOf]
def ZfZ(p:List Int):(intsOf p).length=p.length:=by simp[intsOf]
def ZvH(n:Nat)(H:Za)(l b:Nat)(s:Sto)(a:Am)(hl:l<n)(hf:YH H l b)(hA2:s.A.length≤2000)(ha:a.Good)(hn:0<n)(hT0:Tabs H)(B:Base)(tm:List (Nat×AV))(h0:lkv tm 0= .ptr l b 0)(h3:lkv tm 3= .ptr n 3 0)(L:List (Nat×Ze))(hL:lkb L 3=some (.box a.cs)):
  AKc ⟨prog,tt,⟨none,B⟩,n,Tryz.f20.ntmps⟩ [.code (ZW Tryz.f20).snd.snd.snd.snd.snd.snd] (Q23 n (put H l b ⟨s.A++[a],s.N,s.S,s.R⟩)) ⟨tm,L,put H l b s⟩:=by
 have hne:¬l=n:=om;have hst:=ZV.put H l b s;have hb:=hst.box;have hT:=hT0.put hf s;have hab:=ZoK (s:=s) hf a;unfold Q23;by_cases hA:s.A=[]
 ·have hq:put H l b s l (b+1)=none:=by rw[ZdC hf om,Y9,if_neg om,if_neg om,if_neg om,if_neg om,if_pos rfl,if_pos hA]
  have hq':∀Y,((put H l b s).upd l (b+1) Y) l b=(put H l b s) l b:=fun Y=>Za.upd_ne _ _ om
  generalize put H l b s=G at*;refine kK ?_;refine Zas tok mixed (opA l (b+1) true) rfl rfl (by kernel_rfl) (by kernel_rfl) ?_;simp only[go_sem,simprocAttr,opA,UL,Nat.reduceBEq,UD,MB,Nat.reduceEqDiff,hne,hb,h0,h3,hL,ZT,YC,hA];refine cT (a59 a ha) ?_;simp only[go_sem,simprocAttr,opA,UL,Nat.reduceBEq,UD,MB,Nat.reduceEqDiff,hne,hb,h0,h3,hL,ZT,YC,hA,hq,hq'];refine⟨dc,⟨om,Zl om⟩,.inr (Wy _ _ _ _),.inr ?_,?_⟩
  ·refine Ze.ZC ⟨YN (fun x hx=>?_) (fun _ _ e=>by cases e;exact hl),.map _ _ hl,.map _ _ hl,.map _ _ hl,trivial⟩;simp only[Qm]at hx;subst hx;exact a.blw n
  have hab':(G.upd l (b+1) (.buf 52 2 1)).upd l b (.box [.sl 2 [a.enc] (.buf l (b+1)),.map l (b+2),.map l (b+3),.map l (b+4)])=put H l b ⟨s.A++[a],s.N,s.S,s.R⟩:=by
   rw[←hab,hA];rfl
  rw[hab',hA];refine ge ?_;exact ZG (.refl _) (.refl _) (.bool _) (.int _ _) rfl
 ·have hq:put H l b s l (b+1)=some (.buf 52 2 s.A.length):=ZV.put H l b s _ _ (by rw[Y9,if_neg om,if_neg om,if_neg om,if_neg om,if_pos rfl,if_neg hA]);have hq':∀Y,((put H l b s).upd l (b+1) Y) l b=(put H l b s) l b:=fun Y=>Za.upd_ne _ _ om
  generalize put H l b s=G at*;refine kK ?_;refine Zas tok mixed (opA l (b+1) false) rfl rfl (by kernel_rfl) (by kernel_rfl) ?_;simp only[go_sem,simprocAttr,opA,UL,Nat.reduceBEq,UD,MB,Nat.reduceEqDiff,hne,hb,h0,h3,hL,ZT,YC,hA];refine cT (a59 a ha) ?_;simp only[go_sem,simprocAttr,opA,UL,Nat.reduceBEq,UD,MB,Nat.reduceEqDiff,hne,hb,h0,h3,hL,ZT,YC,hA,hq,hq'];refine⟨dc,⟨Zl om,om⟩,.inr (Wy _ _ _ _),.inr ?_,?_⟩
  ·refine Ze.ZC ⟨YN (fun x hx=>?_) (fun _ _ e=>by cases e;exact hl),.map _ _ hl,.map _ _ hl,.map _ _ hl,trivial⟩;rcases Qk.1 hx with hx|hx
   ·obtain⟨u,_,rfl⟩:=Qi.1 hx;exact u.blw n
   ·simp only[Qm]at hx;subst hx;exact a.blw n
  have hab':(G.upd l (b+1) (.buf 52 2 (s.A.length+1))).upd l b (.box [.sl 2 (s.A.map Am.enc++[a.enc]) (.buf l (b+1)),.map l (b+2),.map l (b+3),.map l (b+4)])=put H l b ⟨s.A++[a],s.N,s.S,s.R⟩:=by
   rw[←hab];simp[ZT,YC]
  rw[hab'];refine ge ?_;exact ZG (.refl _) (.refl _) (.bool _) (.int _ _) rfl
def ZgL{a:Am}{t:Tm}(h:Yh a=true)(ht:t∈a.args):Zo t=true:=by
 simp only[Yh,Qd,Qy]at h;exact h.2 t ht
def Zml{a:Am}(h:Yh a=true):a.args.length≤8:=by
 simp only[Yh,Qd,decide_eq_true_eq]at h;omega
def ZlY{s:Sto}{a:Am}{m:Nat}(h:Bd s.R m):∀i,Bd (Rat s a i) (m+i)
 |0=>by rw[Rat,QaN,QbK];exact h
 |i+1=>by
  rcases Qe i (WA a).length with hi|hi
  ·rw[Rat,ZfV _ _ _ _ hi];exact(ZlY h i).add
  ·have:=ZlY (a:=a) h i;rw[Rat,Q9 om];rw[Rat,Q9 hi]at this;exact fun p hp=>Qbl (this p hp)
def Zaf(a:Am):(WA a).length=a.args.length:=by simp[WA]
def ZmD(a:Am)(i:Nat)(h:i<a.args.length):(WA a)[i]'(by rw[Zaf];exact h)=⟨a.sg,i,txt a.args[i]⟩:=by simp[WA]
def Zo8(p:List UInt8)(m c:Int)(t:List UInt8):YF tt 116 (.agg [.str p,.int .i64 m,.int .i64 c,.str t])=true:=ZjS p m c t
def ZvT(n:Nat)(H:Za)(l b:Nat)(s:Sto)(a:Am)(hl:l<n)(hf:YH H l b)(hA2:s.A.length≤2000)(hR:Bd s.R 100000)(ha:a.Good)(hva:Yh a=true)(hn:0<n)(hT0:Tabs H)(B:Base):
  AKc ⟨prog,tt,⟨none,B⟩,n,Tryz.f20.ntmps⟩ [.code (ZW Tryz.f20).snd.snd.snd.snd.snd] (Q23 n (put H l b ⟨s.A++[a],s.N,s.S,Rat s a a.args.length⟩))
   ⟨[(0,.ptr l b 0),(3,.ptr n 3 0),(6,.int .i64 s.A.length),(7,.ptr n 7 0)],[(3,.box a.cs),(7,.box a.sg.cs)],put H l b s⟩:=by
 have hne:¬l=n:=om;have hlen:=ha.len;obtain⟨Q,hQ⟩:∃Q,Q=Q23 n (put H l b ⟨s.A++[a],s.N,s.S,Rat s a a.args.length⟩):=⟨_,rfl⟩
 rw[←hQ];have hR0:s=⟨s.A,s.N,s.S,Rat s a 0⟩:=rfl;refine Zca rfl ?_;refine WM (ZuS n l b s a H a.args.length) ?_ ?_
 ·refine gh ?_;refine Zm (ZuS n l b s a H) a.args.length rfl ?_ ?_
  ·exact KK
  intro i hi;refine ZQ rfl ?_;rcases Qe i a.args.length with h|h
  ·refine nq h ?_;refine nT ?_;refine nq2 (Tm.Zh _ _ h) h ?_;refine kK ?_;have hst:=ZV.put H l b ⟨s.A,s.N,s.S,Rat s a i⟩;have hb:=hst.box;have harg:=hst.arg;have hT:=hT0.put hf ⟨s.A,s.N,s.S,Rat s a i⟩;have hRi:=ZlY (a:=a) hR i;simp only at harg;have hva':Zo a.args[i]=true:=ZgL hva (Qa h);have hrat:Rat s a (i+1)=Wl ⟨a.sg,i,txt a.args[i]⟩ s.A.length (Rat s a i):=by
    rw[Rat,ZfV _ _ _ _ (by rw[Zaf];exact h),ZmD a i h];rfl
   refine Zas tok mixed op15 rfl rfl (by kernel_rfl) (by kernel_rfl) ?_;simp only[go_sem,simprocAttr,op15,UL,Nat.reduceBEq,UD,MB,Nat.reduceEqDiff,hne];refine ZbJ (Zf func68 rfl rfl) (fun G hG=>a58 _ (ha.arg (Qa h)) hva' _ _ (QO _) (hT.up (fun k=>?_))) sS ?_
   ·rw[hG 0 k (fun e=>absurd e (Qak hn))];exact Zk hn _ _ _
   simp only[go_sem,simprocAttr,op15,UL,Nat.reduceBEq,UD,MB,Nat.reduceEqDiff,hne];have hbox2:∃c0,ZT l b s.A=[c0,.map l (b+2),.map l (b+3),.map l (b+4)]:=⟨_,rfl⟩
   obtain⟨c0,hbc⟩:=hbox2;simp only[hbc]at hb;obtain⟨k,hkk0⟩:∃k:Ak,k=⟨a.sg,i,txt a.args[i]⟩:=⟨_,rfl⟩
   have hke:k.enc= .agg [.str a.sg.p,.int .i64 a.sg.n,.int .i64 i,.str (txt a.args[i])]:=by rw[hkk0];rfl
   rw[←hkk0]at hrat;generalize hRR:Rat s a i=R at*;have hkk:∀p,p∈ents Ak.enc l (b+6) 0 R→YF tt 116 p.1=true:=fun p hp=>by
    obtain⟨k,hk⟩:=ZbO _ _ _ _ _ _ hp;rw[hk];exact ZjS _ _ _ _
   have hbe:=JO (b:=b+6) Ak.enc hl (Ak.blw n) R 0;have hel:=Zd7 Ak.enc l (b+6) R 0;have hq3:∀G:Za,∀X,(G.upd l (b+4) X) l (b+4)=some X:=fun G X=>Za.upd_same _ _ _ _
   have hq':∀(G:Za) (X Y) (j:Nat),((G.upd l (b+4) X).upd l (b+6+2*j) Y) l (b+4)=some X:=fun G X Y j=>by
    rw[Za.upd_ne _ _ om,Za.upd_same]
   cases hk:ZY k R 0 with
   |none=>
    have hent:=fun re=>ZnN Ak.enc Zl9 k l (b+6) R re hk
    have hsn:=Zig Ak.enc l (b+6) R k s.A.length;have hfr:=fun X=>ZpN ⟨s.A,s.N,s.S,R⟩ hf (l:=l) X
    have hnew:=Zki (s:=⟨s.A,s.N,s.S,R⟩) hf (k,[(s.A.length:Int)]);have hadd:Wl k (s.A.length:Int) R=R++[(k,[(s.A.length:Int)])]:=by rw[Wl,hk]
    have hgl:=fun x d=>ZhE (α:=AV×AV) _ _ hel x d
    have hsl:=fun x q=>Zk2 (α:=AV×AV) _ _ hel x q
    have hbk:=Ak.blw n k;simp only[hke]at hent hsn hbk;simp only at hfr hnew;generalize ents Ak.enc l (b+6) 0 R=es at*;generalize put H l b ⟨s.A,s.N,s.S,R⟩=G at*;refine kK ?_;refine Zas tok mixed (opR l (b+6+2*R.length) true) rfl rfl (by kernel_rfl) (by kernel_rfl) ?_;simp only[go_sem,simprocAttr,opR,UL,Nat.reduceBEq,UD,MB,Nat.reduceEqDiff,hne,hb,harg,hent,hfr,hq',hq3,XP,hel,Zo8,hgl,hsl];refine⟨dc,fun p hp=>hkk p hp,.inr (Xt fun p hp=>?_),⟨om,Zl om⟩,.inr (Wy _ _ _ _),by simp[hel],.inr (Xt fun p hp=>?_),?_⟩
    ·rcases Qk.1 hp with hp|hp
     ·exact hbe p hp
     ·simp only[Qm]at hp;subst hp;exact⟨hbk,.sl _ _ _ (fun i h=>absurd h (Qo _)) (fun _ _ e=>by cases e)⟩
    ·rcases Qk.1 hp with hp|hp
     ·exact hbe p hp
     ·simp only[Qm]at hp;subst hp;exact⟨hbk,Y7 [(s.A.length:Int)] (fun _ _ e=>by cases e;exact hl)⟩
    rw[hsn];have hnew':=hnew (.map (es++[(AV.agg [AV.str a.sg.p,AV.int .i64 a.sg.n,AV.int .i64 i,AV.str (txt a.args[i])],AV.sl 1 [] .full)]));simp only[Qq,QB,QK]at hnew';rw[hnew',←hadd,←hrat];refine gd ?_;apply kZ;repeat' first|apply q0|exact xx|apply aI
    all_goals first|exact Inside.ptr _ _ _ (.inl hl)|skip
    refine aS ?_;rw[iw];exact .refl _
   |some j=>
    obtain⟨hj,hje⟩:=Zcc hk;have hent:=fun re=>Zng Ak.enc Zl9 k l (b+6) R re hk
    have hgd:=Jy Ak.enc l (b+6) R 0 j hj (.dead,.dead);have hold:=fun X=>Zra (l:=l) (b:=b) (H:=H) ⟨s.A,s.N,s.S,R⟩ (j:=j) hj X
    have hixb:=hRi.ix (k:=k);have hadd:Wl k (s.A.length:Int) R=R.set j (k,Y8 k R++[(s.A.length:Int)]):=by rw[Wl,hk]
    have hset:=ZdQ Ak.enc l (b+6) (k,Y8 k R++[(s.A.length:Int)]) R 0 j;have hnew:=ZkY (s:=⟨s.A,s.N,s.S,R⟩) hf (k,Y8 k R++[(s.A.length:Int)]) j hj;simp only[hje,QK]at hold hgd hset;have hbk:=Ak.blw n k;simp only[hke]at hent hgd hset hbk;simp only[Qh,Qq,QB,QK]at hnew;have hsetb:∀p∈(ents Ak.enc l (b+6) 0 R).set j (AV.agg [AV.str a.sg.p,AV.int .i64 a.sg.n,AV.int .i64 i,AV.str (txt a.args[i])],.sl 1 (intsOf (Y8 k R++[(s.A.length:Int)])) (.buf l (b+6+2*j))),Below n p.1∧Below n p.2:=fun p hp=>by
     rcases Qax hp with hp|rfl
     ·exact hbe p hp
     ·exact⟨hbk,Y7 _ (fun _ _ e=>by cases e;exact hl)⟩
    generalize Y8 k R=ix at*;generalize ents Ak.enc l (b+6) 0 R=es at*;generalize put H l b ⟨s.A,s.N,s.S,R⟩=G at*;refine kK ?_;refine Zas tok mixed (opR 0 0 false) rfl rfl (by kernel_rfl) (by kernel_rfl) ?_;simp only[go_sem,simprocAttr,opR,UL,Nat.reduceBEq,UD,MB,Nat.reduceEqDiff,hne,hb,harg,hent,hold,hq',hq3,XP,hel,Zo8,hgd,ZfZ,ZcQ];refine⟨dc,fun p hp=>hkk p hp,.inr (Xt hbe),⟨Zl om,om⟩,.inr (Wy _ _ _ _),om,.inr (Xt hsetb),?_⟩;rw[←hset,hnew,←hadd,←hrat];refine gd ?_;apply kZ;repeat' first|apply q0|exact xx|apply aI
    all_goals first|exact Inside.ptr _ _ _ (.inl hl)|skip
    refine aS ?_;rw[iw];exact .refl _
  ·refine nq (QD.2 h) ?_;refine gJ ?_;refine⟨rfl,?_⟩;have hi':i=a.args.length:=om;subst hi';exact KK
 ·rw[hQ];exact ZvH n H l b ⟨s.A,s.N,s.S,Rat s a a.args.length⟩ a hl hf hA2 ha hn hT0 B _ rfl rfl _ rfl
def a23(n:Nat)(H:Za)(l b:Nat)(s:Sto)(a:Am)(hl:l<n)(hf:YH H l b)(hs:Fit s)(ha:a.Good)(hn:0<n)(hT:Tabs H):
  Zi prog n 20 [.ptr l b 0,a.enc] (put H l b s) (fun r H'=>r= .tup [.bool (Vb s a).2.1,eInt (Vb s a).2.2]∧H'=put H l b (Vb s a).1):=by
 have hne:¬l=n:=om;have hne':¬n=l:=om;have hst:=ZV.put H l b s;have hb:=hst.box;have hTp:=hT.put hf s;have hkk:∀p,p∈s.N.map Zc8→YF tt 9 p.1=true:=fun p hp=>by
  obtain⟨q,_,rfl⟩:=Qi.1 hp;exact Zev _
 obtain⟨G,hG⟩:∃G,G=put H l b s:=⟨_,rfl⟩
 rw[←hG]at hst hb hTp⊢;have hT0:=hT
 replace hT:=hTp
 refine aF func20 fun B=>?_
 refine gc ?_;refine cQ (a55 (n+1) _ l b s om (hst.full hl _)) ?_;refine aS ?_;refine gv ?_;refine cT (a14 a ha) ?_;cases h1:Yh a with
 |false=>
  refine nTq h1 ?_;refine ge ?_;have e:Vb s a=(s,false,2):=by simp[Vb,h1]
  rw[e];exact ZG (.refl _) (.refl _) (.bool _) (.int _ _) hG
 |true=>
 refine nFq h1 ?_;refine nR ?_;refine cQ (a26 (n+1) _ l b s a om (hst.full hl _) ha om (hT.full hn)) ?_;cases h2:(ZY (JI a) s.N 0).isSome with
 |true=>
  refine aq2 h1 h2 ?_;refine gj ?_;have e:Vb s a=(s,false,0):=by simp[Vb,h1,h2]
  rw[e];exact ZG (.refl _) (.refl _) (.bool _) (.int _ _) hG
 |false=>
 refine aq2 h1 h2 ?_;refine nF ?_;have hlen:(if s.A=[]then(AV.sl 2 [] .full)else .sl 2 (s.A.map Am.enc) (.buf l (b+1)))=YC l b s.A:=rfl;have hk2:=Zmq h2;cases h3:((s.A.length:Int)==2000)with
 |true=>
  by_cases hA:s.A=[]
  ·rw[hA]at h3;cases h3
  refine nr ?_;simp only[go_sem,simprocAttr,hne,hb,ZT,YC,hA,h3];refine gj ?_;have e:Vb s a=(s,false,5):=by simp[Vb,h1,h2,nat_eq h3]
  rw[e];exact ZG (.refl _) (.refl _) (.bool _) (.int _ _) hG
 |false=>
 have e:Vb s a=(Zbz s a,true,0):=by simp[Vb,h1,h2,nat_ne h3]
 rw[e]
 have hbox2:∃xs o,ZT l b s.A=[.sl 2 xs o,.map l (b+2),.map l (b+3),.map l (b+4)]∧xs.length=s.A.length:=by
  by_cases hA:s.A=[]
  ·exact⟨[],.full,by simp[ZT,YC,hA],by simp[hA]⟩
  ·exact⟨s.A.map Am.enc,.buf l (b+1),by simp[ZT,YC,hA],sm⟩
 obtain⟨xs,ow,hbc,hxl⟩:=hbox2;rw[hbc]at hb;refine nq4 hne hb hxl h3 ?_;refine nF ?_;repeat refine kn rfl ?_
 refine Zas tok mixed op9 rfl rfl (by kernel_rfl) (by kernel_rfl) ?_;simp only[go_sem,simprocAttr,op9,UL,Nat.reduceBEq,UD,MB,Nat.reduceEqDiff,hne,hb,hxl];refine Zep (Zf func66 rfl rfl) (a56 a) sS ?_;simp only[go_sem,simprocAttr,op9,UL,Nat.reduceBEq,UD,MB,Nat.reduceEqDiff,hne,hb,hxl];refine nD drawO ?_;simp only[go_sem,simprocAttr,hne,hb,hxl];refine cT (a57 a ha h1) ?_;have hnum:=hst.num;change G l (b+2)=some (Ze.map (s.N.map Zc8))at hnum;simp only[go_sem,simprocAttr,hne,hb,hnum];refine⟨fun p hp=>hkk p hp,?_⟩;have hput:ZaN (AV.str (JI a)) (AV.int IntKind.i64 s.A.length) (s.N.map Zc8)=(s.N++[(JI a,(s.A.length:Int))]).map Zc8:=by
  have:XB (AV.str (JI a)) (s.N.map Zc8)=none:=(ZeT AV.str ZmH (JI a) Zc8 (fun _=>rfl) s.N 0).trans hk2;unfold ZaN;rw[this];simp[Zc8]
 rw[hput];refine⟨.inr (Xt (Zij _)),?_⟩;rw[hG,Zr2 hf]
 obtain⟨N1,hN1⟩:∃N1,N1=s.N++[(JI a,(s.A.length:Int))]:=⟨_,rfl⟩
 rw[←hN1];clear hst hb hT hkk hnum hput hG hTp;obtain⟨G1,hG1⟩:∃G1,G1=put H l b ⟨s.A,N1,s.S,s.R⟩:=⟨_,rfl⟩
 have hT:=hT0.put hf ⟨s.A,N1,s.S,s.R⟩;have hst:=ZV.put H l b ⟨s.A,N1,s.S,s.R⟩;rw[←hG1]at hT hst⊢;have hb:=hst.box;have hsig:=hst.sig;simp only at hb hsig;rw[hbc]at hb;have hq3:∀X,(G1.upd l (b+3) X) l (b+3)=some X:=fun X=>Za.upd_same _ _ _ _
 have hS1:=ZvT n H l b ⟨s.A,N1,Wl a.sg s.A.length s.S,s.R⟩ a hl hf hs.A hs.R ha h1 hn hT0 B;have hfin:(⟨s.A++[a],N1,Wl a.sg s.A.length s.S,Rat ⟨s.A,N1,Wl a.sg s.A.length s.S,s.R⟩ a a.args.length⟩:Sto)=Zbz s a:=by
  rw[Zbz,Rat,Q9 (by rw[Zaf];exact Qg _),hN1]
 simp only at hS1;rw[hfin]at hS1;have hkk:∀p,p∈ents Sg.enc l (b+5) 0 s.S→YF tt 110 p.1=true:=fun p hp=>by
  obtain⟨k,hk⟩:=ZbO _ _ _ _ _ _ hp;rw[hk];exact Zl2 _ _
 have hbe:=JO (b:=b+5) Sg.enc hl (Sg.blw n) s.S 0;have hel:=Zd7 Sg.enc l (b+5) s.S 0;have hq3:∀G:Za,∀X,(G.upd l (b+3) X) l (b+3)=some X:=fun G X=>Za.upd_same _ _ _ _
 have hq':∀(G:Za) (X Y) (j:Nat),((G.upd l (b+3) X).upd l (b+5+2*j) Y) l (b+3)=some X:=fun G X Y j=>by
  rw[Za.upd_ne _ _ om,Za.upd_same]
 have hA2:=hs.A;have hSb:=hs.S;obtain⟨k,hk0⟩:∃k:Sg,k=a.sg:=⟨_,rfl⟩
 have hke:k.enc= .agg [.str a.sg.p,.int .i64 a.sg.n]:=by rw[hk0];rfl
 rw[←hk0]at hS1;have hbk:=Sg.blw n k;rw[hke]at hbk;cases hk:ZY k s.S 0 with
 |none=>
  have hent:=fun re=>ZnN Sg.enc Zl3 k l (b+5) s.S re hk
  have hsn:=Zig Sg.enc l (b+5) s.S k s.A.length;have hfr:=fun X=>Zqh ⟨s.A,N1,s.S,s.R⟩ hf (l:=l) X
  have hnew:=ZjF (s:=⟨s.A,N1,s.S,s.R⟩) hf (k,[(s.A.length:Int)]);have hadd:Wl k (s.A.length:Int) s.S=s.S++[(k,[(s.A.length:Int)])]:=by rw[Wl,hk]
  have hgl:=fun x d=>ZhE (α:=AV×AV) _ _ hel x d
  have hsl:=fun x q=>Zk2 (α:=AV×AV) _ _ hel x q
  simp only[hke]at hent hsn;simp only at hfr hnew;rw[←hG1]at hfr hnew;generalize hes:ents Sg.enc l (b+5) 0 s.S=es at*;clear hG1;refine kK ?_;refine Zas tok mixed (opS l (b+5+2*s.S.length) true) rfl rfl (by kernel_rfl) (by kernel_rfl) ?_;simp only[go_sem,simprocAttr,opS,UL,Nat.reduceBEq,UD,MB,Nat.reduceEqDiff,hne,hb,hsig,hent,hfr,hq',hq3,XP,hel,hgl,hsl];refine⟨dc,fun p hp=>hkk p hp,.inr (Xt fun p hp=>?_),⟨om,Zl om⟩,.inr (Wy _ _ _ _),by simp[hel],.inr (Xt fun p hp=>?_),?_⟩
  ·rcases Qk.1 hp with hp|hp
   ·exact hbe p hp
   ·simp only[Qm]at hp;subst hp;exact⟨hbk,.sl _ _ _ (fun i h=>absurd h (Qo _)) (fun _ _ e=>by cases e)⟩
  ·rcases Qk.1 hp with hp|hp
   ·exact hbe p hp
   ·simp only[Qm]at hp;subst hp;exact⟨hbk,Y7 [(s.A.length:Int)] (fun _ _ e=>by cases e;exact hl)⟩
  rw[hsn];have hnew':=hnew (.map (es++[(AV.agg [AV.str a.sg.p,AV.int .i64 a.sg.n],AV.sl 1 [] .full)]));simp only[Qq,QB,QK]at hnew';rw[hnew',←hadd];refine ZO ?_ hS1;exact KK
 |some j=>
  obtain⟨hj,hje⟩:=Zcc hk;have hent:=fun re=>Zng Sg.enc Zl3 k l (b+5) s.S re hk
  have hgd:=Jy Sg.enc l (b+5) s.S 0 j hj (.dead,.dead);have hold:=fun X=>Zrd (l:=l) (b:=b) (H:=H) ⟨s.A,N1,s.S,s.R⟩ (j:=j) hj X
  have hixb:=hSb.ix (k:=k);have hadd:Wl k (s.A.length:Int) s.S=s.S.set j (k,Y8 k s.S++[(s.A.length:Int)]):=by rw[Wl,hk]
  have hset:=ZdQ Sg.enc l (b+5) (k,Y8 k s.S++[(s.A.length:Int)]) s.S 0 j;have hnew:=ZjR (s:=⟨s.A,N1,s.S,s.R⟩) hf (k,Y8 k s.S++[(s.A.length:Int)]) j hj;simp only[hje,QK]at hold hgd hset;simp only[hke]at hent hgd hset;simp only[Qh,Qq,QB,QK]at hnew;have hsetb:∀p∈(ents Sg.enc l (b+5) 0 s.S).set j (AV.agg [AV.str a.sg.p,AV.int .i64 a.sg.n],.sl 1 (intsOf (Y8 k s.S++[(s.A.length:Int)])) (.buf l (b+5+2*j))),Below n p.1∧Below n p.2:=fun p hp=>by
   rcases Qax hp with hp|rfl
   ·exact hbe p hp
   ·exact⟨hbk,Y7 _ (fun _ _ e=>by cases e;exact hl)⟩
  rw[←hG1]at hold hnew;generalize Y8 k s.S=ix at*;generalize hes:ents Sg.enc l (b+5) 0 s.S=es at*;clear hG1;refine kK ?_;refine Zas tok mixed (opS 0 0 false) rfl rfl (by kernel_rfl) (by kernel_rfl) ?_;simp only[go_sem,simprocAttr,opS,UL,Nat.reduceBEq,UD,MB,Nat.reduceEqDiff,hne,hb,hsig,hent,hold,hq',hq3,XP,hel,hgd,ZfZ,ZcQ];refine⟨dc,fun p hp=>hkk p hp,.inr (Xt hbe),⟨Zl om,om⟩,.inr (Wy _ _ _ _),om,.inr (Xt hsetb),?_⟩;rw[←hset,hnew,←hadd];refine ZO ?_ hS1;exact KK
end
def XM(s:Sto)(l:List Am):Sto:=l.foldl (fun s a=>(Vb s a).1) s
def plc(p:Am→Bool):Nat→List Am→List Int
 |_,[]=>[]
 |i,a::r=>if p a=true then(i:Int)::plc p (i+1) r else plc p (i+1) r
def Zf5(p:Am→Bool)(a:Am):∀(A:List Am) (i:Nat),plc p i (A++[a])=plc p i A++(if p a=true then [((i+A.length:Nat):Int)]else [])
 |[],i=>by simp only[Q5,plc,QB,UF]
 |b::A,i=>by
  simp only[Q8,plc,Zf5 p a A (i+1),Qq];rw[show i+1+A.length=i+(A.length+1) by omega];split<;>simp
def ZmB(p:Am→Bool):∀(A:List Am) (i:Nat),∀x∈plc p i A,(i:Int)≤x∧x<i+A.length
 |[],_,x,h=>by simp[plc]at h
 |b::A,i,x,h=>by
  simp only[plc]at h;have key:x∈plc p (i+1) A→(i:Int)≤x∧x<i+(b::A).length:=fun h=>by
   have:=ZmB p A (i+1) x h;simp only[Qq];omega
  split at h
  ·rcases Ql.1 h with rfl|h
   ·simp only[Qq];omega
   ·exact key h
  ·exact key h
def Zjg(p:Am→Bool):∀(A:List Am) (i:Nat),(plc p i A).length≤A.length
 |[],_=>Qg _
 |b::A,i=>by
  have:=Zjg p A (i+1);simp only[plc];split<;>simp only[Qq]<;>omega
theorem Zkj(p:Am→Bool):∀(A pre:List Am),(plc p pre.length A).map (fun j=>(pre++A).getD j.toNat ⟨[],[]⟩)=A.filter p
 |[],_=>rfl
 |b::A,pre=>by
  have ih:=Zkj p A (pre++[b]);simp only[Qh,Qq,QB,QK,Uc,Q8,Q5]at ih;simp only[plc,Qbs];split
  ·rw[Qv,ih];congr 1
   simp
  ·exact ih
def ZhU(p:Am→Bool)(A:List Am):ZgE A (plc p 0 A)=A.filter p:=Zkj p A []
def nums:Nat→List Am→List (List UInt8×Int)
 |_,[]=>[]
 |i,a::r=>(JI a,(i:Int))::nums (i+1) r
def Zh5(a:Am):∀(A:List Am) (i:Nat),nums i (A++[a])=nums i A++[(JI a,((i+A.length:Nat):Int))]
 |[],i=>by simp[nums]
 |b::A,i=>by
  simp only[Q8,nums,Zh5 a A (i+1),Qq];rw[show i+1+A.length=i+(A.length+1) by omega]
def ZfX(t:List UInt8):∀(A:List Am) (i j:Nat),(ZY t (nums i A) j).isSome=true↔ ∃a∈A,JI a=t
 |[],_,_=>by simp[nums,ZY]
 |b::A,i,j=>by
  simp only[nums,ZY];split
  ·rename_i h;simp[h]
  ·rename_i h;rw[ZfX t A (i+1) (j+1)];simp[h]
section
variable {κ:Type} [DecidableEq κ]
def ZhM{k:κ}{β:Type}:∀{es:List (κ×β)} {i:Nat},ZY k es i=none↔k∉es.map Prod.fst
 |[],_=>by simp[ZY]
 |p::r,i=>by
  simp only[ZY,Qv,Ql,not_or];split
  ·rename_i h;simp[h]
  ·rename_i h;rw[ZhM (es:=r)];simp[Ne.symm h]
def Zh9{k k':κ}{β:Type}(x:β):∀(es:List (κ×β)) (i j:Nat),ZY k es i=some (i+j)→ZY k' (es.set j (k,x)) i=ZY k' es i
 |[],_,_,h=>by cases h
 |p::r,i,0,h=>by
  simp only[ZY]at h;split at h
  ·rename_i hp;subst hp;simp only[UO,ZY]
  ·have:=(J9 h).1;omega
 |p::r,i,j+1,h=>by
  simp only[ZY]at h;split at h
  ·simp only[Qp]at h;omega
  ·rw[show i+(j+1)=i+1+j by omega]at h;simp only[U4,ZY,Zh9 x r (i+1) j h]
def ZcJ{k k':κ}{β:Type}(x:β)(hne:k'≠k):∀(es:List (κ×β)) (i:Nat),ZY k' (es++[(k,x)]) i=ZY k' es i
 |[],i=>by simp[ZY,Ne.symm hne]
 |p::r,i=>by simp only[Q8,ZY,ZcJ x hne r (i+1)]
def Zg0{k:κ}{β:Type}(x:β):∀(es:List (κ×β)) (i:Nat),ZY k es i=none→ZY k (es++[(k,x)]) i=some (i+es.length)
 |[],i,_=>by simp[ZY]
 |p::r,i,h=>by
  simp only[ZY]at h;split at h
  ·cases h
  ·rename_i hp;simp only[Q8,ZY,if_neg hp,Zg0 x r (i+1) h,Qq];congr 1;omega
def ZaE{k:κ}{es:List (κ×List Int)}(h:ZY k es 0=none):Y8 k es=[]:=by rw[Y8,h]
def Ju{k:κ}{es:List (κ×List Int)}{j:Nat}(h:ZY k es 0=some j):Y8 k es=((es[j]?).map Prod.snd).getD []:=by rw[Y8,h]
def Zkf(k k':κ)(x:Int)(es:List (κ×List Int)):Y8 k' (Wl k x es)=if k'=k then Y8 k es++[x]else Y8 k' es:=by
 unfold Wl;cases hk:ZY k es 0 with
 |some j=>
  obtain⟨hj,he⟩:=Zcc hk;have hs:=fun k'=>Zh9 (k':=k') (Y8 k es++[x]) es 0 j (by rw[hk,QK])
  by_cases h:k'=k
  ·subst h;rw[if_pos rfl];simp only;rw[Ju ((hs k').trans hk)];simp[hj]
  ·rw[if_neg h];simp only;cases hk':ZY k' es 0 with
   |none=>rw[ZaE ((hs k').trans hk'),ZaE hk']
   |some j'=>
    obtain⟨hj',he'⟩:=Zcc hk';have hne:j≠j':=fun e=>by subst e;rw[he]at he';exact h (congrArg Prod.fst he').symm
    rw[Ju ((hs k').trans hk'),Ju hk',QaU hne]
 |none=>
  by_cases h:k'=k
  ·subst h;rw[if_pos rfl,ZaE hk];simp only;rw[Ju (Zg0 [x] es 0 hk)];simp
  ·rw[if_neg h];simp only;have hs:=ZcJ [x] h es 0;cases hk':ZY k' es 0 with
   |none=>rw[ZaE (hs.trans hk'),ZaE hk']
   |some j'=>
    have:=J9 hk';rw[Ju (hs.trans hk'),Ju hk',UE om]
def ZjI(k:κ)(x:Int)(es:List (κ×List Int)):(Wl k x es).map Prod.fst=if k∈es.map Prod.fst then es.map Prod.fst else es.map Prod.fst++[k]:=by
 unfold Wl;cases hk:ZY k es 0 with
 |some j=>
  obtain⟨hj,he⟩:=Zcc hk;have hm:k∈es.map Prod.fst:=Qi.2 ⟨es[j],Qa hj,by rw[he]⟩;rw[if_pos hm];simp only[List.map_set];have:(es.map Prod.fst)[j]'(by simpa using hj)=k:=by simp[he]
  conv=>lhs;rw[←this]
  exact QbE _
 |none=>
  rw[if_neg (ZhM.1 hk)];simp
def ZhC(x:Int)(k':κ):∀(ks:List κ) (es:List (κ×List Int)),ks.Nodup→Y8 k' (ks.foldl (fun R k=>Wl k x R) es)=Y8 k' es++(if k'∈ks then [x]else [])
 |[],es,_=>by simp
 |k::ks,es,h=>by
  rw[GN]at h;rw[Uz,ZhC x k' ks _ h.2,Zkf];by_cases e:k'=k
  ·subst e;rw[if_pos rfl,if_neg h.1,if_pos sm];simp
  ·rw[if_neg e];simp[e]
end
def Bd.fold{x:Int}:∀{ks:List Ak} {es:List (Ak×List Int)} {m:Nat},Bd es m→Bd (ks.foldl (fun R k=>Wl k x R) es) (m+ks.length)
 |[],_,_,h=>h
 |k::ks,es,m,h=>by
  have:=Bd.fold (x:=x) (ks:=ks) (h.add (k:=k) (x:=x));rw[Uz,Qq];rw[show m+(ks.length+1)=m+1+ks.length by omega];exact this
structure Ok (s:Sto):Prop where
 A:s.A.length≤2000
 g:Vp s.A
 v:∀a∈s.A,Yh a=true
 nd:s.A.Nodup
 N:s.N=nums 0 s.A
 S:∀k,Y8 k s.S=plc (fun a=>a.sg==k) 0 s.A
 R:∀k,Y8 k s.R=plc (fun a=>decide (k∈WA a)) 0 s.A
 BS:Bd s.S s.A.length
 BR:Bd s.R (8*s.A.length)
 K:(s.S.map Prod.fst).Nodup
 KM:∀k,k∈s.S.map Prod.fst↔ ∃a∈s.A,a.sg=k
def Bd.le{κ:Type}{es:List (κ×List Int)}{m n:Nat}(h:Bd es m)(hmn:m≤n):Bd es n:=fun p hp=>Ue (h p hp) hmn
section
variable {s:Sto}
def Ok.fit(h:Ok s):Fit s:=⟨h.A,h.BS.le (by have:=h.A;omega),h.BR.le (by have:=h.A;omega),h.g⟩
def ok0:Ok sto0:=⟨by simp[sto0],fun a h=>by simp[sto0]at h,fun a h=>by simp[sto0]at h,by simp[sto0],rfl,fun _=>rfl,fun _=>rfl,fun p h=>by simp[sto0]at h,fun p h=>by simp[sto0]at h,by simp[sto0],fun k=>by simp[sto0]⟩
def Ok.has(h:Ok s){a:Am}(ha:Yh a=true):(ZY (JI a) s.N 0).isSome=s.A.any (eqA · a):=by
 rw[U3,h.N,ZfX,UW];constructor
 ·rintro⟨b,hb,e⟩;exact⟨b,hb,(Zcf b a).2 (Zqn (h.v b hb) ha e)⟩
 ·rintro⟨b,hb,e⟩;exact⟨b,hb,by rw[(Zcf b a).1 e]⟩
def Zhr(a:Am):(WA a).Nodup:=by
 unfold WA;rw[List.nodup_iff_pairwise_ne,G7];refine QaA ?_ (Me (R:=fun(p q:Tm×Nat)=>p.2<q.2)|>.2 fun i j hi hj hij=>by simpa using hij);intro p q _ _ hlt e;simp only[Ak.mk.injEq]at e;omega
def Ok.add{s:Sto}(h:Ok s){a:Am}(hg:a.Good)(hv:Yh a=true)(hn:s.A.any (eqA · a)=false)(hl:s.A.length≠2000):Ok (Zbz s a):=by
 have hA:=h.A;have hlen:=Zml hv;refine⟨by simp[Zbz];omega,fun x hx=>?_,fun x hx=>?_,?_,?_,fun k=>?_,fun k=>?_,?_,?_,?_,fun k=>?_⟩
 ·simp only[Zbz,Qk,Qm]at hx;rcases hx with hx|rfl
  ·exact h.g x hx
  ·exact hg
 ·simp only[Zbz,Qk,Qm]at hx;rcases hx with hx|rfl
  ·exact h.v x hx
  ·exact hv
 ·simp only[Zbz];rw[GK];refine⟨h.nd,sm,fun x hx y hy e=>?_⟩;simp only[Qm]at hy;subst hy;subst e;rw[Qar]at hn;exact hn x hx ((Zcf x x).2 rfl)
 ·simp only[Zbz];rw[Zh5,h.N,QK]
 ·simp only[Zbz];rw[Zkf,Zf5,QK];by_cases e:k=a.sg
  ·subst e;rw[if_pos rfl,h.S];simp
  ·rw[if_neg e,h.S];have:(a.sg==k)=false:=by rw[beq_eq_false_iff_ne];exact Ne.symm e
   simp[this]
 ·simp only[Zbz];rw[ZhC _ _ _ _ (Zhr a),Zf5,QK,h.R];simp
 ·simp only[Zbz,Qh,Qq,QB];exact h.BS.add
 ·simp only[Zbz,Qh,Qq,QB];exact(h.BR.fold).le (by rw[Zaf];omega)
 ·simp only[Zbz];rw[ZjI];split
  ·exact h.K
  ·rename_i hm;rw[GK];refine⟨h.K,sm,fun x hx y hy e=>?_⟩;simp only[Qm]at hy;subst hy;subst e;exact hm hx
 ·simp only[Zbz];rw[ZjI];have:k∈(if a.sg∈s.S.map Prod.fst then s.S.map Prod.fst else s.S.map Prod.fst++[a.sg])↔k∈s.S.map Prod.fst∨k=a.sg:=by
   split
   ·rename_i hm;exact⟨.inl,fun h=>h.elim id fun e=>e▸hm⟩
   ·simp
  rw[this,h.KM];constructor
  ·rintro(⟨x,hx,e⟩|e)
   ·exact⟨x,by simp[hx],e⟩
   ·exact⟨a,sm,e.symm⟩
  ·rintro⟨x,hx,e⟩;simp only[Qk,Qm]at hx;rcases hx with hx|rfl
   ·exact .inl ⟨x,hx,e⟩
   ·exact .inr e.symm
def Ok.Zr1(h:Ok s)(a:Am):((Vb s a).1.A,(Vb s a).2.1,(Vb s a).2.2)=ZrJ s.A a:=by
 unfold Vb ZrJ;cases h1:Yh a with
 |false=>simp
 |true=>
  simp only[Bool.true_eq_false,if_false];rw[h.has h1];split
  ·rfl
  ·split
   ·rfl
   ·simp[Zbz]
def Ok.Vb{s:Sto}(h:Ok s){a:Am}(hg:a.Good):Ok (Vb s a).1:=by
 unfold Go.Proofs.YtmdeagmbfhbbnaaGreatDoorR.Vb;split
 ·exact h
 ·split
  ·exact h
  ·rename_i h1 h2;split
   ·exact h
   ·rename_i h3;have hv:Yh a=true:=by simpa using h1
    rw[h.has hv]at h2;exact h.add hg hv (by simpa using h2) h3
def ZnY(s:Sto)(l:List Am)(a:Am):XM s (l++[a])=(Vb (XM s l) a).1:=by
 unfold XM;rw[Md];rfl
def ZoI(s:Sto)(l:List Am)(i:Nat)(h:i<l.length):XM s (l.take (i+1))=(Vb (XM s (l.take i)) l[i]).1:=by
 rw[Qj h,ZnY]
def Ok.XM{s:Sto}(h:Ok s):∀{l:List Am},Vp l→Ok (XM s l):=by
 intro l;induction l generalizing s with
 |nil=>intro _;exact h
 |cons a l ih=>
  intro hg;exact ih (h.Vb (hg a sm)) (fun x hx=>hg x (by simp[hx]))
def Zss(l0 l:List Am):List Am:=l.foldl (fun s a=>(ZrJ s a).1) l0
def Ok.Ztk(h:Ok s):∀{l:List Am},Vp l→(Go.Proofs.YtmdeagmbfhbbnaaGreatDoorR.XM s l).A=Zss s.A l:=by
 intro l;induction l generalizing s with
 |nil=>intro _;rfl
 |cons a l ih=>
  intro hg;have h1:=ih (h.Vb (hg a sm)) (fun x hx=>hg x (by simp[hx]));have h2:=h.Zr1 a;show(Go.Proofs.YtmdeagmbfhbbnaaGreatDoorR.XM (Go.Proofs.YtmdeagmbfhbbnaaGreatDoorR.Vb s a).1 l).A=Zss (ZrJ s.A a).1 l;rw[h1,←h2]
def Ok.all(h:Ok s)(k:Sg):ZgE s.A (Y8 k s.S)=Zjr s.A k:=by
 rw[h.S,ZhU];rfl
def Zlc(a:Am)(k:Ak):k∈WA a↔a.sg=k.s∧0≤k.c∧ ∃t,a.args[k.c.toNat]? =some t∧txt t=k.t:=by
 unfold WA;rw[Qi];constructor
 ·rintro⟨⟨t,i⟩,hm,rfl⟩;rw[Qam]at hm;exact⟨rfl,sm,t,by simpa using hm,rfl⟩
 ·rintro⟨h1,h2,t,h3,h4⟩;refine⟨(t,k.c.toNat),by rw[Qam];exact h3,?_⟩;obtain⟨s,c,x⟩:=k;simp only at*;subst h1 h4;congr 1;omega
def Ok.find(h:Ok s)(k:Sg)(c:Int){v:Tm}(hv:Zo v=true):ZgE s.A (Y8 (⟨k,c,txt v⟩:Ak) s.R)=Zm8 s.A k c v:=by
 rw[h.R,ZhU];unfold Zm8;refine List.filter_congr fun a ha=>?_
 rw[U3,decide_eq_true_eq,Zlc];simp only[ZkN,Qd,beq_iff_eq,decide_eq_true_eq,colEq];have hav:=h.v a ha;constructor
 ·rintro⟨h1,h2,t,h3,h4⟩;have ht:=ZgL hav (GH h3);have hlt:=(Ub.1 h3).1;refine⟨⟨⟨h1,h2⟩,?_⟩,?_⟩
  ·rw[←h1];simp only[Am.sg];omega
  ·rw[h3];exact(eqT_iff t v).2 (ZrE ht hv h4)
 ·rintro⟨⟨⟨h1,h2⟩,h3⟩,h4⟩;refine⟨h1,h2,?_⟩;cases hx:a.args[c.toNat]? with
  |none=>rw[hx]at h4;cases h4
  |some t=>rw[hx]at h4;exact⟨t,rfl,by rw[(eqT_iff t v).1 h4]⟩
def Ok.ixS(h:Ok s)(k:Sg):(∀i∈Y8 k s.S,0≤i∧i<s.A.length)∧(Y8 k s.S).length≤1000000:=by
 rw[h.S];refine⟨fun i hi=>?_,?_⟩
 ·have:=ZmB _ _ _ i hi;omega
 ·have:=Zjg (fun a=>a.sg==k) s.A 0;have:=h.A;omega
def Ok.ixR(h:Ok s)(k:Ak):(∀i∈Y8 k s.R,0≤i∧i<s.A.length)∧(Y8 k s.R).length≤1000000:=by
 rw[h.R];refine⟨fun i hi=>?_,?_⟩
 ·have:=ZmB _ _ _ i hi;omega
 ·have:=Zjg (fun a=>decide (k∈WA a)) s.A 0;have:=h.A;omega
end
def Zb5(n l b:Nat)(s:Sto)(L:List (Nat×Ze))(H:Za)(h:l≠n):put (full n L H) l b s=full n L (put H l b s):=by
 funext l' k;simp only[Za2,full];by_cases h1:l'=n
 ·subst h1;simp[Ne.symm h]
 ·simp only[if_neg h1]
section
variable {s:Sto} {n l b:Nat}
def Zih(hl:l<n){k:Nat}{x:Ze}(h:lkb (lst l b s) k=some x):x.Below n:=by
 rw[Y9]at h;split at h
 ·cases h;exact Zgi hl _
 split at h
 ·cases h;exact Xt (Zij s.N)
 split at h
 ·cases h;exact Xt (JO Sg.enc hl (Sg.blw n) _ _)
 split at h
 ·cases h;exact Xt (JO Ak.enc hl (Ak.blw n) _ _)
 split at h
 ·split at h
  ·cases h
  ·cases h;exact Wy _ _ _ _
 split at h
 ·simp only[Ur]at h;obtain⟨p,_,rfl⟩:=h;exact Wy _ _ _ _
 split at h
 ·simp only[Ur]at h;obtain⟨p,_,rfl⟩:=h;exact Wy _ _ _ _
 ·cases h
def Za8{H:Za}(hl:l<n):ZM n H (put H l b s):=fun l' k x _ hx=>by
 rw[Za2]at hx;split at hx
 ·rcases Option.or_eq_some_iff.1 hx with h|⟨_,h⟩
  ·exact .inr (Zih hl h)
  ·exact .inl h
 ·exact .inl hx
def Zky{H:Za}{s':Sto}(hl:l<n)(hf:YH H l b):ZM n (put H l b s) (put H l b s'):=fun l' k x _ hx=>by
 by_cases h1:l'=l
 ·subst h1;rcases Qe k b with h2|h2
  ·rw[Zpn h2]at hx⊢;exact .inl hx
  ·rw[ZdC hf h2]at hx;exact .inr (Zih hl hx)
 ·rw[ZeE h1]at hx⊢;exact .inl hx
def YH.full{n l b:Nat}{H:Za}(hf:YH H l b)(h:l<n)(L:List (Nat×Ze)):YH (full n L H) l b:=fun k hk=>by rw[Zk h];exact hf k hk
section
variable {cx:Cx} {o:Oper} {args:List Operand} {ts:List TypeId} {F:Zb→Prop} {tm:List (Nat×AV)} {L:List (Nat×Ze)} {H:Za}
def ZsA(hP:cx.P=prog)(l b:Nat)(hl:l<cx.n)(hf:YH H l b)(ha:Yn cx.T (evT tm) args ts=[])(hF:F ⟨Yk tm o.dst (.ptr l b 0),L,put H l b sto0⟩):WO cx false o (.func 36) args ts ⟨tm,L,H⟩ F:=by
 obtain⟨P,T,φ,n,N⟩:=cx;subst hP;refine Zvc (avs:=[]) L (put H l b sto0) (Zf func36 rfl rfl) ?_ ha (Za8 hl) hF;have h:=a22 (n+1) (full n L H) l b (Gt hl) (hf.full hl L);rw[Zb5 n l b sto0 L H (Qak hl)]at h;exact h
def ZtG(hP:cx.P=prog)(l b:Nat)(s:Sto)(a:Am){g:Operand}(hg:evT tm g= .fn (.func 20) [])(hl:l<cx.n)(hf:YH H l b)(hs:Fit s)(hga:a.Good)(hn:0<cx.n)(hT:Tabs H)(ha:Yn cx.T (evT tm) args ts=[.ptr l b 0,a.enc])
  (hF:F ⟨Yk tm o.dst (.tup [.bool (Vb s a).2.1,eInt (Vb s a).2.2]),L,put H l b (Vb s a).1⟩):WO cx false o g args ts ⟨tm,L,put H l b s⟩ F:=by
 obtain⟨P,T,φ,n,N⟩:=cx;subst hP;have h:=a23 (n+1) (full n L H) l b s a (Gt hl) (hf.full hl L) hs hga (QO _) (hT.full hn);rw[Zb5 n l b s L H (Qak hl),Zb5 n l b _ L H (Qak hl)]at h;refine YT (caps:=[]) (avs:=[.ptr l b 0,a.enc]) (Qc:=fun r H'=>r= .tup [.bool (Vb s a).2.1,eInt (Vb s a).2.2]∧H'=full n L (put H l b (Vb s a).1)) hg (Zf func20 rfl rfl) h ha ?_;rintro r H1 ⟨rfl,rfl⟩;exact⟨L,_,rfl,Zky hl hf,hF⟩
end
end
end Go.Proofs.YtmdeagmbfhbbnaaGreatDoorR
