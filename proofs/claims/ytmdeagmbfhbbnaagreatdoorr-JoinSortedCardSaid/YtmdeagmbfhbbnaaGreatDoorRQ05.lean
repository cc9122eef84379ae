/- A slot of the own level is handed down. No program, no condition. -/
import Derived.Test.YtmdeagmbfhbbnaaGreatDoorRQ04
import Derived.Carry
import Derived.ChangeArms
import Derived.Deep.DeepHandedRow
import Derived.Lib.LaidTab
import Derived.Lib.Bytealg
import Derived.Test.YtmdeagmbfhbbnaaGreatDoorRQ03
import Derived.Test.YtmdeagmbfhbbnaaGreatDoorRProg
import Derived.KernelRfl
import Derived.IntWalk
set_option linter.all false
namespace Go.Abs
def sw(n j l k x y:Nat):Nat×Nat:=if x=n∧y=j then(l,k)else if x=l∧y=k then(n,j)else(x,y)
def Env.swap(E:Env)(n j l k:Nat):Env where
 F:=E.F
 m:=fun x y=>E.m (sw n j l k x y).1 (sw n j l k x y).2
 hist:=fun x y=>E.hist (sw n j l k x y).1 (sw n j l k x y).2
 g:=fun x y=>E.g (sw n j l k x y).1 (sw n j l k x y).2
 qd:=E.qd
def ren(n j l k:Nat):AV→AV
 | .ptr x y o=>if x=n∧y=j then .ptr l k o else .ptr x y o
 | .map x y=>if x=n∧y=j then .map l k else .map x y
 | .msl sz x y i=>if x=n∧y=j then .msl sz l k i else .msl sz x y i
 |v=>v
def Zgd(n j:Nat)(v:AV):Prop:=Inside n (fun x=>x≠j) v∨(∃o,v= .ptr n j o)∨v= .map n j∨ ∃sz i,v= .msl sz n j i
section
variable {n j l k:Nat}
theorem X9{x y:Nat}(h1:¬(x=n∧y=j))(h2:¬(x=l∧y=k)):sw n j l k x y=(x,y):=by
 unfold sw;rw[if_neg h1,if_neg h2]
theorem ZmO(n j l k:Nat):sw n j l k n j=(l,k):=by unfold sw;simp
theorem ZeR(h:l≠n):sw n j l k l k=(n,j):=by
 unfold sw;rw[if_neg (fun c=>h c.1),if_pos ⟨rfl,rfl⟩]
theorem ZoM(h:l≠n){x y x' y':Nat}(e:sw n j l k x y=sw n j l k x' y'):x=x'∧y=y':=by
 unfold sw at e;split at e<;>split at e<;>(try split at e)<;>(try split at e)<;>simp only[Qa3]at e<;>omega
section
variable {n j l k:Nat} {E:Env}
theorem VR.swap(hl:l<n)(hm0:E.m l k=none)(hh0:∀i,E.hist l k i=none){a:AV}{v:Value}(hv:VR E a v)(hb:Inside n (fun x=>x≠j) a):VR (E.swap n j l k) a v:=by
 have km:∀x y b,(x<n∨(x=n∧y≠j))→E.m x y=some b→(E.swap n j l k).m x y=some b:=fun x y b h hm=>by
  have h1:¬(x=n∧y=j):=fun c=>by
   rcases h with h|h
   ·omega
   ·exact h.2 c.2
  have h2:¬(x=l∧y=k):=fun c=>by rw[c.1,c.2,hm0]at hm;cases hm
  simp only[Env.swap,X9 h1 h2];exact hm
 have kh:∀x y i b,(x<n∨(x=n∧y≠j))→E.hist x y i=some b→(E.swap n j l k).hist x y i=some b:=fun x y i b h hm=>by
  have h1:¬(x=n∧y=j):=fun c=>by
   rcases h with h|h
   ·omega
   ·exact h.2 c.2
  have h2:¬(x=l∧y=k):=fun c=>by rw[c.1,c.2,hh0]at hm;cases hm
  simp only[Env.swap,X9 h1 h2];exact hm
 induction hv with
 |int k n=>exact .int k n
 |bool b=>exact .bool b
 |str l=>exact .str l
 |nilp=>exact .nilp
 |ptr x y off b hm=>cases hb with|ptr _ _ _ hl=>exact .ptr x y off b (km _ _ _ hl hm)
 |iptr cs b off c hc _ ih=>cases hb with|iptr _ hb=>exact .iptr cs b off c hc (fun i h=>ih i h (hb i h))
 |slnil q o a ho ha=>
  cases hb with
  |sl _ _ _ _ hb=>
   refine .slnil q o a ?_ ha;cases o with
   |any=>trivial
   |full=>exact ho
   |buf x i=>exact kh _ _ _ _ (hb x i rfl) ho
 |sl q xs o b off cap c hk hc _ hcap hm ho ih=>
  cases hb with
  |sl _ _ _ hx hb=>
   refine .sl q xs o b off cap c hk hc (fun i h i' h'=>ih i h i' h' (hx i h i' h')) hcap hm ?_;cases o with
   |any=>trivial
   |full=>exact ho
   |buf x i=>exact kh _ _ _ _ (hb x i rfl) ho
 |nilf=>exact .nilf
 |fn f caps vs hl _ ih=>cases hb with|fn _ _ hb=>exact .fn f caps vs hl (fun i h h'=>ih i h h' (hb i h))
 |bfn f caps vs hl _ ih=>cases hb with|bfn _ _ hb=>exact .bfn f caps vs hl (fun i h h'=>ih i h h' (hb i h))
 |nilm=>exact .nilm
 |map x y b hm=>cases hb with|map _ _ hl=>exact .map x y b (km _ _ _ hl hm)
 |mnil sz x y a hh ha=>cases hb with|msl _ _ _ _ hl=>exact .mnil _ _ _ _ (kh _ _ _ _ hl hh) ha
 |msl sz x y i g cap hh=>cases hb with|msl _ _ _ _ hl=>exact .msl _ _ _ _ _ _ (kh _ _ _ _ hl hh)
 |eptr x y i off g cap hh=>cases hb with|eptr _ _ _ _ hl=>exact .eptr _ _ _ _ _ _ (kh _ _ _ _ hl hh)
 |ssl k xs ys b off cap c hk hc _ hcap hm ih=>cases hb with|ssl _ _ _ hx=>exact .ssl k xs ys b off cap c hk hc (fun i h j h'=>ih i h j h' (hx i h j h')) hcap hm
 |nili=>exact .nili
 |Xg=>exact .Xg
 |sln k a cap hc=>exact .sln k a cap hc
 |sub sz x y i off m g cap hh hm=>cases hb with|sub _ _ _ _ _ _ hl=>exact .sub _ _ _ _ _ _ _ _ (kh _ _ _ _ hl hh) hm
 |ifc t a v _ ih=>cases hb with|ifc _ _ hb=>exact .ifc t a v (ih hb)
 |agg cs vs hl _ ih=>cases hb with|agg _ hb=>exact .agg cs vs hl (fun i h h'=>ih i h h' (hb i h))
 |tup cs vs hl _ ih=>cases hb with|tup _ hb=>exact .tup cs vs hl (fun i h h'=>ih i h h' (hb i h))
 |dead v=>exact .dead v
theorem Zr9{a:AV}(h:Inside n (fun x=>x≠j) a):ren n j l k a=a:=by
 cases h with
 |ptr x y o h=>simp only[ren];rw[if_neg];rintro⟨rfl,rfl⟩;rcases h with h|h;exact absurd h (Uh _);exact h.2 rfl
 |map x y h=>simp only[ren];rw[if_neg];rintro⟨rfl,rfl⟩;rcases h with h|h;exact absurd h (Uh _);exact h.2 rfl
 |msl sz x y i h=>simp only[ren];rw[if_neg];rintro⟨rfl,rfl⟩;rcases h with h|h;exact absurd h (Uh _);exact h.2 rfl
 |_=>rfl
theorem VR.ren(hl:l<n)(hm0:E.m l k=none)(hh0:∀i,E.hist l k i=none){a:AV}{v:Value}(hv:VR E a v)(ht:Zgd n j a):VR (E.swap n j l k) (ren n j l k a) v:=by
 rcases ht with h|⟨o,rfl⟩|rfl|⟨sz,i,rfl⟩
 ·rw[Zr9 h];exact hv.swap hl hm0 hh0 h
 ·cases hv with
  |ptr _ _ _ b hm=>
   simp only[Abs.ren];rw[if_pos ⟨trivial,trivial⟩];refine .ptr l k o b ?_;simp only[Env.swap,ZeR (show l≠n by omega)];exact hm
 ·cases hv with
  |map _ _ b hm=>
   simp only[Abs.ren];rw[if_pos ⟨trivial,trivial⟩];refine .map l k b ?_;simp only[Env.swap,ZeR (show l≠n by omega)];exact hm
 ·simp only[Abs.ren];rw[if_pos ⟨trivial,trivial⟩];cases hv with
  |mnil _ _ _ a hh ha=>exact .mnil _ _ _ _ (by simp only[Env.swap,ZeR (show l≠n by omega)];exact hh) ha
  |msl _ _ _ _ g cap hh=>exact .msl _ _ _ _ _ _ (by simp only[Env.swap,ZeR (show l≠n by omega)];exact hh)
end
def Ze.Zcp(f:AV→AV):Ze→Ze
 | .box cs=>.box (cs.map f)
 | .map es=>.map (es.map fun p=>(f p.1,f p.2))
 | .buf e sz fr=>.buf e sz fr
 | .Zg e sz cs n=>.Zg e sz (cs.map f) n
 | .iter l k s q=>.iter l k s q
 | .var b t cs=>.var b t (cs.map f)
 | .lrec l N fo tm ps ca cb st pend=>.lrec l N fo tm ps ca cb st pend
theorem VRs.Zcp{E E':Env}{f:AV→AV}{az:List AV}{vs:List Value}(h:VRs E az vs)(hv:∀a∈az,∀v,VR E a v→VR E' (f a) v):VRs E' (az.map f) vs:=
 ⟨by simpa using h.1,fun i h1 h2=>by simp only[QO];exact hv _ (Qa _) _ (h.2 i (by simpa using h1) h2)⟩
variable {b:Ze}
theorem Zen.Zrn{E E':Env}{w w':World}{l' k':Nat}(f:AV→AV)(h:Zen E w l k b)(hm:E'.m l' k'=E.m l k)(hg:E'.g l' k'=E.g l k)(hh:∀j,E'.hist l' k' j=E.hist l k j)
  (hi:∀p∈b.at_,∀r,E.m p.1 p.2=some r→E'.m p.1 p.2=some r) (hb:∀r,E.m l k=some r∨E.g l k=some r→w'.heap[r]? =w.heap[r]?)
  (hF:∀g o,E.g l k=some g→E.F g o=none→E'.F g o=none) (hv:∀a∈b.avs,∀v,VR E a v→VR E' (f a) v) (hrec:b.isRec=true→ ∀a∈b.avs,f a=a) (hqd:E'.qd=E.qd:=by rfl):Zen E' w' l' k' (b.Zcp f):=by
 cases b with
 |box cs=>
  obtain⟨r,h1,c,t,h2,h3⟩:=h;exact⟨r,hm.trans h1,c,t,by rw[hb r (.inl h1)];exact h2,h3.Zcp hv⟩
 |map es=>
  obtain⟨r,h1,ent,h2,h3,h4⟩:=h;refine⟨r,hm.trans h1,ent,by rw[hb r (.inl h1),Qv];exact h2,by rw[Qv];exact h3,fun i x y=>?_⟩;have x':i<es.length:=by simpa using x
  obtain⟨q1,q2,q3⟩:=h4 i x' y;simp only[QO];exact⟨hv _ (QC _ (Qb.2 ⟨_,Qa x',rfl⟩)) _ q1,hv _ (QK _ (Qb.2 ⟨_,Qa x',rfl⟩)) _ q2,q3⟩
 |buf e sz fr=>
  obtain⟨⟨v,h1,h2,h3⟩,h4⟩:=h;refine⟨⟨v,(hh fr).trans h1,fun j hj=>(hh j).trans (h2 j hj),?_⟩,hm.trans h4⟩;rcases h3 with⟨a,q1,q2,q3⟩|⟨g,cap,cur,q1,q2,q3,q4,q5,q6,q7⟩
  ·exact .inl ⟨a,q1,q2,hg.trans q3⟩
  ·exact .inr ⟨g,cap,cur,q1,hg.trans q2,by rw[hb g (.inr q2)];exact q3,q4,q5,q6,fun o ho=>hF g o q2 (q7 o ho)⟩
 |Zg e sz cs n=>
  obtain⟨⟨h0,v,h1,h2,h3⟩,h4⟩:=h;refine⟨⟨by rw[Qv];exact h0,v,(hh n).trans h1,fun j hj=>(hh j).trans (h2 j hj),?_⟩,hm.trans h4⟩;rcases h3 with⟨a,q1,q2,q3⟩|⟨g,cap,cur,q1,q2,q3,q4,q5,q6,q7,q8⟩
  ·exact .inl ⟨a,q1,q2,hg.trans q3⟩
  ·exact .inr ⟨g,cap,cur,q1,hg.trans q2,by rw[hb g (.inr q2)];exact q3,q4,q5,q6,fun o=>hF g o q2 (q7 o),q8.Zcp hv⟩
 |iter x y since seen=>
  obtain⟨r,r',h1,h2,h3⟩:=h;exact⟨r,r',hm.trans h1,hi (x,y) (by simp[Ze.at_]) r' h2,by rw[hb r (.inl h1)];exact h3⟩
 |var b t cs=>
  obtain⟨h0,h1,c,h2,h3⟩:=h;exact⟨hqd.trans h0,hm.trans h1,c,by rw[hb b (.inl h1)];exact h2,h3.Zcp hv⟩
 |lrec b N fo tm ps ca cb st pend=>
  obtain⟨h1,rc,h2,h3,h4,h5,h6,h7,h8,h9,h10⟩:=h;refine⟨hm.trans h1,rc,by rw[hb b (.inl h1)];exact h2,h3,h4,h5,h6,h7,h8,fun t=>?_,h10⟩;rcases lkv_mem (tm:=tm) (t:=t)with hd|hd
  ·rw[hd];exact .dead _
  ·have hmem:lkv tm t∈(Ze.lrec b N fo tm ps ca cb st pend).avs:=by simp only[Ze.avs];exact Qb.2 ⟨_,hd,rfl⟩
   have:=hv _ hmem _ (h9 t);rw[hrec rfl _ hmem]at this;exact this
theorem Zqe{f:AV→AV}(h:∀a∈b.avs,f a=a):b.Zcp f=b:=by
 cases b with
 |box cs=>simp only[Ze.Zcp];congr 1;exact(U3 h).trans (QaL cs)
 |map es=>
  simp only[Ze.Zcp];congr 1;refine(U3 (fun p hp=>?_)).trans (QaL es);exact Qa9 (h _ (QC _ (Qb.2 ⟨p,hp,rfl⟩))) (h _ (QK _ (Qb.2 ⟨p,hp,rfl⟩)))
 |buf e sz fr=>rfl
 |Zg e sz cs n=>simp only[Ze.Zcp];congr 1;exact(U3 h).trans (QaL cs)
 |iter x y s q=>rfl
 |var b t cs=>simp only[Ze.Zcp];congr 1;exact(U3 h).trans (QaL cs)
 |lrec l N fo tm ps ca cb st pend=>rfl
theorem Inside.mono{p q:Nat→Prop}(hpq:∀x,p x→q x){a:AV}(h:Inside n p a):Inside n q a:=by
 have f:∀l k:Nat,(l<n∨(l=n∧p k))→(l<n∨(l=n∧q k)):=fun l k h=>h.imp id fun h=>⟨h.1,hpq _ h.2⟩
 induction h with
 |int k i=>exact .int k i
 |bool b=>exact .bool b
 |str l=>exact .str l
 |nilp=>exact .nilp
 |ptr l k off h=>exact .ptr l k off (f _ _ h)
 |iptr cs _ ih=>exact .iptr cs ih
 |sl k xs o _ ho ih=>exact .sl k xs o ih (fun l j e=>f _ _ (ho l j e))
 |nilf=>exact .nilf
 |fn g caps _ ih=>exact .fn g caps ih
 |bfn g caps _ ih=>exact .bfn g caps ih
 |nilm=>exact .nilm
 |map l k h=>exact .map l k (f _ _ h)
 |msl sz l k i h=>exact .msl sz l k i (f _ _ h)
 |eptr l k i off h=>exact .eptr l k i off (f _ _ h)
 |ssl k xs ys _ ih=>exact .ssl k xs ys ih
 |nili=>exact .nili
 |Xg=>exact .Xg
 |sln k=>exact .sln k
 |sub sz l k i off m h=>exact .sub sz l k i off m (f _ _ h)
 |ifc t a _ ih=>exact .ifc t a ih
 |agg cs _ ih=>exact .agg cs ih
 |tup cs _ ih=>exact .tup cs ih
 |dead=>exact .dead
def Zev(n j l k:Nat)(L:List (Nat×Ze)):List (Nat×Ze):=(delb L j).map fun p=>(p.1,p.2.Zcp (ren n j l k))
theorem ZiA{f:Ze→Ze}:∀(L:List (Nat×Ze)) (t:Nat),lkb (L.map fun p=>(p.1,f p.2)) t=(lkb L t).map f
 |[],t=>rfl
 |(i,b)::r,t=>by
  simp only[Qs,lkb];split
  ·rfl
  ·exact ZiA r t
theorem Zi2{N:Nat}{tm tm':List (Nat×AV)}{L:List (Nat×Ze)}{H:Za}(j l k:Nat)(hl:l<n)(hfree:H l k=none)(hj:lkb L j=some b)(hb:b.Below n)
  (h1:∀p∈tm',Zgd n j (lkv tm p.1)∧Wk (ren n j l k (lkv tm p.1)) p.2) (hL:∀p∈delb L j,(∀a∈p.2.avs,Zgd n j a)∧(∀q∈p.2.at_,¬(q.1=n∧q.2=j))∧p.2.isRec=false):
  AWk n N ⟨tm,L,H⟩ ⟨tm',Zev n j l k L,H.upd l k b⟩:=fun B E w a hs=>by
 have h:=hs.heap;have hne:l≠n:=by omega
 obtain⟨hm0,hg0,hh0⟩:=h.dom l k om (by simp only[full,if_neg hne];exact hfree);have hmx:∀x y,(E.swap n j l k).m x y=E.m (sw n j l k x y).1 (sw n j l k x y).2:=fun _ _=>rfl
 have hgx:∀x y,(E.swap n j l k).g x y=E.g (sw n j l k x y).1 (sw n j l k x y).2:=fun _ _=>rfl
 have hf:full n (Zev n j l k L) (H.upd l k b) n j=none:=by
  simp only[full,if_true,Zev,ZiA,lkb_delb];rfl
 have hto:full n (Zev n j l k L) (H.upd l k b) l k=some b:=by
  simp only[full,if_neg hne,Za.upd_same]
 have hot:∀x y,¬(x=n∧y=j)→ ¬(x=l∧y=k)→full n (Zev n j l k L) (H.upd l k b) x y=if x=n then(lkb L y).map (fun b=>b.Zcp (ren n j l k))else H x y:=fun x y c1 c2=>by
  simp only[full];split
  ·rename_i e;simp only[Zev,ZiA,lkb_delb];rw[if_neg (fun e'=>c1 ⟨e,e'⟩)]
  ·exact Za.upd_ne _ _ c2
 have hnone:∀x y,¬(x=n∧y=j)→ ¬(x=l∧y=k)→full n (Zev n j l k L) (H.upd l k b) x y=none→full n L H x y=none:=fun x y c1 c2 e=>by
  rw[hot x y c1 c2]at e;simp only[full];split
  ·rename_i e';rw[if_pos e']at e;simpa using e
  ·rename_i e';rw[if_neg e']at e;exact e
 have hfn:full n L H n j=some b:=by simp only[full,if_true];exact hj
 have hfl:full n L H l k=none:=by simp only[full,if_neg hne];exact hfree
 refine⟨E.swap n j l k,⟨hs.size,hs.defs.sub (fun b ho=>ho.elim (fun⟨x,y,hm⟩=>.inl ⟨_,_,hm⟩) (fun⟨x,y,hm⟩=>.inr ⟨_,_,hm⟩)),fun t=>?_,{norm:=?_,F:=h.F,blk:=fun x y bb hx hbb=>?_,dom:=fun x y hx hbb=>?_,nobuf:=fun x y hg=>?_,inj:=?_,injg:=?_,mg:=?_,mF:=?_,lt:=?_},fun x y bb hx hbb=>?_⟩,
  ⟨⟨fun _ _ _ h=>h,fun x y r hx hm=>?_,fun x y i v hx hm=>?_,rfl⟩,rfl,rfl,rfl,fun _=>Qe _,Qe _,fun _ _ _=>rfl,fun r _ ho=>?_⟩⟩
 ·show VR _ (lkv tm' t) _;rcases lkv_mem (tm:=tm') (t:=t)with hd|hm
  ·rw[hd];exact .dead _
  ·obtain⟨q1,q2⟩:=h1 _ hm;exact q2.vr ((hs.tmps t).ren hl hm0 hh0 q1)
 ·refine⟨fun x y hx=>?_,fun x y hx=>?_,fun x y i hx=>?_⟩<;>simp only[Env.swap]<;>rw[X9 om om]
  ·exact h.norm.m x y hx
  ·exact h.norm.g x y hx
  ·exact h.norm.hist x y i hx
 ·by_cases c2:x=l∧y=k
  ·obtain⟨rfl,rfl⟩:=c2;rw[hto]at hbb;cases hbb;have:=(h.blk n j b (Qr n) hfn).Zrn (E':=E.swap n j x y) (w':=w) (l':=x) (k':=y) (fun a=>a) (by rw[hmx,ZeR hne]) (by rw[hgx,ZeR hne]) (fun i=>by simp only[Env.swap,ZeR hne]) (fun p hp r hr=>?_) (fun _ _=>rfl) (fun _ _ _ h=>h)
    (fun a ha v hv=>hv.swap hl hm0 hh0 ((hb.1 a ha).inside)) (fun _ _ _=>rfl)
   ·rw[Zqe (fun _ _=>rfl)]at this;exact this
   ·have:=hb.2 p hp;rw[hmx,X9 om (fun c=>by rw[c.1,c.2,hm0]at hr;cases hr)];exact hr
  ·by_cases c1:x=n∧y=j
   ·obtain⟨rfl,rfl⟩:=c1;rw[hf]at hbb;cases hbb
   ·rw[hot x y c1 c2]at hbb;have e0:sw n j l k x y=(x,y):=X9 c1 c2;split at hbb
    ·rename_i e;subst e;simp only[Ul]at hbb;obtain⟨b0,hb0,rfl⟩:=hbb;have hmem:(y,b0)∈delb L j:=by
      have:=lkb_delb L j y;rw[if_neg (fun e'=>c1 ⟨rfl,e'⟩),hb0]at this;exact lkb_mem this
     obtain⟨t1,t2,t3⟩:=hL _ hmem;refine(h.blk x y b0 hx (by simp only[full,if_true];exact hb0)).Zrn _ (by rw[hmx,e0]) (by rw[hgx,e0]) (fun i=>by simp only[Env.swap,e0]) (fun p hp r hr=>?_) (fun _ _=>rfl) (fun _ _ _ h=>h) (fun a ha v hv=>hv.ren hl hm0 hh0 (t1 a ha)) (fun e=>by rw[t3]at e;cases e);rw[hmx,X9 (t2 p hp) (fun c=>by rw[c.1,c.2,hm0]at hr;cases hr)];exact hr
    ·rename_i e;have hbl:=hs.out x y bb om hbb;refine(h.blk x y bb hx (by simp only[full,if_neg e];exact hbb)).keep (by rw[hmx,e0]) (by rw[hgx,e0]) (fun i=>by simp only[Env.swap,e0]) (fun p hp r hr=>?_) (fun _ _=>rfl) (fun _ _ _ h=>h) (fun a ha v hv=>hv.swap hl hm0 hh0 (hbl.1 a ha).inside);have:=hbl.2 p hp;rw[hmx,X9 om (fun c=>by rw[c.1,c.2,hm0]at hr;cases hr)];exact hr
 ·by_cases c2:x=l∧y=k
  ·rw[c2.1,c2.2,hto]at hbb;cases hbb
  ·by_cases c1:x=n∧y=j
   ·simp only[Env.swap,c1.1,c1.2,ZmO];exact⟨hm0,hg0,hh0⟩
   ·have e0:sw n j l k x y=(x,y):=X9 c1 c2;simp only[Env.swap,e0];exact h.dom x y hx (hnone x y c1 c2 hbb)
 ·by_cases c2:x=l∧y=k
  ·rw[c2.1,c2.2];rw[hgx,c2.1,c2.2,ZeR hne]at hg;obtain⟨b',hb',hbi⟩:=h.nobuf n j hg;rw[hfn]at hb';cases hb';exact⟨b,hto,hbi⟩
  ·by_cases c1:x=n∧y=j
   ·rw[hgx,c1.1,c1.2,ZmO]at hg;exact absurd hg0 hg
   ·rw[hgx,X9 c1 c2]at hg;obtain⟨b',hb',hbi⟩:=h.nobuf x y hg;rw[hot x y c1 c2];simp only[full]at hb';split
    ·rename_i e;rw[if_pos e]at hb';refine⟨_,by rw[hb'];rfl,?_⟩;cases b'<;>first|rfl|cases hbi
    ·rename_i e;rw[if_neg e]at hb';exact⟨b',hb',hbi⟩
 ·intro x y x' y' r a1 a2;rw[hmx]at a1 a2;have:=h.inj _ _ _ _ _ a1 a2;exact ZoM hne (Qa9 this.1 this.2)
 ·intro x y x' y' r a1 a2;rw[hgx]at a1 a2;have:=h.injg _ _ _ _ _ a1 a2;exact ZoM hne (Qa9 this.1 this.2)
 ·intro x y x' y' r a1 a2;rw[hmx]at a1;rw[hgx]at a2;exact h.mg _ _ _ _ _ a1 a2
 ·intro x y r o a1;rw[hmx]at a1;exact h.mF _ _ _ _ a1
 ·intro r hr;rcases hr with⟨x,y,hm⟩|⟨x,y,hm⟩
  ·exact h.lt r (.inl ⟨_,_,hm⟩)
  ·exact h.lt r (.inr ⟨_,_,hm⟩)
 ·simp only[Za.upd]at hbb;split at hbb
  ·cases hbb;exact hb
  ·exact hs.out x y bb hx hbb
 ·rw[hmx,X9 om (fun c=>by rw[c.1,c.2,hm0]at hm;cases hm)];exact hm
 ·simp only[Env.swap];rw[X9 om (fun c=>by rw[c.1,c.2,hh0]at hm;cases hm)];exact hm
 ·rcases ho with⟨x,y,hm⟩|⟨x,y,hm⟩
  ·exact .inl ⟨_,_,hm⟩
  ·exact .inr ⟨_,_,hm⟩
end
theorem Zb6(ro:Option Nat)(n:Nat):(fr ro).room n:=fun _ h=>by cases h
section
variable {c:Code} {P:Program} {n:Nat}
theorem Zfj{ro:Option Nat}{Q:Exit→Act→World→Prop}{a:Act}{w:World}(h:c.wpIn (fr ro) 0 P Q a w):c.wpIn (fr ro) n P Q a w:=
 fun b k cs h1 h2 _=>h b k cs h1 h2 (Zb6 _ _)
variable {pd:Option Code} {st:LoopState} {ca cb:Code} {ps:Array Tmp} {tm:List (Nat×AV)} {x y l N fo:Nat}
theorem Zt.VG{M:Nat}{G:Za}{E:Env}{w:World}(h:Zt M G E w)(hx:x<M)
  (hG:G x y=some (.lrec l N fo tm ps ca cb st pd)):
  ∃rc:Loop,w.heap[l]? =some (.loop rc)∧rc.params=ps∧rc.assign=ca∧rc.body=cb∧rc.state=st∧rc.pending=pd∧rc.tmps.size=N∧(∀t,VR E (lkv tm t) (rc.tmps.getD t undef))∧(fo≠0→rc.fn+1=fo)∧
   ∀st' pd',Zt M (G.upd x y (.lrec l N fo tm ps ca cb st' pd')) E (w.putObj l (.loop {rc with state:=st',pending:=pd'}))∧Ext M E w E (w.putObj l (.loop {rc with state:=st',pending:=pd'})):=by
 obtain⟨hm,rc,h1,h2,h3,h4,h5,h6,h7,h8,h10⟩:=h.blk x y _ hx hG;have hlt:l<w.heap.size:=(QN.1 h1).1;refine⟨rc,h1,h2,h3,h4,h5,h6,h7,h8,h10,fun st' pd'=>?_⟩;exact h.turn (.inl hm) _ (fun hg=>absurd (h.m_g hm) hg) rfl rfl rfl (fun _=>Qe _) World.putObj_size (fun b' hne=>World.putObj_heap_other hne) (fun o=>h.mF _ _ _ o hm)
  ⟨hm,{rc with state:=st',pending:=pd'},World.putObj_heap_same hlt,h2,h3,h4,rfl,rfl,h7,h8,h10⟩
def zipT:List Tmp→List AV→List (Nat×AV)→List (Nat×AV)
 |p::ps,a::az,tm=>zipT ps az ((p,a)::tm)
 |_,_,tm=>tm
theorem ZgQ{E:Env}:∀(ps:List Tmp) (az:List AV) (vs:List Value) (tm:List (Nat×AV)) (arr:Array Value),VRs E az vs→(∀p∈ps,p<arr.size)→(∀t,VR E (lkv tm t) (arr.getD t undef))→
  ∀t,VR E (lkv (zipT ps az tm) t) (((ps.zip vs).foldl (fun a (p:Tmp×Value)=>a.setIfInBounds p.1 p.2) arr).getD t undef)
 |[],az,vs,tm,arr,_,_,h=>by simpa[zipT]using h
 |p::ps,[],vs,tm,arr,hv,_,h=>by
  rw[hv.of_nil];simpa[zipT]using h
 |p::ps,a::az,vs,tm,arr,hv,hp,h=>by
  obtain⟨v,r,rfl,h1,h2⟩:=hv.YR;simp only[zipT,List.zip_cons_cons,Uu];refine ZgQ ps az r _ _ h2 (fun q hq=>by simpa using hp q (Qx _ hq)) ?_;intro t;simp only[lkv,Ua];by_cases ht:p=t
  ·subst ht;have:=hp p sm;rw[if_pos rfl];simpa[this]using h1
  ·rw[if_neg ht,UN ht];have:=h t
   rwa [Ua]at this
theorem zipT_size:∀(l:List (Tmp×Value)) (arr:Array Value),(l.foldl (fun a (p:Tmp×Value)=>a.setIfInBounds p.1 p.2) arr).size=arr.size
 |[],_=>rfl
 |p::l,arr=>by rw[Uu,zipT_size l];simp
def ZiZ(Q:AV→Za→Prop)(x y l N fo:Nat)(tm:List (Nat×AV))(ps:Array Tmp)(ca cb:Code):Exit→Zb→Prop:=fun e s=>
 s.H x y=some (.lrec l N fo tm ps ca cb .busy none)∧match e with
  | .normal=>Q (.bool true) (s.H.upd x y (.lrec l N fo tm ps ca cb .ready none))
  | .ret=>Q (.bool false) (s.H.upd x y (.lrec l N fo tm ps ca cb .done (some .ret)))
  | .exit id=>Q (.bool false) (s.H.upd x y (.lrec l N fo tm ps ca cb .done (some (.exit id))))
  |_=>False
variable {Q:AV→Za→Prop} {H:Za} {args:List AV}
theorem ZkZ{m:Nat}(hH:H x y=some (.lrec l N fo tm ps ca cb .ready none))(hx:x<m)
  (hps:args.length=ps.size) (hN:∀p∈ps.toList,p<N)
  (h:∀B,AK P ⟨some l,B⟩ m N [.code ca] (fun e s=>e= .normal∧s.H x y=some (.lrec l N fo tm ps ca cb .ready none)∧
   AK P ⟨some l,B⟩ m N [.code cb] (ZiZ Q x y l N fo tm ps ca cb) ⟨s.tmps,s.L,s.H.upd x y (.lrec l N fo tm ps ca cb .busy none)⟩) ⟨zipT ps.toList args tm,[],H⟩):VD P m l args H Q:=fun E w vs hr hv=>by
 have hfull:∀(L:List (Nat×Ze)) (H:Za),full m L H x y=H x y:=fun L H=>by simp only[full];rw[if_neg om]
 obtain⟨rc,h1,h2,h3,h4,h5,h6,h7,h8,_,_⟩:=hr.VG hx hH;have hlen:=hv.1;have hy:=run_yield (P:=P) (args:=vs.toArray) h1 (by rw[h2,←hps,←hlen];simp);refine⟨_,_,_,_,hy,fun ro n=>?_⟩;refine roundIn_of_wpIn (F:=fr ro) trivial ?_;rw[h2,h3,h4];have hz:(ps.zip vs.toArray).foldl (fun tmps (p:Tmp×Value)=>tmps.setIfInBounds p.1 p.2) rc.tmps=(ps.toList.zip vs).foldl (fun a (p:Tmp×Value)=>a.setIfInBounds p.1 p.2) rc.tmps:=by
  rw[←Array.foldl_toList];simp
 have hs:Yn ⟨w.heap.size,[]⟩ m N ⟨zipT ps.toList args tm,[],H⟩ E {tmps:=(ps.zip vs.toArray).foldl (fun tmps (p:Tmp×Value)=>tmps.setIfInBounds p.1 p.2) rc.tmps,defers:=[]} w:=by
  refine⟨by rw[hz,zipT_size];exact h7,.nil _ (Qe _),fun t=>?_,hr.enter,fun l k b hl hb=>hr.out hl hb⟩;rw[hz];exact ZgQ _ _ _ _ _ hv (fun p hp=>by rw[h7];exact hN p hp) h8 t
 refine Zfj (ro:=some l) (wpIn_mono (h ⟨w.heap.size,[]⟩ E w _ hs) ?_);rintro e a1 w1 ⟨s1,E1,⟨rfl,hr1,hk⟩,hs1,hx1⟩;have hG1:full m s1.L s1.H x y=some (.lrec l N fo tm ps ca cb .ready none):=by rw[hfull];exact hr1
 obtain⟨rc1,g1,g2,g3,g4,g5,g6,g7,g8,_,g9⟩:=hs1.heap.VG (show x<m+1 by omega) hG1;obtain⟨hh,hhx⟩:=g9 .busy none;have hbe:({rc1 with state:=.busy}:Loop)={rc1 with state:=.busy,pending:=none}:=by rw[←g6]
 refine⟨_,run_beginRound g1 g5,Zfj (ro:=some l) (wpIn_mono ?_ fun _ _ _ h=>h)⟩;rw[hbe];have hbl:∀st pd,(Ze.lrec l N fo tm ps ca cb st pd).Below m:=fun st pd=>by
  have:=hs1.out x y _ hx hr1;exact⟨this.1,this.2⟩
 have hs2:Yn ⟨w.heap.size,[]⟩ m N ⟨s1.tmps,s1.L,s1.H.upd x y (.lrec l N fo tm ps ca cb .busy none)⟩ E1 a1 (w1.putObj l (.loop {rc1 with state:=.busy,pending:=none})):=by
  refine⟨hs1.size,hs1.defs.ext hhx,fun t=>(hs1.tmps t),?_,fun l' k' b hl hb=>?_⟩
  ·rw[Yj m _ _ _ _ _ om];exact hh
  ·simp only[Za.upd]at hb;split at hb
   ·cases hb;exact hbl _ _
   ·exact hs1.out l' k' b hl hb
 refine wpIn_mono (AC.run hk hs2 (hx1.trans (hhx.mono (Uj m)))) ?_;rintro e a2 w2 ⟨s2,E2,⟨hb2,hq⟩,hs3,hx2⟩;have hG2:full m s2.L s2.H x y=some (.lrec l N fo tm ps ca cb .busy none):=by rw[hfull];exact hb2
 obtain⟨rc2,f1,f2,f3,f4,f5,f6,f7,f8,_,f9⟩:=hs3.heap.VG (show x<m+1 by omega) hG2;have fin:∀(jump:Option Code) (st:LoopState),(if jump.isNone then LoopState.ready else .done)=st→Q (.bool jump.isNone) (s2.H.upd x y (.lrec l N fo tm ps ca cb st jump))→
   ∃v w',(Instr.endRound l jump).run P w2= .ok v w'∧ ∃r v' H' E',Ending.returned v= .returned v'∧Q r H'∧VR E' r v'∧Zt m H' E' w'∧Ext m E w E' w':=fun jump st hst hQ=>by
  obtain⟨hh2,hhx2⟩:=f9 st jump;have hend:=run_endRound (P:=P) jump f1;rw[hst]at hend;have hs4:Yn ⟨w.heap.size,[]⟩ m N ⟨s2.tmps,s2.L,s2.H.upd x y (.lrec l N fo tm ps ca cb st jump)⟩ E2 a2 (w2.putObj l (.loop {rc2 with state:=st,pending:=jump})):=by
   refine⟨hs3.size,hs3.defs.ext hhx2,hs3.tmps,?_,fun l' k' b hl hb=>?_⟩
   ·rw[Yj m _ _ _ _ _ om];exact hh2
   ·simp only[Za.upd]at hb;split at hb
    ·cases hb;exact hbl _ _
    ·exact hs3.out l' k' b hl hb
  have hxx:=hx2.trans (hhx2.mono (Uj m));refine⟨_,_,hend,.bool jump.isNone,_,_,E2.cut m,rfl,hQ,.bool _,Zt.leave hs4,⟨Env.ZiT hxx.le,hxx.os,hxx.tape,hxx.output,hxx.drawn,hxx.size,hxx.block,fun b hb' ho=>hxx.own b hb' ?_⟩⟩;rcases ho with⟨l,k,hm⟩|⟨l,k,hm⟩
  ·simp only[Env.cut]at hm;split at hm
   ·exact .inl ⟨l,k,hm⟩
   ·cases hm
  ·simp only[Env.cut]at hm;split at hm
   ·exact .inr ⟨l,k,hm⟩
   ·cases hm
 cases e with
 |normal=>exact fin none .ready rfl hq
 |ret=>exact fin (some .ret) .done rfl hq
 |exit id=>exact fin (some (.exit id)) .done rfl hq
 |_=>exact hq.elim
variable {caps:List AV} {k:List Itm}
theorem ZhV{B:Base}{g:Operand}{Q:Exit→Zb→Prop}{s:Zb}{gf:FuncId}{fn:Func}(y:Nat)
  (hg:evT s.tmps g= .fn (.func gf) caps) (hf:Fun P gf fn c) (hy:lkb s.L y=none)
  (h:∀l,∃Qc,Zi P (n+1) gf ([.fn (.yield l) []]++caps) (full n (setb s.L y (.lrec l N 0 s.tmps ps ca cb .ready none)) s.H) Qc∧
   ∀r H1,Qc r H1→ ∃L1 H2 st pd,H1=full n L1 H2∧ZL n s.H H2∧lkb L1 y=some (.lrec l N 0 s.tmps ps ca cb st pd)∧st≠ .busy∧
    (match pd with
     |none=>AK P ⟨none,B⟩ n N k Q ⟨s.tmps,setb L1 y (.lrec l N 0 s.tmps ps ca cb .exhausted none),H2⟩
     |some c=>AK P ⟨none,B⟩ n N (.code c::k) Q ⟨s.tmps,setb L1 y (.lrec l N 0 s.tmps ps ca cb .exhausted (some c)),H2⟩)):
  AK P ⟨none,B⟩ n N (.code (.rangeFunc g ps ca cb)::k) Q s:=fun E w a hs=>by
 refine wpIn_rangeFunc (F:=fr none) (n:=0) fun fid _=>?_
 have hgv:=Zdp hs.tmps g;rw[hg]at hgv;generalize hgy:a.eval g=gy at hgv;cases hgv with|fn _ _ vs hl hvs=>
 obtain⟨W0,hW0⟩:∃W0,w.alloc (.deferred (some []))=W0:=⟨_,rfl⟩
 have hsz0:W0.heap.size=w.heap.size+1:=by rw[←hW0];simp
 have hold0:∀b,b<w.heap.size→W0.heap[b]? =w.heap[b]?:=fun b hb=>by
  rw[←hW0];simp only[World.alloc,U1];rw[if_neg om]
 have hD0:W0.heap[w.heap.size]? =some (.deferred (some [])):=by rw[←hW0];exact World.alloc_heap_new w _
 obtain⟨r0,x0⟩:=hs.heap.grow (w':=W0) (F':=E.F) (by rw[←hW0];rfl) (by rw[←hW0];rfl) (by rw[←hW0];rfl) (fun _=>by rw[←hW0];exact Qe _) om hold0 (fun _ _ _ h=>h)
  (fun b o v hf=>by
   have hlt:=hs.heap.Zco hf;have:=hs.heap.F b o v hf;simp only[World.cell?,hold0 b hlt]at this⊢;exact this) (fun _ _ _=>rfl)
 have hfree:full n s.L s.H n y=none:=by simp only[full,if_true];exact hy
 obtain⟨rc,hrc⟩:∃rc:Loop,rc={state:=.ready,pending:=none,fn:=fid,tmps:=a.tmps,params:=ps,assign:=ca,body:=cb,defers:=w.heap.size}:=⟨_,rfl⟩
 have hnew:(W0.alloc (.loop rc)).heap[W0.heap.size]? =some (.loop rc):=World.alloc_heap_new _ _;have hle0:E.le (n+1) (E.XZ n y W0.heap.size):=by
  refine⟨fun _ _ _ h=>h,fun l' k' b _ hm=>?_,fun _ _ _ _ _ h=>h,rfl⟩;simp only[Env.XZ];rw[if_neg (fun hc=>by rw[hc.1,hc.2,(hs.heap.dom n y (Qr n) hfree).1]at hm;cases hm)];exact hm
 obtain⟨r1,x1⟩:=r0.Zdi (l:=n) (k:=y) (Qr n) hfree (.loop rc) (.lrec W0.heap.size N 0 s.tmps ps ca cb .ready none) (by
  refine⟨by simp[Env.XZ],rc,hnew,by rw[hrc],by rw[hrc],by rw[hrc],by rw[hrc],by rw[hrc],by rw[hrc];exact hs.size,fun t=>?_,fun h=>absurd rfl h⟩;rw[hrc];exact(hs.tmps t).mono hs.heap.norm hle0)
 have hx1:=(x0.trans x1)
 obtain⟨Qc,hc,hk⟩:=h W0.heap.size;rw[Zm]at hc;have hl0:w.heap.size+1=W0.heap.size:=hsz0.symm;refine⟨w.heap.size+1,[mark w.heap.size],W0.alloc (.loop rc),{target:=.fn (.func gf) vs.toArray,args:=#[.func (.yield W0.heap.size) #[] #[]]},W0.alloc (.loop rc),gf,
  #[.func (.yield W0.heap.size) #[] #[]]++vs.toArray,W0.alloc (.loop rc),?_,?_,fun _ _=>trivial,?_,JI,JA ?_⟩
 ·rw[hrc,←hW0];exact run_enterLoop_outer _ _ _ _ _
 ·rw[hl0];simp only[resolve,rangeCall,hgy];simp[go_sem]
 ·simp[invoke,Y4 hf]
 have hvs1:VRs (E.XZ n y W0.heap.size) ([.fn (.yield W0.heap.size) []]++caps) ([.func (.yield W0.heap.size) #[] #[]]++vs):=
  VRs.append (VRs.cons (VR.fn _ [] [] rfl (fun i h=>absurd h (Qm _))) (VRs.nil _)) ((show VRs E caps vs from⟨hl,hvs⟩).mono hs.heap.norm hle0)
 have hcall:=hc _ _ _ r1 hvs1;rw[show([Value.func (.yield W0.heap.size) #[] #[]]++vs).toArray= #[.func (.yield W0.heap.size) #[] #[]]++vs.toArray by simp]at hcall;refine hcall.mono ?_;rintro e w3 ⟨r,v,H1,E3,rfl,hq,hv3,hh3,hx3⟩;obtain⟨L1,H2,st,pd,rfl,ho,hl1,hst,hkk⟩:=hk _ _ hq;have hG:full n L1 H2 n y=some (.lrec W0.heap.size N 0 s.tmps ps ca cb st pd):=by simp only[full,if_true];exact hl1
 obtain⟨rc3,f1,f2,f3,f4,f5,f6,f7,f8,_,f9⟩:=hh3.VG (Qr n) hG;obtain⟨hh4,hx4⟩:=f9 .exhausted pd;have hend:=run_endLoop (P:=P) f1 (by rw[f5];exact hst);rw[f6]at hend;rw[hl0];have hxa:=(hx1.trans hx3).trans hx4;have hlW:∀b,b<W0.heap.size→(W0.alloc (.loop rc)).heap[b]? =W0.heap[b]?:=fun b hb=>by
  simp only[World.alloc,U1];rw[if_neg om]
 have hDn:¬(E.XZ n y W0.heap.size).own w.heap.size:=by
  rintro(⟨l',k',hm⟩|⟨l',k',hm⟩)
  ·simp only[Env.XZ]at hm;split at hm
   ·simp only[Qq]at hm;omega
   ·have:=hs.heap.lt _ (.inl ⟨_,_,hm⟩);omega
  ·have:=hs.heap.lt _ (.inr ⟨_,_,hm⟩);omega
 have hdl:Zcs ⟨B.lo,[]⟩ (E.XZ n y W0.heap.size) [mark w.heap.size] (W0.alloc (.loop rc)):=by
  refine⟨?_,[w.heap.size],rfl,sm,fun D hD=>?_⟩
  ·have h0:B.lo≤w.heap.size:=hs.defs.1;simp;omega
  ·have:D=w.heap.size:=by simpa using hD
   subst this;exact⟨hs.defs.1,by rw[hlW _ om];exact hD0,hDn⟩
 have hdefs:Zcs B E3 (mark w.heap.size::a.defers) (w3.putObj W0.heap.size (.loop {rc3 with state:=.exhausted,pending:=pd})):=by
  obtain⟨d0,l1,d1,d2,d3⟩:=(hdl.ext hx3).ext hx4;obtain⟨e0,l2,e1,e2,e3⟩:=hs.defs.ext hxa;refine⟨e0,w.heap.size::l2,by rw[e1];rfl,Gm.2 ⟨fun hm=>?_,e2⟩,fun D hD=>?_⟩
  ·obtain⟨_,l3,c1,c2,c3⟩:=hs.defs;rw[e1,QaM]at c1;have hll:l2=l3:=by
    have inj:∀(a b:List Nat),a.map mark=b.map mark→a=b:=by
     intro a;induction a with
     |nil=>intro b hb;cases b with
      |nil=>rfl
      |cons _ _=>cases hb
     |cons x a ih=>intro b hb;cases b with
      |nil=>cases hb
      |cons z b=>
       simp only[Qs,Ub,mark,Deferred.mk.injEq,Target.collected.injEq,and_true]at hb;rw[hb.1,ih b hb.2]
    exact inj _ _ c1
   have:=(QN.1 (c3 _ (hll▸hm)).2.1).1;omega
  ·rcases Qk.1 hD with rfl|hD
   ·have:w.heap.size∈l1:=by
     cases l1 with
     |nil=>cases d1
     |cons z l1=>
      simp only[Qu,Qs,Ub,mark,Deferred.mk.injEq,Target.collected.injEq,and_true]at d1;rw[d1.1];simp
    exact d3 _ this
   ·exact e3 D hD
 have hs4:∀pd',pd'=pd→Yn B n N ⟨s.tmps,setb L1 y (.lrec W0.heap.size N 0 s.tmps ps ca cb .exhausted pd'),H2⟩ E3 {a with defers:=mark w.heap.size::a.defers} (w3.putObj W0.heap.size (.loop {rc3 with state:=.exhausted,pending:=pd})):=fun pd' e=>by
  subst e;refine⟨hs.size,hdefs,fun t=>(hs.tmps t).mono hs.heap.norm (hx1.trans hx3).le,?_,Yn.Wx hs.out ho⟩;rw[Zm];exact hh4
 refine⟨pd,_,hend,?_⟩;cases pd with
 |none=>exact⟨_,E3,hkk,hs4 none rfl,hxa.mono (Uj n)⟩
 |some c=>exact AC.run hkk (hs4 (some c) rfl) (hxa.mono (Uj n))
theorem Ze.ZB{cs:List AV}(h:Yi (fun c=>Abs.Below n c) cs):Ze.Below n (.box cs):=⟨h.mem,by simp[Ze.at_]⟩
theorem Ze.ZaL(h:Yi (fun p=>Abs.Below n p.2) tm):Ze.Below n (.lrec l N fo tm ps ca cb st pd):=by
 refine⟨fun a ha=>?_,by simp[Ze.at_]⟩;simp only[Ze.avs]at ha;obtain⟨p,hp,rfl⟩:=Qb.1 ha;rcases lkv_mem (tm:=tm) (t:=p.1)with hd|hm
 ·rw[hd];exact .dead
 ·exact h.mem _ hm
theorem Zha(T:TT){m:Nat}(hH:H x y=some (.lrec l N fo tm ps ca cb .ready none))(hx:x<m)
  (hps:args.length=ps.size) (hN:∀p∈ps.toList,p<N)
  (h:∀B,AKc ⟨P,T,⟨some l,B⟩,m,N⟩ [.code ca] (fun e s=>e= .normal∧s.H x y=some (.lrec l N fo tm ps ca cb .ready none)∧
   AKc ⟨P,T,⟨some l,B⟩,m,N⟩ [.code cb] (ZiZ Q x y l N fo tm ps ca cb) ⟨s.tmps,s.L,s.H.upd x y (.lrec l N fo tm ps ca cb .busy none)⟩) ⟨zipT ps.toList args tm,[],H⟩):VD P m l args H Q:=
 ZkZ hH hx hps hN h
theorem ZeS{T:TT}{B:Base}{g:Operand}{Q:Exit→Zb→Prop}{L:List (Nat×Ze)}{gf:FuncId}{fn:Func}{c':Code}(y:Nat)
  (hc:c= .rangeFunc g ps c.fst c.snd) (hg:evT tm g= .fn (.func gf) caps) (hf:Fun P gf fn c') (hy:lkb L y=none)
  (h:∀l,∃Qc,Zi P (n+1) gf ([.fn (.yield l) []]++caps) (full n (setb L y (.lrec l N 0 tm ps c.fst c.snd .ready none)) H) Qc∧
   ∀r H1,Qc r H1→ ∃L1 H2 st pd,H1=full n L1 H2∧ZL n H H2∧lkb L1 y=some (.lrec l N 0 tm ps c.fst c.snd st pd)∧st≠ .busy∧
    (match pd with
     |none=>AKc ⟨P,T,⟨none,B⟩,n,N⟩ k Q ⟨tm,setb L1 y (.lrec l N 0 tm ps c.fst c.snd .exhausted none),H2⟩
     |some d=>AKc ⟨P,T,⟨none,B⟩,n,N⟩ (.code d::k) Q ⟨tm,setb L1 y (.lrec l N 0 tm ps c.fst c.snd .exhausted (some d)),H2⟩)):
  AKc ⟨P,T,⟨none,B⟩,n,N⟩ (.code c::k) Q ⟨tm,L,H⟩:=by
 rw[hc];exact ZhV y hg hf hy h
end
def Zdt(n:Nat)(H:Za):Za:=fun l k=>if l<n then H l k else none
section
variable {H:Za} {n:Nat}
theorem Zt.raise{E:Env}{w:World}(hr:Zt n H E w)(m:Nat):Zt (n+m) (Zdt n H) E w:=by
 have hc:Zt n (Zdt n H) E w:=hr.congr (fun l k hl=>if_pos hl);refine{norm:=hr.norm.mono om,F:=hr.F,blk:=?_,dom:=?_,nobuf:=hc.nobuf,inj:=hr.inj,injg:=hr.injg,mg:=hr.mg,mF:=hr.mF,lt:=hr.lt}
 ·intro l k b hl hH;rcases Qg l n with h'|h'
  ·exact hc.blk l k b h' hH
  ·simp only[Zdt]at hH;rw[if_neg om]at hH;cases hH
 ·intro l k hl hH;rcases Qg l n with h'|h'
  ·exact hc.dom l k h' hH
  ·exact⟨hr.norm.m l k h',hr.norm.g l k h',fun j=>hr.norm.hist l k j h'⟩
theorem Zt.lower{M:Nat}{E:Env}{w:World}(h:Zt M H E w)(hn:n≤M)(hout:∀l k b,l<n→H l k=some b→b.Below n):Zt n H (E.cut n) w:=by
 have hcm:∀l k b,(E.cut n).m l k=some b→l<n∧E.m l k=some b:=fun l k b hm=>by
  simp only[Env.cut]at hm;split at hm
  ·exact⟨‹_›,hm⟩
  ·cases hm
 have hcg:∀l k b,(E.cut n).g l k=some b→l<n∧E.g l k=some b:=fun l k b hm=>by
  simp only[Env.cut]at hm;split at hm
  ·exact⟨‹_›,hm⟩
  ·cases hm
 refine{norm:=Env.Zgp n E,F:=h.F,blk:=?_,dom:=?_,nobuf:=?_,inj:=?_,injg:=?_,mg:=?_,mF:=?_,lt:=?_}
 ·intro l k b hl hH;have hb:=hout l k _ hl hH;refine(h.blk l k b om hH).keep (by simp only[Env.cut,if_pos hl]) (by simp only[Env.cut,if_pos hl]) (fun j=>by simp only[Env.cut,if_pos hl]) (fun p hp r hr=>?_) (fun _ _=>rfl) (fun _ _ _ h=>h) (fun a ha v hv=>hv.cut (hb.1 a ha));simp only[Env.cut,if_pos (hb.2 p hp)];exact hr
 ·intro l k hl hH;obtain⟨d1,d2,d3⟩:=h.dom l k om hH;simp only[Env.cut,if_pos hl];exact⟨d1,d2,d3⟩
 ·intro l k hg;cases hx:(E.cut n).g l k with
  |none=>exact absurd hx hg
  |some b=>
   obtain⟨hl,hg'⟩:=hcg l k b hx;exact h.nobuf l k (by rw[hg'];simp)
 ·intro l k l' k' b h1 h2;exact h.inj _ _ _ _ _ (hcm _ _ _ h1).2 (hcm _ _ _ h2).2
 ·intro l k l' k' b h1 h2;exact h.injg _ _ _ _ _ (hcg _ _ _ h1).2 (hcg _ _ _ h2).2
 ·intro l k l' k' b h1 h2;exact h.mg _ _ _ _ _ (hcm _ _ _ h1).2 (hcg _ _ _ h2).2
 ·intro l k b o h1;exact h.mF _ _ _ _ (hcm _ _ _ h1).2
 ·intro b hb;rcases hb with⟨l,k,hm⟩|⟨l,k,hg⟩
  ·exact h.lt b (.inl ⟨l,k,(hcm _ _ _ hm).2⟩)
  ·exact h.lt b (.inr ⟨l,k,(hcg _ _ _ hg).2⟩)
variable {Q:AV→Za→Prop} {args:List AV} {P:Program}
theorem Zi.up{f:FuncId}(m:Nat)
  (h:(∀l k b,l<n→H l k=some b→b.Below n)→Zi P (n+m) f args (Zdt n H) fun r H1=>Below n r∧(∃H',Q r H'∧ ∀l k,l<n→H1 l k=H' l k)∧ ∀l k b,l<n→H1 l k=some b→b.Below n):Zi P n f args H Q:=fun E w vs hr hv=>by
 refine(h (fun l k b hl hb=>hr.out hl hb) E w vs (hr.raise m) hv).mono ?_;rintro e w' ⟨r,v,H1,E',rfl,⟨hb,⟨H',hQ,hag⟩,hout⟩,h1,h2,hx⟩;refine⟨r,v,H',E'.cut n,rfl,hQ,h1.cut hb,?_,?_⟩
 ·exact(h2.lower (Gu n m) hout).congr (fun l k hl=>(hag l k hl).symm)
 ·have hxx:=hx.mono (Gu n m);refine⟨Env.ZiT hxx.le,hxx.os,hxx.tape,hxx.output,hxx.drawn,hxx.size,hxx.block,fun b hb' ho=>hxx.own b hb' ?_⟩;rcases ho with⟨l,k,hm⟩|⟨l,k,hm⟩
  ·simp only[Env.cut]at hm;split at hm
   ·exact .inl ⟨l,k,hm⟩
   ·cases hm
  ·simp only[Env.cut]at hm;split at hm
   ·exact .inr ⟨l,k,hm⟩
   ·cases hm
theorem PC.up{P:Program}{n:Nat}{f:FuncId}{args:List AV}{H:Za}{r:AV}(m:Nat)(hb:Below n r)(h:Zi P (n+m) f args (Zdt n H) fun r' H1=>r'=r∧ ∀l k,l<n→H1 l k=H l k):PC P n f args H r:=
 Zi.up m fun ho=>h.mono fun r' H1 ⟨e,hag⟩=>⟨e▸hb,⟨H,⟨e,rfl⟩,hag⟩,fun l k b hl hb=>ho l k b hl (by rw[←hag l k hl];exact hb)⟩
theorem Zi.wk{f:FuncId}{args':List AV}(h:Zi P n f args' H Q)(hw:Wks args args'):Zi P n f args H Q:=
 fun E w vs hr hv=>h E w vs hr (forall₂_vr hw hv)
theorem Pure.wk{P:Program}{f:FuncId}{args args':List AV}{r:AV}(h:Pure P f args' r)(hw:Wks args args'):Pure P f args r:=fun n H=>Zi.wk (h n H) hw
theorem Zo{T:TT}{t:Nat}{v:AV}{s:Zb}(hv:Wk (lkv s.tmps t) v)(hb:Below n v)(hQ:Q v s.H):PostF P T n [.tmp t] Q .ret s:=
 ⟨by simp[XW],[v],⟨hv,trivial⟩,by simpa using hb,hQ⟩
end
open Go.RowKit Go.WideShapes Go.ChangeShapes
def XO(r:Zv)(cs:List AV):AV:=if r.isAgg then .agg cs else cs.getD 0 .dead
def Zfz(T:TT):Nat→TypeId→Option TD
 |0,_=>none
 |f+1,t=>match T t with
  |some r=>match r.td with
   | .struct (x::_)=>Zfz T f x.2
   | .struct []=>none
   | .array _ _=>none
   |d=>some d
  |none=>none
def goodLead:Option TD→Bool
 |some (.int .i64)=>false
 |some (.int .u64)=>false
 |some _=>true
 |none=>false
def Zbq(T:TT):Nat→List (Nat×TypeId)→Option Nat
 |o,[]=>some o
 |o,x::r=>if x.1=o then(match T x.2 with|some rf=>Zbq T (o+rf.size) r|none=>none)else none
def Zle(T:TT)(S:List TypeId):Bool:=S.all fun t=>match T t with
 |some r=>match r.td with
  | .int _=>true
  | .bool=>true
  | .str=>true
  | .slice e=>S.contains e&&goodLead (Zfz T 10 e)&&(match T e with|some re=>decide (0<re.size)|none=>false)
  | .struct fs=>fs.all (fun f=>S.contains f.2)&&(Zbq T 0 fs==some r.size)
  |_=>false
 |none=>false
inductive Xx (T:TT):TypeId→List AV→Prop
 |int {t:TypeId} {r:Zv} {k:IntKind} {n:Int} (h:T t=some r) (hd:r.td= .int k) (hw:(Lit.int k n).wf=true):Xx T t [.int k n]
 |bool {t:TypeId} {r:Zv} {b:Bool} (h:T t=some r) (hd:r.td= .bool):Xx T t [.bool b]
 |str {t:TypeId} {r:Zv} {s:List UInt8} (h:T t=some r) (hd:r.td= .str) (hl:s.length≤reachBytes):Xx T t [.str s]
 |slice {t e:TypeId} {r re:Zv} (xs:List (List AV)) (h:T t=some r) (hd:r.td= .slice e) (he:T e=some re) (hx:∀x∈xs,Xx T e x) (hl:xs.length*re.bytes≤reachBytes):Xx T t [.sl re.size (xs.map (XO re)) .any]
 |struct {t:TypeId} {r:Zv} {fs:List (Nat×TypeId)} (h:T t=some r) (hd:r.td= .struct fs) (ps:List (List AV)) (hl:ps.length=fs.length) (hf:∀i (h:i<ps.length) (h':i<fs.length),Xx T fs[i].2 ps[i]):Xx T t ps.flatten
section
variable {az:List AV} {t:TypeId} {T:TT}
theorem Xx.lead(h:Xx T t az):∀f,goodLead (Zfz T f t)=true→ ∃a r,az=a::r∧(∀n,a≠ .int .i64 n)∧(∀n,a≠ .int .u64 n)∧a≠ .dead:=by
 induction h with
 | @int t r k n h hd hw=>
  intro f hg;cases f with
  |zero=>simp[Zfz,goodLead]at hg
  |succ f=>
   simp only[Zfz,h,hd]at hg;refine⟨_,_,rfl,fun m e=>?_,fun m e=>?_,fun e=>by cases e⟩<;>(cases e;simp[goodLead]at hg)
 |bool h hd=>exact fun f hg=>⟨_,_,rfl,fun _ e=>(by cases e),fun _ e=>(by cases e),fun e=>(by cases e)⟩
 |str h hd hl=>exact fun f hg=>⟨_,_,rfl,fun _ e=>(by cases e),fun _ e=>(by cases e),fun e=>(by cases e)⟩
 |slice xs h hd he hx hl=>exact fun f hg=>⟨_,_,rfl,fun _ e=>(by cases e),fun _ e=>(by cases e),fun e=>(by cases e)⟩
 | @struct t r fs h hd ps hl hf ih=>
  intro f hg;cases f with
  |zero=>simp[Zfz,goodLead]at hg
  |succ f=>
   simp only[Zfz,h,hd]at hg;cases fs with
   |nil=>simp[goodLead]at hg
   |cons x fs=>
    simp only at hg;obtain⟨a,q,e1,e2,e3⟩:=ih 0 (by rw[hl];simp) sm f hg;cases ps with
    |nil=>simp at hl
    |cons p ps=>
     simp only[Ud]at e1;exact⟨a,q++ps.flatten,by rw[List.flatten_cons,e1];rfl,e2,e3⟩
variable {cs:List AV}
theorem ZjD{r:Zv}(hone:r.isAgg=false→ ∃a,cs=[a]∧a.cells=[a]):(XO r cs).cells=cs:=by
 cases hr:r.isAgg with
 |true=>simp only[XO,hr,if_true];rfl
 |false=>
  obtain⟨a,rfl,h⟩:=hone hr;simp only[XO,hr];exact h
theorem Xx.one{r:Zv}(h:Xx T t az)(hr:T t=some r)(ha:r.isAgg=false):∃a,az=[a]∧a.cells=[a]:=by
 cases h with
 |int h hd hw=>exact⟨_,rfl,rfl⟩
 |bool h hd=>exact⟨_,rfl,rfl⟩
 |str h hd hl=>exact⟨_,rfl,rfl⟩
 |slice xs h hd he hx hl=>exact⟨_,rfl,rfl⟩
 |struct h hd ps hl hf=>
  rw[hr]at h;cases h;simp[Zv.isAgg,hd]at ha
theorem ZhI{w:World}{a:Addr}{n:Nat}{cs:List Value}(h:w.cells? 0 a n=some cs):cs.length=n∧ ∀i (hi:i<cs.length),w.cell? (a.add i)=some cs[i]:=by
 unfold World.cells? at h;rw[if_pos (Un _)]at h;have hl:cs.length=n:=by have:=mapM_some_length h;simpa using this
 refine⟨hl,fun i hi=>?_⟩;have hri:(List.range n)[i]? =some i:=by rw[List.getElem?_range om]
 have:=mapM_some_get h i i hri;rw[this,Qd hi]
section
variable {P:Program} {T:TT} {H:Type} {enc:TypeId×Value→H} {W:World} {E:Env} {X:Nat→Prop}
theorem Zf4{T:TT}:∀{fs:List (Nat×TypeId)} {o m:Nat},Zbq T o fs=some m→o≤m
 |[],o,m,h=>by simp[Zbq]at h;omega
 |x::fs,o,m,h=>by
  simp only[Zbq]at h;split at h
  ·split at h
   ·have:=Zf4 h;omega
   ·cases h
  ·cases h
theorem Zrb(hT:TOK P T)(S:List TypeId)(hS:Zle T S=true)(hF:∀b o v,¬X b→W.cell? ⟨b,o,none⟩=some v→E.F b o=some v)
  (hX:∀b o v,X b→W.cell? ⟨b,o,none⟩=some v→(∃n,v= .int .i64 n)∨ ∃n,v= .int .u64 n):
  ∀(fuel:Nat) (t:TypeId) (cs:List Value) (x:DataW H×List MemPlace),t∈S→DataW.trod enc P W 0 (fun _=>true) true fuel t cs=some x→(∀n∈x.1.weights P t,n≤reachBytes)→
   ∃az,Xx T t az∧VRs E az cs:=by
 intro fuel;induction fuel with
 |zero=>intro t cs x _ h;simp[DataW.trod]at h
 |succ fuel ih=>
  intro t cs x ht h hw;have hSt:=(QA.1 hS) t ht;cases hr:T t with
  |none=>rw[hr]at hSt;cases hSt
  |some r=>
  rw[hr]at hSt;obtain⟨d,i,z,hf⟩:=Zd (hT t r hr);cases hd:r.td with
  |int k=>
   have hd':d= .int k:=by have:=hf.fits;rw[hd]at this;cases d<;>simp[TD.fits]at this;subst this;rfl
   subst hd';obtain⟨n,rfl,rfl,hwf⟩:=DataW.trod_int hf.und h;exact⟨_,.int hr hd hwf,VRs.cons (.int _ _) (VRs.nil E)⟩
  |bool=>
   have hd':d= .bool:=by have:=hf.fits;rw[hd]at this;cases d<;>simp[TD.fits]at this;rfl
   subst hd';obtain⟨b,rfl,rfl⟩:=DataW.trod_bool hf.und h;exact⟨_,.bool hr hd,VRs.cons (.bool _) (VRs.nil E)⟩
  |str=>
   have hd':d= .string:=by have:=hf.fits;rw[hd]at this;cases d<;>simp[TD.fits]at this;rfl
   subst hd';obtain⟨s,rfl,rfl,hs⟩:=DataW.trod_string hf.und h;refine⟨[.str s.data.toList],.str hr hd (hw _ (by simp[DataW.weights])),VRs.cons ?_ (VRs.nil E)⟩;have:s=⟨s.data.toList.toArray⟩:=by simp
   conv=>rhs;rw[this]
   exact .str _
  |slice e=>
   simp only[hd,Qi]at hSt;obtain⟨⟨he,hlead⟩,hsz⟩:=hSt;have heS:e∈S:=by simpa using he
   cases hre:T e with
   |none=>rw[hre]at hsz;cases hsz
   |some re=>
   rw[hre]at hsz;have hpos:0<re.size:=by simpa using hsz
   obtain⟨d',i',z',hf'⟩:=Zd (hT e re hre);have hd':d= .slice e:=ZH (hd▸hf.fits);subst hd';have hce:P.cellsOf e=re.size:=by simp[Program.cellsOf,hf'.info,hf'.size]
   have hbe:P.bytesOf e=re.bytes:=by simp[Program.bytesOf,hf'.info,hf'.bytes]
   rcases DataW.trod_slice hf.und h with⟨rfl,rfl⟩|⟨a,len,cap,elems,rest,m,hm,rfl,rfl,_,hlc,hcm,hel,hat,hrest,_⟩
   ·exact⟨_,.slice [] hr hd hre sm sm,VRs.cons (.slnil _ _ none trivial (fun _=>rfl)) (VRs.nil E)⟩
   ·have hm':m=fuel:=by omega
    subst hm';have hwt:∀n∈DataW.weightsAll P e (elems.map (·.1)),n≤reachBytes:=fun n hn=>hw n (by simp only[DataW.weights,hf.und];simp[hn])
    have hwl:len*re.bytes≤reachBytes:=by
     have:=hw ((elems.length+rest.length)*P.bytesOf e) (by simp[DataW.weights,hf.und]);rw[hbe,hel]at this;exact Uw (QD _ (Gu _ _)) this
    have hwe:∀(l:List (DataW H)),(∀n∈DataW.weightsAll P e l,n≤reachBytes)→ ∀d∈l,∀n∈d.weights P e,n≤reachBytes:=by
     intro l;induction l with
     |nil=>intro _ d hd;cases hd
     |cons y l ih2=>
      intro hl d hd n hn;simp only[DataW.weightsAll,Qj]at hl;rcases Qk.1 hd with rfl|hd
      ·exact hl n (.inl hn)
      ·exact ih2 (fun n hn=>hl n (.inr hn)) d hd n hn
    have elt:∀i (hi:i<len),∃az vs,Xx T e az∧VRs E az vs∧vs.length=re.size∧ ∀j (hj:j<vs.length),W.cell? ((a.add (i*re.size)).add j)=some vs[j]:=fun i hi=>by
     have h1:=hat i hi;rw[Qd om,hce]at h1;obtain⟨vs,hv1,hv2⟩:=MO.1 h1;obtain⟨az,ha1,ha2⟩:=ih e vs _ heS hv2 (hwe _ hwt _ (Qb.2 ⟨_,Qa om,rfl⟩));obtain⟨c1,c2⟩:=ZhI hv1;exact⟨az,vs,ha1,ha2,c1,c2⟩
    rcases UY cap with hc0|hc0
    ·subst hc0;have:len=0:=by omega
     subst this;exact⟨_,.slice [] hr hd hre sm sm,VRs.cons (.slnil _ _ (some a) trivial (fun h=>absurd rfl h)) (VRs.nil E)⟩
    ·have hspot:a.spot=none:=by
      rcases UY len with hl0|hl0
      ·have hrl:=(hrest rfl).1;have h1:=(hrest rfl).2 0 om;have h0r:0<rest.length:=by omega
       rw[hce,hl0]at h1;rw[Qd h0r]at h1;obtain⟨vs,hv1,_⟩:=MO.1 h1;obtain⟨c1,c2⟩:=ZhI hv1;have:=c2 0 om;simp only[QF,Gq,Addr.add,if_true]at this;exact World.cell?_spot this
      ·obtain⟨az,vs,_,_,c1,c2⟩:=elt 0 hl0;have:=c2 0 om;simp only[Gq,Addr.add,if_true]at this;exact World.cell?_spot this
     obtain⟨b,off,sp⟩:=a;simp only at hspot;subst hspot;obtain⟨fa,hfa⟩:∃fa:Nat→List AV×List Value,∀i,i<len→Xx T e (fa i).1∧VRs E (fa i).1 (fa i).2∧(fa i).2.length=re.size∧ ∀j (hj:j<(fa i).2.length),W.cell? ⟨b,off+(i*re.size+j),none⟩=some (fa i).2[j]:=by
      refine⟨fun i=>if hi:i<len then((elt i hi).choose,(elt i hi).choose_spec.choose)else([],[]),fun i hi=>?_⟩;obtain⟨q1,q2,q3,q4⟩:=(elt i hi).choose_spec.choose_spec;simp only[dif_pos hi];refine⟨q1,q2,q3,fun j hj=>?_⟩;have:=q4 j hj;have e1:((⟨b,off,none⟩:Addr).add (i*re.size)).add j=⟨b,off+(i*re.size+j),none⟩:=by rw[add_plain,add_plain,MQ]
      exact(congrArg W.cell? e1).symm.trans this
     have hnX:0<len→ ¬X b:=fun hl0 hXb=>by
      obtain⟨q1,q2,q3,q4⟩:=hfa 0 hl0;obtain⟨a0,r0,e1,e2,e3⟩:=q1.lead 10 hlead;have hj:0<(fa 0).2.length:=by omega
      have hv:=q2.2 0 (by rw[e1];simp) hj;have hx:=hX b _ _ hXb (q4 0 hj);simp only[e1,Ud]at hv;rcases hx with⟨n,hx⟩|⟨n,hx⟩<;>rw[hx]at hv
      ·cases hv with
       |int=>exact e2 _ rfl
       |dead=>exact e3.2 rfl
      ·cases hv with
       |int=>exact e3.1 _ rfl
       |dead=>exact e3.2 rfl
     refine⟨[.sl re.size (((List.range len).map fun i=>(fa i).1).map (XO re)) .any],.slice _ hr hd hre (fun x hx=>?_) (by simpa using hwl),VRs.cons ?_ (VRs.nil E)⟩
     ·simp only[Qb,Gg]at hx;obtain⟨i,hi,rfl⟩:=hx;exact(hfa i hi).1
     ·have hlx:(((List.range len).map fun i=>(fa i).1).map (XO re)).length=len:=by simp
      have hwc:∀i,i<len→(XO re (fa i).1).cells=(fa i).1:=fun i hi=>ZjD (fun ha=>(hfa i hi).1.one hre ha)
      have hgx:∀i (hi:i<(((List.range len).map fun i=>(fa i).1).map (XO re)).length),(((List.range len).map fun i=>(fa i).1).map (XO re))[i].cells=(fa i).1:=fun i hi=>by
       have hi':i<len:=by rw[hlx]at hi;exact hi
       simp only[QO,MK];exact hwc i hi'
      have hv:=VR.sl (E:=E) re.size (((List.range len).map fun i=>(fa i).1).map (XO re)) .any b off cap (fun i j=>(fa i).2.getD j undef) (fun i hi=>by
        have hi':i<len:=by rw[hlx]at hi;exact hi
        rw[hgx i hi,←(hfa i hi').2.1.1];exact(hfa i hi').2.2.1)
       (fun i j hi hj=>by
        have hi':i<len:=by rw[hlx]at hi;exact hi
        obtain⟨_,_,q3,q4⟩:=hfa i hi';have hj':j<(fa i).2.length:=by omega
        rw[Qp,Qd hj',Um];exact hF _ _ _ (hnX om) (q4 j hj'))
       (fun i hi j hj=>by
        have hi':i<len:=by rw[hlx]at hi;exact hi
        obtain⟨_,q2,q3,_⟩:=hfa i hi';have hj2:j<(fa i).1.length:=by rw[←hgx i hi];exact hj
        have hj':j<(fa i).2.length:=by rw[q2.1];exact hj2
        rw[Qp,Qd hj',Um];have:=q2.2 j hj2 hj';simp only[hgx i hi];exact this)
       (by rw[hlx];exact hlc) (by rw[hlx];exact Uw hlc hcm) trivial
      rw[hlx]at hv;exact hv
  |struct fs=>
   simp only[hd,Qi,beq_iff_eq,QA]at hSt;obtain⟨hfsS,hcg⟩:=hSt;obtain⟨gs,rfl,hgs⟩:∃gs:Array Field,d= .struct gs∧gs.toList.map (fun g=>(g.offset,g.type))=fs:=by
    have:=hf.fits;rw[hd]at this;cases d<;>simp only[TD.fits,QT]at this;simp only[Qi,beq_iff_eq]at this;exact⟨_,rfl,this.1⟩
   obtain⟨xs,m,hm,rfl,hcl,hxl,hat⟩:=DataW.trod_struct hf.und h;have hm':m=fuel:=by omega
   subst hm';have hct:P.cellsOf t=r.size:=by simp[Program.cellsOf,hf.info,hf.size]
   have hwe:∀(ts:List TypeId) (l:List (DataW H)),(∀n∈DataW.weightsEach P ts l,n≤reachBytes)→ ∀i (h:i<ts.length) (h':i<l.length),∀n∈l[i].weights P ts[i],n≤reachBytes:=by
    intro ts;induction ts with
    |nil=>intro l _ i h;exact absurd h (Qm _)
    |cons t ts ih2=>
     intro l hl i h h' n hn;cases l with
     |nil=>exact absurd h' (Qm _)
     |cons y l=>
      simp only[DataW.weightsEach,Qj]at hl;cases i with
      |zero=>exact hl n (.inl hn)
      |succ i=>exact ih2 l (fun n hn=>hl n (.inr hn)) i (by simpa using h) (by simpa using h') n hn
   have hwts:∀n∈DataW.weightsEach P (gs.toList.map (·.type)) (xs.map (·.1)),n≤reachBytes:=fun n hn=>hw n (by simp only[DataW.weights,hf.und];exact hn)
   have key:∀(fs':List (Nat×TypeId)) (o m':Nat),Zbq T o fs'=some m'→(∀x∈fs',∀rf,T x.2=some rf→ ∃az,Xx T x.2 az∧VRs E az ((cs.drop x.1).take rf.size))→
     ∃ps:List (List AV),ps.length=fs'.length∧(∀i (h:i<ps.length) (h':i<fs'.length),Xx T fs'[i].2 ps[i])∧VRs E ps.flatten ((cs.drop o).take (m' - o)):=by
    intro fs';induction fs' with
    |nil=>
     intro o m' hc _;simp only[Zbq,Qq]at hc;subst hc;exact⟨[],rfl,fun i h=>absurd h (Qm _),by simpa using VRs.nil E⟩
    |cons x fs' ih2=>
     intro o m' hc hx;simp only[Zbq]at hc;split at hc
     ·rename_i hxo;cases hrf:T x.2 with
      |none=>rw[hrf]at hc;cases hc
      |some rf=>
       rw[hrf]at hc;simp only at hc;obtain⟨az,a1,a2⟩:=hx x sm rf hrf;obtain⟨ps,p1,p2,p3⟩:=ih2 (o+rf.size) m' hc (fun y hy=>hx y (by simp[hy]));have hle:=Zf4 hc;refine⟨az::ps,by simp[p1],fun i h h'=>?_,?_⟩
       ·cases i with
        |zero=>exact a1
        |succ i=>exact p2 i (by simpa using h) (by simpa using h')
       ·rw[List.flatten_cons];have e:(cs.drop o).take (m' - o)=(cs.drop x.1).take rf.size++(cs.drop (o+rf.size)).take (m' - (o+rf.size)):=by
         rw[hxo,show m' - o=rf.size+(m' - (o+rf.size)) by omega,List.take_add,UF]
        rw[e];exact a2.append p3
     ·cases hc
   obtain⟨ps,p1,p2,p3⟩:=key fs 0 r.size hcg (fun x hx rf hrf=>by
    rw[←hgs,Qb]at hx;obtain⟨g,hg,rfl⟩:=hx;obtain⟨i,hi,rfl⟩:=QJ hg;obtain⟨d',i',z',hf'⟩:=Zd (hT _ rf hrf);have hce:P.cellsOf (gs.toList[i]).type=rf.size:=by simp only[Program.cellsOf,hf'.info,Us,Um,hf'.size]
    have hi2:i<gs.size:=by simpa using hi
    have h1:=hat i gs.toList[i] (by simp[hi2]);rw[hce,Qd om]at h1;have hSi:gs.toList[i].type∈S:=by
     have:=hfsS (gs.toList[i].offset,gs.toList[i].type) (by rw[←hgs];exact Qb.2 ⟨_,hg,rfl⟩);simpa using this
    refine ih _ _ _ hSi h1 ?_;have:=hwe _ _ hwts i (by simpa using hi) (by simp;omega);simpa using this)
   rw[GV,MI,Q5 (by rw[hcl,hct];exact Qe _)]at p3;exact⟨_,.struct hr hd ps p1 p2,p3⟩
  |_=>simp[hd]at hSt
end
section
variable {T:TT} {t:TypeId} {cs:List AV} {r:Zv}
theorem Xx.ZdU{k:IntKind}(h:Xx T t cs)(hr:T t=some r)(hd:r.td= .int k):∃n,cs=[.int k n]∧(Lit.int k n).wf=true:=by
 cases h with
 |int h hd' hw=>rw[hr]at h;cases h;rw[hd]at hd';cases hd';exact⟨_,rfl,hw⟩
 |bool h hd'=>rw[hr]at h;cases h;rw[hd]at hd';cases hd'
 |str h hd'=>rw[hr]at h;cases h;rw[hd]at hd';cases hd'
 |slice _ h hd'=>rw[hr]at h;cases h;rw[hd]at hd';cases hd'
 |struct h hd'=>rw[hr]at h;cases h;rw[hd]at hd';cases hd'
theorem Xx.ZjO(h:Xx T t cs)(hr:T t=some r)(hd:r.td= .bool):∃b,cs=[.bool b]:=by
 cases h with
 |int h hd' hw=>rw[hr]at h;cases h;rw[hd]at hd';cases hd'
 |bool h hd'=>exact⟨_,rfl⟩
 |str h hd'=>rw[hr]at h;cases h;rw[hd]at hd';cases hd'
 |slice _ h hd'=>rw[hr]at h;cases h;rw[hd]at hd';cases hd'
 |struct h hd'=>rw[hr]at h;cases h;rw[hd]at hd';cases hd'
theorem Xx.Zfl(h:Xx T t cs)(hr:T t=some r)(hd:r.td= .str):∃s,cs=[.str s]∧s.length≤reachBytes:=by
 cases h with
 |int h hd' hw=>rw[hr]at h;cases h;rw[hd]at hd';cases hd'
 |bool h hd'=>rw[hr]at h;cases h;rw[hd]at hd';cases hd'
 |str h hd' hl=>exact⟨_,rfl,hl⟩
 |slice _ h hd'=>rw[hr]at h;cases h;rw[hd]at hd';cases hd'
 |struct h hd'=>rw[hr]at h;cases h;rw[hd]at hd';cases hd'
theorem Xx.ZnN{e:TypeId}{re:Zv}(h:Xx T t cs)(hr:T t=some r)(hd:r.td= .slice e)(he:T e=some re):∃xs:List (List AV),cs=[.sl re.size (xs.map (XO re)) .any]∧(∀x∈xs,Xx T e x)∧xs.length*re.bytes≤reachBytes:=by
 cases h with
 |int h hd' hw=>rw[hr]at h;cases h;rw[hd]at hd';cases hd'
 |bool h hd'=>rw[hr]at h;cases h;rw[hd]at hd';cases hd'
 |str h hd' hl=>rw[hr]at h;cases h;rw[hd]at hd';cases hd'
 |slice xs h hd' he' hx hl=>rw[hr]at h;cases h;rw[hd]at hd';cases hd';rw[he]at he';cases he';exact⟨xs,rfl,hx,hl⟩
 |struct h hd'=>rw[hr]at h;cases h;rw[hd]at hd';cases hd'
theorem Xx.ZcW{fs:List (Nat×TypeId)}(h:Xx T t cs)(hr:T t=some r)(hd:r.td= .struct fs):∃ps:List (List AV),cs=ps.flatten∧ps.length=fs.length∧ ∀i (h:i<ps.length) (h':i<fs.length),Xx T fs[i].2 ps[i]:=by
 cases h with
 |int h hd' hw=>rw[hr]at h;cases h;rw[hd]at hd';cases hd'
 |bool h hd'=>rw[hr]at h;cases h;rw[hd]at hd';cases hd'
 |str h hd' hl=>rw[hr]at h;cases h;rw[hd]at hd';cases hd'
 |slice xs h hd' he' hx hl=>rw[hr]at h;cases h;rw[hd]at hd';cases hd'
 |struct h hd' ps hl hf=>rw[hr]at h;cases h;rw[hd]at hd';cases hd';exact⟨ps,rfl,hl,hf⟩
end
theorem Xx.row(h:Xx T t cs):∃r,T t=some r∧((∃k,r.td= .int k)∨r.td= .bool∨r.td= .str∨(∃e,r.td= .slice e)∨ ∃fs,r.td= .struct fs):=by
 cases h with
 |int h hd hw=>exact⟨_,h,.inl ⟨_,hd⟩⟩
 |bool h hd=>exact⟨_,h,.inr (.inl hd)⟩
 |str h hd hl=>exact⟨_,h,.inr (.inr (.inl hd))⟩
 |slice xs h hd he hx hl=>exact⟨_,h,.inr (.inr (.inr (.inl ⟨_,hd⟩)))⟩
 |struct h hd ps hl hf=>exact⟨_,h,.inr (.inr (.inr (.inr ⟨_,hd⟩)))⟩
def ZjR(T:TT):List TypeId→List (List AV)→Prop
 |[],[]=>True
 |t::ts,c::cs=>Xx T t c∧ZjR T ts cs
 |_,_=>False
def Zgg(T:TT)(t:TypeId)(cs:List AV):AV:=match T t with
 |some r=>XO r cs
 |none=>.dead
def wraps(T:TT):List TypeId→List (List AV)→List AV
 |t::ts,c::cs=>Zgg T t c::wraps T ts cs
 |_,_=>[]
theorem Jf{v:Value}{E:Env}{a:AV}(h:VRs E [a] v.cells.toList)(hv:∀cs,v≠ .agg cs):VR E a v:=by
 have:v.cells= #[v]:=by cases v<;>first|rfl|(exact absurd rfl (hv _))
 rw[this]at h;exact h.2 0 sm sm
theorem Zsv{P:Program}{W:World}{E:Env}{base:Nat}{v:Value}(hT:TOK P T)(hf:Xx T t cs)(hv:VRs E cs v.cells.toList)(hok:Value.okWide P W .any base t v):VR E (Zgg T t cs) v:=by
 obtain⟨r,hr,hkind⟩:=hf.row;obtain⟨d,i,z,hfa⟩:=Zd (hT t r hr);have hwr:Zgg T t cs=XO r cs:=by unfold Zgg;rw[hr]
 rw[hwr];rcases hkind with⟨k,hd⟩|hd|hd|⟨e,hd⟩|⟨fs,hd⟩
 ·have hd':d= .int k:=by have:=hfa.fits;rw[hd]at this;cases d<;>simp[TD.fits]at this;subst this;rfl
  subst hd';obtain⟨n,rfl,_⟩:=hf.ZdU hr hd;obtain⟨m,rfl⟩:=okWide_int hfa.und hok;have:XO r [.int k n]= .int k n:=by simp[XO,Zv.isAgg,hd]
  rw[this];exact Jf hv (fun _ h=>by cases h)
 ·have hd':d= .bool:=by have:=hfa.fits;rw[hd]at this;cases d<;>simp[TD.fits]at this;rfl
  subst hd';obtain⟨n,rfl⟩:=hf.ZjO hr hd;obtain⟨m,rfl⟩:=okWide_bool hfa.und hok;have:XO r [.bool n]= .bool n:=by simp[XO,Zv.isAgg,hd]
  rw[this];exact Jf hv (fun _ h=>by cases h)
 ·have hd':d= .string:=by have:=hfa.fits;rw[hd]at this;cases d<;>simp[TD.fits]at this;rfl
  subst hd';obtain⟨n,rfl,_⟩:=hf.Zfl hr hd;obtain⟨m,rfl⟩:=okWide_string hfa.und hok;have:XO r [.str n]= .str n:=by simp[XO,Zv.isAgg,hd]
  rw[this];exact Jf hv (fun _ h=>by cases h)
 ·have hd':d= .slice e:=ZH (hd▸hfa.fits);subst hd';obtain⟨c,rfl,_⟩:=hf.one hr (by simp[Zv.isAgg,hd]);obtain⟨a,len,cap,rfl⟩:=okWide_slice hfa.und hok;have:XO r [c]=c:=by simp[XO,Zv.isAgg,hd]
  rw[this];exact Jf hv (fun _ h=>by cases h)
 ·obtain⟨gs,rfl⟩:∃gs:Array Field,d= .struct gs:=by
   have:=hfa.fits;rw[hd]at this;cases d<;>simp only[TD.fits,QT]at this;exact⟨_,rfl⟩
  obtain⟨ws,rfl,_⟩:=okWide_struct hfa.und hok;have:XO r cs= .agg cs:=by simp[XO,Zv.isAgg,hd]
  rw[this];have h:=VR.agg (E:=E) cs ws.toList hv.1 hv.2;simpa using h
theorem Zmz{P:Program}{T:TT}{H:Type}{enc:TypeId×Value→H}{W:World}{E:Env}{X:Nat→Prop}{base:Nat}(hT:TOK P T)(S:List TypeId)(hS:Zle T S=true)(hF:∀b o v,¬X b→W.cell? ⟨b,o,none⟩=some v→E.F b o=some v)
  (hX:∀b o v,X b→W.cell? ⟨b,o,none⟩=some v→(∃n,v= .int .i64 n)∨ ∃n,v= .int .u64 n):∀(ts:List TypeId) (vs:List Value) (ds:List (DataW H)) (ps:List MemPlace),
   DataW.TrodAll enc P W 0 (fun _=>true) true ts vs ds ps→(∀t∈ts,t∈S)→(∀(j:Nat) t v,ts[j]? =some t→vs[j]? =some v→Value.okWide P W .any base t v)→(∀n∈DataW.weightsEach P ts ds,n≤reachBytes)→
   ∃cs,ZjR T ts cs∧VRs E (wraps T ts cs) vs
 |[],vs,ds,ps,h,_,_,_=>by
  obtain⟨rfl,rfl,rfl⟩:=trodAll_nil h;exact⟨[],trivial,VRs.nil E⟩
 |t::ts,vs,ds,ps,h,hts,hok,hw=>by
  obtain⟨v,vs',d,ds',p,q,rfl,rfl,rfl,h1,h2⟩:=trodAll_cons h;obtain⟨fuel,hf⟩:=h1;simp only[DataW.weightsEach,Qj]at hw;obtain⟨c,c1,c2⟩:=Zrb hT S hS hF hX fuel t v.cells.toList (d,p) (hts t sm) hf (fun n hn=>hw n (.inl hn));obtain⟨cs,d1,d2⟩:=Zmz hT S hS hF hX ts vs' ds' q h2 (fun u hu=>hts u (by simp[hu])) (fun j u w hu hv=>hok (j+1) u w (by simpa using hu) (by simpa using hv)) (fun n hn=>hw n (.inr hn));exact⟨c::cs,⟨c1,d1⟩,VRs.cons (Zsv hT c1 c2 (hok 0 t v rfl rfl)) d2⟩
end
end Go.Abs

namespace Go.Abs
inductive Tm where
 |mk (kind num:Int) (name:List UInt8) (args:List Tm)
section
variable {u t:Tm} {n:Nat} {p:Nat→Prop}
namespace Tm
def kind:Tm→Int|mk k _ _ _=>k
def num:Tm→Int|mk _ n _ _=>n
def name:Tm→List UInt8|mk _ _ s _=>s
def args:Tm→List Tm|mk _ _ _ l=>l
def enc:Tm→AV
 |mk k n s l=>.agg [.int .u8 k,.int .i64 n,.str s,.sl 4 (encs l) .any]
where encs:List Tm→List AV
 |[]=>[]
 |t::r=>enc t::encs r
abbrev encs(l:List Tm):List AV:=l.map enc
theorem encs_eq:∀l:List Tm,enc.encs l=l.map enc
 |[]=>rfl
 |t::r=>by rw[enc.encs,encs_eq r];rfl
theorem Vx(t:Tm):t.enc= .agg [.int .u8 t.kind,.int .i64 t.num,.str t.name,.sl 4 (t.args.map enc) .any]:=by
 cases t;rw[enc,encs_eq];rfl
def cs(t:Tm):List AV:=[.int .u8 t.kind,.int .i64 t.num,.str t.name,.sl 4 (t.args.map enc) .any]
theorem ZcH(t:Tm):t.enc= .agg t.cs:=t.Vx
theorem ZeF(t:Tm):t.enc.cells=t.cs:=by rw[ZcH];rfl
theorem Xm(h:u∈t.args):SizeOf.sizeOf u<SizeOf.sizeOf t:=by
 cases t with
 |mk k n s l=>have:=QU (show u∈l from h);simp;omega
theorem blw(n:Nat):∀t:Tm,Below n t.enc
 |mk k m s l=>by
  have hl:∀u∈l,Below n u.enc:=fun u hu=>by
   have:=QU hu;exact blw n u
  rw[Vx];refine Xb ?_;simp only[Qk,Qy,or_false,forall_eq_or_imp,forall_eq];refine⟨.int _ _,.int _ _,.str _,ZC fun x hx=>?_⟩;obtain⟨u,hu,rfl⟩:=Qb.1 hx;exact hl u hu
termination_by t=>SizeOf.sizeOf t
theorem _root_.Go.Abs.Zl{cs:List AV}(h:Yi (fun c=>Below n c) cs):Below n (.iptr cs):=.iptr cs fun j hj=>h.mem _ (Qa hj)
theorem bcs(t:Tm):Yi (fun c=>Below n c) t.cs:=⟨.int _ _,.int _ _,.str _,ZC (fun x hx=>by obtain⟨u,_,rfl⟩:=Qb.1 hx;exact blw n u),trivial⟩
theorem ZaA(l:List Tm)(k:Nat):Inside n p (.sl k (l.map enc) .any):=Below.inside (ZC fun x hx=>by obtain⟨u,_,rfl⟩:=Qb.1 hx;exact blw n u)
theorem Xl(t:Tm):t.enc.cells=[.int .u8 t.kind,.int .i64 t.num,.str t.name,.sl 4 (t.args.map enc) .any]:=ZeF t
theorem fold(t:Tm):AV.agg [.int .u8 t.kind,.int .i64 t.num,.str t.name,.sl 4 (t.args.map enc) .any]=t.enc:=t.Vx.symm
def sz:Tm→Nat
 |mk _ _ _ l=>1+szs l
where szs:List Tm→Nat
 |[]=>0
 |t::r=>sz t+szs r
theorem ZcJ{u:Tm}:∀{l:List Tm},u∈l→u.sz≤sz.szs l
 |t::r,h=>by
  simp only[sz.szs];rcases Qk.1 h with rfl|h
  ·omega
  ·have:=ZcJ h;omega
theorem Zc1(t:Tm):1≤t.sz:=by cases t;simp only[sz];omega
theorem sz_len:∀l:List Tm,l.length≤sz.szs l
 |[]=>Qe _
 |t::r=>by have:=sz_len r;have:=Zc1 t;simp only[sz.szs,Qo];omega
theorem Zhu(t:Tm):t.sz=1+sz.szs t.args:=by cases t;rfl
theorem ZpJ(h:u∈t.args):u.sz<t.sz:=by rw[Zhu t];have:=ZcJ h;omega
theorem ZoN(t:Tm):t.args.length<t.sz:=by rw[Zhu t];have:=sz_len t.args;omega
inductive Nm:Tm→Prop
 |mk (k n:Int) (s:List UInt8) (l:List Tm) (h:s.length≤140737488355328) (hk:0≤k∧k≤255) (hn:-9223372036854775808≤n∧n≤9223372036854775807) (ha:l.length≤1000000) (hl:∀u∈l,Nm u):Nm (.mk k n s l)
theorem Nm.arg(h:Nm t):∀u∈t.args,Nm u:=by cases h with|mk _ _ _ _ _ _ _ _ h=>exact h
theorem Nm.kd(h:Nm t):0≤t.kind:=by cases h with|mk _ _ _ _ _ h=>exact h.1
structure Good (t:Tm):Prop where
 sz:t.sz≤3000000000000
 nm:Nm t
theorem Good.name{t:Tm}(h:Good t):t.name.length≤140737488355328:=by
 obtain⟨_,h⟩:=h;cases h;assumption
theorem Good.arg(h:Good t)(hu:u∈t.args):Good u:=by
 refine⟨Md (Ui (ZpJ hu) h.sz),?_⟩;obtain⟨_,h⟩:=h;cases h with|mk k n s l _ _ _ _ hl=>exact hl u hu
theorem Good.kind{t:Tm}(h:Good t):0≤t.kind∧t.kind≤255:=by obtain⟨_,h⟩:=h;cases h;assumption
theorem Good.num{t:Tm}(h:Good t):-9223372036854775808≤t.num∧t.num≤9223372036854775807:=by obtain⟨_,h⟩:=h;cases h;assumption
theorem Good.len(h:Good t):t.args.length≤1000000:=by obtain⟨_,h⟩:=h;cases h;assumption
def all(p:Tm→Bool):Tm→Bool
 |mk k n s l=>p (mk k n s l)&&alls p l
where alls (p:Tm→Bool):List Tm→Bool
 |[]=>true
 |t::r=>all p t&&alls p r
theorem all_eq(p:Tm→Bool)(t:Tm):all p t=(p t&&all.alls p t.args):=by cases t;rfl
theorem VI(p:Tm→Bool):∀l:List Tm,all.alls p l=l.all (all p)
 |[]=>rfl
 |t::r=>by rw[all.alls,VI p r];rfl
theorem Zp(l:List Tm)(i:Nat)(h:i<l.length)(d:AV):(l.map enc).getD i d=(l[i]).enc:=by
 rw[Qp,QZ,Qd h];rfl
end Tm
structure Am where
 pred:List UInt8
 args:List Tm
namespace Am
def cs(a:Am):List AV:=[.str a.pred,.sl 4 (a.args.map Tm.enc) .any]
def enc(a:Am):AV:=.agg a.cs
theorem Xl(a:Am):a.enc.cells=[.str a.pred,.sl 4 (a.args.map Tm.enc) .any]:=rfl
theorem fold(a:Am):AV.agg [.str a.pred,.sl 4 (a.args.map Tm.enc) .any]=a.enc:=rfl
theorem bcs(a:Am):Yi (fun c=>Below n c) a.cs:=⟨.str _,ZC (fun x hx=>by obtain⟨u,_,rfl⟩:=Qb.1 hx;exact u.blw n),trivial⟩
theorem blw(n:Nat)(a:Am):Below n a.enc:=Xb a.bcs.mem
theorem ZaA(l:List Am)(k:Nat):Inside n p (.sl k (l.map enc) .any):=Below.inside (ZC fun x hx=>by obtain⟨u,_,rfl⟩:=Qb.1 hx;exact blw n u)
theorem Zp(l:List Am)(i:Nat)(h:i<l.length)(d:AV):(l.map enc).getD i d=(l[i]).enc:=by
 rw[Qp,QZ,Qd h];rfl
def sz(a:Am):Nat:=1+Tm.sz.szs a.args
structure Good (a:Am):Prop where
 pred:a.pred.length≤140737488355328
 sz:a.sz≤1000000
 nm:∀t∈a.args,Tm.Nm t
theorem Good.arg{a:Am}(h:Good a)(ht:t∈a.args):t.Good:=by
 refine⟨?_,h.nm t ht⟩;have:=Tm.ZcJ ht;have:=h.sz;simp only[Am.sz]at this;omega
theorem Good.len{a:Am}(h:Good a):a.args.length≤1000000:=by
 have:=Tm.sz_len a.args;have:=h.sz;simp only[Am.sz]at this;omega
end Am
variable {k:Nat}
theorem ZW{j:Nat}{xs:List AV}(hx:∀x∈xs,Below n x)(h:p j):Inside n p (.sl k xs (.buf n j)):=
 .sl k xs _ (fun i hi c hc=>(((hx _ (Qa hi)).cells _ (Qa hc))).inside) (fun l j' e=>by cases e;exact .inr ⟨rfl,h⟩)
theorem VJ{j:Nat}{l:List (List UInt8)}(h:p j):Inside n p (.sl k (l.map .str) (.buf n j)):=ZW (fun x hx=>by obtain⟨u,_,rfl⟩:=Qb.1 hx;exact .str _) h
theorem Tm.ZW{n k j:Nat}{p:Nat→Prop}{l:List Tm}(h:p j):Inside n p (.sl k (l.map Tm.enc) (.buf n j)):=Abs.ZW (fun x hx=>by obtain⟨u,_,rfl⟩:=Qb.1 hx;exact u.blw n) h
theorem Am.ZW{n k j:Nat}{p:Nat→Prop}{l:List Am}(h:p j):Inside n p (.sl k (l.map Am.enc) (.buf n j)):=Abs.ZW (fun x hx=>by obtain⟨u,_,rfl⟩:=Qb.1 hx;exact u.blw n) h
theorem Zld(l:List (List UInt8)):Below n (.sl k (l.map .str) .any):=ZC fun x hx=>by obtain⟨u,_,rfl⟩:=Qb.1 hx;exact .str _
theorem ZE(l:List Tm):Below n (.sl k (l.map Tm.enc) .any):=ZC fun x hx=>by obtain⟨u,_,rfl⟩:=Qb.1 hx;exact u.blw n
theorem YM(l:List Am):Below n (.sl k (l.map Am.enc) .any):=ZC fun x hx=>by obtain⟨u,_,rfl⟩:=Qb.1 hx;exact u.blw n
end
end Go.Abs

namespace Go.Abs
def thn(c d:Int):Int:=if c=0 then d else c
theorem YS(d:Int):thn 0 d=d:=rfl
theorem ZaV{c:Int}(h:c≠0)(d:Int):thn c d=c:=if_neg h
theorem XH{c d:Int}(h:thn c d=0):c=0∧d=0:=by
 unfold thn at h;split at h
 ·exact⟨by assumption,h⟩
 ·exact absurd h (by assumption)
theorem Jm(a b c:Int):thn (thn a b) c=thn a (thn b c):=by unfold thn;split<;>simp_all
theorem Jo(a:Int):thn a 0=a:=by unfold thn;split<;>simp_all
def YA(a b:Int):Int:=if a<b then -1 else if b<a then 1 else 0
theorem ZaB(a:Int):YA a a=0:=by simp[YA]
theorem ZaG{a b:Int}(h:YA a b=0):a=b:=by
 unfold YA at h;split at h
 ·cases h
 ·split at h
  ·cases h
  ·omega
theorem Znz(a b:Int):YA b a= -YA a b:=by
 unfold YA;split<;>split<;>first|omega|(split<;>omega)|rfl
def lexI:List Int→List Int→Int
 |[],[]=>0
 |[],_::_=>-1
 |_::_,[]=>1
 |a::x,b::y=>thn (YA a b) (lexI x y)
theorem lexI_self:∀x:List Int,lexI x x=0
 |[]=>rfl
 |a::x=>by rw[lexI,ZaB,YS,lexI_self x]
theorem lexI_anti:∀x y:List Int,lexI y x= -lexI x y
 |[],[]=>rfl
 |[],_::_=>rfl
 |_::_,[]=>rfl
 |a::x,b::y=>by
  rw[lexI,lexI,Znz a b,lexI_anti x y];unfold thn;split<;>split<;>first|rfl|omega
theorem lexI_trans:∀x y z:List Int,lexI x y≤0→lexI y z≤0→lexI x z≤0
 |[],[],[],_,_=>by decide
 |[],[],_::_,_,_=>by show(-1:Int)≤0;decide
 |[],_::_,[],_,_=>by decide
 |[],_::_,_::_,_,_=>by show(-1:Int)≤0;decide
 |_::_,[],_,h,_=>by exact absurd h (by show¬(1:Int)≤0;decide)
 |_::_,_::_,[],_,h=>by exact absurd h (by show¬(1:Int)≤0;decide)
 |a::x,b::y,c::z,h,h'=>by
  have ih:=lexI_trans x y z;rw[lexI]at h h'⊢;unfold thn at*;unfold YA at*;rcases Int.lt_trichotomy a b with h1|h1|h1<;>rcases Int.lt_trichotomy b c with h2|h2|h2
  all_goals
   first
   |subst h1
   |skip
   first
   |subst h2
   |skip
   repeat' split at h
   all_goals repeat' split at h'
   all_goals repeat' split
   all_goals first|omega|(exact ih h h')|skip
def rank(k:Int):Int:=if k=1 then 0 else if k=2 then 1 else if k=4 then 2 else if k=3 then 3 else if k=5 then 4 else if k=6 then 5 else 6+k
theorem ZjJ{a b:Int}(ha:0≤a)(hb:0≤b)(h:rank a=rank b):a=b:=by
 unfold rank at h;repeat' split at h
 all_goals omega
def cmpT:Tm→Tm→Int
 | .mk k n s l,.mk k' n' s' l'=>thn (YA (rank k) (rank k')) (thn (if k=1 then YA n n' else 0) (thn (YA l.length l'.length) (thn (Lib.compareBytes s s') (thn (cmps l l') (YA n n')))))
where cmps:List Tm→List Tm→Int
 |[],[]=>0
 |[],_::_=>-1
 |_::_,[]=>1
 |a::x,b::y=>thn (cmpT a b) (cmps x y)
theorem Zfn(a b:Tm):cmpT a b=thn (YA (rank a.kind) (rank b.kind)) (thn (if a.kind=1 then YA a.num b.num else 0) (thn (YA a.args.length b.args.length) (thn (Lib.compareBytes a.name b.name) (thn (cmpT.cmps a.args b.args) (YA a.num b.num))))):=by
 cases a;cases b;rw[cmpT];rfl
def Zfc(s:List UInt8):List Int:=s.map (fun b=>(b.toNat:Int)+1)++[0]
theorem lex_serS:∀(s t:List UInt8) (x y:List Int),lexI (Zfc s++x) (Zfc t++y)=thn (Lib.compareBytes s t) (lexI x y)
 |[],[],x,y=>by simp[Zfc,lexI,Lib.compareBytes,ZaB,YS]
 |[],b::t,x,y=>by
  simp only[Zfc,Uy,QY,Qs,Q9,lexI,Lib.compareBytes];have:YA 0 ((b.toNat:Int)+1)= -1:=by unfold YA;rw[if_pos om]
  rw[this];rfl
 |a::s,[],x,y=>by
  simp only[Zfc,Uy,QY,Qs,Q9,lexI,Lib.compareBytes];have:YA ((a.toNat:Int)+1) 0=1:=by unfold YA;rw[if_neg om,if_pos om]
  rw[this];rfl
 |a::s,b::t,x,y=>by
  have ih:=lex_serS s t x y;simp only[Zfc,Q7,Q9,QY]at ih;simp only[Zfc,Qs,Q9,lexI,Lib.compareBytes,Q7,QY];rw[ih];by_cases h1:a<b
  ·have:YA ((a.toNat:Int)+1) ((b.toNat:Int)+1)= -1:=by unfold YA;rw[if_pos (by have:=UInt8.lt_iff_toNat_lt.1 h1;omega)]
   rw[this,if_pos h1];rfl
  ·rw[if_neg h1];by_cases h2:b<a
   ·have:YA ((a.toNat:Int)+1) ((b.toNat:Int)+1)=1:=by
     have:=UInt8.lt_iff_toNat_lt.1 h2;unfold YA;rw[if_neg om,if_pos om]
    rw[this,if_pos h2];rfl
   ·have:YA ((a.toNat:Int)+1) ((b.toNat:Int)+1)=0:=by
     have e1:¬a.toNat<b.toNat:=fun h=>h1 (UInt8.lt_iff_toNat_lt.2 h)
     have e2:¬b.toNat<a.toNat:=fun h=>h2 (UInt8.lt_iff_toNat_lt.2 h)
     unfold YA;rw[if_neg om,if_neg om]
    rw[this,if_neg h2,YS]
def ser:Tm→List Int
 | .mk k n s l=>rank k::(if k=1 then n else 0)::(l.length:Int)::(Zfc s++(sers l++[n]))
where sers:List Tm→List Int
 |[]=>[]
 |t::r=>ser t++sers r
theorem Zr4(t:Tm):ser t=rank t.kind::(if t.kind=1 then t.num else 0)::(t.args.length:Int)::(Zfc t.name++(ser.sers t.args++[t.num])):=by cases t;rw[ser];rfl
theorem lex_ser:∀(a b:Tm) (_:a.Nm) (_:b.Nm) (x y:List Int),lexI (ser a++x) (ser b++y)=thn (cmpT a b) (lexI x y)
 | .mk k n s l,b,ha,hb,x,y=>by
  have hl:∀(p q:List Tm),(∀u∈p,u∈l)→(∀u∈q,u.Nm)→p.length=q.length→ ∀x y:List Int,lexI (ser.sers p++x) (ser.sers q++y)=thn (cmpT.cmps p q) (lexI x y):=by
   intro p;induction p with
   |nil=>
    intro q _ _ hlen x y;have:q=[]:=Uc hlen.symm;subst this;rfl
   |cons t p ih=>
    intro q hp hq hlen x y;cases q with
    |nil=>cases hlen
    |cons u q=>
     have ht:=lex_ser t u (ha.arg t (hp t sm)) (hq u sm);simp only[ser.sers,Q7,cmpT.cmps];rw[ht,ih q (fun v hv=>hp v (Qx _ hv)) (fun v hv=>hq v (Qx _ hv)) (by simpa using hlen),Jm]
  have hk:0≤k:=ha.kd;have hk':0≤b.kind:=hb.kd;have hbn:∀u∈b.args,u.Nm:=hb.arg;have e4:(Tm.mk k n s l).kind=k:=rfl;have e5:(Tm.mk k n s l).num=n:=rfl;have e6:(Tm.mk k n s l).args=l:=rfl;have e7:(Tm.mk k n s l).name=s:=rfl;rw[Zr4 b,ser,Zfn,e4,e5,e6,e7];simp only[Q9,Q7,QY,lexI];rw[lex_serS];by_cases h1:YA (rank k) (rank b.kind)=0
  ·have hkk:=ZjJ hk hk' (ZaG h1);by_cases h3:YA (l.length:Int) (b.args.length:Int)=0
   ·have hlen:=ZaG h3;rw[hl l b.args (fun u h=>h) hbn om,lexI];subst hkk;simp only[Jm];by_cases h2:b.kind=1
    ·simp[h2,Jm,lexI]
    ·simp[h2,Jm,lexI,ZaB,YS]
   ·subst hkk;by_cases h2:b.kind=1
    ·simp[h2,Jm,ZaV h3]
    ·simp[h2,Jm,ZaV h3,ZaB,YS]
  ·simp only[ZaV h1]
termination_by a=>SizeOf.sizeOf a
decreasing_by
 have:=QU (hp t sm);simp only[Tm.mk.sizeOf_spec];omega
theorem cmpBytes_zero:∀{s t:List UInt8},Lib.compareBytes s t=0→s=t
 |[],[],_=>rfl
 |[],_::_,h=>by cases h
 |_::_,[],h=>by cases h
 |a::s,b::t,h=>by
  rw[Lib.compareBytes]at h;split at h
  ·cases h
  ·split at h
   ·cases h
   ·rename_i h1 h2;have:a=b:=UInt8.le_antisymm (UInt8.not_lt.1 h2) (UInt8.not_lt.1 h1);rw[this,cmpBytes_zero h]
theorem cmpBytes_self:∀s:List UInt8,Lib.compareBytes s s=0
 |[]=>rfl
 |a::s=>by rw[Lib.compareBytes,if_neg (UInt8.lt_irrefl a),if_neg (UInt8.lt_irrefl a),cmpBytes_self s]
theorem cmpBytes_val:∀s t:List UInt8,Lib.compareBytes s t= -1∨Lib.compareBytes s t=0∨Lib.compareBytes s t=1
 |[],[]=>.inr (.inl rfl)
 |[],_::_=>.inl rfl
 |_::_,[]=>.inr (.inr rfl)
 |a::s,b::t=>by
  rw[Lib.compareBytes];split
  ·exact .inl rfl
  ·split
   ·exact .inr (.inr rfl)
   ·exact cmpBytes_val s t
theorem less_cmp:∀s t:List UInt8,Op.bytesLess s t=decide (Lib.compareBytes s t= -1)
 |[],[]=>rfl
 |[],_::_=>rfl
 |_::_,[]=>rfl
 |a::s,b::t=>by
  rw[Lib.compareBytes,Op.bytesLess,less_cmp s t];by_cases h1:a<b
  ·simp[h1]
  ·rw[if_neg h1];by_cases h2:b<a
   ·have:a≠b:=fun e=>by subst e;exact UInt8.lt_irrefl _ h2
    simp[h1,h2,this]
   ·have:a=b:=UInt8.le_antisymm (UInt8.not_lt.1 h2) (UInt8.not_lt.1 h1);subst this;simp[h1]
theorem ZjC{a b:Tm}(ha:a.Nm)(hb:b.Nm):cmpT a b=lexI (ser a) (ser b):=by
 have:=lex_ser a b ha hb [] [];simp only[Qu,lexI,Jo]at this;exact this.symm
theorem cmpT_zero:∀{a b:Tm},a.Nm→b.Nm→cmpT a b=0→a=b
 | .mk k n s l,b,ha,hb,h=>by
  have hl:∀(p q:List Tm),(∀u∈p,u∈l)→(∀u∈q,u.Nm)→cmpT.cmps p q=0→p=q:=by
   intro p;induction p with
   |nil=>intro q _ _ h;cases q with
    |nil=>rfl
    |cons u q=>cases h
   |cons t p ih=>
    intro q hp hq h;cases q with
    |nil=>cases h
    |cons u q=>
     simp only[cmpT.cmps]at h;obtain⟨h1,h2⟩:=XH h;rw[ih q (fun v hv=>hp v (Qx _ hv)) (fun v hv=>hq v (Qx _ hv)) h2];rw[cmpT_zero (a:=t) (b:=u) (ha.arg t (hp t sm)) (hq u sm) h1]
  have hk:0≤k:=ha.kd;have hk':0≤b.kind:=hb.kd;have hbn:∀u∈b.args,u.Nm:=hb.arg;rw[Zfn]at h;obtain⟨h1,h⟩:=XH h;obtain⟨h2,h⟩:=XH h;obtain⟨h3,h⟩:=XH h;obtain⟨h4,h⟩:=XH h;obtain⟨h5,h⟩:=XH h;cases b with
  |mk k' n' s' l'=>
   have e1:k=k':=ZjJ hk hk' (ZaG h1);have e2:n=n':=ZaG h;have e3:s=s':=cmpBytes_zero h4;have e4:l=l':=hl l l' (fun u h=>h) hbn h5;rw[e1,e2,e3,e4]
termination_by a=>SizeOf.sizeOf a
decreasing_by
 have:=QU (hp t sm);simp only[Tm.mk.sizeOf_spec];omega
theorem lex_sers:∀(p q:List Tm),(∀u∈p,u.Nm)→(∀u∈q,u.Nm)→p.length=q.length→lexI (ser.sers p) (ser.sers q)=cmpT.cmps p q
 |[],q,_,_,h=>by
  have:q=[]:=Uc h.symm;subst this;rfl
 |t::p,[],_,_,h=>by cases h
 |t::p,u::q,hp,hq,h=>by
  simp only[ser.sers,cmpT.cmps];rw[lex_ser t u (hp t sm) (hq u sm),lex_sers p q (fun v hv=>hp v (by simp[hv])) (fun v hv=>hq v (by simp[hv])) (by simpa using h)]
theorem cmps_zero:∀{p q:List Tm},(∀u∈p,u.Nm)→(∀u∈q,u.Nm)→cmpT.cmps p q=0→p=q
 |[],[],_,_,_=>rfl
 |[],_::_,_,_,h=>by cases h
 |_::_,[],_,_,h=>by cases h
 |t::p,u::q,hp,hq,h=>by
  simp only[cmpT.cmps]at h;obtain⟨h1,h2⟩:=XH h;rw[cmpT_zero (hp t sm) (hq u sm) h1,cmps_zero (fun v hv=>hp v (by simp[hv])) (fun v hv=>hq v (by simp[hv])) h2]
def fl{α:Type}(cs:α→List AV)(l:List α):List AV:=l.flatMap cs
section
variable {α:Type} {cs:α→List AV} (hcs:∀x,(cs x).length=2)
include hcs
theorem Zam:∀l:List α,(fl cs l).length=l.length*2
 |[]=>rfl
 |x::l=>by
  have:=Zam l;simp only[fl,QS,Qh,Qo,hcs]at this⊢;omega
end
section
variable {α:Type} (lt:α→α→Bool)
theorem Zgi{β:Type}(f:β→α→β)(b:β)(l:List α)(i:Nat)(h:i<l.length):(l.take (i+1)).foldl f b=f ((l.take i).foldl f b) l[i]:=by
 rw[Qn h,U6];rfl
end
structure Lt where
 kind:Int
 neg:Bool
 at_:Am
 op:Int
 L:Tm
 R:Tm
abbrev Bnd:=List (List UInt8×Tm)
def Zz(n:List UInt8):Bnd→Option Tm
 |[]=>none
 |p::r=>if p.1=n then some p.2 else Zz n r
def posB(n:List UInt8):Bnd→Nat
 |[]=>0
 |p::r=>if Lib.compareBytes p.1 n<0 then posB n r+1 else 0
def Wp(n:List UInt8)(v:Tm):Bnd→Bnd
 |[]=>[(n,v)]
 |p::r=>if Lib.compareBytes p.1 n<0 then p::Wp n v r else(n,v)::p::r
def ZN(b:Bnd):Tm→Tm
 | .mk k n s l=>match (if k=3 then Zz s b else none)with
  |some v=>v
  |none=>.mk k n s (apps b l)
where apps (b:Bnd):List Tm→List Tm
 |[]=>[]
 |t::r=>ZN b t::apps b r
def matT:Tm→Tm→Bnd→Option Bnd
 | .mk k n s l,v,b=>
  if k=3 then match Zz s b with
   |none=>some (Wp s v b)
   |some w=>if cmpT w v=0 then some b else none
  else if k=v.kind∧n=v.num∧s=v.name∧l.length=v.args.length then matL l v.args b else none
where matL:List Tm→List Tm→Bnd→Option Bnd
 |[],_,b=>some b
 |t::r,[],b=>some b
 |t::r,v::q,b=>match matT t v b with
  |none=>none
  |some c=>matL r q c
def nmT:Tm→List (List UInt8)
 | .mk k _ s l=>(if k=3 then [s]else [])++nms l
where nms:List Tm→List (List UInt8)
 |[]=>[]
 |t::r=>nmT t++nms r
def ZeA{α:Type}(c:α→α→Int)(x:α):List α→List α
 |[]=>[x]
 |y::r=>if c x y=0 then y::r else if c x y<0 then x::y::r else y::ZeA c x r
def XM{α:Type}(c:α→α→Int)(l:List α):List α:=l.foldr (ZeA c) []
def Z8(t:Tm):List (List UInt8):=XM Lib.compareBytes (nmT t)
def ZJ(x:Lt):List (List UInt8):=(if x.kind=2 then [x.L,x.R]else x.at_.args).flatMap Z8
def XL(op:Int)(a b:Tm):Bool:=
 if op=1 then cmpT a b==0 else if op=2 then !(cmpT a b==0)else if op=3 then decide (cmpT a b<0)
 else if op=4 then decide (cmpT a b≤0)else if op=5 then decide (cmpT a b>0)else if op=6 then decide (cmpT a b ≥ 0)else false
/-! Expansions. -/
def Xa(n:Int):Bool:=decide (-2147483647≤n)&&decide (n≤2147483647)
def VZ(op:List UInt8)(a b:Int):Option Int:=
 let r:=if op=[43]then some (a+b)else if op=[45]then some (a - b)else if op=[42]then some (a*b)
  else if op=[47]then(if b=0 then none else some (a.tdiv b))else if op=[92]then(if b=0 then none else some (a.tmod b))else none
 r.bind fun n=>if Xa n then some n else none
def X6(op:List UInt8)(a:List Int):Option Int:=
 if a.all Xa then match a with
  |[x]=>if op=[45]then some (-x)else none
  |[x,y]=>VZ op x y
  |_=>none
 else none
def Ym(l:List Tm):List Int:=(l.filter fun t=>t.kind==1).map Tm.num
def Ye{α:Type}:List (List α)→List (List α)
 |[]=>[[]]
 |p::r=>p.flatMap fun x=>(Ye r).map (x:: ·)
def Yg(n:Int):Tm:=.mk 1 n [] []
def Zn4(l:List Int):Option (List Tm):=if(1000:Nat)<l.length then none else some (l.map Yg)
def minS:List Int→Int
 |[]=>0
 |x::r=>r.foldl min x
def maxS:List Int→Int
 |[]=>0
 |x::r=>r.foldl max x
def WI(lo hi:List Int):Option (List Tm):=
 if lo=[]∨hi=[]then some []else
 if 1000<maxS hi - minS lo+1 then none else some ((List.range (maxS hi - minS lo+1).toNat).map fun i:Nat=>Yg (minS lo+(i:Int)))
def Zbm(op:List UInt8)(ps:List (List Tm)):Option (List Tm):=Zn4 (XM YA ((Ye (ps.map Ym)).filterMap (X6 op)))
def Znn(ps:List (List Tm)):Option Nat:=ps.foldlM (fun n p=>if 1000<n*p.length then none else some (n*p.length)) 1
def Zer(s:List UInt8)(ps:List (List Tm)):Option (List Tm):=
 if ps.any (·.isEmpty)then some []else(Znn ps).bind fun _=>some ((Ye ps).map fun r=>.mk 4 0 s r)
def expandS:Tm→Option (List Tm)
 | .mk k n s l=>match l with
  |[]=>some [.mk k n s []]
  |t::r=>(expandSs (t::r)).bind fun ps=>
   if k=6 then WI (Ym (ps.getD 0 [])) (Ym (ps.getD 1 []))else if k=5 then Zbm s ps else Zer s ps
where expandSs:List Tm→Option (List (List Tm))
 |[]=>some []
 |t::r=>(expandS t).bind fun p=>(expandSs r).bind fun ps=>some (p::ps)
end Go.Abs

namespace Go.Proofs.YtmdeagmbfhbbnaaGreatDoorR
open Go.Abs
set_option maxRecDepth 100000
section
universe u
variable {α:Sort u}
abbrev y1(k:TD→Nat→Nat→List AV→α):=k (.func) 1 8 [.nilf]
abbrev y2(k:TD→Nat→Nat→List AV→α):=k (.int .i64) 1 8 [.int .i64 0]
abbrev y4(k:TD→Nat→Nat→List AV→α):=k (.bool) 1 1 [.bool false]
abbrev y5(k:TD→Nat→Nat→List AV→α):=k (.int .u8) 1 1 [.int .u8 0]
abbrev y7(k:TD→Nat→Nat→List AV→α):=k (.struct [(0,2),(1,3),(2,4),(3,6)]) 4 24 [.int .i64 0,.int .i64 0,.bool false,.int .u8 0]
abbrev y9(k:TD→Nat→Nat→List AV→α):=k (.str) 1 16 [.str []]
abbrev y12(k:TD→Nat→Nat→List AV→α):=k (.int .u64) 1 8 [.int .u64 0]
abbrev y15(k:TD→Nat→Nat→List AV→α):=k (.ptr) 1 8 [.nilp]
abbrev y20(k:TD→Nat→Nat→List AV→α):=k (.iface) 1 16 [.nili]
abbrev y21(k:TD→Nat→Nat→List AV→α):=k (.int .i32) 1 4 [.int .i32 0]
abbrev y22(k:TD→Nat→Nat→List AV→α):=k (.slice 54) 1 24 [.sl 13 [] .full]
abbrev y23(k:TD→Nat→Nat→List AV→α):=k (.slice 52) 1 24 [.sl 2 [] .full]
abbrev y28(k:TD→Nat→Nat→List AV→α):=k (.slice 34) 1 24 [.sl 1 [] .full]
abbrev y33(k:TD→Nat→Nat→List AV→α):=k (.slice 42) 1 24 [.sl 5 [] .full]
abbrev y35(k:TD→Nat→Nat→List AV→α):=k (.slice 9) 1 24 [.sl 1 [] .full]
abbrev y37(k:TD→Nat→Nat→List AV→α):=k (.slice 40) 1 24 [.sl 4 [] .full]
abbrev y39(k:TD→Nat→Nat→List AV→α):=k (.struct [(0,5),(1,3),(2,9),(3,37)]) 4 56 [.int .u8 0,.int .i64 0,.str [],.sl 4 [] .full]
abbrev y41(k:TD→Nat→Nat→List AV→α):=k (.struct [(0,9),(1,40)]) 5 72 [.str [],.int .u8 0,.int .i64 0,.str [],.sl 4 [] .full]
abbrev y51(k:TD→Nat→Nat→List AV→α):=k (.struct [(0,9),(1,37)]) 2 40 [.str [],.sl 4 [] .full]
abbrev y53(k:TD→Nat→Nat→List AV→α):=k (.struct [(0,5),(1,4),(2,52),(4,5),(5,40),(9,40)]) 13 168 [.int .u8 0,.bool false,.str [],.sl 4 [] .full,.int .u8 0,.int .u8 0,.int .i64 0,.str [],.sl 4 [] .full,.int .u8 0,.int .i64 0,.str [],.sl 4 [] .full]
abbrev y77(k:TD→Nat→Nat→List AV→α):=k (.map 9 128) 1 8 [.nilm]
abbrev y81(k:TD→Nat→Nat→List AV→α):=k (.slice 84) 1 24 [.sl 1 [] .full]
abbrev y83(k:TD→Nat→Nat→List AV→α):=k (.struct [(0,77),(1,26),(2,28),(3,81)]) 4 64 [.nilm,.nilp,.sl 1 [] .full,.sl 1 [] .full]
abbrev Zsz(k:TD→Nat→Nat→List AV→α):=k (.struct [(0,23)]) 1 24 [.sl 2 [] .full]
abbrev y104(k:TD→Nat→Nat→List AV→α):=k (.map 9 3) 1 8 [.nilm]
abbrev ZrZ(k:TD→Nat→Nat→List AV→α):=k (.map 110 113) 1 8 [.nilm]
abbrev ZrL(k:TD→Nat→Nat→List AV→α):=k (.map 116 113) 1 8 [.nilm]
abbrev ZtF(k:TD→Nat→Nat→List AV→α):=k (.struct [(0,103),(1,104),(2,105),(3,106)]) 4 48 [.sl 2 [] .full,.nilm,.nilm,.nilm]
abbrev Zr1(k:TD→Nat→Nat→List AV→α):=k (.struct [(0,9),(1,3)]) 2 24 [.str [],.int .i64 0]
abbrev y113(k:TD→Nat→Nat→List AV→α):=k (.slice 3) 1 24 [.sl 1 [] .full]
abbrev Zta(k:TD→Nat→Nat→List AV→α):=k (.struct [(0,110),(2,3),(3,9)]) 4 48 [.str [],.int .i64 0,.int .i64 0,.str []]
abbrev ZsW(k:TD→Nat→Nat→List AV→α):=k (.struct [(0,77),(1,3),(2,22)]) 3 40 [.nilm,.int .i64 0,.sl 13 [] .full]
abbrev ZqB(k:TD→Nat→Nat→List AV→α):=k (.struct []) 0 0 []
abbrev ZtZ(k:TD→Nat→Nat→List AV→α):=k (.slice 35) 1 24 [.sl 1 [] .full]
abbrev y159(k:TD→Nat→Nat→List AV→α):=k (.struct [(0,40)]) 4 56 [.int .u8 0,.int .i64 0,.str [],.sl 4 [] .full]
abbrev Zth(k:TD→Nat→Nat→List AV→α):=k (.int .u32) 1 4 [.int .u32 0]
abbrev ZtP(k:TD→Nat→Nat→List AV→α):=k (.array 7 200) 7 56 [.nilf,.nilf,.nilf,.nilf,.nilf,.nilf,.nilf]
abbrev Ztw(k:TD→Nat→Nat→List AV→α):=k (.map 5 24) 1 8 [.nilm]
abbrev ZrR(k:TD→Nat→Nat→List AV→α):=k (.slice 5) 1 24 [.sl 1 [] .full]
abbrev ZtT(k:TD→Nat→Nat→List AV→α):=k (.struct [(0,209),(1,207)]) 2 32 [.nilp,.sl 1 [] .full]
abbrev Ztc(k:TD→Nat→Nat→List AV→α):=k (.slice 37) 1 24 [.sl 1 [] .full]
abbrev Ztk(k:TD→Nat→Nat→List AV→α):=k (.slice 113) 1 24 [.sl 1 [] .full]
abbrev Zs5(k:TD→Nat→Nat→List AV→α):=k (.map 3 3) 1 8 [.nilm]
abbrev Zt9(k:TD→Nat→Nat→List AV→α):=k (.array 24 5) 24 24 [.int .u8 0,.int .u8 0,.int .u8 0,.int .u8 0,.int .u8 0,.int .u8 0,.int .u8 0,.int .u8 0,.int .u8 0,.int .u8 0,.int .u8 0,.int .u8 0,.int .u8 0,.int .u8 0,.int .u8 0,.int .u8 0,.int .u8 0,.int .u8 0,.int .u8 0,.int .u8 0,.int .u8 0,.int .u8 0,.int .u8 0,.int .u8 0]
abbrev Zt0(k:TD→Nat→Nat→List AV→α):=k (.array 20 196) 20 160 [.int .u64 0,.int .u64 0,.int .u64 0,.int .u64 0,.int .u64 0,.int .u64 0,.int .u64 0,.int .u64 0,.int .u64 0,.int .u64 0,.int .u64 0,.int .u64 0,.int .u64 0,.int .u64 0,.int .u64 0,.int .u64 0,.int .u64 0,.int .u64 0,.int .u64 0,.int .u64 0]
abbrev Zun(k:TD→Nat→Nat→List AV→α):=k (.map 9 296) 1 8 [.nilm]
abbrev ZsO(k:TD→Nat→Nat→List AV→α):=k (.array 32 5) 32 32 [.int .u8 0,.int .u8 0,.int .u8 0,.int .u8 0,.int .u8 0,.int .u8 0,.int .u8 0,.int .u8 0,.int .u8 0,.int .u8 0,.int .u8 0,.int .u8 0,.int .u8 0,.int .u8 0,.int .u8 0,.int .u8 0,.int .u8 0,.int .u8 0,.int .u8 0,.int .u8 0,.int .u8 0,.int .u8 0,.int .u8 0,.int .u8 0,.int .u8 0,.int .u8 0,.int .u8 0,.int .u8 0,.int .u8 0,.int .u8 0,.int .u8 0,.int .u8 0]
end
def dat:List (Zv×List Nat):=[(y1 .mk,[1,24,25,27,31,32,36,38,43,44,45,46,47,48,49,50,56,57,58,59,60,61,62,84,87,89,90,92,96,100,114,127,134,146,151,152,179,182,200,216,219,235,260,261,266,267,268,283,296]),(y2 .mk,[2,3,29,187]),(y4 .mk,[4]),(y5 .mk,[5,6]),(y7 .mk,[7,8]),(y9 .mk,[9,10,11]),(y12 .mk,[12,144,196,223]),(y15 .mk,[15,16,17,26,80,118,209,227,233,243,252,253]),(y20 .mk,[20,213]),(y21 .mk,[21]),(y22 .mk,[22]),(y23 .mk,[23]),(y28 .mk,[28]),(y33 .mk,[33,34]),(y35 .mk,[35]),(y37 .mk,[37]),(y39 .mk,[39,40]),(y41 .mk,[41,42]),(y51 .mk,[51,52]),(y53 .mk,[53,54]),(y77 .mk,[77]),(y81 .mk,[81]),(y83 .mk,[83]),(Zsz .mk,[103]),(y104 .mk,[104]),(ZrZ .mk,[105]),(ZrL .mk,[106]),(ZtF .mk,[108]),(Zr1 .mk,[110]),(y113 .mk,[113]),(Zta .mk,[116]),(ZsW .mk,[120]),(ZqB .mk,[128,197]),(ZtZ .mk,[130]),(y159 .mk,[159]),(Zth .mk,[194]),(ZtP .mk,[201]),(Ztw .mk,[206]),(ZrR .mk,[207]),(ZtT .mk,[211]),(Ztc .mk,[229]),(Ztk .mk,[258]),(Zs5 .mk,[259]),(Zt9 .mk,[276]),(Zt0 .mk,[292]),(Zun .mk,[297]),(ZsO .mk,[311])]
def rows:List (TypeId×Zv):=dat.flatMap fun p=>p.2.map fun t=>(t,p.1)
def tt:TT:=fun t=>(rows.find? (·.1==t)).map (·.2)
theorem tok:TOK Tryz.prog tt:=Zic (by kernel_rfl)
theorem mixed:Tryz.prog.follows .mixedOrders=true:=by kernel_rfl
def cxP(P:Program)(φ:Fm)(n N:Nat):Cx:=⟨P,tt,φ,n,N⟩
abbrev tb3(f:Nat→Prop)(a b c:Nat):Prop:=f a∧f b∧f c
abbrev tb9(f:Nat→Prop)(a b c d e g h i j:Nat):Prop:=tb3 f a b c∧tb3 f d e g∧tb3 f h i j
abbrev Rw:=(TD→Nat→Nat→List AV→Prop)→Prop
abbrev tbT(r:Rw)(t:Nat):Prop:=r fun a b c d=>tt t=some ⟨a,b,c,d⟩
abbrev tbD(d:TD)(t:Nat):Prop:=JM tt t=some d
abbrev tbF(t i o:Nat)(r:Rw):Prop:=r fun a b c d=>Zc9 tt t i=some (o,⟨a,b,c,d⟩)
abbrev tbS(t e:Nat)(r:Rw):Prop:=r fun a b c d=>sliceOf tt t=some (e,⟨a,b,c,d⟩)
abbrev tbM(t k e:Nat)(r:Rw):Prop:=r fun a b c d=>mapOf tt t=some (k,e,⟨a,b,c,d⟩)
theorem ttT:tb9 (tbT y1) 1 24 25 27 31 32 36 38 43∧tb9 (tbT y1) 44 45 46 47 48 49 50 56 57∧tb9 (tbT y1) 58 59 60 61 62 84 87 89 90∧tb9 (tbT y1) 92 96 100 114 127 134 146 151 152∧tb9 (tbT y1) 179 182 200 216 219 235 260 261 266∧tb3 (tbT y1) 267 268 283∧tbT y1 296∧tb3 (tbT y2) 2 3 29∧tbT y2 187∧tbT y4 4∧tbT y5 5∧tbT y5 6∧tbT y7 7∧tbT y7 8∧tb3 (tbT y9) 9 10 11∧tb3 (tbT y12) 12 144 196∧tbT y12 223∧tb9 (tbT y15) 15 16 17 26 80 118 209 227 233∧tb3 (tbT y15) 243 252 253∧tbT y20 20∧tbT y20 213∧tbT y21 21∧tbT y22 22∧tbT y23 23∧tbT y28 28∧tbT y33 33∧tbT y33 34∧tbT y35 35∧tbT y37 37∧tbT y39 39∧tbT y39 40∧tbT y41 41∧tbT y41 42∧tbT y51 51∧tbT y51 52∧tbT y53 53∧tbT y53 54∧tbT y77 77∧tbT y81 81∧tbT y83 83∧tbT Zsz 103∧tbT y104 104∧tbT ZrZ 105∧tbT ZrL 106∧tbT ZtF 108∧tbT Zr1 110∧tbT y113 113∧tbT Zta 116∧tbT ZsW 120∧tbT ZqB 128∧tbT ZqB 197∧tbT ZtZ 130∧tbT y159 159∧tbT Zth 194∧tbT ZtP 201∧tbT Ztw 206∧tbT ZrR 207∧tbT ZtT 211∧tbT Ztc 229∧tbT Ztk 258∧tbT Zs5 259∧tbT Zt9 276∧tbT Zt0 292∧tbT Zun 297∧tbT ZsO 311:=by
 repeat' first|exact rfl|refine Qae ?_ ?_
theorem ttF:tbF 7 0 0 y2∧tbF 7 1 1 y2∧tbF 7 2 2 y4∧tbF 7 3 3 y5∧tbF 8 0 0 y2∧tbF 8 1 1 y2∧tbF 8 2 2 y4∧tbF 8 3 3 y5∧tbF 39 0 0 y5∧tbF 39 1 1 y2∧tbF 39 2 2 y9∧tbF 39 3 3 y37∧tbF 40 0 0 y5∧tbF 40 1 1 y2∧tbF 40 2 2 y9∧tbF 40 3 3 y37∧tbF 41 0 0 y9∧tbF 41 1 1 y39∧tbF 42 0 0 y9∧tbF 42 1 1 y39∧tbF 51 0 0 y9∧tbF 51 1 1 y37∧tbF 52 0 0 y9∧tbF 52 1 1 y37∧tbF 53 0 0 y5∧tbF 53 1 1 y4∧tbF 53 2 2 y51∧tbF 53 3 4 y5∧tbF 53 4 5 y39∧tbF 53 5 9 y39∧tbF 54 0 0 y5∧tbF 54 1 1 y4∧tbF 54 2 2 y51∧tbF 54 3 4 y5∧tbF 54 4 5 y39∧tbF 54 5 9 y39∧tbF 83 0 0 y77∧tbF 83 1 1 y15∧tbF 83 2 2 y28∧tbF 83 3 3 y81∧tbF 103 0 0 y23∧tbF 108 0 0 Zsz∧tbF 108 1 1 y104∧tbF 108 2 2 ZrZ∧tbF 108 3 3 ZrL∧tbF 110 0 0 y9∧tbF 110 1 1 y2∧tbF 116 0 0 Zr1∧tbF 116 1 2 y2∧tbF 116 2 3 y9∧tbF 120 0 0 y77∧tbF 120 1 1 y2∧tbF 120 2 2 y22∧tbF 159 0 0 y39∧tbF 211 0 0 y15∧tbF 211 1 1 ZrR:=by
 repeat' first|exact rfl|refine Qae ?_ ?_
theorem ttS:tbS 22 54 y53∧tbS 23 52 y51∧tbS 28 34 y33∧tbS 33 42 y41∧tbS 34 42 y41∧tbS 35 9 y9∧tbS 37 40 y39∧tbS 81 84 y1∧tbS 113 3 y2∧tbS 130 35 y35∧tbS 207 5 y5∧tbS 229 37 y37∧tbS 258 113 y113:=by
 repeat' first|exact rfl|refine Qae ?_ ?_
theorem ttD:tb9 (tbD (.func)) 1 24 25 27 31 32 36 38 43∧tb9 (tbD (.func)) 44 45 46 47 48 49 50 56 57∧tb9 (tbD (.func)) 58 59 60 61 62 84 87 89 90∧tb9 (tbD (.func)) 92 96 100 114 127 134 146 151 152∧tb9 (tbD (.func)) 179 182 200 216 219 235 260 261 266∧tb3 (tbD (.func)) 267 268 283∧tbD (.func) 296∧tb3 (tbD (.int .i64)) 2 3 29∧tbD (.int .i64) 187∧tbD (.bool) 4∧tbD (.int .u8) 5∧tbD (.int .u8) 6∧tb3 (tbD (.str)) 9 10 11∧tb3 (tbD (.int .u64)) 12 144 196∧tbD (.int .u64) 223∧tb9 (tbD (.ptr)) 15 16 17 26 80 118 209 227 233∧tb3 (tbD (.ptr)) 243 252 253∧tbD (.iface) 20∧tbD (.iface) 213∧tbD (.int .i32) 21∧tbD (.map 9 128) 77∧tbD (.map 9 3) 104∧tbD (.map 110 113) 105∧tbD (.map 116 113) 106∧tbD (.int .u32) 194∧tbD (.map 5 24) 206∧tbD (.map 3 3) 259∧tbD (.map 9 296) 297:=by
 repeat' first|exact rfl|refine Qae ?_ ?_
theorem ttM:tbM 77 9 128 ZqB∧tbM 104 9 3 y2∧tbM 105 110 113 y113∧tbM 106 116 113 y113∧tbM 206 5 24 y1∧tbM 259 3 3 y2∧tbM 297 9 296 y1:=by
 repeat' first|exact rfl|refine Qae ?_ ?_
end Go.Proofs.YtmdeagmbfhbbnaaGreatDoorR

namespace Go.Abs
section
variable {cx:Cx} {k k' l:List Itm} {Q:Exit→Zb→Prop} {s:Zb} {c:Code} {p:Prop}
theorem nR{id:Nat}{ops:Array Oper}(h:p)(hl:norm 60 l= .code c::k:=by exact rfl)(hc:c= .region id ops false:=by exact rfl)(hT:TOK cx.P cx.T:=by exact tok)(e:Y2 cx plainO ops.toList k Q ops.toList s=p:=by simp only[go_sem,simprocAttr];exact rfl)(hd:X4 cx.N ops.toList=true:=by kernel_rfl):AKc cx l Q s:=
 Zay hT hl hc (e▸h) hd
theorem nr{id:Nat}{ops:Array Oper}(h:Y2 cx plainO ops.toList k Q ops.toList s)(hl:norm 60 l= .code c::k:=by exact rfl)(hc:c= .region id ops false:=by exact rfl)(hT:TOK cx.P cx.T:=by exact tok)(hd:X4 cx.N ops.toList=true:=by kernel_rfl):AKc cx l Q s:=
 Zay hT hl hc h hd
theorem nq{r:Prop}{id:Nat}{ops:Array Oper}(x:r)(h:p)(hl:norm 60 l= .code c::k:=by exact rfl)(hc:c= .region id ops false:=by exact rfl)(hT:TOK cx.P cx.T:=by exact tok)(e:r→Y2 cx plainO ops.toList k Q ops.toList s=p:=by intro zz;simp only[go_sem,simprocAttr,zz];exact rfl)(hd:X4 cx.N ops.toList=true:=by kernel_rfl):AKc cx l Q s:=
 Zay hT hl hc ((e x).mpr h) hd
theorem nq2{r r':Prop}{id:Nat}{ops:Array Oper}(x:r)(y:r')(h:p)(hl:norm 60 l= .code c::k:=by exact rfl)(hc:c= .region id ops false:=by exact rfl)(hT:TOK cx.P cx.T:=by exact tok)(e:r→r'→Y2 cx plainO ops.toList k Q ops.toList s=p:=by intro zz zy;simp only[go_sem,simprocAttr,zz,zy];exact rfl)(hd:X4 cx.N ops.toList=true:=by kernel_rfl):AKc cx l Q s:=
 Zay hT hl hc ((e x y).mpr h) hd
theorem nq3{r r' r'':Prop}{id:Nat}{ops:Array Oper}(x:r)(y:r')(z:r'')(h:p)(hl:norm 60 l= .code c::k:=by exact rfl)(hc:c= .region id ops false:=by exact rfl)(hT:TOK cx.P cx.T:=by exact tok)(e:r→r'→r''→Y2 cx plainO ops.toList k Q ops.toList s=p:=by intro zz zy zx;simp only[go_sem,simprocAttr,zz,zy,zx];exact rfl)(hd:X4 cx.N ops.toList=true:=by kernel_rfl):AKc cx l Q s:=
 Zay hT hl hc ((e x y z).mpr h) hd
theorem nt0{id:Nat}{ops:Array Oper}(h:p)(hl:norm 60 l= .code c::k:=by exact rfl)(hc:c= .region id ops false:=by exact rfl)(hT:TOK cx.P cx.T:=by exact tok)(e:Y2 cx plainO ops.toList k Q ops.toList s=p:=by simp only[go_sem,simprocAttr,QM];exact rfl)(hd:X4 cx.N ops.toList=true:=by kernel_rfl):AKc cx l Q s:=
 Zay hT hl hc (e.mpr h) hd
theorem dq{r:Prop}{id:Nat}{ops:Array Oper}(x:r)(h:p)(hl:norm 60 l= .code c::k:=by exact rfl)(hc:c= .region id ops true:=by exact rfl)(hT:TOK cx.P cx.T:=by exact tok)(hm:cx.P.follows .mixedOrders=true:=by exact mixed)(e:r→Y2 cx drawO ops.toList k Q ops.toList s=p:=by intro zz;simp only[go_sem,simprocAttr,zz];exact rfl)
  (hd:X4 cx.N ops.toList=true:=by kernel_rfl) (hok:(VH ops.toList (Zdj drawO ops.toList)&&Ze2 drawO ops.toList)=true:=by kernel_rfl):AKc cx l Q s:=Y5 hT hm drawO hl hc rfl ((e x).mpr h) hd hok
theorem kK(h:p)(e:p→AKc cx l Q s:=by intro zz;(repeat refine kn rfl ?_);exact zz):AKc cx l Q s:=e h
theorem nD{id:Nat}{ops:Array Oper}(op:Opt)(h:Y2 cx op ops.toList k Q ops.toList s)(hl:norm 60 l= .code c::k:=by exact rfl)(hc:c= .region id ops true:=by exact rfl)(hT:TOK cx.P cx.T:=by exact tok)(hm:cx.P.follows .mixedOrders=true:=by exact mixed)(hop:op.dr=true:=by exact rfl)
  (hd:X4 cx.N ops.toList=true:=by kernel_rfl) (hok:(VH ops.toList (Zdj op ops.toList)&&Ze2 op ops.toList)=true:=by kernel_rfl):AKc cx l Q s:=Y5 hT hm op hl hc hop h hd hok
theorem nT{o:Operand}(h:AKc cx (.code c.fst::k) Q s)(hl:norm 60 l= .code c::k:=by exact rfl)(hc:c= .cond o c.fst c.snd:=by exact rfl)(ho:evT s.tmps o= .bool true:=by exact rfl):AKc cx l Q s:=VK hl hc ho h
theorem nF{o:Operand}(h:AKc cx (.code c.snd::k) Q s)(hl:norm 60 l= .code c::k:=by exact rfl)(hc:c= .cond o c.fst c.snd:=by exact rfl)(ho:evT s.tmps o= .bool false:=by exact rfl):AKc cx l Q s:=VB hl hc ho h
theorem nV(h:Q .ret s)(hl:norm 60 l= .code c::k:=by exact rfl)(hc:c= .ret:=by exact rfl):AKc cx l Q s:=YO hl hc h
theorem nN(h:Q .normal s)(hl:norm 60 l=[]:=by exact rfl):AKc cx l Q s:=ZtD hl h
theorem nX{kk:List Itm}{R:Zb→Prop}{id:Nat}(h:AKc cx k' Q s)(hl:norm 60 l= .code c::kk:=by exact rfl)(hc:c= .exit id:=by exact rfl)(hn:VQ id kk=none:=by exact rfl)(hp:VQ id k=some k':=by exact rfl):AKc cx l (Round cx k Q R) s:=ZuM hl hc hn hp h
theorem nW{kk:List Itm}{R:Zb→Prop}(h:Q .ret s)(hl:norm 60 l= .code c::kk:=by exact rfl)(hc:c= .ret:=by exact rfl):AKc cx l (Round cx k Q R) s:=Zvp hl hc h
end
def isFun(P:Program)(f:FuncId):Bool:=match P.funcs[f]? with
 | some fn => fn.body.isSome && !(fn.name == "runtime.NumGoroutine")
 |none=>false
section
variable {f:FuncId} {P:Program}
theorem Zd1(h:isFun P f=true):∃fn c,Fun P f fn c:=by
 unfold isFun at h;split at h
 ·rename_i fn hf;rw[Qi]at h;exact⟨fn,_,Zf hf h.1 (by simpa using h.2)⟩
 ·cases h
variable {p:Prop} {avs:List AV} {r:AV} {cx:Cx}
theorem cP{dr:Bool}{o:Oper}{args:List Operand}{ts:List TypeId}{s:Zb}{F:Zb→Prop}(h:Pure cx.P f avs r)(hk:p)(hx:isFun cx.P f=true:=by kernel_rfl)(ha:Yo cx.T (evT s.tmps) args ts=avs:=by exact rfl)(e:F ⟨Yl s.tmps o.dst r,s.L,s.H⟩=p:=by simp only[go_sem,simprocAttr];exact rfl):Vg cx dr o (.func f) args ts s F:=by
 obtain⟨fn,c,hf⟩:=Zd1 hx;exact WM hf h ha (e▸hk)
variable {H:Za} {n:Nat}
theorem aF {T : TT} {fn : Func} {args : List AV} {Q : AV → Za → Prop} (h0 : P.funcs[f]? = some fn) (h : ∀ B, AKc ⟨P, T, ⟨none, B⟩, n, fn.ntmps⟩ [.code (ZQ fn)] (PostF P T n fn.results.toList Q) ⟨numbered 0 args, [], H⟩) (hN : args.length ≤ fn.ntmps := by simp) (hb : fn.body.isSome = true := by exact rfl) (hn : (fn.name == "runtime.NumGoroutine") = false := by exact rfl) (hT : TOK P T := by exact tok) : Zi P n f args H Q :=
 Zt8 hT (Zf h0 hb hn) hN h
theorem xx(h:p:=by first|exact trivial|exact qb|exact q1|exact q2|exact q3|exact rfl|exact qA rfl|exact Inside.ptr _ _ _ (.inr ⟨rfl,rfl⟩)|exact Tm.ins _|exact Tm.ZaA _ _|exact Am.ins _|exact Am.ZaA _ _|exact VJ rfl|exact Tm.ZW rfl|exact Am.ZW rfl):p:=h
variable {F:Zb→Prop} {s:Zb} {ts:List TypeId} {args:List Operand} {o:Oper}
theorem cQ{dr:Bool}(h:PC cx.P (cx.n+1) f avs (full cx.n s.L s.H) r)(hF:F ⟨Yl s.tmps o.dst r,s.L,s.H⟩)(ha:Yo cx.T (evT s.tmps) args ts=avs:=by first|exact rfl|simp only[go_sem,simprocAttr])(hx:isFun cx.P f=true:=by kernel_rfl):Vg cx dr o (.func f) args ts s F:=by
 obtain⟨fn,c,hf⟩:=Zd1 hx;exact ZjX hf h ha hF
theorem cR{o:Oper}{args:List Operand}{ts:List TypeId}{s:Zb}{F:Zb→Prop}(h:Pure cx.P f avs r)(hk:p)(hx:isFun cx.P f=true:=by kernel_rfl)(ha:Yo cx.T (evT s.tmps) args ts=avs:=by exact rfl)(e:F ⟨Yl s.tmps o.dst r,s.L,s.H⟩=p:=by simp only[go_sem,simprocAttr];exact rfl):Zix cx o (.func f) args ts s F:=by
 obtain⟨fn,c,hf⟩:=Zd1 hx;exact Zgs hf h ha (e▸hk)
theorem iw{x:Int}(h:-9223372036854775808≤x∧x≤9223372036854775807:=by omega):IntKind.i64.wrap x=x:=IntWalk.i64_in x h
theorem pB{cx:Cx}{k l:List Itm}{c:Code}{P:Program}{T:TT}{n t:Nat}{b:Bool}{H:Za}(hv:Wk (lkv s.tmps t) (.bool b):=by(try simp only[go_sem,simprocAttr]);exact .refl _)(hl:norm 60 l= .code c::k:=by exact rfl)(hc:c= .ret:=by exact rfl)(hH:s.H=H:=by exact rfl):AKc cx l (PostF P T n [.tmp t] (fun r' H'=>r'= .bool b∧H'=H)) s:=
 YO hl hc (Zc hv (.bool _) hH)
theorem KK{n N:Nat}{tm tm':List (Nat×AV)}{L L':List (Nat×Ze)}{H:Za}(h1:Yi (fun p=>Wk (lkv tm p.1) p.2) tm':=by repeat' first|exact trivial|refine q0 ?_|exact qb|exact q1|exact q2|exact q3|exact rfl|refine Qae ?_ ?_|exact qA rfl|exact Inside.ptr _ _ _ (.inr ⟨rfl,rfl⟩)|exact Tm.ins _|exact Tm.ZaA _ _|exact Am.ins _|exact Am.ZaA _ _|refine VJ ?_|refine Tm.ZW ?_|refine Am.ZW ?_|exact(Yb _).inside|exact inZ|exact ZaZ rfl|exact ZbE _|exact(Zx n _).inside|exact hfi _|exact .ptr _ _ _ (.inl hl)|exact ZgI (.inr ⟨rfl,rfl⟩)|exact(Zw _).inside|exact .msl _ _ _ _ (.inr ⟨rfl,rfl⟩)|exact(ZE _).inside|exact(hall _).2|exact(hall _).1|exact hbi _|exact Inside.ptr _ _ _ (.inl hls)|exact Zkj rfl|exact V5 _|exact Zhe rfl|exact(hin _).1|exact(hin _).2.1|exact(hin _).2.2|exact hmi _|exact hfi _ _|exact ho _ _ rfl|exact ho _ [] rfl|exact Zc0 hl|exact(Zau _).inside|exact Jy hl rfl|exact(Vt _).inside|exact Zaw _|exact hxi _|exact Zcj rfl|exact hai _|exact(YM _).inside|exact ZbB _|exact Inside.map _ _ (.inl hl)|exact(XG _).inside|exact(Ja (caps:=[]) trivial).inside|exact hpi _|exact hmb _ _|exact hms _ rfl|exact hal _|exact hms _ _ _|exact ZaN _|exact hso _ [] rfl|exact hso _ _ rfl|exact .ptr _ _ _ (.inl (Qr n))|exact hoi _|exact Inside.map _ _ (.inr ⟨rfl,rfl⟩)|exact hbs _ _ rfl|exact hob _ rfl|exact ZdK _|exact moreAt_ins _ _ _|exact Xe _|exact Tm.ZW rfl|exact(Zcd _).inside|exact hbs [] _ rfl|exact hmb _ [] _|exact WV (fun x hx=>by cases hx)|exact .any _ _ _|(refine Zdm ?_ D;rfl)|(subst hk0;rfl)|(intro a ha;simp[Ze.avs]at ha;done)|(intro q hq;simp only[Ze.at_,Ql]at hq;subst hq;exact .inr ⟨rfl,rfl⟩)|(simp only[go_sem,simprocAttr];rw[IntWalk.i64_in _ om];exact .refl _)|(simp only[go_sem,simprocAttr];exact .refl _)|(simp only[go_sem,simprocAttr];rw[he,IntWalk.i64_in _ om];exact .refl _)|(simp only[go_sem,simprocAttr];exact .any _ _ _)|(simp only[go_sem,simprocAttr];exact Tm.ZaA _ _))(h2:Yi (fun p=>lkb L p.1=some p.2) L':=by repeat' first|exact trivial|refine q0 ?_|exact qb|exact q1|exact q2|exact q3|exact rfl|refine Qae ?_ ?_|exact qA rfl|exact Inside.ptr _ _ _ (.inr ⟨rfl,rfl⟩)|exact Tm.ins _|exact Tm.ZaA _ _|exact Am.ins _|exact Am.ZaA _ _|refine VJ ?_|refine Tm.ZW ?_|refine Am.ZW ?_|exact(Yb _).inside|exact inZ|exact ZaZ rfl|exact ZbE _|exact(Zx n _).inside|exact hfi _|exact .ptr _ _ _ (.inl hl)|exact ZgI (.inr ⟨rfl,rfl⟩)|exact(Zw _).inside|exact .msl _ _ _ _ (.inr ⟨rfl,rfl⟩)|exact(ZE _).inside|exact(hall _).2|exact(hall _).1|exact hbi _|exact Inside.ptr _ _ _ (.inl hls)|exact Zkj rfl|exact V5 _|exact Zhe rfl|exact(hin _).1|exact(hin _).2.1|exact(hin _).2.2|exact hmi _|exact hfi _ _|exact ho _ _ rfl|exact ho _ [] rfl|exact Zc0 hl|exact(Zau _).inside|exact Jy hl rfl|exact(Vt _).inside|exact Zaw _|exact hxi _|exact Zcj rfl|exact hai _|exact(YM _).inside|exact ZbB _|exact Inside.map _ _ (.inl hl)|exact(XG _).inside|exact(Ja (caps:=[]) trivial).inside|exact hpi _|exact hmb _ _|exact hms _ rfl|exact hal _|exact hms _ _ _|exact ZaN _|exact hso _ [] rfl|exact hso _ _ rfl|exact .ptr _ _ _ (.inl (Qr n))|exact hoi _|exact Inside.map _ _ (.inr ⟨rfl,rfl⟩)|exact hbs _ _ rfl|exact hob _ rfl|exact ZdK _|exact moreAt_ins _ _ _|exact Xe _|exact Tm.ZW rfl|exact(Zcd _).inside|exact hbs [] _ rfl|exact hmb _ [] _|exact WV (fun x hx=>by cases hx)|exact .any _ _ _|(refine Zdm ?_ D;rfl)|(subst hk0;rfl)|(intro a ha;simp[Ze.avs]at ha;done)|(intro q hq;simp only[Ze.at_,Ql]at hq;subst hq;exact .inr ⟨rfl,rfl⟩)|(simp only[go_sem,simprocAttr];rw[IntWalk.i64_in _ om];exact .refl _)|(simp only[go_sem,simprocAttr];exact .refl _)|(simp only[go_sem,simprocAttr];rw[he,IntWalk.i64_in _ om];exact .refl _)|(simp only[go_sem,simprocAttr];exact .any _ _ _)|(simp only[go_sem,simprocAttr];exact Tm.ZaA _ _))
  (h3:Yi (fun p=>Inside n (fun k=>(lkb L' k).isSome=true) p.2) tm':=by repeat' first|exact trivial|refine q0 ?_|exact qb|exact q1|exact q2|exact q3|exact rfl|refine Qae ?_ ?_|exact qA rfl|exact Inside.ptr _ _ _ (.inr ⟨rfl,rfl⟩)|exact Tm.ins _|exact Tm.ZaA _ _|exact Am.ins _|exact Am.ZaA _ _|refine VJ ?_|refine Tm.ZW ?_|refine Am.ZW ?_|exact(Yb _).inside|exact inZ|exact ZaZ rfl|exact ZbE _|exact(Zx n _).inside|exact hfi _|exact .ptr _ _ _ (.inl hl)|exact ZgI (.inr ⟨rfl,rfl⟩)|exact(Zw _).inside|exact .msl _ _ _ _ (.inr ⟨rfl,rfl⟩)|exact(ZE _).inside|exact(hall _).2|exact(hall _).1|exact hbi _|exact Inside.ptr _ _ _ (.inl hls)|exact Zkj rfl|exact V5 _|exact Zhe rfl|exact(hin _).1|exact(hin _).2.1|exact(hin _).2.2|exact hmi _|exact hfi _ _|exact ho _ _ rfl|exact ho _ [] rfl|exact Zc0 hl|exact(Zau _).inside|exact Jy hl rfl|exact(Vt _).inside|exact Zaw _|exact hxi _|exact Zcj rfl|exact hai _|exact(YM _).inside|exact ZbB _|exact Inside.map _ _ (.inl hl)|exact(XG _).inside|exact(Ja (caps:=[]) trivial).inside|exact hpi _|exact hmb _ _|exact hms _ rfl|exact hal _|exact hms _ _ _|exact ZaN _|exact hso _ [] rfl|exact hso _ _ rfl|exact .ptr _ _ _ (.inl (Qr n))|exact hoi _|exact Inside.map _ _ (.inr ⟨rfl,rfl⟩)|exact hbs _ _ rfl|exact hob _ rfl|exact ZdK _|exact moreAt_ins _ _ _|exact Xe _|exact Tm.ZW rfl|exact(Zcd _).inside|exact hbs [] _ rfl|exact hmb _ [] _|exact WV (fun x hx=>by cases hx)|exact .any _ _ _|(refine Zdm ?_ D;rfl)|(subst hk0;rfl)|(intro a ha;simp[Ze.avs]at ha;done)|(intro q hq;simp only[Ze.at_,Ql]at hq;subst hq;exact .inr ⟨rfl,rfl⟩)|(simp only[go_sem,simprocAttr];rw[IntWalk.i64_in _ om];exact .refl _)|(simp only[go_sem,simprocAttr];exact .refl _)|(simp only[go_sem,simprocAttr];rw[he,IntWalk.i64_in _ om];exact .refl _)|(simp only[go_sem,simprocAttr];exact .any _ _ _)|(simp only[go_sem,simprocAttr];exact Tm.ZaA _ _)) (h4:Yi (fun p=>p.2.Inside n (fun k=>(lkb L' k).isSome=true)) L':=by repeat' first|exact trivial|refine q0 ?_|exact qb|exact q1|exact q2|exact q3|exact rfl|refine Qae ?_ ?_|exact qA rfl|exact Inside.ptr _ _ _ (.inr ⟨rfl,rfl⟩)|exact Tm.ins _|exact Tm.ZaA _ _|exact Am.ins _|exact Am.ZaA _ _|refine VJ ?_|refine Tm.ZW ?_|refine Am.ZW ?_|exact(Yb _).inside|exact inZ|exact ZaZ rfl|exact ZbE _|exact(Zx n _).inside|exact hfi _|exact .ptr _ _ _ (.inl hl)|exact ZgI (.inr ⟨rfl,rfl⟩)|exact(Zw _).inside|exact .msl _ _ _ _ (.inr ⟨rfl,rfl⟩)|exact(ZE _).inside|exact(hall _).2|exact(hall _).1|exact hbi _|exact Inside.ptr _ _ _ (.inl hls)|exact Zkj rfl|exact V5 _|exact Zhe rfl|exact(hin _).1|exact(hin _).2.1|exact(hin _).2.2|exact hmi _|exact hfi _ _|exact ho _ _ rfl|exact ho _ [] rfl|exact Zc0 hl|exact(Zau _).inside|exact Jy hl rfl|exact(Vt _).inside|exact Zaw _|exact hxi _|exact Zcj rfl|exact hai _|exact(YM _).inside|exact ZbB _|exact Inside.map _ _ (.inl hl)|exact(XG _).inside|exact(Ja (caps:=[]) trivial).inside|exact hpi _|exact hmb _ _|exact hms _ rfl|exact hal _|exact hms _ _ _|exact ZaN _|exact hso _ [] rfl|exact hso _ _ rfl|exact .ptr _ _ _ (.inl (Qr n))|exact hoi _|exact Inside.map _ _ (.inr ⟨rfl,rfl⟩)|exact hbs _ _ rfl|exact hob _ rfl|exact ZdK _|exact moreAt_ins _ _ _|exact Xe _|exact Tm.ZW rfl|exact(Zcd _).inside|exact hbs [] _ rfl|exact hmb _ [] _|exact WV (fun x hx=>by cases hx)|exact .any _ _ _|(refine Zdm ?_ D;rfl)|(subst hk0;rfl)|(intro a ha;simp[Ze.avs]at ha;done)|(intro q hq;simp only[Ze.at_,Ql]at hq;subst hq;exact .inr ⟨rfl,rfl⟩)|(simp only[go_sem,simprocAttr];rw[IntWalk.i64_in _ om];exact .refl _)|(simp only[go_sem,simprocAttr];exact .refl _)|(simp only[go_sem,simprocAttr];rw[he,IntWalk.i64_in _ om];exact .refl _)|(simp only[go_sem,simprocAttr];exact .any _ _ _)|(simp only[go_sem,simprocAttr];exact Tm.ZaA _ _)):AWk n N ⟨tm,L,H⟩ ⟨tm',L',H⟩:=Zh h1 h2 h3 h4
theorem aI{a b:Prop}(h:a)(k:b):a∧b:=⟨h,k⟩
variable {q:Prop}
theorem aS(h:q)(e:p=q:=by simp only[go_sem,simprocAttr];exact rfl):p:=e.mpr h
theorem aq{r:Prop}(x:r)(h:q)(e:r→p=q:=by intro zz;simp only[go_sem,simprocAttr,zz];exact rfl):p:=(e x).mpr h
theorem aq2{r r':Prop}(x:r)(y:r')(h:q)(e:r→r'→p=q:=by intro zz zy;simp only[go_sem,simprocAttr,zz,zy];exact rfl):p:=(e x y).mpr h
theorem sT(h:p:=by simp only[go_sem,simprocAttr]):p:=h
theorem xS{a b:AV}(h:Wk a b:=by simp only[go_sem,simprocAttr];exact .refl _):Wk a b:=h
end
end Go.Abs

namespace Go.Proofs.YtmdeagmbfhbbnaaGreatDoorR
open Go.Abs
theorem ZtQ(n:Int):YE tt 5 (.int .u8 n)=true:=rfl
theorem Zex(l:List UInt8):YE tt 9 (.str l)=true:=rfl
theorem Zl7(l:List UInt8)(n:Int):YE tt 110 (.agg [.str l,.int .i64 n])=true:=by
 simp only[YE,show tt 110=some ⟨.struct [(0,9),(1,3)],2,24,[.str [],.int .i64 0]⟩ from rfl,AV.cells,klAll,AV.kl];rfl
attribute [go_sem] ZoZ evO amT Zlt evS Zif fullOwn zeroV Am.fold Am.cs Am.Xl Qk Ql forall_eq_or_imp forall_eq Qy or_false delb ZtQ Zex Zl7 Tm.cs cxP Zod ZlB VT ZrK Zsr ZsB Zsk Zso ZbG ZbD plainO drawO X3 Zcz ZkN stepW ZdX Zon ZmT evP evR evW evA evT avoids lookOpd Zdf setH AV.ofValue AV.ofCell mv Zgz lkv lkb Yl setb full Yo ldA isBuf isEq eqB ZqK ZmQ Zmb Zdr YZ Jj splice bnd inOrder ones numbered Zv.isAgg cellsT oneT List.drop_succ_cons GV Qam Qas U4 QaK Qo QB Qbs List.all_nil Qs Uy Qbr MP Bool.and_self Qau Qbm and_true true_and and_self QF Qe Un UD ne_eq not_true_eq_false not_false_eq_true Qq exists_eq' exists_eq forall_const false_implies implies_true QT Bool.true_eq_false Qv Gl UJ List.contains_nil QY Qu Q9 List.drop_nil List.take_nil true_or or_true Int.natCast_nonneg Int.toNat_natCast Int.natCast_one Int.natCast_zero Int.cast_ofNat_Int gt_iff_lt ge_iff_le beq_self_eq_true List.isEmpty_cons List.isEmpty_nil Qbq Bool.not_false Int.ofNat_lt Int.ofNat_le decide_true decide_false Us UE Option.join_some Tm.fold Tm.Xl ttT ttF ttS ttD ttM ZqL nilA XI cellsU oneU ZpY evL
set_option maxRecDepth 100000
def isLow(b:Int):Bool:=decide (b ≥ 97)&&decide (b≤122)
def isUp(b:Int):Bool:=decide (b ≥ 65)&&decide (b≤90)
def Ze4(b:Int):Bool:=decide (b ≥ 48)&&decide (b≤57)
def isIn(b:Int):Bool:=isLow b||isUp b||Ze4 b||b==95
theorem a79(b:Int):Pure Tryz.prog 127 [.int .u8 b] (.bool (isLow b)):=by
 intro n H;refine aF Tryz.func127 fun B=>?_
 refine ZbZ rfl ?_;refine nR ?_;refine ZbZ rfl ?_;refine nR ?_;refine VW _ (fun hb=>?_) (fun hb=>?_)<;>simp only[go_sem,simprocAttr,hb];all_goals
  refine ZgS rfl (Zc ?_ (.bool _) rfl);simp only[go_sem,simprocAttr,isLow,hb];exact .refl _
theorem a160(b:Int):Pure Tryz.prog 215 [.int .u8 b] (.bool (isUp b)):=by
 intro n H;refine aF Tryz.func215 fun B=>?_
 refine ZbZ rfl ?_;refine nR ?_;refine ZbZ rfl ?_;refine nR ?_;refine VW _ (fun hb=>?_) (fun hb=>?_)<;>simp only[go_sem,simprocAttr,hb];all_goals
  refine ZgS rfl (Zc ?_ (.bool _) rfl);simp only[go_sem,simprocAttr,isUp,hb];exact .refl _
theorem Ztf(b:Int):Pure Tryz.prog 216 [.int .u8 b] (.bool (Ze4 b)):=by
 intro n H;refine aF Tryz.func216 fun B=>?_
 refine ZbZ rfl ?_;refine nR ?_;refine ZbZ rfl ?_;refine nR ?_;refine VW _ (fun hb=>?_) (fun hb=>?_)<;>simp only[go_sem,simprocAttr,hb];all_goals
  refine ZgS rfl (Zc ?_ (.bool _) rfl);simp only[go_sem,simprocAttr,Ze4,hb];exact .refl _
theorem ZvD(b:Int):Pure Tryz.prog 186 [.int .u8 b] (.bool (isIn b)):=by
 intro n H;refine aF Tryz.func186 fun B=>?_
 refine ZbZ rfl ?_;refine nR ?_;refine ZbZ rfl ?_;refine nR ?_;refine cP (a79 b) ?_;refine VW _ (fun hb=>?_) (fun hb=>?_)<;>simp only[go_sem,simprocAttr,hb]
 ·refine ZgS rfl (Zc ?_ (.bool _) rfl);simp only[go_sem,simprocAttr,isIn,hb,Qad];exact .refl _
 refine cP (a160 b) ?_;refine VW _ (fun h2=>?_) (fun h2=>?_)<;>simp only[go_sem,simprocAttr,h2]
 ·refine ZgS rfl (Zc ?_ (.bool _) rfl);simp only[go_sem,simprocAttr,isIn,h2,Qad,Qbv];exact .refl _
 refine cP (Ztf b) ?_;refine VW _ (fun h3=>?_) (fun h3=>?_)<;>simp only[go_sem,simprocAttr,h3];all_goals
  refine ZgS rfl (Zc ?_ (.bool _) rfl);simp only[go_sem,simprocAttr,isIn,hb,h2,h3,Qad,Qbv,Gt];exact .refl _
abbrev bt(s:List UInt8)(i:Nat):Int:=((s.getD i 0).toNat:Int)
def und:List UInt8→Nat
 |[]=>0
 |b::r=>if((b.toNat:Int)==95)=true then und r+1 else 0
theorem und_le:∀s:List UInt8,und s≤s.length
 |[]=>Qe _
 |b::r=>by
  simp only[und];split
  ·have:=und_le r;simp;omega
  ·simp
theorem und_lt:∀{s:List UInt8} {i:Nat},i<und s→(bt s i==95)=true
 |[],i,h=>by simp[und]at h
 |b::r,i,h=>by
  simp only[und]at h;split at h
  ·rename_i hb;cases i with
   |zero=>exact hb
   |succ i=>exact und_lt (s:=r) om
  ·omega
theorem und_at:∀{s:List UInt8},und s<s.length→(bt s (und s)==95)=false
 |[],h=>by simp at h
 |b::r,h=>by
  simp only[und]at h⊢;split
  ·rename_i hb;rw[if_pos hb]at h;exact und_at (s:=r) (by simpa using h)
  ·rename_i hb;exact MN _▸hb
def wd(s:List UInt8)(f:Nat):Bool:=(s.drop f).all (fun b=>isIn (b.toNat:Int))&&decide (s.length≤32)
def sNot:List UInt8:=[110,111,116]
def sym(s:List UInt8):Bool:=decide (und s<s.length)&&isLow (bt s (und s))&&wd s (und s)&& !(s==sNot)
def Ztn(s:List UInt8)(H:Za)(i:Nat):Zb:=⟨[(0,.str (s.drop i)),(1,.int .u8 95)],[],H⟩
theorem Zmt(s:List UInt8)(i j:Nat):bt (s.drop i) j=bt s (i+j):=by
 simp[bt,Qp,UC]
theorem a156(s:List UInt8):Pure Tryz.prog 223 [.str s,.int .u8 95] (.str (s.drop (und s))):=by
 intro n H;have hu:=und_le s;refine aF Tryz.func223 fun B=>?_
 refine nR ?_;refine kK ?_;refine Zr (Ztn s H) (und s) rfl ?_ ?_
 ·exact KK
 intro i hi;refine Ya rfl ?_;have hlen:(s.drop i).length=s.length - i:=QL;have hb0:bt (s.drop i) 0=bt s i:=Zmt s i 0;rcases Qg i (und s)with h|h
 ·have h1:(decide (0<((s.drop i).length:Int)))=true:=by rw[hlen];simp;omega
  have h2:(0:Int)<((s.drop i).length:Int):=by rw[hlen];omega
  have h3:(bt (s.drop i) 0==95)=true:=by rw[hb0];exact und_lt h
  refine nq3 h1 h2 h3 ?_;refine nT ?_;refine nt0 ?_;refine⟨om,?_⟩;refine nN ?_;refine⟨h,?_⟩;refine Zh ?_ ?_ ?_ ?_<;>repeat' first|apply q0|exact xx|apply aI
  simp only[go_sem,simprocAttr,UF,Nat.add_comm];exact .refl _
 ·have hi:i=und s:=by omega
  subst hi;have fin:∀tm,lkv tm 0= .str (s.drop (und s))→AKc (cxP Tryz.prog ⟨none,B⟩ n Tryz.f223.ntmps) [.code (ZQ Tryz.f223).snd.snd] (PostF Tryz.prog tt n Tryz.f223.results.toList fun r' H'=>r'= .str (s.drop (und s))∧H'=H) ⟨tm,[],H⟩:=by
   intro tm htm;refine nq htm ?_;refine nV ?_;refine Zc ?_ (.str _) rfl;exact xS
  rcases Qg (und s) s.length with hl|hl
  ·have h1:(decide (0<((s.drop (und s)).length:Int)))=true:=by rw[hlen];simp;omega
   have h2:(0:Int)<((s.drop (und s)).length:Int):=by rw[hlen];omega
   have h3:(bt (s.drop (und s)) 0==95)=false:=by rw[hb0];exact und_at hl
   refine nq3 h1 h2 h3 ?_;refine nF ?_;refine ZaI rfl rfl rfl (fin _ ?_);exact sT
  ·have h1:(decide (0<((s.drop (und s)).length:Int)))=false:=by rw[hlen];simp;omega
   refine nq h1 ?_;refine nF ?_;refine ZaI rfl rfl rfl (fin _ ?_);exact sT
theorem Zuq(s:List UInt8):Pure Tryz.prog 184 [.str s,.str [95]] (.str (s.drop (und s))):=by
 intro n H;refine aF Tryz.func184 fun B=>?_
 refine nR ?_;cases h:s.isEmpty with
 |true=>
  have:s=[]:=by simpa using h
  subst this;refine nr ?_;simp only[go_sem,simprocAttr,QaJ,List.isEmpty_nil];refine nT ?_;refine nR ?_;refine nV ?_;refine Zc ?_ (.str _) rfl;exact xS
 |false=>
  refine nr ?_;simp only[go_sem,simprocAttr,h,QaJ,List.isEmpty_cons];refine nF ?_;refine nR ?_;refine nT ?_;refine nR ?_;refine cP (a156 s) ?_;refine nV ?_;exact Zc (.refl _) (.str _) rfl
def Zcm(f:Nat)(p:Int→Bool):Prop:=(∃fn c,Fun Tryz.prog f fn c)∧ ∀b:Int,Pure Tryz.prog f [.int .u8 b] (.bool (p b))
theorem cls79:Zcm 127 isLow:=⟨⟨_,_,Zf Tryz.func127 rfl rfl⟩,a79⟩
theorem cls160:Zcm 215 isUp:=⟨⟨_,_,Zf Tryz.func215 rfl rfl⟩,a160⟩
theorem cls161:Zcm 216 Ze4:=⟨⟨_,_,Zf Tryz.func216 rfl rfl⟩,Ztf⟩
theorem cls114:Zcm 186 isIn:=⟨⟨_,_,Zf Tryz.func186 rfl rfl⟩,ZvD⟩
def ZsP(s:List UInt8)(f:Nat)(H:Za)(i:Nat):Zb:=⟨[(8,.int .i64 i),(7,.int .i64 s.length),(1,.fn (.func f) []),(0,.str s)],[],H⟩
theorem Zt3(s:List UInt8)(f:Nat)(p:Int→Bool)(hp:Zcm f p)(hs:s.length≤9223372036854775807):Pure Tryz.prog 185 [.str s,.fn (.func f) []] (.bool (s.all fun b=>p (b.toNat:Int))):=by
 intro n H;obtain⟨⟨fn,c,hf⟩,hp⟩:=hp;refine aF Tryz.func185 fun B=>?_
 refine nR ?_;refine nR ?_;refine kK ?_;refine Yc (ZsP s f H) (fun i=>∀j,j<i→p (bt s j)=true) s.length rfl ?_ (fun j h=>absurd h (Qm _)) ?_
 ·exact KK
 intro i hi hq;refine Ya rfl ?_;have hall:(s.all fun b=>p (b.toNat:Int))=true↔ ∀j,j<s.length→p (bt s j)=true:=by
  rw[QA];constructor
  ·intro h j hj;have:=h s[j] (Qa hj);simpa[bt,Qp,Qd hj]using this
  ·intro h b hb;obtain⟨j,hj,rfl⟩:=QJ hb;have:=h j hj;simpa[bt,Qp,Qd hj]using this
 rcases Qg i s.length with h|h
 ·refine nq h ?_;refine nT ?_;refine nR ?_;refine nq h ?_;refine YD (avs:=[.int .u8 (bt s i)]) sS hf (hp (bt s i) _ _) sS ?_;cases h1:p (bt s i)with
  |false=>
   refine aq h1 ?_;refine nT ?_;refine nR ?_;refine nW ?_;refine Zc ?_ (.bool _) rfl;have:(s.all fun b=>p (b.toNat:Int))=false:=by
    rw[←MN,hall];intro hh;have:=hh i h;rw[h1]at this;cases this
   rw[this];exact .refl _
  |true=>
   refine aq h1 ?_;refine nF ?_;refine nR ?_;refine nN ?_;refine⟨fun j hj=>?_,?_⟩
   ·rcases Qg j i with h'|h'
    ·exact hq j h'
    ·have:j=i:=by omega
     subst this;exact h1
   ·refine Zh ?_ ?_ ?_ ?_<;>repeat' first|apply q0|exact xx|apply aI
    ·refine aS ?_;rw[iw];exact .refl _
 ·refine nq (QE.2 h) ?_;refine nF ?_;refine nX ?_;refine nR ?_;refine nV ?_;refine Zc ?_ (.bool _) rfl;rw[hall.2 (fun j hj=>hq j om)];exact .refl _
theorem a78(s:List UInt8)(f:Nat)(p:Int→Bool)(hp:Zcm f p)(hs:s.length≤9223372036854775807):
  Pure Tryz.prog 126 [.str s,.fn (.func f) []] (.bool (decide (und s<s.length)&&p (bt s (und s))&&wd s (und s))):=by
 intro n H;have hu:=und_le s;obtain⟨⟨fn,c,hf⟩,hp⟩:=hp;have hlen:(s.drop (und s)).length=s.length - und s:=QL;have hb0:bt (s.drop (und s)) 0=bt s (und s):=Zmt s (und s) 0;refine aF Tryz.func126 fun B=>?_
 refine nR ?_;refine nR ?_;refine cP (Zuq s) ?_;rcases Qg (und s) s.length with h|h
 ·have he:(s.drop (und s)).isEmpty=false:=by
   rw[←MN,List.isEmpty_iff,←Gh,hlen];omega
  have h2:(0:Int)<((s.drop (und s)).length:Int):=by rw[hlen];omega
  have h3:0<(s.drop (und s)).length:=by rw[hlen];omega
  refine nr ?_;simp only[go_sem,simprocAttr,he,h2,h3,QaJ];refine YD (avs:=[.int .u8 (bt s (und s))]) sS hf (hp (bt s (und s)) _ _) (by simp only[go_sem,simprocAttr,hb0]) ?_;cases h1:p (bt s (und s))with
  |false=>
   refine aq h1 ?_;refine nV ?_;refine Zc ?_ (.bool _) rfl;refine aq h ?_;exact .refl _
  |true=>
   refine aq h1 ?_;refine cP (Zt3 (s.drop (und s)) _ isIn cls114 (by rw[hlen];omega)) ?_;cases h4:(s.drop (und s)).all (fun b=>isIn (b.toNat:Int))with
   |false=>
    refine aq h4 ?_;refine nV ?_;refine Zc ?_ (.bool _) rfl;simp only[go_sem,simprocAttr,h,wd,h4];exact .refl _
   |true=>
    refine aq h4 ?_;refine nV ?_;refine Zc ?_ (.bool _) rfl;simp only[go_sem,simprocAttr,h,wd,h4];have e:decide ((s.length:Int)≤32)=decide (s.length≤32):=by congr 1;simp;omega
    first|exact .refl _|(rw[e];exact .refl _)
 ·have he:(s.drop (und s)).isEmpty=true:=by
   rw[List.isEmpty_iff,←Gh,hlen];omega
  refine nr ?_;simp only[go_sem,simprocAttr,he,QaJ];refine nV ?_;refine Zc ?_ (.bool _) rfl;refine aq (QE.2 h) ?_;exact .refl _
theorem a45(s:List UInt8)(hs:s.length≤9223372036854775807):Pure Tryz.prog 80 [.str s] (.bool (sym s)):=by
 intro n H;refine aF Tryz.func80 fun B=>?_
 refine nR ?_;refine nR ?_;refine cP (a78 s _ isLow cls79 hs) ?_;refine VW _ (fun hb=>?_) (fun hb=>?_)<;>simp only[go_sem,simprocAttr,hb];all_goals
  refine nV ?_;refine Zc ?_ (.bool _) rfl;simp only[go_sem,simprocAttr,sym,hb];exact .refl _
def hpre(s p:List UInt8):Bool:=decide (p.length≤s.length)&&(s.take p.length==p)
theorem a198(s p:List UInt8):Pure Tryz.prog 222 [.str s,.str p] (.bool (hpre s p)):=by
 intro n H;refine aF Tryz.func222 fun B=>?_
 refine nR ?_;rcases Qg s.length p.length with h|h
 ·refine nr ?_;refine aq (Qbt.2 h) ?_;refine nV ?_;refine Zc ?_ (.bool _) rfl;simp only[go_sem,simprocAttr,hpre,Qbt.2 h];exact .refl _
 ·refine nr ?_;simp only[go_sem,simprocAttr,h,GV];refine nV ?_;refine Zc ?_ (.bool _) rfl;simp only[go_sem,simprocAttr,hpre,h];exact .refl _
theorem ZlY{P:Program}{T:TT}{n:Nat}{t u:Nat}{v w:AV}{H:Za}{s:Zb}(hv:Wk (lkv s.tmps t) v)(hw:Wk (lkv s.tmps u) w)(hb:Below n v)(hc:Below n w)(hH:s.H=H):
  PostF P T n [.tmp t,.tmp u] (fun r' H'=>r'= .tup [v,w]∧H'=H) .ret s:=ZG hv hw hb hc hH
theorem Zu8(s p:List UInt8):Pure Tryz.prog 246 [.str s,.str p] (.tup [.str (if hpre s p then s.drop p.length else s),.bool (hpre s p)]):=by
 intro n H;refine aF Tryz.func246 fun B=>?_
 refine nR ?_;refine nR ?_;refine cP (a198 s p) ?_;cases h:hpre s p with
 |false=>
  refine nT ?_;refine nR ?_;refine nV ?_;refine ZlY ?_ ?_ (.str _) (.bool _) rfl
  ·exact xS
  ·exact xS
 |true=>
  have hl:p.length≤s.length:=by
   simp only[hpre,Qi,decide_eq_true_eq]at h;exact h.1
  refine nF ?_;refine nr ?_;simp only[go_sem,simprocAttr,hl,QM];refine nV ?_;refine ZlY ?_ ?_ (.str _) (.bool _) rfl
  ·exact xS
  ·exact xS
theorem ZvF(s p:List UInt8):Pure Tryz.prog 214 [.str s,.str p] (.tup [.str (if hpre s p then s.drop p.length else s),.bool (hpre s p)]):=by
 intro n H;refine aF Tryz.func214 fun B=>?_
 refine nR ?_;refine nR ?_;refine cP (Zu8 s p) ?_;refine nV ?_;refine ZlY ?_ ?_ (.str _) (.bool _) rfl
 ·exact xS
 ·exact xS
def Ze3(s:List UInt8):Bool:=
 (decide (und s<s.length)&&isUp (bt s (und s))&&wd s (und s))||(hpre s [95]&&(s.drop 1).all (fun b=>Ze4 (b.toNat:Int))&&decide (s.length≤32))
theorem ZuO(s:List UInt8)(hs:s.length≤9223372036854775807):Pure Tryz.prog 171 [.str s] (.bool (Ze3 s)):=by
 intro n H;refine aF Tryz.func171 fun B=>?_
 refine nR ?_;refine nR ?_;refine cP (ZvF s [95]) ?_;refine nR ?_;refine cP (a78 s _ isUp cls160 hs) ?_;refine VW _ (fun h1=>?_) (fun h1=>?_)<;>simp only[go_sem,simprocAttr,h1]
 ·refine nV ?_;refine Zc ?_ (.bool _) rfl;simp only[go_sem,simprocAttr,Ze3,h1,Qad];exact .refl _
 ·cases h2:hpre s [95]with
  |false=>
   refine aq h2 ?_;refine nV ?_;refine Zc ?_ (.bool _) rfl;simp only[go_sem,simprocAttr,Ze3,h1,h2,U5];exact .refl _
  |true=>
   refine aq h2 ?_;refine cP (Zt3 (s.drop 1) _ Ze4 cls161 (by rw[QL];omega)) ?_;cases h3:(s.drop 1).all (fun b=>Ze4 (b.toNat:Int))with
   |false=>
    refine aq h3 ?_;refine nV ?_;refine Zc ?_ (.bool _) rfl;simp only[go_sem,simprocAttr,Ze3,h1,h2,h3,U5];exact .refl _
   |true=>
    refine aq h3 ?_;refine nV ?_;refine Zc ?_ (.bool _) rfl;simp only[go_sem,simprocAttr,Ze3,h1,h2,h3,Gt];have e:decide ((s.length:Int)≤32)=decide (s.length≤32):=by congr 1;simp;omega
    first|exact .refl _|(rw[e];exact .refl _)

end Go.Proofs.YtmdeagmbfhbbnaaGreatDoorR
