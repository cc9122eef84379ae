/- Slices that are made; a slice of zero values in a slot of its own. No program, no condition. -/
import Derived.Test.YthajllbimoodjaaGreatDoorM01
import Derived.IntWalk
import Derived.Carry
import Derived.ChangeArms
import Derived.Deep.DeepHandedRow
import Derived.Lib.LaidTab
import Derived.RecoverIn
import Derived.Lib.UnsafeStr
set_option linter.all false
set_option maxRecDepth 100000
noncomputable section
namespace Go.Abs
section
variable {P:Program}
theorem Zo.Zqd{m:Nat}{H:Za}{E:Env}{w w':World}(hr:Zo m H E w){l j n cap e sz:Nat}{cs:LA}{cur:Array Value}(hl:l<m)(y:H l j=none)(os:w'.os=w.os)(tape:w'.tape=w.tape)(output:w'.output=w.output)
  (drawn:w.drawn<=w'.drawn) (size:w'.heap.size=w.heap.size+1) (c:∀b,b<w.heap.size->w'.heap[b]? =w.heap[b]?) (d:w'.heap[w.heap.size]? =some (.cells cur e (0,0))) (z:n<=cap) (s:cap<=maxLen) (B:cur.size=cap*sz)
  (t:cs.length=n*sz) (A:VRs E cs (cur.toList.take (n*sz))):
  ∃E',VR E' (.msl sz l j n) (.slice (some ⟨w.heap.size,0,none⟩) n cap)/\Zo m (H.upd l j (.Zg e sz cs n)) E' w'/\Ext m E w E' w':=by
 obtain⟨d1,C,k⟩:=hr.dom l j hl y;have a:∀o,E.F w.heap.size o=none:=fun o=>by
  cases r:E.F w.heap.size o with
  |none=>rfl
  |some u=>exact absurd (hr.ZbC r) (Un _)
 have q:E.le m (E.Zr l j n (.slice (some ⟨w.heap.size,0,none⟩) n cap) w.heap.size []):=by
  refine⟨fun b o v hf=>?_,fun _ _ _ _ hm=>hm,fun l' k' i u _ g=>?_,rfl⟩
  ·simp only[Env.Zr];by_cases hb:b=w.heap.size
   ·subst hb;rw[a o]at hf;cases hf
   ·rw[if_neg hb];exact hf
  ·simp only[Env.Zr];rw[if_neg (fun hc=>by rw[hc.1,hc.2.1,hc.2.2,k]at g;cases g)];exact g
 obtain⟨x,p⟩:=hr.Zdw (n:=n) (v:=.slice (some ⟨w.heap.size,0,none⟩) n cap) (nb:=.Zg e sz cs n) (g':=w.heap.size) (w':=w') hl d1 (k n) rfl [] os tape output (fun _=>drawn) om (fun b hb _=>c b hb) (.inr (Qi _)) om (fun o u f=>by simp at f) (fun o u f=>by rw[a o]at f;cases f)
  ⟨⟨t,_,by simp[Env.Zr],fun i g=>by simp only[Env.Zr];rw[if_neg (fun h=>by omega)];exact k i,.inr ⟨w.heap.size,cap,cur,rfl,by simp[Env.Zr],d,z,s,B,fun o=>by simp[Env.Zr],A.mono hr.norm q⟩⟩,d1⟩
 exact⟨_,.msl sz l j _ w.heap.size cap (by simp[Env.Zr]),x,p⟩
def run_makeSlice(w:World){t e:TypeId}{i:TypeInfo}{z:Value}(g:P.underlying t=some (.slice e))(j:P.info? e=some i)(u:i.zero=some z)(l c:Nat)(n:l<=c)(m:0<i.size)(hc:(c:Int)<=9223372036854775807)
  (hb:(i.bytes:Int)*c<=140737488355328) (k k':IntKind):
  (Instr.makeSlice t (.int k l) (.int k' c)).run P w= .ok (.slice (some ⟨w.heap.size,0,none⟩) l c) (w.alloc (.cells ((Array.range (c*i.size)).map (z.cells[· % z.cells.size]!)) e)):=by
 have hw:IntKind.i64.wrap (c:Int)=c:=IntWalk.i64_in _ om;have d:IntKind.i64.wrap (l:Int)=l:=IntWalk.i64_in _ om;have q:¬((c:Int)<0):=om;have o:¬((l:Int)<0):=om;have s:¬((c:Int)<(l:Int)):=om;have p:¬(281474976710656<(i.bytes:Int)*c):=om;have r:¬(140737488355328<c*i.bytes):=by
  have:((c*i.bytes:Nat):Int)=(i.bytes:Int)*c:=by rw[Qay,Int.mul_comm]
  omega
 rcases MW c with rfl|hc0
 ·have a:l=0:=om;subst a;have b:IntKind.i64.wrap 0=0:=rfl;simp[b,Instr.makeSlice,run_underlying g,asInt,asIntOf,sizeOf,typeInfo,j,hw,askRoom,roomBytes,newRow,show(Array.range 0)= #[] from rfl]
 have f:¬(c=0\/i.size=0):=om;simp[Instr.makeSlice,run_underlying g,asInt,asIntOf,sizeOf,typeInfo,zeroValue,j,u,hw,d,q,o,s,p,r,f,askRoom,roomBytes,newRow];exact fun h=>absurd (Nat.mul_eq_zero.1 h) f
variable {T:TT} {o:Oper} {ρ:Operand->AV}
def Zjb{m:Nat}{H:Za}{t:TypeId}{x y:Operand}{r re:Zp}{e l c:Nat}{k k':IntKind}{q j:Nat}(L:TOK P T)(ho:o.op= .makeSlice t x y)(O:T t=some r)(M:r.td= .slice e)(X:T e=some re)(C:0<re.size)
  (hx:ρ x= .int k l) (V:ρ y= .int k' c) (A:l<=c) (G:(zeroV re).cells=re.zero) (F:c<=maxLen) (U:c*re.bytes<=140737488355328) (N:q<m) (W:H q j=none):
  Z5 P m o ρ H (.msl re.size q j l) (H.upd q j (.Zg e re.size (flat (List.replicate l (zeroV re))) l)):=fun E w a hr s=>by
 have p:=s x sO;have g:=s y sO;rw[hx]at p;rw[V]at g;have p:a.eval x= .int k l:=by
  generalize a.eval x=q at p;cases p;rfl
 have g:a.eval y= .int k' c:=by
  generalize a.eval y=q at g;cases g;rfl
 obtain⟨d,R,z0,hf⟩:=Zd (L t r O);obtain⟨d',i',B,f⟩:=Zd (L e re X);have hd:=ZE (M▸hf.fits);subst hd;have D:VRs E (zeroV re).cells B.cells.toList:=by rw[G];exact Y5 f.zfits
 have K:=ZbD D (by rw[f.zsize];exact C) l;have J:(zeroV re).cells.length=re.size:=by rw[D.1.symm,Uh,f.zsize]
 have Q:c<=9223372036854775807:=by unfold maxLen at F;omega
 have u:=run_makeSlice (P:=P) w hf.und f.info f.zero l c A (by rw[f.size];exact C) om (by
  rw[f.bytes];have:((c*re.bytes:Nat):Int)=(re.bytes:Int)*c:=by rw[Qay,Int.mul_comm]
  omega) k k'
 obtain⟨cur,hcur⟩:∃cur,cur=(Array.range (c*i'.size)).map (B.cells[· % B.cells.size]!):=⟨_,rfl⟩
 rw[<-hcur]at u;have h:cur=Builtin.zeroCells B.cells c:=by
  rw[hcur,Builtin.zeroCells,f.size,f.zsize]
 have I:cur.size=c*re.size:=by rw[h,size_zeroCells,f.zsize]
 have z:cur.toList.take (l*re.size)=(Builtin.zeroCells B.cells l).toList:=by
  rw[h];apply Gv
  ·simp only[QJ,Uh,size_zeroCells,f.zsize];exact QaY (QF _ A)
  intro i g1 g2;simp[Builtin.zeroCells]
 obtain⟨E',Y,Z,S⟩:=hr.Zqd (w':=w.alloc (.cells cur e)) (n:=l) (cap:=c) (e:=e) (sz:=re.size) (cs:=flat (List.replicate l (zeroV re))) (cur:=cur) N W rfl rfl rfl (Qi _) sm
  (fun b hb=>heap_alloc_old w _ hb) (heap_alloc_new w _) A F I (by rw[flat_length (k:=re.size) (fun x hx=>by rw[(Ue.1 hx).2];exact J),GX]) (by rw[z];exact K)
 refine⟨_,E',_,.inl ?_,Y,Z,S⟩;have he:execOp a.eval o=(do let v<-Instr.makeSlice t (a.eval x) (a.eval y);pure (Next.value v)):=by simp only[execOp,ho]
 rw[he,p,g];simp only[Sem.run_bind,u,Result.andThen_ok,Sem.run_pure]
def ZdY{m:Nat}{H:Za}{t:TypeId}{x:Operand}{p:Option Operand}{r re:Zp}{e K:TypeId}{sz k q j n:Nat}{h:Int}{cs:LA}(I:TOK P T)(ho:o.op= .slice t x none p none)(O:T t=some r)(L:r.td= .slice e)
  (D:T e=some re) (hv:ρ x= .msl sz q j n) (U:H q j=some (.Zg K k cs n)) (S:bnd ρ p n=some h) (M:0<=h) (h3:h<=n) (hn:0<n):Z5 P m o ρ H (.sub sz q j n 0 h.toNat) H:=fun E w a hr b=>by
 have hx:=b x sO;have hb:∀y,(none:Option Operand)=some y\/p=some y->VR E (ρ y) (a.eval y):=fun y i=>b y (by rcases i with i|rfl<;>first|cases i|simp[ho,Op.operands])
 rw[hv]at hx;have N:q<m:=by
  have u:=hx.lvl hr.norm;cases u with|msl _ _ _ _ hb'=>exact hb'
 obtain⟨⟨_,v0,C,_,F⟩,_⟩:=hr.Zg q j K k cs n N U;obtain⟨d,R,z,hf⟩:=Zd (I t r O);obtain⟨Z,i',W,A⟩:=Zd (I e re D);have hd:=ZE (L▸hf.fits);subst hd;have he:execOp a.eval o=(do let v<-Instr.sliceAt t (a.eval x) none (p.map a.eval) none;pure (Next.value v)):=by simp only[execOp,ho];rfl
 generalize i:a.eval x=y at hx;cases hx with
 |mnil=>omega
 |msl _ _ _ _ g cap hh'=>
  have hcap:n<=cap:=by
   rcases F with⟨X,J,V,Q⟩|⟨g',G,cur,J,V,Q,Y,_⟩
   ·omega
   ·rw[C,J]at hh';simp only[Qp,Value.slice.injEq]at hh';omega
  have c:=WJ (P:=P) (s:=true) (len:=n) (cap:=cap) (lo:=none) hb (l:=0) rfl S (QaT 0) M om w;have f:=VR.sub (E:=E) sz q j n 0 h.toNat g cap hh' om;simp only[Gp,MV]at f;refine⟨_,E,w,.inl ?_,f,hr,.refl m E w⟩;rw[he,i];simp only[Qby,Int.toNat_zero]at c;have B:¬cap=0:=om;simp[Instr.sliceAt,Instr.slice,run_underlying hf.und,c,ZA A,ZC,B]
def ZgU{m:Nat}{H:Za}{t F:TypeId}{x y:Operand}{r re R:Zp}{e k c:Nat}{q j:Nat}(N:TOK P T)(ho:o.op= .call {callee:=.builtin .append,args:=#[x,y],argTypes:=#[t,F]})(Z:T t=some r)(W:r.td= .slice e)(h3:T e=some re)
  (Y:T F=some R) (h5:R.td= .int .i64) (v:0<re.size) (hx:ρ x= .sl k [] .full) (hy:ρ y= .int .i64 c) (K:0<c) (Q:(zeroV re).cells=re.zero) (B:c<=maxLen) (O:c*re.bytes<=140737488355328) (X:q<m) (hH:H q j=none):
  Z5 P m o ρ H (.msl re.size q j c) (H.upd q j (.Zg e re.size (flat (List.replicate c (zeroV re))) c)):=fun E w a hr l=>by
 have p:=l x sC;have g:=l y sC;rw[hx]at p;rw[hy]at g;have g:a.eval y= .int .i64 c:=by
  generalize a.eval y=q at g;cases g;rfl
 have i:∃G,a.eval x= .slice G 0 0:=by
  generalize a.eval x=q at p;cases p with
  |slnil _ _ a ho ha=>exact⟨a,rfl⟩
  |sl _ _ _ b off cap c hk hc hv hcap hm ho=>
   have:cap=0:=ho;subst this;exact⟨_,rfl⟩
 obtain⟨G,i⟩:=i;obtain⟨d,ay,z0,hf⟩:=Zd (N t r Z);obtain⟨d',U,s,f⟩:=Zd (N e re h3);obtain⟨dx,ix,zx,C⟩:=Zd (N F R Y);have hd:=ZE (W▸hf.fits);subst hd;have L:=ZaE (h5▸C.fits);subst L;have hu:P.underlying t=some (.slice e):=hf.und;have M:P.underlying F=some (.int .i64):=C.und;have A:VRs E (zeroV re).cells s.cells.toList:=by rw[Q];exact Y5 f.zfits
 have V:=ZbD A (by rw[f.zsize];exact v) c;have S:(zeroV re).cells.length=re.size:=by rw[A.1.symm,Uh,f.zsize]
 have ax:c<=9223372036854775807:=by unfold maxLen at B;omega
 have J:(c:Int)*U.bytes<=281474976710656:=by
  rw[f.bytes];have h:((c*re.bytes:Nat):Int)<=140737488355328:=om;rw[Qay]at h;omega
 have z:Builtin.nextslicecap (0+c) 0*U.bytes<=281474976710656:=growslice_fits om (by rw[f.bytes,Qy];exact O);obtain⟨cs2,hcs2⟩:∃cs2,cs2=(Builtin.zeroCells s.cells c).toList:=⟨_,rfl⟩
 have u:cs2.length=c*re.size:=by rw[hcs2,Uh,size_zeroCells,f.zsize]
 have I:=grownCap_ge w c 0 e;have D:=VF (P:=P) w t F o.type e U s hu M f.info f.zero G 0 0 [] (by cases G<;>simp[Builtin.firstCells,loadCells,loadCellsFrom]) c K (by rw[f.size];exact v) om J cs2 hcs2 om om z;simp only[Qy,QG]at D;obtain⟨E',a1,a2,a3⟩:=hr.Zqd (w':=w.drew.alloc (.cells (cs2.toArray++Builtin.zeroCells s.cells (grownCap w c 0 e - c)) e)) (n:=c) (cap:=grownCap w c 0 e) (e:=e) (sz:=re.size) (cs:=flat (List.replicate c (zeroV re)))
  (cur:=cs2.toArray++Builtin.zeroCells s.cells (grownCap w c 0 e - c)) X hH rfl rfl rfl (Uc _) sm (fun b hb=>heap_alloc_old w.drew _ hb) (heap_alloc_new w.drew _) I (grownCap_le_maxLen w _ _ _ B)
  (by
   simp only[Gj,UZ,size_zeroCells,u,f.zsize,<-Nat.add_mul];congr 1;omega)
  (by rw[flat_length (k:=re.size) (fun x hx=>by rw[(Ue.1 hx).2];exact S),GX])
  (by
   have:(cs2.toArray++Builtin.zeroCells s.cells (grownCap w c 0 e - c)).toList.take (c*re.size)=cs2:=by
    rw[MQ,U3,<-u,Gq];rfl
   rw[this,hcs2];exact V)
 refine⟨_,E',_,.inl (YI ho ?_),a1,a2,a3⟩;rw[i,g];exact D
end
def ZL(n:Nat)(H H':Za):Prop:=∀l k b,l<n->H' l k=some b->H l k=some b\/b.Below n
def ZL.refl(n:Nat)(H:Za):ZL n H H:=fun _ _ _ _ h=>.inl h
section
variable {n:Nat}
def ZL.trans{A B C:Za}(h:ZL n A B)(h':ZL n B C):ZL n A C:=fun l k b hl hb=>by
 rcases h' l k b hl hb with h1|h1
 ·exact h l k b hl h1
 ·exact .inr h1
def ZL.upd{n l k:Nat}{H:Za}{b:Ze}(h:b.Below n):ZL n H (H.upd l k b):=fun e c d _ a=>by
 simp only[Za.upd]at a;split at a
 ·cases a;exact .inr h
 ·exact .inl a
inductive AM where
 |auto|pure|heap|call
 |own (k:Nat)
 |place (l k:Nat) (mb:Bool)
 |lay (mb:Bool)
 |at_ (l k:Nat)
def evR(T:TT)(o:Op)(ρ:Operand->AV)(G:Za):Prop×AV:=
 match o with
 | .load t x=>match T t with
  |some r=>match ρ x with
   | .iptr cs=>(r.size<=cs.length/\(r.isAgg=false->0<cs.length),ldA r cs)
   | .ptr l k off=>match G l k with
    |some (.box cs)=>(off+r.size<=cs.length/\(r.isAgg=false->off<cs.length),ldA r (cs.drop off))
    |_=>(False,.dead)
   | .eptr l k i off=>match G l k with
    |some (.Zg _ _ cs i')=>(i'=i/\0<i/\off+r.size<=cs.length/\(r.isAgg=false->off<cs.length),ldA r (cs.drop off))
    |_=>(False,.dead)
   |_=>(False,.dead)
  |none=>(False,.dead)
 | .lookup t x y ok=>match mapOf T t with
  |some (kt,_,re)=>match ρ x with
   | .nilm=>((re.isAgg=false->re.size=1)/\Yv T kt (ρ y)=true,lookA re (ρ y) [] ok)
   | .map l k=>match G l k with
    |some (.map es)=>((re.isAgg=false->re.size=1)/\Yv T kt (ρ y)=true/\(∀p∈es,Yv T kt p.1=true),lookA re (ρ y) es ok)
    |_=>(False,.dead)
   |_=>(False,.dead)
  |none=>(False,.dead)
 | .slice t x lo hi mx=>match ρ x with
  | .msl sz l k n=>match G l k with
   |some (.Zg _ _ _ i)=>match lo,mx,sliceOf T t,bnd ρ hi n with
    |none,none,some _,some h=>(i=n/\0<=h/\h<=n/\0<n,.sub sz l k n 0 h.toNat)
    |_,_,_,_=>(False,.dead)
   |_=>(False,.dead)
  |_=>(False,.dead)
 |_=>(False,.dead)
def avoids(n:Nat)(lay:List Nat):AV->Prop
 | .msl _ l k _=>l=n->lay.contains k=false
 | .ptr l k _=>l=n->lay.contains k=false
 | .eptr l k _ _=>l=n->lay.contains k=false
 | .map l k=>l=n->lay.contains k=false
 |_=>True
def lookOpd:Op->Operand
 | .load _ x=>x
 | .lookup _ x _ _=>x
 | .slice _ x _ _ _=>x
 |_=>.func 0
variable {G:Za} {ρ:Operand->AV} {o:Oper} {m:Nat} {T:TT} {P:Program}
def ZhQ(b:TOK P T):∀p,evR T o.op ρ G=p->p.1->Xh P m o ρ G p.2 G:=by
 intro p a h;unfold evR at a;split at a
 ·rename_i t x ho;split at a
  ·rename_i r hr;split at a
   ·rename_i hx;subst a;exact(Zba b ho hr hx h.1 h.2).sem
   ·rename_i hx;split at a
    ·rename_i cs hb;subst a;exact(Zfe b ho hr hx hb h.1 h.2).sem
    ·subst a;exact h.elim
   ·rename_i hx;split at a
    ·rename_i cs s hb;subst a;obtain⟨rfl,f,c,d⟩:=h;exact(ZdX b ho hr hx hb f c d).sem
    ·subst a;exact h.elim
   ·subst a;exact h.elim
  ·subst a;exact h.elim
 ·rename_i t x y ok ho;split at a
  ·rename_i l e re hm;split at a
   ·rename_i hx;subst a;exact((ZcQ b ho hm h.1 hx rfl h.2).run m G).sem
   ·rename_i hx;split at a
    ·rename_i es hb;subst a;exact(Zih b ho hm h.1 hx rfl hb h.2.1 h.2.2).sem
    ·subst a;exact h.elim
   ·subst a;exact h.elim
  ·subst a;exact h.elim
 ·rename_i t x lo u n ho;split at a
  ·rename_i hx;split at a
   ·rename_i hb;split at a
    ·rename_i q h' hs i;subst a;obtain⟨e,re⟩:=q;obtain⟨r,g,j,k⟩:=ZQ hs;obtain⟨rfl,f,c,d⟩:=h;exact(ZdY b ho g j k hx hb i f c d).sem
    ·subst a;exact h.elim
   ·subst a;exact h.elim
  ·subst a;exact h.elim
 ·subst a;exact h.elim
variable {H:Za} {lay:List Nat}
theorem Zox{o:Op}(a:Jy n (fun s=>lay.contains s) G H)(ha:avoids n lay (ρ (lookOpd o))):evR T o ρ G=evR T o ρ H:=by
 unfold evR;cases o<;>try rfl
 ·rename_i t x;simp only[lookOpd]at ha;dsimp only;cases T t with
  |none=>rfl
  |some r=>
   dsimp only;cases hx:ρ x<;>try rfl
   ·rw[hx]at ha;dsimp only;rw[a _ _ ha]
   ·rw[hx]at ha;dsimp only;rw[a _ _ ha]
 ·rename_i t x lo c b;simp only[lookOpd]at ha;dsimp only;cases hx:ρ x<;>try rfl
  rw[hx]at ha;dsimp only;rw[a _ _ ha]
 ·rename_i t x y ok;simp only[lookOpd]at ha;dsimp only;cases mapOf T t with
  |none=>rfl
  |some q=>
   obtain⟨d,e,re⟩:=q;dsimp only;cases hx:ρ x<;>try rfl
   rw[hx]at ha;dsimp only;rw[a _ _ ha]
def evW(T:TT)(n:Nat)(o:Op)(d:Option Nat)(am:AM)(ρ:Operand->AV)(G:Za):Prop×AV×Option (Nat×Nat×Ze):=
 match o with
 | .store t x y=>match T t with
  |some r=>match ρ x with
   | .ptr l k off=>match G l k with
    |some (.box cs)=>((mv T t y (ρ y)).cells.length=r.size/\ones (mv T t y (ρ y))=true/\off+r.size<=cs.length,.tup [],some (l,k,.box (splice cs off (mv T t y (ρ y)).cells)))
    |_=>(False,.dead,none)
   | .eptr l k i off=>match G l k with
    |some (.Zg e sz cs i')=>(i'=i/\0<i/\(mv T t y (ρ y)).cells.length=r.size/\ones (mv T t y (ρ y))=true/\off+r.size<=cs.length,.tup [],some (l,k,.Zg e sz (splice cs off (mv T t y (ρ y)).cells) i))
    |_=>(False,.dead,none)
   |_=>(False,.dead,none)
  |none=>(False,.dead,none)
 | .mapUpdate t x y z=>match mapOf T t with
  |some (kt,_,_)=>match ρ x with
   | .map l k=>match G l k with
    |some (.map es)=>(Yv T kt (ρ y)=true/\(∀p∈es,Yv T kt p.1=true),.tup [],some (l,k,.map (Zat (ρ y) (ρ z) es)))
    |_=>(False,.dead,none)
   |_=>(False,.dead,none)
  |none=>(False,.dead,none)
 | .insert t x y z=>match mapOf T t with
  |some (kt,_,_)=>match ρ x with
   | .map l k=>match G l k with
    |some (.map es)=>(Yv T kt (ρ y)=true/\(∀p∈es,Yv T kt p.1=true),.tup [],some (l,k,.map (Zat (ρ y) (ρ z) es)))
    |_=>(False,.dead,none)
   |_=>(False,.dead,none)
  |none=>(False,.dead,none)
 | .mapEntry t x y=>match mapOf T t with
  |some (kt,_,re)=>match ρ x with
   | .map l k=>match G l k with
    |some (.map es)=>((re.isAgg=false->re.size=1)/\Yv T kt (ρ y)=true/\(∀p∈es,Yv T kt p.1=true),(Zfp re (ρ y) es).1,some (l,k,.map (Zfp re (ρ y) es).2))
    |_=>(False,.dead,none)
   |_=>(False,.dead,none)
  |none=>(False,.dead,none)
 | .entryStore _ x y z=>match ρ x,ρ y with
  | .map l k,.int _ i=>match G l k with
   |some (.map es)=>(0<=i/\i.toNat<es.length,.tup [],some (l,k,.map (es.set i.toNat ((es.getD i.toNat (.dead,.dead)).1,ρ z))))
   |_=>(False,.dead,none)
  |_,_=>(False,.dead,none)
 | .range t x=>match d,mapOf T t with
  |some dd,some _=>match ρ x with
   | .map l k=>match G l k with
    |some (.map es)=>(G n dd=none,.ptr n dd 0,some (n,dd,.iter l k es.length []))
    |_=>(False,.dead,none)
   |_=>(False,.dead,none)
  |_,_=>(False,.dead,none)
 | .entry x=>match ρ x with
  | .ptr l k 0=>match G l k with
   |some (.iter l' j since (s::seen))=>match G l' j with
    |some (.map es)=>(since=es.length/\(s::seen).getLast sm<es.length,.tup [(es.getD ((s::seen).getLast sm) (.dead,.dead)).1,(es.getD ((s::seen).getLast sm) (.dead,.dead)).2],none)
    |_=>(False,.dead,none)
   |_=>(False,.dead,none)
  |_=>(False,.dead,none)
 | .call c=>match c.callee,c.args.toList,c.argTypes.toList with
  | .builtin .append,[x,y],[t,t']=>match sliceOf T t,mv T t y (ρ y)with
   |some (e,re),.sl k' ys _=>match am with
    | .place l j mb=>match mv T t x (ρ x)with
     | .sl _ [] .full=>(t'=t/\0<re.size/\l<=n/\G l j=none/\(ys=[]\/k'=re.size)/\(∀y∈ys,ones y=true)/\ys.length<=maxLen/\ys.length*re.bytes<=140737488355328,
       if mb then .msl re.size l j ys.length else .sl re.size ys (.buf l j),some (l,j,if mb then .Zg e re.size (flat ys) ys.length else .buf e re.size ys.length))
     |_=>(False,.dead,none)
    |_=>match ρ x with
     | .sl k xs (.buf l j)=>match G l j with
      |some (.buf e' sz fr)=>(t'=t/\e'=e/\sz=re.size/\fr=xs.length/\k=re.size/\0<re.size/\(ys=[]\/k'=re.size)/\(∀y∈ys,ones y=true)/\xs.length+ys.length<=maxLen/\(xs.length+ys.length)*re.bytes<=140737488355328,
        .sl k (xs++ys) (.buf l j),some (l,j,.buf e re.size (xs.length+ys.length)))
      |_=>(False,.dead,none)
     | .msl sz0 l j i=>match G l j with
      |some (.Zg e' sz cs i')=>(t'=t/\e'=e/\sz=re.size/\i'=i/\0<re.size/\(ys=[]\/k'=re.size)/\(∀y∈ys,ones y=true)/\i+ys.length<=maxLen/\(i+ys.length)*re.bytes<=140737488355328,
        .msl sz0 l j (i+ys.length),some (l,j,.Zg e re.size (cs++flat ys) (i+ys.length)))
      |_=>(False,.dead,none)
     |_=>(False,.dead,none)
   |some (e,re),.int .i64 c=>match ρ x with
    | .sl k xs (.buf l j)=>match G l j with
     |some (.buf e' sz fr)=>(Wx T t'=some (.int .i64)/\0<=c/\e'=e/\sz=re.size/\fr=xs.length/\k=re.size/\0<re.size/\(zeroV re).cells=re.zero/\xs.length+c.toNat<=maxLen/\(xs.length+c.toNat)*re.bytes<=140737488355328,
       .sl k (xs++List.replicate c.toNat (zeroV re)) (.buf l j),some (l,j,.buf e re.size (xs.length+c.toNat)))
     |_=>(False,.dead,none)
    |_=>(False,.dead,none)
   |_,_=>(False,.dead,none)
  |_,_,_=>(False,.dead,none)
 |_=>(False,.dead,none)
def Zs6(G:Za):Option (Nat×Nat×Ze)->Za
 |none=>G
 |some (l,k,b)=>G.upd l k b
variable {am:AM}
theorem Zoz(v:TOK P T):∀p,evW T n o.op o.dst am ρ G=p->p.1->Xh P (n+1) o ρ G p.2.1 (Zs6 G p.2.2):=by
 intro p b h;unfold evW at b;split at b
 ·rename_i t x y ho;split at b
  ·rename_i r hr;split at b
   ·rename_i l k off hx;split at b
    ·rename_i cs hb;subst b;obtain⟨S,O,W⟩:=h;exact(Wj (T:=T) t (ZgY (m:=n+1) (ρ:=fun z=>mv T t z (ρ z)) v ho hr (by show mv T t x (ρ x)=_;rw[hx];cases x<;>rfl) rfl hb S (Yi O) W)).sem
    ·subst b;exact h.elim
   ·rename_i l k i off hx;split at b
    ·rename_i e sz cs i' hb;subst b;obtain⟨rfl,h0,S,O,W⟩:=h;exact(Wj (T:=T) t (Zas (m:=n+1) (ρ:=fun z=>mv T t z (ρ z)) v ho hr (by show mv T t x (ρ x)=_;rw[hx];cases x<;>rfl) rfl hb h0 S (Yi O) W)).sem
    ·subst b;exact h.elim
   ·subst b;exact h.elim
  ·subst b;exact h.elim
 ·rename_i t x y z ho;split at b
  ·rename_i R e re hm;split at b
   ·rename_i l k hx;split at b
    ·rename_i es hb;subst b;exact(Zbb v (.inl ho) hm hx rfl rfl hb h.1 h.2).sem
    ·subst b;exact h.elim
   ·subst b;exact h.elim
  ·subst b;exact h.elim
 ·rename_i t x y z ho;split at b
  ·rename_i R e re hm;split at b
   ·rename_i l k hx;split at b
    ·rename_i es hb;subst b;exact(Zbb v (.inr ho) hm hx rfl rfl hb h.1 h.2).sem
    ·subst b;exact h.elim
   ·subst b;exact h.elim
  ·subst b;exact h.elim
 ·rename_i t x y ho;split at b
  ·rename_i R e re hm;split at b
   ·rename_i l k hx;split at b
    ·rename_i es hb;subst b;exact(ZkO v ho hm h.1 hx rfl hb h.2.1 h.2.2).sem
    ·subst b;exact h.elim
   ·subst b;exact h.elim
  ·subst b;exact h.elim
 ·rename_i t x y z ho;split at b
  ·rename_i l k kk i hx f;split at b
   ·rename_i es hb;subst b;obtain⟨U,N⟩:=h;exact(Zhu (i:=i.toNat) (kk:=kk) ho hx (by rw[f];congr 1;omega) rfl hb N).sem
   ·subst b;exact h.elim
  ·subst b;exact h.elim
 ·rename_i t x ho;split at b
  ·rename_i dd q hd hm;obtain⟨R,e,re⟩:=q;split at b
   ·rename_i l k hx;split at b
    ·rename_i es hb;subst b;exact(Zqw v ho hm hx hb (Qq n) h).sem
    ·subst b;exact h.elim
   ·subst b;exact h.elim
  ·subst b;exact h.elim
 ·rename_i x ho;split at b
  ·rename_i l k hx;split at b
   ·rename_i l' j since s seen hb;split at b
    ·rename_i es hM;subst b;obtain⟨rfl,N⟩:=h;have e1:s::seen=(s::seen).dropLast++[(s::seen).getLast sm]:=(List.dropLast_concat_getLast _).symm;rw[e1]at hb;exact(Zqv ho hx hb hM N).sem
    ·subst b;exact h.elim
   ·subst b;exact h.elim
  ·subst b;exact h.elim
 ·rename_i c ho;obtain⟨ax,args,ts⟩:=c;simp only at b;split at b
  ·rename_i x y t A ha X;obtain⟨args⟩:=args;obtain⟨ts⟩:=ts;simp only at ha X;subst ha X;split at b
   ·rename_i e re k' ys ow D f;obtain⟨r,B,H,C⟩:=ZQ D;split at b
    ·rename_i l j mb;split at b
     ·rename_i k hx;subst b;obtain⟨rfl,U,N,c3,c4,F,I,M⟩:=h;have Z:=Jc (m:=n+1) (ρ:=fun z=>mv T A z (ρ z)) v ho B H C U hx f (show l<n+1 by omega) c3 c4 (fun y f=>Yi (F y f)) I M;cases mb with
      |false=>exact(Wj (T:=T) A Z.1).sem
      |true=>exact(Wj (T:=T) A Z.2).sem
     ·subst b;exact h.elim
    ·split at b
     ·rename_i k xs l j hx;split at b
      ·rename_i Y sz fr hb;subst b;obtain⟨rfl,rfl,rfl,rfl,rfl,F,I,M,J,L⟩:=h;have u:mv T A x (ρ x)= .sl re.size xs (.buf l j):=by
        rw[hx];cases x<;>try rfl
        simp only[mv,Zhb];cases xs with
        |nil=>simp only[B,H,C]
        |cons a az=>rfl
       intro E w a Q K hr d;have hl:l<n+1:=by
        have hv:=d x (by rw[ho];simp[Op.operands,Call.operands]);rw[hx]at hv;have g:=hv.lvl hr.norm;cases g with|sl _ _ _ _ hb'=>exact hb' l j rfl
       exact(Wj (T:=T) A (Zar (m:=n+1) (ρ:=fun z=>mv T A z (ρ z)) v ho B H C F u f hl hb rfl I (fun y f=>Yi (M y f)) J L)).sem E w a Q K hr d
      ·subst b;exact h.elim
     ·rename_i V l j i hx;split at b
      ·rename_i Y sz cs i' hb;subst b;obtain⟨rfl,rfl,rfl,rfl,F,I,M,J,L⟩:=h;have u:mv T A x (ρ x)= .msl V l j i':=by
        rw[hx];cases x<;>rfl
       intro E w a Q K hr d;have hl:l<n+1:=by
        have hv:=d x (by rw[ho];simp[Op.operands,Call.operands]);rw[hx]at hv;have g:=hv.lvl hr.norm;cases g with|msl _ _ _ _ hb'=>exact hb'
       exact(Wj (T:=T) A (JV (m:=n+1) (ρ:=fun z=>mv T A z (ρ z)) v ho B H C F u f hl hb I (fun y f=>Yi (M y f)) J L)).sem E w a Q K hr d
      ·subst b;exact h.elim
     ·subst b;exact h.elim
   ·rename_i e re c D f;obtain⟨r,B,H,C⟩:=ZQ D;split at b
    ·rename_i k xs l j hx;split at b
     ·rename_i Y sz fr hb;subst b;obtain⟨c0,U,rfl,rfl,rfl,rfl,F,I,J,L⟩:=h;obtain⟨rx,d1,d2⟩:=YB c0;have u:mv T t x (ρ x)= .sl re.size xs (.buf l j):=by
       rw[hx];cases x<;>try rfl
       simp only[mv,Zhb];cases xs with
       |nil=>simp only[B,H,C]
       |cons a az=>rfl
      intro E w a Q K hr d;have hl:l<n+1:=by
       have hv:=d x (by rw[ho];simp[Op.operands,Call.operands]);rw[hx]at hv;have g:=hv.lvl hr.norm;cases g with|sl _ _ _ _ hb'=>exact hb' l j rfl
      exact(Wj (T:=T) t (ZgT (m:=n+1) (ρ:=fun z=>mv T t z (ρ z)) (c:=c.toNat) v ho B H C d1 d2 F u (by rw[f];congr 1;omega) hl hb rfl I J L)).sem E w a Q K hr d
     ·subst b;exact h.elim
    ·subst b;exact h.elim
   ·subst b;exact h.elim
  ·subst b;exact h.elim
 ·subst b;exact h.elim
def evA(T:TT)(n:Nat)(o:Op)(am:AM)(ρ:Operand->AV)(a:Nat):Prop×AV×Ze:=
 match o with
 | .box t x=>(ones (mv T t x (ρ x))=true,.ptr n a 0,.box (mv T t x (ρ x)).cells)
 | .alloc t=>match T t with
  |some r=>(True,.ptr n a 0,.box r.zero)
  |none=>(False,.dead,.box [])
 | .makeMap _ none=>(True,.map n a,.map [])
 | .call c=>match c.callee,c.args.toList,c.argTypes.toList with
  | .builtin .append,[x,y],[t,t']=>match sliceOf T t,mv T t x (ρ x),mv T t y (ρ y),am with
   |some (e,re),.sl _ [] .full,.sl k' ys _,.lay mb=>(t'=t/\0<re.size/\(ys=[]\/k'=re.size)/\(∀y∈ys,ones y=true)/\ys.length<=maxLen/\ys.length*re.bytes<=140737488355328,
     if mb then .msl re.size n a ys.length else .sl re.size ys (.buf n a),if mb then .Zg e re.size (flat ys) ys.length else .buf e re.size ys.length)
   |some (e,re),.sl _ [] .full,.int .i64 c,.lay true=>(Wx T t'=some (.int .i64)/\0<c/\0<re.size/\(zeroV re).cells=re.zero/\c.toNat<=maxLen/\c.toNat*re.bytes<=140737488355328,
     .msl re.size n a c.toNat,.Zg e re.size (flat (List.replicate c.toNat (zeroV re))) c.toNat)
   |_,_,_,_=>(False,.dead,.box [])
  |_,_,_=>(False,.dead,.box [])
 | .makeSlice t x y=>match sliceOf T t,ρ x,ρ y with
  |some (e,re),.int _ l,.int _ c=>(0<=l/\l<=c/\0<re.size/\(zeroV re).cells=re.zero/\c.toNat<=maxLen/\c.toNat*re.bytes<=140737488355328,.msl re.size n a l.toNat,.Zg e re.size (flat (List.replicate l.toNat (zeroV re))) l.toNat)
  |_,_,_=>(False,.dead,.box [])
 | .buildSlice t k ps=>match sliceOf T t,am with
  |some (e,re),.lay true=>(inOrder 0 ps.toList=true/\k=ps.size/\0<k/\0<re.size/\k*re.size<=2^24/\(∀x∈ps.toList.map (fun p=>ρ p.2),x.cells.length=re.size/\ones x=true),.msl re.size n a k,.Zg e re.size (flat (ps.toList.map fun p=>ρ p.2)) k)
  |_,_=>(False,.dead,.box [])
 |_=>(False,.dead,.box [])
def Zou(u:TOK P T){dd:Nat}:∀p,evA T n o.op am ρ dd=p->p.1-> ∀G,G n dd=none->Xh P (n+1) o ρ G p.2.1 (G.upd n dd p.2.2):=by
 intro p a h G q;unfold evA at a;split at a
 ·rename_i t x ho;subst a;exact(Wj (T:=T) t (Zqu (m:=n+1) (H:=G) (ρ:=fun z=>mv T t z (ρ z)) (P:=P) ho rfl (Yi h) (Qq n) q)).sem
 ·rename_i t ho;split at a
  ·rename_i r hr;subst a;exact(ZkN u ho hr (Qq n) q).sem
  ·subst a;exact h.elim
 ·rename_i t ho;subst a;exact(ZgX ho (Qq n) q).sem
 ·rename_i c ho;obtain⟨M,args,I⟩:=c;simp only at a;split at a
  ·rename_i x y t B ha E;obtain⟨args⟩:=args;obtain⟨I⟩:=I;simp only at ha E;subst ha E;split at a
   ·rename_i e re k k' ys O mb b hx i;obtain⟨r,f,j,g⟩:=ZQ b;subst a;obtain⟨rfl,v,s,d,D,K⟩:=h;have F:=Jc (m:=n+1) (ρ:=fun z=>mv T B z (ρ z)) u ho f j g v hx i (Qq n) q s (fun y i=>Yi (d y i)) D K;cases mb with
    |false=>exact(Wj (T:=T) B F.1).sem
    |true=>exact(Wj (T:=T) B F.2).sem
   ·rename_i e re k c b hx i;obtain⟨r,f,j,g⟩:=ZQ b;subst a;obtain⟨A,v,C,w,s,d⟩:=h;obtain⟨N,d1,J⟩:=YB A;exact(Wj (T:=T) t (ZgU (m:=n+1) (ρ:=fun z=>mv T t z (ρ z)) (c:=c.toNat) u ho f j g d1 J C hx (by rw[i];congr 1;omega) om w s d (Qq n) q)).sem
   ·subst a;exact h.elim
  ·subst a;exact h.elim
 ·rename_i t x y ho;split at a
  ·rename_i e re kk l L c b hx i;obtain⟨r,f,j,g⟩:=ZQ b;subst a;obtain⟨A,v,w,s,d,D⟩:=h;exact(Zjb (m:=n+1) (l:=l.toNat) (c:=c.toNat) u ho f j g w (by rw[hx];congr 1;omega) (by rw[i];congr 1;omega) om s d D (Qq n) q).sem
  ·subst a;exact h.elim
 ·rename_i t k ps ho;split at a
  ·rename_i e re b;obtain⟨r,f,j,g⟩:=ZQ b;subst a;obtain⟨v,C,A,w,s,d⟩:=h;exact(ZdW (m:=n+1) (H:=G) u ho f j g v C A w s (fun x hx=>⟨(d x hx).1,Yi (d x hx).2⟩) (Qq n) q).sem
  ·subst a;exact h.elim
 ·subst a;exact h.elim
def Zd5(n:Nat)(L:List (Nat×Ze))(l k:Nat)(b:Ze):List (Nat×Ze):=if l=n then setb L k b else L
def setH(n:Nat)(H:Za)(l k:Nat)(b:Ze):Za:=if l=n then H else H.upd l k b
def JL(n:Nat)(L:List (Nat×Ze))(H:Za)(l k:Nat)(b:Ze):full n (Zd5 n L l k b) (setH n H l k b)=(full n L H).upd l k b:=by
 unfold Zd5 setH;by_cases h:l=n
 ·subst h;simp only[if_true];exact Zm _ _ _ _ _
 ·simp only[if_neg h];exact Yj _ _ _ _ _ _ h
def Yo(T:TT)(ρ:Operand->AV):List Operand->List TypeId->LA
 |x::xs,t::ts=>mv T t x (ρ x)::Yo T ρ xs ts
 |x::xs,[]=>ρ x::Yo T ρ xs []
 |[],_=>[]
def XU{E:Env}{T:TT}{ρ:Operand->AV}{a:Act}:∀(b:List Operand) (c:List TypeId),(∀x∈b,VR E (ρ x) (a.eval x))->VRs E (Yo T ρ b c) (b.map a.eval)
 |[],_,_=>VRs.nil E
 |x::b,[],h=>VRs.cons (h x sm) (XU b [] (fun y d=>h y (Qx _ d)))
 |x::b,t::c,h=>VRs.cons (Zf4 (h x sm)) (XU b c (fun y d=>h y (Qx _ d)))
structure Opt where
 dr:Bool
 al:Bool
 am:Nat->AM
 lay:List Nat
def ZbE(op:Opt):Option Nat->AM
 |some d=>op.am d
 |none=>.auto
def Zuj(cx:Cx)(l:Bool)(o:Oper)(g:Operand)(d:List Operand)(k:List TypeId)(s:Zc)(F:Zc->Prop):Prop:=
 ∃f i c a e,evT s.tmps g= .fn (.func f) a/\Fun cx.P f i c/\
  Zh cx.P (cx.n+1) f (Yo cx.T (evT s.tmps) d k++a) (full cx.n s.L s.H) e/\
  (∀r b,e r b-> ∃j H',b=full cx.n j H'/\ZL cx.n s.H H'/\F ⟨Yf s.tmps o.dst r,j,H'⟩)/\
  (l=true-> ∃r,(∀h b,e h b->h=r/\b=full cx.n s.L s.H)/\F ⟨Yf s.tmps o.dst r,s.L,s.H⟩)
def Zs1(cx:Cx)(o:Oper)(g:Operand)(a:List Operand)(e:List TypeId)(s:Zc)(F:Zc->Prop):Prop:=
 ∃l d,evT s.tmps g= .fn (.yield l) []/\VJ cx.P (cx.n+1) l (Yo cx.T (evT s.tmps) a e) (full cx.n s.L s.H) d/\
  ∀r b,d r b-> ∃c H',b=full cx.n c H'/\ZL cx.n s.H H'/\F ⟨Yf s.tmps o.dst r,c,H'⟩
def ZsY(cx:Cx)(o:Oper)(g:Operand)(a:List Operand)(i:List TypeId)(s:Zc)(F:Zc->Prop):Prop:=
 ∃f j c h e,evT s.tmps g= .bfn (.func f) h/\Fun cx.P f j c/\
  Zh cx.P (cx.n+1) f (h++Yo cx.T (evT s.tmps) a i) (full cx.n s.L s.H) e/\
  ∀r b,e r b-> ∃d H',b=full cx.n d H'/\ZL cx.n s.H H'/\F ⟨Yf s.tmps o.dst r,d,H'⟩
def WV(cx:Cx)(c:Bool)(o:Oper)(g:Operand)(a:List Operand)(b:List TypeId)(s:Zc)(F:Zc->Prop):Prop:=
 Zuj cx c o g a b s F\/(c=false/\(Zs1 cx o g a b s F\/ZsY cx o g a b s F))
def ZsF(cx:Cx)(o:Oper)(x:Operand)(s:Zc)(F:Zc->Prop):Prop:=
 ∃k c j b a,evT s.tmps x= .ptr cx.n k 0/\lkb s.L k=some (.iter c j b.length a)/\full cx.n s.L s.H c j=some (.map b)/\
  ((∀i,i<b.length->i∈a)->F ⟨Yf s.tmps o.dst (.tup [.bool false]),s.L,s.H⟩)/\
  (∀i,i<b.length->i∉a->F ⟨Yf s.tmps o.dst (.tup [.bool true,(b.getD i (.dead,.dead)).1,(b.getD i (.dead,.dead)).2]),setb s.L k (.iter c j b.length (a++[i])),s.H⟩)
def ZlC(cx:Cx)(o:Oper)(g:Operand)(b:List Operand)(e:List TypeId)(s:Zc)(F:Zc->Prop):Prop:=
 ∃f d c a r,evT s.tmps g= .fn (.func f) a/\Fun cx.P f d c/\Pure cx.P f (Yo cx.T (evT s.tmps) b e++a) r/\F ⟨Yf s.tmps o.dst r,s.L,s.H⟩
def ZlD(cx:Cx)(lay:List Nat)(o:Oper)(g:Operand)(b:List Operand)(e:List TypeId)(s:Zc)(F:Zc->Prop):Prop:=
 ∃f d c a r,evT s.tmps g= .fn (.func f) a/\Fun cx.P f d c/\(∀G,Jy cx.n (fun x=>lay.contains x) G (full cx.n s.L s.H)->PC cx.P (cx.n+1) f (Yo cx.T (evT s.tmps) b e++a) G r)/\F ⟨Yf s.tmps o.dst r,s.L,s.H⟩
def ZfY(cx:Cx)(o:Oper)(g:Operand)(b:List Operand)(j:List TypeId)(s:Zc)(F:Zc->Prop):Prop:=
 ∃f d c a r e H',evT s.tmps g= .fn (.func f) a/\Fun cx.P f d c/\Zh cx.P (cx.n+1) f (Yo cx.T (evT s.tmps) b j++a) (full cx.n s.L s.H) (fun h i=>h=r/\i=full cx.n e H')/\
  ZL cx.n s.H H'/\F ⟨Yf s.tmps o.dst r,e,H'⟩
def evL(T:TT)(o:Op)(ρ:Operand->AV):Prop×AV:=
 match o with
 | .load t x=>match T t with
  |some r=>match ρ x with
   | .iptr cs=>(r.size<=cs.length/\(r.isAgg=false->0<cs.length),ldA r cs)
   |_=>(False,.dead)
  |none=>(False,.dead)
 |_=>(False,.dead)
def Zov(b:TOK P T):∀p,evL T o.op ρ=p->p.1-> ∀m G,Xh P m o ρ G p.2 G:=by
 intro p a h m G;unfold evL at a;split at a
 ·rename_i t x ho;split at a
  ·rename_i r hr;split at a
   ·rename_i hx;subst a;exact(Zba b ho hr hx h.1 h.2).sem
   ·subst a;exact h.elim
  ·subst a;exact h.elim
 ·subst a;exact h.elim
def Zq1(cx:Cx)(o:Oper)(s:Zc)(F:Zc->Prop):Prop:=
 (evL cx.T o.op (evT s.tmps)).1/\F ⟨Yf s.tmps o.dst (evL cx.T o.op (evT s.tmps)).2,s.L,s.H⟩
def Zca(cx:Cx)(o:Oper)(s:Zc)(F:Zc->Prop):Prop:=
 (evP cx.T o.op o.type (evT s.tmps)).1/\F ⟨Yf s.tmps o.dst (evP cx.T o.op o.type (evT s.tmps)).2,s.L,s.H⟩
def Zlf(cx:Cx)(op:Opt)(o:Oper)(s:Zc)(F:Zc->Prop):Prop:=
 (evR cx.T o.op (evT s.tmps) (full cx.n s.L s.H)).1/\avoids cx.n op.lay (evT s.tmps (lookOpd o.op))/\F ⟨Yf s.tmps o.dst (evR cx.T o.op (evT s.tmps) (full cx.n s.L s.H)).2,s.L,s.H⟩
def Zq9(n:Nat)(a:LN)(L:List (Nat×Ze))(H:Za)(F:Zc->Prop):Option (Nat×Nat×Ze)->Prop
 |none=>F ⟨a,L,H⟩
 |some (l,k,b)=>(l=n\/b.Below n)/\F ⟨a,Zd5 n L l k b,setH n H l k b⟩
def stepW(cx:Cx)(am:AM)(o:Oper)(s:Zc)(F:Zc->Prop):Prop:=
 (evW cx.T cx.n o.op o.dst am (evT s.tmps) (full cx.n s.L s.H)).1/\Zq9 cx.n (Yf s.tmps o.dst (evW cx.T cx.n o.op o.dst am (evT s.tmps) (full cx.n s.L s.H)).2.1) s.L s.H F (evW cx.T cx.n o.op o.dst am (evT s.tmps) (full cx.n s.L s.H)).2.2
def evS(T:TT)(l k:Nat)(o:Op)(ρ:Operand->AV)(b0:Option Ze):Prop×Ze:=
 match o with
 | .store t x y=>match T t with
  |some r=>match ρ x,b0 with
   | .ptr l' k' off,some (.box cs)=>((l'=l/\k'=k)/\(mv T t y (ρ y)).cells.length=r.size/\ones (mv T t y (ρ y))=true/\off+r.size<=cs.length,.box (splice cs off (mv T t y (ρ y)).cells))
   | .eptr l' k' i off,some (.Zg e sz cs i')=>((l'=l/\k'=k)/\i'=i/\0<i/\(mv T t y (ρ y)).cells.length=r.size/\ones (mv T t y (ρ y))=true/\off+r.size<=cs.length,.Zg e sz (splice cs off (mv T t y (ρ y)).cells) i)
   |_,_=>(False,.box [])
  |none=>(False,.box [])
 |_=>(False,.box [])
variable {b0:Option Ze} {l k:Nat}
def Zoy(f:TOK P T):∀p,evS T l k o.op ρ b0=p->p.1-> ∀G,G l k=b0->Xh P (n+1) o ρ G (.tup []) (G.upd l k p.2):=by
 intro p a h G g;unfold evS at a;split at a
 ·rename_i t x y ho;split at a
  ·rename_i r hr;split at a
   ·rename_i l' k' off cs hx;subst a;obtain⟨⟨rfl,rfl⟩,c,b,d⟩:=h;exact(Wj (T:=T) t (ZgY (m:=n+1) (ρ:=fun z=>mv T t z (ρ z)) f ho hr (by show mv T t x (ρ x)=_;rw[hx];cases x<;>rfl) rfl g c (Yi b) d)).sem
   ·rename_i l' k' i off e sz cs q hx;subst a;obtain⟨⟨rfl,rfl⟩,rfl,j,c,b,d⟩:=h;exact(Wj (T:=T) t (Zas (m:=n+1) (ρ:=fun z=>mv T t z (ρ z)) f ho hr (by show mv T t x (ρ x)=_;rw[hx];cases x<;>rfl) rfl g j c (Yi b) d)).sem
   ·subst a;exact h.elim
  ·subst a;exact h.elim
 ·subst a;exact h.elim
def ZmN(cx:Cx)(l k:Nat)(o:Oper)(s:Zc)(F:Zc->Prop):Prop:=
 (evS cx.T l k o.op (evT s.tmps) (full cx.n s.L s.H l k)).1/\Zq9 cx.n (Yf s.tmps o.dst (.tup [])) s.L s.H F (some (l,k,(evS cx.T l k o.op (evT s.tmps) (full cx.n s.L s.H l k)).2))
def amT(op:Opt):Operand->AM
 | .tmp t=>op.am t
 |_=>.auto
def Zd6(cx:Cx)(am:AM)(o:Oper)(s:Zc)(F:Zc->Prop):Prop:=
 match o.dst with
 |some dd=>(evA cx.T cx.n o.op am (evT s.tmps) dd).1/\lkb s.L dd=none/\F ⟨Yf s.tmps (some dd) (evA cx.T cx.n o.op am (evT s.tmps) dd).2.1,setb s.L dd (evA cx.T cx.n o.op am (evT s.tmps) dd).2.2,s.H⟩
 |none=>False
def evO(T:TT)(n k:Nat)(o:Op)(ρ:Operand->AV)(b0:Option Ze):Prop×AV×Ze:=
 match o with
 | .call c=>match c.callee,c.args.toList,c.argTypes.toList with
  | .builtin .append,[x,y],[t,t']=>match sliceOf T t,mv T t y (ρ y),ρ x,b0 with
   |some (e,re),.sl k' ys _,.sl kk xs (.buf l j),some (.buf e' sz fr)=>((l=n/\j=k)/\t'=t/\e'=e/\sz=re.size/\fr=xs.length/\kk=re.size/\0<re.size/\(ys=[]\/k'=re.size)/\(∀y∈ys,ones y=true)/\xs.length+ys.length<=maxLen/\(xs.length+ys.length)*re.bytes<=140737488355328,
     .sl kk (xs++ys) (.buf l j),.buf e re.size (xs.length+ys.length))
   |some (e,re),.sl k' ys _,.msl sz0 l j i,some (.Zg e' sz cs i')=>((l=n/\j=k)/\t'=t/\e'=e/\sz=re.size/\i'=i/\0<re.size/\(ys=[]\/k'=re.size)/\(∀y∈ys,ones y=true)/\i+ys.length<=maxLen/\(i+ys.length)*re.bytes<=140737488355328,
     .msl sz0 l j (i+ys.length),.Zg e re.size (cs++flat ys) (i+ys.length))
   |_,_,_,_=>(False,.dead,.box [])
  |_,_,_=>(False,.dead,.box [])
 |_=>(False,.dead,.box [])
theorem Zow(H:TOK P T):∀p,evO T n k o.op ρ b0=p->p.1-> ∀G,G n k=b0->Xh P (n+1) o ρ G p.2.1 (G.upd n k p.2.2):=by
 intro p b h G I;unfold evO at b;split at b
 ·rename_i c ho;obtain⟨N,args,J⟩:=c;simp only at b;split at b
  ·rename_i x y t q ha F;obtain⟨args⟩:=args;obtain⟨J⟩:=J;simp only at ha F;subst ha F;split at b
   ·rename_i e re k' ys L kk xs l j K sz fr d f hx;obtain⟨r,s,v,u⟩:=ZQ d;subst b;obtain⟨⟨rfl,rfl⟩,rfl,rfl,rfl,rfl,rfl,D,E,B,w,A⟩:=h;have g:mv T q x (ρ x)= .sl re.size xs (.buf l j):=by
     rw[hx];cases x<;>try rfl
     simp only[mv,Zhb];cases xs with
     |nil=>simp only[s,v,u]
     |cons a az=>rfl
    exact(Wj (T:=T) q (Zar (m:=l+1) (ρ:=fun z=>mv T q z (ρ z)) H ho s v u D g f (Qq l) I rfl E (fun y f=>Yi (B y f)) w A)).sem
   ·rename_i e re k' ys L C l j i K sz cs M d f hx;obtain⟨r,s,v,u⟩:=ZQ d;subst b;obtain⟨⟨rfl,rfl⟩,rfl,rfl,rfl,rfl,D,E,B,w,A⟩:=h;have g:mv T q x (ρ x)= .msl C l j M:=by
     rw[hx];cases x<;>rfl
    exact(Wj (T:=T) q (JV (m:=l+1) (ρ:=fun z=>mv T q z (ρ z)) H ho s v u D g f (Qq l) I E (fun y f=>Yi (B y f)) w A)).sem
   ·subst b;exact h.elim
  ·subst b;exact h.elim
 ·subst b;exact h.elim
def Zq2(cx:Cx)(k:Nat)(o:Oper)(s:Zc)(F:Zc->Prop):Prop:=
 (evO cx.T cx.n k o.op (evT s.tmps) (lkb s.L k)).1/\F ⟨Yf s.tmps o.dst (evO cx.T cx.n k o.op (evT s.tmps) (lkb s.L k)).2.1,setb s.L k (evO cx.T cx.n k o.op (evT s.tmps) (lkb s.L k)).2.2,s.H⟩
def Step(cx:Cx)(lay:List Nat)(o:Oper)(κ:Kd)(s:Zc)(F:Zc->Prop):Prop:=
 ∃v a H',κ.sem cx.P (cx.n+1) cx.n (fun x=>lay.contains x) o (evT s.tmps) (full cx.n s.L s.H) v (full cx.n a H')/\ZL cx.n s.H H'/\F ⟨Yf s.tmps o.dst v,a,H'⟩
def isBuf:AV->Bool
 | .sl _ _ (.buf _ _)=>true
 | .msl _ _ _ _=>true
 |_=>false
def Zcc(cx:Cx)(op:Opt)(o:Oper)(a:List Operand)(s:Zc)(F:Zc->Prop):AM->Prop
 | .auto=>match op.dr,a with
  |false,x::_=>match isBuf (evT s.tmps x)with
   |true=>stepW cx .auto o s F
   |false=>Zca cx o s F
  |_,_=>Zca cx o s F
 | .pure=>Zca cx o s F
 | .heap=>stepW cx .heap o s F
 | .place l k mb=>stepW cx (.place l k mb) o s F
 | .lay mb=>Zd6 cx (.lay mb) o s F
 | .own k=>Zq2 cx k o s F
 | .call=>Step cx op.lay o .w s F
 | .at_ _ _=>False
def Zjy(cx:Cx)(op:Opt)(o:Oper)(s:Zc)(F:Zc->Prop):AV->Bool->Prop
 | .msl _ _ _ _,false=>Zlf cx op o s F
 |_,_=>Zca cx o s F
def Zn2(cx:Cx)(o:Oper)(s:Zc)(F:Zc->Prop):AM->Prop
 | .lay mb=>Zd6 cx (.lay mb) o s F
 |_=>Zca cx o s F
def Vu(cx:Cx)(op:Opt)(o:Oper)(s:Zc)(F:Zc->Prop):Prop:=
 match o.op with
 | .load _ _=>match ZbE op o.dst with
  | .pure=>Zq1 cx o s F
  |_=>Zlf cx op o s F
 | .lookup _ _ _ _=>Zlf cx op o s F
 | .slice _ x _ _ _=>match ZbE op o.dst with
  | .heap=>Step cx op.lay o .t s F
  |_=>Zjy cx op o s F (evT s.tmps x) op.dr
 | .store _ x _=>match amT op x with
  | .at_ l k=>ZmN cx l k o s F
  |_=>stepW cx .auto o s F
 | .mapUpdate _ _ _ _=>stepW cx .auto o s F
 | .insert _ _ _ _=>stepW cx .auto o s F
 | .mapEntry _ _ _=>stepW cx .auto o s F
 | .entryStore _ _ _ _=>stepW cx .auto o s F
 | .range _ _=>stepW cx .auto o s F
 | .entry _=>stepW cx .auto o s F
 | .box _ _=>Zd6 cx .auto o s F
 | .alloc _=>Zd6 cx .auto o s F
 | .makeMap _ _=>Zd6 cx .auto o s F
 | .makeSlice _ _ _=>Zd6 cx .auto o s F
 | .buildSlice _ _ _=>Zn2 cx o s F (ZbE op o.dst)
 | .next x str=>op.dr=false/\str=false/\ZsF cx o x s F
 | .call c=>match c.callee with
  | .value g=>match op.al with
   |true=>match ZbE op o.dst with
    | .heap=>ZlD cx op.lay o g c.args.toList c.argTypes.toList s F
    | .call=>ZfY cx o g c.args.toList c.argTypes.toList s F
    |_=>ZlC cx o g c.args.toList c.argTypes.toList s F
   |false=>op.lay=[]/\WV cx op.dr o g c.args.toList c.argTypes.toList s F
  | .builtin .append=>Zcc cx op o c.args.toList s F (ZbE op o.dst)
  | .builtin .clear=>Step cx op.lay o .w s F
  | .builtin .len=>match ZbE op o.dst with
   | .heap=>Step cx op.lay o .t s F
   |_=>Zca cx o s F
  |_=>Zca cx o s F
 |_=>Zca cx o s F
def vcG(cx:Cx)(op:Opt)(o:Oper)(s:Zc)(F:Zc->Prop)(a:Bool):AV->Prop
 | .bool true=>match a with
  |true=>Vu cx op o s F
  |false=>F ⟨Yf s.tmps o.dst (.tup []),s.L,s.H⟩
 | .bool false=>match a with
  |true=>F ⟨Yf s.tmps o.dst (.tup []),s.L,s.H⟩
  |false=>Vu cx op o s F
 | .tup []=>F ⟨Yf s.tmps o.dst (.tup []),s.L,s.H⟩
 |_=>False
def X4(all:List Oper)(j:Nat):Option Nat:=(all[j]?).bind (·.dst)
def YT(cx:Cx)(op:Opt)(all:List Oper)(k:List Itm)(Q:Exit->Zc->Prop):List Oper->Zc->Prop
 |[],s=>AK cx.P cx.φ cx.n cx.N k Q s
 |o::r,s=>match o.guard with
  |none=>Vu cx op o s (YT cx op all k Q r)
  |some (j,want)=>match X4 all j with
   |none=>YT cx op all k Q r ⟨Yf s.tmps o.dst (.tup []),s.L,s.H⟩
   |some d=>vcG cx op o s (YT cx op all k Q r) want (lkv s.tmps d)
def Zu2(d:Nat):AM->Kd
 | .auto=>.p
 | .pure=>.p
 | .lay _=>.a d
 | .own k=>.a k
 |_=>.w
def Zh8(op:Opt):Option Nat->Kd
 |some d=>if op.al then .a d else .w
 |none=>.w
def Xw(op:Opt)(o:Oper):Kd:=
 match o.op with
 | .load _ _=>match ZbE op o.dst with
  | .pure=>.p
  |_=>.t
 | .lookup _ _ _ _=>.t
 | .slice _ _ _ _ _=>match ZbE op o.dst with
  | .heap=>.t
  |_=>.p
 | .store _ x _=>match amT op x with
  | .at_ l k=>.b l k
  |_=>.w
 | .mapUpdate _ _ _ _=>.w
 | .insert _ _ _ _=>.w
 | .mapEntry _ _ _=>.w
 | .entryStore _ _ _ _=>.w
 | .range _ _=>.w
 | .entry _=>.w
 | .box _ _=>Zh8 op o.dst
 | .alloc _=>Zh8 op o.dst
 | .makeMap _ _=>Zh8 op o.dst
 | .makeSlice _ _ _=>Zh8 op o.dst
 | .buildSlice _ _ _=>match ZbE op o.dst,o.dst with
  | .lay _,some d=>.a d
  |_,_=>.p
 | .call c=>match c.callee with
  | .value _=>if op.al then(match ZbE op o.dst with| .heap=>.t| .call=>.w|_=>.p)else .t
  | .builtin .append=>match o.dst with
   |some d=>Zu2 d (op.am d)
   |none=>.p
  | .builtin .clear=>.w
  | .builtin .len=>match ZbE op o.dst with
   | .heap=>.t
   |_=>.p
  |_=>.p
 |_=>.p
def Jl(h:Jy n (fun x=>([]:List Nat).contains x) G H):G=H:=by
 funext l k;exact h l k (fun _=>rfl)
variable {F:Zc->Prop} {s:Zc} {cx:Cx}
def Step.weak(h:Step cx lay o .t s F):Step cx lay o .w s F:=by
 obtain⟨v,c,H',a,b,d⟩:=h;have e:=a.2;refine⟨v,c,H',?_,b,d⟩;show Xh _ _ _ _ _ _ _;rw[e];exact a.1 (full cx.n s.L s.H) (fun _ _ _=>rfl)
variable {v:AV}
def Step.look(h:Z5 cx.P (cx.n+1) o (evT s.tmps) (full cx.n s.L s.H) v (full cx.n s.L s.H))(b:F ⟨Yf s.tmps o.dst v,s.L,s.H⟩):Step cx [] o .t s F:=
 ⟨v,s.L,s.H,⟨fun G a=>by rw[Jl a];exact h.sem,rfl⟩,.refl _ _,b⟩
def Step.same(h:Z5 cx.P (cx.n+1) o (evT s.tmps) (full cx.n s.L s.H) v (full cx.n s.L s.H))(a:F ⟨Yf s.tmps o.dst v,s.L,s.H⟩):Step cx lay o .w s F:=
 ⟨v,s.L,s.H,h.sem,.refl _ _,a⟩
def Step.turn{b:Ze}(h:Z5 cx.P (cx.n+1) o (evT s.tmps) (full cx.n s.L s.H) v ((full cx.n s.L s.H).upd l k b))(hb:l=cx.n\/b.Below cx.n)
  (a:F ⟨Yf s.tmps o.dst v,Zd5 cx.n s.L l k b,setH cx.n s.H l k b⟩):Step cx lay o .w s F:=by
 refine⟨v,_,_,?_,?_,a⟩
 ·show Xh _ _ _ _ _ _ _;rw[JL];exact h.sem
 ·unfold setH;by_cases hl:l=cx.n
  ·rw[if_pos hl];exact .refl _ _
  ·rw[if_neg hl];exact .upd (hb.resolve_left hl)
variable {κ:Kd}
def Xe(c:TOK cx.P cx.T)(a:κ= .p\/κ= .w)(h:Zca cx o s F):Step cx lay o κ s F:=by
 have b:=ZhP (P:=cx.P) c (o:=o) (ρ:=evT s.tmps) _ rfl h.1;refine⟨_,s.L,s.H,?_,.refl _ _,h.2⟩;rcases a with rfl|rfl
 ·exact⟨fun G=>b _ G,rfl⟩
 ·exact b _ _
variable {op:Opt}
def Zdj(c:TOK cx.P cx.T)(b:κ= .t\/κ= .w)(h:Zlf cx op o s F):Step cx op.lay o κ s F:=by
 obtain⟨a,d,f⟩:=h;refine⟨_,s.L,s.H,?_,.refl _ _,f⟩;rcases b with rfl|rfl
 ·refine⟨fun G g=>?_,rfl⟩;have e:=Zox (T:=cx.T) g d;rw[<-e]at a⊢;exact ZhQ (P:=cx.P) c _ rfl a
 ·exact ZhQ (P:=cx.P) c _ rfl a
def Xf(f:TOK cx.P cx.T)(h:stepW cx am o s F):Step cx lay o .w s F:=by
 obtain⟨g,d⟩:=h;have e:=Zoz (P:=cx.P) f (n:=cx.n) (am:=am) (o:=o) (ρ:=evT s.tmps) (G:=full cx.n s.L s.H) _ rfl g;generalize evW cx.T cx.n o.op o.dst am (evT s.tmps) (full cx.n s.L s.H)=p at d e;obtain⟨c,v,i⟩:=p;cases i with
 |none=>exact⟨v,s.L,s.H,e,.refl _ _,d⟩
 |some q=>
  obtain⟨l,k,b⟩:=q;obtain⟨j,m⟩:=d;refine⟨v,Zd5 cx.n s.L l k b,setH cx.n s.H l k b,?_,?_,m⟩
  ·show Xh _ _ _ _ _ _ _;rw[JL];exact e
  ·unfold setH;by_cases a:l=cx.n
   ·rw[if_pos a];exact .refl _ _
   ·rw[if_neg a];exact .upd (j.resolve_left a)
def Zlg(e:TOK cx.P cx.T)(c:κ= .b l k\/κ= .w)(h:ZmN cx l k o s F):Step cx lay o κ s F:=by
 obtain⟨f,g,i⟩:=h;have d:=Zoy (P:=cx.P) e (n:=cx.n) (l:=l) (k:=k) (o:=o) (ρ:=evT s.tmps) (b0:=full cx.n s.L s.H l k) _ rfl f;refine⟨.tup [],Zd5 cx.n s.L l k _,setH cx.n s.H l k _,?_,?_,i⟩
 ·rcases c with rfl|rfl
  ·exact⟨_,d,by rw[JL]⟩
  ·show Xh _ _ _ _ _ _ _;rw[JL];exact d _ rfl
 ·unfold setH;by_cases a:l=cx.n
  ·rw[if_pos a];exact .refl _ _
  ·rw[if_neg a];exact .upd (g.resolve_left a)
def VG(j:TOK cx.P cx.T)(e:(∃d,o.dst=some d/\κ= .a d)\/κ= .w)(h:Zd6 cx am o s F):Step cx lay o κ s F:=by
 unfold Zd6 at h;split at h
 ·rename_i dd f;obtain⟨k,i,l⟩:=h;have g:=Zou (P:=cx.P) j (n:=cx.n) (am:=am) (o:=o) (ρ:=evT s.tmps) (dd:=dd) _ rfl k;have b:full cx.n s.L s.H cx.n dd=none:=by simp only[full,if_true];exact i
  refine⟨_,_,s.H,?_,.refl _ _,by rw[f];exact l⟩;rcases e with⟨d,c,rfl⟩|rfl
  ·rw[f]at c;cases c;exact⟨_,fun G m=>g G (m.trans b),by rw[Zm]⟩
  ·show Xh _ _ _ _ _ _ _;rw[Zm];exact g _ b
 ·exact h.elim
def ZmM(f:TOK cx.P cx.T)(c:κ= .a k\/κ= .w)(h:Zq2 cx k o s F):Step cx lay o κ s F:=by
 obtain⟨g,e⟩:=h;have d:=Zow (P:=cx.P) f (n:=cx.n) (k:=k) (o:=o) (ρ:=evT s.tmps) (b0:=lkb s.L k) _ rfl g;have b:full cx.n s.L s.H cx.n k=lkb s.L k:=by simp only[full,if_true]
 refine⟨_,_,s.H,?_,.refl _ _,e⟩;rcases c with rfl|rfl
 ·exact⟨_,fun G i=>d G (i.trans b),by rw[Zm]⟩
 ·show Xh _ _ _ _ _ _ _;rw[Zm];exact d _ b
def ZlP{cx:Cx}{s:Zc}{F:Zc->Prop}{g:Operand}{args:Array Operand}{d:Array TypeId}(k:o.op= .call {callee:=.value g,args:=args,argTypes:=d})
  (h:WV cx true o g args.toList d.toList s F):Step cx [] o .t s F:=by
 rcases h with h|⟨h,_⟩
 case inr=>cases h
 obtain⟨f,z,c,i,A,p,l,u,_,q⟩:=h;have e:∀E (a:Act),(∀x∈args,VR E (evT s.tmps x) (a.eval x))->VRs E (Yo cx.T (evT s.tmps) args.toList d.toList) (args.toList.map a.eval):=fun E a w=>XU _ _ (fun x b=>w x (by simpa using b))
 obtain⟨r,m,j⟩:=q rfl;have v:Xh cx.P (cx.n+1) o (evT s.tmps) (full cx.n s.L s.H) r (full cx.n s.L s.H):=Zb3 l k p _ e (u.mono m);exact⟨r,s.L,s.H,⟨fun G y=>by rw[Jl y];exact v,rfl⟩,.refl _ _,j⟩
def ZjU{cx:Cx}{lay:List Nat}{s:Zc}{F:Zc->Prop}{g:Operand}{args:Array Operand}{d:Array TypeId}(i:κ= .p\/κ= .w)(m:o.op= .call {callee:=.value g,args:=args,argTypes:=d})
  (h:ZlC cx o g args.toList d.toList s F):Step cx lay o κ s F:=by
 obtain⟨f,y,c,j,r,t,q,u,l⟩:=h;have e:∀E (a:Act),(∀x∈args,VR E (evT s.tmps x) (a.eval x))->VRs E (Yo cx.T (evT s.tmps) args.toList d.toList) (args.toList.map a.eval):=fun E a v=>XU _ _ (fun x b=>v x (by simpa using b))
 have k:∀G,Xh cx.P (cx.n+1) o (evT s.tmps) G r G:=fun G=>Zb3 q m t _ e (u _ G)
 refine⟨r,s.L,s.H,?_,.refl _ _,l⟩;rcases i with rfl|rfl
 ·exact⟨k,rfl⟩
 ·exact k _
def ZjV{cx:Cx}{lay:List Nat}{s:Zc}{F:Zc->Prop}{g:Operand}{args:Array Operand}{d:Array TypeId}(i:κ= .t\/κ= .w)(m:o.op= .call {callee:=.value g,args:=args,argTypes:=d})
  (h:ZlD cx lay o g args.toList d.toList s F):Step cx lay o κ s F:=by
 obtain⟨f,z,c,j,r,q,p,u,l⟩:=h;have e:∀E (a:Act),(∀x∈args,VR E (evT s.tmps x) (a.eval x))->VRs E (Yo cx.T (evT s.tmps) args.toList d.toList) (args.toList.map a.eval):=fun E a v=>XU _ _ (fun x b=>v x (by simpa using b))
 have k:∀G,Jy cx.n (fun x=>lay.contains x) G (full cx.n s.L s.H)->Xh cx.P (cx.n+1) o (evT s.tmps) G r G:=fun G y=>Zb3 p m q _ e (u G y)
 refine⟨r,s.L,s.H,?_,.refl _ _,l⟩;rcases i with rfl|rfl
 ·exact⟨k,rfl⟩
 ·exact k _ (fun _ _ _=>rfl)
def ZmL(c:TOK cx.P cx.T)(a:κ= .p\/κ= .w)(h:Zq1 cx o s F):Step cx lay o κ s F:=by
 have b:=Zov (P:=cx.P) c (o:=o) (ρ:=evT s.tmps) _ rfl h.1;refine⟨_,s.L,s.H,?_,.refl _ _,h.2⟩;rcases a with rfl|rfl
 ·exact⟨fun G=>b _ G,rfl⟩
 ·exact b _ _
def ZjW{cx:Cx}{lay:List Nat}{s:Zc}{F:Zc->Prop}{g:Operand}{args:Array Operand}{d:Array TypeId}(k:o.op= .call {callee:=.value g,args:=args,argTypes:=d})
  (h:ZfY cx o g args.toList d.toList s F):Step cx lay o .w s F:=by
 obtain⟨f,u,c,i,r,p,H',n,l,q,m,j⟩:=h;have e:∀E (a:Act),(∀x∈args,VR E (evT s.tmps x) (a.eval x))->VRs E (Yo cx.T (evT s.tmps) args.toList d.toList) (args.toList.map a.eval):=fun E a t=>XU _ _ (fun x b=>t x (by simpa using b))
 exact⟨r,p,H',Zb3 l k n _ e q,m,j⟩
def ZhA(b:TOK cx.P cx.T){f:List Operand}(a:(op.dr=false/\κ= .w)\/(op.dr=true/\κ=(match o.dst with|some d=>Zu2 d am|none=>.p)))
  (i:o.dst=none->am= .auto) (h:Zcc cx op o f s F am):Step cx op.lay o κ s F:=by
 cases g:o.dst with
 |none=>
  have:=i g;subst this;rw[g]at a;simp only[Zcc]at h;split at h
  ·rename_i c;have e:κ= .w:=by
    rcases a with⟨_,h⟩|⟨h,_⟩
    ·exact h
    ·rw[c]at h;cases h
   subst e;split at h
   ·exact Xf b h
   ·exact Xe b (.inr rfl) h
  ·exact Xe b (a.elim (fun h=>.inr h.2) (fun h=>.inl h.2)) h
 |some d=>
  rw[g]at a;cases am with
  |auto=>
   simp only[Zcc]at h;split at h
   ·rename_i c;have e:κ= .w:=by
     rcases a with⟨_,h⟩|⟨h,_⟩
     ·exact h
     ·rw[c]at h;cases h
    subst e;split at h
    ·exact Xf b h
    ·exact Xe b (.inr rfl) h
   ·exact Xe b (a.elim (fun h=>.inr h.2) (fun h=>.inl h.2)) h
  |pure=>exact Xe b (a.elim (fun h=>.inr h.2) (fun h=>.inl h.2)) h
  |heap=>
   have:κ= .w:=a.elim (fun h=>h.2) (fun h=>h.2);subst this;exact Xf b h
  |place l k mb=>
   have:κ= .w:=a.elim (fun h=>h.2) (fun h=>h.2);subst this;exact Xf b h
  |lay mb=>exact VG b (a.elim (fun h=>.inr h.2) (fun h=>.inl ⟨d,g,h.2⟩)) h
  |own k=>exact ZmM b (a.elim (fun h=>.inr h.2) (fun h=>.inl h.2)) h
  |call=>
   have:κ= .w:=a.elim (fun h=>h.2) (fun h=>h.2);subst this;exact h
  |at_ l k=>exact h.elim
def Zkn(op:Opt)(o:Oper):Bool:=
 match o.op with
 | .next _ _=>true
 | .call c=>match c.callee with
  | .value _=>!op.al
  |_=>false
 |_=>false
def Zhf(b:TOK cx.P cx.T)(j:op.dr=true\/Zkn op o=false)(hk:(op.dr=false/\κ= .w)\/(op.dr=true/\κ=Xw op o))(h:Vu cx op o s F):Step cx op.lay o κ s F:=by
 have f:Xw op o=Zh8 op o.dst->(∃d,o.dst=some d/\κ= .a d)\/κ= .w:=fun e=>by
  rcases hk with⟨_,h⟩|⟨_,h⟩
  ·exact .inr h
  ·rw[h,e];unfold Zh8;split
   ·rename_i d hd;split
    ·exact .inl ⟨d,hd,rfl⟩
    ·exact .inr rfl
   ·exact .inr rfl
 have hw:Xw op o= .w->κ= .w:=fun e=>hk.elim (fun h=>h.2) (fun h=>h.2.trans e)
 have q:Xw op o= .t->κ= .t\/κ= .w:=fun e=>hk.elim (fun h=>.inr h.2) (fun h=>.inl (h.2.trans e))
 have m:Xw op o= .p->κ= .p\/κ= .w:=fun e=>hk.elim (fun h=>.inr h.2) (fun h=>.inl (h.2.trans e))
 unfold Vu at h;split at h
 ·rename_i ho;split at h
  ·rename_i hm;exact ZmL b (m (by simp only[Xw,ho,hm])) h
  ·rename_i hm;exact Zdj b (q (by simp only[Xw,ho])) h
 ·rename_i ho;exact Zdj b (q (by simp only[Xw,ho])) h
 ·rename_i t x lo V U ho;cases hm:ZbE op o.dst with
  |heap=>
   rw[hm]at h;rcases q (by simp only[Xw,ho,hm])with rfl|rfl
   ·exact h
   ·exact h.weak
  |_=>
  rw[hm]at h;dsimp only at h;have E:Xw op o= .p:=by simp only[Xw,ho,hm]
  unfold Zjy at h;split at h
  ·rename_i H;have G:κ= .w:=by
    rcases hk with⟨_,h⟩|⟨h,_⟩
    ·exact h
    ·rw[H]at h;cases h
   exact Zdj b (.inr G) h
  ·exact Xe b (m E) h
 ·rename_i t x y ho;cases hm:amT op x with
  |at_ l k=>
   rw[hm]at h;refine Zlg b (hk.elim (fun h=>.inr h.2) (fun h=>.inl ?_)) h;rw[h.2];simp only[Xw,ho,hm]
  |_=>
   rw[hm]at h;rw[hw (by simp only[Xw,ho,hm])];exact Xf b h
 ·rename_i ho;rw[hw (by simp only[Xw,ho])];exact Xf b h
 ·rename_i ho;rw[hw (by simp only[Xw,ho])];exact Xf b h
 ·rename_i ho;rw[hw (by simp only[Xw,ho])];exact Xf b h
 ·rename_i ho;rw[hw (by simp only[Xw,ho])];exact Xf b h
 ·rename_i ho;rw[hw (by simp only[Xw,ho])];exact Xf b h
 ·rename_i ho;rw[hw (by simp only[Xw,ho])];exact Xf b h
 ·rename_i ho;exact VG b (f (by simp only[Xw,ho])) h
 ·rename_i ho;exact VG b (f (by simp only[Xw,ho])) h
 ·rename_i ho;exact VG b (f (by simp only[Xw,ho])) h
 ·rename_i ho;exact VG b (f (by simp only[Xw,ho])) h
 ·rename_i ho;cases hd:o.dst with
  |none=>
   have n:Xw op o= .p:=by simp only[Xw,ho,hd];split<;>simp_all
   rw[hd]at h;exact Xe b (m n) h
  |some d=>
   cases hm:ZbE op (some d)with
   |lay mb=>
    rw[hd,hm]at h;refine VG b (hk.elim (fun h=>.inr h.2) (fun h=>.inl ⟨d,hd,?_⟩)) h;rw[h.2];simp only[Xw,ho,hd,hm]
   |_=>
    rw[hd,hm]at h;have n:Xw op o= .p:=by simp only[Xw,ho,hd,hm]
    exact Xe b (m n) h
 ·rename_i ho;rcases j with hd|hn
  ·rw[h.1]at hd;cases hd
  ·simp only[Zkn,ho]at hn;cases hn
 ·rename_i c ho;obtain⟨S,args,W⟩:=c;simp only at h;split at h
  ·rename_i g;split at h
   ·rename_i i;cases hm:ZbE op o.dst with
    |heap=>
     rw[hm]at h;exact ZjV (q (by simp only[Xw,ho,i,if_true,hm])) ho h
    |call=>
     rw[hm]at h;rw[hw (by simp only[Xw,ho,i,if_true,hm])];exact ZjW ho h
    |_=>
     rw[hm]at h;exact ZjU (m (by simp only[Xw,ho,i,if_true,hm])) ho h
   ·rename_i i;obtain⟨hl,h⟩:=h;rw[hl];rcases j with hd|hn
    ·rw[hd]at h;rcases hk with⟨r,_⟩|⟨_,rfl⟩
     ·rw[hd]at r;cases r
     ·have:Xw op o= .t:=by simp only[Xw,ho,i];rfl
      rw[this];exact ZlP ho h
    ·simp only[Zkn,ho,i]at hn;cases hn
  ·refine ZhA b ?_ (fun hd=>by simp only[ZbE,hd]) h;rcases hk with h|⟨hd,h⟩
   ·exact .inl h
   ·refine .inr ⟨hd,?_⟩;rw[h];simp only[Xw,ho];cases o.dst<;>rfl
  ·rw[hw (by simp only[Xw,ho])];exact h
  ·cases hm:ZbE op o.dst with
   |heap=>
    rw[hm]at h;rcases q (by simp only[Xw,ho,hm])with rfl|rfl
    ·exact h
    ·exact h.weak
   |_=>rw[hm]at h;exact Xe b (m (by simp only[Xw,ho,hm])) h
  ·rename_i K I L J;refine Xe b (m ?_) h;simp only[Xw,ho]
 ·rename_i K I A L J z N Q M O R B D v u hn C;refine Xe b (m ?_) h;unfold Xw;split
  ·rename_i ho;exact(K _ _ ho).elim
  ·rename_i ho;exact(I _ _ _ _ ho).elim
  ·rename_i ho;exact(A _ _ _ _ _ ho).elim
  ·rename_i ho;exact(L _ _ _ ho).elim
  ·rename_i ho;exact(J _ _ _ _ ho).elim
  ·rename_i ho;exact(z _ _ _ _ ho).elim
  ·rename_i ho;exact(N _ _ _ ho).elim
  ·rename_i ho;exact(Q _ _ _ _ ho).elim
  ·rename_i ho;exact(M _ _ ho).elim
  ·rename_i ho;exact(O _ ho).elim
  ·rename_i ho;exact(R _ _ ho).elim
  ·rename_i ho;exact(B _ ho).elim
  ·rename_i ho;exact(D _ _ ho).elim
  ·rename_i ho;exact(v _ _ _ ho).elim
  ·rename_i ho;exact(u _ _ _ ho).elim
  ·rename_i ho;exact(C _ ho).elim
  ·rfl
variable {S:AV->Za->Prop} {H':Za}
def Xh.Zxh(h:Xh P m o ρ H v H')(f:S v H'):ZaP P m o ρ H S:=
 fun E w a Q K j b k g=>h E w a Q K j b (fun c d l e i n=>k c d l v H' f e i n) g
def ZaP.mono{c:AV->Za->Prop}(h:ZaP P m o ρ H S)(j:∀v H',S v H'->c v H'):ZaP P m o ρ H c:=
 fun E w a Q K k b l i=>h E w a Q K k b (fun d e p v H' n f g q=>l d e p v H' (j _ _ n) f g q) i
def Zqy{m:Nat}{ρ:Operand->AV}{H:Za}{f:FuncId}{fn:Func}{c:Code}{g:Operand}{h:LA}{args:Array Operand}{r:Array TypeId}{S:AV->Za->Prop}(D:Fun P f fn c)
  (k:o.op= .call {callee:=.value g,args:=args,argTypes:=r}) (u:ρ g= .fn (.func f) h) (q:LA) (n:∀E (a:Act),(∀x∈args,VR E (ρ x) (a.eval x))->VRs E q (args.toList.map a.eval))
  (C:Zh P m f (q++h) H S):ZaP P m o ρ H S:=fun E w a Q K J b z N=>by
 have i:=b g (by rw[k];simp[Op.operands,Call.operands]);rw[u]at i;have L:execOp a.eval o=(do let d<-resolve a.eval {callee:=.value g,args:=args,argTypes:=r} o.type;invoke d.target d.args):=by simp only[execOp,k]
 generalize G:a.eval g=y at i;cases i with|fn _ _ vs hl hvs=>
 have j:(execOp a.eval o).run P w= .ok (.enter f (args.map a.eval++vs.toArray)) w:=by
  rw[L];simp[resolve,G,Deferred.ofValue,invoke,Y2 D]
 refine Y8 j (fun _ e=>by cases e) ⟨JI,JH ?_⟩;have p:=C E w (args.toList.map a.eval++vs) J ((n E a (fun x l=>b x (by rw[k];simp[Op.operands,Call.operands,l]))).append ⟨hl,hvs⟩);rw[show(args.toList.map a.eval++vs).toArray=args.map a.eval++vs.toArray by rw[<-List.append_toArray,<-Array.toList_map]]at p;refine p.mono ?_;rintro e t ⟨s,v,F,A,rfl,B,M,I,l⟩;exact z A t v s F B M I l
def Zqx{m:Nat}{ρ:Operand->AV}{H:Za}{f:FuncId}{I:Func}{c:Code}{g:Operand}{n:LA}{args:Array Operand}{r:Array TypeId}{S:AV->Za->Prop}(D:Fun P f I c)
  (j:o.op= .call {callee:=.value g,args:=args,argTypes:=r}) (u:ρ g= .bfn (.func f) n) (q:LA) (l:∀E (a:Act),(∀x∈args,VR E (ρ x) (a.eval x))->VRs E q (args.toList.map a.eval))
  (C:Zh P m f (n++q) H S):ZaP P m o ρ H S:=fun E w a Q K L b z O=>by
 have h:=b g (by rw[j];simp[Op.operands,Call.operands]);rw[u]at h;have M:execOp a.eval o=(do let d<-resolve a.eval {callee:=.value g,args:=args,argTypes:=r} o.type;invoke d.target d.args):=by simp only[execOp,j]
 generalize G:a.eval g=y at h;cases h with|bfn _ _ vs hl hvs=>
 have i:(execOp a.eval o).run P w= .ok (.enter f (vs.toArray++args.map a.eval)) w:=by
  rw[M];simp[resolve,G,Deferred.ofValue,invoke,Y2 D]
 refine Y8 i (fun _ e=>by cases e) ⟨JI,JH ?_⟩;have p:=C E w (vs++args.toList.map a.eval) L (VRs.append ⟨hl,hvs⟩ (l E a (fun x k=>b x (by rw[j];simp[Op.operands,Call.operands,k]))));rw[show(vs++args.toList.map a.eval).toArray=vs.toArray++args.map a.eval by rw[<-List.append_toArray,<-Array.toList_map]]at p;refine p.mono ?_;rintro e t ⟨s,v,F,A,rfl,B,N,J,k⟩;exact z A t v s F B N J k
def Zqz{P:Program}{m:Nat}{ρ:Operand->AV}{H:Za}{l:Nat}{g:Operand}{args:Array Operand}{r:Array TypeId}{S:AV->Za->Prop}
  (j:o.op= .call {callee:=.value g,args:=args,argTypes:=r}) (A:ρ g= .fn (.yield l) []) (q:LA) (n:∀E (a:Act),(∀x∈args,VR E (ρ x) (a.eval x))->VRs E q (args.toList.map a.eval))
  (G:VJ P m l q H S):ZaP P m o ρ H S:=fun E w a Q K N b B z=>by
 have c:=b g (by rw[j];simp[Op.operands,Call.operands]);rw[A]at c;have O:execOp a.eval o=(do let d<-resolve a.eval {callee:=.value g,args:=args,argTypes:=r} o.type;invoke d.target d.args):=by simp only[execOp,j]
 generalize L:a.eval g=y at c;cases c with|fn _ _ vs hl hvs=>
 have i:vs=[]:=by simpa using hl
 subst i;obtain⟨fn,f,F,I,p,u⟩:=G E w (args.toList.map a.eval) N (n E a (fun x k=>b x (by rw[j];simp[Op.operands,Call.operands,k])));rw[show(args.toList.map a.eval).toArray=args.map a.eval by rw[<-Array.toList_map]]at p;have h:(execOp a.eval o).run P w= .ok (.round l fn f F I) w:=by
  rw[O];simp[resolve,L,Deferred.ofValue,invoke,p]
 refine Y8 h (fun _ e=>by cases e) ⟨JI,(u z _).mono ?_⟩;rintro e t ⟨s,v,J,C,rfl,D,R,M,k⟩;exact B C t v s J D R M k
def Zpm(cx:Cx)(o:Oper)(s:Zc)(F:Zc->Prop):Prop:=
 ZaP cx.P (cx.n+1) o (evT s.tmps) (full cx.n s.L s.H) fun v b=>∃a H',b=full cx.n a H'/\ZL cx.n s.H H'/\F ⟨Yf s.tmps o.dst v,a,H'⟩
def Step.ordered(h:Step cx lay o .w s F):Zpm cx o s F:=by
 obtain⟨v,c,H',a,b,d⟩:=h;exact Xh.Zxh a ⟨c,H',rfl,b,d⟩
def Zmh{x:Operand}(d:o.op= .next x false)(h:ZsF cx o x s F):Zpm cx o s F:=by
 obtain⟨k,l,j,q,a,m,e,r,f,p⟩:=h;have c:full cx.n s.L s.H cx.n k=some (.iter l j q.length a):=by simp only[full,if_true];exact e
 refine(Zsa d m c r).mono ?_;rintro v H' (⟨b,rfl,rfl⟩|⟨i,b,g,rfl,rfl⟩)
 ·exact⟨s.L,s.H,rfl,.refl _ _,f b⟩
 ·exact⟨_,s.H,(Zm _ _ _ _ _).symm,.refl _ _,p i b g⟩
def ZcT(y:TOK cx.P cx.T)(p:op.dr=false)(h:Vu cx op o s F):Zpm cx o s F:=by
 cases d:Zkn op o with
 |false=>exact(Zhf y (.inr d) (.inl ⟨p,rfl⟩) h).ordered
 |true=>
  unfold Zkn at d;split at d
  ·rename_i x w e;unfold Vu at h;rw[e]at h;obtain⟨_,rfl,h⟩:=h;exact Zmh e h
  ·rename_i c e;obtain⟨C,b,B⟩:=c;simp only at d;split at d
   ·rename_i g;have r:op.al=false:=by simpa using d
    unfold Vu at h;rw[e]at h;simp only[r]at h;have i:∀E (a:Act),(∀x∈b,VR E (evT s.tmps x) (a.eval x))->VRs E (Yo cx.T (evT s.tmps) b.toList B.toList) (b.toList.map a.eval):=fun E a A=>XU _ _ (fun x n=>A x (by simpa using n))
    obtain⟨_,⟨f,z,v,u,t,k,j,m,q,_⟩|⟨_,⟨l,t,k,j,m⟩|⟨f,z,v,D,t,k,j,m,q⟩⟩⟩:=h
    ·exact Zqy j e k _ i (m.mono q)
    ·exact Zqz e k _ i (j.mono m)
    ·exact Zqx j e k _ i (m.mono q)
   ·cases d
  ·cases d
def Zal{cx:Cx}(m:TOK cx.P cx.T){op:Opt}{all:List Oper}{k:List Itm}{Q:Exit->Zc->Prop}{kd:Nat->Kd}{post:List Oper}(c:op.dr=true)(hk:∀i o,all[i]? =some o->kd i=Xw op o):
  ∀(l:List Oper) (i:Nat) (s:Zc),all.drop i=l++post->YT cx op all k Q l s->
   ∃tm' b H',JB cx.P (cx.n+1) cx.n (fun x=>op.lay.contains x) all kd i l s.tmps (full cx.n s.L s.H) tm' (full cx.n b H')/\ZL cx.n s.H H'/\AK cx.P cx.φ cx.n cx.N k Q ⟨tm',b,H'⟩
 |[],i,s,_,h=>⟨s.tmps,s.L,s.H,.nil i s.tmps _,.refl _ _,h⟩
 |o::r,i,s,hi,h=>by
  have ho:all[i]? =some o:=by
   have:=congrArg (·[0]?) hi;simpa[Uy]using this
  have e:all.drop (i+1)=r++post:=by rw[<-UN,hi];rfl
  have run:Yk all s.tmps o=some true->Vu cx op o s (YT cx op all k Q r)->
    ∃tm' b H',JB cx.P (cx.n+1) cx.n (fun x=>op.lay.contains x) all kd i (o::r) s.tmps (full cx.n s.L s.H) tm' (full cx.n b H')/\ZL cx.n s.H H'/\AK cx.P cx.φ cx.n cx.N k Q ⟨tm',b,H'⟩:=by
   intro hg hr;obtain⟨v,y,H1,u,t,w⟩:=Zhf m (κ:=kd i) (.inl c) (.inr ⟨c,hk i o ho⟩) hr;obtain⟨tm',b,H',g,p,f⟩:=Zal m c hk r (i+1) _ e w;exact⟨tm',b,H',.run i o r _ _ _ _ _ v hg u g,t.trans p,f⟩
  have pass:Yk all s.tmps o=some false->YT cx op all k Q r ⟨Yf s.tmps o.dst (.tup []),s.L,s.H⟩->
    ∃tm' b H',JB cx.P (cx.n+1) cx.n (fun x=>op.lay.contains x) all kd i (o::r) s.tmps (full cx.n s.L s.H) tm' (full cx.n b H')/\ZL cx.n s.H H'/\AK cx.P cx.φ cx.n cx.N k Q ⟨tm',b,H'⟩:=by
   intro hg hr;obtain⟨tm',b,H',g,p,f⟩:=Zal m c hk r (i+1) _ e hr;exact⟨tm',b,H',.pass i o r _ _ _ _ hg g,p,f⟩
  simp only[YT]at h;split at h
  ·rename_i a;exact run (by simp only[Yk,a]) h
  ·rename_i j q a;split at h
   ·rename_i hd;exact pass (by unfold X4 at hd;simp only[Yk,a,hd]) h
   ·rename_i d hd;unfold X4 at hd;unfold vcG at h;split at h
    ·rename_i hv;split at h
     ·exact run (by simp only[Yk,a,hd,hv];rfl) h
     ·exact pass (by simp only[Yk,a,hd,hv];rfl) h
    ·rename_i hv;split at h
     ·exact pass (by simp only[Yk,a,hd,hv];rfl) h
     ·exact run (by simp only[Yk,a,hd,hv];rfl) h
    ·rename_i hv;exact pass (by simp only[Yk,a,hd,hv]) h
    ·exact h.elim
variable {kd:Nat->Kd} {Q:Exit->Zc->Prop} {all:List Oper}
def ZmU(d:TOK cx.P cx.T){k:List Itm}(a:op.dr=true)(hk:∀i o,all[i]? =some o->kd i=Xw op o)(l:List Oper)(i:Nat)(s:Zc)(c:all.drop i=l)(h:YT cx op all k Q l s):
  ∃tm' b H',JB cx.P (cx.n+1) cx.n (fun x=>op.lay.contains x) all kd i l s.tmps (full cx.n s.L s.H) tm' (full cx.n b H')/\ZL cx.n s.H H'/\AK cx.P cx.φ cx.n cx.N k Q ⟨tm',b,H'⟩:=
 Zal (post:=[]) d a hk l i s (by rw[c,Qu]) h
def Xu(N:Nat)(ops:List Oper):Bool:=ops.all fun o=>match o.dst with|some d=>decide (d<N)|none=>true
variable {ops:List Oper}
def XK{N:Nat}(h:Xu N ops=true):∀o∈ops,∀x,o.dst=some x->x<N:=by
 intro o b x a;have:=(Qw.1 h) o b;simpa[a]using this
def Yd.Wu(h:∀l k b,l<n->H l k=some b->b.Below n)(c:ZL n H H'):∀l k b,l<n->H' l k=some b->b.Below n:=fun l k b a d=>by
 rcases c l k b a d with h1|h1
 ·exact h l k b a h1
 ·exact h1
def Zhe{cx:Cx}(G:TOK cx.P cx.T){op:Opt}(p:op.dr=false){ops:Array Oper}{k:List Itm}{Q:Exit->Zc->Prop}(f:∀o∈ops.toList,∀x,o.dst=some x->x<cx.N){S:Env}{U:World}:
  ∀(l:List Oper) (i:Nat) (s:Zc),ops.toList.drop i=l->YT cx op ops.toList k Q l s-> ∀E w a,Yd cx.φ.B cx.n cx.N s E a w->Ext cx.n S U E w->
   wpOpsIn (fr cx.φ.ro) 0 cx.P ops (fun e V z=>∃O A,AX cx.P cx.φ cx.n cx.N Q k e O/\Yd cx.φ.B cx.n cx.N O A V z/\Ext cx.n S U A z) ((List.range ops.size).drop i) a w
 |[],i,s,hi,h=>fun E w a b C=>by
  have y:ops.size<=i:=by have:=congrArg List.length hi;simp at this;omega
  rw[Ux (by simpa using y)];exact⟨s,E,h,b,C⟩
 |o::r,i,s,hi,h=>fun E w a b C=>by
  have D:i<ops.size:=by
   rcases Qd i ops.size with h|h
   ·exact h
   ·rw[Ux (by simpa using h)]at hi;cases hi
  have M:ops[i]? =some o:=by
   have:=congrArg (·[0]?) hi;simpa[Uy]using this
  have g:o∈ops.toList:=UU (by rw[hi];simp);have u:ops.toList.drop (i+1)=r:=by rw[<-List.drop_drop,hi];rfl
  rw[QB (by simpa using D)];simp only[MK,wpOpsIn,M];have I:(Yk ops.toList s.tmps o=some true/\Vu cx op o s (YT cx op ops.toList k Q r))\/(Yk ops.toList s.tmps o=some false/\YT cx op ops.toList k Q r ⟨Yf s.tmps o.dst (.tup []),s.L,s.H⟩):=by
   simp only[YT]at h;split at h
   ·rename_i c;exact .inl ⟨by simp only[Yk,c],h⟩
   ·rename_i j R c;split at h
    ·rename_i f;exact .inr ⟨by unfold X4 at f;simp only[Yk,c,f],h⟩
    ·rename_i d f;unfold X4 at f;unfold vcG at h;split at h
     ·rename_i q;split at h
      ·exact .inl ⟨by simp only[Yk,c,f,q];rfl,h⟩
      ·exact .inr ⟨by simp only[Yk,c,f,q];rfl,h⟩
     ·rename_i q;split at h
      ·exact .inr ⟨by simp only[Yk,c,f,q];rfl,h⟩
      ·exact .inl ⟨by simp only[Yk,c,f,q];rfl,h⟩
     ·rename_i q;exact .inr ⟨by simp only[Yk,c,f,q],h⟩
     ·exact h.elim
  rcases I with⟨F,J⟩|⟨F,J⟩
  ·rw[YE (fun j w d _ _=>b.tmps d) F];simp only[if_true];refine ZcT G p J E w a _ _ b.heap (fun x _=>Zaw b.tmps x) ?_ cx.φ.ro;rintro A z cv v H1 ⟨Z,H',rfl,X,W⟩ K Y m;refine Zhe G p f r (i+1) _ u W A z _ ⟨by rw[size_put];exact b.size,by rw[XJ];exact b.defs.ext m,fun t=>?_,Y,Yd.Wu b.out X⟩ (C.trans (m.mono (Uc _)));rw[VZ,Vd b.size (f o g)];split
   ·exact K
   ·exact(b.tmps t).mono b.heap.norm m.le
  ·rw[YE (fun j w d _ _=>b.tmps d) F];simp only[QE,if_false];refine⟨fun _ _=>trivial,?_⟩;refine Zhe G p f r (i+1) _ u J E w _ ⟨by rw[size_put];exact b.size,by rw[XJ];exact b.defs,fun t=>?_,b.heap,b.out⟩ C;rw[VZ,Vd b.size (f o g)];split
   ·exact XP E
   ·exact b.tmps t
def ZhB(e:TOK cx.P cx.T){d:Nat}{ops:Array Oper}{k:List Itm}(c:Xu cx.N ops.toList=true)
  (op:Opt) (b:op.dr=false) (h:YT cx op ops.toList k Q ops.toList s):AK cx.P cx.φ cx.n cx.N (.code (.region d ops false)::k) Q s:=fun E w a f=>by
 refine wpIn_region ?_;have:=Zhe e b (XK c) ops.toList 0 s rfl h E w a f (.refl _ _ _);simpa using this
variable {A B:Nat->Bool}
theorem Kd.ZqM(c:∀s,B s=true->A s=true)(h:κ.sem P m n A o ρ H v H'):κ.sem P m n B o ρ H v H':=by
 cases κ with
 |p=>exact h
 |t=>exact⟨fun G j=>h.1 G (fun l s i=>j l s (fun e=>by
   cases g:B s with
   |false=>rfl
   |true=>have:=c s g;rw[i e]at this;cases this)),h.2⟩
 |w=>exact h
 |a d=>exact h
 |b l d=>exact h
 |f l D W=>exact h
def JB.mono(c:∀s,B s=true->A s=true){i:Nat}{l:List Oper}{b a:LN}(h:JB P m n A all kd i l b H a H'):JB P m n B all kd i l b H a H':=by
 induction h with
 |nil i b H=>exact .nil i b H
 |run i o r b a H H1 H' v hg h _ ih=>exact .run i o r b a H H1 H' v hg (Kd.ZqM c h) ih
 |pass i o r b a H H' hg _ ih=>exact .pass i o r b a H H' hg ih
def Zc9(op:Opt)(ops:List Oper)(i:Nat):Kd:=match ops[i]? with
 |some o=>Xw op o
 |none=>.p
def ZdO(op:Opt)(ops:List Oper):Bool:=(List.range ops.length).all fun i=>match Zc9 op ops i with
 | .a d=>op.lay.contains d
 |_=>true
def ZgO(h:ZdO op ops=true):∀s,Zdb ops.length (Zc9 op ops) s=true->op.lay.contains s=true:=by
 intro s a;simp only[Zdb,GR,Gm,beq_iff_eq]at a;obtain⟨i,b,c⟩:=a;simp only[ZdO,Qw,Gm]at h;have:=h i b;rw[c]at this;exact this
theorem ZfS(F:TOK cx.P cx.T)(U:cx.P.follows .mixedOrders=true)(op:Opt)(j:op.dr=true){K:Nat}{ops:Array Oper}{k:List Itm}(z:Xu cx.N ops.toList=true)
  (e:(Wv ops.toList (Zc9 op ops.toList)&&ZdO op ops.toList)=true)
  (h:YT cx op ops.toList k Q ops.toList s):AK cx.P cx.φ cx.n cx.N (.code (.region K ops true)::k) Q s:=fun E w a f=>by
 obtain⟨e,g⟩:=QaR.1 e;obtain⟨p,B,H',R,L,C⟩:=ZmU F (kd:=Zc9 op ops.toList) j (fun i o d=>by simp only[Zc9,d]) ops.toList 0 s rfl h;obtain⟨T,G,V,J,H,M,O,W⟩:=(R.mono (ZgO g)).course;refine wpIn_region_any U ?_;have b:ops.toList.length=ops.size:=sm;have S:unl (Array.replicate ops.size false)<=ops.size:=by
  unfold unl;exact UA QaK sm
 have q:∀i,(Array.replicate ops.size false).getD i false=false:=fun i=>by
  rw[QD];by_cases d:i<ops.size<;>simp[d]
 have r:∀n t,va ops.toList (lkv (T 0)) V ((Array.replicate ops.size false).getD · false) n t=lkv (T 0) t:=by
  intro n t;induction n with
  |zero=>rfl
  |succ n ih=>rw[va,if_neg (fun c=>by rw[q]at c;cases c.1),ih]
 have u:∀n,hv cx.n (Zc9 op ops.toList) G ((Array.replicate ops.size false).getD · false) n=G 0:=by
  intro n;induction n with
  |zero=>rfl
  |succ n ih=>
   funext l s;rw[Za3,if_neg (fun c=>by rw[q]at c;cases c.1),ih]
 refine Zea cx.φ.ro a.defers (m:=cx.n+1) (N:=cx.N) (XK z) W (Zau e) E {w with drawn:=w.drawn+1} ?_ ops.size _ E {w with drawn:=w.drawn+1} a S sm (fun i o _ d=>by have:=q i;simp only at d;rw[this]at d;cases d) f.size rfl ?_ ?_ (.refl _ _ _)
 ·intro D X Y I A y v x;rw[<-b,M]at y;rw[<-b,O]at v;exact⟨⟨p,B,H'⟩,D,C,⟨I,by rw[A];exact(f.defs.ext (Env.Vz cx.n E w)).ext x,y,v,Yd.Wu f.out L⟩,(Env.Vz cx.n E w).trans (x.mono (Uc _))⟩
 ·intro t;rw[r,J];exact f.tmps t
 ·rw[u,H];exact f.heap.drew
end
inductive Inside (n:Nat) (p:Nat->Prop):AV->Prop
 |int (k:IntKind) (i:Int):Inside n p (.int k i)
 |bool (b:Bool):Inside n p (.bool b)
 |str (l:Bs):Inside n p (.str l)
 |nilp:Inside n p .nilp
 |ptr (l k off:Nat) (h:l<n\/(l=n/\p k)):Inside n p (.ptr l k off)
 |iptr (cs:LA) (hv:∀j (h:j<cs.length),Inside n p cs[j]):Inside n p (.iptr cs)
 |sl (k:Nat) (xs:LA) (o:Own) (hv:∀i (h:i<xs.length) j (h':j<xs[i].cells.length),Inside n p xs[i].cells[j])
   (ho:∀l j,o= .buf l j->l<n\/(l=n/\p j)):Inside n p (.sl k xs o)
 |nilf:Inside n p .nilf
 |fn (f:Fn) (caps:LA) (hv:∀i (h:i<caps.length),Inside n p caps[i]):Inside n p (.fn f caps)
 |bfn (f:Fn) (caps:LA) (hv:∀i (h:i<caps.length),Inside n p caps[i]):Inside n p (.bfn f caps)
 |nilm:Inside n p .nilm
 |map (l k:Nat) (h:l<n\/(l=n/\p k)):Inside n p (.map l k)
 |msl (sz l k i:Nat) (h:l<n\/(l=n/\p k)):Inside n p (.msl sz l k i)
 |eptr (l k i off:Nat) (h:l<n\/(l=n/\p k)):Inside n p (.eptr l k i off)
 |ssl (k:Nat) (xs ys:LA) (hv:∀i (h:i<(xs++ys).length) j (h':j<(xs++ys)[i].cells.length),Inside n p (xs++ys)[i].cells[j]):Inside n p (.ssl k xs ys)
 |nili:Inside n p .nili
 |Xd:Inside n p .Xd
 |sln (k:Nat):Inside n p (.sln k)
 |sub (sz l k i off m:Nat) (h:l<n\/(l=n/\p k)):Inside n p (.sub sz l k i off m)
 |ifc (t:TypeId) (a:AV) (h:Inside n p a):Inside n p (.ifc t a)
 |agg (cs:LA) (hv:∀i (h:i<cs.length),Inside n p cs[i]):Inside n p (.agg cs)
 |tup (cs:LA) (hv:∀i (h:i<cs.length),Inside n p cs[i]):Inside n p (.tup cs)
 |dead:Inside n p .dead
section
variable {p:Nat->Prop} {n:Nat}
def Below.inside{v:AV}(h:Below n v):Inside n p v:=by
 induction h with
 |int k i=>exact .int k i
 |bool b=>exact .bool b
 |str l=>exact .str l
 |nilp=>exact .nilp
 |ptr l k off h=>exact .ptr l k off (.inl h)
 |iptr cs _ ih=>exact .iptr cs ih
 |sl k xs o _ ho ih=>exact .sl k xs o ih (fun l j e=>.inl (ho l j e))
 |nilf=>exact .nilf
 |fn f caps _ ih=>exact .fn f caps ih
 |bfn f caps _ ih=>exact .bfn f caps ih
 |nilm=>exact .nilm
 |map l k h=>exact .map l k (.inl h)
 |msl sz l k i h=>exact .msl sz l k i (.inl h)
 |eptr l k i off h=>exact .eptr l k i off (.inl h)
 |ssl k xs ys _ ih=>exact .ssl k xs ys ih
 |nili=>exact .nili
 |Xd=>exact .Xd
 |sln k=>exact .sln k
 |sub sz l k i off m h=>exact .sub sz l k i off m (.inl h)
 |ifc t a _ ih=>exact .ifc t a ih
 |agg cs _ ih=>exact .agg cs ih
 |tup cs _ ih=>exact .tup cs ih
 |dead=>exact .dead
def keeps(n:Nat)(q:Nat->Bool)(l k:Nat):Bool:=l !=n||q k
def Env.only(E:Env)(n:Nat)(q:Nat->Bool):Env:=
 {F:=E.F,m:=fun l k=>if keeps n q l k=true then E.m l k else none,hist:=fun l k j=>if keeps n q l k=true then E.hist l k j else none,g:=fun l k=>if keeps n q l k=true then E.g l k else none,qd:=E.qd}
def Xo{q:Nat->Bool}{l k:Nat}(h:l<n\/(l=n/\q k=true)):keeps n q l k=true:=by
 unfold keeps;rcases h with h|⟨_,h⟩
 ·have:(l !=n)=true:=by simp;omega
  simp[this]
 ·simp[h]
def VR.only{n:Nat}{q:Nat->Bool}{E:Env}{a:AV}{v:Value}(p:VR E a v)(d:Inside n (fun k=>q k=true) a):VR (E.only n q) a v:=by
 induction p with
 |int k n=>exact .int k n
 |bool b=>exact .bool b
 |str l=>exact .str l
 |nilp=>exact .nilp
 |ptr l k off b hm=>cases d with|ptr _ _ _ hl=>exact .ptr l k off b (by simp only[Env.only,if_pos (Xo hl)];exact hm)
 |iptr cs b off c hc _ ih=>cases d with|iptr _ d=>exact .iptr cs b off c hc (fun j h=>ih j h (d j h))
 |slnil k o a ho ha=>
  cases d with
  |sl _ _ _ _ d=>
   refine .slnil k o a ?_ ha;cases o with
   |any=>trivial
   |full=>exact ho
   |buf l j=>simp only[Zam,Env.only,if_pos (Xo (d l j rfl))];exact ho
 |sl k xs o b off cap c hk hc _ hcap hm ho ih=>
  cases d with
  |sl _ _ _ hx d=>
   refine .sl k xs o b off cap c hk hc (fun i h j e=>ih i h j e (hx i h j e)) hcap hm ?_;cases o with
   |any=>trivial
   |full=>exact ho
   |buf l j=>simp only[Zam,Env.only,if_pos (Xo (d l j rfl))];exact ho
 |nilf=>exact .nilf
 |fn f caps vs hl _ ih=>cases d with|fn _ _ d=>exact .fn f caps vs hl (fun i h e=>ih i h e (d i h))
 |bfn f caps vs hl _ ih=>cases d with|bfn _ _ d=>exact .bfn f caps vs hl (fun i h e=>ih i h e (d i h))
 |nilm=>exact .nilm
 |map l k b hm=>cases d with|map _ _ hl=>exact .map l k b (by simp only[Env.only,if_pos (Xo hl)];exact hm)
 |mnil sz l k a hh ha=>cases d with|msl _ _ _ _ hl=>exact .mnil _ _ _ _ (by simp only[Env.only,if_pos (Xo hl)];exact hh) ha
 |msl sz l k i g cap hh=>cases d with|msl _ _ _ _ hl=>exact .msl _ _ _ _ _ _ (by simp only[Env.only,if_pos (Xo hl)];exact hh)
 |eptr l k i off g cap hh=>cases d with|eptr _ _ _ _ hl=>exact .eptr _ _ _ _ _ _ (by simp only[Env.only,if_pos (Xo hl)];exact hh)
 |ssl k xs ys b off cap c hk hc _ hcap hm ih=>cases d with|ssl _ _ _ hx=>exact .ssl k xs ys b off cap c hk hc (fun i h j e=>ih i h j e (hx i h j e)) hcap hm
 |nili=>exact .nili
 |Xd=>exact .Xd
 |sln k a cap hc=>exact .sln k a cap hc
 |sub sz l k i off m g cap hh hm=>cases d with|sub _ _ _ _ _ _ hl=>exact .sub _ _ _ _ _ _ _ _ (by simp only[Env.only,if_pos (Xo hl)];exact hh) hm
 |ifc t a v _ ih=>cases d with|ifc _ _ d=>exact .ifc t a v (ih d)
 |agg cs vs hl _ ih=>cases d with|agg _ d=>exact .agg cs vs hl (fun i h e=>ih i h e (d i h))
 |tup cs vs hl _ ih=>cases d with|tup _ d=>exact .tup cs vs hl (fun i h e=>ih i h e (d i h))
 |dead v=>exact .dead v
def Ze.Inside(n:Nat)(p:Nat->Prop)(b:Ze):Prop:=(∀a∈b.avs,Abs.Inside n p a)/\ ∀q∈b.at_,q.1<n\/(q.1=n/\p q.2)
def Ze.Below.inside{n:Nat}{p:Nat->Prop}{b:Ze}(h:b.Below n):b.Inside n p:=⟨fun a ha=>(h.1 a ha).inside,fun q c=>.inl (h.2 q c)⟩
def lkb_mem:∀{L:List (Nat×Ze)} {t:Nat} {b:Ze},lkb L t=some b->(t,b)∈L
 |[],t,b,h=>by simp[lkb]at h
 |(i,v)::r,t,b,h=>by
  simp only[lkb]at h;split at h
  ·rename_i a;subst a;cases h;simp
  ·exact Qx _ (lkb_mem h)
variable {H:Za} {L:List (Nat×Ze)} {tm tm':LN} {N:Nat}
def Zph{d:List (Nat×Ze)}(h1:∀p∈tm',Wk (lkv tm p.1) p.2)(S:∀p∈d,lkb L p.1=some p.2)
  (h3:∀p∈tm',Inside n (fun k=>(lkb d k).isSome=true) p.2) (h4:∀p∈d,p.2.Inside n (fun k=>(lkb d k).isSome=true)):AWk n N ⟨tm,L,H⟩ ⟨tm',d,H⟩:=fun B E w a A=>by
 have h:=A.heap;have K:∀l k,keeps n (fun k=>(lkb d k).isSome) l k=true\/(l=n/\lkb d k=none):=fun l k=>by
  by_cases c:l=n
  ·subst c;cases e:lkb d k with
   |none=>exact .inr ⟨rfl,rfl⟩
   |some b=>exact .inl (Xo (.inr ⟨rfl,by simp[e]⟩))
  ·refine .inl ?_;unfold keeps;have:(l !=n)=true:=by simpa using c
   simp[this]
 have x:∀l k b,full n d H l k=some b->full n L H l k=some b/\keeps n (fun k=>(lkb d k).isSome) l k=true/\b.Inside n (fun k=>(lkb d k).isSome=true)\/n<l:=fun l k b e=>by
  by_cases c:l=n
  ·subst c;simp only[full,if_true]at e⊢;have hm:=lkb_mem e;exact .inl ⟨S _ hm,Xo (.inr ⟨rfl,by simp[e]⟩),h4 _ hm⟩
  ·rcases Qd l n with C|hge
   ·simp only[full,if_neg c]at e⊢;exact .inl ⟨e,Xo (.inl C),(A.out l k b C e).inside⟩
   ·exact .inr om
 have R:E.le n (E.only n (fun k=>(lkb d k).isSome)):=by
  refine⟨fun _ _ _ h=>h,fun l k b c hm=>?_,fun l k j v c hm=>?_,rfl⟩
  ·simp only[Env.only];rw[if_pos (Xo (.inl c))];exact hm
  ·simp only[Env.only];rw[if_pos (Xo (.inl c))];exact hm
 have f:∀l k b,(E.only n (fun k=>(lkb d k).isSome)).m l k=some b->E.m l k=some b:=fun l k b hm=>by
  simp only[Env.only]at hm;split at hm
  ·exact hm
  ·cases hm
 have i:∀l k b,(E.only n (fun k=>(lkb d k).isSome)).g l k=some b->E.g l k=some b:=fun l k b hm=>by
  simp only[Env.only]at hm;split at hm
  ·exact hm
  ·cases hm
 refine⟨E.only n (fun k=>(lkb d k).isSome),⟨A.size,A.defs.sub (fun b P=>P.elim (fun⟨l,k,hm⟩=>.inl ⟨l,k,f l k b hm⟩) (fun⟨l,k,hm⟩=>.inr ⟨l,k,i l k b hm⟩)),fun t=>?_,{norm:=?_,F:=h.F,blk:=?_,dom:=?_,nobuf:=?_,inj:=?_,injg:=?_,mg:=?_,mF:=?_,lt:=?_},A.out⟩,
  ⟨R,rfl,rfl,rfl,fun _=>Qi _,Qi _,fun _ _ _=>rfl,fun b _ P=>?_⟩⟩
 ·show VR _ (lkv tm' t) _;rcases lkv_mem (tm:=tm') (t:=t)with X|hm
  ·rw[X];exact .dead _
  ·exact((h1 _ hm).vr (A.tmps t)).only (h3 _ hm)
 ·refine⟨fun l k c=>?_,fun l k c=>?_,fun l k j c=>?_⟩
  ·simp only[Env.only];rw[h.norm.m l k c];split<;>rfl
  ·simp only[Env.only];rw[h.norm.g l k c];split<;>rfl
  ·simp only[Env.only];rw[h.norm.hist l k j c];split<;>rfl
 ·intro l k b c z;rcases x l k _ z with⟨a1,Q,U⟩|a1
  ·refine(h.blk l k b c a1).keep (by simp only[Env.only];rw[if_pos Q]) (by simp only[Env.only];rw[if_pos Q]) (fun j=>by simp only[Env.only];rw[if_pos Q]) (fun q K r hr=>?_) (fun _ _=>rfl) (fun _ _ _ h=>h) (fun a ha v hv=>hv.only (U.1 a ha));simp only[Env.only];rw[if_pos (Xo (U.2 q K))];exact hr
  ·omega
 ·intro l k c z;rcases K l k with s|⟨rfl,s⟩
  ·have:full n L H l k=none:=by
    by_cases u:l=n
    ·subst u;simp only[full,if_true]at z;unfold keeps at s;simp[z]at s
    ·simp only[full,if_neg u]at z⊢;exact z
   obtain⟨d1,Y,Z⟩:=h.dom l k c this;simp only[Env.only,if_pos s];exact⟨d1,Y,Z⟩
  ·have:¬keeps l (fun k=>(lkb d k).isSome) l k=true:=by unfold keeps;simp[s]
   refine⟨if_neg this,if_neg this,fun _=>if_neg this⟩
 ·intro l k D;cases I:(E.only n (fun k=>(lkb d k).isSome)).g l k with
  |none=>exact absurd I D
  |some b=>
   have M:=i l k b I;obtain⟨bb,e,O⟩:=h.nobuf l k (by rw[M];simp);rcases K l k with s|⟨rfl,s⟩
   ·refine⟨bb,?_,O⟩;by_cases u:l=n
    ·subst u;simp only[full,if_true]at e⊢;unfold keeps at s;simp only[bne_self_eq_false,Gg]at s;obtain⟨b',J⟩:=Qaw.1 s;rw[J];have:=S _ (lkb_mem J);simp only[]at this;rw[e]at this;exact this.symm
    ·simp only[full,if_neg u]at e⊢;exact e
   ·have:¬keeps l (fun k=>(lkb d k).isSome) l k=true:=by unfold keeps;simp[s]
    simp only[Env.only]at I;rw[if_neg this]at I;cases I
 ·intro l k W V b y G;exact h.inj _ _ _ _ _ (f _ _ _ y) (f _ _ _ G)
 ·intro l k W V b y G;exact h.injg _ _ _ _ _ (i _ _ _ y) (i _ _ _ G)
 ·intro l k W V b y G;exact h.mg _ _ _ _ _ (f _ _ _ y) (i _ _ _ G)
 ·intro l k b o y;exact h.mF _ _ _ _ (f _ _ _ y)
 ·intro b e;rcases e with⟨l,k,hm⟩|⟨l,k,D⟩
  ·exact h.lt b (.inl ⟨l,k,f _ _ _ hm⟩)
  ·exact h.lt b (.inr ⟨l,k,i _ _ _ D⟩)
 ·rcases P with⟨l,k,hm⟩|⟨l,k,D⟩
  ·exact .inl ⟨l,k,f _ _ _ hm⟩
  ·exact .inr ⟨l,k,i _ _ _ D⟩
def least(h:∃m,p m):∃m,p m/\ ∀k,p k->m<=k:=by
 obtain⟨m,e⟩:=h;induction m using Nat.strongRecOn with
 |_ m ih=>
  by_cases c:∃k,k<m/\p k
  ·obtain⟨k,a,d⟩:=c;exact ih k a d
  ·exact⟨m,e,fun k a=>Nat.le_of_not_lt fun b=>c ⟨k,b,a⟩⟩
def Zm2{P:Program}{r:Fm}{n N:Nat}{c:Code}{k:List Itm}{Q:Exit->Zc->Prop}{s:Zc}(I:Nat->Zc->Prop){S:Nat}{G:Zc}(X:AWk n N s G)(U:I S G)
  (g:∀m s,I m s->AK P r n N [.code c] (fun e f=>match e with| .normal=>∃q l,q<m/\AWk n N f l/\I q l|e=>AX P r n N Q k e f) s):
  AK P r n N (.code (.loop c)::k) Q s:=fun E w a hs=>by
 classical
 let M (a:Act) (b:World) (m:Nat):Prop:=∃f t,I m f/\Yd r.B n N f t a b/\Ext n E w t b
 let μ (a:Act) (b:World):Nat:=if h:∃m,M a b m then Classical.choose (least h)else 0
 obtain⟨Z,F,K⟩:=X _ E w a hs;refine wpIn_loop (fun a b=>∃m,M a b m) μ ⟨S,G,Z,U,F,K⟩ ?_;intro O b D;have y:μ O b=Classical.choose (least D):=dif_pos D;obtain⟨f,t,Y,C,i⟩:=(Qah (least D)).1;refine wpIn_mono (g _ f Y t b O C) ?_;rintro e u v ⟨V,R,L,o,j⟩;cases e with
 |normal=>
  obtain⟨q,s3,z,H,J⟩:=L;obtain⟨W,A,x⟩:=H _ R v u o;have p:M u v q:=⟨s3,W,J,A,i.trans (j.trans x)⟩
  have d:∃m,M u v m:=⟨q,p⟩
  refine⟨d,?_⟩;have:μ u v=Classical.choose (least d):=dif_pos d;rw[this,y];exact Nat.lt_of_le_of_lt ((Qah (least d)).2 _ p) z
 |_=>exact⟨V,R,L,o,i.trans j⟩
variable {Q:Exit->Zc->Prop}
def ZlB{P:Program}{d:Fm}{c:Code}{k:List Itm}{s:Zc}(S:Nat->Zc)(M:Nat)(g:AWk n N s (S 0))
  (a:∀i,i<=M->AK P d n N [.code c] (fun e b=>match e with| .normal=>i<M/\AWk n N b (S (i+1))|e=>AX P d n N Q k e b) (S i)):
  AK P d n N (.code (.loop c)::k) Q s:=by
 refine Zm2 (fun m s=>∃i,i<=M/\m=M - i/\s=S i) g ⟨0,Us _,rfl,rfl⟩ ?_;rintro m s ⟨i,h,rfl,rfl⟩;refine Zab ?_ (a i h);intro e b f;cases e with
 |normal=>exact⟨M - (i+1),S (i+1),om,f.2,i+1,om,rfl,rfl⟩
 |_=>exact f
def AWk.refl(n N:Nat)(s:Zc):AWk n N s s:=fun B E w a b=>⟨E,b,.refl n E w⟩
def AWk.trans{n N:Nat}{s t u:Zc}(h:AWk n N s t)(h':AWk n N t u):AWk n N s u:=fun B E w a hs=>by
 obtain⟨d,c,e⟩:=h B E w a hs;obtain⟨f,b,g⟩:=h' B d w a c;exact⟨f,b,e.trans g⟩
def Zm3{P:Program}{a:Fm}{c:Code}{k:List Itm}{s b:Zc}(d:AWk n N s b)(h:AK P a n N (.code c::k) Q b):AK P a n N (.code c::k) Q s:=Zro d h
theorem Zqh(i:Nat)(v:AV)(r:LN)(t:Nat):lkv ((i,v)::r) t=if i=t then v else lkv r t:=rfl
variable {j:Nat}
def Zcf{t l s:Nat}(e k:Nat)(mb:Bool)(hl:l<=n)(p:lkv tm t= .sl s [] .full)(q:full n L H l j=none):
  AWk n N ⟨tm,L,H⟩ ⟨(t,if mb then .msl k l j 0 else .sl k [] (.buf l j))::tm,Zd5 n L l j (if mb then .Zg e k [] 0 else .buf e k 0),setH n H l j (if mb then .Zg e k [] 0 else .buf e k 0)⟩:=fun B E w a hs=>by
 have h:=hs.heap;have d:∃g,a.tmps.getD t undef= .slice g 0 0/\ ∀x,g=some x->x.spot=none:=by
  have:=hs.tmps t;simp only[p]at this;generalize a.tmps.getD t undef=x at this;cases this with
  |slnil _ _ a ho ha=>obtain rfl:=ha sm;exact⟨none,rfl,fun _ e=>by cases e⟩
  |sl _ _ _ b off cap c hk hc hv hcap hm ho=>
   have:cap=0:=ho;subst this;exact⟨_,rfl,fun _ e=>by cases e;rfl⟩
 obtain⟨g,d,m⟩:=d;obtain⟨r,hx⟩:=h.adopt (show l<n+1 by omega) q g e k mb;refine⟨E.Yn l j (.slice g 0 0),⟨hs.size,hs.defs.ext hx,fun o=>?_,?_,?_⟩,hx.mono (Uc n)⟩
 ·show VR _ (lkv (_::tm) o) _;rw[Zqh];by_cases hc:t=o
  ·subst hc;rw[if_pos rfl,d];cases mb with
   |true=>exact .mnil _ _ _ _ (by simp[Env.Yn]) m
   |false=>
    have:=hs.tmps t;simp only[p,d]at this;cases this with
    |slnil _ _ _ ho ha=>exact .slnil k _ _ (by simp[Zam,Env.Yn]) (fun _=>ha sm)
    |sl _ _ _ b off cap c hk hc hv hcap hm ho=>exact .sl k [] _ b off 0 c (fun i h=>absurd h (Qj _)) (fun i j h=>absurd h (Qj _)) (fun i h=>absurd h (Qj _)) (Qi _) hm (by simp[Zam,Env.Yn])
  ·rw[if_neg hc];exact(hs.tmps o).mono h.norm hx.le
 ·show Zo (n+1) (full n (Zd5 n L l j _) (setH n H l j _)) _ _;rw[JL];exact r
 ·intro l' k' b f hb;simp only[setH]at hb;split at hb
  ·exact hs.out l' k' b f hb
  ·simp only[Za.upd]at hb;split at hb
   ·simp only[Qp]at hb;subst hb;cases mb<;>exact⟨by simp[Ze.avs],by simp[Ze.at_]⟩
   ·exact hs.out l' k' b f hb
def delb:List (Nat×Ze)->Nat->List (Nat×Ze)
 |[],_=>[]
 |(i,b)::r,j=>if i=j then delb r j else(i,b)::delb r j
def lkb_delb:∀(L:List (Nat×Ze)) (j t:Nat),lkb (delb L j) t=if t=j then none else lkb L t
 |[],j,t=>by simp[delb,lkb]
 |(i,b)::r,j,t=>by
  simp only[delb];by_cases c:i=j
  ·subst c;rw[if_pos rfl,lkb_delb r i t];by_cases a:t=i
   ·rw[if_pos a,if_pos a]
   ·rw[if_neg a,if_neg a];simp only[lkb];rw[if_neg (fun e=>a e.symm)]
  ·rw[if_neg c];simp only[lkb];rw[lkb_delb r j t];by_cases a:i=t
   ·subst a;rw[if_pos rfl,if_pos rfl,if_neg c]
   ·rw[if_neg a,if_neg a]
def Env.freeze(E:Env)(n j:Nat)(r:Option (Nat×List Value)):Env where
 F:=fun b o=>match r with
  |some (b0,c)=>if b=b0 then c[o]? else E.F b o
  |none=>E.F b o
 m:=fun l k=>if l=n/\k=j then none else E.m l k
 hist:=fun l k i=>if l=n/\k=j then none else E.hist l k i
 g:=fun l k=>if l=n/\k=j then none else E.g l k
 qd:=E.qd
theorem Zo.freeze{n:Nat}{L:List (Nat×Ze)}{H:Za}{E:Env}{w:World}(h:Zo (n+1) (full n L H) E w){j:Nat}(r:Option (Nat×List Value))(N:∀p∈delb L j,p.2.Inside n (fun k=>k≠j))
  (P:∀l k b,l<n->H l k=some b->b.Below n) (hr:∀b0 c,r=some (b0,c)->(E.m n j=some b0\/E.g n j=some b0)/\(∀o,E.F b0 o=none)/\ ∀o u,c[o]? =some u->w.cell? ⟨b0,o,none⟩=some u)
  (D:∀a v,Inside n (fun k=>k≠j) a->VR E a v->VR (E.freeze n j r) a v):
  Zo (n+1) (full n (delb L j) H) (E.freeze n j r) w/\Ext n E w (E.freeze n j r) w:=by
 have f:∀l k b,(E.freeze n j r).m l k=some b-> ¬(l=n/\k=j)/\E.m l k=some b:=fun l k b hm=>by
  simp only[Env.freeze]at hm;split at hm
  ·cases hm
  ·exact⟨‹_›,hm⟩
 have s:∀l k b,(E.freeze n j r).g l k=some b-> ¬(l=n/\k=j)/\E.g l k=some b:=fun l k b hm=>by
  simp only[Env.freeze]at hm;split at hm
  ·cases hm
  ·exact⟨‹_›,hm⟩
 have C:∀b o u,E.F b o=some u->(E.freeze n j r).F b o=some u:=fun b o u t=>by
  simp only[Env.freeze];cases r with
  |none=>exact t
  |some q=>
   obtain⟨b0,c⟩:=q;dsimp only;split
   ·rename_i e;subst e;rw[(hr b c rfl).2.1 o]at t;cases t
   ·exact t
 have B:∀b0 c,r=some (b0,c)-> ∀l k b,(E.m l k=some b\/E.g l k=some b)-> ¬(l=n/\k=j)->b≠b0:=fun b0 c e l k b hb hc M=>by
  subst M;rcases hb with hb|hb<;>rcases(hr b c e).1 with h0|h0
  ·exact hc (h.inj _ _ _ _ _ hb h0)
  ·exact h.mg _ _ _ _ _ hb h0
  ·exact h.mg _ _ _ _ _ h0 hb
  ·exact hc (h.injg _ _ _ _ _ hb h0)
 have z:∀l k g,(E.m l k=some g\/E.g l k=some g)-> ¬(l=n/\k=j)-> ∀o,(E.freeze n j r).F g o=E.F g o:=fun l k g hg hc o=>by
  simp only[Env.freeze];cases r with
  |none=>rfl
  |some q=>
   obtain⟨b0,c⟩:=q;dsimp only;rw[if_neg (B b0 c rfl l k g hg hc)]
 have d:∀l k,¬(l=n/\k=j)->full n (delb L j) H l k=full n L H l k:=fun l k hc=>by
  simp only[full];by_cases hl:l=n
  ·rw[if_pos hl,if_pos hl,lkb_delb,if_neg (fun e=>hc ⟨hl,e⟩)]
  ·rw[if_neg hl,if_neg hl]
 have x:full n (delb L j) H n j=none:=by simp only[full,if_true,lkb_delb]
 have G:∀l k b,l<n+1-> ¬(l=n/\k=j)->full n (delb L j) H l k=some b->b.Inside n (fun k=>k≠j):=fun l k b hl hc hb=>by
  simp only[full]at hb;split at hb
  ·exact N _ (lkb_mem hb)
  ·exact(P l k b om hb).inside
 refine⟨{norm:=⟨fun l k hl=>?_,fun l k hl=>?_,fun l k i hl=>?_⟩,F:=fun b o u t=>?_,blk:=fun l k b hl hb=>?_,dom:=fun l k hl hb=>?_,nobuf:=fun l k hg=>?_,inj:=?_,injg:=?_,mg:=?_,mF:=fun l k b o y=>?_,lt:=fun b hb=>?_},
  ⟨⟨C,fun l k b hl hm=>?_,fun l k i u hl t=>?_,rfl⟩,rfl,rfl,rfl,fun _=>Qi _,Qi _,fun _ _ _=>rfl,fun b _ ho=>?_⟩⟩
 ·simp only[Env.freeze];split
  ·rfl
  ·exact h.norm.m l k hl
 ·simp only[Env.freeze];split
  ·rfl
  ·exact h.norm.g l k hl
 ·simp only[Env.freeze];split
  ·rfl
  ·exact h.norm.hist l k i hl
 ·simp only[Env.freeze]at t;cases r with
  |none=>exact h.F b o u t
  |some q=>
   obtain⟨b0,c⟩:=q;dsimp only at t;split at t
   ·rename_i e;subst e;exact(hr b c rfl).2.2 o u t
   ·exact h.F b o u t
 ·by_cases hc:l=n/\k=j
  ·obtain⟨rfl,rfl⟩:=hc;rw[x]at hb;cases hb
  ·have J:=G l k b hl hc hb;rw[d l k hc]at hb;refine(h.blk l k b hl hb).keep (by simp only[Env.freeze];rw[if_neg hc]) (by simp only[Env.freeze];rw[if_neg hc]) (fun i=>by simp only[Env.freeze];rw[if_neg hc]) (fun q K r hr=>?_) (fun _ _=>rfl) (fun g o hg hf=>by rw[z l k g (.inr hg) hc];exact hf) (fun a ha v hv=>D a v (J.1 a ha) hv);simp only[Env.freeze];rw[if_neg];exact hr;rintro⟨Q,O⟩;rcases J.2 q K with h'|h'
   ·omega
   ·exact h'.2 O
 ·by_cases hc:l=n/\k=j
  ·simp only[Env.freeze,if_pos hc];exact⟨trivial,trivial,fun _=>trivial⟩
  ·rw[d l k hc]at hb;simp only[Env.freeze,if_neg hc];exact h.dom l k hl hb
 ·cases hx:(E.freeze n j r).g l k with
  |none=>exact absurd hx hg
  |some b=>
   obtain⟨hc,I⟩:=s l k b hx;rw[d l k hc];exact h.nobuf l k (by rw[I];simp)
 ·exact fun l k l' k' b y A=>h.inj _ _ _ _ _ (f _ _ _ y).2 (f _ _ _ A).2
 ·exact fun l k l' k' b y A=>h.injg _ _ _ _ _ (s _ _ _ y).2 (s _ _ _ A).2
 ·exact fun l k l' k' b y A=>h.mg _ _ _ _ _ (f _ _ _ y).2 (s _ _ _ A).2
 ·obtain⟨hc,hm⟩:=f _ _ _ y;rw[z l k b (.inl hm) hc];exact h.mF _ _ _ _ hm
 ·rcases hb with⟨l,k,hm⟩|⟨l,k,hm⟩
  ·exact h.lt b (.inl ⟨l,k,(f _ _ _ hm).2⟩)
  ·exact h.lt b (.inr ⟨l,k,(s _ _ _ hm).2⟩)
 ·simp only[Env.freeze];rw[if_neg (fun hc=>by omega)];exact hm
 ·simp only[Env.freeze];rw[if_neg (fun hc=>by omega)];exact t
 ·rcases ho with⟨l,k,hm⟩|⟨l,k,hm⟩
  ·exact .inl ⟨l,k,(f _ _ _ hm).2⟩
  ·exact .inr ⟨l,k,(s _ _ _ hm).2⟩
def VR.freeze{n j:Nat}{E:Env}{r:Option (Nat×List Value)}(q:∀b o u,E.F b o=some u->(E.freeze n j r).F b o=some u){a:AV}{v:Value}(hv:VR E a v)(hb:Inside n (fun k=>k≠j) a):VR (E.freeze n j r) a v:=by
 have d:∀l k,(l<n\/(l=n/\k≠j))-> ¬(l=n/\k=j):=fun l k h hc=>by
  rcases h with h|h
  ·omega
  ·exact h.2 hc.2
 induction hv with
 |int k n=>exact .int k n
 |bool b=>exact .bool b
 |str l=>exact .str l
 |nilp=>exact .nilp
 |ptr l k off b hm=>cases hb with|ptr _ _ _ hl=>exact .ptr l k off b (by simp only[Env.freeze,if_neg (d _ _ hl)];exact hm)
 |iptr cs b off c hc _ ih=>cases hb with|iptr _ hb=>exact .iptr cs b off c (fun j e=>q _ _ _ (hc j e)) (fun j h=>ih j h (hb j h))
 |slnil k o a ho ha=>
  cases hb with
  |sl _ _ _ _ hb=>
   refine .slnil k o a ?_ ha;cases o with
   |any=>trivial
   |full=>exact ho
   |buf l i=>simp only[Zam,Env.freeze,if_neg (d _ _ (hb l i rfl))];exact ho
 |sl k xs o b off cap c hk hc _ hcap hm ho ih=>
  cases hb with
  |sl _ _ _ hx hb=>
   refine .sl k xs o b off cap c hk (fun i j p e=>q _ _ _ (hc i j p e)) (fun i h j h'=>ih i h j h' (hx i h j h')) hcap hm ?_;cases o with
   |any=>trivial
   |full=>exact ho
   |buf l i=>simp only[Zam,Env.freeze,if_neg (d _ _ (hb l i rfl))];exact ho
 |nilf=>exact .nilf
 |fn f caps vs hl _ ih=>cases hb with|fn _ _ hb=>exact .fn f caps vs hl (fun i h h'=>ih i h h' (hb i h))
 |bfn f caps vs hl _ ih=>cases hb with|bfn _ _ hb=>exact .bfn f caps vs hl (fun i h h'=>ih i h h' (hb i h))
 |nilm=>exact .nilm
 |map l k b hm=>cases hb with|map _ _ hl=>exact .map l k b (by simp only[Env.freeze,if_neg (d _ _ hl)];exact hm)
 |mnil sz l k a hh ha=>cases hb with|msl _ _ _ _ hl=>exact .mnil _ _ _ _ (by simp only[Env.freeze,if_neg (d _ _ hl)];exact hh) ha
 |msl sz l k i g cap hh=>cases hb with|msl _ _ _ _ hl=>exact .msl _ _ _ _ _ _ (by simp only[Env.freeze,if_neg (d _ _ hl)];exact hh)
 |eptr l k i off g cap hh=>cases hb with|eptr _ _ _ _ hl=>exact .eptr _ _ _ _ _ _ (by simp only[Env.freeze,if_neg (d _ _ hl)];exact hh)
 |ssl k xs ys b off cap c hk hc _ hcap hm ih=>cases hb with|ssl _ _ _ hx=>exact .ssl k xs ys b off cap c hk (fun i j p e=>q _ _ _ (hc i j p e)) (fun i h j h'=>ih i h j h' (hx i h j h')) hcap hm
 |nili=>exact .nili
 |Xd=>exact .Xd
 |sln k a cap hc=>exact .sln k a cap hc
 |sub sz l k i off m g cap hh hm=>cases hb with|sub _ _ _ _ _ _ hl=>exact .sub _ _ _ _ _ _ _ _ (by simp only[Env.freeze,if_neg (d _ _ hl)];exact hh) hm
 |ifc t a v _ ih=>cases hb with|ifc _ _ hb=>exact .ifc t a v (ih hb)
 |agg cs vs hl _ ih=>cases hb with|agg _ hb=>exact .agg cs vs hl (fun i h h'=>ih i h h' (hb i h))
 |tup cs vs hl _ ih=>cases hb with|tup _ hb=>exact .tup cs vs hl (fun i h h'=>ih i h h' (hb i h))
 |dead v=>exact .dead v
variable {cs:LA}
def ZfU(M:lkb L j=some (.box cs))(G:∀c∈cs,Inside n (fun k=>k≠j) c)
  (O:∀p∈tm',(Wk (lkv tm p.1) p.2/\Inside n (fun k=>k≠j) (lkv tm p.1))\/ ∃d,lkv tm p.1= .ptr n j d/\p.2= .iptr (cs.drop d)) (P:∀p∈delb L j,p.2.Inside n (fun k=>k≠j)):AWk n N ⟨tm,L,H⟩ ⟨tm',delb L j,H⟩:=fun B E w a q=>by
 have h:=q.heap;obtain⟨C,g,c,t,S,y⟩:=h.box n j cs (Qq n) (by simp only[full,if_true];exact M);have m:∀o u,c.toList[o]? =some u->w.cell? ⟨C,o,none⟩=some u:=fun o u s=>by simp only[World.cell?,S];simpa using s
 have l:∀b o u,E.F b o=some u->(E.freeze n j (some (C,c.toList))).F b o=some u:=fun b o u s=>by
  simp only[Env.freeze];split
  ·rename_i e;subst e;rw[h.mF _ _ _ o g]at s;cases s
  ·exact s
 obtain⟨Q,J⟩:=h.freeze (j:=j) (some (C,c.toList)) P q.out (fun b U e=>by cases e;exact⟨.inl g,fun o=>h.mF _ _ _ o g,m⟩) (fun a v R y=>y.freeze l R);refine⟨_,⟨q.size,q.defs.ext J,fun A=>?_,Q,q.out⟩,J⟩;show VR _ (lkv tm' A) _;rcases lkv_mem (tm:=tm') (t:=A)with K|hmm
 ·rw[K];exact .dead _
 ·have r:=q.tmps A;rcases O _ hmm with⟨z,D⟩|⟨d,z,D⟩
  ·exact z.vr (r.freeze l D)
  ·dsimp only at z D r;rw[z]at r;rw[D];generalize a.tmps.getD A undef=x at r;cases r with|ptr _ _ _ b hm=>
   rw[g]at hm;cases hm;refine .iptr _ C d (fun i=>(c.toList.getD (d+i) undef)) (fun i I=>?_) (fun i I=>?_)
   ·simp only[QL]at I;have f:d+i<c.toList.length:=by rw[y.1];omega
    simp only[Env.freeze,if_true,Qk,Qe f,Ul]
   ·simp only[QL]at I;have f:d+i<c.toList.length:=by rw[y.1];omega
    simp only[Qak,Qk,Qe f,Ul];exact(y.2 (d+i) om f).freeze l (G _ (Qa _))
def VR.part{E:Env}{k:Nat}{xs:LA}{b cap:Nat}{cs:List Value}(hk:∀x∈xs,x.cells.length=k)(hv:VRs E (flat xs) cs)(g:∀j u,cs[j]? =some u->E.F b j=some u)(hcap:xs.length<=cap)(hm:xs.length<=maxLen)(o m:Nat)(f:o+m<=xs.length):
  VR E (.sl k ((xs.drop o).take m) .any) (.slice (some ⟨b,o*k,none⟩) m (cap - o)):=by
 have d:((xs.drop o).take m).length=m:=by simp;omega
 have hx:∀y∈(xs.drop o).take m,y.cells.length=k:=fun y e=>hk y (UU (UW e))
 have a:flat ((xs.drop o).take m)=((flat xs).drop (o*k)).take (m*k):=by rw[Zev (fun y e=>hk y (UU e)),Zcm hk]
 have:=VR.Vm (E:=E) (k:=k) (xs:=(xs.drop o).take m) (o:=.any) (b:=b) (off:=o*k) (cap:=cap - o) (cs:=(cs.drop (o*k)).take (m*k)) hx (by rw[a];exact(hv.drop _).take _) (fun j u c=>by
  rw[UL]at c;split at c
  ·rw[Uy]at c;exact g _ _ c
  ·cases c) om om trivial
 rw[d]at this;exact this
theorem ZgC{n N:Nat}{tm tm':LN}{L:List (Nat×Ze)}{H:Za}{j e sz i:Nat}{cs:LA}(xs:LA)(hb:lkb L j=some (.Zg e sz cs i))(K:flat xs=cs)(U:xs.length=i)(M:∀x∈xs,x.cells.length=sz)(O:∀c∈cs,Inside n (fun k=>k≠j) c)
  (Q:∀p∈tm',(Wk (lkv tm p.1) p.2/\Inside n (fun k=>k≠j) (lkv tm p.1))\/(∃C,lkv tm p.1= .msl C n j i/\p.2= .sl sz xs .any)\/(∃o m,lkv tm p.1= .sub sz n j i o m/\p.2= .sl sz ((xs.drop o).take m) .any)) (hL:∀p∈delb L j,p.2.Inside n (fun k=>k≠j)):∀B E w a,Yd B n N ⟨tm,L,H⟩ E a w-> ∃o,Yd B n N ⟨tm',delb L j,H⟩ (E.freeze n j o) a w/\Ext n E w (E.freeze n j o) w:=fun B E w a hs=>by
 have h:=hs.heap;obtain⟨⟨h0,v0,f,ay,W⟩,ax⟩:=h.Zg n j e sz cs i (Qq n) (by simp only[full,if_true];exact hb);subst U;rcases W with⟨ad,I,S,q3⟩|⟨g,cap,cur,I,S,q3,V,q5,q6,Z,R⟩
 ·have l:∀b o u,E.F b o=some u->(E.freeze n j none).F b o=some u:=fun b o u s=>s
  obtain⟨X,hx⟩:=h.freeze (j:=j) none hL hs.out (fun b c' e=>by cases e) (fun a v ha hv=>hv.freeze l ha);refine⟨_,⟨hs.size,hs.defs.ext hx,fun r=>?_,X,hs.out⟩,hx⟩;show VR _ (lkv tm' r) _;rcases lkv_mem (tm:=tm') (t:=r)with hd|hmm
  ·rw[hd];exact .dead _
  ·have d:=hs.tmps r;rcases Q _ hmm with⟨w1,q⟩|⟨C,w1,q⟩|⟨o,m,w1,q⟩
   ·exact w1.vr (d.freeze l q)
   ·dsimp only at w1 q d;rw[w1]at d;rw[q];have ex:xs=[]:=Ua S;subst ex;generalize a.tmps.getD r undef=x at d;cases d with
    |mnil _ _ _ a' hh' hsp=>
     cases a' with
     |none=>exact .slnil _ _ none trivial (fun _=>rfl)
     |some ad'=>
      obtain⟨b',G,sp⟩:=ad';have D:sp=none:=hsp _ rfl;subst D;exact VR.sl sz [] .any b' G 0 (fun _ _=>undef) (fun i h=>absurd h (Qj _)) (fun i j h=>absurd h (Qj _)) (fun i h=>absurd h (Qj _)) (Qi _) (Us _) trivial
    |msl _ _ _ _ g cap hh'=>
     simp only[Qz]at f hh'⊢;rw[f,I]at hh';simp only[Qp,Value.slice.injEq]at hh';obtain⟨_,_,rfl⟩:=hh';exact VR.sl sz [] .any g 0 0 (fun _ _=>undef) (fun i h=>absurd h (Qj _)) (fun i j h=>absurd h (Qj _)) (fun i h=>absurd h (Qj _)) (Qi _) (Us _) trivial
   ·dsimp only at w1 q d;rw[w1]at d;rw[q];have ex:xs=[]:=Ua S;subst ex;generalize a.tmps.getD r undef=x at d;cases d with
    |sub _ _ _ _ _ _ g cap hh' hm=>
     simp only[Qz]at f hh' hm⊢;rw[f,I]at hh';simp only[Qp,Value.slice.injEq]at hh';obtain⟨_,_,rfl⟩:=hh';have Q:o=0:=om;have h2:m=0:=om;subst Q h2;simp only[List.drop_nil,List.take_nil,Gp];exact VR.sl sz [] .any g 0 0 (fun _ _=>undef) (fun i h=>absurd h (Qj _)) (fun i j h=>absurd h (Qj _)) (fun i h=>absurd h (Qj _)) (Qi _) (Us _) trivial
 ·have az:xs.length*sz<=cap*sz:=QF _ V;have A:∀o u,(cur.toList.take (xs.length*sz))[o]? =some u->w.cell? ⟨g,o,none⟩=some u:=fun o u s=>by
   simp only[World.cell?,q3];rcases Qd o (xs.length*sz)with h|h
   ·rw[QT h]at s;simpa using s
   ·rw[UL,if_neg om]at s;cases s
  have l:∀b o u,E.F b o=some u->(E.freeze n j (some (g,cur.toList.take (xs.length*sz)))).F b o=some u:=fun b o u s=>by
   simp only[Env.freeze];split
   ·rename_i e;subst e;rw[Z o]at s;cases s
   ·exact s
  obtain⟨X,hx⟩:=h.freeze (j:=j) (some (g,cur.toList.take (xs.length*sz))) hL hs.out (fun b c' e=>by cases e;exact⟨.inr S,Z,A⟩) (fun a v ha hv=>hv.freeze l ha);refine⟨_,⟨hs.size,hs.defs.ext hx,fun r=>?_,X,hs.out⟩,hx⟩;show VR _ (lkv tm' r) _;rcases lkv_mem (tm:=tm') (t:=r)with hd|hmm
  ·rw[hd];exact .dead _
  ·have d:=hs.tmps r;rcases Q _ hmm with⟨w1,q⟩|⟨C,w1,q⟩|⟨o,m,w1,q⟩
   ·exact w1.vr (d.freeze l q)
   ·dsimp only at w1 q d;rw[w1]at d;rw[q];have J:a.tmps.getD r undef=v0:=by
     generalize a.tmps.getD r undef=x at d;generalize P:xs.length=i0 at d f;cases d with
     |mnil _ _ _ a' hh' _=>rw[f]at hh';exact(Uu hh').symm
     |msl _ _ _ _ g' cap' hh'=>rw[f]at hh';exact(Uu hh').symm
    rw[J,I];have z:VRs (E.freeze n j (some (g,cur.toList.take (xs.length*sz)))) (flat xs) (cur.toList.take (xs.length*sz)):=by
     rw[K];exact⟨R.1,fun i x y=>(R.2 i x y).freeze l (O _ (Qa _))⟩
    exact VR.Vm (o:=.any) (b:=g) (off:=0) (cap:=cap) M z (fun i u Y=>by simp only[Env.freeze,if_true,Qy];exact Y) V om trivial
   ·dsimp only at w1 q d;rw[w1]at d;rw[q];generalize a.tmps.getD r undef=x at d;generalize P:xs.length=i0 at d f;cases d with
    |sub _ _ _ _ _ _ g' cap' hh' hm=>
     subst P;rw[f,I]at hh';simp only[Qp,Value.slice.injEq,Addr.mk.injEq]at hh';obtain⟨⟨rfl,_,_⟩,_,rfl⟩:=hh';have z:VRs (E.freeze n j (some (g,cur.toList.take (xs.length*sz)))) (flat xs) (cur.toList.take (xs.length*sz)):=by
      rw[K];exact⟨R.1,fun i x y=>(R.2 i x y).freeze l (O _ (Qa _))⟩
     exact VR.part (b:=g) (cap:=cap) M z (fun i u Y=>by simp only[Env.freeze,if_true];exact Y) V om o m hm
def Jw{e sz i:Nat}(xs:LA)(hb:lkb L j=some (.Zg e sz cs i))(d:flat xs=cs)(b:xs.length=i)(g:∀x∈xs,x.cells.length=sz)(l:∀c∈cs,Inside n (fun k=>k≠j) c)
  (q:∀p∈tm',(Wk (lkv tm p.1) p.2/\Inside n (fun k=>k≠j) (lkv tm p.1))\/(∃f,lkv tm p.1= .msl f n j i/\p.2= .sl sz xs .any)\/(∃o m,lkv tm p.1= .sub sz n j i o m/\p.2= .sl sz ((xs.drop o).take m) .any)) (r:∀p∈delb L j,p.2.Inside n (fun k=>k≠j)):AWk n N ⟨tm,L,H⟩ ⟨tm',delb L j,H⟩:=fun B E w a hs=>by
 obtain⟨o,h⟩:=ZgC xs hb d b g l q r B E w a hs;exact⟨_,h⟩
def YV{e sz i:Nat}(xs:LA)(hb:lkb L j=some (.Zg e sz cs i))(b:flat xs=cs)(a:xs.length=i)(f:∀x∈xs,x.cells.length=sz)(g:∀c∈cs,Inside n (fun k=>k≠j) c)
  (l:∀p∈tm',(Wk (lkv tm p.1) p.2/\Inside n (fun k=>k≠j) (lkv tm p.1))\/(∃d,lkv tm p.1= .msl d n j i/\p.2= .sl sz xs .any)) (m:∀p∈delb L j,p.2.Inside n (fun k=>k≠j)):AWk n N ⟨tm,L,H⟩ ⟨tm',delb L j,H⟩:=
 Jw xs hb b a f g (fun p h=>(l p h).imp id .inl) m
end
def AKc(cx:Cx)(k:List Itm)(Q:Exit->Zc->Prop)(s:Zc):Prop:=AK cx.P cx.φ cx.n cx.N k Q s
def Zz(fn:Func):Code:=match fn.body with
 |some c=>c
 |none=>.skip
theorem Zf {P : Program} {f : FuncId} {fn : Func} (h : P.funcs[f]? = some fn) (hb : fn.body.isSome = true) (hn : (fn.name == "runtime.NumGoroutine") = false) : Fun P f fn (Zz fn) :=
 ⟨h,by unfold Zz;cases hx:fn.body with
  |none=>rw[hx]at hb;cases hb
  |some c=>rfl,hn⟩
def _root_.Go.Code.fst:Code->Code
 | .seq a _=>a
 | .cond _ a _=>a
 | .block _ a=>a
 | .loop a=>a
 | .scope a=>a
 | .rangeFunc _ _ a _=>a
 |c=>c
def _root_.Go.Code.snd:Code->Code
 | .seq _ b=>b
 | .rangeFunc _ _ _ b=>b
 | .cond _ _ b=>b
 |c=>c
def plainO:Opt:=⟨false,false,fun _=>.auto,[]⟩
def drawO:Opt:=⟨true,false,fun _=>.auto,[]⟩
theorem Zpb(cx:Cx)(b:Opt)(a:List Oper)(k:List Itm)(Q:Exit->Zc->Prop)(s:Zc):YT cx b a k Q [] s=AKc cx k Q s:=rfl
theorem ZmT(cx:Cx)(b:Opt)(a:List Oper)(k:List Itm)(Q:Exit->Zc->Prop)(o:Oper)(r:List Oper)(s:Zc):YT cx b a k Q (o::r) s=match o.guard with
  |none=>Vu cx b o s (YT cx b a k Q r)
  |some (j,want)=>match X4 a j with
   |none=>YT cx b a k Q r ⟨Yf s.tmps o.dst (.tup []),s.L,s.H⟩
   |some d=>vcG cx b o s (YT cx b a k Q r) want (lkv s.tmps d):=rfl
theorem Zt3(cx:Cx)(a:Opt)(o:Oper)(s:Zc)(F:Zc->Prop):vcG cx a o s F true (.bool true)=Vu cx a o s F:=rfl
theorem Zt0(cx:Cx)(a:Opt)(o:Oper)(s:Zc)(F:Zc->Prop):vcG cx a o s F false (.bool false)=Vu cx a o s F:=rfl
theorem Zt2(cx:Cx)(a:Opt)(o:Oper)(s:Zc)(F:Zc->Prop):vcG cx a o s F true (.bool false)=F ⟨Yf s.tmps o.dst (.tup []),s.L,s.H⟩:=rfl
theorem Zt1(cx:Cx)(a:Opt)(o:Oper)(s:Zc)(F:Zc->Prop):vcG cx a o s F false (.bool true)=F ⟨Yf s.tmps o.dst (.tup []),s.L,s.H⟩:=rfl
theorem Zt4(cx:Cx)(a:Opt)(o:Oper)(s:Zc)(F:Zc->Prop)(w:Bool):vcG cx a o s F w (.tup [])=F ⟨Yf s.tmps o.dst (.tup []),s.L,s.H⟩:=rfl
section
variable {F:Zc->Prop} {s:Zc} {o:Oper} {cx:Cx}
def V8{c:Opt}{a:Bool}(b:Bool)(e:b=true->vcG cx c o s F a (.bool b))(d:b=false->vcG cx c o s F a (.bool b)):vcG cx c o s F a (.bool b):=by
 cases b
 ·exact d rfl
 ·exact e rfl
section
variable {cx:Cx} {k k':List Itm} {Q:Exit->Zc->Prop} {s:Zc} {c:Code}
def Zu1(h:Q .normal s):AKc cx [] Q s:=h
def ZbY(a:c= .seq c.fst c.snd)(h:AKc cx (.code c.fst:: .code c.snd::k) Q s):AKc cx (.code c::k) Q s:=by rw[a];exact Zpg h
def ZrS{a:Nat}(b:c= .block a c.fst)(h:AKc cx (.code c.fst:: .blk a::k) Q s):AKc cx (.code c::k) Q s:=by rw[b];exact Zpd h
def Zl5(a:c= .skip)(h:AKc cx k Q s):AKc cx (.code c::k) Q s:=by rw[a];exact Zrq h
def Zu0{a:Nat}(h:AKc cx k Q s):AKc cx (.blk a::k) Q s:=ZsW h
def Ztv{a:Nat}(d:c= .exit a)(b:V4 a k=some k')(h:AKc cx k' Q s):AKc cx (.code c::k) Q s:=by rw[d];exact Zrp b h
def ZgK(a:c= .ret)(h:Q .ret s):AKc cx (.code c::k) Q s:=by rw[a];exact Zpe h
def Zp5{o:Operand}(a:c= .cond o c.fst c.snd)(b:evT s.tmps o= .bool true)(h:AKc cx (.code c.fst::k) Q s):AKc cx (.code c::k) Q s:=by
 rw[a];exact Zm1 b (fun _=>h) (fun h=>by cases h)
def Zp4{o:Operand}(a:c= .cond o c.fst c.snd)(b:evT s.tmps o= .bool false)(h:AKc cx (.code c.snd::k) Q s):AKc cx (.code c::k) Q s:=by
 rw[a];exact Zm1 b (fun h=>by cases h) (fun _=>h)
def Zp8(e:TOK cx.P cx.T){d:Nat}{a:Array Oper}(f:c= .region d a false)(b:Xu cx.N a.toList=true)(h:YT cx plainO a.toList k Q a.toList s):AKc cx (.code c::k) Q s:=by
 rw[f];exact ZhB e b plainO rfl h
def Yy(g:TOK cx.P cx.T)(b:Opt)(d:b.dr=false){f:Nat}{a:Array Oper}(i:c= .region f a false)(e:Xu cx.N a.toList=true)(h:YT cx b a.toList k Q a.toList s):AKc cx (.code c::k) Q s:=by
 rw[i];exact ZhB g e b d h
def Vf(j:TOK cx.P cx.T)(g:cx.P.follows .mixedOrders=true)(b:Opt)(e:b.dr=true){i:Nat}{a:Array Oper}(l:c= .region i a true)(f:Xu cx.N a.toList=true)
  (d:(Wv a.toList (Zc9 b a.toList)&&ZdO b a.toList)=true) (h:YT cx b a.toList k Q a.toList s):AKc cx (.code c::k) Q s:=by
 rw[l];exact ZfS j g b e f d h
def ZJ{s':Zc}(hw:AWk cx.n cx.N s s')(h:AKc cx (.code c::k) Q s'):AKc cx (.code c::k) Q s:=Zm3 hw h
def ZV{tm:LN}{L:List (Nat×Ze)}{H:Za}(hs:s=⟨tm,L,H⟩)(h:AKc cx k Q ⟨tm,L,H⟩):AKc cx k Q s:=by rw[hs];exact h
def Zah(S:Zc)(p:AKc cx [.code c] (fun e g=>e= .normal/\AWk cx.n cx.N g S) s)(m:AKc cx k Q S):AKc cx (.code c::k) Q s:=fun E w a r=>by
 refine wpIn_mono (p E w a r) ?_;rintro e o j ⟨g,i,⟨l,h⟩,d,t⟩;subst l;obtain⟨q,f,b⟩:=h _ i j o d;exact⟨S,q,m,f,t.trans b⟩
def Round(cx:Cx)(k:List Itm)(Q:Exit->Zc->Prop)(R:Zc->Prop):Exit->Zc->Prop:=fun e a=>match e with
 | .normal=>R a
 |e=>AX cx.P cx.φ cx.n cx.N Q k e a
def Zx(S:Nat->Zc)(M:Nat)(d:c= .loop c.fst)(b:AWk cx.n cx.N s (S 0))
  (a:∀i,i<=M->AKc cx [.code c.fst] (Round cx k Q fun e=>i<M/\AWk cx.n cx.N e (S (i+1))) (S i)):AKc cx (.code c::k) Q s:=by
 rw[d];exact ZlB S M b a
def Zap(I:Nat->Zc->Prop){m0:Nat}{s0:Zc}(hc:c= .loop c.fst)(hw:AWk cx.n cx.N s s0)(d:I m0 s0)
  (round:∀m s,I m s->AKc cx [.code c.fst] (Round cx k Q fun s'=>∃b a,b<m/\AWk cx.n cx.N s' a/\I b a) s):AKc cx (.code c::k) Q s:=by
 rw[hc];exact Zm2 I hw d round
def ZG(S:Nat->Zc)(p:Nat->Prop)(M:Nat)(j:c= .loop c.fst)(f:AWk cx.n cx.N s (S 0))(h:p 0)
  (a:∀i,i<=M->p i->AKc cx [.code c.fst] (Round cx k Q fun d=>i<M/\p (i+1)/\AWk cx.n cx.N d (S (i+1))) (S i)):AKc cx (.code c::k) Q s:=by
 refine Zap (fun m s=>∃i,i<=M/\m=M - i/\p i/\s=S i) j f ⟨0,Us _,rfl,h,rfl⟩ ?_;rintro m s ⟨i,l,rfl,g,rfl⟩;refine Zab ?_ (a i l g);intro e d b;cases e with
 |normal=>
  have o:i<M:=b.1;exact⟨M - (i+1),S (i+1),om,b.2.2,i+1,om,rfl,b.2.1,rfl⟩
 |_=>exact b
def ZmE{R:Zc->Prop}{a:Nat}(b:V4 a k=some k')(h:AKc cx k' Q s):Round cx k Q R (.exit a) s:=ZfA b h
def Zkq{b:List Itm}{R:Zc->Prop}(a:c= .ret)(h:Q .ret s):AKc cx (.code c::b) (Round cx k Q R) s:=by
 rw[a];exact Zpe (ZfW h k)
def Za6{a:List Itm}{R:Zc->Prop}{d:Nat}(g:c= .exit d)(b:V4 d a=none)(f:V4 d k=some k')(h:AKc cx k' Q s):AKc cx (.code c::a) (Round cx k Q R) s:=by
 rw[g];refine AC.exit ?_;have:∀a:List Itm,V4 d a=none->AX cx.P cx.φ cx.n cx.N (Round cx k Q R) a (.exit d) s:=by
  intro a;induction a with
  |nil=>intro _;exact ZmE f h
  |cons x a ih=>
   intro b;cases x with
   |code c=>exact ih b
   |blk j=>
    simp only[V4]at b;by_cases e:d=j
    ·simp[e]at b
    ·simp only[e,if_false]at b;simp only[AX,e,if_false];exact ih b
 exact this a b
end
def ZW{a:Type}(p:a->Prop):List a->Prop
 |[]=>True
 |x::r=>p x/\ZW p r
def ZW.mem{α:Type}{p:α->Prop}:∀{l:List α},ZW p l-> ∀x∈l,p x
 |[],_,_,h=>by cases h
 |a::r,h,x,hx=>by
  rcases Ql.1 hx with e|e
  ·subst e;exact h.1
  ·exact ZW.mem h.2 x e
variable {H:Za} {L:List (Nat×Ze)} {tm:LN} {n:Nat}
def Zdp{N:Nat}{a:LN}{b:List (Nat×Ze)}(e:ZW (fun p=>Wk (lkv tm p.1) p.2) a)(c:ZW (fun p=>lkb L p.1=some p.2) b)
  (f:ZW (fun p=>Inside n (fun k=>(lkb b k).isSome=true) p.2) a) (d:ZW (fun p=>p.2.Inside n (fun k=>(lkb b k).isSome=true)) b):AWk n N ⟨tm,L,H⟩ ⟨a,b,H⟩:=
 Zph e.mem c.mem f.mem d.mem
variable {Q:Exit->Zc->Prop} {k:List Itm} {c:Code}
def XL{f:Nat}(t j e a:Nat)(d:lkv tm t= .sl f [] .full)(b:lkb L j=none)
  (h:AKc cx (.code c::k) Q ⟨(t,.sl a [] (.buf cx.n j))::tm,setb L j (.buf e a 0),H⟩):AKc cx (.code c::k) Q ⟨tm,L,H⟩:=by
 have:=Zcf (n:=cx.n) (N:=cx.N) (tm:=tm) (L:=L) (H:=H) (l:=cx.n) (j:=j) e a false (Qi _) d (by simp only[full,if_true];exact b);simp only[Zd5,setH,if_true,QE,if_false]at this;exact ZJ this h
def Jp{f:Nat}(t j e a:Nat)(d:lkv tm t= .sl f [] .full)(b:lkb L j=none)
  (h:AKc cx (.code c::k) Q ⟨(t,.msl a cx.n j 0)::tm,setb L j (.Zg e a [] 0),H⟩):AKc cx (.code c::k) Q ⟨tm,L,H⟩:=by
 have:=Zcf (n:=cx.n) (N:=cx.N) (tm:=tm) (L:=L) (H:=H) (l:=cx.n) (j:=j) e a true (Qi _) d (by simp only[full,if_true];exact b);simp only[Zd5,setH,if_true]at this;exact ZJ this h
def ZT(j:Nat)(cs:LA)(b:LN)(f:lkb L j=some (.box cs))(d:ZW (fun c=>Inside cx.n (fun k=>k≠j) c) cs)
  (e:ZW (fun p=>(Wk (lkv tm p.1) p.2/\Inside cx.n (fun k=>k≠j) (lkv tm p.1))\/ ∃a,lkv tm p.1= .ptr cx.n j a/\p.2= .iptr (cs.drop a)) b) (g:ZW (fun p=>p.2.Inside cx.n (fun k=>k≠j)) (delb L j))
  (h:AKc cx (.code c::k) Q ⟨b,delb L j,H⟩):AKc cx (.code c::k) Q ⟨tm,L,H⟩:=
 ZJ (ZfU f d.mem e.mem g.mem) h
variable {cs:LA} {p:Nat->Prop}
def Ze.Zv(h:ZW (fun c=>Abs.Inside n p c) cs):Ze.Inside n p (.box cs):=⟨h.mem,by simp[Ze.at_]⟩
def Ze.Zkj(h:∀c∈cs,Abs.Below n c):Ze.Inside n p (.box cs):=⟨fun a b=>(h a b).inside,by simp[Ze.at_]⟩
def Ze.Ze7{e a i:Nat}(h:∀c∈cs,Abs.Inside n p c):Ze.Inside n p (.Zg e a cs i):=⟨h,by simp[Ze.at_]⟩
def cellsT:(∀cs,(AV.agg cs).cells=cs)/\(∀k n,(AV.int k n).cells=[.int k n])/\(∀b,(AV.bool b).cells=[.bool b])/\(∀s,(AV.str s).cells=[.str s])/\AV.nilp.cells=[.nilp]/\(∀l k o,(AV.ptr l k o).cells=[.ptr l k o])/\
  (∀cs,(AV.iptr cs).cells=[.iptr cs])/\(∀k xs o,(AV.sl k xs o).cells=[.sl k xs o])/\AV.nilf.cells=[.nilf]/\(∀f c,(AV.fn f c).cells=[.fn f c])/\AV.nilm.cells=[.nilm]/\(∀l k,(AV.map l k).cells=[.map l k])/\(∀s l k n,(AV.msl s l k n).cells=[.msl s l k n]):=
 ⟨fun _=>rfl,fun _ _=>rfl,fun _=>rfl,fun _=>rfl,rfl,fun _ _ _=>rfl,fun _=>rfl,fun _ _ _=>rfl,rfl,fun _ _=>rfl,rfl,fun _ _=>rfl,fun _ _ _ _=>rfl⟩
def oneT:(∀k n,(AV.int k n).one=true)/\(∀b,(AV.bool b).one=true)/\(∀s,(AV.str s).one=true)/\AV.nilp.one=true/\(∀l k o,(AV.ptr l k o).one=true)/\
  (∀cs,(AV.iptr cs).one=true)/\(∀k xs o,(AV.sl k xs o).one=true)/\AV.nilf.one=true/\(∀f c,(AV.fn f c).one=true)/\AV.nilm.one=true/\(∀l k,(AV.map l k).one=true)/\(∀s l k n,(AV.msl s l k n).one=true)/\AV.dead.one=false:=
 ⟨fun _ _=>rfl,fun _=>rfl,fun _=>rfl,rfl,fun _ _ _=>rfl,fun _=>rfl,fun _ _ _=>rfl,rfl,fun _ _=>rfl,rfl,fun _ _=>rfl,fun _ _ _ _=>rfl,rfl⟩
def cellsU:(∀f c,(AV.bfn f c).cells=[.bfn f c])/\AV.Xd.cells=[.Xd]/\(∀k,(AV.sln k).cells=[.sln k])/\AV.nili.cells=[.nili]/\(∀t v,(AV.ifc t v).cells=[.ifc t v])/\(∀k xs a,(AV.ssl k xs a).cells=[.ssl k xs a])/\(∀s l k n o m,(AV.sub s l k n o m).cells=[.sub s l k n o m]):=
 ⟨fun _ _=>rfl,rfl,fun _=>rfl,rfl,fun _ _=>rfl,fun _ _ _=>rfl,fun _ _ _ _ _ _=>rfl⟩
def oneU:(∀f c,(AV.bfn f c).one=true)/\AV.Xd.one=true/\(∀k,(AV.sln k).one=true)/\AV.nili.one=true/\(∀t v,(AV.ifc t v).one=true)/\(∀k xs a,(AV.ssl k xs a).one=true)/\(∀s l k n o m,(AV.sub s l k n o m).one=true):=
 ⟨fun _ _=>rfl,rfl,fun _=>rfl,rfl,fun _ _=>rfl,fun _ _ _=>rfl,fun _ _ _ _ _ _=>rfl⟩
variable {fn:Func} {f:FuncId} {T:TT} {P:Program}
def ZsK{args:LA}{Q:AV->Za->Prop}(d:TOK P T)(b:Fun P f fn c)(a:args.length<=fn.ntmps)
  (h:∀B,AKc ⟨P,T,⟨none,B⟩,n,fn.ntmps⟩ [.code c] (PostF P T n fn.results.toList Q) ⟨numbered 0 args,[],H⟩):Zh P n f args H Q:=ZhC d b a h
variable {r:AV} {caps:LA} {ts:List TypeId} {args:List Operand} {g:Operand} {dr:Bool}
def ZjS(d:Fun cx.P f fn c)
  (b:evT s.tmps g= .fn (.func f) caps) (h:PC cx.P (cx.n+1) f (Yo cx.T (evT s.tmps) args ts++caps) (full cx.n s.L s.H) r) (a:F ⟨Yf s.tmps o.dst r,s.L,s.H⟩):WV cx dr o g args ts s F:=
 .inl ⟨f,fn,c,caps,_,b,d,h,fun r' H1 ⟨e1,e2⟩=>⟨s.L,s.H,e2,.refl _ _,e1▸a⟩,fun _=>⟨r,fun _ _ h=>h,a⟩⟩
variable {avs:LA}
def XY(hf:Fun cx.P f fn c)
  (h:Pure cx.P f avs r) (ha:Yo cx.T (evT s.tmps) args ts=avs) (a:F ⟨Yf s.tmps o.dst r,s.L,s.H⟩):WV cx dr o (.func f) args ts s F:=
 ZjS hf rfl (by rw[Qu,ha];exact h _ _) a
def W9(b:Fun cx.P f fn c)
  (h:Pure cx.P f avs r) (a:Yo cx.T (evT s.tmps) args ts=avs) (d:F ⟨Yf s.tmps o.dst r,s.L,s.H⟩):ZlC cx o (.func f) args ts s F:=
 ⟨f,fn,c,[],r,rfl,b,by rw[Qu,a];exact h,d⟩
def Zgj{a:List Nat}(b:Fun cx.P f fn c)
  (h:∀G,Jy cx.n (fun x=>a.contains x) G (full cx.n s.L s.H)->PC cx.P (cx.n+1) f avs G r) (d:Yo cx.T (evT s.tmps) args ts=avs) (g:F ⟨Yf s.tmps o.dst r,s.L,s.H⟩):ZlD cx a o (.func f) args ts s F:=
 ⟨f,fn,c,[],r,rfl,b,fun G e=>by rw[Qu,d];exact h G e,g⟩
def Yp(hg:evT s.tmps g= .fn (.func f) caps)(hf:Fun cx.P f fn c)
  (h:PC cx.P (cx.n+1) f (avs++caps) (full cx.n s.L s.H) r) (ha:Yo cx.T (evT s.tmps) args ts=avs) (a:F ⟨Yf s.tmps o.dst r,s.L,s.H⟩):WV cx dr o g args ts s F:=
 ZjS hf hg (by rw[ha];exact h) a
variable {Qc:AV->Za->Prop}
def YS(hg:evT s.tmps g= .fn (.func f) caps)(hf:Fun cx.P f fn c)
  (h:Zh cx.P (cx.n+1) f (avs++caps) (full cx.n s.L s.H) Qc) (ha:Yo cx.T (evT s.tmps) args ts=avs)
  (hk:∀r H1,Qc r H1-> ∃a H',H1=full cx.n a H'/\ZL cx.n s.H H'/\F ⟨Yf s.tmps o.dst r,a,H'⟩):WV cx false o g args ts s F:=
 .inl ⟨f,fn,c,caps,Qc,hg,hf,by rw[ha];exact h,hk,fun e=>by cases e⟩
def ZsM{l:Nat}(f:evT s.tmps g= .fn (.yield l) [])
  (h:VJ cx.P (cx.n+1) l avs (full cx.n s.L s.H) Qc) (e:Yo cx.T (evT s.tmps) args ts=avs)
  (d:∀r b,Qc r b-> ∃c a,b=full cx.n c a/\ZL cx.n s.H a/\F ⟨Yf s.tmps o.dst r,c,a⟩):WV cx false o g args ts s F:=
 .inr ⟨rfl,.inl ⟨l,Qc,f,by rw[e];exact h,d⟩⟩
def Zte{bs:LA}(hg:evT s.tmps g= .bfn (.func f) bs)(hf:Fun cx.P f fn c)
  (h:Zh cx.P (cx.n+1) f (bs++avs) (full cx.n s.L s.H) Qc) (ha:Yo cx.T (evT s.tmps) args ts=avs)
  (hk:∀r H1,Qc r H1-> ∃a H',H1=full cx.n a H'/\ZL cx.n s.H H'/\F ⟨Yf s.tmps o.dst r,a,H'⟩):WV cx false o g args ts s F:=
 .inr ⟨rfl,.inr ⟨f,fn,c,bs,Qc,hg,hf,by rw[ha];exact h,hk⟩⟩
def ZuD(a:List (Nat×Ze))(H':Za)(hf:Fun cx.P f fn c)
  (h:Zh cx.P (cx.n+1) f avs (full cx.n s.L s.H) (fun b H1=>b=r/\H1=full cx.n a H')) (ha:Yo cx.T (evT s.tmps) args ts=avs) (ho:ZL cx.n s.H H') (d:F ⟨Yf s.tmps o.dst r,a,H'⟩):WV cx false o (.func f) args ts s F:=
 YS (caps:=[]) (Qc:=fun b H1=>b=r/\H1=full cx.n a H') rfl hf (by rw[Qu];exact h) ha fun b H1 ⟨e1,e2⟩=>⟨a,H',e2,ho,e1▸d⟩
def ZjT(b:Fun cx.P f fn c)
  (h:PC cx.P (cx.n+1) f avs (full cx.n s.L s.H) r) (a:Yo cx.T (evT s.tmps) args ts=avs) (d:F ⟨Yf s.tmps o.dst r,s.L,s.H⟩):WV cx dr o (.func f) args ts s F:=
 ZjS b rfl (by rw[Qu,a];exact h) d
variable {v:AV} {t:Nat}
def Zb(hv:Wk (lkv s.tmps t) v)(hb:Below n v)(a:s.H=H):
  PostF P T n [.tmp t] (fun b H'=>b=v/\H'=H) .ret s:=
 ⟨by simp[Y7],[v],⟨hv,trivial⟩,by simpa using hb,rfl,a⟩
def YH{d:Nat}{e:Exit}(m:e= .ret\/e= .normal)(r:Zp)(l k a:Nat)(cs:LA)(h:lkv s.tmps t= .ptr l k a)(f:full n s.L s.H l k=some (.box cs))(j:T d=some r)
  (g:a+r.size<=cs.length) (i:r.isAgg=false->a<cs.length) (o:Wk (if r.isAgg then .agg ((cs.drop a).take r.size)else(cs.drop a).getD 0 .dead) v) (q:Below n v) (p:s.H=H):
  PostF P T n [.cell t d] (fun b c=>b=v/\c=H) e s:=by
 have:PostF P T n [.cell t d] (fun b c=>b=v/\c=H) .ret s:=by
  refine⟨by simp only[Qo,forall_eq,Y7];exact⟨l,k,a,cs,r,h,f,j,g,i⟩,[v],⟨?_,trivial⟩,by simpa using q,rfl,p⟩;simp only[Zbx,h,f,j];rw[if_pos ⟨g,i⟩];exact o
 rcases m with rfl|rfl<;>exact this
def ZF{u:Nat}{w:AV}(c:Wk (lkv s.tmps t) v)(a:Wk (lkv s.tmps u) w)(f:Below n v)(g:Below n w)(d:s.H=H):
  PostF P T n [.tmp t,.tmp u] (fun b e=>b= .tup [v,w]/\e=H) .ret s:=
 ⟨by simp[Y7],[v,w],⟨c,a,trivial⟩,by simp[f,g],rfl,d⟩
def Zn(h:n<=1000000000):n<=maxLen:=by unfold maxLen;omega
def Zc1(n:Nat)(b:Bool):Below n (.bool b):=.bool b
def Below.cells{n:Nat}{a:AV}(h:Below n a):∀c∈a.cells,Below n c:=by
 intro c hc;cases h with
 |agg cs hv=>
  simp only[AV.cells]at hc;obtain⟨i,b,rfl⟩:=QK hc;exact hv i b
 |_=>simp only[AV.cells,Qo]at hc;subst hc;constructor<;>assumption
variable {xs:LA}
def YR{k:Nat}{o:Own}(h:∀x∈xs,Below n x)(ho:∀l j,o= .buf l j->l<n):Below n (.sl k xs o):=
 .sl k xs o (fun i b j a=>(h _ (Qa b)).cells _ (Qa a)) ho
def Zl{k:Nat}(h:∀x∈xs,Below n x):Below n (.sl k xs .any):=YR h (fun _ _ e=>by cases e)
def Yt(h:∀x∈cs,Below n x):Below n (.agg cs):=.agg cs fun i a=>h _ (Qa a)
def stp:List Itm->Option (List Itm)
 | .code c::k=>match c with
  | .seq _ _=>some (.code c.fst:: .code c.snd::k)
  | .block id _=>some (.code c.fst:: .blk id::k)
  | .skip=>some k
  |_=>none
 | .blk _::k=>some k
 |_=>none
variable {l l':List Itm}
def kn(hs:stp l=some l')(h:AKc cx l' Q s):AKc cx l Q s:=by
 unfold stp at hs;split at hs
 ·rename_i c k;split at hs
  ·simp only[Qp]at hs;subst hs;exact ZbY rfl h
  ·simp only[Qp]at hs;subst hs;exact ZrS rfl h
  ·simp only[Qp]at hs;subst hs;exact Zl5 rfl h
  ·cases hs
 ·simp only[Qp]at hs;subst hs;exact Zu0 h
 ·cases hs
def norm:Nat->List Itm->List Itm
 |0,l=>l
 |n+1,l=>match stp l with
  |some l'=>norm n l'
  |none=>l
def kns{cx:Cx}{Q:Exit->Zc->Prop}{s:Zc}:∀(n:Nat) {l:List Itm},AKc cx (norm n l) Q s->AKc cx l Q s
 |0,_,h=>h
 |n+1,l,h=>by
  unfold norm at h;split at h
  ·rename_i l' a;exact kn a (kns n h)
  ·exact h
def ZdN(a:norm 60 l=l')(h:AKc cx l' Q s):AKc cx l Q s:=kns 60 (a▸h)
section
variable {cx:Cx} {k k' l:List Itm} {Q:Exit->Zc->Prop} {s:Zc} {c:Code}
def V3(hT:TOK cx.P cx.T){id:Nat}{ops:Array Oper}(hl:norm 60 l= .code c::k)(hc:c= .region id ops false)(h:YT cx plainO ops.toList k Q ops.toList s)(hd:Xu cx.N ops.toList=true:=by kernel_rfl):AKc cx l Q s:=
 ZdN hl (Zp8 hT hc hd h)
def XD(hT:TOK cx.P cx.T)(hm:cx.P.follows .mixedOrders=true)(op:Opt){id:Nat}{ops:Array Oper}(hl:norm 60 l= .code c::k)(hc:c= .region id ops true)(hop:op.dr=true)(h:YT cx op ops.toList k Q ops.toList s)
  (hd:Xu cx.N ops.toList=true:=by kernel_rfl) (hok:(Wv ops.toList (Zc9 op ops.toList)&&ZdO op ops.toList)=true:=by kernel_rfl):AKc cx l Q s:=
 ZdN hl (Vf hT hm op hop hc hd hok h)
def ZoM{o:Operand}(a:norm 60 l= .code c::k)(b:c= .cond o c.fst c.snd)(d:evT s.tmps o= .bool true)(h:AKc cx (.code c.fst::k) Q s):AKc cx l Q s:=ZdN a (Zp5 b d h)
def Zr6{o:Operand}(a:norm 60 l= .code c::k)(b:c= .cond o c.fst c.snd)(d:evT s.tmps o= .bool false)(h:AKc cx (.code c.snd::k) Q s):AKc cx l Q s:=ZdN a (Zp4 b d h)
def Zmg{a:Nat}(d:norm 60 l= .code c::k)(e:c= .exit a)(b:V4 a k=some k')(h:AKc cx k' Q s):AKc cx l Q s:=ZdN d (Ztv e b h)
def Zk(a:norm 60 l= .code c::k)(b:c= .ret)(h:Q .ret s):AKc cx l Q s:=ZdN a (ZgK b h)
def Zu9(a:norm 60 l=[])(h:Q .normal s):AKc cx l Q s:=ZdN a (Zu1 h)
def Zw6{d:List Itm}{R:Zc->Prop}(a:norm 60 l= .code c::d)(b:c= .ret)(h:Q .ret s):AKc cx l (Round cx k Q R) s:=ZdN a (Zkq b h)
def Zw5{b:List Itm}{R:Zc->Prop}{a:Nat}(e:norm 60 l= .code c::b)(f:c= .exit a)(g:V4 a b=none)(d:V4 a k=some k')(h:AKc cx k' Q s):AKc cx l (Round cx k Q R) s:=ZdN e (Za6 f g d h)
end
def lit:AV->Bool
 | .int _ _| .bool _| .str _| .nilp| .nilf| .nilm| .dead| .fn _ []=>true
 |_=>false
def qA(h:lit v=true):Inside n p v:=by
 unfold lit at h;split at h
 ·exact .int _ _
 ·exact .bool _
 ·exact .str _
 ·exact .nilp
 ·exact .nilf
 ·exact .nilm
 ·exact .dead
 ·exact .fn _ _ (fun i h=>absurd h (Qj _))
 ·cases h
section
variable {n:Nat} {p:Nat->Prop}
def q0{cs:LA}(h:ZW (fun c=>Abs.Inside n p c) cs):Ze.Inside n p (.box cs):=Ze.Zv h
def q1{v:AV}:Wk v v:=.refl v
def q2{k:Nat}{xs:LA}{o:Own}:Wk (.sl k xs o) (.sl k xs .any):=.any k xs o
def qd:Inside n p .dead:=.dead
end
end
def sw(n j l k x y:Nat):Nat×Nat:=if x=n/\y=j then(l,k)else if x=l/\y=k then(n,j)else(x,y)
def Env.swap(E:Env)(n j l k:Nat):Env where
 F:=E.F
 m:=fun x y=>E.m (sw n j l k x y).1 (sw n j l k x y).2
 hist:=fun x y=>E.hist (sw n j l k x y).1 (sw n j l k x y).2
 g:=fun x y=>E.g (sw n j l k x y).1 (sw n j l k x y).2
 qd:=E.qd
def ren(n j l k:Nat):AV->AV
 | .ptr x y o=>if x=n/\y=j then .ptr l k o else .ptr x y o
 | .map x y=>if x=n/\y=j then .map l k else .map x y
 | .msl sz x y i=>if x=n/\y=j then .msl sz l k i else .msl sz x y i
 |v=>v
def ZcX(n j:Nat)(v:AV):Prop:=Inside n (fun x=>x≠j) v\/(∃o,v= .ptr n j o)\/v= .map n j\/ ∃a i,v= .msl a n j i
section
variable {n j l k:Nat}
def X7{x y:Nat}(a:¬(x=n/\y=j))(b:¬(x=l/\y=k)):sw n j l k x y=(x,y):=by
 unfold sw;rw[if_neg a,if_neg b]
def ZnX(n j l k:Nat):sw n j l k n j=(l,k):=by unfold sw;simp
def Zfi(h:l≠n):sw n j l k l k=(n,j):=by
 unfold sw;rw[if_neg (fun c=>h c.1),if_pos ⟨rfl,rfl⟩]
def Zq5(h:l≠n){x y a b:Nat}(e:sw n j l k x y=sw n j l k a b):x=a/\y=b:=by
 unfold sw at e;split at e<;>split at e<;>(try split at e)<;>(try split at e)<;>simp only[Qax]at e<;>omega
section
variable {n j l k:Nat} {E:Env}
def VR.swap(e:l<n)(A:E.m l k=none)(u:∀i,E.hist l k i=none){a:AV}{v:Value}(D:VR E a v)(d:Inside n (fun x=>x≠j) a):VR (E.swap n j l k) a v:=by
 have C:∀x y b,(x<n\/(x=n/\y≠j))->E.m x y=some b->(E.swap n j l k).m x y=some b:=fun x y b h p=>by
  have z:¬(x=n/\y=j):=fun c=>by
   rcases h with h|h
   ·omega
   ·exact h.2 c.2
  have w:¬(x=l/\y=k):=fun c=>by rw[c.1,c.2,A]at p;cases p
  simp only[Env.swap,X7 z w];exact p
 have s:∀x y i b,(x<n\/(x=n/\y≠j))->E.hist x y i=some b->(E.swap n j l k).hist x y i=some b:=fun x y i b h p=>by
  have z:¬(x=n/\y=j):=fun c=>by
   rcases h with h|h
   ·omega
   ·exact h.2 c.2
  have w:¬(x=l/\y=k):=fun c=>by rw[c.1,c.2,u]at p;cases p
  simp only[Env.swap,X7 z w];exact p
 induction D with
 |int k n=>exact .int k n
 |bool b=>exact .bool b
 |str l=>exact .str l
 |nilp=>exact .nilp
 |ptr x y off b p=>cases d with|ptr _ _ _ e=>exact .ptr x y off b (C _ _ _ e p)
 |iptr cs b off c hc _ ih=>cases d with|iptr _ d=>exact .iptr cs b off c hc (fun i h=>ih i h (d i h))
 |slnil q o a ho ha=>
  cases d with
  |sl _ _ _ _ d=>
   refine .slnil q o a ?_ ha;cases o with
   |any=>trivial
   |full=>exact ho
   |buf x i=>exact s _ _ _ _ (d x i rfl) ho
 |sl q xs o b off cap c hk hc _ hcap p ho ih=>
  cases d with
  |sl _ _ _ hx d=>
   refine .sl q xs o b off cap c hk hc (fun i h B r=>ih i h B r (hx i h B r)) hcap p ?_;cases o with
   |any=>trivial
   |full=>exact ho
   |buf x i=>exact s _ _ _ _ (d x i rfl) ho
 |nilf=>exact .nilf
 |fn f caps vs e _ ih=>cases d with|fn _ _ d=>exact .fn f caps vs e (fun i h r=>ih i h r (d i h))
 |bfn f caps vs e _ ih=>cases d with|bfn _ _ d=>exact .bfn f caps vs e (fun i h r=>ih i h r (d i h))
 |nilm=>exact .nilm
 |map x y b p=>cases d with|map _ _ e=>exact .map x y b (C _ _ _ e p)
 |mnil sz x y a hh ha=>cases d with|msl _ _ _ _ e=>exact .mnil _ _ _ _ (s _ _ _ _ e hh) ha
 |msl sz x y i g cap hh=>cases d with|msl _ _ _ _ e=>exact .msl _ _ _ _ _ _ (s _ _ _ _ e hh)
 |eptr x y i off g cap hh=>cases d with|eptr _ _ _ _ e=>exact .eptr _ _ _ _ _ _ (s _ _ _ _ e hh)
 |ssl k xs ys b off cap c hk hc _ hcap p ih=>cases d with|ssl _ _ _ hx=>exact .ssl k xs ys b off cap c hk hc (fun i h j r=>ih i h j r (hx i h j r)) hcap p
 |nili=>exact .nili
 |Xd=>exact .Xd
 |sln k a cap hc=>exact .sln k a cap hc
 |sub sz x y i off m g cap hh p=>cases d with|sub _ _ _ _ _ _ e=>exact .sub _ _ _ _ _ _ _ _ (s _ _ _ _ e hh) p
 |ifc t a v _ ih=>cases d with|ifc _ _ d=>exact .ifc t a v (ih d)
 |agg cs vs e _ ih=>cases d with|agg _ d=>exact .agg cs vs e (fun i h r=>ih i h r (d i h))
 |tup cs vs e _ ih=>cases d with|tup _ d=>exact .tup cs vs e (fun i h r=>ih i h r (d i h))
 |dead v=>exact .dead v
theorem ZtL{a:AV}(h:Inside n (fun x=>x≠j) a):ren n j l k a=a:=by
 cases h with
 |ptr x y o h=>simp only[ren];rw[if_neg];rintro⟨rfl,rfl⟩;rcases h with h|h;exact absurd h (Un _);exact h.2 rfl
 |map x y h=>simp only[ren];rw[if_neg];rintro⟨rfl,rfl⟩;rcases h with h|h;exact absurd h (Un _);exact h.2 rfl
 |msl sz x y i h=>simp only[ren];rw[if_neg];rintro⟨rfl,rfl⟩;rcases h with h|h;exact absurd h (Un _);exact h.2 rfl
 |_=>rfl
def VR.ren(f:l<n)(e:E.m l k=none)(d:∀i,E.hist l k i=none){a:AV}{v:Value}(c:VR E a v)(p:ZcX n j a):VR (E.swap n j l k) (ren n j l k a) v:=by
 rcases p with h|⟨o,rfl⟩|rfl|⟨q,i,rfl⟩
 ·rw[ZtL h];exact c.swap f e d h
 ·cases c with
  |ptr _ _ _ b hm=>
   simp only[Abs.ren];rw[if_pos ⟨trivial,trivial⟩];refine .ptr l k o b ?_;simp only[Env.swap,Zfi (show l≠n by omega)];exact hm
 ·cases c with
  |map _ _ b hm=>
   simp only[Abs.ren];rw[if_pos ⟨trivial,trivial⟩];refine .map l k b ?_;simp only[Env.swap,Zfi (show l≠n by omega)];exact hm
 ·simp only[Abs.ren];rw[if_pos ⟨trivial,trivial⟩];cases c with
  |mnil _ _ _ a hh ha=>exact .mnil _ _ _ _ (by simp only[Env.swap,Zfi (show l≠n by omega)];exact hh) ha
  |msl _ _ _ _ g cap hh=>exact .msl _ _ _ _ _ _ (by simp only[Env.swap,Zfi (show l≠n by omega)];exact hh)
end
def Ze.J9(f:AV->AV):Ze->Ze
 | .box cs=>.box (cs.map f)
 | .map es=>.map (es.map fun p=>(f p.1,f p.2))
 | .buf e sz fr=>.buf e sz fr
 | .Zg e sz cs n=>.Zg e sz (cs.map f) n
 | .iter l k s q=>.iter l k s q
 | .var b t cs=>.var b t (cs.map f)
 | .lrec l N fo tm ps ca cb st pend=>.lrec l N fo tm ps ca cb st pend
 | .gone=>.gone
 | .tbox t cs=>.tbox t (cs.map f)
def VRs.J9{E c:Env}{f:AV->AV}{b:LA}{d:List Value}(h:VRs E b d)(e:∀a∈b,∀v,VR E a v->VR c (f a) v):VRs c (b.map f) d:=
 ⟨by simpa using h.1,fun i j g=>by simp only[QZ];exact e _ (Qa _) _ (h.2 i (by simpa using j) g)⟩
variable {b:Ze}
def Zee.ZsO{E E':Env}{w w':World}{l' k':Nat}(f:AV->AV)(h:Zee E w l k b)(hm:E'.m l' k'=E.m l k)(hg:E'.g l' k'=E.g l k)(hh:∀j,E'.hist l' k' j=E.hist l k j)
  (hi:∀p∈b.at_,∀r,E.m p.1 p.2=some r->E'.m p.1 p.2=some r) (hb:∀r,E.m l k=some r\/E.g l k=some r->w'.heap[r]? =w.heap[r]?)
  (hF:∀g o,E.g l k=some g->E.F g o=none->E'.F g o=none) (hv:∀a∈b.avs,∀v,VR E a v->VR E' (f a) v) (hrec:b.isRec=true-> ∀a∈b.avs,f a=a) (hqd:E'.qd=E.qd:=by rfl):Zee E' w' l' k' (b.J9 f):=by
 cases b with
 |box cs=>
  obtain⟨r,h1,c,t,h2,h3⟩:=h;exact⟨r,hm.trans h1,c,t,by rw[hb r (.inl h1)];exact h2,h3.J9 hv⟩
 |map es=>
  obtain⟨r,h1,ent,h2,h3,h4⟩:=h;refine⟨r,hm.trans h1,ent,by rw[hb r (.inl h1),Qv];exact h2,by rw[Qv];exact h3,fun i x y=>?_⟩;have x':i<es.length:=by simpa using x
  obtain⟨q1,q2,q3⟩:=h4 i x' y;simp only[QZ];exact⟨hv _ (UH _ (Qg.2 ⟨_,Qa x',rfl⟩)) _ q1,hv _ (U6 _ (Qg.2 ⟨_,Qa x',rfl⟩)) _ q2,q3⟩
 |buf e sz fr=>
  obtain⟨⟨v,h1,h2,h3⟩,h4⟩:=h;refine⟨⟨v,(hh fr).trans h1,fun j hj=>(hh j).trans (h2 j hj),?_⟩,hm.trans h4⟩;rcases h3 with⟨a,q1,q2,q3⟩|⟨g,cap,cur,q1,q2,q3,q4,q5,q6,q7⟩
  ·exact .inl ⟨a,q1,q2,hg.trans q3⟩
  ·exact .inr ⟨g,cap,cur,q1,hg.trans q2,by rw[hb g (.inr q2)];exact q3,q4,q5,q6,fun o ho=>hF g o q2 (q7 o ho)⟩
 |Zg e sz cs n=>
  obtain⟨⟨h0,v,h1,h2,h3⟩,h4⟩:=h;refine⟨⟨by rw[Qv];exact h0,v,(hh n).trans h1,fun j hj=>(hh j).trans (h2 j hj),?_⟩,hm.trans h4⟩;rcases h3 with⟨a,q1,q2,q3⟩|⟨g,cap,cur,q1,q2,q3,q4,q5,q6,q7,q8⟩
  ·exact .inl ⟨a,q1,q2,hg.trans q3⟩
  ·exact .inr ⟨g,cap,cur,q1,hg.trans q2,by rw[hb g (.inr q2)];exact q3,q4,q5,q6,fun o=>hF g o q2 (q7 o),q8.J9 hv⟩
 |iter x y since seen=>
  obtain⟨r,r',h1,h2,h3⟩:=h;exact⟨r,r',hm.trans h1,hi (x,y) (by simp[Ze.at_]) r' h2,by rw[hb r (.inl h1)];exact h3⟩
 |var b t cs=>
  obtain⟨h0,h1,c,h2,h3⟩:=h;exact⟨hqd.trans h0,hm.trans h1,c,by rw[hb b (.inl h1)];exact h2,h3.J9 hv⟩
 |lrec b N fo tm ps ca cb st pend=>
  obtain⟨h1,rc,h2,h3,h4,h5,h6,h7,h8,h9,h10⟩:=h;refine⟨hm.trans h1,rc,by rw[hb b (.inl h1)];exact h2,h3,h4,h5,h6,h7,h8,fun t=>?_,h10⟩;rcases lkv_mem (tm:=tm) (t:=t)with hd|hd
  ·rw[hd];exact .dead _
  ·have hmem:lkv tm t∈(Ze.lrec b N fo tm ps ca cb st pend).avs:=by simp only[Ze.avs];exact Qg.2 ⟨_,hd,rfl⟩
   have:=hv _ hmem _ (h9 t);rw[hrec rfl _ hmem]at this;exact this
 |gone=>exact hm.trans h
 |tbox t cs=>
  obtain⟨r,h1,c,h2,h3⟩:=h;exact⟨r,hm.trans h1,c,by rw[hb r (.inl h1)];exact h2,h3.J9 hv⟩
theorem Zr4{f:AV->AV}(h:∀a∈b.avs,f a=a):b.J9 f=b:=by
 cases b with
 |box cs=>simp only[Ze.J9];congr 1;exact(MG h).trans (QaI cs)
 |map es=>
  simp only[Ze.J9];congr 1;refine(MG (fun p c=>?_)).trans (QaI es);exact Qbr (h _ (UH _ (Qg.2 ⟨p,c,rfl⟩))) (h _ (U6 _ (Qg.2 ⟨p,c,rfl⟩)))
 |buf e sz fr=>rfl
 |Zg e sz cs n=>simp only[Ze.J9];congr 1;exact(MG h).trans (QaI cs)
 |iter x y s q=>rfl
 |var b t cs=>simp only[Ze.J9];congr 1;exact(MG h).trans (QaI cs)
 |lrec l N fo tm ps ca cb st pend=>rfl
 |gone=>rfl
 |tbox t cs=>simp only[Ze.J9];congr 1;exact(MG h).trans (QaI cs)
def Inside.mono{p q:Nat->Prop}(c:∀x,p x->q x){a:AV}(h:Inside n p a):Inside n q a:=by
 have f:∀l k:Nat,(l<n\/(l=n/\p k))->(l<n\/(l=n/\q k)):=fun l k h=>h.imp id fun h=>⟨h.1,c _ h.2⟩
 induction h with
 |int k i=>exact .int k i
 |bool b=>exact .bool b
 |str l=>exact .str l
 |nilp=>exact .nilp
 |ptr l k off h=>exact .ptr l k off (f _ _ h)
 |iptr cs _ ih=>exact .iptr cs ih
 |sl k xs o _ ho ih=>exact .sl k xs o ih (fun l j e=>f _ _ (ho l j e))
 |nilf=>exact .nilf
 |fn g caps _ ih=>exact .fn g caps ih
 |bfn g caps _ ih=>exact .bfn g caps ih
 |nilm=>exact .nilm
 |map l k h=>exact .map l k (f _ _ h)
 |msl sz l k i h=>exact .msl sz l k i (f _ _ h)
 |eptr l k i off h=>exact .eptr l k i off (f _ _ h)
 |ssl k xs ys _ ih=>exact .ssl k xs ys ih
 |nili=>exact .nili
 |Xd=>exact .Xd
 |sln k=>exact .sln k
 |sub sz l k i off m h=>exact .sub sz l k i off m (f _ _ h)
 |ifc t a _ ih=>exact .ifc t a ih
 |agg cs _ ih=>exact .agg cs ih
 |tup cs _ ih=>exact .tup cs ih
 |dead=>exact .dead
def Zb5(n j l k:Nat)(L:List (Nat×Ze)):List (Nat×Ze):=(delb L j).map fun p=>(p.1,p.2.J9 (ren n j l k))
theorem Zi3{f:Ze->Ze}:∀(L:List (Nat×Ze)) (t:Nat),lkb (L.map fun p=>(p.1,f p.2)) t=(lkb L t).map f
 |[],t=>rfl
 |(i,b)::r,t=>by
  simp only[Qs,lkb];split
  ·rfl
  ·exact Zi3 r t
def ZjE{N:Nat}{tm O:LN}{L:List (Nat×Ze)}{H:Za}(j l k:Nat)(hl:l<n)(K:H l k=none)(hj:lkb L j=some b)(hb:b.Below n)
  (h1:∀p∈O,ZcX n j (lkv tm p.1)/\Wk (ren n j l k (lkv tm p.1)) p.2) (hL:∀p∈delb L j,(∀a∈p.2.avs,ZcX n j a)/\(∀q∈p.2.at_,¬(q.1=n/\q.2=j))/\p.2.isRec=false):
  AWk n N ⟨tm,L,H⟩ ⟨O,Zb5 n j l k L,H.upd l k b⟩:=fun B E w a Y=>by
 have h:=Y.heap;have s:l≠n:=om;obtain⟨u,ay,I⟩:=h.dom l k om (by simp only[full,if_neg s];exact K);have f:∀x y,(E.swap n j l k).m x y=E.m (sw n j l k x y).1 (sw n j l k x y).2:=fun _ _=>rfl
 have D:∀x y,(E.swap n j l k).g x y=E.g (sw n j l k x y).1 (sw n j l k x y).2:=fun _ _=>rfl
 have hf:full n (Zb5 n j l k L) (H.upd l k b) n j=none:=by
  simp only[full,if_true,Zb5,Zi3,lkb_delb];rfl
 have U:full n (Zb5 n j l k L) (H.upd l k b) l k=some b:=by
  simp only[full,if_neg s,Za.upd_same]
 have V:∀x y,¬(x=n/\y=j)-> ¬(x=l/\y=k)->full n (Zb5 n j l k L) (H.upd l k b) x y=if x=n then(lkb L y).map (fun b=>b.J9 (ren n j l k))else H x y:=fun x y A z=>by
  simp only[full];split
  ·rename_i e;simp only[Zb5,Zi3,lkb_delb];rw[if_neg (fun W=>A ⟨e,W⟩)]
  ·exact Za.upd_ne _ _ z
 have S:∀x y,¬(x=n/\y=j)-> ¬(x=l/\y=k)->full n (Zb5 n j l k L) (H.upd l k b) x y=none->full n L H x y=none:=fun x y A z e=>by
  rw[V x y A z]at e;simp only[full];split
  ·rename_i W;rw[if_pos W]at e;simpa using e
  ·rename_i W;rw[if_neg W]at e;exact e
 have aw:full n L H n j=some b:=by simp only[full,if_true];exact hj
 have av:full n L H l k=none:=by simp only[full,if_neg s];exact K
 refine⟨E.swap n j l k,⟨Y.size,Y.defs.sub (fun b ho=>ho.elim (fun⟨x,y,hm⟩=>.inl ⟨_,_,hm⟩) (fun⟨x,y,hm⟩=>.inr ⟨_,_,hm⟩)),fun t=>?_,{norm:=?_,F:=h.F,blk:=fun x y bb G d=>?_,dom:=fun x y G d=>?_,nobuf:=fun x y X=>?_,inj:=?_,injg:=?_,mg:=?_,mF:=?_,lt:=?_},fun x y bb G d=>?_⟩,
  ⟨⟨fun _ _ _ h=>h,fun x y r G hm=>?_,fun x y i v G hm=>?_,rfl⟩,rfl,rfl,rfl,fun _=>Qi _,Qi _,fun _ _ _=>rfl,fun r _ ho=>?_⟩⟩
 ·show VR _ (lkv O t) _;rcases lkv_mem (tm:=O) (t:=t)with hd|hm
  ·rw[hd];exact .dead _
  ·obtain⟨q1,q2⟩:=h1 _ hm;exact q2.vr ((Y.tmps t).ren hl u I q1)
 ·refine⟨fun x y G=>?_,fun x y G=>?_,fun x y i G=>?_⟩<;>simp only[Env.swap]<;>rw[X7 om om]
  ·exact h.norm.m x y G
  ·exact h.norm.g x y G
  ·exact h.norm.hist x y i G
 ·by_cases z:x=l/\y=k
  ·obtain⟨rfl,rfl⟩:=z;rw[U]at d;cases d;have:=(h.blk n j b (Qq n) aw).ZsO (E':=E.swap n j x y) (w':=w) (l':=x) (k':=y) (fun a=>a) (by rw[f,Zfi s]) (by rw[D,Zfi s]) (fun i=>by simp only[Env.swap,Zfi s]) (fun p hp r J=>?_) (fun _ _=>rfl) (fun _ _ _ h=>h)
    (fun a ha v hv=>hv.swap hl u I ((hb.1 a ha).inside)) (fun _ _ _=>rfl)
   ·rw[Zr4 (fun _ _=>rfl)]at this;exact this
   ·have:=hb.2 p hp;rw[f,X7 om (fun c=>by rw[c.1,c.2,u]at J;cases J)];exact J
  ·by_cases A:x=n/\y=j
   ·obtain⟨rfl,rfl⟩:=A;rw[hf]at d;cases d
   ·rw[V x y A z]at d;have Q:sw n j l k x y=(x,y):=X7 A z;split at d
    ·rename_i e;subst e;simp only[Ur]at d;obtain⟨b0,ax,rfl⟩:=d;have az:(y,b0)∈delb L j:=by
      have:=lkb_delb L j y;rw[if_neg (fun W=>A ⟨rfl,W⟩),ax]at this;exact lkb_mem this
     obtain⟨t1,t2,t3⟩:=hL _ az;refine(h.blk x y b0 G (by simp only[full,if_true];exact ax)).ZsO _ (by rw[f,Q]) (by rw[D,Q]) (fun i=>by simp only[Env.swap,Q]) (fun p hp r J=>?_) (fun _ _=>rfl) (fun _ _ _ h=>h) (fun a ha v hv=>hv.ren hl u I (t1 a ha)) (fun e=>by rw[t3]at e;cases e);rw[f,X7 (t2 p hp) (fun c=>by rw[c.1,c.2,u]at J;cases J)];exact J
    ·rename_i e;have Z:=Y.out x y bb om d;refine(h.blk x y bb G (by simp only[full,if_neg e];exact d)).keep (by rw[f,Q]) (by rw[D,Q]) (fun i=>by simp only[Env.swap,Q]) (fun p hp r J=>?_) (fun _ _=>rfl) (fun _ _ _ h=>h) (fun a ha v hv=>hv.swap hl u I (Z.1 a ha).inside);have:=Z.2 p hp;rw[f,X7 om (fun c=>by rw[c.1,c.2,u]at J;cases J)];exact J
 ·by_cases z:x=l/\y=k
  ·rw[z.1,z.2,U]at d;cases d
  ·by_cases A:x=n/\y=j
   ·simp only[Env.swap,A.1,A.2,ZnX];exact⟨u,ay,I⟩
   ·have Q:sw n j l k x y=(x,y):=X7 A z;simp only[Env.swap,Q];exact h.dom x y G (S x y A z d)
 ·by_cases z:x=l/\y=k
  ·rw[z.1,z.2];rw[D,z.1,z.2,Zfi s]at X;obtain⟨b',C,P⟩:=h.nobuf n j X;rw[aw]at C;cases C;exact⟨b,U,P⟩
  ·by_cases A:x=n/\y=j
   ·rw[D,A.1,A.2,ZnX]at X;exact absurd ay X
   ·rw[D,X7 A z]at X;obtain⟨b',C,P⟩:=h.nobuf x y X;rw[V x y A z];simp only[full]at C;split
    ·rename_i e;rw[if_pos e]at C;refine⟨_,by rw[C];rfl,?_⟩;cases b'<;>first|rfl|cases P
    ·rename_i e;rw[if_neg e]at C;exact⟨b',C,P⟩
 ·intro x y x' y' r M R;rw[f]at M R;have:=h.inj _ _ _ _ _ M R;exact Zq5 s (Qbr this.1 this.2)
 ·intro x y x' y' r M R;rw[D]at M R;have:=h.injg _ _ _ _ _ M R;exact Zq5 s (Qbr this.1 this.2)
 ·intro x y x' y' r M R;rw[f]at M;rw[D]at R;exact h.mg _ _ _ _ _ M R
 ·intro x y r o M;rw[f]at M;exact h.mF _ _ _ _ M
 ·intro r J;rcases J with⟨x,y,hm⟩|⟨x,y,hm⟩
  ·exact h.lt r (.inl ⟨_,_,hm⟩)
  ·exact h.lt r (.inr ⟨_,_,hm⟩)
 ·simp only[Za.upd]at d;split at d
  ·cases d;exact hb
  ·exact Y.out x y bb G d
 ·rw[f,X7 om (fun c=>by rw[c.1,c.2,u]at hm;cases hm)];exact hm
 ·simp only[Env.swap];rw[X7 om (fun c=>by rw[c.1,c.2,I]at hm;cases hm)];exact hm
 ·rcases ho with⟨x,y,hm⟩|⟨x,y,hm⟩
  ·exact .inl ⟨_,_,hm⟩
  ·exact .inr ⟨_,_,hm⟩
end
def Zcz(a:Option Nat)(n:Nat):(fr a).room n:=fun _ h=>by cases h
section
variable {c:Code} {P:Program} {n:Nat}
def ZfR{ro:Option Nat}{Q:Exit->Act->World->Prop}{a:Act}{w:World}(h:c.wpIn (fr ro) 0 P Q a w):c.wpIn (fr ro) n P Q a w:=
 fun b k cs d e _=>h b k cs d e (Zcz _ _)
variable {pd:Option Code} {st:LoopState} {ca cb:Code} {ps:Array Tmp} {tm:LN} {x y l N fo:Nat}
def Zo.VO{M:Nat}{G:Za}{E:Env}{w:World}(h:Zo M G E w)(s:x<M)
  (u:G x y=some (.lrec l N fo tm ps ca cb st pd)):
  ∃a:Loop,w.heap[l]? =some (.loop a)/\a.params=ps/\a.assign=ca/\a.body=cb/\a.state=st/\a.pending=pd/\a.tmps.size=N/\(∀t,VR E (lkv tm t) (a.tmps.getD t undef))/\(fo≠0->a.fn+1=fo)/\
   ∀c b,Zo M (G.upd x y (.lrec l N fo tm ps ca cb c b)) E (w.putObj l (.loop {a with state:=c,pending:=b}))/\Ext M E w E (w.putObj l (.loop {a with state:=c,pending:=b})):=by
 obtain⟨e,a,k,i,p,j,r,v,m,n,d⟩:=h.blk x y _ s u;have f:l<w.heap.size:=(QO.1 k).1;refine⟨a,k,i,p,j,r,v,m,n,d,fun c b=>?_⟩;exact h.turn (.inl e) _ (fun q=>absurd (h.m_g e) q) rfl rfl rfl (fun _=>Qi _) World.putObj_size (fun z g=>World.putObj_heap_other g) (fun o=>h.mF _ _ _ o e)
  ⟨e,{a with state:=c,pending:=b},World.putObj_heap_same f,i,p,j,rfl,rfl,m,n,d⟩
def zipT:List Tmp->LA->LN->LN
 |p::ps,a::az,tm=>zipT ps az ((p,a)::tm)
 |_,_,tm=>tm
def Zhj{E:Env}:∀(ps:List Tmp) (az:LA) (vs:List Value) (tm:LN) (b:Array Value),VRs E az vs->(∀p∈ps,p<b.size)->(∀t,VR E (lkv tm t) (b.getD t undef))->
  ∀t,VR E (lkv (zipT ps az tm) t) (((ps.zip vs).foldl (fun a (p:Tmp×Value)=>a.setIfInBounds p.1 p.2) b).getD t undef)
 |[],az,vs,tm,b,_,_,h=>by simpa[zipT]using h
 |p::ps,[],vs,tm,b,hv,_,h=>by
  rw[hv.of_nil];simpa[zipT]using h
 |p::ps,a::az,vs,tm,b,hv,hp,h=>by
  obtain⟨v,r,rfl,f,e⟩:=hv.Yw;simp only[zipT,List.zip_cons_cons,U8];refine Zhj ps az r _ _ e (fun q d=>by simpa using hp q (Qx _ d)) ?_;intro t;simp only[lkv,QD];by_cases c:p=t
  ·subst c;have:=hp p sm;rw[if_pos rfl];simpa[this]using f
  ·rw[if_neg c,UO c];have:=h t
   rwa [QD]at this
theorem zipT_size:∀(l:List (Tmp×Value)) (b:Array Value),(l.foldl (fun a (p:Tmp×Value)=>a.setIfInBounds p.1 p.2) b).size=b.size
 |[],_=>rfl
 |p::l,b=>by rw[U8,zipT_size l];simp
def ZiA(Q:AV->Za->Prop)(x y l N fo:Nat)(tm:LN)(ps:Array Tmp)(ca cb:Code):Exit->Zc->Prop:=fun e s=>
 s.H x y=some (.lrec l N fo tm ps ca cb .busy none)/\match e with
  | .normal=>Q (.bool true) (s.H.upd x y (.lrec l N fo tm ps ca cb .ready none))
  | .ret=>Q (.bool false) (s.H.upd x y (.lrec l N fo tm ps ca cb .done (some .ret)))
  | .exit id=>Q (.bool false) (s.H.upd x y (.lrec l N fo tm ps ca cb .done (some (.exit id))))
  |_=>False
variable {Q:AV->Za->Prop} {H:Za} {args:LA}
def ZlM{m:Nat}(hH:H x y=some (.lrec l N fo tm ps ca cb .ready none))(hx:x<m)
  (ay:args.length=ps.size) (hN:∀p∈ps.toList,p<N)
  (h:∀B,AK P ⟨some l,B⟩ m N [.code ca] (fun e s=>e= .normal/\s.H x y=some (.lrec l N fo tm ps ca cb .ready none)/\
   AK P ⟨some l,B⟩ m N [.code cb] (ZiA Q x y l N fo tm ps ca cb) ⟨s.tmps,s.L,s.H.upd x y (.lrec l N fo tm ps ca cb .busy none)⟩) ⟨zipT ps.toList args tm,[],H⟩):VJ P m l args H Q:=fun E w O hr hv=>by
 have j:∀(L:List (Nat×Ze)) (H:Za),full m L H x y=H x y:=fun L H=>by simp only[full];rw[if_neg om]
 obtain⟨X,h1,h2,h3,h4,h5,h6,h7,h8,_,_⟩:=hr.VO hx hH;have D:=hv.1;have hy:=run_yield (P:=P) (args:=O.toArray) h1 (by rw[h2,<-ay,<-D];simp);refine⟨_,_,_,_,hy,fun ro n=>?_⟩;refine roundIn_of_wpIn (F:=fr ro) trivial ?_;rw[h2,h3,h4];have hz:(ps.zip O.toArray).foldl (fun tmps (p:Tmp×Value)=>tmps.setIfInBounds p.1 p.2) X.tmps=(ps.toList.zip O).foldl (fun a (p:Tmp×Value)=>a.setIfInBounds p.1 p.2) X.tmps:=by
  rw[<-Array.foldl_toList];simp
 have hs:Yd ⟨w.heap.size,[]⟩ m N ⟨zipT ps.toList args tm,[],H⟩ E {tmps:=(ps.zip O.toArray).foldl (fun tmps (p:Tmp×Value)=>tmps.setIfInBounds p.1 p.2) X.tmps,defers:=[]} w:=by
  refine⟨by rw[hz,zipT_size];exact h7,.nil _ (Qi _),fun t=>?_,hr.enter,fun l k b J i=>hr.out J i⟩;rw[hz];exact Zhj _ _ _ _ _ hv (fun p hp=>by rw[h7];exact hN p hp) h8 t
 refine ZfR (ro:=some l) (wpIn_mono (h ⟨w.heap.size,[]⟩ E w _ hs) ?_);rintro e a1 w1 ⟨K,E1,⟨rfl,G,hk⟩,f,a0⟩;have aq:full m K.L K.H x y=some (.lrec l N fo tm ps ca cb .ready none):=by rw[j];exact G
 obtain⟨A,g1,g2,g3,g4,g5,g6,g7,g8,_,g9⟩:=f.heap.VO (show x<m+1 by omega) aq;obtain⟨hh,M⟩:=g9 .busy none;have a3:({A with state:=.busy}:Loop)={A with state:=.busy,pending:=none}:=by rw[<-g6]
 refine⟨_,run_beginRound g1 g5,ZfR (ro:=some l) (wpIn_mono ?_ fun _ _ _ h=>h)⟩;rw[a3];have I:∀st pd,(Ze.lrec l N fo tm ps ca cb st pd).Below m:=fun st pd=>by
  have:=f.out x y _ hx G;exact⟨this.1,this.2⟩
 have V:Yd ⟨w.heap.size,[]⟩ m N ⟨K.tmps,K.L,K.H.upd x y (.lrec l N fo tm ps ca cb .busy none)⟩ E1 a1 (w1.putObj l (.loop {A with state:=.busy,pending:=none})):=by
  refine⟨f.size,f.defs.ext M,fun t=>(f.tmps t),?_,fun W k' b J i=>?_⟩
  ·rw[Yj m _ _ _ _ _ om];exact hh
  ·simp only[Za.upd]at i;split at i
   ·cases i;exact I _ _
   ·exact f.out W k' b J i
 refine wpIn_mono (AC.run hk V (a0.trans (M.mono (Uc m)))) ?_;rintro e a2 w2 ⟨C,E2,⟨ax,R⟩,g,S⟩;have az:full m C.L C.H x y=some (.lrec l N fo tm ps ca cb .busy none):=by rw[j];exact ax
 obtain⟨Y,f1,f2,f3,f4,f5,f6,f7,f8,_,f9⟩:=g.heap.VO (show x<m+1 by omega) az;have z:∀(c:Option Code) (st:LoopState),(if c.isNone then LoopState.ready else .done)=st->Q (.bool c.isNone) (C.H.upd x y (.lrec l N fo tm ps ca cb st c))->
   ∃v w',(Instr.endRound l c).run P w2= .ok v w'/\ ∃r v' H' U,Ending.returned v= .returned v'/\Q r H'/\VR U r v'/\Zo m H' U w'/\Ext m E w U w':=fun c st Z hQ=>by
  obtain⟨av,q⟩:=f9 st c;have u:=run_endRound (P:=P) c f1;rw[Z]at u;have au:Yd ⟨w.heap.size,[]⟩ m N ⟨C.tmps,C.L,C.H.upd x y (.lrec l N fo tm ps ca cb st c)⟩ E2 a2 (w2.putObj l (.loop {Y with state:=st,pending:=c})):=by
   refine⟨g.size,g.defs.ext q,g.tmps,?_,fun W k' b J i=>?_⟩
   ·rw[Yj m _ _ _ _ _ om];exact av
   ·simp only[Za.upd]at i;split at i
    ·cases i;exact I _ _
    ·exact g.out W k' b J i
  have d:=S.trans (q.mono (Uc m));refine⟨_,_,u,.bool c.isNone,_,_,E2.cut m,rfl,hQ,.bool _,Zo.leave au,⟨Env.Zi1 d.le,d.os,d.tape,d.output,d.drawn,d.size,d.block,fun b aw ho=>d.own b aw ?_⟩⟩;rcases ho with⟨l,k,o⟩|⟨l,k,o⟩
  ·simp only[Env.cut]at o;split at o
   ·exact .inl ⟨l,k,o⟩
   ·cases o
  ·simp only[Env.cut]at o;split at o
   ·exact .inr ⟨l,k,o⟩
   ·cases o
 cases e with
 |normal=>exact z none .ready rfl R
 |ret=>exact z (some .ret) .done rfl R
 |exit id=>exact z (some (.exit id)) .done rfl R
 |_=>exact R.elim
variable {caps:LA} {k:List Itm}
theorem Ziy{B:Base}{g:Operand}{Q:Exit->Zc->Prop}{s:Zc}{Y:FuncId}{fn:Func}(y:Nat)
  (hg:evT s.tmps g= .fn (.func Y) caps) (hf:Fun P Y fn c) (hy:lkb s.L y=none)
  (h:∀l,∃Qc,Zh P (n+1) Y ([.fn (.yield l) []]++caps) (full n (setb s.L y (.lrec l N 0 s.tmps ps ca cb .ready none)) s.H) Qc/\
   ∀r H1,Qc r H1-> ∃G M st pd,H1=full n G M/\ZL n s.H M/\lkb G y=some (.lrec l N 0 s.tmps ps ca cb st pd)/\st≠ .busy/\
    (match pd with
     |none=>AK P ⟨none,B⟩ n N k Q ⟨s.tmps,setb G y (.lrec l N 0 s.tmps ps ca cb .exhausted none),M⟩
     |some c=>AK P ⟨none,B⟩ n N (.code c::k) Q ⟨s.tmps,setb G y (.lrec l N 0 s.tmps ps ca cb .exhausted (some c)),M⟩)):
  AK P ⟨none,B⟩ n N (.code (.rangeFunc g ps ca cb)::k) Q s:=fun E w a f=>by
 refine wpIn_rangeFunc (F:=fr none) (n:=0) fun a8 _=>?_
 have O:=Zaw f.tmps g;rw[hg]at O;generalize a9:a.eval g=gy at O;cases O with|fn _ _ vs hl hvs=>
 obtain⟨d,hW0⟩:∃d,w.alloc (.deferred (some []))=d:=⟨_,rfl⟩
 have ax:d.heap.size=w.heap.size+1:=by rw[<-hW0];simp
 have q:∀b,b<w.heap.size->d.heap[b]? =w.heap[b]?:=fun b u=>by
  rw[<-hW0];simp only[World.alloc,MB];rw[if_neg om]
 have a5:d.heap[w.heap.size]? =some (.deferred (some [])):=by rw[<-hW0];exact World.alloc_heap_new w _
 obtain⟨r0,x0⟩:=f.heap.grow (w':=d) (F':=E.F) (by rw[<-hW0];rfl) (by rw[<-hW0];rfl) (by rw[<-hW0];rfl) (fun _=>by rw[<-hW0];exact Qi _) om q (fun _ _ _ h=>h)
  (fun b o v hf=>by
   have aq:=f.heap.ZbC hf;have:=f.heap.F b o v hf;simp only[World.cell?,q b aq]at this⊢;exact this) (fun _ _ _=>rfl)
 have p:full n s.L s.H n y=none:=by simp only[full,if_true];exact hy
 obtain⟨rc,hrc⟩:∃rc:Loop,rc={state:=.ready,pending:=none,fn:=a8,tmps:=a.tmps,params:=ps,assign:=ca,body:=cb,defers:=w.heap.size}:=⟨_,rfl⟩
 have az:(d.alloc (.loop rc)).heap[d.heap.size]? =some (.loop rc):=World.alloc_heap_new _ _;have C:E.le (n+1) (E.XG n y d.heap.size):=by
  refine⟨fun _ _ _ h=>h,fun l' k' b _ j=>?_,fun _ _ _ _ _ h=>h,rfl⟩;simp only[Env.XG];rw[if_neg (fun X=>by rw[X.1,X.2,(f.heap.dom n y (Qq n) p).1]at j;cases j)];exact j
 obtain⟨r1,x1⟩:=r0.Zcv (l:=n) (k:=y) (Qq n) p (.loop rc) (.lrec d.heap.size N 0 s.tmps ps ca cb .ready none) (by
  refine⟨by simp[Env.XG],rc,az,by rw[hrc],by rw[hrc],by rw[hrc],by rw[hrc],by rw[hrc],by rw[hrc];exact f.size,fun t=>?_,fun h=>absurd rfl h⟩;rw[hrc];exact(f.tmps t).mono f.heap.norm C)
 have aw:=(x0.trans x1)
 obtain⟨Qc,X,hk⟩:=h d.heap.size;rw[Zm]at X;have S:w.heap.size+1=d.heap.size:=ax.symm;refine⟨w.heap.size+1,[mark w.heap.size],d.alloc (.loop rc),{target:=.fn (.func Y) vs.toArray,args:=#[.func (.yield d.heap.size) #[] #[]]},d.alloc (.loop rc),Y,
  #[.func (.yield d.heap.size) #[] #[]]++vs.toArray,d.alloc (.loop rc),?_,?_,fun _ _=>trivial,?_,JI,JH ?_⟩
 ·rw[hrc,<-hW0];exact run_enterLoop_outer _ _ _ _ _
 ·rw[S];simp only[resolve,rangeCall,a9];simp[go_sem]
 ·simp[invoke,Y2 hf]
 have U:VRs (E.XG n y d.heap.size) ([.fn (.yield d.heap.size) []]++caps) ([.func (.yield d.heap.size) #[] #[]]++vs):=
  VRs.append (VRs.cons (VR.fn _ [] [] rfl (fun i h=>absurd h (Qj _))) (VRs.nil _)) ((show VRs E caps vs from⟨hl,hvs⟩).mono f.heap.norm C)
 have m:=X _ _ _ r1 U;rw[show([Value.func (.yield d.heap.size) #[] #[]]++vs).toArray= #[.func (.yield d.heap.size) #[] #[]]++vs.toArray by simp]at m;refine m.mono ?_;rintro e w3 ⟨r,v,H1,E3,rfl,hq,bx,a7,I⟩;obtain⟨G,M,st,pd,rfl,ho,au,a0,V⟩:=hk _ _ hq;have hG:full n G M n y=some (.lrec d.heap.size N 0 s.tmps ps ca cb st pd):=by simp only[full,if_true];exact au
 obtain⟨ay,f1,f2,f3,f4,f5,f6,f7,f8,_,f9⟩:=a7.VO (Qq n) hG;obtain⟨a4,W⟩:=f9 .exhausted pd;have A:=run_endLoop (P:=P) f1 (by rw[f5];exact a0);rw[f6]at A;rw[S];have J:=(aw.trans I).trans W;have a1:∀b,b<d.heap.size->(d.alloc (.loop rc)).heap[b]? =d.heap[b]?:=fun b u=>by
  simp only[World.alloc,MB];rw[if_neg om]
 have av:¬(E.XG n y d.heap.size).own w.heap.size:=by
  rintro(⟨l',k',j⟩|⟨l',k',j⟩)
  ·simp only[Env.XG]at j;split at j
   ·simp only[Qp]at j;omega
   ·have:=f.heap.lt _ (.inl ⟨_,_,j⟩);omega
  ·have:=f.heap.lt _ (.inr ⟨_,_,j⟩);omega
 have a3:ZcE ⟨B.lo,[]⟩ (E.XG n y d.heap.size) [mark w.heap.size] (d.alloc (.loop rc)):=by
  refine⟨?_,[w.heap.size],rfl,sm,fun D hD=>?_⟩
  ·have h0:B.lo<=w.heap.size:=f.defs.1;simp;omega
  ·have:D=w.heap.size:=by simpa using hD
   subst this;exact⟨f.defs.1,by rw[a1 _ om];exact a5,av⟩
 have K:ZcE B E3 (mark w.heap.size::a.defers) (w3.putObj d.heap.size (.loop {ay with state:=.exhausted,pending:=pd})):=by
  obtain⟨d0,l1,d1,d2,d3⟩:=(a3.ext I).ext W;obtain⟨e0,l2,e1,e2,e3⟩:=f.defs.ext J;refine⟨e0,w.heap.size::l2,by rw[e1];rfl,GN.2 ⟨fun j=>?_,e2⟩,fun D hD=>?_⟩
  ·obtain⟨_,l3,c1,c2,c3⟩:=f.defs;rw[e1,Qa0]at c1;have a6:l2=l3:=by
    have a2:∀(a b:List Nat),a.map mark=b.map mark->a=b:=by
     intro a;induction a with
     |nil=>intro b u;cases b with
      |nil=>rfl
      |cons _ _=>cases u
     |cons x a ih=>intro b u;cases b with
      |nil=>cases u
      |cons z b=>
       simp only[Qs,Ug,mark,Deferred.mk.injEq,Target.collected.injEq,and_true]at u;rw[u.1,ih b u.2]
    exact a2 _ _ c1
   have:=(QO.1 (c3 _ (a6▸j)).2.1).1;omega
  ·rcases Ql.1 hD with rfl|hD
   ·have:w.heap.size∈l1:=by
     cases l1 with
     |nil=>cases d1
     |cons z l1=>
      simp only[Qu,Qs,Ug,mark,Deferred.mk.injEq,Target.collected.injEq,and_true]at d1;rw[d1.1];simp
    exact d3 _ this
   ·exact e3 D hD
 have Z:∀R,R=pd->Yd B n N ⟨s.tmps,setb G y (.lrec d.heap.size N 0 s.tmps ps ca cb .exhausted R),M⟩ E3 {a with defers:=mark w.heap.size::a.defers} (w3.putObj d.heap.size (.loop {ay with state:=.exhausted,pending:=pd})):=fun R e=>by
  subst e;refine⟨f.size,K,fun t=>(f.tmps t).mono f.heap.norm (aw.trans I).le,?_,Yd.Wu f.out ho⟩;rw[Zm];exact a4
 refine⟨pd,_,A,?_⟩;cases pd with
 |none=>exact⟨_,E3,V,Z none rfl,J.mono (Uc n)⟩
 |some c=>exact AC.run V (Z (some c) rfl) (J.mono (Uc n))
def Ze.Zy{a:LA}(h:ZW (fun c=>Abs.Below n c) a):Ze.Below n (.box a):=⟨h.mem,by simp[Ze.at_]⟩
def Ze.ZaS(h:ZW (fun p=>Abs.Below n p.2) tm):Ze.Below n (.lrec l N fo tm ps ca cb st pd):=by
 refine⟨fun a b=>?_,by simp[Ze.at_]⟩;simp only[Ze.avs]at b;obtain⟨p,d,rfl⟩:=Qg.1 b;rcases lkv_mem (tm:=tm) (t:=p.1)with c|hm
 ·rw[c];exact .dead
 ·exact h.mem _ hm
def Zh7(T:TT){m:Nat}(c:H x y=some (.lrec l N fo tm ps ca cb .ready none))(hx:x<m)
  (a:args.length=ps.size) (b:∀p∈ps.toList,p<N)
  (h:∀B,AKc ⟨P,T,⟨some l,B⟩,m,N⟩ [.code ca] (fun e s=>e= .normal/\s.H x y=some (.lrec l N fo tm ps ca cb .ready none)/\
   AKc ⟨P,T,⟨some l,B⟩,m,N⟩ [.code cb] (ZiA Q x y l N fo tm ps ca cb) ⟨s.tmps,s.L,s.H.upd x y (.lrec l N fo tm ps ca cb .busy none)⟩) ⟨zipT ps.toList args tm,[],H⟩):VJ P m l args H Q:=
 ZlM c hx a b h
def Ze9{T:TT}{B:Base}{g:Operand}{Q:Exit->Zc->Prop}{L:List (Nat×Ze)}{e:FuncId}{fn:Func}{c':Code}(y:Nat)
  (hc:c= .rangeFunc g ps c.fst c.snd) (hg:evT tm g= .fn (.func e) caps) (hf:Fun P e fn c') (f:lkb L y=none)
  (h:∀l,∃Qc,Zh P (n+1) e ([.fn (.yield l) []]++caps) (full n (setb L y (.lrec l N 0 tm ps c.fst c.snd .ready none)) H) Qc/\
   ∀r H1,Qc r H1-> ∃b a st pd,H1=full n b a/\ZL n H a/\lkb b y=some (.lrec l N 0 tm ps c.fst c.snd st pd)/\st≠ .busy/\
    (match pd with
     |none=>AKc ⟨P,T,⟨none,B⟩,n,N⟩ k Q ⟨tm,setb b y (.lrec l N 0 tm ps c.fst c.snd .exhausted none),a⟩
     |some d=>AKc ⟨P,T,⟨none,B⟩,n,N⟩ (.code d::k) Q ⟨tm,setb b y (.lrec l N 0 tm ps c.fst c.snd .exhausted (some d)),a⟩)):
  AKc ⟨P,T,⟨none,B⟩,n,N⟩ (.code c::k) Q ⟨tm,L,H⟩:=by
 rw[hc];exact Ziy y hg hf f h
end
def Zeq(n:Nat)(H:Za):Za:=fun l k=>if l<n then H l k else none
section
variable {H:Za} {n:Nat}
def Zo.raise{E:Env}{w:World}(a:Zo n H E w)(m:Nat):Zo (n+m) (Zeq n H) E w:=by
 have e:Zo n (Zeq n H) E w:=a.congr (fun l k d=>if_pos d);refine{norm:=a.norm.mono om,F:=a.F,blk:=?_,dom:=?_,nobuf:=e.nobuf,inj:=a.inj,injg:=a.injg,mg:=a.mg,mF:=a.mF,lt:=a.lt}
 ·intro l k b d c;rcases Qd l n with h'|h'
  ·exact e.blk l k b h' c
  ·simp only[Zeq]at c;rw[if_neg om]at c;cases c
 ·intro l k d c;rcases Qd l n with h'|h'
  ·exact e.dom l k h' c
  ·exact⟨a.norm.m l k h',a.norm.g l k h',fun j=>a.norm.hist l k j h'⟩
def Zo.lower{M:Nat}{E:Env}{w:World}(h:Zo M H E w)(N:n<=M)(s:∀l k b,l<n->H l k=some b->b.Below n):Zo n H (E.cut n) w:=by
 have c:∀l k b,(E.cut n).m l k=some b->l<n/\E.m l k=some b:=fun l k b e=>by
  simp only[Env.cut]at e;split at e
  ·exact⟨‹_›,e⟩
  ·cases e
 have d:∀l k b,(E.cut n).g l k=some b->l<n/\E.g l k=some b:=fun l k b e=>by
  simp only[Env.cut]at e;split at e
  ·exact⟨‹_›,e⟩
  ·cases e
 refine{norm:=Env.Zgp n E,F:=h.F,blk:=?_,dom:=?_,nobuf:=?_,inj:=?_,injg:=?_,mg:=?_,mF:=?_,lt:=?_}
 ·intro l k b i u;have t:=s l k _ i u;refine(h.blk l k b om u).keep (by simp only[Env.cut,if_pos i]) (by simp only[Env.cut,if_pos i]) (fun j=>by simp only[Env.cut,if_pos i]) (fun p I r J=>?_) (fun _ _=>rfl) (fun _ _ _ h=>h) (fun a L v K=>K.cut (t.1 a L));simp only[Env.cut,if_pos (t.2 p I)];exact J
 ·intro l k i u;obtain⟨G,C,D⟩:=h.dom l k om u;simp only[Env.cut,if_pos i];exact⟨G,C,D⟩
 ·intro l k x;cases A:(E.cut n).g l k with
  |none=>exact absurd A x
  |some b=>
   obtain⟨i,y⟩:=d l k b A;exact h.nobuf l k (by rw[y];simp)
 ·intro l k B z b f q;exact h.inj _ _ _ _ _ (c _ _ _ f).2 (c _ _ _ q).2
 ·intro l k B z b f q;exact h.injg _ _ _ _ _ (d _ _ _ f).2 (d _ _ _ q).2
 ·intro l k B z b f q;exact h.mg _ _ _ _ _ (c _ _ _ f).2 (d _ _ _ q).2
 ·intro l k b o f;exact h.mF _ _ _ _ (c _ _ _ f).2
 ·intro b t;rcases t with⟨l,k,e⟩|⟨l,k,x⟩
  ·exact h.lt b (.inl ⟨l,k,(c _ _ _ e).2⟩)
  ·exact h.lt b (.inr ⟨l,k,(d _ _ _ x).2⟩)
variable {Q:AV->Za->Prop} {args:LA} {P:Program}
def Zh.up{f:FuncId}(m:Nat)
  (h:(∀l k b,l<n->H l k=some b->b.Below n)->Zh P (n+m) f args (Zeq n H) fun r o=>Below n r/\(∃g,Q r g/\ ∀l k,l<n->o l k=g l k)/\ ∀l k b,l<n->o l k=some b->b.Below n):Zh P n f args H Q:=fun E w y s C=>by
 refine(h (fun l k b p i=>s.out p i) E w y (s.raise m) C).mono ?_;rintro e D ⟨r,v,o,x,rfl,⟨i,⟨g,u,j⟩,d⟩,z,t,B⟩;refine⟨r,v,g,x.cut n,rfl,u,z.cut i,?_,?_⟩
 ·exact(t.lower (GU n m) d).congr (fun l k p=>(j l k p).symm)
 ·have a:=B.mono (GU n m);refine⟨Env.Zi1 a.le,a.os,a.tape,a.output,a.drawn,a.size,a.block,fun b q A=>a.own b q ?_⟩;rcases A with⟨l,k,c⟩|⟨l,k,c⟩
  ·simp only[Env.cut]at c;split at c
   ·exact .inl ⟨l,k,c⟩
   ·cases c
  ·simp only[Env.cut]at c;split at c
   ·exact .inr ⟨l,k,c⟩
   ·cases c
def PC.up{P:Program}{n:Nat}{f:FuncId}{args:LA}{H:Za}{r:AV}(m:Nat)(a:Below n r)(h:Zh P (n+m) f args (Zeq n H) fun c d=>c=r/\ ∀l k,l<n->d l k=H l k):PC P n f args H r:=
 Zh.up m fun i=>h.mono fun c d ⟨e,hag⟩=>⟨e▸a,⟨H,⟨e,rfl⟩,hag⟩,fun l k b g a=>i l k b g (by rw[<-hag l k g];exact a)⟩
def Zh.wk{f:FuncId}{args':LA}(h:Zh P n f args' H Q)(hw:Wks args args'):Zh P n f args H Q:=
 fun E w vs hr hv=>h E w vs hr (forall₂_vr hw hv)
def Pure.wk{P:Program}{f:FuncId}{args args':LA}{r:AV}(h:Pure P f args' r)(hw:Wks args args'):Pure P f args r:=fun n H=>Zh.wk (h n H) hw
def Zq{T:TT}{t:Nat}{v:AV}{s:Zc}(hv:Wk (lkv s.tmps t) v)(hb:Below n v)(a:Q v s.H):PostF P T n [.tmp t] Q .ret s:=
 ⟨by simp[Y7],[v],⟨hv,trivial⟩,by simpa using hb,a⟩
end
open Go.RowKit Go.WideShapes Go.ChangeShapes
def XT(r:Zp)(cs:LA):AV:=if r.isAgg then .agg cs else cs.getD 0 .dead
def ZgQ(T:TT):Nat->TypeId->Option TD
 |0,_=>none
 |f+1,t=>match T t with
  |some r=>match r.td with
   | .struct (x::_)=>ZgQ T f x.2
   | .struct []=>none
   | .array _ _=>none
   |d=>some d
  |none=>none
def goodLead:Option TD->Bool
 |some (.int .i64)=>false
 |some (.int .u64)=>false
 |some _=>true
 |none=>false
def ZbK(T:TT):Nat->List (Nat×TypeId)->Option Nat
 |o,[]=>some o
 |o,x::r=>if x.1=o then(match T x.2 with|some rf=>ZbK T (o+rf.size) r|none=>none)else none
def ZmA(T:TT)(S:List TypeId):Bool:=S.all fun t=>match T t with
 |some r=>match r.td with
  | .int _=>true
  | .bool=>true
  | .str=>true
  | .slice e=>S.contains e&&goodLead (ZgQ T 10 e)&&(match T e with|some re=>decide (0<re.size)|none=>false)
  | .struct fs=>fs.all (fun f=>S.contains f.2)&&(ZbK T 0 fs==some r.size)
  |_=>false
 |none=>false
inductive Xy (T:TT):TypeId->LA->Prop
 |int {t:TypeId} {r:Zp} {k:IntKind} {n:Int} (h:T t=some r) (hd:r.td= .int k) (hw:(Lit.int k n).wf=true):Xy T t [.int k n]
 |bool {t:TypeId} {r:Zp} {b:Bool} (h:T t=some r) (hd:r.td= .bool):Xy T t [.bool b]
 |str {t:TypeId} {r:Zp} {s:Bs} (h:T t=some r) (hd:r.td= .str) (hl:s.length<=reachBytes):Xy T t [.str s]
 |slice {t e:TypeId} {r re:Zp} (xs:List LA) (h:T t=some r) (hd:r.td= .slice e) (he:T e=some re) (hx:∀x∈xs,Xy T e x) (hl:xs.length*re.bytes<=reachBytes):Xy T t [.sl re.size (xs.map (XT re)) .any]
 |struct {t:TypeId} {r:Zp} {fs:List (Nat×TypeId)} (h:T t=some r) (hd:r.td= .struct fs) (ps:List LA) (hl:ps.length=fs.length) (hf:∀i (h:i<ps.length) (h':i<fs.length),Xy T fs[i].2 ps[i]):Xy T t ps.flatten
section
variable {az:LA} {t:TypeId} {T:TT}
def Xy.lead(h:Xy T t az):∀f,goodLead (ZgQ T f t)=true-> ∃a r,az=a::r/\(∀n,a≠ .int .i64 n)/\(∀n,a≠ .int .u64 n)/\a≠ .dead:=by
 induction h with
 | @int t r k n h hd hw=>
  intro f b;cases f with
  |zero=>simp[ZgQ,goodLead]at b
  |succ f=>
   simp only[ZgQ,h,hd]at b;refine⟨_,_,rfl,fun m e=>?_,fun m e=>?_,fun e=>by cases e⟩<;>(cases e;simp[goodLead]at b)
 |bool h hd=>exact fun f b=>⟨_,_,rfl,fun _ e=>(by cases e),fun _ e=>(by cases e),fun e=>(by cases e)⟩
 |str h hd hl=>exact fun f b=>⟨_,_,rfl,fun _ e=>(by cases e),fun _ e=>(by cases e),fun e=>(by cases e)⟩
 |slice xs h hd he hx hl=>exact fun f b=>⟨_,_,rfl,fun _ e=>(by cases e),fun _ e=>(by cases e),fun e=>(by cases e)⟩
 | @struct t r fs h hd ps hl hf ih=>
  intro f b;cases f with
  |zero=>simp[ZgQ,goodLead]at b
  |succ f=>
   simp only[ZgQ,h,hd]at b;cases fs with
   |nil=>simp[goodLead]at b
   |cons x fs=>
    simp only at b;obtain⟨a,q,c,g,d⟩:=ih 0 (by rw[hl];simp) sm f b;cases ps with
    |nil=>simp at hl
    |cons p ps=>
     simp only[Ui]at c;exact⟨a,q++ps.flatten,by rw[List.flatten_cons,c];rfl,g,d⟩
variable {cs:LA}
def Zlv{r:Zp}(b:r.isAgg=false-> ∃a,cs=[a]/\a.cells=[a]):(XT r cs).cells=cs:=by
 cases c:r.isAgg with
 |true=>simp only[XT,c,if_true];rfl
 |false=>
  obtain⟨a,rfl,h⟩:=b c;simp only[XT,c];exact h
def Xy.one{r:Zp}(h:Xy T t az)(c:T t=some r)(b:r.isAgg=false):∃a,az=[a]/\a.cells=[a]:=by
 cases h with
 |int h hd hw=>exact⟨_,rfl,rfl⟩
 |bool h hd=>exact⟨_,rfl,rfl⟩
 |str h hd hl=>exact⟨_,rfl,rfl⟩
 |slice xs h hd he hx hl=>exact⟨_,rfl,rfl⟩
 |struct h hd ps hl hf=>
  rw[c]at h;cases h;simp[Zp.isAgg,hd]at b
def ZhM{w:World}{a:Addr}{n:Nat}{cs:List Value}(h:w.cells? 0 a n=some cs):cs.length=n/\ ∀i (c:i<cs.length),w.cell? (a.add i)=some cs[i]:=by
 unfold World.cells? at h;rw[if_pos (Us _)]at h;have d:cs.length=n:=by have:=mapM_some_length h;simpa using this
 refine⟨d,fun i c=>?_⟩;have b:(List.range n)[i]? =some i:=by rw[List.getElem?_range om]
 have:=mapM_some_get h i i b;rw[this,Qe c]
section
variable {P:Program} {T:TT} {H:Type} {enc:TypeId×Value->H} {W:World} {E:Env} {X:Nat->Prop}
def Zgn{T:TT}:∀{a:List (Nat×TypeId)} {o m:Nat},ZbK T o a=some m->o<=m
 |[],o,m,h=>by simp[ZbK]at h;omega
 |x::a,o,m,h=>by
  simp only[ZbK]at h;split at h
  ·split at h
   ·have:=Zgn h;omega
   ·cases h
  ·cases h
def Zsm(hT:TOK P T)(S:List TypeId)(hS:ZmA T S=true)(hF:∀b o v,¬X b->W.cell? ⟨b,o,none⟩=some v->E.F b o=some v)
  (hX:∀b o v,X b->W.cell? ⟨b,o,none⟩=some v->(∃n,v= .int .i64 n)\/ ∃n,v= .int .u64 n):
  ∀(p:Nat) (t:TypeId) (cs:List Value) (x:DataW H×List MemPlace),t∈S->DataW.trod enc P W 0 (fun _=>true) true p t cs=some x->(∀n∈x.1.weights P t,n<=reachBytes)->
   ∃az,Xy T t az/\VRs E az cs:=by
 intro p;induction p with
 |zero=>intro t cs x _ h;simp[DataW.trod]at h
 |succ p ih=>
  intro t cs x ht h hw;have w:=(Qw.1 hS) t ht;cases U:T t with
  |none=>rw[U]at w;cases w
  |some r=>
  rw[U]at w;obtain⟨d,i,z,G⟩:=Zd (hT t r U);cases hd:r.td with
  |int k=>
   have C:d= .int k:=by have:=G.fits;rw[hd]at this;cases d<;>simp[TD.fits]at this;subst this;rfl
   subst C;obtain⟨n,rfl,rfl,b5⟩:=DataW.trod_int G.und h;exact⟨_,.int U hd b5,VRs.cons (.int _ _) (VRs.nil E)⟩
  |bool=>
   have C:d= .bool:=by have:=G.fits;rw[hd]at this;cases d<;>simp[TD.fits]at this;rfl
   subst C;obtain⟨b,rfl,rfl⟩:=DataW.trod_bool G.und h;exact⟨_,.bool U hd,VRs.cons (.bool _) (VRs.nil E)⟩
  |str=>
   have C:d= .string:=by have:=G.fits;rw[hd]at this;cases d<;>simp[TD.fits]at this;rfl
   subst C;obtain⟨s,rfl,rfl,hs⟩:=DataW.trod_string G.und h;refine⟨[.str s.data.toList],.str U hd (hw _ (by simp[DataW.weights])),VRs.cons ?_ (VRs.nil E)⟩;have:s=⟨s.data.toList.toArray⟩:=sm
   conv=>rhs;rw[this]
   exact .str _
  |slice e=>
   simp only[hd,Qb]at w;obtain⟨⟨he,a5⟩,Y⟩:=w;have b3:e∈S:=by simpa using he
   cases A:T e with
   |none=>rw[A]at Y;cases Y
   |some re=>
   rw[A]at Y;have c0:0<re.size:=by simpa using Y
   obtain⟨d',i',z',B⟩:=Zd (hT e re A);have C:d= .slice e:=ZE (hd▸G.fits);subst C;have aw:P.cellsOf e=re.size:=by simp[Program.cellsOf,B.info,B.size]
   have cu:P.bytesOf e=re.bytes:=by simp[Program.bytesOf,B.info,B.bytes]
   rcases DataW.trod_slice G.und h with⟨rfl,rfl⟩|⟨a,c,bx,M,av,m,hm,rfl,rfl,_,a8,b4,b7,a6,O,_⟩
   ·exact⟨_,.slice [] U hd A sm sm,VRs.cons (.slnil _ _ none trivial (fun _=>rfl)) (VRs.nil E)⟩
   ·have aq:m=p:=om;subst aq;have cw:∀n∈DataW.weightsAll P e (M.map (·.1)),n<=reachBytes:=fun n K=>hw n (by simp only[DataW.weights,G.und];simp[K])
    have b9:c*re.bytes<=reachBytes:=by
     have:=hw ((M.length+av.length)*P.bytesOf e) (by simp[DataW.weights,G.und]);rw[cu,b7]at this;exact UA (QF _ (GU _ _)) this
    have a4:∀(l:List (DataW H)),(∀n∈DataW.weightsAll P e l,n<=reachBytes)-> ∀d∈l,∀n∈d.weights P e,n<=reachBytes:=by
     intro l;induction l with
     |nil=>intro _ d hd;cases hd
     |cons y l ih2=>
      intro hl d hd n K;simp only[DataW.weightsAll,Qr]at hl;rcases Ql.1 hd with rfl|hd
      ·exact hl n (.inl K)
      ·exact ih2 (fun n K=>hl n (.inr K)) d hd n K
    have ax:∀i (f:i<c),∃az V,Xy T e az/\VRs E az V/\V.length=re.size/\ ∀j (Z:j<V.length),W.cell? ((a.add (i*re.size)).add j)=some V[j]:=fun i f=>by
     have h1:=a6 i f;rw[Qe om,aw]at h1;obtain⟨V,a3,b6⟩:=U2.1 h1;obtain⟨az,bw,cv⟩:=ih e V _ b3 b6 (a4 _ cw _ (Qg.2 ⟨_,Qa om,rfl⟩));obtain⟨c1,c2⟩:=ZhM a3;exact⟨az,V,bw,cv,c1,c2⟩
    rcases MW bx with hc0|hc0
    ·subst hc0;have:c=0:=om;subst this;exact⟨_,.slice [] U hd A sm sm,VRs.cons (.slnil _ _ (some a) trivial (fun h=>absurd rfl h)) (VRs.nil E)⟩
    ·have N:a.spot=none:=by
      rcases MW c with hl0|hl0
      ·have c4:=(O rfl).1;have h1:=(O rfl).2 0 om;have bq:0<av.length:=om;rw[aw,hl0]at h1;rw[Qe bq]at h1;obtain⟨V,a3,_⟩:=U2.1 h1;obtain⟨c1,c2⟩:=ZhM a3;have:=c2 0 om;simp only[Qy,Gp,Addr.add,if_true]at this;exact World.cell?_spot this
      ·obtain⟨az,V,_,_,c1,c2⟩:=ax 0 hl0;have:=c2 0 om;simp only[Gp,Addr.add,if_true]at this;exact World.cell?_spot this
     obtain⟨b,ay,sp⟩:=a;simp only at N;subst N;obtain⟨fa,hfa⟩:∃fa:Nat->LA×List Value,∀i,i<c->Xy T e (fa i).1/\VRs E (fa i).1 (fa i).2/\(fa i).2.length=re.size/\ ∀j (Z:j<(fa i).2.length),W.cell? ⟨b,ay+(i*re.size+j),none⟩=some (fa i).2[j]:=by
      refine⟨fun i=>if f:i<c then((ax i f).choose,(ax i f).choose_spec.choose)else([],[]),fun i f=>?_⟩;obtain⟨q1,q2,q3,q4⟩:=(ax i f).choose_spec.choose_spec;simp only[dif_pos f];refine⟨q1,q2,q3,fun j Z=>?_⟩;have:=q4 j Z;have e1:((⟨b,ay,none⟩:Addr).add (i*re.size)).add j=⟨b,ay+(i*re.size+j),none⟩:=by rw[add_plain,add_plain,MS]
      exact(congrArg W.cell? e1).symm.trans this
     have b0:0<c-> ¬X b:=fun hl0 cx=>by
      obtain⟨q1,q2,q3,q4⟩:=hfa 0 hl0;obtain⟨a0,r0,e1,e2,e3⟩:=q1.lead 10 a5;have Z:0<(fa 0).2.length:=om;have hv:=q2.2 0 (by rw[e1];simp) Z;have I:=hX b _ _ cx (q4 0 Z);simp only[e1,Ui]at hv;rcases I with⟨n,I⟩|⟨n,I⟩<;>rw[I]at hv
      ·cases hv with
       |int=>exact e2 _ rfl
       |dead=>exact e3.2 rfl
      ·cases hv with
       |int=>exact e3.1 _ rfl
       |dead=>exact e3.2 rfl
     refine⟨[.sl re.size (((List.range c).map fun i=>(fa i).1).map (XT re)) .any],.slice _ U hd A (fun x I=>?_) (by simpa using b9),VRs.cons ?_ (VRs.nil E)⟩
     ·simp only[Qg,Gm]at I;obtain⟨i,f,rfl⟩:=I;exact(hfa i f).1
     ·have D:(((List.range c).map fun i=>(fa i).1).map (XT re)).length=c:=sm;have b8:∀i,i<c->(XT re (fa i).1).cells=(fa i).1:=fun i f=>Zlv (fun ha=>(hfa i f).1.one A ha)
      have au:∀i (f:i<(((List.range c).map fun i=>(fa i).1).map (XT re)).length),(((List.range c).map fun i=>(fa i).1).map (XT re))[i].cells=(fa i).1:=fun i f=>by
       have u:i<c:=by rw[D]at f;exact f
       simp only[QZ,MK];exact b8 i u
      have hv:=VR.sl (E:=E) re.size (((List.range c).map fun i=>(fa i).1).map (XT re)) .any b ay bx (fun i j=>(fa i).2.getD j undef) (fun i f=>by
        have u:i<c:=by rw[D]at f;exact f
        rw[au i f,<-(hfa i u).2.1.1];exact(hfa i u).2.2.1)
       (fun i j f Z=>by
        have u:i<c:=by rw[D]at f;exact f
        obtain⟨_,_,q3,q4⟩:=hfa i u;have R:j<(fa i).2.length:=om;rw[Qk,Qe R,Ul];exact hF _ _ _ (b0 om) (q4 j R))
       (fun i f j Z=>by
        have u:i<c:=by rw[D]at f;exact f
        obtain⟨_,q2,q3,_⟩:=hfa i u;have bz:j<(fa i).1.length:=by rw[<-au i f];exact Z
        have R:j<(fa i).2.length:=by rw[q2.1];exact bz
        rw[Qk,Qe R,Ul];have:=q2.2 j bz R;simp only[au i f];exact this)
       (by rw[D];exact a8) (by rw[D];exact UA a8 b4) trivial
      rw[D]at hv;exact hv
  |struct fs=>
   simp only[hd,Qb,beq_iff_eq,Qw]at w;obtain⟨a7,b1⟩:=w;obtain⟨gs,rfl,hgs⟩:∃gs:Array Field,d= .struct gs/\gs.toList.map (fun g=>(g.offset,g.type))=fs:=by
    have:=G.fits;rw[hd]at this;cases d<;>simp only[TD.fits,QE]at this;simp only[Qb,beq_iff_eq]at this;exact⟨_,rfl,this.1⟩
   obtain⟨xs,m,hm,rfl,cq,c3,a6⟩:=DataW.trod_struct G.und h;have aq:m=p:=om;subst aq;have cy:P.cellsOf t=r.size:=by simp[Program.cellsOf,G.info,G.size]
   have a4:∀(ts:List TypeId) (l:List (DataW H)),(∀n∈DataW.weightsEach P ts l,n<=reachBytes)-> ∀i (h:i<ts.length) (h':i<l.length),∀n∈l[i].weights P ts[i],n<=reachBytes:=by
    intro ts;induction ts with
    |nil=>intro l _ i h;exact absurd h (Qj _)
    |cons t ts ih2=>
     intro l hl i h h' n K;cases l with
     |nil=>exact absurd h' (Qj _)
     |cons y l=>
      simp only[DataW.weightsEach,Qr]at hl;cases i with
      |zero=>exact hl n (.inl K)
      |succ i=>exact ih2 l (fun n K=>hl n (.inr K)) i (by simpa using h) (by simpa using h') n K
   have a9:∀n∈DataW.weightsEach P (gs.toList.map (·.type)) (xs.map (·.1)),n<=reachBytes:=fun n K=>hw n (by simp only[DataW.weights,G.und];exact K)
   have cz:∀(q:List (Nat×TypeId)) (o m':Nat),ZbK T o q=some m'->(∀x∈q,∀J,T x.2=some J-> ∃az,Xy T x.2 az/\VRs E az ((cs.drop x.1).take J.size))->
     ∃ps:List LA,ps.length=q.length/\(∀i (h:i<ps.length) (h':i<q.length),Xy T q[i].2 ps[i])/\VRs E ps.flatten ((cs.drop o).take (m' - o)):=by
    intro q;induction q with
    |nil=>
     intro o m' L _;simp only[ZbK,Qp]at L;subst L;exact⟨[],rfl,fun i h=>absurd h (Qj _),by simpa using VRs.nil E⟩
    |cons x q ih2=>
     intro o m' L I;simp only[ZbK]at L;split at L
     ·rename_i b2;cases Q:T x.2 with
      |none=>rw[Q]at L;cases L
      |some J=>
       rw[Q]at L;simp only at L;obtain⟨az,a1,a2⟩:=I x sm J Q;obtain⟨ps,p1,p2,p3⟩:=ih2 (o+J.size) m' L (fun y hy=>I y (by simp[hy]));have c5:=Zgn L;refine⟨az::ps,by simp[p1],fun i h h'=>?_,?_⟩
       ·cases i with
        |zero=>exact a1
        |succ i=>exact p2 i (by simpa using h) (by simpa using h')
       ·rw[List.flatten_cons];have e:(cs.drop o).take (m' - o)=(cs.drop x.1).take J.size++(cs.drop (o+J.size)).take (m' - (o+J.size)):=by
         rw[b2,show m' - o=J.size+(m' - (o+J.size)) by omega,List.take_add,UN]
        rw[e];exact a2.append p3
     ·cases L
   obtain⟨ps,p1,p2,p3⟩:=cz fs 0 r.size b1 (fun x I J Q=>by
    rw[<-hgs,Qg]at I;obtain⟨g,hg,rfl⟩:=I;obtain⟨i,f,rfl⟩:=QK hg;obtain⟨d',i',z',B⟩:=Zd (hT _ J Q);have aw:P.cellsOf (gs.toList[i]).type=J.size:=by simp only[Program.cellsOf,B.info,Ut,Ul,B.size]
    have bu:i<gs.size:=by simpa using f
    have h1:=a6 i gs.toList[i] (by simp[bu]);rw[aw,Qe om]at h1;have bv:gs.toList[i].type∈S:=by
     have:=a7 (gs.toList[i].offset,gs.toList[i].type) (by rw[<-hgs];exact Qg.2 ⟨_,hg,rfl⟩);simpa using this
    refine ih _ _ _ bv h1 ?_;have:=a4 _ _ a9 i (by simpa using f) (by simp;omega);simpa using this)
   rw[Qab,MV,Ud (by rw[cq,cy];exact Qi _)]at p3;exact⟨_,.struct U hd ps p1 p2,p3⟩
  |_=>simp[hd]at w
end
section
variable {T:TT} {t:TypeId} {cs:LA} {r:Zp}
def Xy.WA{k:IntKind}(h:Xy T t cs)(b:T t=some r)(a:r.td= .int k):∃n,cs=[.int k n]/\(Lit.int k n).wf=true:=by
 cases h with
 |int h hd' hw=>rw[b]at h;cases h;rw[a]at hd';cases hd';exact⟨_,rfl,hw⟩
 |bool h hd'=>rw[b]at h;cases h;rw[a]at hd';cases hd'
 |str h hd'=>rw[b]at h;cases h;rw[a]at hd';cases hd'
 |slice _ h hd'=>rw[b]at h;cases h;rw[a]at hd';cases hd'
 |struct h hd'=>rw[b]at h;cases h;rw[a]at hd';cases hd'
def Xy.Zgi(h:Xy T t cs)(c:T t=some r)(a:r.td= .bool):∃b,cs=[.bool b]:=by
 cases h with
 |int h hd' hw=>rw[c]at h;cases h;rw[a]at hd';cases hd'
 |bool h hd'=>exact⟨_,rfl⟩
 |str h hd'=>rw[c]at h;cases h;rw[a]at hd';cases hd'
 |slice _ h hd'=>rw[c]at h;cases h;rw[a]at hd';cases hd'
 |struct h hd'=>rw[c]at h;cases h;rw[a]at hd';cases hd'
def Xy.Zju(h:Xy T t cs)(b:T t=some r)(a:r.td= .str):∃s,cs=[.str s]/\s.length<=reachBytes:=by
 cases h with
 |int h hd' hw=>rw[b]at h;cases h;rw[a]at hd';cases hd'
 |bool h hd'=>rw[b]at h;cases h;rw[a]at hd';cases hd'
 |str h hd' hl=>exact⟨_,rfl,hl⟩
 |slice _ h hd'=>rw[b]at h;cases h;rw[a]at hd';cases hd'
 |struct h hd'=>rw[b]at h;cases h;rw[a]at hd';cases hd'
def Xy.Zo7{e:TypeId}{c:Zp}(h:Xy T t cs)(b:T t=some r)(a:r.td= .slice e)(d:T e=some c):∃xs:List LA,cs=[.sl c.size (xs.map (XT c)) .any]/\(∀x∈xs,Xy T e x)/\xs.length*c.bytes<=reachBytes:=by
 cases h with
 |int h hd' hw=>rw[b]at h;cases h;rw[a]at hd';cases hd'
 |bool h hd'=>rw[b]at h;cases h;rw[a]at hd';cases hd'
 |str h hd' hl=>rw[b]at h;cases h;rw[a]at hd';cases hd'
 |slice xs h hd' he' hx hl=>rw[b]at h;cases h;rw[a]at hd';cases hd';rw[d]at he';cases he';exact⟨xs,rfl,hx,hl⟩
 |struct h hd'=>rw[b]at h;cases h;rw[a]at hd';cases hd'
def Xy.JY{c:List (Nat×TypeId)}(h:Xy T t cs)(b:T t=some r)(a:r.td= .struct c):∃ps:List LA,cs=ps.flatten/\ps.length=c.length/\ ∀i (h:i<ps.length) (d:i<c.length),Xy T c[i].2 ps[i]:=by
 cases h with
 |int h hd' hw=>rw[b]at h;cases h;rw[a]at hd';cases hd'
 |bool h hd'=>rw[b]at h;cases h;rw[a]at hd';cases hd'
 |str h hd' hl=>rw[b]at h;cases h;rw[a]at hd';cases hd'
 |slice xs h hd' he' hx hl=>rw[b]at h;cases h;rw[a]at hd';cases hd'
 |struct h hd' ps hl hf=>rw[b]at h;cases h;rw[a]at hd';cases hd';exact⟨ps,rfl,hl,hf⟩
end
def Xy.row(h:Xy T t cs):∃r,T t=some r/\((∃k,r.td= .int k)\/r.td= .bool\/r.td= .str\/(∃e,r.td= .slice e)\/ ∃a,r.td= .struct a):=by
 cases h with
 |int h hd hw=>exact⟨_,h,.inl ⟨_,hd⟩⟩
 |bool h hd=>exact⟨_,h,.inr (.inl hd)⟩
 |str h hd hl=>exact⟨_,h,.inr (.inr (.inl hd))⟩
 |slice xs h hd he hx hl=>exact⟨_,h,.inr (.inr (.inr (.inl ⟨_,hd⟩)))⟩
 |struct h hd ps hl hf=>exact⟨_,h,.inr (.inr (.inr (.inr ⟨_,hd⟩)))⟩
def ZjI(T:TT):List TypeId->List LA->Prop
 |[],[]=>True
 |t::ts,c::cs=>Xy T t c/\ZjI T ts cs
 |_,_=>False
def Zlw(T:TT)(t:TypeId)(cs:LA):AV:=match T t with
 |some r=>XT r cs
 |none=>.dead
def wraps(T:TT):List TypeId->List LA->LA
 |t::ts,c::cs=>Zlw T t c::wraps T ts cs
 |_,_=>[]
def Jk{v:Value}{E:Env}{a:AV}(h:VRs E [a] v.cells.toList)(b:∀cs,v≠ .agg cs):VR E a v:=by
 have:v.cells= #[v]:=by cases v<;>first|rfl|(exact absurd rfl (b _))
 rw[this]at h;exact h.2 0 sm sm
def Zs7{P:Program}{W:World}{E:Env}{q:Nat}{v:Value}(u:TOK P T)(p:Xy T t cs)(l:VRs E cs v.cells.toList)(g:Value.okWide P W .any q t v):VR E (Zlw T t cs) v:=by
 obtain⟨r,o,j⟩:=p.row;obtain⟨d,i,z,b⟩:=Zd (u t r o);have s:Zlw T t cs=XT r cs:=by unfold Zlw;rw[o]
 rw[s];rcases j with⟨k,hd⟩|hd|hd|⟨e,hd⟩|⟨A,hd⟩
 ·have f:d= .int k:=by have:=b.fits;rw[hd]at this;cases d<;>simp[TD.fits]at this;subst this;rfl
  subst f;obtain⟨n,rfl,_⟩:=p.WA o hd;obtain⟨m,rfl⟩:=okWide_int b.und g;have:XT r [.int k n]= .int k n:=by simp[XT,Zp.isAgg,hd]
  rw[this];exact Jk l (fun _ h=>by cases h)
 ·have f:d= .bool:=by have:=b.fits;rw[hd]at this;cases d<;>simp[TD.fits]at this;rfl
  subst f;obtain⟨n,rfl⟩:=p.Zgi o hd;obtain⟨m,rfl⟩:=okWide_bool b.und g;have:XT r [.bool n]= .bool n:=by simp[XT,Zp.isAgg,hd]
  rw[this];exact Jk l (fun _ h=>by cases h)
 ·have f:d= .string:=by have:=b.fits;rw[hd]at this;cases d<;>simp[TD.fits]at this;rfl
  subst f;obtain⟨n,rfl,_⟩:=p.Zju o hd;obtain⟨m,rfl⟩:=okWide_string b.und g;have:XT r [.str n]= .str n:=by simp[XT,Zp.isAgg,hd]
  rw[this];exact Jk l (fun _ h=>by cases h)
 ·have f:d= .slice e:=ZE (hd▸b.fits);subst f;obtain⟨c,rfl,_⟩:=p.one o (by simp[Zp.isAgg,hd]);obtain⟨a,x,w,rfl⟩:=okWide_slice b.und g;have:XT r [c]=c:=by simp[XT,Zp.isAgg,hd]
  rw[this];exact Jk l (fun _ h=>by cases h)
 ·obtain⟨gs,rfl⟩:∃gs:Array Field,d= .struct gs:=by
   have:=b.fits;rw[hd]at this;cases d<;>simp only[TD.fits,QE]at this;exact⟨_,rfl⟩
  obtain⟨y,rfl,_⟩:=okWide_struct b.und g;have:XT r cs= .agg cs:=by simp[XT,Zp.isAgg,hd]
  rw[this];have h:=VR.agg (E:=E) cs y.toList l.1 l.2;simpa using h
def Zm7{P:Program}{T:TT}{H:Type}{enc:TypeId×Value->H}{W:World}{E:Env}{X:Nat->Prop}{f:Nat}(g:TOK P T)(S:List TypeId)(m:ZmA T S=true)(x:∀b o v,¬X b->W.cell? ⟨b,o,none⟩=some v->E.F b o=some v)
  (r:∀b o v,X b->W.cell? ⟨b,o,none⟩=some v->(∃n,v= .int .i64 n)\/ ∃n,v= .int .u64 n):∀(a:List TypeId) (vs:List Value) (ds:List (DataW H)) (ps:List MemPlace),
   DataW.TrodAll enc P W 0 (fun _=>true) true a vs ds ps->(∀t∈a,t∈S)->(∀(j:Nat) t v,a[j]? =some t->vs[j]? =some v->Value.okWide P W .any f t v)->(∀n∈DataW.weightsEach P a ds,n<=reachBytes)->
   ∃cs,ZjI T a cs/\VRs E (wraps T a cs) vs
 |[],vs,ds,ps,h,_,_,_=>by
  obtain⟨rfl,rfl,rfl⟩:=trodAll_nil h;exact⟨[],trivial,VRs.nil E⟩
 |t::a,vs,ds,ps,h,hts,hok,hw=>by
  obtain⟨v,l,d,k,p,q,rfl,rfl,rfl,B,A⟩:=trodAll_cons h;obtain⟨e,hf⟩:=B;simp only[DataW.weightsEach,Qr]at hw;obtain⟨c,s,y⟩:=Zsm g S m x r e t v.cells.toList (d,p) (hts t sm) hf (fun n hn=>hw n (.inl hn));obtain⟨cs,d1,z⟩:=Zm7 g S m x r a l k q A (fun u i=>hts u (by simp[i])) (fun j u w i hv=>hok (j+1) u w (by simpa using i) (by simpa using hv)) (fun n hn=>hw n (.inr hn));exact⟨c::cs,⟨s,d1⟩,VRs.cons (Zs7 g s y (hok 0 t v rfl rfl)) z⟩
end
def ch(t:TypeId):List PanicEntry:=[{v:=.iface t (.agg #[]),recovered:=false}]
def Zf1(t n:Nat)(E:Env)(w:World)(Q:AV->Za->Prop)(X:Za->Prop)(e:Ending)(w':World):Prop:=
 (∃r v a E',e= .returned v/\Q r a/\VR E' r v/\Zo n a E' w'/\Ext n E w E' w')\/
 (∃a E',e= .panicked (ch t)/\X a/\Zo n a E' w'/\Ext n E w E' w')
def ZY(P:Program)(t n:Nat)(f:FuncId)(args:LA)(H:Za)(Q:AV->Za->Prop)(X:Za->Prop):Prop:=
 ∀E w a,Zo n H E w->VRs E args a->Calls P f a.toArray w (Zf1 t n E w Q X)
def Zdr(P:Program)(t m l:Nat)(args:LA)(H:Za)(Q:AV->Za->Prop)(X:Za->Prop):Prop:=
 ∀E w c,Zo m H E w->VRs E args c-> ∃fn a d b,(Instr.yield l c.toArray).run P w= .ok (.round l fn a d b) w/\
  ∀e n,RoundIn (fr e) n P l fn a d b w (Zf1 t m E w Q X)
section
variable {w' w:World} {X:Za->Prop} {Q:AV->Za->Prop} {E:Env} {t n:Nat}
def Zf1.mono{f:AV->Za->Prop}{g:Za->Prop}(i:∀r a,Q r a->f r a)(j:∀a,X a->g a){e:Ending}(h:Zf1 t n E w Q X e w'):Zf1 t n E w f g e w':=by
 rcases h with⟨r,v,a,E',c,b,d⟩|⟨a,E',c,b,d⟩
 ·exact .inl ⟨r,v,a,E',c,i _ _ b,d⟩
 ·exact .inr ⟨a,E',c,j _ b,d⟩
def ZY.mono{P:Program}{t n:Nat}{f:FuncId}{args:LA}{H:Za}{Q b:AV->Za->Prop}{X c:Za->Prop}(h:ZY P t n f args H Q X)(e:∀r a,Q r a->b r a)(k:∀a,X a->c a):ZY P t n f args H b c:=
 fun E w d j g=>(h E w d j g).mono fun _ _ i=>Zf1.mono e k i
variable {H:Za} {args:LA} {f:FuncId} {P:Program}
def Zh.x(h:Zh P n f args H Q):ZY P t n f args H Q X:=
 fun E w d b a=>(h E w d b a).mono fun _ _ c=>.inl c
def ZY.ret(h:ZY P t n f args H Q X)(i:∀b,¬X b):Zh P n f args H Q:=
 fun E w c g d=>(h E w c g d).mono fun _ _ a=>by
  rcases a with a|⟨b,E',_,e,_⟩
  ·exact a
  ·exact absurd e (i _)
def ZY.wk{args':LA}(h:ZY P t n f args' H Q X)(hw:Wks args args'):ZY P t n f args H Q X:=
 fun E w vs hr hv=>h E w vs hr (forall₂_vr hw hv)
def Zeg(P:Program)(T:TT)(t n:Nat)(a:List ResultVar)(Q:AV->Za->Prop)(X:Za->Prop):Exit->Zc->Prop:=fun e s=>match e with
 | .panic c=>c=ch t/\X s.H
 |e=>PostF P T n a Q e s
variable {E':Env}
def Zcl{e:World}(d:Ext n E w E' w')(g:∀b,b<w.heap.size->e.heap[b]? =w'.heap[b]?)(i:e.os=w'.os)(o:e.tape=w'.tape)(m:e.output=w'.output)(j:e.drawn=w'.drawn)(p:e.heap.size=w'.heap.size):Ext n E w (E'.cut n) e:=by
 refine⟨Env.Zi1 d.le,i.trans d.os,o.trans d.tape,m.trans d.output,fun h=>by rw[j];exact d.drawn h,by rw[p];exact d.size,fun b c f=>?_,fun b c f=>d.own b c ?_⟩
 ·rw[g b c];exact d.block b c f
 ·rcases f with⟨l,k,a⟩|⟨l,k,a⟩
  ·simp only[Env.cut]at a;split at a
   ·exact .inl ⟨l,k,a⟩
   ·cases a
  ·simp only[Env.cut]at a;split at a
   ·exact .inr ⟨l,k,a⟩
   ·cases a
theorem JR{P:Program}{fn:Func}{d:Array Value}{R:Ending->World->Prop}{m:Nat}{H:Za}{E:Env}{a:List PanicEntry}:∀(l:List Nat) (w:World),l.Nodup->(∀D∈l,w.heap[D]? =some (.deferred (some []))/\ ¬E.own D)->Zo m H E w->
  (∀c,Zo m H E c->(∀b,b∉l->c.heap[b]? =w.heap[b]?)->c.os=w.os->c.tape=w.tape->c.output=w.output->c.drawn=w.drawn->c.heap.size=w.heap.size->R (.panicked a) c)->
  ∀{F:Fence} {n:Nat},LeavesInM F n P fn d R (l.map mark) (.panicking a) w
 |[],w,_,_,hr,hk,_,_=>hk w hr (fun _ _=>rfl) rfl rfl rfl rfl rfl
 |D::l,w,hn,hD,hr,hk,_,_=>by
  obtain⟨h,j⟩:=hD D sm;obtain⟨v,x⟩:=GN.1 hn;refine⟨sm,.inl ⟨D,_,rfl,run_takeDeferred h,?_⟩⟩;refine JR l _ x (fun i f=>?_) (hr.putObj h (fun _ _ _ e=>by cases e) j) (fun c p y q s r o k=>?_)
  ·obtain⟨t,u⟩:=hD i (Qx _ f);exact⟨(World.putObj_heap_other (show i≠D from fun e=>v (e▸f))).trans t,u⟩
  ·refine hk c p (fun b g=>?_) q s r o (by rw[k,World.putObj_size]);simp only[Ql,not_or]at g;rw[y b g.2,World.putObj_heap_other g.1]
variable {m:Nat} {fn:Func}
def Zfb{B:Base}{N:Nat}{d:Zc}{e:Act}(y:B=⟨w.heap.size,[]⟩)(a:Yd B n N d E' e w')(u:Ext n E w E' w')(o:X d.H){F:Fence}:
  LeavesInM F m P fn e.tmps (Zf1 t n E w Q X) e.defers (.panicking (ch t)) w':=by
 subst y;obtain⟨f,l,i,g,c⟩:=a.defs;rw[i,Qu];refine JR l w' g (fun D p=>(c D p).2) a.heap (fun z k x q A r s j=>?_);have h:Yd ⟨w.heap.size,[]⟩ n N d E' {e with defers:=[]} z:=⟨a.size,.nil _ (by rw[j];exact f),a.tmps,k,a.out⟩
 refine .inr ⟨d.H,E'.cut n,rfl,o,Zo.leave h,Zcl u (fun b C=>x b (fun v=>?_)) q A r s j⟩;have:w.heap.size<=b:=(c b v).1;omega
theorem Jq{T:TT}(K:TOK P T){B:Base}{s':Zc}{a':Act}(S:B=⟨w.heap.size,[]⟩)(c:Yd B n fn.ntmps s' E' a' w')(hx:Ext n E w E' w')
  (h:(∀x∈fn.results.toList,Y7 s'.tmps s'.H n s'.L T x)/\(∃r,Wks (fn.results.toList.map (Zbx s'.tmps s'.H n s'.L T)) r/\(∀v∈r,Below n v)/\Q (tupR r) s'.H)):
  LeavesInM Fence.wide 0 P fn a'.tmps (Zf1 t n E w Q X) a'.defers .returning w':=by
 obtain⟨s,r,hw,hb,I⟩:=h;subst S;obtain⟨k,l,u,p,j⟩:=c.defs;rw[u,Qu];refine Za8 l w' p (fun D G=>(j D G).2) c.heap (fun z C R J U M N A=>?_);have g:Yd ⟨w.heap.size,[]⟩ n fn.ntmps s' E' {a' with defers:=[]} z:=⟨c.size,.nil _ (by rw[A];exact k),c.tmps,C,c.out⟩
 obtain⟨us,m,o⟩:=Zb7 K g fn.results.toList s;have e:=forall₂_vr hw o;have a:VRs (E'.cut n) r us:=⟨e.1,fun i d F=>(e.2 i d F).cut (hb _ (Qa d))⟩
 have f:(results fn a'.tmps).run P z= .ok (if h:us.toArray.size=1 then us.toArray[0]else .tuple us.toArray) z:=by
  rw[Zdg,Qaq];simp only[Sem.run_bind,Sem.run_map,m,Result.andThen_ok,Sem.run_pure]
 refine⟨_,f,.inl ⟨tupR r,_,s'.H,E'.cut n,rfl,I,?_,Zo.leave g,Zcl hx (fun b hb=>R b (fun hm=>?_)) J U M N A⟩⟩
 ·by_cases d:us.toArray.size=1
  ·rw[dif_pos d];cases r with
   |nil=>have:=a.1;simp at this d;rw[this]at d;simp at d
   |cons x r=>
    cases r with
    |nil=>
     obtain⟨v,q,rfl,O,V⟩:=a.Yw;exact O
    |cons y r=>have:=a.1;simp at this d;omega
  ·rw[dif_neg d];have:tupR r= .tup r:=by
    cases r with
    |nil=>rfl
    |cons x r=>
     cases r with
     |nil=>have:=a.1;simp at this d;omega
     |cons y r=>rfl
   rw[this];exact .tup r us a.1 a.2
 ·have:w.heap.size<=b:=(j b hm).1;omega
def Yd.start{vs:List Value}(hr:Zo n H E w)(hv:VRs E args vs)(g:args.length<=fn.ntmps):
  Yd ⟨w.heap.size,[]⟩ n fn.ntmps ⟨numbered 0 args,[],H⟩ E {tmps:=vs.toArray++Array.replicate (fn.ntmps - vs.toArray.size) undef,defers:=[]} w:=by
 have d:vs.length=args.length:=hv.1;refine⟨by simp;omega,.nil _ (Qi _),fun t=>?_,?_,fun l k b hl hb=>hr.out hl hb⟩
 ·rw[lkv_numbered];simp only[Us,if_true,MV];by_cases c:t<args.length
  ·have e:=hv.2 t c om;have a:args.getD t .dead=args[t]:=by simp[Qk,Qe c]
   have f:(vs.toArray++Array.replicate (fn.ntmps - vs.toArray.size) undef).getD t undef=vs[t]'om:=by
    rw[QD,Gh (by simp;omega)];simp[Qe (show t<vs.length by omega)]
   rw[a,f];exact e
  ·have a:args.getD t .dead= .dead:=by simp[Qk,Uw (by omega:args.length<=t)]
   rw[a];exact .dead _
 ·exact hr.enter
def ZlI{P:Program}{T:TT}{t n:Nat}{f:FuncId}{fn:Func}{c:Code}{args:LA}{H:Za}{Q:AV->Za->Prop}{X:Za->Prop}(i:TOK P T)(g:Fun P f fn c)(m:args.length<=fn.ntmps)
  (h:∀B,AK P ⟨none,B⟩ n fn.ntmps [.code c] (Zeg P T t n fn.results.toList Q X) ⟨numbered 0 args,[],H⟩):ZY P t n f args H Q X:=fun E w p k j=>by
 refine(callsIn_wide (n:=0)).1 (callsIn_of_wp_marks g.get g.body trivial ?_);refine wpIn_mono (h ⟨w.heap.size,[]⟩ E w _ (Yd.start k j m)) ?_;rintro e q w' ⟨o,E',b,a,d⟩;cases e with
 |normal=>exact Jq i rfl a d b
 |ret=>exact Jq i rfl a d b
 |panic c=>
  obtain⟨rfl,l⟩:=b;exact Zfb rfl a d l
 |_=>exact b.elim
def WU{P:Program}{a:Fm}{n N:Nat}{Q:Exit->Zc->Prop}{s:Zc}{c:List PanicEntry}(h:Q (.panic c) s):∀k,AX P a n N Q k (.panic c) s
 |[]=>h
 | .code _::k=>WU h k
 | .blk _::k=>WU h k
/-! A call that may panic, in a region in the text's order. -/
def Ziz(P:Program)(t m:Nat)(o:Oper)(d:Operand->AV)(H:Za)(S:AV->Za->Prop)(X:Za->Prop):Prop:=
 ∀E w (a:Act) (Q:Exit->Act->World->Prop) (K:Act->World->Prop),Zo m H E w->(∀x∈o.op.operands,VR E (d x) (a.eval x))->
  (∀E' w' c v b,S v b->VR E' v c->Zo m b E' w'->Ext m E w E' w'->K (a.put o.dst c) w')->
  (∀E' w' b,X b->Zo m b E' w'->Ext m E w E' w'->Q (.panic (ch t)) a w')-> ∀e,o.wpIn (fr e) 0 P a w K Q
variable {c:Code} {o:Oper}
def ZkP{t m:Nat}{q:Operand->AV}{H:Za}{g:Operand}{h:LA}{args:Array Operand}{B:Array TypeId}{S:AV->Za->Prop}{X:Za->Prop}(I:Fun P f fn c)
  (n:o.op= .call {callee:=.value g,args:=args,argTypes:=B}) (D:q g= .fn (.func f) h) (A:LA) (u:∀E (a:Act),(∀x∈args,VR E (q x) (a.eval x))->VRs E A (args.toList.map a.eval))
  (G:ZY P t m f (A++h) H S X):Ziz P t m o q H S X:=fun E w a Q K L b F s O=>by
 have j:=b g (by rw[n];simp[Op.operands,Call.operands]);rw[D]at j;have M:execOp a.eval o=(do let d<-resolve a.eval {callee:=.value g,args:=args,argTypes:=B} o.type;invoke d.target d.args):=by simp only[execOp,n]
 generalize J:a.eval g=y at j;cases j with|fn _ _ vs hl hvs=>
 have k:(execOp a.eval o).run P w= .ok (.enter f (args.map a.eval++vs.toArray)) w:=by
  rw[M];simp[resolve,J,Deferred.ofValue,invoke,Y2 I]
 refine Y8 k (fun _ e=>by cases e) ⟨JI,JH ?_⟩;have z:=G E w (args.toList.map a.eval++vs) L ((u E a (fun x s=>b x (by rw[n];simp[Op.operands,Call.operands,s]))).append ⟨hl,hvs⟩);rw[show(args.toList.map a.eval++vs).toArray=args.map a.eval++vs.toArray by rw[<-List.append_toArray,<-Array.toList_map]]at z;refine z.mono ?_;rintro e w' (⟨C,v,p,E',rfl,l,N,r,i⟩|⟨p,E',rfl,l,r,i⟩)
 ·exact F E' w' v C p l N r i
 ·exact s E' w' p l r i
def Zii{P:Program}{t m:Nat}{q:Operand->AV}{H:Za}{l:Nat}{g:Operand}{args:Array Operand}{B:Array TypeId}{S:AV->Za->Prop}{X:Za->Prop}
  (n:o.op= .call {callee:=.value g,args:=args,argTypes:=B}) (G:q g= .fn (.yield l) []) (A:LA) (u:∀E (a:Act),(∀x∈args,VR E (q x) (a.eval x))->VRs E A (args.toList.map a.eval))
  (L:Zdr P t m l A H S X):Ziz P t m o q H S X:=fun E w a Q K O b I s F=>by
 have f:=b g (by rw[n];simp[Op.operands,Call.operands]);rw[G]at f;have R:execOp a.eval o=(do let d<-resolve a.eval {callee:=.value g,args:=args,argTypes:=B} o.type;invoke d.target d.args):=by simp only[execOp,n]
 generalize N:a.eval g=y at f;cases f with|fn _ _ vs hl hvs=>
 have j:vs=[]:=by simpa using hl
 subst j;obtain⟨fn,h,J,M,z,D⟩:=L E w (args.toList.map a.eval) O (u E a (fun x s=>b x (by rw[n];simp[Op.operands,Call.operands,s])));rw[show(args.toList.map a.eval).toArray=args.map a.eval by rw[<-Array.toList_map]]at z;have i:(execOp a.eval o).run P w= .ok (.round l fn h J M) w:=by
  rw[R];simp[resolve,N,Deferred.ofValue,invoke,z]
 refine Y8 i (fun _ e=>by cases e) ⟨JI,(D F _).mono ?_⟩;rintro e w' (⟨C,v,p,E',rfl,k,U,r,c⟩|⟨p,E',rfl,k,r,c⟩)
 ·exact I E' w' v C p k U r c
 ·exact s E' w' p k r c
def ZfZ(a:Cx)(t:Nat)(o:Oper)(g:Operand)(args:List Operand)(i:List TypeId)(s:Zc)(F j:Zc->Prop):Prop:=
 ∃Qc:AV->Za->Prop,∃Xc:Za->Prop,
  ((∃f fn c b,evT s.tmps g= .fn (.func f) b/\Fun a.P f fn c/\ZY a.P t (a.n+1) f (Yo a.T (evT s.tmps) args i++b) (full a.n s.L s.H) Qc Xc)\/
   (∃l,evT s.tmps g= .fn (.yield l) []/\Zdr a.P t (a.n+1) l (Yo a.T (evT s.tmps) args i) (full a.n s.L s.H) Qc Xc))/\
  (∀r e,Qc r e-> ∃h d,e=full a.n h d/\ZL a.n s.H d/\F ⟨Yf s.tmps o.dst r,h,d⟩)/\
  (∀e,Xc e-> ∃h d,e=full a.n h d/\ZL a.n s.H d/\j ⟨s.tmps,h,d⟩)
def Xi(c:Cx)(b:Opt)(a:List Oper)(F:Zc->Prop):List Oper->Zc->Prop
 |[],s=>F s
 |o::r,s=>match o.guard with
  |none=>Vu c b o s (Xi c b a F r)
  |some (j,want)=>match X4 a j with
   |none=>Xi c b a F r ⟨Yf s.tmps o.dst (.tup []),s.L,s.H⟩
   |some d=>vcG c b o s (Xi c b a F r) want (lkv s.tmps d)
theorem ZmS(c:Cx)(b:Opt)(a:List Oper)(F:Zc->Prop)(s:Zc):Xi c b a F [] s=F s:=rfl
theorem Zls(c:Cx)(b:Opt)(a:List Oper)(F:Zc->Prop)(o:Oper)(r:List Oper)(s:Zc):Xi c b a F (o::r) s=match o.guard with
  |none=>Vu c b o s (Xi c b a F r)
  |some (j,want)=>match X4 a j with
   |none=>Xi c b a F r ⟨Yf s.tmps o.dst (.tup []),s.L,s.H⟩
   |some d=>vcG c b o s (Xi c b a F r) want (lkv s.tmps d):=rfl
def VI{cx:Cx}(p:TOK cx.P cx.T){op:Opt}(f:op.dr=false){ops:Array Oper}{F:Zc->Prop}(hd:∀o∈ops.toList,∀x,o.dst=some x->x<cx.N){E0:Env}{w0:World}{Q':Exit->Act->World->Prop}{post:List Oper}:
  ∀(l:List Oper) (i:Nat) (s:Zc),ops.toList.drop i=l++post->Xi cx op ops.toList F l s->
   (∀s' E' w' a',F s'->Yd cx.φ.B cx.n cx.N s' E' a' w'->Ext cx.n E0 w0 E' w'->wpOpsIn (fr cx.φ.ro) 0 cx.P ops Q' ((List.range ops.size).drop (i+l.length)) a' w')-> ∀E w a,Yd cx.φ.B cx.n cx.N s E a w->Ext cx.n E0 w0 E w->
   wpOpsIn (fr cx.φ.ro) 0 cx.P ops Q' ((List.range ops.size).drop i) a w
 |[],i,s,hi,h,hF=>fun E w a hs hx=>by simpa using hF s E w a h hs hx
 |o::r,i,s,hi,h,hF=>fun E w a hs hx=>by
  have m:i<ops.size:=by
   rcases Qd i ops.size with h|h
   ·exact h
   ·rw[Ux (by simpa using h)]at hi;cases hi
  have u:ops[i]? =some o:=by
   have:=congrArg (·[0]?) hi;simpa[Uy]using this
  have c:o∈ops.toList:=UU (by rw[hi];simp);have g:ops.toList.drop (i+1)=r++post:=by rw[<-List.drop_drop,hi];rfl
  have k:∀s' E' w' a',F s'->Yd cx.φ.B cx.n cx.N s' E' a' w'->Ext cx.n E0 w0 E' w'->wpOpsIn (fr cx.φ.ro) 0 cx.P ops Q' ((List.range ops.size).drop (i+1+r.length)) a' w':=fun s' E' w' a' D A G=>by
   have:=hF s' E' w' a' D A G
   rwa [Qm,show i+(r.length+1)=i+1+r.length by omega]at this
  rw[QB (by simpa using m)];simp only[MK,wpOpsIn,u];have key:(Yk ops.toList s.tmps o=some true/\Vu cx op o s (Xi cx op ops.toList F r))\/(Yk ops.toList s.tmps o=some false/\Xi cx op ops.toList F r ⟨Yf s.tmps o.dst (.tup []),s.L,s.H⟩):=by
   simp only[Xi]at h;split at h
   ·rename_i b;exact .inl ⟨by simp only[Yk,b],h⟩
   ·rename_i j z b;split at h
    ·rename_i hd;exact .inr ⟨by unfold X4 at hd;simp only[Yk,b,hd],h⟩
    ·rename_i d hd;unfold X4 at hd;unfold vcG at h;split at h
     ·rename_i hv;split at h
      ·exact .inl ⟨by simp only[Yk,b,hd,hv];rfl,h⟩
      ·exact .inr ⟨by simp only[Yk,b,hd,hv];rfl,h⟩
     ·rename_i hv;split at h
      ·exact .inr ⟨by simp only[Yk,b,hd,hv];rfl,h⟩
      ·exact .inl ⟨by simp only[Yk,b,hd,hv];rfl,h⟩
     ·rename_i hv;exact .inr ⟨by simp only[Yk,b,hd,hv],h⟩
     ·exact h.elim
  rcases key with⟨hg,hr⟩|⟨hg,hr⟩
  ·rw[YE (fun j w d _ _=>hs.tmps d) hg];simp only[if_true];refine ZcT p f hr E w a _ _ hs.heap (fun x _=>Zaw hs.tmps x) ?_ cx.φ.ro;rintro E' w' J v H1 ⟨I,H',rfl,ho,y⟩ q C e;refine VI p f hd r (i+1) _ g y k E' w' _ ⟨by rw[size_put];exact hs.size,by rw[XJ];exact hs.defs.ext e,fun t=>?_,C,Yd.Wu hs.out ho⟩ (hx.trans (e.mono (Uc _)));rw[VZ,Vd hs.size (hd o c)];split
   ·exact q
   ·exact(hs.tmps t).mono hs.heap.norm e.le
  ·rw[YE (fun j w d _ _=>hs.tmps d) hg];simp only[QE,if_false];refine⟨fun _ _=>trivial,?_⟩;refine VI p f hd r (i+1) _ g hr k E w _ ⟨by rw[size_put];exact hs.size,by rw[XJ];exact hs.defs,fun t=>?_,hs.heap,hs.out⟩ hx;rw[VZ,Vd hs.size (hd o c)];split
   ·exact XP E
   ·exact hs.tmps t
variable {pre post:List Oper} {ops:Array Oper}
def Zfa{cx:Cx}{k:List Itm}{Q:Exit->Zc->Prop}{s:Zc}(t:Nat)(hT:TOK cx.P cx.T)(op:Opt)(hop:op.dr=false){id:Nat}{g:Operand}{args:Array Operand}{ts:Array TypeId}(hc:c= .region id ops false)(hl:ops.toList=pre++o::post)
  (hg:o.guard=none) (ho:o.op= .call {callee:=.value g,args:=args,argTypes:=ts})
  (h:Xi cx op ops.toList (fun s=>ZfZ cx t o g args.toList ts.toList s (Xi cx op ops.toList (AKc cx k Q) post) (Q (.panic (ch t)))) pre s)
  (hd:Xu cx.N ops.toList=true:=by kernel_rfl):AKc cx (.code c::k) Q s:=by
 subst hc;intro E w a hs;refine wpIn_region ?_;have hd':=XK hd;have key:=VI hT (op:=op) hop (post:=o::post) (E0:=E) (w0:=w) (Q':=fun e a' w'=>∃s' E',AX cx.P cx.φ cx.n cx.N Q k e s'/\Yd cx.φ.B cx.n cx.N s' E' a' w'/\Ext cx.n E w E' w') hd' pre 0 s (by simpa using hl) h ?_ E w a hs (.refl _ _ _)
 ·simpa using key
 intro s1 E1 w1 a1 hF hs1 hx1;simp only[Qy];have hlt:pre.length<ops.size:=by
  have:=congrArg List.length hl;simp at this;omega
 have hoi:ops[pre.length]? =some o:=by
  have:ops.toList[pre.length]? =some o:=by rw[hl];simp
  simpa using this
 have hmem:o∈ops.toList:=by rw[hl];simp
 rw[QB (by simpa using hlt)];simp only[MK,wpOpsIn,hoi];have hwant:Region.wanted o (yielded ops a1.tmps)=true:=by simp[Region.wanted,hg]
 rw[hwant];simp only[if_true];obtain⟨Qc,Xc,hcall,hk,hX⟩:=hF;have has:∀E (a:Act),(∀x∈args,VR E (evT s1.tmps x) (a.eval x))->VRs E (Yo cx.T (evT s1.tmps) args.toList ts.toList) (args.toList.map a.eval):=fun E a hx=>XU _ _ (fun x hx'=>hx x (by simpa using hx'))
 have hsem:Ziz cx.P t (cx.n+1) o (evT s1.tmps) (full cx.n s1.L s1.H) Qc Xc:=by
  rcases hcall with⟨f,fn,c,caps,e1,e2,e3⟩|⟨l,e1,e2⟩
  ·exact ZkP e2 ho e1 _ has e3
  ·exact Zii ho e1 _ has e2
 refine hsem E1 w1 a1 _ _ hs1.heap (fun x _=>Zaw hs1.tmps x) ?_ ?_ cx.φ.ro
 ·rintro E' w' cv v H1 hq hcv hh hx';obtain⟨L',H',rfl,hos,hF2⟩:=hk _ _ hq;refine VI hT (op:=op) hop (post:=[]) hd' post (pre.length+1) _ (by rw[Qu,hl,Qbk];simp) hF2 ?_ E' w' _ ⟨by rw[size_put];exact hs1.size,by rw[XJ];exact hs1.defs.ext hx',fun t=>?_,hh,Yd.Wu hs1.out hos⟩ (hx1.trans (hx'.mono (Uc _)))
  ·intro s2 E2 w2 a2 hf hs2 hx2;have:ops.size<=pre.length+1+post.length:=by
    have:=congrArg List.length hl;simp at this;omega
   rw[Ux (by simpa using this)];exact⟨s2,E2,hf,hs2,hx2⟩
  ·rw[VZ,Vd hs1.size (hd' o hmem)];split
   ·exact hcv
   ·exact(hs1.tmps t).mono hs1.heap.norm hx'.le
 ·rintro E' w' H1 hq hh hx';obtain⟨L',H',rfl,hos,hF2⟩:=hX _ hq;exact⟨⟨s1.tmps,L',H'⟩,E',WU hF2 k,⟨hs1.size,hs1.defs.ext hx',fun t=>(hs1.tmps t).mono hs1.heap.norm hx'.le,hh,Yd.Wu hs1.out hos⟩,hx1.trans (hx'.mono (Uc _))⟩
def Yz{cx:Cx}{k:List Itm}{Q:Exit->Zc->Prop}{s:Zc}(t:Nat)(hT:TOK cx.P cx.T){id:Nat}{g:Operand}{args:Array Operand}{ts:Array TypeId}(hc:c= .region id ops false)(hl:ops.toList=pre++o::post)
  (hg:o.guard=none) (ho:o.op= .call {callee:=.value g,args:=args,argTypes:=ts})
  (h:Xi cx plainO ops.toList (fun s=>ZfZ cx t o g args.toList ts.toList s (Xi cx plainO ops.toList (AKc cx k Q) post) (Q (.panic (ch t)))) pre s)
  (hd:Xu cx.N ops.toList=true:=by kernel_rfl):AKc cx (.code c::k) Q s:=Zfa t hT plainO rfl hc hl hg ho h hd
end
def Zl3{cx:Cx}{k:List Itm}{Q:Exit->Zc->Prop}{s:Zc}{c:Code}(t:Nat)(hT:TOK cx.P cx.T){id:Nat}{ops:Array Oper}{pre post:List Oper}{o:Oper}{x:Operand}(hc:c= .region id ops false)(hl:ops.toList=pre++o::post)
  (hg:o.guard=none) (ho:o.op= .panic x)
  (h:Xi cx plainO ops.toList (fun s=>evT s.tmps x= .ifc t (.agg [])/\Q (.panic (ch t)) s) pre s)
  (hd:Xu cx.N ops.toList=true:=by kernel_rfl):AKc cx (.code c::k) Q s:=by
 subst hc;intro E w a hs;refine wpIn_region ?_;have hd':=XK hd;have key:=VI hT (op:=plainO) rfl (post:=o::post) (E0:=E) (w0:=w) (Q':=fun e a' w'=>∃s' E',AX cx.P cx.φ cx.n cx.N Q k e s'/\Yd cx.φ.B cx.n cx.N s' E' a' w'/\Ext cx.n E w E' w') hd' pre 0 s (by simpa using hl) h ?_ E w a hs (.refl _ _ _)
 ·simpa using key
 intro s1 E1 w1 a1 hF hs1 hx1;simp only[Qy];have hlt:pre.length<ops.size:=by
  have:=congrArg List.length hl;simp at this;omega
 have hoi:ops[pre.length]? =some o:=by
  have:ops.toList[pre.length]? =some o:=by rw[hl];simp
  simpa using this
 rw[QB (by simpa using hlt)];simp only[MK,wpOpsIn,hoi];have hwant:Region.wanted o (yielded ops a1.tmps)=true:=by simp[Region.wanted,hg]
 rw[hwant];simp only[if_true];obtain⟨hv,hQ⟩:=hF;have hxv:=Zaw hs1.tmps x;rw[hv]at hxv;generalize hy:a1.eval x=y at hxv;cases hxv with
 |ifc _ _ v hvv=>
  cases hvv with
  |agg _ vs hl2 hvs=>
   have e:vs=[]:=by simpa using hl2
   subst e;have hsem:o.semAt (fr cx.φ.ro).round a1.eval=execOp a1.eval o:=by unfold Oper.semAt;rw[ho];split<;>simp_all
   refine⟨fun _ _=>trivial,?_⟩;rw[hsem];have hrun:(execOp a1.eval o).run cx.P w1= .halt (.panic (.iface t (.agg #[]))) w1:=by
    simp[execOp,ho,hy,Instr.panic,goPanic]
   rw[hrun];exact⟨s1,E1,WU hQ k,hs1,hx1⟩
def pivot(a:List Oper)(p:Nat):Bool:=
 ancK a [] fun b=>(List.range a.length).all fun i=>(!decide (i<p)||(b.getD p 0).testBit i)&&(!decide (p<i)||(b.getD i 0).testBit p)
def Zmo{a:List Oper}{p:Nat}(h:pivot a p=true):∀i,i<a.length-> ∀D,Closed a D->(i<p->D p->D i)/\(p<i->D i->D p):=by
 intro i f D g;simp only[pivot,ancK_eq,Qw,Gm]at h;have:=h i f;have b:=ZcZ g a [] rfl (fun i _ j e=>by simp at e);constructor
 ·intro c d;refine b p d i ?_;simpa[c,Nat.lt_asymm c]using this
 ·intro c d;refine b i d p ?_;simpa[c,Nat.lt_asymm c]using this
theorem Zp6{cx:Cx}{k:List Itm}{Q:Exit->Zc->Prop}{s:Zc}{c:Code}(t:Nat)(hT:TOK cx.P cx.T)(hm:cx.P.follows .mixedOrders=true)(op:Opt)(hop:op.dr=true){id:Nat}{ops:Array Oper}{pre post:List Oper}{o:Oper}{g:Operand}{args:Array Operand}{ts:Array TypeId}(hc:c= .region id ops true)(hl:ops.toList=pre++o::post)
  (hg:o.guard=none) (ho:o.op= .call {callee:=.value g,args:=args,argTypes:=ts})
  (h:YT cx op ops.toList [] (fun _ s'=>ZfZ cx t o g args.toList ts.toList s' (fun _=>False) (Q (.panic (ch t)))) pre s)
  (hd:Xu cx.N ops.toList=true:=by kernel_rfl) (hok:(Wv ops.toList (Zc9 op ops.toList)&&ZdO op ops.toList&&pivot ops.toList pre.length)=true:=by kernel_rfl):AKc cx (.code c::k) Q s:=fun E w a hs=>by
 subst hc;obtain⟨hok,hpiv⟩:=QaR.1 hok;obtain⟨hok,hlay⟩:=QaR.1 hok;obtain⟨tm',L',H',hr,hos,hF⟩:=Zal hT (kd:=Zc9 op ops.toList) hop (fun i o hi=>by simp only[Zc9,hi]) pre 0 s (by simpa using hl) h;obtain⟨T,G,V,t0,g0,t1,g1,hc⟩:=(hr.mono (ZgO hlay)).course;refine wpIn_region_any hm ?_;have hu:unl (Array.replicate ops.size false)<=ops.size:=by
  unfold unl;exact UA QaK sm
 have hL:∀i,(Array.replicate ops.size false).getD i false=false:=fun i=>by
  rw[QD];by_cases hi:i<ops.size<;>simp[hi]
 have hva:∀n t,va ops.toList (lkv (T 0)) V ((Array.replicate ops.size false).getD · false) n t=lkv (T 0) t:=by
  intro n t;induction n with
  |zero=>rfl
  |succ n ih=>rw[va,if_neg (fun c=>by rw[hL]at c;cases c.1),ih]
 have hhv:∀n,hv cx.n (Zc9 op ops.toList) G ((Array.replicate ops.size false).getD · false) n=G 0:=by
  intro n;induction n with
  |zero=>rfl
  |succ n ih=>
   funext l s;rw[Za3,if_neg (fun c=>by rw[hL]at c;cases c.1),ih]
 refine ZcV cx.φ.ro a.defers (m:=cx.n+1) (N:=cx.N) (post:=o::post) hl (XK hd) hc (Zau hok) E {w with drawn:=w.drawn+1} (fun _ i hi=>Zmo hpiv i (by simpa using hi)) ?_ (fun h=>by cases h) ops.size _ E {w with drawn:=w.drawn+1} a hu sm (fun i o _ hi=>by have:=hL i;simp only at hi;rw[this]at hi;cases hi) (hL _) hs.size rfl ?_ ?_ (.refl _ _ _)
 ·intro o' ho' E1 w1 a1 K h1 h2 h3 h4 h5;have:o'=o:=by
   have e:ops.toList[pre.length]? =some o:=by rw[hl];simp
   rw[UK,ho']at e;exact Uu e
  subst this;rw[t1]at h3;rw[g1]at h4;simp only[wpOpIn,ho'];rw[show Region.wanted o' (yielded ops a1.tmps)=true by simp[Region.wanted,hg]];simp only[if_true];obtain⟨Qc,Xc,hcall,hk,hX⟩:=hF;have has:∀E (a:Act),(∀x∈args,VR E (evT tm' x) (a.eval x))->VRs E (Yo cx.T (evT tm') args.toList ts.toList) (args.toList.map a.eval):=fun E a hx=>XU _ _ (fun x hx'=>hx x (by simpa using hx'))
  have hsem:Ziz cx.P t (cx.n+1) o' (evT tm') (full cx.n L' H') Qc Xc:=by
   rcases hcall with⟨f,fn,c,caps,e1,e2,e3⟩|⟨l,e1,e2⟩
   ·exact ZkP e2 ho e1 _ has e3
   ·exact Zii ho e1 _ has e2
  refine hsem E1 w1 a1 _ _ h4 (fun x _=>Zaw h3 x) ?_ ?_ cx.φ.ro
  ·rintro E' w' cv v H1 hq hcv hh hx';obtain⟨_,_,_,_,hff⟩:=hk _ _ hq;exact hff.elim
  ·rintro E' w' H1 hq hh hx';obtain⟨L2,H2,rfl,hos2,hF2⟩:=hX _ hq;exact⟨⟨tm',L2,H2⟩,E',WU hF2 k,⟨h1,by rw[h2];exact(hs.defs.ext (Env.Vz cx.n E w)).ext (h5.trans hx'),fun t=>(h3 t).mono h4.norm hx'.le,hh,Yd.Wu (Yd.Wu hs.out hos) hos2⟩,(Env.Vz cx.n E w).trans ((h5.trans hx').mono (Uc _))⟩
 ·intro t;rw[hva,t0];exact hs.tmps t
 ·rw[hhv,g0];exact hs.heap.drew
def Zmn{P:Program}{T:TT}{o:Oper}{ρ:Operand->AV}{m:Nat}{H:Za}{t:TypeId}{x:Operand}{h e:TypeId}{re:Zp}{l j:Nat}{es:List (AV×AV)}(i:TOK P T)(ho:o.op= .call {callee:=.builtin .len,args:=#[x],argTypes:=#[t]})
  (n:mapOf T t=some (h,e,re)) (hx:ρ x= .map l j) (k:H l j=some (.map es)):Z5 P m o ρ H (.int .i64 es.length) H:=fun E w a hr f=>by
 have c:=f x sC;rw[hx]at c;obtain⟨q,r⟩:=VA i n;generalize g:a.eval x=p at c;cases c with|map _ _ b hm=>
 obtain⟨s,d,ent,hc,hs,hv⟩:=hr.map l j es (hr.norm.J8 hm) k;rw[hm]at d;cases d;have hg:(getObj b).run P w= .ok (.map ent es.length) w:=by simp[getObj,Sem.run,hc]
 refine⟨.int .i64 es.length,E,w,.inl ?_,.int _ _,hr,.refl m E w⟩;simp[execOp,ho,g,resolve,invoke,builtin,Builtin.len_,run_underlying q,hg,hs,goInt]
def ZmD(F:Fence)(n:Nat)(P:Program)(b:Func)(l:Nat)(R:Ending->World->Prop):Exit->Act->World->Prop
 | .panic c,a,w=>LeavesInM F n P b a.tmps (fun e d=>(∃c,e= .panicked c)/\R e d) a.defers (.panicking c) w
 |e,a,w=>roundPost P l R e a w
def Zd4{F:Fence}{n:Nat}{P:Program}{l:Nat}{f:FuncId}{fn0:Func}{tmps:Array Value}{assign body:Code}{w:World}{R:Ending->World->Prop}(I:F.fn f)(hf:P.funcs[f]? =some fn0)
  (h:assign.wpIn (F.inRound l) n P (Exit.then (fun y w₁=>∃p,(Instr.beginRound l).run P w₁= .ok () p/\body.wpIn (F.inRound l) n P (ZmD (F.inRound l) n P fn0 l R) y p) (fun _ _ _=>False))
   {tmps:=tmps,defers:=[]} w):
  RoundIn F n P l f tmps assign body w R:=by
 refine⟨I,fun c cs hr=>?_⟩
 let b:Frame:={(default:Frame)with fn:=f,kind:=.normal,roundOf:=some l}
 have C:Frame.round l f tmps assign body .normal=b.atR {tmps:=tmps,defers:=[]} [.code assign,.beginRound,.code body]:=by
  simp[Frame.round,Frame.atR,b]
 have i:(F.inRound l).room ((c::cs).length+1+n):=hr;have g:(F.inRound l).fn b.fn:=I;obtain⟨e,G,w1,r,o⟩:=h b [.beginRound,.code body] (c::cs) rfl g i;rw[<-C]at o;cases e with
 |normal=>
  obtain⟨L,B,q⟩:=r;have s1:StepsIn (Machine.fenced P (F.inRound l)) P (lone (b.atR G [.beginRound,.code body]) (c::cs) w1) (lone (b.atR G [.code body]) (c::cs) L):=
   .one (fenced_calm (fr:=b.atR G [.beginRound,.code body]) g i rfl) (stepR_beginRound rfl B)
  have x:=StepsIn.trans o s1;obtain⟨K,s,J,j,d⟩:=q b [] (c::cs) rfl g i;cases K with
  |normal=>
   obtain⟨v,k,a,m⟩:=j;exact⟨.returned v,k,m,x.trans (StepsIn.trans d (.one (fenced_calm (fr:=b.atR s []) g i rfl) (stepR_round_end rfl rfl a)))⟩
  |ret=>
   obtain⟨v,k,a,m⟩:=j;obtain⟨u,hs⟩:=d.2 rfl;exact⟨.returned v,k,m,x.trans (StepsIn.trans hs (.one (fenced_calm (fr:=b.atR s (.code .ret::u)) g i rfl) (stepR_round_ret rfl rfl a)))⟩
  |exit id=>
   obtain⟨v,k,a,m⟩:=j;obtain⟨u,hk,hs⟩:=d.2 rfl rfl;exact⟨.returned v,k,m,x.trans (StepsIn.trans hs (.one (fenced_calm (fr:=b.atR s (.code (.exit id)::u)) g i rfl) (stepR_round_exit rfl rfl hk a)))⟩
  |goto t=>
   obtain⟨v,k,a,m⟩:=j;obtain⟨u,hk,hs⟩:=d.2 rfl rfl;exact⟨.returned v,k,m,x.trans (StepsIn.trans hs (.one (fenced_calm (fr:=b.atR s (.code (.goto t)::u)) g i rfl) (stepR_round_goto rfl rfl hk a)))⟩
  |panic chain=>
   obtain⟨z,hs⟩:=d;obtain⟨M,k,D,⟨⟨c',rfl⟩,m⟩,A,H,hl⟩:=leaves_stepsInM (P:=P) s.defers (.panicking chain) J {b.atR s z with mode:=.panicking chain} (c::cs) rfl rfl rfl hf rfl g i j;have E:(F.inRound l).fn D.fn:=by rw[H];exact g
   exact⟨.panicked c',k,m,x.trans (StepsIn.trans hs (StepsIn.trans A (.one (fenced_leaving E i hl) (step_leave_panicked hl))))⟩
  |outgrown=>exact j.elim
 |exit id=>exact r.elim
 |goto t=>exact r.elim
 |ret=>exact r.elim
 |panic chain=>exact r.elim
 |outgrown=>exact r.elim
def Zrs(Q:AV->Za->Prop)(X:Za->Prop)(t x y l N f:Nat)(d:LN)(b:Array Tmp)(g a:Code):Exit->Zc->Prop:=fun e s=>match e with
 | .panic c=>c=ch t/\X s.H
 |e=>ZiA Q x y l N f d b g a e s
def ZgJ(T:TT){P:Program}{t m l:Nat}{args:LA}{H:Za}{Q:AV->Za->Prop}{X:Za->Prop}{x y N:Nat}{o:FuncId}{fn0:Func}{tm:LN}{ps:Array Tmp}{ca cb:Code}(hf:P.funcs[o]? =some fn0)(hH:H x y=some (.lrec l N (o+1) tm ps ca cb .ready none))(hx:x<m)
  (av:args.length=ps.size) (hN:∀p∈ps.toList,p<N)
  (h:∀B,AKc ⟨P,T,⟨some l,B⟩,m,N⟩ [.code ca] (fun e s=>e= .normal/\s.H x y=some (.lrec l N (o+1) tm ps ca cb .ready none)/\
   AKc ⟨P,T,⟨some l,B⟩,m,N⟩ [.code cb] (Zrs Q X t x y l N (o+1) tm ps ca cb) ⟨s.tmps,s.L,s.H.upd x y (.lrec l N (o+1) tm ps ca cb .busy none)⟩) ⟨zipT ps.toList args tm,[],H⟩):Zdr P t m l args H Q X:=fun E w vs hr hv=>by
 have g:∀(L:List (Nat×Ze)) (H:Za),full m L H x y=H x y:=fun L H=>by simp only[full];rw[if_neg om]
 obtain⟨Y,h1,h2,h3,h4,h5,h6,h7,h8,aw,_⟩:=hr.VO hx hH;have aq:Y.fn=o:=Nat.succ.inj (aw (Nat.succ_ne_zero _));have M:=hv.1;have hy:=run_yield (P:=P) (args:=vs.toArray) h1 (by rw[h2,<-av,<-M];simp);refine⟨_,_,_,_,hy,fun ro n=>?_⟩;refine Zd4 (F:=fr ro) (fn0:=fn0) trivial (by rw[aq];exact hf) ?_;rw[h2,h3,h4];have hz:(ps.zip vs.toArray).foldl (fun tmps (p:Tmp×Value)=>tmps.setIfInBounds p.1 p.2) Y.tmps=(ps.toList.zip vs).foldl (fun a (p:Tmp×Value)=>a.setIfInBounds p.1 p.2) Y.tmps:=by
  rw[<-Array.foldl_toList];simp
 have hs:Yd ⟨w.heap.size,[]⟩ m N ⟨zipT ps.toList args tm,[],H⟩ E {tmps:=(ps.zip vs.toArray).foldl (fun tmps (p:Tmp×Value)=>tmps.setIfInBounds p.1 p.2) Y.tmps,defers:=[]} w:=by
  refine⟨by rw[hz,zipT_size];exact h7,.nil _ (Qi _),fun t=>?_,hr.enter,fun l k b hl hb=>hr.out hl hb⟩;rw[hz];exact Zhj _ _ _ _ _ hv (fun p hp=>by rw[h7];exact hN p hp) h8 t
 refine ZfR (ro:=some l) (wpIn_mono (h ⟨w.heap.size,[]⟩ E w _ hs) ?_);rintro e a1 w1 ⟨s1,E1,⟨rfl,O,hk⟩,q,a3⟩;have a0:full m s1.L s1.H x y=some (.lrec l N (o+1) tm ps ca cb .ready none):=by rw[g];exact O
 obtain⟨K,g1,g2,g3,g4,g5,g6,g7,g8,_,g9⟩:=q.heap.VO (show x<m+1 by omega) a0;obtain⟨hh,W⟩:=g9 .busy none;have a4:({K with state:=.busy}:Loop)={K with state:=.busy,pending:=none}:=by rw[<-g6]
 refine⟨_,run_beginRound g1 g5,ZfR (ro:=some l) (wpIn_mono ?_ fun _ _ _ h=>h)⟩;rw[a4];have I:∀st pd,(Ze.lrec l N (o+1) tm ps ca cb st pd).Below m:=fun st pd=>by
  have:=q.out x y _ hx O;exact⟨this.1,this.2⟩
 have ay:Yd ⟨w.heap.size,[]⟩ m N ⟨s1.tmps,s1.L,s1.H.upd x y (.lrec l N (o+1) tm ps ca cb .busy none)⟩ E1 a1 (w1.putObj l (.loop {K with state:=.busy,pending:=none})):=by
  refine⟨q.size,q.defs.ext W,fun t=>(q.tmps t),?_,fun l' k' b hl hb=>?_⟩
  ·rw[Yj m _ _ _ _ _ om];exact hh
  ·simp only[Za.upd]at hb;split at hb
   ·cases hb;exact I _ _
   ·exact q.out l' k' b hl hb
 refine wpIn_mono (AC.run hk ay (a3.trans (W.mono (Uc m)))) ?_;rintro e V Z ⟨i,J,r,d,G⟩;cases e with
 |panic c=>
  obtain⟨rfl,hX⟩:=r;obtain⟨ax,ml,az,au,R⟩:=d.defs;show LeavesInM _ _ _ _ _ _ V.defers _ _;rw[az,Qu];refine JR ml Z au (fun D hD=>(R D hD).2) d.heap (fun w3 k1 k2 k3 k4 k5 k6 k7=>⟨⟨_,rfl⟩,?_⟩);have j:Yd ⟨w.heap.size,[]⟩ m N i J {V with defers:=[]} w3:=⟨d.size,.nil _ (by rw[k7];exact ax),d.tmps,k1,d.out⟩
  refine .inr ⟨i.H,J.cut m,rfl,hX,Zo.leave j,Zcl G (fun b hb=>k2 b (fun hm=>?_)) k3 k4 k5 k6 k7⟩;have:w.heap.size<=b:=(R b hm).1;omega
 |outgrown=>exact r.2.elim
 |normal=>
  obtain⟨z,r⟩:=r;have A:full m i.L i.H x y=some (.lrec l N (o+1) tm ps ca cb .busy none):=by rw[g];exact z
  obtain⟨u,U,f2,f3,f4,f5,f6,f7,f8,_,S⟩:=d.heap.VO (show x<m+1 by omega) A;obtain⟨C,f⟩:=S .ready none;have j:Yd ⟨w.heap.size,[]⟩ m N ⟨i.tmps,i.L,i.H.upd x y (.lrec l N (o+1) tm ps ca cb .ready none)⟩ J V (Z.putObj l (.loop {u with state:=.ready,pending:=none})):=by
   refine⟨d.size,d.defs.ext f,d.tmps,?_,fun l' k' b hl hb=>?_⟩
   ·rw[Yj m _ _ _ _ _ om];exact C
   ·simp only[Za.upd]at hb;split at hb
    ·cases hb;exact I _ _
    ·exact d.out l' k' b hl hb
  have v:=G.trans (f.mono (Uc m));exact⟨_,_,run_endRound (P:=P) none U,.inl ⟨.bool true,_,_,J.cut m,rfl,r,.bool _,Zo.leave j,Zcl v (fun _ _=>rfl) rfl rfl rfl rfl rfl⟩⟩
 |ret=>
  obtain⟨z,r⟩:=r;have A:full m i.L i.H x y=some (.lrec l N (o+1) tm ps ca cb .busy none):=by rw[g];exact z
  obtain⟨u,U,f2,f3,f4,f5,f6,f7,f8,_,S⟩:=d.heap.VO (show x<m+1 by omega) A;obtain⟨C,f⟩:=S .done (some .ret);have j:Yd ⟨w.heap.size,[]⟩ m N ⟨i.tmps,i.L,i.H.upd x y (.lrec l N (o+1) tm ps ca cb .done (some .ret))⟩ J V (Z.putObj l (.loop {u with state:=.done,pending:=some .ret})):=by
   refine⟨d.size,d.defs.ext f,d.tmps,?_,fun l' k' b hl hb=>?_⟩
   ·rw[Yj m _ _ _ _ _ om];exact C
   ·simp only[Za.upd]at hb;split at hb
    ·cases hb;exact I _ _
    ·exact d.out l' k' b hl hb
  have v:=G.trans (f.mono (Uc m));exact⟨_,_,run_endRound (P:=P) (some .ret) U,.inl ⟨.bool false,_,_,J.cut m,rfl,r,.bool _,Zo.leave j,Zcl v (fun _ _=>rfl) rfl rfl rfl rfl rfl⟩⟩
 |exit id=>
  obtain⟨z,r⟩:=r;have A:full m i.L i.H x y=some (.lrec l N (o+1) tm ps ca cb .busy none):=by rw[g];exact z
  obtain⟨u,U,f2,f3,f4,f5,f6,f7,f8,_,S⟩:=d.heap.VO (show x<m+1 by omega) A;obtain⟨C,f⟩:=S .done (some (.exit id));have j:Yd ⟨w.heap.size,[]⟩ m N ⟨i.tmps,i.L,i.H.upd x y (.lrec l N (o+1) tm ps ca cb .done (some (.exit id)))⟩ J V (Z.putObj l (.loop {u with state:=.done,pending:=some (.exit id)})):=by
   refine⟨d.size,d.defs.ext f,d.tmps,?_,fun l' k' b hl hb=>?_⟩
   ·rw[Yj m _ _ _ _ _ om];exact C
   ·simp only[Za.upd]at hb;split at hb
    ·cases hb;exact I _ _
    ·exact d.out l' k' b hl hb
  have v:=G.trans (f.mono (Uc m));exact⟨_,_,run_endRound (P:=P) (some (.exit id)) U,.inl ⟨.bool false,_,_,J.cut m,rfl,r,.bool _,Zo.leave j,Zcl v (fun _ _=>rfl) rfl rfl rfl rfl rfl⟩⟩
 |goto l=>exact r.2.elim
def ZaO(P:Program)(φ:Fm)(f0:FuncId)(n N:Nat)(c:Code)(Q:Exit->Zc->Prop)(s:Zc):Prop:=
 ∀E w a,Yd φ.B n N s E a w-> ∀(b:Frame) (k:List Item) (i:List Frame),b.fn=f0->b.roundOf=φ.ro->
  ∃e h d,(∃f g,Q e f/\Yd φ.B n N f g h d/\Ext n E w g d)/\ArrivesIn (Machine.fenced P (fr φ.ro)) P (lone (b.atR a (.code c::k)) i w) b k i e h d
def ZfX(P:Program)(φ:Fm)(f0:FuncId)(n N:Nat)(Q:Exit->Zc->Prop):List Itm->Exit->Zc->Prop
 |[],e,s=>Q e s
 | .code d::k,e,s=>match e with
  | .normal=>ZaO P φ f0 n N d (ZfX P φ f0 n N Q k) s
  |e=>ZfX P φ f0 n N Q k e s
 | .blk id::k,e,s=>match e with
  | .exit id'=>if id'=id then ZfX P φ f0 n N Q k .normal s else ZfX P φ f0 n N Q k (.exit id') s
  |e=>ZfX P φ f0 n N Q k e s
def Zbw(P:Program)(φ:Fm)(f0:FuncId)(n N:Nat)(k:List Itm)(Q:Exit->Zc->Prop)(s:Zc):Prop:=ZfX P φ f0 n N Q k .normal s
section
variable {P:Program} {φ:Fm} {f0:FuncId} {n N:Nat} {Q Q':Exit->Zc->Prop} {s:Zc} {k:List Itm}
def calm{d:Option Nat}{b:Frame}{a:Act}{c:List Item}{e:List Frame}{w:World}(h:(b.atR a c).about P w=none):(lone (b.atR a c) e w).fenced P (fr d):=
 fenced_calm (n:=0) trivial (Zcz _ _) h
def ZaO.mono{c:Code}(h:ZaO P φ f0 n N c Q s)(i:∀e f,Q e f->Q' e f):ZaO P φ f0 n N c Q' s:=fun E w a q b k o p l=>by
 obtain⟨e,m,j,⟨f,g,t,r⟩,d⟩:=h E w a q b k o p l;exact⟨e,m,j,⟨f,g,i _ _ t,r⟩,d⟩
def Zm0{c:Code}(h:AC P φ n N c Q s):ZaO P φ f0 n N c Q s:=fun E w a d b k f _ e=>h E w a d b k f e trivial (Zcz _ _)
def ZaO.seq{x y:Code}(h:ZaO P φ f0 n N x (fun e z=>match e with| .normal=>ZaO P φ f0 n N y Q z|e=>Q e z) s):ZaO P φ f0 n N (.seq x y) Q s:=fun E w a G b k t B A=>by
 have m:(lone (b.atR a (.code (.seq x y)::k)) t w).fenced P (fr φ.ro):=calm rfl;obtain⟨e,o,i,⟨q,p,j,f,d⟩,c⟩:=h E w a G b (.code y::k) t B A;cases e with
 |normal=>
  obtain⟨F,H,I,⟨C,D,v,u,r⟩,g⟩:=j p i o f b k t B A;exact⟨F,H,I,⟨C,D,v,u,d.trans r⟩,.of_steps (.head m stepR_seq c) g⟩
 |exit id=>exact⟨_,o,i,⟨q,p,j,f,d⟩,.of_steps (.one m stepR_seq) (.pass (x:=.code y) rfl (fun _ _=>.inl sm) c)⟩
 |goto l=>exact⟨_,o,i,⟨q,p,j,f,d⟩,.of_steps (.one m stepR_seq) (.pass (x:=.code y) rfl (fun _ _=>.inl sm) c)⟩
 |ret=>exact⟨_,o,i,⟨q,p,j,f,d⟩,.of_steps (.one m stepR_seq) (.pass (x:=.code y) rfl (fun _ _=>.inl sm) c)⟩
 |panic ch=>exact⟨_,o,i,⟨q,p,j,f,d⟩,.of_steps (.one m stepR_seq) (.pass (x:=.code y) rfl (fun _ _=>.inl sm) c)⟩
 |outgrown=>exact⟨_,o,i,⟨q,p,j,f,d⟩,.of_steps (.one m stepR_seq) (.pass (x:=.code y) rfl (fun _ _=>.inl sm) c)⟩
def Zdo{c:Code}(a:c= .seq c.fst c.snd)(h:Zbw P φ f0 n N (.code c.fst:: .code c.snd::k) Q s):Zbw P φ f0 n N (.code c::k) Q s:=by
 rw[a];exact ZaO.seq (ZaO.mono h fun e d b=>by cases e<;>exact b)
def ZrR{T:TT}{c:Code}(h:AKc ⟨P,T,φ,n,N⟩ [.code c] (ZfX P φ f0 n N Q k) s):Zbw P φ f0 n N (.code c::k) Q s:=Zm0 (AC.mono h fun _ _ h=>h)
def ZcW{c:List PanicEntry}(h:Q (.panic c) s):∀k,ZfX P φ f0 n N Q k (.panic c) s
 |[]=>h
 | .code _::k=>ZcW h k
 | .blk _::k=>ZcW h k
end
def Zf6{P:Program}{T:TT}{t n:Nat}{f:FuncId}{fn:Func}{c:Code}{args:LA}{H:Za}{Q:AV->Za->Prop}{X:Za->Prop}(u:TOK P T)(hf:Fun P f fn c)(x:args.length<=fn.ntmps)
  (h:∀B,Zbw P ⟨none,B⟩ f n fn.ntmps [.code c] (Zeg P T t n fn.results.toList Q X) ⟨numbered 0 args,[],H⟩):ZY P t n f args H Q X:=fun E w vs hr hv=>by
 refine(callsIn_wide (n:=0)).1 ⟨trivial,fun cs a=>?_⟩
 let b:Frame:={(default:Frame)with fn:=f,kind:=.normal,roundOf:=none}
 have m:Frame.enter P f vs.toArray .normal=
   b.atR {tmps:=vs.toArray++Array.replicate (fn.ntmps - vs.toArray.size) undef,defers:=[]} [.code c]:=by
  simp[Frame.enter,Frame.atR,hf.get,hf.body,b]
 obtain⟨e,a',w',⟨s',E',q,p,hx⟩,d⟩:=h ⟨w.heap.size,[]⟩ E w _ (Yd.start hr hv x) b [] cs rfl rfl;rw[<-m]at d;cases e with
 |normal=>
  obtain⟨s,k,i,r,hs,g,hl⟩:=leaves_stepsInM (F:=Fence.wide) (n:=0) a'.defers .returning w' {b.atR a' []with mode:=.returning} cs rfl rfl rfl hf.get rfl trivial a (Jq u rfl p hx q);exact⟨s,k,i,r,ComesIn.of_steps (StepsIn.trans d (.one (fenced_calm (fr:=b.atR a' []) (n:=0) trivial a rfl) (stepR_end rfl))) hs,g,hl⟩
 |ret=>
  obtain⟨j,o⟩:=d.1 rfl;obtain⟨s,k,i,r,hs,g,hl⟩:=leaves_stepsInM (F:=Fence.wide) (n:=0) a'.defers .returning w' {b.atR a' j with mode:=.returning} cs rfl rfl rfl hf.get rfl trivial a (Jq u rfl p hx q);exact⟨s,k,i,r,ComesIn.of_steps o hs,g,hl⟩
 |panic chain=>
  obtain⟨rfl,v⟩:=q;obtain⟨j,o⟩:=d;obtain⟨s,k,i,r,hs,g,hl⟩:=leaves_stepsInM (F:=Fence.wide) (n:=0) a'.defers (.panicking (ch t)) w' {b.atR a' j with mode:=.panicking (ch t)} cs rfl rfl rfl hf.get rfl trivial a (Zfb rfl p hx v);exact⟨s,k,i,r,ComesIn.of_steps o hs,g,hl⟩
 |exit id=>exact q.elim
 |goto l=>exact q.elim
 |outgrown=>exact q.elim
theorem ZbA{P:Program}{T:TT}{B:Base}{t n N:Nat}{f0:FuncId}{g:Operand}{ps:Array Tmp}{c:Code}{k:List Itm}{Q:Exit->Zc->Prop}{s:Zc}{gf:FuncId}{fn:Func}{c':Code}{caps:LA}(y:Nat)
  (bu:c= .rangeFunc g ps c.fst c.snd) (hg:evT s.tmps g= .fn (.func gf) caps) (hf:Fun P gf fn c') (hy:lkb s.L y=none)
  (h:∀l,∃Qc Xc,ZY P t (n+1) gf ([.fn (.yield l) []]++caps) (full n (setb s.L y (.lrec l N (f0+1) s.tmps ps c.fst c.snd .ready none)) s.H) Qc Xc/\
   (∀r H1,Qc r H1-> ∃G C st,H1=full n G C/\ZL n s.H C/\lkb G y=some (.lrec l N (f0+1) s.tmps ps c.fst c.snd st none)/\st≠ .busy/\
    Zbw P ⟨none,B⟩ f0 n N k Q ⟨s.tmps,setb G y (.lrec l N (f0+1) s.tmps ps c.fst c.snd .exhausted none),C⟩)/\
   (∀H1,Xc H1-> ∃G C,H1=full n G C/\ZL n s.H C/\Q (.panic (ch t)) ⟨s.tmps,G,C⟩)):
  Zbw P ⟨none,B⟩ f0 n N (.code c::k) Q s:=fun E w a hs b A cs a5 a7=>by
 generalize b0:c.fst=ca at*;generalize b3:c.snd=cb at*;subst bu;have W:=Zaw hs.tmps g;rw[hg]at W;generalize bq:a.eval g=gy at W;cases W with|fn _ _ vs hl hvs=>
 obtain⟨f,hW0⟩:∃f,w.alloc (.deferred (some []))=f:=⟨_,rfl⟩
 have av:f.heap.size=w.heap.size+1:=by rw[<-hW0];simp
 have K:∀b,b<w.heap.size->f.heap[b]? =w.heap[b]?:=fun b hb=>by
  rw[<-hW0];simp only[World.alloc,MB];rw[if_neg om]
 have bz:f.heap[w.heap.size]? =some (.deferred (some [])):=by rw[<-hW0];exact World.alloc_heap_new w _
 obtain⟨r0,x0⟩:=hs.heap.grow (w':=f) (F':=E.F) (by rw[<-hW0];rfl) (by rw[<-hW0];rfl) (by rw[<-hW0];rfl) (fun _=>by rw[<-hW0];exact Qi _) om K (fun _ _ _ h=>h)
  (fun b o v hf=>by
   have a6:=hs.heap.ZbC hf;have:=hs.heap.F b o v hf;simp only[World.cell?,K b a6]at this⊢;exact this) (fun _ _ _=>rfl)
 have J:full n s.L s.H n y=none:=by simp only[full,if_true];exact hy
 obtain⟨rc,hrc⟩:∃rc:Loop,rc={state:=.ready,pending:=none,fn:=b.fn,tmps:=a.tmps,params:=ps,assign:=ca,body:=cb,defers:=w.heap.size}:=⟨_,rfl⟩
 have aq:(f.alloc (.loop rc)).heap[f.heap.size]? =some (.loop rc):=World.alloc_heap_new _ _;have R:E.le (n+1) (E.XG n y f.heap.size):=by
  refine⟨fun _ _ _ h=>h,fun l' k' b _ hm=>?_,fun _ _ _ _ _ h=>h,rfl⟩;simp only[Env.XG];rw[if_neg (fun hc=>by rw[hc.1,hc.2,(hs.heap.dom n y (Qq n) J).1]at hm;cases hm)];exact hm
 obtain⟨r1,x1⟩:=r0.Zcv (l:=n) (k:=y) (Qq n) J (.loop rc) (.lrec f.heap.size N (f0+1) s.tmps ps ca cb .ready none) (by
  refine⟨by simp[Env.XG],rc,aq,by rw[hrc],by rw[hrc],by rw[hrc],by rw[hrc],by rw[hrc],by rw[hrc];exact hs.size,fun t=>?_,fun _=>by rw[hrc];exact congrArg Nat.succ a5⟩;rw[hrc];exact(hs.tmps t).mono hs.heap.norm R)
 have M:=(x0.trans x1)
 obtain⟨Qc,Xc,hc,hk,hX⟩:=h f.heap.size;rw[Zm]at hc;have a2:w.heap.size+1=f.heap.size:=av.symm;have Z:VRs (E.XG n y f.heap.size) ([.fn (.yield f.heap.size) []]++caps) ([.func (.yield f.heap.size) #[] #[]]++vs):=
  VRs.append (VRs.cons (VR.fn _ [] [] rfl (fun i h=>absurd h (Qj _))) (VRs.nil _)) ((show VRs E caps vs from⟨hl,hvs⟩).mono hs.heap.norm R)
 have I:=(callsIn_wide (n:=0)).2 (hc _ _ _ r1 Z);rw[show([Value.func (.yield f.heap.size) #[] #[]]++vs).toArray= #[.func (.yield f.heap.size) #[] #[]]++vs.toArray by simp]at I;have p:step P (lone (b.atR a (.code (.rangeFunc g ps ca cb)::A)) cs w)=
   .next (lone (Frame.enter P gf (#[.func (.yield f.heap.size) #[] #[]]++vs.toArray) .normal) (b.atR {a with defers:=[mark w.heap.size]++a.defers} (.inRangeFunc f.heap.size::A)::cs) (f.alloc (.loop rc))):=by
  refine stepR_rangeFunc (l:=f.heap.size) (mark:=[mark w.heap.size]) (w₁:=f.alloc (.loop rc)) (d:={target:=.fn (.func gf) vs.toArray,args:=#[.func (.yield f.heap.size) #[] #[]]}) (w₁':=f.alloc (.loop rc)) ?_ ?_ ?_
  ·rw[a7,<-a2,hrc,<-hW0];exact run_enterLoop_outer _ _ _ _ _
  ·simp only[resolve,rangeCall,bq];simp[go_sem]
  ·simp[invoke,Y2 hf]
 have i0:(lone (b.atR a (.code (.rangeFunc g ps ca cb)::A)) cs w).fenced P (fr none):=fenced_lone (.inl trivial) (fun _ _=>trivial) (Zcz _ _);obtain⟨e,Y,aw,hR,q,b2,j⟩:=I.2 (b.atR {a with defers:=[mark w.heap.size]++a.defers} (.inRangeFunc f.heap.size::A)::cs) (room_wide _);have a9:∀b,b<f.heap.size->(f.alloc (.loop rc)).heap[b]? =f.heap[b]?:=fun b hb=>by
  simp only[World.alloc,MB];rw[if_neg om]
 have ax:¬(E.XG n y f.heap.size).own w.heap.size:=by
  rintro(⟨l',k',hm⟩|⟨l',k',hm⟩)
  ·simp only[Env.XG]at hm;split at hm
   ·simp only[Qp]at hm;omega
   ·have:=hs.heap.lt _ (.inl ⟨_,_,hm⟩);omega
  ·have:=hs.heap.lt _ (.inr ⟨_,_,hm⟩);omega
 have defs:∀E4 w4,Ext (n+1) (E.XG n y f.heap.size) (f.alloc (.loop rc)) E4 w4->ZcE B E4 (mark w.heap.size::a.defers) w4:=fun E4 w4 u=>by
  have S:=M.trans u;obtain⟨e0,l2,e1,e2,e3⟩:=hs.defs.ext S;have a0:∀D∈l2,D<w.heap.size:=fun D hD=>by
   obtain⟨_,l3,c1,c2,c3⟩:=hs.defs;rw[e1,Qa0]at c1;have inj:∀(a b:List Nat),a.map mark=b.map mark->a=b:=by
    intro a;induction a with
    |nil=>intro b hb;cases b with
     |nil=>rfl
     |cons _ _=>cases hb
    |cons x a ih=>intro b hb;cases b with
     |nil=>cases hb
     |cons z b=>
      simp only[Qs,Ug,mark,Deferred.mk.injEq,Target.collected.injEq,and_true]at hb;rw[hb.1,ih b hb.2]
   exact(QO.1 (c3 _ (inj _ _ c1▸hD)).2.1).1
  have bv:w4.heap[w.heap.size]? =some (.deferred (some [])):=(u.block _ (by simp;omega) ax).trans ((a9 _ om).trans bz);refine⟨e0,w.heap.size::l2,by rw[e1];rfl,GN.2 ⟨fun hm=>absurd (a0 _ hm) (Un _),e2⟩,fun D hD=>?_⟩;rcases Ql.1 hD with rfl|hD
  ·exact⟨hs.defs.1,bv,fun ho=>ax (u.own _ (by simp;omega) ho)⟩
  ·exact e3 D hD
 rcases hR with⟨r,v,H1,E3,rfl,hq,b1,X,m⟩|⟨H1,E3,rfl,hq,X,m⟩
 ·obtain⟨G,C,st,rfl,ho,a4,a8,a3⟩:=hk _ _ hq;have hG:full n G C n y=some (.lrec f.heap.size N (f0+1) s.tmps ps ca cb st none):=by simp only[full,if_true];exact a4
  obtain⟨au,f1,f2,f3,f4,f5,f6,f7,f8,_,f9⟩:=X.VO (Qq n) hG;obtain⟨bx,u⟩:=f9 .exhausted none;have O:=run_endLoop (P:=P) f1 (by rw[f5];exact a8);rw[f6]at O;have S:=(M.trans m).trans u;have V:Yd B n N ⟨s.tmps,setb G y (.lrec f.heap.size N (f0+1) s.tmps ps ca cb .exhausted none),C⟩ E3 {a with defers:=[mark w.heap.size]++a.defers} (Y.putObj f.heap.size (.loop {au with state:=.exhausted,pending:=none})):=
   ⟨hs.size,defs _ _ (m.trans u),fun t=>(hs.tmps t).mono hs.heap.norm (M.trans m).le,by rw[Zm];exact bx,Yd.Wu hs.out ho⟩
  have i1:(lone aw (b.atR {a with defers:=[mark w.heap.size]++a.defers} (.inRangeFunc f.heap.size::A)::cs) Y).fenced P (fr none):=fenced_leaving (n:=0) trivial (Zcz _ _) j;have U:StepsIn (Machine.fenced P (fr none)) P (lone (b.atR a (.code (.rangeFunc g ps ca cb)::A)) cs w) (lone (b.atR {a with defers:=[mark w.heap.size]++a.defers} A) cs (Y.putObj f.heap.size (.loop {au with state:=.exhausted,pending:=none}))):=by
   have a1:=step_leave_returned (c:=b.atR {a with defers:=[mark w.heap.size]++a.defers} (.inRangeFunc f.heap.size::A)) (cs:=cs) j;rw[finish_atR_inRangeFunc]at a1;have az:=stepR_endRangeFunc (P:=P) (b:=b) (a:={a with defers:=[mark w.heap.size]++a.defers}) (k:=A) (cs:=cs) O;simp only[Qby,Option.toList_none,QG]at az;exact .head i0 p (StepsIn.trans q (.head i1 a1 (.one (calm rfl) az)))
  have ay:∃e a' w',(∃s' E',ZfX P ⟨none,B⟩ f0 n N Q k e s'/\Yd B n N s' E' a' w'/\Ext n E w E' w')/\ArrivesIn (Machine.fenced P (fr none)) P (lone (b.atR a (.code (.rangeFunc g ps ca cb)::A)) cs w) b A cs e a' w':=
   ⟨.normal,_,_,⟨_,E3,a3,V,S.mono (Uc n)⟩,U⟩
  exact ay
 ·obtain⟨G,C,rfl,ho,bw⟩:=hX _ hq;have i1:(lone aw (b.atR {a with defers:=[mark w.heap.size]++a.defers} (.inRangeFunc f.heap.size::A)::cs) Y).fenced P (fr none):=fenced_leaving (n:=0) trivial (Zcz _ _) j;have V:Yd B n N ⟨s.tmps,G,C⟩ E3 {a with defers:=[mark w.heap.size]++a.defers} Y:=
   ⟨hs.size,defs _ _ m,fun t=>(hs.tmps t).mono hs.heap.norm (M.trans m).le,X,Yd.Wu hs.out ho⟩
  refine⟨.panic (ch t),_,Y,⟨_,E3,ZcW bw k,V,(M.trans m).mono (Uc n)⟩,.inRangeFunc f.heap.size::A,.head i0 p (StepsIn.trans q (.one i1 ?_))⟩;rw[<-Frame.raise_atR];exact step_leave_panicked j
def seqs:List Code->Code->Code
 |[],d=>d
 |c::r,d=>.seq c (seqs r d)
def ZfV{P:Program}{φ:Fm}{n N:Nat}{Q:Exit->Zc->Prop}{s:Zc}:∀{r:List Code} {e:Exit},e≠ .normal->AX P φ n N Q (r.map .code) e s->Q e s
 |[],_,_,h=>h
 |c::r,e,he,h=>by
  cases e with
  |normal=>exact absurd rfl he
  |_=>exact ZfV (r:=r) sm h
section
variable {P:Program} {φ:Fm} {f0:FuncId} {n N:Nat} {Q:Exit->Zc->Prop} {s:Zc} {k:List Itm}
def ZaO.block{o:Nat}{c:Code}(h:ZaO P φ f0 n N c (fun e A=>match e with| .exit id'=>if id'=o then Q .normal A else Q (.exit id') A|e=>Q e A) s):ZaO P φ f0 n N (.block o c) Q s:=fun E w a D b k C y x=>by
 have i:(lone (b.atR a (.code (.block o c)::k)) C w).fenced P (fr φ.ro):=calm rfl;obtain⟨e,u,p,⟨t,v,j,g,f⟩,d⟩:=h E w a D b (.inBlock o::k) C y x;cases e with
 |normal=>exact⟨.normal,u,p,⟨t,v,j,g,f⟩,.head i stepR_block (StepsIn.trans d (.one (calm rfl) stepR_inBlock))⟩
 |exit id'=>
  by_cases m:id'=o
  ·simp only[m,if_true]at j;exact⟨.normal,u,p,⟨t,v,j,g,f⟩,.head i stepR_block (d.1 k (by simp[exitTo,m]))⟩
  ·simp only[m,if_false]at j;have this:(o==id')=false:=by simp;exact fun h=>m h.symm
   have z:exitTo id' (.inBlock o::k)=exitTo id' k:=by simp[exitTo,this]
   exact⟨.exit id',u,p,⟨t,v,j,g,f⟩,fun B r=>.head i stepR_block (d.1 B (by rw[z];exact r)),
    fun q r=>let⟨k₁,y,x⟩:=d.2 q (by rw[z];exact r);⟨k₁,y,.head i stepR_block x⟩⟩
 |goto l=>
  have z:gotoIn l (.inBlock o::k)=gotoIn l k:=by simp[gotoIn]
  exact⟨_,u,p,⟨t,v,j,g,f⟩,fun B r=>.head i stepR_block (d.1 B (by rw[z];exact r)),
   fun q r=>let⟨k₁,y,x⟩:=d.2 q (by rw[z];exact r);⟨k₁,y,.head i stepR_block x⟩⟩
 |ret=>exact⟨_,u,p,⟨t,v,j,g,f⟩,.of_steps (.one i stepR_block) d⟩
 |panic ch=>exact⟨_,u,p,⟨t,v,j,g,f⟩,.of_steps (.one i stepR_block) d⟩
 |outgrown=>exact⟨_,u,p,⟨t,v,j,g,f⟩,.of_steps (.one i stepR_block) d⟩
def ZfT{a:Nat}{c:Code}(b:c= .block a c.fst)(h:Zbw P φ f0 n N (.code c.fst:: .blk a::k) Q s):Zbw P φ f0 n N (.code c::k) Q s:=by
 rw[b];refine ZaO.block ?_;exact ZaO.mono h fun e f d=>by cases e<;>exact d
def Zeb{c:Code}{s':Zc}(hw:AWk n N s s')(h:Zbw P φ f0 n N (.code c::k) Q s'):Zbw P φ f0 n N (.code c::k) Q s:=fun E w a hs b p cs q o=>by
 obtain⟨r,g,j⟩:=hw _ E w a hs;obtain⟨e,a',w',⟨m,t,l,i,f⟩,d⟩:=h r w a g b p cs q o;exact⟨e,a',w',⟨m,t,l,i,j.trans f⟩,d⟩
def ZjC{a:Nat}(h:Zbw P φ f0 n N k Q s):Zbw P φ f0 n N (.blk a::k) Q s:=h
def Zh6(T:TT){c d:Code}(l:List Code)(hc:c=seqs l d)(h:AKc ⟨P,T,φ,n,N⟩ (l.map .code) (fun e s'=>match e with| .normal=>Zbw P φ f0 n N (.code d::k) Q s'|e=>ZfX P φ f0 n N Q k e s') s):Zbw P φ f0 n N (.code c::k) Q s:=by
 subst hc;induction l generalizing s with
 |nil=>exact h
 |cons c r ih=>
  show ZaO P φ f0 n N (.seq c (seqs r d)) (ZfX P φ f0 n N Q k) s;refine ZaO.seq (ZaO.mono (Zm0 h) ?_);intro e s' a;cases e with
  |normal=>exact ih a
  |_=>
   have:=ZfV (r:=r) sm a;exact this
end
def dfr(f:FuncId)(a:List Value):Deferred:={target:=.fn (.func f) a.toArray,args:=#[]}
def Zbz(P:Program)(m:Nat)(f:FuncId)(a:LA)(H:Za)(u:FrameMode)(Q:Za->Prop):Prop:=
 ∀E w b,Zo m H E w->VRs E a b->CallsDIn Fence.wide 0 P f b.toArray u w fun e g c=>(∃v,e= .returned v)/\settle g= .returning/\ ∃d E',Q d/\Zo m d E' c/\Ext m E w E' c
section
variable {E E':Env} {n m:Nat}
def ZrY(c:n<=m)(h:E.le n E'):E.le n (E'.cut m):=
 ⟨h.F,fun l k b a d=>by simp only[Env.cut,if_pos (Um a c)];exact h.m l k b a d,fun l k j v a d=>by simp only[Env.cut,if_pos (Um a c)];exact h.hist l k j v a d,h.qd⟩
def Zng{b:Nat}(c:(E.cut m).own b):E.own b:=by
 rcases c with⟨l,k,a⟩|⟨l,k,a⟩
 ·simp only[Env.cut]at a;split at a
  ·exact .inl ⟨l,k,a⟩
  ·cases a
 ·simp only[Env.cut]at a;split at a
  ·exact .inr ⟨l,k,a⟩
  ·cases a
def Zj5(g:n<=m){w d e:World}(c:Ext n E w E' d)(h:∀b,b<w.heap.size->e.heap[b]? =d.heap[b]?)(j:e.os=d.os)(o:e.tape=d.tape)(l:e.output=d.output)(k:e.drawn=d.drawn)(p:e.heap.size=d.heap.size):Ext n E w (E'.cut m) e:=
 ⟨ZrY g c.le,j.trans c.os,o.trans c.tape,l.trans c.output,fun i=>by rw[k];exact c.drawn i,by rw[p];exact c.size,fun b a f=>by rw[h b a];exact c.block b a f,fun b a f=>c.own b a (Zng f)⟩
def VR.ZuA{a:AV}{v:Value}(h:VR E a v)(f:Below m a)(c:E.le m E'):VR E' a v:=
 (h.cut f).mono (Env.Zgp m E) ⟨c.F,fun l k b e d=>c.m l k b e (by simp only[Env.cut,if_pos e]at d;exact d),fun l k j v e d=>c.hist l k j v e (by simp only[Env.cut,if_pos e]at d;exact d),c.qd⟩
theorem Zb0{P:Program}{i:Func}{c:Array Value}{R:Ending->World->Prop}{m:Nat}{H:Za}{E:Env}{u:FrameMode}(j:u≠ .run){h:List Deferred}{F:Fence}{n:Nat}:∀(l:List Nat) (w:World),l.Nodup->(∀D∈l,w.heap[D]? =some (.deferred (some []))/\ ¬E.own D)->Zo m H E w->
  (∀a,Zo m H E a->(∀b,b∉l->a.heap[b]? =w.heap[b]?)->a.os=w.os->a.tape=w.tape->a.output=w.output->a.drawn=w.drawn->a.heap.size=w.heap.size->LeavesInM F n P i c R h u a)->
  LeavesInM F n P i c R (l.map mark++h) u w
 |[],w,_,_,hr,hk=>hk w hr (fun _ _=>rfl) rfl rfl rfl rfl rfl
 |D::l,w,hn,hD,hr,hk=>by
  obtain⟨g,o⟩:=hD D sm;obtain⟨z,A⟩:=GN.1 hn;refine⟨j,.inl ⟨D,_,rfl,run_takeDeferred g,?_⟩⟩;refine Zb0 j l _ A (fun k d=>?_) (hr.putObj g (fun _ _ _ e=>by cases e) o) (fun a r B s v t q p=>?_)
  ·obtain⟨x,y⟩:=hD k (Qx _ d);exact⟨(World.putObj_heap_other (show k≠D from fun e=>z (e▸d))).trans x,y⟩
  ·refine hk a r (fun b f=>?_) s v t q (by rw[p,World.putObj_size]);simp only[Ql,not_or]at f;rw[B b f.2,World.putObj_heap_other f.1]
variable {Q:AV->Prop} {caps:LA} {f':FuncId} {T:TT} {P:Program}
theorem Zic(hT:TOK P T){t m:Nat}{w av:Func}{c':Code}{E:Zc}{E0:Env}{s y:World}{a':Act}{g:List Nat}{H:Za}{o:List Value}{f:LN}{u:FrameMode}(hu:u≠ .run)(U:Fun P f' av c')
  (d:Yd ⟨m,dfr f' o::g.map mark⟩ (n+1) w.ntmps E E' a' y) (K:Ext n E0 s E' y) (L:ZcE ⟨s.heap.size,[]⟩ E' (g.map mark) y) (aw:∀D∈g,D<m) (aq:s.heap.size<=m) (hv:VRs E' caps o) (j:∀c∈caps,Below (n+1) c)
  (au:∀p∈f,lkv E.tmps p.1=lkv f p.1/\Below (n+1) (lkv f p.1)) (C:∀l k b,l<n->H l k=some b->b.Below n)
  (hc:Zbz P (n+1) f' caps E.H u fun H1=>∃I s2,H1=full n I H/\AWk n w.ntmps ⟨f,I,H⟩ s2/\PostF P T n w.results.toList (fun r H'=>Q r/\H'=H) .ret s2):
  LeavesInM Fence.wide 0 P w a'.tmps (Zf1 t n E0 s (fun r H'=>Q r/\H'=H) fun _=>False) a'.defers u y:=by
 obtain⟨g0,l,g1,g2,g3⟩:=d.defs;rw[g1];refine Zb0 hu l y g2 (fun D G=>(g3 D G).2) d.heap fun w2 k1 k2 k3 k4 k5 k6 O=>?_
 have ay:Yd ⟨m,dfr f' o::g.map mark⟩ (n+1) w.ntmps E E' {a' with defers:=dfr f' o::g.map mark} w2:=⟨d.size,⟨by rw[O];exact g0,[],rfl,Qac,fun _ h=>by cases h⟩,d.tmps,k1,d.out⟩
 have A:=Zo.leave ay;have M:VRs (E'.cut (n+1)) caps o:=⟨hv.1,fun i B h2=>(hv.2 i B h2).cut (j _ (Qa B))⟩
 refine⟨hu,.inr ⟨fun _=>by simp_all [Fence.wide],.func f',o.toArray,f',o.toArray,rfl,?_,fun _ _=>trivial,?_⟩⟩
 ·simp[dfr,invoke,Y2 U]
 refine(hc (E'.cut (n+1)) w2 o A M).mono ?_;rintro e u' F ⟨⟨v,rfl⟩,R,H1,V,⟨I,s5,rfl,hW,hP⟩,az,q⟩;show LeavesInM _ _ _ _ _ _ (g.map mark) (settle u') F;rw[R];have W:Ext n E0 s V F:=(Zj5 (Uc n) K (fun b j=>k2 b fun hm=>by have:=(g3 b hm).1;simp only at this;omega) k3 k4 k5 k6 O).trans (q.mono (Uc n));have J:ZcE ⟨s.heap.size,[]⟩ (E'.cut (n+1)) (g.map mark) w2:=by
  obtain⟨p0,l',Y,p2,p3⟩:=L;refine⟨by rw[O];exact p0,l',Y,p2,fun D G=>?_⟩;obtain⟨a1,a2,a3⟩:=p3 D G;have ax:D∈g:=by
   have S:∀(a b:List Nat),a.map mark=b.map mark->a=b:=by
    intro a;induction a with
    |nil=>intro b j;cases b with
     |nil=>rfl
     |cons _ _=>cases j
    |cons x a ih=>intro b j;cases b with
     |nil=>cases j
     |cons z b=>
      simp only[Qs,Ug,mark,Deferred.mk.injEq,Target.collected.injEq,and_true]at j;rw[j.1,ih b j.2]
   rw[Qu]at Y;rw[S _ _ Y];exact G
  refine⟨a1,?_,fun h=>a3 (Zng h)⟩;rw[k2 D fun hm=>by have:=(g3 D hm).1;have:=aw D ax;simp only at*;omega];exact a2
 have X:Yd ⟨s.heap.size,[]⟩ n w.ntmps ⟨f,I,H⟩ V {a' with defers:=g.map mark} F:=by
  refine⟨d.size,J.ext q,fun x=>?_,az,C⟩;rcases lkv_mem (tm:=f) (t:=x)with hd|hm
  ·show VR _ (lkv f x) _;rw[hd];exact .dead _
  ·obtain⟨e1,e2⟩:=au _ hm;have B:=d.tmps x;simp only at e1 e2;rw[e1]at B;exact(B.cut e2).mono A.norm q.le
 obtain⟨E5,N,Z⟩:=hW _ V F _ X;exact Jq (a':={a' with defers:=g.map mark}) hT rfl N (W.trans Z) hP
variable {pre:List Oper} {ops:Array Oper}
def Zlu(Y:TOK P T){q n N:Nat}{s:Zc}{E:Env}{w:World}{a:Act}{id:Nat}{o:Oper}{g:Operand}{f':FuncId}{caps:LA}{K:Zc->Prop}
  (t:ops.toList=pre++[o]) (V:o.guard=none) (ho:o.op= .defer {callee:=.value g,args:=#[],argTypes:=#[]}) (v:o.dst=none)
  (h:Xi ⟨P,T,⟨none,⟨q,[]⟩⟩,n,N⟩ plainO ops.toList (fun c=>evT c.tmps g= .fn (.func f') caps/\K c) pre s) (S:Xu N ops.toList=true) (hs:Yd ⟨q,[]⟩ n N s E a w):
  (Code.region id ops false).wpIn (fr none) 0 P (fun e F d=>∃c j m,∃i:List Nat,e=Exit.normal/\K c/\VRs j caps m/\ZcE ⟨q,[]⟩ j (i.map mark) d/\(∀D∈i,D<d.heap.size)/\q<=d.heap.size/\Yd ⟨d.heap.size,dfr f' m::i.map mark⟩ (n+1) N ⟨c.tmps,[],full n c.L c.H⟩ j F d/\Ext n E w j d) a w:=by
 refine wpIn_region ?_;have M:=XK S;have J:=VI (cx:=⟨P,T,⟨none,⟨q,[]⟩⟩,n,N⟩) Y (op:=plainO) rfl (post:=[o]) (E0:=E) (w0:=w) (Q':=fun e F d=>∃c j m,∃i:List Nat,e=Exit.normal/\K c/\VRs j caps m/\ZcE ⟨q,[]⟩ j (i.map mark) d/\(∀D∈i,D<d.heap.size)/\q<=d.heap.size/\Yd ⟨d.heap.size,dfr f' m::i.map mark⟩ (n+1) N ⟨c.tmps,[],full n c.L c.H⟩ j F d/\Ext n E w j d) M pre 0 s (by simpa using t) h ?_ E w a hs (.refl _ _ _)
 ·simpa using J
 intro c j B u hF f G;simp only[Qy];have C:pre.length<ops.size:=by
  have:=congrArg List.length t;simp at this;omega
 have O:ops[pre.length]? =some o:=by
  have:ops.toList[pre.length]? =some o:=by rw[t];simp
  simpa using this
 rw[QB (by simpa using C)];simp only[MK,wpOpsIn,O];have p:Region.wanted o (yielded ops u.tmps)=true:=by simp[Region.wanted,V]
 rw[p];simp only[if_true];obtain⟨hv,Z⟩:=hF;have r:=Zaw f.tmps g;rw[hv]at r;generalize hy:u.eval g=y at r;cases r with|fn _ _ m hl2 hvs=>
 have A:o.semAt (fr none).round u.eval=execOp u.eval o:=Oper.semAt_none _ _;have x:(execOp u.eval o).run P B= .ok (.defer (dfr f' m)) B:=by
  simp[execOp,ho,resolve,hy,Deferred.ofValue,dfr]
 refine⟨fun _ _=>trivial,?_⟩;rw[A,x,Oper.uponIn_defer,v];have I:ops.size<=pre.length+1:=by
  have:=congrArg List.length t;simp at this;omega
 rw[Ux (by simpa using I)];obtain⟨Q,i,g1,X,R⟩:=f.defs;have z:∀D∈i,D<B.heap.size:=fun D W=>(QO.1 (R D W).2.1).1
 refine⟨c,j,m,i,rfl,Z,⟨hl2,hvs⟩,⟨Q,i,sm,X,R⟩,z,Q,⟨f.size,⟨Qi _,[],?_,Qac,fun _ h=>by cases h⟩,f.tmps,f.heap.enter,fun l k b t U=>f.heap.out t U⟩,G⟩;show dfr f' m::u.defers=_;rw[g1];simp
def Zn3{cx:Cx}{Q:Exit->Zc->Prop}{W:Exit->Act->World->Prop}{d:Code}{E0:Env}{w0:World}:∀(l:List Code) (s:Zc) (E:Env) (w:World) (a:Act),Yd cx.φ.B cx.n cx.N s E a w->Ext cx.n E0 w0 E w->AKc cx (l.map .code) Q s->
  (∀s' E' a' w',Q .normal s'->Yd cx.φ.B cx.n cx.N s' E' a' w'->Ext cx.n E0 w0 E' w'->d.wpIn (fr cx.φ.ro) 0 cx.P W a' w')->(∀e s' E' a' w',e≠ .normal->Q e s'->Yd cx.φ.B cx.n cx.N s' E' a' w'->Ext cx.n E0 w0 E' w'->W e a' w')->(seqs l d).wpIn (fr cx.φ.ro) 0 cx.P W a w
 |[],s,E,w,a,hs,hx,h,hn,he=>hn s E a w h hs hx
 |c::r,s,E,w,a,hs,hx,h,hn,he=>by
  refine wpIn_seq (wpIn_mono (h E w a hs) ?_);rintro e a' w' ⟨s',E',g,f,b⟩;cases e with
  |normal=>exact Zn3 r s' E' w' a' f (hx.trans b) g hn he
  |_=>exact he _ s' E' a' w' sm (ZfV (r:=r) sm g) f (hx.trans b)
def ZiB{t n:Nat}{f:FuncId}{fn fn':Func}{c':Code}{args caps:LA}{H:Za}{Q:AV->Prop}(O:TOK P T)(hf:Fun P f fn (Zz fn))(hN:args.length<=fn.ntmps)(S:Fun P f' fn' c')(l:List Code){id:Nat}{o:Oper}{g:Operand}{R:Code}(tm':LN)(s1 S2:Zc)
  (hb:Zz fn=seqs l (.seq (.region id ops false) R)) (hl:ops.toList=pre++[o]) (hg:o.guard=none) (ho:o.op= .defer {callee:=.value g,args:=#[],argTypes:=#[]}) (y:o.dst=none) (hd:Xu fn.ntmps ops.toList=true) (v:∀c∈caps,Below (n+1) c) (ax:∀p∈tm',Below (n+1) (lkv tm' p.1))
  (C:∀B,AKc ⟨P,T,⟨none,B⟩,n,fn.ntmps⟩ (l.map .code) (fun e s'=>(e= .normal/\AWk n fn.ntmps s' s1)\/(e= .ret/\PostF P T n fn.results.toList (fun r H'=>Q r/\H'=H) .ret s')) ⟨numbered 0 args,[],H⟩)
  (K:∀B,Xi ⟨P,T,⟨none,B⟩,n,fn.ntmps⟩ plainO ops.toList (fun s=>evT s.tmps g= .fn (.func f') caps/\s=S2) pre s1)
  (h3:∀B,AKc ⟨P,T,⟨none,B⟩,n+1,fn.ntmps⟩ [.code R] (fun e s'=>∃u:FrameMode,((e= .normal/\u= .returning)\/(e= .ret/\u= .returning)\/(e= .panic (ch t)/\u= .panicking (ch t)))/\(∀p∈tm',lkv s'.tmps p.1=lkv tm' p.1)/\
   Zbz P (n+1) f' caps s'.H u fun H1=>∃L2 s,H1=full n L2 H/\AWk n fn.ntmps ⟨tm',L2,H⟩ s/\PostF P T n fn.results.toList (fun r H'=>Q r/\H'=H) .ret s) ⟨S2.tmps,[],full n S2.L S2.H⟩):
  Zh P n f args H fun r H'=>Q r/\H'=H:=by
 have key:ZY P t n f args H (fun r H'=>Q r/\H'=H) (fun _=>False):=fun E w vs hr hv=>by
  have q:fn.body=some (seqs l (.seq (.region id ops false) R)):=hb▸hf.body;refine(callsIn_wide (n:=0)).1 (callsIn_of_wp_marks hf.get q trivial ?_);refine Zn3 (cx:=⟨P,T,⟨none,⟨w.heap.size,[]⟩⟩,n,fn.ntmps⟩) (E0:=E) (w0:=w) l _ E w _ (Yd.start hr hv hN) (.refl _ _ _) (C ⟨w.heap.size,[]⟩) ?_ ?_
  ·intro s' E' a' w' N j a;rcases N with⟨_,hw⟩|⟨e,_⟩
   rotate_left
   ·cases e
   obtain⟨E1,V,U⟩:=hw _ E' w' a' j;refine wpIn_seq (wpIn_mono (Zlu O hl hg ho y (K _) hd V) ?_);rintro e2 a2 w2 ⟨s,E2,M,l0,rfl,rfl,x,F,G,Z,Y,I⟩;refine wpIn_mono (h3 ⟨w2.heap.size,dfr f' M::l0.map mark⟩ E2 w2 a2 Y) ?_;rintro e3 a3 w3 ⟨s3,E3,⟨u,X,z,A⟩,J,d⟩;have W:=((a.trans U).trans I).trans (d.mono (Uc n));have m:u≠ .run->LeavesInM Fence.wide 0 P fn a3.tmps (Zf1 t n E w (fun r H'=>Q r/\H'=H) fun _=>False) a3.defers u w3:=fun X=>
    Zic O X S J W (F.ext d) G Z ⟨x.1,fun i C K=>(x.2 i C K).ZuA (v _ (Qa C)) d.le⟩ v (fun p D=>⟨z p D,ax p D⟩) (fun l k b hl hb=>hr.out hl hb) A
   rcases X with⟨rfl,rfl⟩|⟨rfl,rfl⟩|⟨rfl,rfl⟩
   ·exact m sm
   ·exact m sm
   ·exact m sm
  ·intro e s' E' a' w' he N j a;rcases N with⟨rfl,_⟩|⟨rfl,D⟩
   ·exact absurd rfl he
   ·exact Jq O rfl j a D
 exact key.ret fun _ h=>h
end
def Zfh{P:Program}{m:Nat}{H:Za}{E:Env}{cs:List Frame}:∀(l:List Nat) (w:World) (b:Frame),b.mode≠ .run->b.defers=l.map mark->l.Nodup->(∀D∈l,w.heap[D]? =some (.deferred (some []))/\ ¬E.own D)->Zo m H E w->
  ∃w2,StepsIn (Machine.fenced P Fence.wide) P (lone b cs w) (lone {b with defers:=[]} cs w2)/\Zo m H E w2/\(∀x,x∉l->w2.heap[x]? =w.heap[x]?)/\w2.os=w.os/\w2.tape=w.tape/\w2.output=w.output/\w2.drawn=w.drawn/\w2.heap.size=w.heap.size
 |[],w,b,hb,hd,_,_,hr=>⟨w,by
   have:({b with defers:=[]}:Frame)=b:=by cases b;simp only[UJ]at hd;subst hd;rfl
   rw[this];exact StepsIn.refl _,hr,fun _ _=>rfl,rfl,rfl,rfl,rfl,rfl⟩
 |D::l,w,b,hb,hd,hn,hD,hr=>by
  obtain⟨h1,h2⟩:=hD D sm;obtain⟨n1,n2⟩:=GN.1 hn;have hs:=step_collected (cs:=cs) (P:=P) hb (d:=mark D) (ds:=l.map mark) hd rfl (run_takeDeferred h1);obtain⟨w2,q0,q1,q2,q3,q4,q5,q6,q7⟩:=Zfh (P:=P) (cs:=cs) l (w.putObj D (.deferred none)) {b with defers:=[]++l.map mark} hb rfl n2 (fun D' hD'=>by
   obtain⟨a1,a2⟩:=hD D' (Qx _ hD');exact⟨(World.putObj_heap_other (show D'≠D from fun e=>n1 (e▸hD'))).trans a1,a2⟩) (hr.putObj h1 (fun _ _ _ e=>by cases e) h2)
  refine⟨w2,.head (fenced_wide _ _) hs q0,q1,fun x hx=>?_,q3,q4,q5,q6,by rw[q7,World.putObj_size]⟩;simp only[Ql,not_or]at hx;rw[q2 x hx.2,World.putObj_heap_other hx.1]
section
variable {u:FrameMode} {P:Program}
def Zdx{f:FuncId}{fn:Func}{c:Code}{d:Array Value}{w:World}{R:Ending->FrameMode->World->Prop}(z:P.funcs[f]? =some fn)(F:fn.body=some c)
  (h:∀(a:Frame) (cs:List Frame),a.mode=u->c.wpSIn Fence.wide 0 P (fun e r t i=>(e= .normal\/e= .ret)/\ ∃p m H E l,t={a with mode:=p}::cs/\r.defers=List.map mark l/\l.Nodup/\(∀D∈l,i.heap[D]? =some (.deferred (some []))/\ ¬Env.own E D)/\Zo m H E i/\
   ∀j,Zo m H E j->(∀x,x∉l->j.heap[x]? =i.heap[x]?)->j.os=i.os->j.tape=i.tape->j.output=i.output->j.drawn=i.drawn->j.heap.size=i.heap.size-> ∃v,(results fn r.tmps).run P j= .ok v j/\R (.returned v) p j)
   {tmps:=d++Array.replicate (fn.ntmps - d.size) undef,defers:=[]} (a::cs) w):CallsDIn Fence.wide 0 P f d u w R:=by
 refine⟨trivial,fun a cs Q k=>?_⟩
 let b:Frame:={(default:Frame)with fn:=f,kind:=.deferred,roundOf:=none}
 have q:Frame.enter P f d .deferred=b.atR {tmps:=d++Array.replicate (fn.ntmps - d.size) undef,defers:=[]} [.code c]:=by
  simp[Frame.enter,Frame.atR,z,F,b]
 obtain⟨e,r,t,i,Y,⟨U,p,m,H,E,l,rfl,K,B,S,I,L⟩,o⟩:=h a cs Q b [] rfl rfl trivial k;rw[<-q]at o;have s:∀g,StepsIn (Machine.fenced P Fence.wide) P (lone (Frame.enter P f d .deferred) (a::cs) w) (lone {b.atR r g with mode:=.returning} ({a with mode:=p}::cs) i)-> ∃e p i fr,R e p i/\
   ComesIn (Machine.fenced P Fence.wide) P (lone (Frame.enter P f d .deferred) (a::cs) w) (lone fr ({a with mode:=p}::cs) i) e/\fr.kind= .deferred/\fr.fn=f/\fr.going P i e:=fun g y=>by
  obtain⟨j,A,J,X,M,O,N,G,C⟩:=Zfh (P:=P) (cs:={a with mode:=p}::cs) l i {b.atR r g with mode:=.returning} sm K B S I;obtain⟨v,V,W⟩:=L j J X M O N G C;exact⟨.returned v,p,j,_,W,StepsIn.trans y A,rfl,rfl,rfl,rfl,fn,z,V⟩
 rcases U with rfl|rfl
 ·exact s [] (StepsIn.trans o (.one (fenced_calm (fr:=b.atR r []) (n:=0) trivial (show Fence.wide.room ((_::cs).length+1+0) from k) rfl) (stepR_end rfl)))
 ·obtain⟨g,y⟩:=o.1 rfl;exact s g y
variable {ops:Array Oper}
def Zsv{P:Program}{o:Oper}{E:Nat}{Q:Exit->Act->List Frame->World->Prop}{a:Act}{cs c:List Frame}{w:World}{v:Value}(s:ops[0]? =some o)(G:o.op= .call {callee:=.builtin .recover,args:=#[],argTypes:=#[]})(z:o.guard=none)
  (j:recoverD cs=some (v,c)\/(recoverD cs=none/\v= .nilIface/\c=cs))
  (h:wpOpsIn Fence.wide 0 P ops (fun e u r=>Q e u c r) ((List.range ops.size).drop 1) (a.put o.dst v) w):(Code.region E ops false).wpSIn Fence.wide 0 P Q a cs w:=fun b k y d B l=>by
 have C:0<ops.size:=(QO.1 s).1;obtain⟨rest,hrg,hrd⟩:∃rest,List.range ops.size=0::rest/\(List.range ops.size).drop 1=rest:=by
  obtain⟨k,t⟩:∃k,ops.size=k+1:=⟨ops.size - 1,om⟩
  rw[t,List.range_succ_eq_map];exact⟨_,rfl,rfl⟩
 rw[hrd]at h;have g:c.length=cs.length:=by
  rcases j with h|⟨_,_,rfl⟩
  ·exact recoverD_length h
  ·rfl
 have D:Region.wanted o (yielded ops a.tmps)=true:=by simp[Region.wanted,z]
 have m:=stepGR_op (P:=P) (b:=b) (a:=a) (k:=k) (cs:=cs) (w:=w) (rest:=rest) s D;rw[d,Oper.semAt_none]at m;have i:∀v,(b.atR a (.inRegion ops (0::rest)::k)).finish v=b.atR (a.put o.dst v) (.inRegion ops rest::k):=by
  intro v;rw[Frame.finish_atR,s];rfl
 have x:(execOp a.eval o).run P w= .ok .recover w:=by simp[execOp,G,resolve,invoke,builtin]
 have t:(b.atR a (.inRegion ops (0::rest)::k)).kind= .deferred:=y;have f:=tryRecover_deferred t cs;have p:step P (lone (b.atR a (.inRegion ops (List.range ops.size)::k)) cs w)= .next (lone (b.atR (a.put o.dst v) (.inRegion ops rest::k)) c w):=by
  rw[hrg];refine step_lone_go ?_;rcases j with h|⟨h,rfl,rfl⟩
  ·rw[m,<-i];simp only[Frame.atR,d]at f⊢;simp[stepG.apply,x,f,h]
  ·rw[m,<-i];simp only[Frame.atR,d]at f⊢;simp[stepG.apply,x,f,h]
 obtain⟨e,u,r,A,q⟩:=wp_opsIn (F:=Fence.wide) (n:=0) _ _ _ h b k c d B (g▸l);exact⟨e,u,c,r,g,A,.of_steps (.head (fenced_wide _ _) stepR_region (.one (fenced_wide _ _) p)) q⟩
def Zf8{T:TT}{m f:Nat}{fn:Func}{args:LA}{H:Za}{t:TypeId}{u:FrameMode}{Q:Za->Prop}{id:Nat}{o:Oper}{post:List Oper}{C:Code}{d:Tmp}{x:AV}(hT:TOK P T)(hf:Fun P f fn (.seq (.region id ops false) C))(hN:args.length<=fn.ntmps)(hres:fn.results= #[])
  (hl:ops.toList=o::post) (ho:o.op= .call {callee:=.builtin .recover,args:=#[],argTypes:=#[]}) (hg:o.guard=none) (hd:o.dst=some d) (hu:(u= .returning/\x= .nili)\/(u= .panicking (ch t)/\x= .ifc t (.agg [])))
  (h:∀B,Xi ⟨P,T,⟨none,B⟩,m,fn.ntmps⟩ plainO ops.toList (AKc ⟨P,T,⟨none,B⟩,m,fn.ntmps⟩ [.code C] (fun e s'=>(e= .normal\/e= .ret)/\Q s'.H)) post ⟨(d,x)::numbered 0 args,[],H⟩)
  (hdo:Xu fn.ntmps ops.toList=true:=by kernel_rfl):Zbz P m f args H u Q:=fun E w vs hr hv=>by
 have hdd:=XK hdo;refine Zdx hf.get hf.body fun c₀ cs hm=>?_
 obtain⟨v,u',hvx,hst,hrec⟩:∃v u',VR E x v/\settle u'= .returning/\(recoverD (c₀::cs)=some (v,{c₀ with mode:=u'}::cs)\/(recoverD (c₀::cs)=none/\v= .nilIface/\{c₀ with mode:=u'}::cs=c₀::cs)):=by
  rcases hu with⟨rfl,rfl⟩|⟨rfl,rfl⟩
  ·exact⟨.nilIface,.returning,.nili,rfl,.inr ⟨by simp[recoverD,hm],rfl,by rw[<-hm]⟩⟩
  ·exact⟨_,_,.ifc t _ (.agg #[]) (.agg [] [] rfl fun i h=>absurd h sm),rfl,.inl (by simp[recoverD,hm,ch];rfl)⟩
 have hs0:=Yd.start (fn:=fn) hr hv hN;have h0:ops[0]? =some o:=by
  have:=congrArg (·[0]?) hl;simpa using this
 refine wpSIn_seq (Zsv h0 ho hg hrec ?_);have hmem:o∈ops.toList:=by rw[hl];simp
 rw[hd];refine VI (cx:=⟨P,T,⟨none,⟨w.heap.size,[]⟩⟩,m,fn.ntmps⟩) hT (op:=plainO) rfl (post:=[]) (E0:=E) (w0:=w) hdd post 1 ⟨(d,x)::numbered 0 args,[],H⟩ (by rw[hl];simp) (h ⟨w.heap.size,[]⟩) ?_ E w _ ⟨by rw[size_put];exact hs0.size,by rw[XJ];exact hs0.defs,fun t=>?_,hs0.heap,hs0.out⟩ (.refl _ _ _)
 ·intro s' E' w' a' hF hs' hx';have hdr:(List.range ops.size).drop (1+post.length)=[]:=Ux (by
   have:=congrArg List.length hl;simp at this⊢;omega)
  rw[hdr];show C.wpSIn _ _ _ _ _ _ _;refine wpSIn_of_wpIn rfl (wpIn_mono (hF E' w' a' hs') ?_);rintro e a2 w2 ⟨s2,E2,⟨he,hQ⟩,hs2,hx2⟩;have hx3:=hx'.trans hx2;obtain⟨g0,l,g1,g2,g3⟩:=hs2.defs;refine⟨he,u',m+1,full m s2.L s2.H,E2,l,rfl,by rw[g1];simp,g2,fun D hD=>(g3 D hD).2,hs2.heap,fun w3 k1 k2 k3 k4 k5 k6 k7=>?_⟩;have hs4:Yd ⟨w.heap.size,[]⟩ m fn.ntmps s2 E2 {a2 with defers:=[]} w3:=⟨hs2.size,.nil _ (by rw[k7];exact g0),hs2.tmps,k1,hs2.out⟩
  refine⟨.tuple #[],by simp[Zdg,hres,Sem.run_pure],⟨_,rfl⟩,hst,s2.H,_,hQ,Zo.leave hs4,Zj5 (Qi m) hx3 (fun b hb=>k2 b fun hm=>by have:=(g3 b hm).1;simp only at this;omega) k3 k4 k5 k6 k7⟩
 ·rw[Vd (d:=some d) hs0.size (fun x hx=>hdd o hmem x (hd.trans hx))];show VR E (lkv (Yf (numbered 0 args) (some d) x) t) _;rw[VZ];split
  ·exact hvx
  ·exact hs0.tmps t
end
def Zo.ZnQ{m:Nat}{H:Za}{E:Env}{w:World}(hr:Zo m H E w){l k n g cap e sz off:Nat}{cs vs:LA}{us:List Value}(i:E.hist l k n=some (.slice (some ⟨g,0,none⟩) n cap))(x:H l k=some (.Zg e sz cs n))(hn:0<n)(h:VRs E vs us)(hl:off+vs.length<=cs.length)
  {c:Array Value} (y:w.heap[g]? =some (.cells c e (0,0))):
  Zo m (H.upd l k (.Zg e sz (splice cs off vs) n)) E (w.setRow g (c.toList.take off++us++c.toList.drop (off+us.length)).toArray)/\Ext m E w E (w.setRow g (c.toList.take off++us++c.toList.drop (off+us.length)).toArray):=by
 obtain⟨c',u,f,v,C,I,t,j,G⟩:=hr.mrow i x hn;rw[f]at y;cases y;have a:us.length=vs.length:=h.1;have b:=j.1;have s:n*sz<=cap*sz:=QF _ v;have o:(splice cs off vs).length=cs.length:=by simp only[splice,Qh,QJ,QL];omega
 obtain⟨⟨_,J,d,q,_⟩,p⟩:=hr.Zg l k e sz cs n (hr.norm.Xg i) x;rw[i]at d;cases d;exact hr.turn (w':=w.setRow g (c.toList.take off++us++c.toList.drop (off+us.length)).toArray) (.inr u) (.Zg e sz (splice cs off vs) n) (fun _=>rfl) rfl rfl rfl (fun _=>Qi _) (by simp[World.setRow])
  (fun A r=>setRow_other w g A _ r) t ⟨⟨by rw[o,G],_,i,q,.inr ⟨g,cap,_,rfl,u,setRow_heap w g c _ e (0,0) f,v,C,by simp only[UZ,Qh,QJ,QL,Uh]at a b s⊢;omega,t,by
   have F:((c.toList.take off++us++c.toList.drop (off+us.length)).toArray.toList).take (n*sz)=(c.toList.take (n*sz)).take off++(us++(c.toList.take (n*sz)).drop (off+vs.length)):=by
    rw[U3,a,Q5,Qap,Qap,QaJ,QaJ,Qa5];have B:min off (n*sz)=off:=om;have z:min (n*sz) off=off:=om;have D:(c.toList.take off).length=off:=by rw[QJ];simp;omega
    rw[B,z,D,a,Ud (l:=us) om,show n*sz - off - vs.length=n*sz - (off+vs.length) by omega]
   rw[F];unfold splice;exact(j.take off).append (h.append (j.drop _))⟩⟩,p⟩
section
variable {P:Program} {T:TT} {o:Oper} {ρ:Operand->AV}
def XW{m:Nat}{H:Za}{v:AV}{t:TypeId}{x:Operand}{lo A:Option Operand}{r re:Zp}{e N:TypeId}{sz p q j n:Nat}{a h:Int}{cs:LA}(L:TOK P T)(ho:o.op= .slice t x lo A none)(S:T t=some r)(O:r.td= .slice e)
  (G:T e=some re) (hv:ρ x= .msl sz q j n) (X:H q j=some (.Zg N p cs n)) (J:bnd ρ lo 0=some a) (W:bnd ρ A n=some h) (ha:0<=a) (Q:a<=h) (h3:h<=n) (hn:0<n) (he:(if a<n then .sub re.size q j n a.toNat (h.toNat - a.toNat)else .sl re.size [] .any)=v):
  Z5 P m o ρ H v H:=fun E w f hr b=>by
 subst he;have hx:=b x sO;have hb:∀y,lo=some y\/A=some y->VR E (ρ y) (f.eval y):=fun y u=>b y (by rcases u with rfl|rfl<;>simp[ho,Op.operands])
 rw[hv]at hx;have R:q<m:=by
  have B:=hx.lvl hr.norm;cases B with|msl _ _ _ _ hb'=>exact hb'
 obtain⟨⟨_,v0,F,_,I⟩,_⟩:=hr.Zg q j N p cs n R X;obtain⟨d,V,z,hf⟩:=Zd (L t r S);obtain⟨d',i',z',l⟩:=Zd (L e re G);have hd:=ZE (O▸hf.fits);subst hd;have he:execOp f.eval o=(do let v<-Instr.sliceAt t (f.eval x) (lo.map f.eval) (A.map f.eval) none;pure (Next.value v)):=by simp only[execOp,ho];rfl
 generalize u:f.eval x=y at hx;cases hx with
 |mnil=>omega
 |msl _ _ _ _ g cap hh'=>
  have hcap:n<=cap:=by
   rcases I with⟨ad,M,Z,U⟩|⟨g',K,cur,M,Z,U,q4,_⟩
   ·omega
   ·rw[F,M]at hh';simp only[Qp,Value.slice.injEq]at hh';omega
  have c:=WJ (P:=P) (s:=true) (len:=n) (cap:=cap) hb J W ha Q om w;by_cases k:a<n
  ·have D:=VR.sub (E:=E) re.size q j n a.toNat (h.toNat - a.toNat) g cap hh' om;rw[if_pos k];refine⟨_,E,w,.inl ?_,D,hr,.refl m E w⟩;rw[he,u];have C:¬cap=a.toNat:=om;simp[Instr.sliceAt,Instr.slice,run_underlying hf.und,c,ZA l,ZC,C]
  ·have Y:h.toNat - a.toNat=0:=om;rw[if_neg k];refine⟨.slice (some (if cap=a.toNat then⟨g,0,none⟩else⟨g,a.toNat*re.size,none⟩)) 0 (cap - a.toNat),E,w,.inl ?_,?_,hr,.refl m E w⟩
   ·rw[he,u];simp[Instr.sliceAt,Instr.slice,run_underlying hf.und,c,ZA l,ZC,Y];split<;>rfl
   ·split
    ·exact VR.sl re.size [] .any g 0 (cap - a.toNat) (fun _ _=>undef) (fun i h=>absurd h (Qj _)) (fun i j h=>absurd h (Qj _)) (fun i h=>absurd h (Qj _)) (Us _) (Us _) trivial
    ·exact VR.sl re.size [] .any g (a.toNat*re.size) (cap - a.toNat) (fun _ _=>undef) (fun i h=>absurd h (Qj _)) (fun i j h=>absurd h (Qj _)) (fun i h=>absurd h (Qj _)) (Us _) (Us _) trivial
def Zje{m:Nat}{H:Za}{v:AV}{t:TypeId}{x:Operand}{lo p:Option Operand}{r re:Zp}{e Q:TypeId}{sz l q j n off k:Nat}{a h:Int}{cs:LA}(N:TOK P T)(ho:o.op= .slice t x lo p none)(V:T t=some r)(R:r.td= .slice e)
  (I:T e=some re) (hv:ρ x= .sub sz q j n off k) (D:sz=re.size) (Z:H q j=some (.Zg Q l cs n)) (L:bnd ρ lo 0=some a) (Y:bnd ρ p k=some h) (ha:0<=a) (S:a<=h) (h3:off+h.toNat<=n) (hn:off+a.toNat<n) (f:.sub re.size q j n (off+a.toNat) (h.toNat - a.toNat)=v):
  Z5 P m o ρ H v H:=fun E w c hr b=>by
 subst f;have hx:=b x sO;have hb:∀y,lo=some y\/p=some y->VR E (ρ y) (c.eval y):=fun y K=>b y (by rcases K with rfl|rfl<;>simp[ho,Op.operands])
 rw[hv]at hx;have U:q<m:=by
  have u:=hx.lvl hr.norm;cases u with|sub _ _ _ _ _ _ hb'=>exact hb'
 obtain⟨⟨_,v0,G,_,J⟩,_⟩:=hr.Zg q j Q l cs n U Z;obtain⟨d,X,z,hf⟩:=Zd (N t r V);obtain⟨d',i',z',B⟩:=Zd (N e re I);have hd:=ZE (R▸hf.fits);subst hd;have he:execOp c.eval o=(do let v<-Instr.sliceAt t (c.eval x) (lo.map c.eval) (p.map c.eval) none;pure (Next.value v)):=by simp only[execOp,ho];rfl
 generalize K:c.eval x=y at hx;cases hx with
 |sub _ _ _ _ _ _ g cap hh' hm=>
  have hcap:n<=cap:=by
   rcases J with⟨ad,O,q2,W⟩|⟨g',M,cur,O,q2,W,q4,_⟩
   ·omega
   ·rw[G,O]at hh';simp only[Qp,Value.slice.injEq]at hh';omega
  have i:=WJ (P:=P) (s:=true) (len:=k) (cap:=cap - off) hb L Y ha S om w;have C:=VR.sub (E:=E) re.size q j n (off+a.toNat) (h.toNat - a.toNat) g cap hh' om;refine⟨_,E,w,.inl ?_,C,hr,.refl m E w⟩;rw[he,K];have A:¬cap - off=a.toNat:=om;have F:cap - off - a.toNat=cap - (off+a.toNat):=om;subst D;simp[Instr.sliceAt,Instr.slice,run_underlying hf.und,i,ZA B,ZC,A,F,Q9]
def Ji{m:Nat}{H:Za}{t:TypeId}{x:Operand}{r a:Zp}{e q j n off k s:Nat}{W D:LA}(V:TOK P T)(ho:o.op= .call {callee:=.builtin .clear,args:=#[x],argTypes:=#[t]})(h1:T t=some r)(h2:r.td= .slice e)
  (R:T e=some a) (hs:s=a.size) (hv:ρ x= .sub s q j n off k) (Y:H q j=some (.Zg e s W n)) (Q:0<s) (J:(zeroV a).cells=a.zero) (hk:0<k) (hD:splice W (off*s) (flat (List.replicate k (zeroV a)))=D):
  Z5 P m o ρ H (.tup []) (H.upd q j (.Zg e s D n)):=fun E w ac Z v=>by
 subst hs;subst hD;have L:=v x sC;rw[hv]at L;obtain⟨d,ax,z,X⟩:=Zd (V t r h1);obtain⟨d',i',M,b⟩:=Zd (V e a R);have hd:=ZE (h2▸X.fits);subst hd;generalize hy:ac.eval x=y at L;cases L with
 |sub _ _ _ _ _ _ g cap hh hm=>
  have hn:0<n:=om;obtain⟨c,q1,q2,q3,q4,q5,q6,q7,q8⟩:=Z.mrow hh Y hn;have G:VRs E (zeroV a).cells M.cells.toList:=by rw[J];exact Y5 b.zfits
  have f:=ZbD G (by rw[b.zsize];exact Q) k;have U:(zeroV a).cells.length=a.size:=by rw[G.1.symm,Uh,b.zsize]
  have I:(flat (List.replicate k (zeroV a))).length=k*a.size:=by rw[flat_length (k:=a.size) (fun x L=>by rw[(Ue.1 L).2];exact U),GX]
  have K:∀u∈(Builtin.zeroCells M.cells k).toList,u.oneCell'=true:=fun u hu=>by
   obtain⟨i,hi,rfl⟩:=QK hu;have B:i<(flat (List.replicate k (zeroV a))).length:=by rw[<-f.1];exact hi
   refine(f.2 i B hi).one ?_;have l:(flat (List.replicate k (zeroV a)))[i]∈flat (List.replicate k (zeroV a)):=Qa B;simp only[flat,QI]at l;obtain⟨y',S,C⟩:=l;rw[(Ue.1 S).2,J]at C;exact fitsAll_one b.zfits _ C
  have p:(Builtin.zeroCells M.cells k).toList.length=k*a.size:=by rw[f.1,I]
  have ay:n*a.size<=cap*a.size:=QF _ q3;have F:off*a.size+k*a.size<=n*a.size:=by rw[<-Q9];exact QF _ hm
  obtain⟨O,N⟩:=Z.ZnQ hh Y hn f (off:=off*a.size) (by rw[I,q8];exact F) q2;have A:=run_storeCells_at P g (off*a.size) e (Builtin.zeroCells M.cells k).toList 0 c w q2 (by rw[p];omega) K;simp only[UC]at A;refine⟨.tuple #[],E,_,.inl ?_,.tup [] [] rfl (fun i h=>absurd h (Qj _)),O,N⟩;cases k with
  |zero=>omega
  |succ k=>
   simp[execOp,ho,hy,resolve,invoke,builtin,Builtin.clear_,run_underlying X.und,Yg b,A]
def ZgW{m:Nat}{H:Za}{t:TypeId}{x y:Operand}{r re:Zp}{e q j n i off k sz:Nat}{cs D:LA}(W:TOK P T)(ho:o.op= .call {callee:=.builtin .append,args:=#[x,y],argTypes:=#[t,t]})(h1:T t=some r)(h2:r.td= .slice e)
  (N:T e=some re) (hs:sz=re.size) (hv:ρ x= .sub sz q j n 0 i) (hw:ρ y= .sub sz q j n off k) (Z:H q j=some (.Zg e sz cs n)) (ay:0<sz) (hk:0<k) (Q:i+k<=n) (F:∀a∈cs,a.one=true) (hD:splice cs (i*sz) ((cs.drop (off*sz)).take (k*sz))=D):
  Z5 P m o ρ H (.sub sz q j n 0 (i+k)) (H.upd q j (.Zg e sz D n)):=fun E w X hr h=>by
 subst hs;subst hD;have hx:=h x sC;have R:=h y sC;rw[hv]at hx;rw[hw]at R;obtain⟨d,ax,z,hf⟩:=Zd (W t r h1);obtain⟨d',i',z',b⟩:=Zd (W e re N);have hd:=ZE (h2▸hf.fits);subst hd;generalize K:X.eval x=xv at hx;generalize V:X.eval y=yv at R;cases hx with
 |sub _ _ _ _ _ _ g cap hh hm=>
 cases R with
 |sub _ _ _ _ _ _ g2 cap2 hhy hmy=>
  rw[hh]at hhy;simp only[Qp,Value.slice.injEq,Addr.mk.injEq]at hhy;obtain⟨⟨rfl,_,_⟩,_,rfl⟩:=hhy;have hn:0<n:=om;obtain⟨c,q1,U,q3,q4,q5,q6,q7,q8⟩:=hr.mrow hh Z hn;have az:n*re.size<=cap*re.size:=QF _ q3;have Y:off*re.size+k*re.size<=n*re.size:=by rw[<-Nat.add_mul];exact QF _ hmy
  have C:i*re.size+k*re.size<=n*re.size:=by rw[<-Q9];exact QF _ Q
  have f:VRs E ((cs.drop (off*re.size)).take (k*re.size)) (((c.toList.take (n*re.size)).drop (off*re.size)).take (k*re.size)):=(q7.drop _).take _;have s:((cs.drop (off*re.size)).take (k*re.size)).length=k*re.size:=by simp only[QJ,QL];omega
  have l:(((c.toList.take (n*re.size)).drop (off*re.size)).take (k*re.size)).length=k*re.size:=by rw[f.1,s]
  have p:∀I v,(((c.toList.take (n*re.size)).drop (off*re.size)).take (k*re.size))[I]? =some v->w.cell? ((⟨g,off*re.size,none⟩:Addr).add I)=some v:=fun I v S=>by
   have L:I<k*re.size:=by rw[<-l];exact(Q7.1 S).1
   rw[QT L,Uy,QT om]at S;rw[ZC];simp only[World.cell?,U];simpa using S
  have O:∀u∈((c.toList.take (n*re.size)).drop (off*re.size)).take (k*re.size),u.oneCell'=true:=fun u hu=>by
   obtain⟨ii,hi,rfl⟩:=QK hu;have A:ii<((cs.drop (off*re.size)).take (k*re.size)).length:=by rw[<-f.1];exact hi
   exact(f.2 ii A hi).one (F _ (UU (UW (Qa A))))
  obtain⟨M,J⟩:=hr.ZnQ hh Z hn f (off:=i*re.size) (by rw[s,q8];exact C) U;have G:=run_append_room (P:=P) w t o.type e i' hf.und b.info g i cap c U ⟨g,off*re.size,none⟩ k (cap - off) _ (by rw[l,b.size]) p O om (by rw[l,b.size,q5];omega);rw[b.size]at G;have B:=VR.sub (E:=E) re.size q j n 0 (i+k) g cap hh om;simp only[Gp,MV]at B;refine⟨_,E,_,.inl (YI ho ?_),B,M,J⟩;rw[K,V];simp only[Gp,MV];exact G
def Zdf{m:Nat}{H:Za}{t:TypeId}{x y:Operand}{r G:Zp}{e B:TypeId}{l h q j n b i C:Nat}{I:Own}{z:LA}(v:TOK P T)(ho:o.op= .call {callee:=.builtin .append,args:=#[x,y],argTypes:=#[t,t]})(A:T t=some r)(u:r.td= .slice e)
  (f:T e=some G) (K:ρ x= .sub l q j n b i) (D:ρ y= .sl C [] I) (F:H q j=some (.Zg B h z n)) (J:0<n):Z5 P m o ρ H (.sub l q j n b i) H:=fun E w k s a=>by
 have d:=a x sC;have p:=a y sC;rw[K]at d;rw[D]at p;refine⟨k.eval x,E,w,.inl (YI ho ?_),d,s,.refl m E w⟩;generalize k.eval x=xv at d;cases d with
 |sub _ _ _ _ _ _ g cap hh hm=>
  obtain⟨c,L,N,M,_⟩:=s.mrow hh F J;exact WB v A u f rfl om p
def Zjd{m:Nat}{H:Za}{t:TypeId}{x l i p:Operand}{r re:Zp}{e R:TypeId}{sz k q j n:Nat}{a h b:Int}{W S k2:IntKind}{cs:LA}(O:TOK P T)(ho:o.op= .slice t x (some l) (some i) (some p))(X:T t=some r)(U:r.td= .slice e)
  (F:T e=some re) (hv:ρ x= .msl sz q j n) (hH:H q j=some (.Zg R k cs n)) (J:ρ l= .int W a) (hh:ρ i= .int S h) (D:ρ p= .int k2 b) (ha:0<=a) (h0:a<=h) (h3:h<=b) (h4:b<=n) (hn:0<n):
  Z5 P m o ρ H .dead H:=fun E w f hr c=>by
 have hx:=c x sO;have L:=c l sO;have C:=c i sO;have I:=c p sO;rw[hv]at hx;rw[J]at L;rw[hh]at C;rw[D]at I;have V:q<m:=by
  have s:=hx.lvl hr.norm;cases s with|msl _ _ _ _ hb'=>exact hb'
 obtain⟨⟨_,w0,K,_,G⟩,_⟩:=hr.Zg q j R k cs n V hH;obtain⟨d,Y,z,hf⟩:=Zd (O t r X);obtain⟨d',i',z',B⟩:=Zd (O e re F);have hd:=ZE (U▸hf.fits);subst hd;have he:execOp f.eval o=(do let v<-Instr.sliceAt t (f.eval x) (some (f.eval l)) (some (f.eval i)) (some (f.eval p));pure (Next.value v)):=by simp only[execOp,ho];rfl
 generalize hy:f.eval x=y at hx;generalize M:f.eval l=u0 at L;generalize u:f.eval i=u1 at C;generalize A:f.eval p=u2 at I;cases L;cases C;cases I;cases hx with
 |mnil=>omega
 |msl _ _ _ _ g cap hh'=>
  have hcap:n<=cap:=by
   rcases G with⟨ad,Q,q2,Z⟩|⟨g',N,cur,Q,q2,Z,q4,_⟩
   ·omega
   ·rw[K,Q]at hh';simp only[Qp,Value.slice.injEq]at hh';omega
  have c1:0<=b/\b<=(cap:Int):=om;have c2:0<=h/\h<=(b.toNat:Int):=om;have c3:0<=a/\a<=(h.toNat:Int):=om;have e3:¬(h:Int)<0:=om;refine⟨.slice (if b.toNat=a.toNat then some ⟨g,0,none⟩else some (Addr.add ⟨g,0,none⟩ (a.toNat*re.size))) (h.toNat - a.toNat) (b.toNat - a.toNat),E,w,.inl ?_,.dead _,hr,.refl m E w⟩;rw[he,hy,M,u,A];simp[Instr.sliceAt,Instr.slice,Instr.sliceBounds,Instr.sliceBound,asIntOf,run_underlying hf.und,ZA B,c1,c2,c3,show max h 0=h by omega,show max b 0=b by omega,show h<=b by omega,show a<=h by omega]
end
section
variable {cs:LA} {H:Za} {L:List (Nat×Ze)} {tm:LN}
def Jv{n N:Nat}{j0 j i I:Nat}(e k:Nat)(hb:lkb L j0=some (.box cs))(K:cs[i]? =some (.sl I [] .full))(C:lkb L j=none):
  AWk n N ⟨tm,L,H⟩ ⟨tm,setb (setb L j (.Zg e k [] 0)) j0 (.box (cs.set i (.msl k n j 0))),H⟩:=fun B E w a hs=>by
 have h:=hs.heap;obtain⟨b0,u,c,t,hc,hv⟩:=h.box n j0 cs (Qq n) (by simp only[full,if_true];exact hb);obtain⟨g,A⟩:=Q7.1 K;have l:=hv.2 i g (by rw[hv.1];exact g);rw[A]at l;have d:∃r,c.toList[i]'(by rw[hv.1];exact g)= .slice r 0 0/\ ∀x,r=some x->x.spot=none:=by
  generalize c.toList[i]'(by rw[hv.1];exact g)=x at l;cases l with
  |slnil _ _ a ho ha=>obtain rfl:=ha sm;exact⟨none,rfl,fun _ e=>by cases e⟩
  |sl _ _ _ b off cap c hk hc hv hcap hm ho=>
   have:cap=0:=ho;subst this;exact⟨_,rfl,fun _ e=>by cases e;rfl⟩
 obtain⟨r,d,z⟩:=d;have p:full n L H n j=none:=by simp only[full,if_true];exact C
 obtain⟨y,hx⟩:=h.adopt (Qq n) p r e k true;have D:j0≠j:=fun e=>by rw[e,C]at hb;cases hb
 have f:(E.Yn n j (.slice r 0 0)).m n j0=some b0:=u;obtain⟨v,s⟩:=y.turn (w':=w) (.inl f) (.box (cs.set i (.msl k n j 0))) (fun hg=>absurd (y.m_g f) hg) rfl rfl rfl (fun _=>Qi _) rfl (fun _ _=>rfl) (fun o=>y.mF _ _ _ o f)
  ⟨b0,f,c,t,hc,by rw[MN];exact hv.1,fun O J F=>by
   rw[Gw];split
   ·rename_i M;subst M;rw[d];exact .mnil _ _ _ _ (by simp[Env.Yn]) z
   ·exact(hv.2 O (by simpa using J) F).mono h.norm hx.le⟩
 have q:=hx.trans s;refine⟨_,⟨hs.size,hs.defs.ext q,fun G=>(hs.tmps G).mono h.norm q.le,?_,hs.out⟩,q.mono (Uc n)⟩;show Zo (n+1) (full n (setb (setb L j _) j0 _) H) _ _;rw[Zm,Zm];exact v
def Za5{b:Cx}{c:Code}{k:List Itm}{Q:Exit->Zc->Prop}{g:Nat}(d j i e a:Nat)(l:lkb L d=some (.box cs))(m:cs[i]? =some (.sl g [] .full))(f:lkb L j=none)
  (h:AKc b (.code c::k) Q ⟨tm,setb (setb L j (.Zg e a [] 0)) d (.box (cs.set i (.msl a b.n j 0))),H⟩):AKc b (.code c::k) Q ⟨tm,L,H⟩:=
 ZJ (Jv e a l m f) h
def YU{n N:Nat}{tm':LN}{j0 j i e sz k:Nat}{q av':AV}{cs0:LA}(T:Nat)(hT:T<N)(xs:LA)(r:j0≠j)(V:lkb L j0=some (.box cs0))(hi:cs0[i]? =some q)(J:(∃Q,q= .msl Q n j k/\av'= .sl sz xs .any)\/(∃o m,q= .sub sz n j k o m/\av'= .sl sz ((xs.drop o).take m) .any))(hb:lkb L j=some (.Zg e sz cs k))
  (P:flat xs=cs) (I:xs.length=k) (R:∀x∈xs,x.cells.length=sz) (S:∀c∈cs,Inside n (fun k=>k≠j) c) (h1:∀p∈tm',p.1≠T/\Wk (lkv tm p.1) p.2/\Inside n (fun k=>k≠j) (lkv tm p.1))
  (hL:∀p∈delb (setb L j0 (.box (cs0.set i .dead))) j,p.2.Inside n (fun k=>k≠j)):
  AWk n N ⟨tm,L,H⟩ ⟨tm',setb (delb (setb L j0 (.box (cs0.set i .dead))) j) j0 (.box (cs0.set i av')),H⟩:=fun B E w a hs=>by
 have h:=hs.heap;obtain⟨b0,f,c,t,hc,hv⟩:=h.box n j0 cs0 (Qq n) (by simp only[full,if_true];exact V);obtain⟨F,X⟩:=Q7.1 hi;have Z:i<c.toList.length:=by rw[hv.1];exact F
 have u:=hv.2 i F Z;rw[X]at u
 obtain⟨z,ax⟩:=h.turn (w':=w) (.inl f) (.box (cs0.set i .dead)) (fun hg=>absurd (h.m_g f) hg) rfl rfl rfl (fun _=>Qi _) rfl (fun _ _=>rfl) (fun o=>h.mF _ _ _ o f)
  ⟨b0,f,c,t,hc,by rw[MN];exact hv.1,fun Y l v=>by
   rw[Gw];split
   ·exact .dead _
   ·exact hv.2 Y (by simpa using l) v⟩
 rw[<-Zm]at z;have U:lkb (setb L j0 (.box (cs0.set i .dead))) j=some (.Zg e sz cs k):=by rw[lkb_setb,if_neg (fun e=>r e.symm)];exact hb
 have O:Yd B n N ⟨(T,q)::tm,setb L j0 (.box (cs0.set i .dead)),H⟩ E {a with tmps:=a.tmps.setIfInBounds T c.toList[i]} w:=by
  refine⟨by simpa using hs.size,hs.defs,fun g=>?_,z,hs.out⟩;show VR E (lkv ((T,q)::tm) g) _;simp only[lkv,QD];by_cases M:T=g
  ·subst M;rw[if_pos rfl];have:T<a.tmps.size:=by rw[hs.size];exact hT
   simpa[this]using u
  ·rw[if_neg M,UO M];have:=hs.tmps g
   rwa [QD]at this
 obtain⟨o,d,s⟩:=ZgC (tm':=(T,av')::tm') xs U P I R S (fun p hp=>by
  rcases Ql.1 hp with rfl|hp
  ·have e:lkv ((T,q)::tm) T=q:=by simp[lkv]
   rw[e];exact .inr J
  ·obtain⟨l,v,g3⟩:=h1 p hp;have e:lkv ((T,q)::tm) p.1=lkv tm p.1:=by simp only[lkv,if_neg (Ne.symm l)]
   rw[e];exact .inl ⟨v,g3⟩) hL B E w _ O
 have y:VR (E.freeze n j o) av' c.toList[i]:=by
  have:=d.tmps T;simp only[lkv,if_true,QD]at this;have W:T<a.tmps.size:=by rw[hs.size];exact hT
  simpa[W]using this
 have b:(E.freeze n j o).m n j0=some b0:=by simp only[Env.freeze];rw[if_neg (fun e=>r e.2)];exact f
 have D:lkb (delb (setb L j0 (.box (cs0.set i .dead))) j) j0=some (.box (cs0.set i .dead)):=by
  rw[lkb_delb,if_neg r,lkb_setb,if_pos rfl]
 obtain⟨b1,A,c1,t1,G,K⟩:=d.heap.box n j0 _ (Qq n) (by simp only[full,if_true];exact D);rw[b]at A;cases A;rw[hc]at G;cases G;obtain⟨C,ay⟩:=d.heap.turn (w':=w) (.inl b) (.box (cs0.set i av')) (fun hg=>absurd (d.heap.m_g b) hg) rfl rfl rfl (fun _=>Qi _) rfl (fun _ _=>rfl) (fun o=>d.heap.mF _ _ _ o b)
  ⟨b0,b,c,t,hc,by rw[MN];exact hv.1,fun Y l v=>by
   rw[Gw];split
   ·rename_i e;subst e;exact y
   ·rename_i e;have:=K.2 Y (by simpa using l) v
    rwa [List.getElem_set_ne e]at this⟩
 rw[<-Zm]at C;refine⟨E.freeze n j o,⟨hs.size,hs.defs.ext s,fun g=>?_,C,hs.out⟩,s⟩;rcases lkv_mem (tm:=tm') (t:=g)with hd|hmm
 ·show VR _ (lkv tm' g) _;rw[hd];exact .dead _
 ·obtain⟨l,_,_⟩:=h1 _ hmm;have:=d.tmps g;simp only[lkv,if_neg (Ne.symm l),QD]at this;rw[UO (Ne.symm l)]at this;show VR _ (lkv tm' g) _
  rwa [QD]
def Zh.Zi6{P:Program}{n:Nat}{f:FuncId}{a:LA}{H:Za}{Q:AV->Za->Prop}{k:Nat}{o:Own}(i:Zh P n f (.Xd::a) H Q)(g:Zh P n f (.sln k::a) H Q):Zh P n f (.sl k [] o::a) H Q:=fun E w j d e=>by
 obtain⟨v,r,rfl,c,b⟩:=e.Yw;rcases c.Zi6 with h|h
 ·exact i E w _ d (VRs.cons h b)
 ·exact g E w _ d (VRs.cons h b)
def Zh.args{P:Program}{n:Nat}{f:FuncId}{args args':LA}{H:Za}{Q:AV->Za->Prop}(h:Zh P n f args H Q)(hw:Wks args' args):Zh P n f args' H Q:=fun E w vs hr hv=>h E w vs hr (forall₂_vr hw hv)
def Pure.args{P:Program}{f:FuncId}{args args':LA}{r:AV}(h:Pure P f args r)(hw:Wks args' args):Pure P f args' r:=fun n H=>(h n H).args hw
def Wk.sln(k:Nat):Wk (.sln k) (.sl k [] .any):=.sem fun _ _ h=>h.ZtE
def Wk.Xd(k:Nat):Wk .Xd (.sl k [] .full):=.sem fun _ _ h=>h.Zi7
end
section
variable {P:Program} {T:TT} {o:Oper} {ρ:Operand->AV}
def ZcP{m:Nat}{H:Za}{t:TypeId}{x y:Operand}{r re:Zp}{e k q j n sz:Nat}{ys:LA}(hT:TOK P T)
  (ho:o.op= .call {callee:=.builtin .append,args:=#[x,y],argTypes:=#[t,t]}) (h1:T t=some r) (h2:r.td= .slice e) (h3:T e=some re) (hs:sz=re.size) (a0:0<sz)
  (hx:ρ x= .sl k [] .full) (hy:ρ y= .msl sz q j n) (hH:H q j=some (.Zg e sz (flat ys) n)) (hk:∀y∈ys,y.cells.length=sz) (hn:ys.length=n) (U:0<n) (L:n<=maxLen) (ax:n*re.bytes<=140737488355328):
  Z5 P m o ρ H (.sl sz ys .any) H:=fun E w a hr h=>by
 subst hs;obtain⟨d,av,z,hf⟩:=Zd (hT t r h1);obtain⟨d',R,Q,b⟩:=Zd (hT e re h3);have hd:=ZE (h2▸hf.fits);subst hd;have I:=h x sC;have l:=h y sC;rw[hx]at I;rw[hy]at l;have he:∀w',(execOp a.eval o).run P w'=((Builtin.append_ #[t,t] o.type #[a.eval x,a.eval y]).run P w').andThen fun v ay=>.ok (.value v) ay:=fun w'=>by
  simp[execOp,ho,resolve,invoke,builtin]
 have hu:P.underlying t=some (.slice e):=hf.und;have au:n<=9223372036854775807:=by unfold maxLen at L;omega
 generalize N:a.eval y=yv at l;cases l with
 |mnil=>exact absurd U (Un 0)
 |msl _ _ _ _ g cap hh=>
  subst hn;obtain⟨c,q1,q2,q3,q4,q5,q6,O,q8⟩:=hr.mrow hh hH U;obtain⟨cs2,hcs⟩:∃cs2,cs2=c.toList.take (ys.length*re.size):=⟨_,rfl⟩
  rw[<-hcs]at O;have D:cs2.length=ys.length*R.size:=by rw[O.1,flat_length hk,b.size]
  have i:cs2.length=ys.length*re.size:=by rw[O.1,flat_length hk]
  have M:∀A v,cs2[A]? =some v->w.cell? ((⟨g,0,none⟩:Addr).add A)=some v:=fun A v s=>by
   have X:A<ys.length*re.size:=by rw[<-i];exact(Q7.1 s).1
   rw[hcs,QT X]at s;rw[ZC];simp only[World.cell?,q2];simpa using s
  have C:∀(vs:List Value) (cp:Nat),(execOp a.eval o).run P w= .ok (.value (.slice (some ⟨w.heap.size,0,none⟩) ys.length cp)) (w.drew.alloc (.cells vs.toArray e))->
    vs.take (ys.length*re.size)=cs2->ys.length<=cp-> ∃V E' w',((execOp a.eval o).run P w= .ok (.value V) w'\/((execOp a.eval o).run P w= .ok .skip w'/\V=undef))/\VR E' (.sl re.size ys .any) V/\Zo m H E' w'/\Ext m E w E' w':=by
   intro vs cp J az hcap;obtain⟨Y,K⟩:=hr.newRow vs.toArray e (w1:=w.drew) rfl rfl rfl (fun _=>Uc _) rfl;refine⟨_,_,_,.inl J,?_,Y,K⟩;refine VR.Vm (cs:=cs2) hk (O.mono hr.norm K.le) (fun A u s=>?_) hcap L trivial;simp only[Env.addRow,if_true,Qy];have S:A<ys.length*re.size:=by rw[<-i];exact(Q7.1 s).1
   rw[<-az,QT S]at s;simpa using s
  have G:Builtin.nextslicecap ys.length 0*R.bytes<=281474976710656:=growslice_fits om (by rw[b.bytes];exact ax);rcases I.Vl with⟨⟨a1,e1,Z⟩,ex,_⟩|⟨b1,B,F,a2,e1,aq,aw,a3,a4,_,W⟩
  ·obtain rfl:=Z sm;have f:=run_append_nil (P:=P) w t o.type e R Q hu b.info b.zero ⟨g,0,none⟩ ys.length cap cs2 D M U om (by rw[b.bytes];omega);refine C (cs2++(Builtin.zeroCells Q.cells (grownCap w ys.length 0 e - ys.length)).toList) (grownCap w ys.length 0 e) ?_ ?_ (grownCap_ge w _ _ _)
   ·rw[he,e1,N,f];simp only[Result.andThen_ok];congr 3
    apply QaA;simp
   ·rw[MR om,Ud om]
  ·have p:F=0:=W;subst p;have f:=run_append_grow (P:=P) w t o.type e R Q hu b.info b.zero ⟨b1,B,none⟩ 0 0 [] sm sm ⟨g,0,none⟩ ys.length cap cs2 D M om om (by simpa using G);simp only[QG,Qy]at f;refine C (cs2++(Builtin.zeroCells Q.cells (grownCap w ys.length 0 e - ys.length)).toList) (grownCap w ys.length 0 e) ?_ ?_ (grownCap_ge w _ _ _)
   ·rw[he,e1,N];simp only[Qz];rw[f];simp only[Result.andThen_ok];congr 3
    apply QaA;simp
   ·rw[MR om,Ud om]
end
section
variable {cs:LA} {L:List (Nat×Ze)} {tm:LN}
def Zec{n N:Nat}{H:Za}{s j i R:Nat}(e k:Nat)(z:lkb L s=some (.box cs))(U:cs[i]? =some (.sl R [] .full))(K:lkb L j=none):
  AWk n N ⟨tm,L,H⟩ ⟨tm,setb (setb L j (.buf e k 0)) s (.box (cs.set i (.sl k [] (.buf n j)))),H⟩:=fun B E w a v=>by
 have h:=v.heap;obtain⟨I,A,c,t,G,p⟩:=h.box n s cs (Qq n) (by simp only[full,if_true];exact z);obtain⟨l,F⟩:=Q7.1 U;have d:=p.2 i l (by rw[p.1];exact l);rw[F]at d;have f:∃u,c.toList[i]'(by rw[p.1];exact l)= .slice u 0 0/\ ∀x,u=some x->x.spot=none:=by
  generalize c.toList[i]'(by rw[p.1];exact l)=x at d;cases d with
  |slnil _ _ a ho ha=>obtain rfl:=ha sm;exact⟨none,rfl,fun _ e=>by cases e⟩
  |sl _ _ _ b off cap c hk G p hcap hm ho=>
   have:cap=0:=ho;subst this;exact⟨_,rfl,fun _ e=>by cases e;rfl⟩
 obtain⟨u,f,W⟩:=f;have q:full n L H n j=none:=by simp only[full,if_true];exact K
 obtain⟨D,J⟩:=h.adopt (Qq n) q u e k false;have M:s≠j:=fun e=>by rw[e,K]at z;cases z
 have g:(E.Yn n j (.slice u 0 0)).m n s=some I:=A;obtain⟨C,y⟩:=D.turn (w':=w) (.inl g) (.box (cs.set i (.sl k [] (.buf n j)))) (fun Q=>absurd (D.m_g g) Q) rfl rfl rfl (fun _=>Qi _) rfl (fun _ _=>rfl) (fun o=>D.mF _ _ _ o g)
  ⟨I,g,c,t,G,by rw[MN];exact p.1,fun X S O=>by
   rw[Gw];split
   ·rename_i V;subst V;rw[f]at d⊢;cases d with
    |slnil _ _ _ ho ha=>exact .slnil k _ _ (by simp[Zam,Env.Yn]) (fun _=>ha sm)
    |sl _ _ _ b off cap c hk G p hcap hm ho=>exact .sl k [] _ b off 0 c (fun i h=>absurd h (Qj _)) (fun i j h=>absurd h (Qj _)) (fun i h=>absurd h (Qj _)) (Qi _) hm (by simp[Zam,Env.Yn])
   ·exact(p.2 X (by simpa using S) O).mono h.norm J.le⟩
 have r:=J.trans y;refine⟨_,⟨v.size,v.defs.ext r,fun P=>(v.tmps P).mono h.norm r.le,?_,v.out⟩,r.mono (Uc n)⟩;show Zo (n+1) (full n (setb (setb L j _) s _) H) _ _;rw[Zm,Zm];exact C
def ZgI{b:Cx}{c:Code}{k:List Itm}{Q:Exit->Zc->Prop}{H:Za}{g:Nat}(d j i e a:Nat)(l:lkb L d=some (.box cs))(m:cs[i]? =some (.sl g [] .full))(f:lkb L j=none)
  (h:AKc b (.code c::k) Q ⟨tm,setb (setb L j (.buf e a 0)) d (.box (cs.set i (.sl a [] (.buf b.n j)))),H⟩):AKc b (.code c::k) Q ⟨tm,L,H⟩:=
 ZJ (Zec e a l m f) h
def WkS.any(k:Nat)(a:LA)(o:Own):WkS (.sl k a o) (.sl k a .any):=.sl k a a o rfl fun _ _ _=>.refl _
end
def AV.sc:AV->Bool
 | .int _ _=>true
 | .bool _=>true
 | .str _=>true
 |_=>false
def ZsG{E c:Env}{a:AV}{v:Value}(h:a.sc=true)(b:VR E a v):VR c a v:=by
 cases a<;>first|cases h|skip
 ·cases b;exact .int _ _
 ·cases b;exact .bool _
 ·cases b;exact .str _
def Zpp{E f:Env}{b:LA}{c:List Value}(h:∀a∈b,a.sc=true)(d:VRs E b c):VRs f b c:=⟨d.1,fun i e g=>ZsG (h _ (Qa e)) (d.2 i e g)⟩
theorem Zn9{P:Program}{n:Nat}{f:FuncId}{H:Za}{pre G:LA}{q j e sz N:Nat}{xs:LA}(h:Pure P f (pre++[.sl sz xs .any]) (.tup G))(U:H q j=some (.Zg e sz (flat xs) N))(K:0<N)(t:xs.length=N)(J:N<=maxLen)
  (hk:∀x∈xs,x.cells.length=sz) (hx:∀c∈flat xs,c.sc=true) (R:∀a∈pre,a.sc=true) (hr:∀a∈G,a.sc=true):PC P n f (pre++[.msl sz q j N]) H (.tup G):=fun E w vs k hv=>by
 obtain⟨us,I,rfl,hu,hm⟩:∃us I,vs=us++[I]/\VRs E pre us/\VR E (.msl sz q j N) I:=by
  have hl:=hv.1;simp only[Qh,Qm,Qz]at hl;refine⟨vs.take pre.length,vs[pre.length]'om,?_,⟨by simp;omega,fun i p z=>?_⟩,?_⟩
  ·conv=>lhs;rw[<-Q8 pre.length vs,QB om]
   rw[UQ om]
  ·have:=hv.2 i (by simp;omega) (by simp at z;omega);rw[Gx p]at this;simpa using this
  ·have:=hv.2 pre.length sm om;simpa using this
 cases hm with
 |mnil=>exact absurd K (Un 0)
 |msl _ _ _ _ g cap hh=>
  subst t;obtain⟨c,Z,W,O,q4,q5,X,A,q8⟩:=k.mrow hh U K;obtain⟨cs2,hcs⟩:∃cs2,cs2=c.toList.take (xs.length*sz):=⟨_,rfl⟩
  rw[<-hcs]at A;have B:cs2.length=xs.length*sz:=by rw[A.1,flat_length hk]
  let E0:Env:={E with F:=fun b o=>if b=g then cs2[o]? else E.F b o,m:=fun _ _=>none,g:=fun _ _=>none,hist:=fun _ _ _=>none}
  have Q:∀b o v,E0.F b o=some v->w.cell? ⟨b,o,none⟩=some v:=fun b o v hb=>by
   simp only[E0]at hb;split at hb
   ·rename_i e;subst e;have C:o<xs.length*sz:=by rw[<-B];exact(Q7.1 hb).1
    rw[hcs,QT C]at hb;simp only[World.cell?,W];simpa using hb
   ·exact k.F b o v hb
  have L:Zo n (fun _ _=>none) E0 w:=⟨⟨fun _ _ _=>rfl,fun _ _ _=>rfl,fun _ _ _ _=>rfl⟩,Q,fun _ _ _ _ h=>(by cases h),fun _ _ _ _=>⟨rfl,rfl,fun _=>rfl⟩,fun _ _ h=>absurd rfl h,fun _ _ _ _ _ h=>(by cases h),fun _ _ _ _ _ h=>(by cases h),fun _ _ _ _ _ h=>(by cases h),fun _ _ _ _ h=>(by cases h),fun b h=>by rcases h with⟨_,_,h⟩|⟨_,_,h⟩<;>cases h⟩
  have hs:VR E0 (.sl sz xs .any) (.slice (some ⟨g,0,none⟩) xs.length cap):=VR.Vm (cs:=cs2) hk (Zpp hx A) (fun Y u V=>by simp only[E0,if_true,Qy];exact V) O J trivial;have l:=h n (fun _ _=>none) E0 w (us++[.slice (some ⟨g,0,none⟩) xs.length cap]) L ((Zpp R hu).append (VRs.cons hs (VRs.nil _)));refine l.mono ?_;rintro e' w' ⟨r,v,H',E',rfl,⟨rfl,rfl⟩,y,D,d⟩;obtain⟨S,M⟩:=k.grow (w':=w') (F':=E.F) d.os d.tape d.output d.drawn d.size (fun b hb=>d.block b hb fun ho=>by rcases ho with⟨_,_,h⟩|⟨_,_,h⟩<;>cases h) (fun _ _ _ h=>h)
   (fun b o v hf=>by
    have s:=k.ZbC hf;have:=k.F b o v hf;simp only[World.cell?,d.block b s fun ho=>by rcases ho with⟨_,_,h⟩|⟨_,_,h⟩<;>cases h]at this⊢;exact this) (fun _ _ _=>rfl)
  refine⟨_,v,H,_,rfl,⟨rfl,rfl⟩,?_,S,M⟩;cases y with
  |tup _ vs' hl' hv'=>exact .tup _ _ hl' fun i p z=>ZsG (hr _ (Qa p)) (hv' i p z)
def Je(b:UInt8):Value:=.int .u8 b.toNat
def JF(b:UInt8):AV:=.int .u8 b.toNat
section
variable {P:Program}
def ZbQ{w:World}{sz:Nat}(b:Bs):(Builtin.firstCells sz b.length (.string ⟨b.toArray⟩)).run P w= .ok (b.map Je).toArray w:=by
 have e:(ByteArray.extract ⟨b.toArray⟩ 0 b.length)=⟨b.toArray⟩:=by
  have:b.length=(⟨b.toArray⟩:ByteArray).size:=by simp[ByteArray.size]
  rw[this];simp
 simp[Builtin.firstCells,e,Je]
def ZeP(w:World)(t l ty e:TypeId)(i:TypeInfo)(n:P.underlying t=some (.slice e))(hx:P.underlying l=some .string)(o:P.info? e=some i)
  (g a c:Nat) (cur:Array Value) (hg:w.heap[g]? =some (.cells cur e (0,0))) (b:Bs) (d:a+b.length<=c) (h:a*i.size+b.length<=cur.size):
  (Builtin.append_ #[t,l] ty #[.slice (some ⟨g,0,none⟩) a c,.string ⟨b.toArray⟩]).run P w=
   .ok (.slice (some ⟨g,0,none⟩) (a+b.length) c) (w.setRow g (cur.toList.take (a*i.size)++b.map Je++cur.toList.drop (a*i.size+(b.map Je).length)).toArray):=by
 have f:=run_storeCells_at P g (a*i.size) e (b.map Je) 0 cur w hg (by simpa using h) (fun u m=>by obtain⟨x,_,rfl⟩:=Qg.1 m;rfl);simp only[UC]at f;have k:(⟨b.toArray⟩:ByteArray).size=b.length:=by simp[ByteArray.size]
 have j:=ZbQ (P:=P) (w:=w) (sz:=i.size) b;simp[Builtin.append_,Builtin.lenOf,run_underlying n,run_underlying hx,sizeOf,o,k,d,j,Addr.add_lit,typeInfo];rw[f];simp
def ZaI(w:World)(t p ty e:TypeId)(i:TypeInfo)(z:Value)(q:P.underlying t=some (.slice e))(hx:P.underlying p=some .string)(r:P.info? e=some i)(u:i.zero=some z)
  (f:Option Addr) (a c:Nat) (d:List Value) (j:(Builtin.firstCells i.size a (.slice f a c)).run P w.drew= .ok d.toArray w.drew)
  (b:Bs) (hg:c<a+b.length) (hb:0<i.bytes) (s:((a+b.length:Nat):Int)<=9223372036854775807) (o:Builtin.nextslicecap (a+b.length) c*i.bytes<=281474976710656):
  (Builtin.append_ #[t,p] ty #[.slice f a c,.string ⟨b.toArray⟩]).run P w=
   .ok (.slice (some ⟨w.heap.size,0,none⟩) (a+b.length) (grownCap w (a+b.length) c e))
    (w.drew.alloc (.cells ((d++b.map Je).toArray++Builtin.zeroCells z.cells (grownCap w (a+b.length) c e - (a+b.length))) e)):=by
 have l:¬(a+b.length<=c):=om;have g:¬(9223372036854775807<((a:Int)+(b.length:Int))):=om;have h:¬(281474976710656<Builtin.nextslicecap (a+b.length) c*i.bytes):=om;have m:(⟨b.toArray⟩:ByteArray).size=b.length:=by simp[ByteArray.size]
 have n:=ZbQ (P:=P) (w:=w.drew) (sz:=i.size) b;have k:¬(i.bytes=0):=om;simp[Builtin.append_,Builtin.lenOf,run_underlying q,run_underlying hx,sizeOf,typeInfo,zeroValue,r,u,l,g,h,m,k,Question.forced,j,n,newRow,grownCap];rw[show(d++b.map Je).toArray=d.toArray++(b.map Je).toArray by simp,Array.append_assoc]
def Zbu{T:TT}(X:TOK P T){w:World}{t F Q e:TypeId}{r o rx:Zp}(h1:T t=some r)(h2:r.td= .slice e)(h3:T e=some o)(h4:T F=some rx)(h5:rx.td= .str)(D:o.size=1)(Y:0<o.bytes){n:Nat}{V:Value}{i:List Value}
  (K:ZjG w e o.size n V i) (b:Bs) (hc:0<b.length) (s:n+b.length<=maxLen) (E:(n+b.length)*o.bytes<=140737488355328):
  ∃J a m y,(Builtin.append_ #[t,F] Q #[V,.string ⟨b.toArray⟩]).run P w= .ok (.slice (some ⟨J,0,none⟩) (n+b.length) a) y/\y.os=w.os/\y.tape=w.tape/\y.output=w.output/\w.drawn<=y.drawn/\w.heap.size<=y.heap.size/\
   (∀b,b<w.heap.size->b≠J->y.heap[b]? =w.heap[b]?)/\((∃z,V= .slice (some ⟨J,0,none⟩) n z/\0<z)\/w.heap.size<=J)/\y.heap[J]? =some (.cells m e (0,0))/\n+b.length<=a/\a<=maxLen/\m.size=a*o.size/\
   i++b.map Je=m.toList.take ((n+b.length)*o.size):=by
 obtain⟨d,az,z0,hf⟩:=Zd (X t r h1);obtain⟨d',A,G,c⟩:=Zd (X e o h3);obtain⟨dx,ix,zx,M⟩:=Zd (X F rx h4);have hd:=ZE (h2▸hf.fits);subst hd;have S:dx= .string:=by
  have:=M.fits;rw[h5]at this;cases dx<;>first|rfl|cases this
 subst S;have hu:P.underlying t=some (.slice e):=hf.und;have C:P.underlying F=some .string:=M.und;have Z:n+b.length<=9223372036854775807:=by unfold maxLen at s;omega
 have x:0<A.bytes:=by rw[c.bytes];exact Y
 obtain⟨f,hcs2⟩:∃f,f=b.map Je:=⟨_,rfl⟩
 have H:f.length=b.length:=by rw[hcs2,Qv]
 have p:f.length=b.length*o.size:=by rw[H,D,Gs]
 rcases K with⟨rfl,rfl,ad,rfl⟩|⟨g,a,m,rfl,O,q4,q5,W,R⟩
 ·simp only[Qy]at Z s E⊢;have B:=grownCap_ge w b.length 0 e;have q:Builtin.nextslicecap (0+b.length) 0*A.bytes<=281474976710656:=growslice_fits om (by rw[c.bytes,Qy];exact E);have k:=ZaI (P:=P) w t F Q e A G hu C c.info c.zero ad 0 0 [] (by cases ad<;>simp[Builtin.firstCells,loadCells,loadCellsFrom]) b om x om q;rw[<-hcs2]at k⊢;simp only[Qy,QG]at k;refine⟨w.heap.size,grownCap w b.length 0 e,f.toArray++Builtin.zeroCells G.cells (grownCap w b.length 0 e - b.length),w.drew.alloc (.cells (f.toArray++Builtin.zeroCells G.cells (grownCap w b.length 0 e - b.length)) e),k,rfl,rfl,rfl,Uc _,sm,fun b I _=>heap_alloc_old w.drew _ I,.inr (Qi _),heap_alloc_new w.drew _,B,grownCap_le_maxLen w _ _ _ s,?_,?_⟩
  ·simp only[Gj,UZ,size_zeroCells,p,c.zsize,<-Nat.add_mul];congr 1;omega
  ·simp only[QG,MQ];rw[<-p];simp
 ·have aw:n*o.size<=a*o.size:=QF _ q4;have u:i.length=n*o.size:=by rw[<-R,QJ];simp;omega
  have U:∀j v,i[j]? =some v->w.cell? ((⟨g,0,none⟩:Addr).add j)=some v:=fun j v N=>by
   rw[ZC];simp only[World.cell?,O,Qy];rw[<-R]at N;rcases Qd j (n*o.size)with h|h
   ·rw[QT h]at N;simpa using N
   ·rw[UL,if_neg om]at N;cases N
  have ay:g<w.heap.size:=(QO.1 O).1;by_cases l:n+b.length<=a
  ·have L:n*A.size+b.length<=m.size:=by rw[W,c.size,D,Gs,Gs];exact l
   have k:=ZeP (P:=P) w t F Q e A hu C c.info g n a m O b l L;rw[c.size,<-hcs2]at k;rw[<-hcs2];refine⟨g,a,_,_,k,rfl,rfl,rfl,Qi _,by simp[World.setRow],fun b _ I=>setRow_other w g b _ I,.inl ⟨a,rfl,om⟩,setRow_heap w g m _ e (0,0) O,l,q5,?_,?_⟩
   ·simp only[UZ,Qh,QJ,QL,Uh];rw[<-W,H];rw[W,D]at*;omega
   ·rw[U3,R];rw[show(n+b.length)*o.size=(i++f).length by rw[Qh,u,p,Q9],Gn]
  ·have q:Builtin.nextslicecap (n+b.length) a*A.bytes<=281474976710656:=growslice_fits om (by rw[c.bytes];exact E);have B:=grownCap_ge w (n+b.length) a e;have ax:=run_firstCells_some (P:=P) w.drew A.size n ⟨g,0,none⟩ n a i (by rw[c.size];exact u) (by simpa using U);have k:=ZaI (P:=P) w t F Q e A G hu C c.info c.zero (some ⟨g,0,none⟩) n a i ax b om x om q;rw[<-hcs2]at k⊢;refine⟨w.heap.size,grownCap w (n+b.length) a e,(i++f).toArray++Builtin.zeroCells G.cells (grownCap w (n+b.length) a e - (n+b.length)),w.drew.alloc (.cells ((i++f).toArray++Builtin.zeroCells G.cells (grownCap w (n+b.length) a e - (n+b.length))) e),k,rfl,rfl,rfl,Uc _,sm,fun b I _=>heap_alloc_old w.drew _ I,.inr (Qi _),heap_alloc_new w.drew _,B,grownCap_le_maxLen w _ _ _ s,?_,?_⟩
   ·simp only[Gj,UZ,size_zeroCells,u,p,c.zsize,<-Nat.add_mul,Qh];congr 1;omega
   ·simp only[MQ,U3];rw[show(n+b.length)*o.size=(i++f).length by rw[Qh,u,p,Q9],Gn]
end
section ops
variable {P:Program} {T:TT} {o:Oper} {ρ:Operand->AV}
theorem Za1(b:Bs):flat (b.map JF)=b.map JF:=by
 induction b with
 |nil=>rfl
 |cons x b ih=>rw[Qs,Yc,ih];rfl
def Zei(E:Env):∀b:Bs,VRs E (b.map JF) (b.map Je)
 |[]=>VRs.nil E
 |x::b=>VRs.cons (.int _ _) (Zei E b)
theorem Zdu{P:Program}{m:Nat}{H:Za}{E:Env}{w:World}{S:Sem Value}{C:Value}{e sz k l j n:Nat}{cs ys:LA}{cs2:List Value}
  (hr:Zo m H E w) (hx:VR E (.msl sz l j n) C) (hl:l<m) (hH:H l j=some (.Zg e k cs n)) (W:∀y∈ys,y.cells.length=k) (av:VRs E (flat ys) cs2) (V:0<ys.length)
  (x:∀c,ZjG w e k n C c-> ∃g' cap cur w',S.run P w= .ok (.slice (some ⟨g',0,none⟩) (n+ys.length) cap) w'/\w'.os=w.os/\w'.tape=w.tape/\w'.output=w.output/\w.drawn<=w'.drawn/\w.heap.size<=w'.heap.size/\
   (∀b,b<w.heap.size->b≠g'->w'.heap[b]? =w.heap[b]?)/\((∃p,C= .slice (some ⟨g',0,none⟩) n p/\0<p)\/w.heap.size<=g')/\w'.heap[g']? =some (.cells cur e (0,0))/\n+ys.length<=cap/\cap<=maxLen/\cur.size=cap*k/\
   c++cs2=cur.toList.take ((n+ys.length)*k)):
  ∃cv E' w',S.run P w= .ok cv w'/\VR E' (.msl sz l j (n+ys.length)) cv/\Zo m (H.upd l j (.Zg e k (cs++flat ys) (n+ys.length))) E' w'/\Ext m E w E' w':=by
 obtain⟨⟨h0,v0,J,M,L⟩,I⟩:=hr.Zg l j e k cs n hl hH;have Z:C=v0:=by
  cases hx with
  |mnil _ _ _ a t _=>rw[J]at t;cases t;rfl
  |msl _ _ _ _ g cap t=>rw[J]at t;cases t;rfl
 subst Z;have q:∃c,ZjG w e k n C c/\VRs E cs c:=by
  rcases L with⟨a0,r,A,Q⟩|⟨g,cap,cur,r,A,Q,q4,q5,q6,O,q8⟩
  ·have:cs=[]:=Ua (by rw[h0,A];simp);subst this;exact⟨[],.inl ⟨A,rfl,a0,r⟩,VRs.nil E⟩
  ·exact⟨_,.inr ⟨g,cap,cur,r,Q,q4,q5,q6,rfl⟩,q8⟩
 obtain⟨c,q,Y⟩:=q;obtain⟨g',cap,cur,w',K,os,tp,out,az,size,G,hg',s,hcap,B,ay,X⟩:=x c q;have d:w.heap.size<=g'\/(E.g l j=some g'/\ ∀o,E.F g' o=none):=by
  rcases hg' with⟨p,N,au⟩|hg'
  ·refine .inr ?_;rcases L with⟨a0,r,A,Q⟩|⟨g,cap,cur,r,A,Q,q4,q5,q6,O,q8⟩
   ·rw[N]at r;simp only[Value.slice.injEq]at r;omega
   ·rw[N]at r;simp only[Value.slice.injEq,Qp,Addr.mk.injEq,true_and,and_true]at r;obtain⟨rfl,rfl⟩:=r;exact⟨A,O⟩
  ·exact .inl hg'
 have D:∀o,E.F g' o=none:=by
  rcases d with hn|⟨_,O⟩
  ·intro o;cases hf:E.F g' o with
   |none=>rfl
   |some u=>have:=hr.ZbC hf;omega
  ·exact O
 have f:E.hist l j (n+ys.length)=none:=M _ om;have aw:E.le m (E.Zr l j (n+ys.length) (.slice (some ⟨g',0,none⟩) (n+ys.length) cap) g' []):=by
  refine⟨fun b o v hf=>?_,fun _ _ _ _ hm=>hm,fun l' k' i u _ U=>?_,rfl⟩
  ·simp only[Env.Zr];by_cases hb:b=g'
   ·subst hb;rw[D o]at hf;cases hf
   ·rw[if_neg hb];exact hf
  ·simp only[Env.Zr];rw[if_neg (fun hc=>by rw[hc.1,hc.2.1,hc.2.2,f]at U;cases U)];exact U
 have z:(flat ys).length=ys.length*k:=flat_length W;obtain⟨t,ax⟩:=hr.Zdw (n:=n+ys.length) (v:=.slice (some ⟨g',0,none⟩) (n+ys.length) cap) (nb:=.Zg e k (cs++flat ys) (n+ys.length)) (g':=g') hl I f rfl [] os tp out (fun _=>az) size G
  (d.elim .inr (fun h=>.inl h.1)) (QO.1 s).1 (fun o u R=>by simp at R) (fun o u R=>by rw[D o]at R;cases R)
  ⟨⟨by rw[Qh,h0,z,Q9],_,by simp[Env.Zr],fun i U=>by simp only[Env.Zr];rw[if_neg (fun h=>by omega)];exact M i om,.inr ⟨g',cap,cur,rfl,by simp[Env.Zr],s,hcap,B,ay,fun o=>by simp[Env.Zr],by
   rw[<-X];exact(Y.append av).mono hr.norm aw⟩⟩,I⟩
 exact⟨_,_,w',K,.msl sz l j _ g' cap (by simp[Env.Zr]),t,ax⟩
def Zfs{m:Nat}{H:Za}{t B:TypeId}{x y:Operand}{r g F:Zp}{e D l j n:Nat}{C:LA}{b:Bs}(O:TOK P T)
  (ho:o.op= .call {callee:=.builtin .append,args:=#[x,y],argTypes:=#[t,B]}) (Q:T t=some r) (K:r.td= .slice e) (Y:T e=some g) (N:T B=some F) (R:F.td= .str) (h:g.size=1) (p:0<g.bytes)
  (hx:ρ x= .msl D l j n) (z:ρ y= .str b) (V:l<m) (W:H l j=some (.Zg e g.size C n)) (I:0<b.length)
  (A:n+b.length<=maxLen) (v:(n+b.length)*g.bytes<=140737488355328):
  Z5 P m o ρ H (.msl D l j (n+b.length)) (H.upd l j (.Zg e g.size (C++b.map JF) (n+b.length))):=fun E w a X d=>by
 have i:=d x sC;have c:=d y sC;rw[hx]at i;rw[z]at c;have c:a.eval y= .string ⟨b.toArray⟩:=by
  generalize a.eval y=q at c;cases c;rfl
 have f:(b.map JF).length=b.length:=Qv ..;obtain⟨L,M,J,a1,G,s,U⟩:=Zdu (P:=P) (S:=Builtin.append_ #[t,B] o.type #[a.eval x,.string ⟨b.toArray⟩]) (ys:=b.map JF) (cs2:=b.map Je) X i V W (fun y z=>by obtain⟨u,_,rfl⟩:=Qg.1 z;rw[h];rfl) (by rw[Za1];exact Zei E b) (by rw[f];exact I)
  (fun Z k=>by
   rw[f];exact Zbu O Q K Y N R h p k b I A v)
 rw[f]at G s;rw[Za1]at s;exact⟨L,M,J,.inl (YI ho (by rw[c];exact a1)),G,s,U⟩
def ZeH{m:Nat}{H:Za}{t K:TypeId}{x y:Operand}{r i O:Zp}{e k l j:Nat}{b:Bs}(X:TOK P T)
  (ho:o.op= .call {callee:=.builtin .append,args:=#[x,y],argTypes:=#[t,K]}) (Y:T t=some r) (R:r.td= .slice e) (h3:T e=some i) (W:T K=some O) (Z:O.td= .str) (s:i.size=1) (B:0<i.bytes)
  (hx:ρ x= .sl k [] .full) (F:ρ y= .str b) (M:l<m) (hH:H l j=none) (L:0<b.length) (ax:b.length<=maxLen) (D:b.length*i.bytes<=140737488355328):
  Z5 P m o ρ H (.msl i.size l j b.length) (H.upd l j (.Zg e i.size (b.map JF) b.length)):=fun E w a hr h=>by
 have A:∀a b,(H.upd l j a).upd l j b=H.upd l j b:=fun a b=>by
  funext l' j';simp only[Za.upd];split<;>rfl
 have n:=h x sC;have d:=h y sC;rw[hx]at n;rw[F]at d;have d:a.eval y= .string ⟨b.toArray⟩:=by
  generalize a.eval y=q at d;cases d;rfl
 have f:∃p,a.eval x= .slice p 0 0/\ ∀x,p=some x->x.spot=none:=by
  generalize a.eval x=q at n;cases n with
  |slnil _ _ a ho ha=>obtain rfl:=ha sm;exact⟨none,rfl,fun _ e=>by cases e⟩
  |sl _ _ _ b off cap c hk L hv hcap hm ho=>
   have:cap=0:=ho;subst this;exact⟨_,rfl,fun _ e=>by cases e;rfl⟩
 obtain⟨p,f,I⟩:=f;obtain⟨N,G⟩:=hr.adopt M hH p e i.size true;simp only[if_true]at N;have z:VR (E.Yn l j (.slice p 0 0)) (.msl i.size l j 0) (a.eval x):=by
  rw[f];exact .mnil _ _ _ _ (by simp[Env.Yn]) I
 have g:(b.map JF).length=b.length:=Qv ..;obtain⟨U,V,Q,a1,J,C,a4⟩:=Zdu (P:=P) (S:=Builtin.append_ #[t,K] o.type #[a.eval x,.string ⟨b.toArray⟩]) (ys:=b.map JF) (cs2:=b.map Je) N z M (Za.upd_same _ _ _ _) (fun y F=>by obtain⟨u,_,rfl⟩:=Qg.1 F;rw[s];rfl) (by rw[Za1];exact Zei _ b) (by rw[g];exact L)
  (fun ay v=>by
   rw[g];exact Zbu X Y R h3 W Z s B v b L om (by rw[Qy];exact D))
 rw[A,Za1,g]at C;rw[g]at J;simp only[Qy,QG]at J C;exact⟨U,V,Q,.inl (YI ho (by rw[d];exact a1)),J,C,G.trans a4⟩
def ZgV{m:Nat}{H:Za}{t i:TypeId}{x y:Operand}{r G A:Zp}{e D k l j n:Nat}{N:LA}(u:TOK P T)
  (ho:o.op= .call {callee:=.builtin .append,args:=#[x,y],argTypes:=#[t,i]}) (O:T t=some r) (L:r.td= .slice e) (Y:T e=some G) (M:T i=some A) (Q:A.td= .str)
  (Z:ρ x= .msl D l j n) (V:ρ y= .str []) (W:H l j=some (.Zg e k N n)) (I:0<n):Z5 P m o ρ H (.msl D l j n) H:=fun E w a F f=>by
 have c:=f x sC;have b:=f y sC;rw[Z]at c;rw[V]at b;have b:a.eval y= .string ⟨#[]⟩:=by
  generalize a.eval y=q at b;cases b;rfl
 obtain⟨d,R,z0,C⟩:=Zd (u t r O);obtain⟨d',i',z',v⟩:=Zd (u e G Y);obtain⟨J,ix,zx,h⟩:=Zd (u i A M);have K:=ZE (L▸C.fits);subst K;have p:J= .string:=by
  have:=h.fits;rw[Q]at this;cases J<;>first|rfl|cases this
 subst p;have X:P.underlying t=some (.slice e):=C.und;have s:P.underlying i=some .string:=h.und;refine⟨a.eval x,E,w,.inl (YI ho ?_),c,F,.refl m E w⟩;rw[b];generalize a.eval x=q at c;cases c with
 |mnil=>exact absurd I (Un 0)
 |msl _ _ _ _ g cap hh=>
  obtain⟨S,_,_,U,_⟩:=F.mrow hh W I;have z:(⟨#[]⟩:ByteArray).size=0:=rfl;have B:(ByteArray.extract ⟨#[]⟩ 0 0)=⟨#[]⟩:=rfl;simp[Builtin.append_,Builtin.lenOf,Builtin.firstCells,run_underlying X,run_underlying s,sizeOf,typeInfo,v.info,storeCells,z,B,U]
def Zjc{m:Nat}{H:Za}{f:Array TypeId}{x:Operand}{e r k l j n:Nat}{z:LA}(ho:o.op= .call {callee:=.builtin .unsafeSliceData,args:=#[x],argTypes:=f})
  (A:ρ x= .msl r l j n) (y:H l j=some (.Zg e k z n)) (i:0<n):Z5 P m o ρ H (.eptr l j n 0) H:=fun E w a h c=>by
 have b:=c x sC;rw[A]at b;have u:∀v,a.eval x=v->execOp a.eval o=(do let d<-Builtin.unsafeSliceData_ f o.type #[v];pure (Next.value d)):=fun v t=>by
  simp[execOp,ho,resolve,invoke,builtin,t]
 generalize s:a.eval x=q at b;cases b with
 |mnil=>exact absurd i (Un 0)
 |msl _ _ _ _ g cap hh=>
  obtain⟨p,_,_,B,_⟩:=h.mrow hh y i;refine⟨.pointer (some ⟨g,0,none⟩),E,w,.inl ?_,.eptr l j n 0 g cap hh,h,.refl m E w⟩;rw[u _ s];simp only[Sem.run_bind,Lib.run_unsafeSliceData_row w f o.type ⟨g,0,none⟩ n cap om,Result.andThen_ok,Sem.run_pure]
def ZcU{E:Env}:∀{b:Bs} {a:List Value},VRs E (b.map JF) a->a=b.map Je
 |[],a,h=>h.of_nil
 |x::b,a,h=>by
  obtain⟨v,r,rfl,c,d⟩:=VRs.Yw h;have:=ZcU d;subst this;cases c;rfl
def Zfu{m:Nat}{H:Za}{t F:TypeId}{x y:Operand}{e l j n:Nat}{b:Bs}(ho:o.op= .call {callee:=.builtin .unsafeString,args:=#[x,y],argTypes:=#[t,F]})
  (Z:P.underlying t=some (.pointer e)) (hc:P.cellsOf e=1) (hx:ρ x= .eptr l j n 0) (hy:ρ y= .int .i64 n) (N:H l j=some (.Zg e 1 (b.map JF) n)) (Q:0<n):
  Z5 P m o ρ H (.str b) (H.upd l j .gone):=fun E w a z c=>by
 have p:=c x sC;have h:=c y sC;rw[hx]at p;rw[hy]at h;have he:∀v u,a.eval x=v->a.eval y=u->execOp a.eval o=(do let d<-Builtin.unsafeString_ #[t,F] o.type #[v,u];pure (Next.value d)):=fun v u hv hu=>by
  simp[execOp,ho,resolve,invoke,builtin,hv,hu]
 generalize W:a.eval x=q at p;generalize J:a.eval y=R at h;cases h;cases p with|eptr _ _ _ _ g cap hh=>
 obtain⟨r,R,M,q4,Y,X,U,q8,S⟩:=z.mrow hh N Q;have I:b.length=n:=by simpa using S
 subst I;have K:=ZcU q8;rw[Gs]at K;have k:∀i u,b[i]? =some u->w.cell? ((⟨g,0,none⟩:Addr).add i)=some (.int .u8 u.toNat):=fun i u O=>by
  rw[ZC];simp only[World.cell?,M,Qy];have A:i<b.length:=(Q7.1 O).1;have L:(r.toList.take b.length)[i]? =some (Je u):=by rw[K];simp[O]
  rw[QT A]at L;simpa[Je]using L
 have s:=Lib.run_unsafeString_row (P:=P) w t F o.type e Z hc g r.size (by simp only[World.shape?,M]) b (by intro e;subst e;simp at Q) (by rw[X];omega) (by unfold maxLen at Y;omega) k;obtain⟨f,hw⟩:∃f,(w.freeze ⟨g,0,none⟩ b.length).heap=w.heap.modify g f:=by
  have V:b.length≠0:=om;unfold World.freeze;rw[if_neg V];dsimp only;exact⟨_,rfl⟩
 have C:E.m l j=none:=(z.Zg l j e 1 _ _ (z.norm.Xg hh) N).2;obtain⟨D,B⟩:=z.turn (w':=w.freeze ⟨g,0,none⟩ b.length) (.inr R) .gone (fun _=>rfl) (by simp only[World.freeze];split<;>rfl) (by simp only[World.freeze];split<;>rfl) (by simp only[World.freeze];split<;>rfl) (fun _=>by simp only[World.freeze];split<;>exact Qi _)
  (by rw[hw];simp) (fun b' G=>by rw[hw,U5];rw[if_neg (fun e=>G e.symm)]) U C
 refine⟨.string ⟨b.toArray⟩,E,_,.inl ?_,.str b,D,B⟩;rw[he _ _ W J];simp only[Sem.run_bind,s,Result.andThen_ok,Sem.run_pure]
def ZfO{m:Nat}{H:Za}{E:Env}{w:World}(f:Zo m H E w){l k b:Nat}{t:TypeId}{e:LA}(d:E.m l k=some b)(h:H l k=some (.tbox t e)):∃c,w.heap[b]? =some (.cells c t (0,0))/\VRs E e c.toList:=by
 obtain⟨j,a,c,i,g⟩:=f.blk l k _ (f.norm.J8 d) h;rw[d]at a;cases a;exact⟨c,i,g⟩
def Zja{m:Nat}{H:Za}{t J:TypeId}{x:Operand}{r:Zp}{l k e:Nat}{n:LA}(G:TOK P T)(ho:o.op= .load t x)(I:T t=some r)(N:ρ x= .ptr l k e)(M:H l k=some (.tbox J n))
  (Q:e+r.size<=n.length) (B:r.isAgg=false->e<n.length):
  Z5 P m o ρ H (if r.isAgg then .agg ((n.drop e).take r.size)else(n.drop e).getD 0 .dead) H:=fun E w a D g=>by
 have A:=g x sO;rw[N]at A;obtain⟨d,i,z,K⟩:=Zd (G t r I);have O:execOp a.eval o=(do let v<-Instr.loadAt t (a.eval x);pure (Next.value v)):=by simp only[execOp,ho]
 generalize L:a.eval x=y at A;cases A with|ptr _ _ _ b hm=>
 obtain⟨c,s,q⟩:=ZfO D hm M;have f:∀j u,(c.toList.drop e)[j]? =some u->w.cell? ⟨b,e+j,none⟩=some u:=fun j u F=>by
  rw[Uy]at F;simp only[World.cell?,s];simpa using F
 have C:=q.1;have p:=Vk (P:=P) K f (by rw[QL];omega) (fun h=>by rw[QL];have:=B h;omega);refine⟨_,E,w,.inl ?_,Zax (q.drop e) (fun h=>by rw[QL];have:=B h;omega),D,.refl m E w⟩;rw[O,L];simp only[Instr.loadAt,Instr.sureAddr,Sem.run_bind,Sem.run_pure,Result.andThen_ok,p]
def Zhv{m:Nat}{H:Za}{t G:TypeId}{x y:Operand}{r:Zp}{l k e:Nat}{I:LA}{v:AV}(Q:TOK P T)(ho:o.op= .store t x y)(R:T t=some r)(Z:ρ x= .ptr l k e)(V:ρ y=v)(X:H l k=some (.tbox G I))
  (A:v.cells.length=r.size) (n:∀c∈v.cells,c.one=true) (hl:e+r.size<=I.length):
  Z5 P m o ρ H (.tup []) (H.upd l k (.tbox G (splice I e v.cells))):=fun E w a J h=>by
 have q:=h x sO;have D:=h y sO;rw[Z]at q;rw[V]at D;obtain⟨d,i,z,U⟩:=Zd (Q t r R);have he:execOp a.eval o=(do Instr.storeAt t (a.eval x) (a.eval y);pure .skip):=by simp only[execOp,ho]
 generalize S:a.eval x=p at q;cases q with|ptr _ _ _ b hm=>
 obtain⟨c,C,s⟩:=ZfO J hm X;have g:=D.cells n;have f:(a.eval y).cells.toList.length=r.size:=g.1.trans A;have F:=s.1;have B:=run_storeCells_at P b e G (a.eval y).cells.toList 0 c w C (by rw[f];simp at F;omega) (fun u Y=>by
  obtain⟨j,M,rfl⟩:=QK Y;exact(g.2 j (by rw[<-g.1];exact M) M).one (n _ (Qa _)))
 simp only[UC]at B;obtain⟨W,K⟩:=J.turn (w':=w.setRow b (c.toList.take e++(a.eval y).cells.toList++c.toList.drop (e+(a.eval y).cells.toList.length)).toArray) (.inl hm) (.tbox G (splice I e v.cells)) (fun O=>absurd (J.m_g hm) O) rfl rfl rfl (fun _=>Qi _) (by simp[World.setRow])
  (fun N L=>setRow_other w b N _ L) (fun o=>J.mF _ _ _ o hm) ⟨b,hm,_,setRow_heap w b c _ G (0,0) C,by
   unfold splice;rw[f,A,Q5];exact(s.take e).append (g.append (s.drop _))⟩
 refine⟨undef,E,_,.inr ⟨?_,rfl⟩,XP E,W,K⟩;rw[he,S];simp only[Instr.storeAt,Instr.sureAddr,storeVar,Sem.run_bind,Sem.run_pure,Result.andThen_ok,ZA U];rw[if_neg (by simp at f;simp[f])];simp only[B,Result.andThen_ok]
def Zhs{m:Nat}{H:Za}{t:TypeId}{l k:Nat}{r:Zp}(B:TOK P T)(u:o.op= .alloc t)(C:T t=some r)(p:l<m)(c:H l k=none):
  Z5 P m o ρ H (.ptr l k 0) (H.upd l k (.tbox t r.zero)):=fun E w a f q=>by
 obtain⟨d,i,z,n⟩:=Zd (B t r C);have x:execOp a.eval o=(do let v<-Instr.alloc t true (.tuple #[]);pure (Next.value v)):=by simp only[execOp,u]
 have j:E.le m (E.XG l k w.heap.size):=by
  obtain⟨D,_,_⟩:=f.dom l k p c;exact⟨fun _ _ _ h=>h,fun F G b _ e=>by
   simp only[Env.XG];rw[if_neg (fun s=>by rw[s.1,s.2,D]at e;cases e)];exact e,fun _ _ _ _ _ h=>h,rfl⟩
 have y:VRs E r.zero z.cells.toList:=Y5 n.zfits;obtain⟨A,g⟩:=f.Zcv p c (.cells z.cells t) (.tbox t r.zero) ⟨w.heap.size,by simp[Env.XG],z.cells,heap_alloc_new w _,y.mono f.norm j⟩;refine⟨.pointer (some ⟨w.heap.size,0,none⟩),_,_,.inl ?_,.ptr l k 0 _ (by simp[Env.XG]),A,g⟩;rw[x];simp only[Instr.alloc,Sem.run_bind,Yg n,Zdd,Sem.run_pure,Result.andThen_ok]
end ops
end Go.Abs
