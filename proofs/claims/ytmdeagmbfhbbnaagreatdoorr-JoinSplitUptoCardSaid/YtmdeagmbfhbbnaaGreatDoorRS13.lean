/- operation. -/
import Derived.Test.YtmdeagmbfhbbnaaGreatDoorRS11
import Derived.Test.YtmdeagmbfhbbnaaGreatDoorRS12
import Derived.RecoverIn
import Derived.Test.YtmdeagmbfhbbnaaGreatDoorRS09
import Derived.Test.YtmdeagmbfhbbnaaGreatDoorRS05
import Derived.Test.YtmdeagmbfhbbnaaGreatDoorRTie
import Derived.Test.YtmdeagmbfhbbnaaGreatDoorRCards
import Derived.LaidSub
import Derived.Shelf.Vars
import Derived.Test.YtmdeagmbfhbbnaaGreatDoorRRows
import Derived.Deep.DeepHandedRow
import Derived.WalkKit
import Derived.ProofKit
import Derived.Stop.Joined
set_option linter.all false
set_option maxRecDepth 100000
open Go.Proofs.Tryz
namespace Go.Proofs.YtmdeagmbfhbbnaaGreatDoorR
open Go.Abs
noncomputable abbrev c200:Code:=(ZR Tryz.f200).snd.snd.snd.snd.fst.snd
def Jt(ls:List (List Int))(n:Nat):List (Nat×AV):=[(28,.fn (.func 257) [.iptr [.sl 1 (ls.map eIs) .any]]),(8,.ptr n 8 0),(2,.ptr n 2 0)]
def ZfF(op:Str)(n:Nat)(S:List Int):List (Nat×Ze):=[(26,.map (encI S)),(8,.box [.map n 26]),(2,.box [.str op])]
noncomputable def Za8(op:Str)(ls:List (List Int))(n l:Nat)(σ:List Int×Bool):List (Nat×Ze):=setb (ZfF op n σ.1) 100 (.lrec l Tryz.f200.ntmps 201 (Jt ls n) #[29] c200.fst.fst c200.fst.snd (if σ.2 then .busy else .ready) none)
noncomputable def ZbO(op:Str)(ls:List (List Int))(n l:Nat)(H:Za)(σ:List Int×Bool):Za:=full n (Za8 op ls n l σ) H
def JF(op:Str)(σ:List Int×Bool)(row:List Int):Option (List Int×Bool):=(J4 op σ.1 row).map fun S=>(S,false)
theorem Zdl(op:Str):∀(l:List (List Int)) (S:List Int),l.foldlM (JF op) (S,false)=(l.foldlM (J4 op) S).map fun T=>(T,false)
 |[],S=>rfl
 |r::l,S=>by
  rw[MG,MG];unfold JF;cases h:J4 op S r with
  |none=>rfl
  |some T=>exact Zdl op l T
section
variable {H:Za} {n l:Nat} {ls:List (List Int)}
def ZeA{op:Str}(o o':List Int×Bool):low (n+1) (ZbO op ls n l H o') (ZbO op ls n l H o)=ZbO op ls n l H o':=by
 funext a b;by_cases h:a<n+1
 ·rw[ZcG h]
 ·rw[Jl h];unfold ZbO full;rw[if_neg om,if_neg om]
def ZhC{k:Nat}(l:List (List Int)):Below n (.sl k (l.map eIs) .any):=Zy fun x hx=>by obtain⟨u,_,rfl⟩:=Qi.1 hx;exact JU n u
def Zrs{op:Str}{G:Za}{S T:List Int}{b:Bool}(hA:∀a j,a<n+1→G a j=ZbO op ls n l H (S,false) a j):
  (((G.upd n 100 (.lrec l Tryz.f200.ntmps 201 (Jt ls n) #[29] c200.fst.fst c200.fst.snd .busy none)).upd n 26 (.map (encI T))).upd n 100 (.lrec l Tryz.f200.ntmps 201 (Jt ls n) #[29] c200.fst.fst c200.fst.snd (if b then .busy else .ready) none))=low (n+1) (ZbO op ls n l H (T,b)) G:=by
 funext a j;by_cases h:a<n+1
 ·rw[ZcG h];have h1:=hA a j h;unfold Za.upd;by_cases e:a=n
  ·subst e;by_cases e1:j=100
   ·subst e1;simp[ZbO,full,Za8,ZfF,setb,lkb]
   ·by_cases e2:j=26
    ·subst e2;simp[ZbO,full,Za8,ZfF,setb,lkb]
    ·simp only[e1,e2,and_false,if_false];rw[h1];simp[ZbO,full,Za8,ZfF,setb,lkb,Ne.symm e1,Ne.symm e2]
  ·simp only[e,false_and,if_false];rw[h1];simp[ZbO,full,e]
 ·rw[Jl h];unfold Za.upd;simp only[show¬a=n from fun c=>h om,false_and,if_false]
def Yb{k:Nat}{b:Ze}(h:H l k=some b):H.upd l k b=H:=by
 funext x y;unfold Za.upd;split
 ·rename_i e;rw[e.1,e.2,h]
 ·rfl
def ZsR{cx:Cx}{dr:Bool}{o:Oper}{args:List Operand}{ts:List TypeId}{s:Zb}{F:Zb→Prop}{f:FuncId}{fn:Func}{c:Code}{r:AV}{avs:List AV}(hf:Fun cx.P f fn c)
  (h:PC cx.P (cx.n+1) f avs (full cx.n s.L s.H) r) (ha:Yo cx.T (evT s.tmps) args ts=avs) (hF:F ⟨Yl s.tmps o.dst r,s.L,s.H⟩):Vd cx dr o (.func f) args ts s F:=
 Zi2 hf rfl (by rw[Qs,ha];exact h) hF
def o200:Opt:=⟨false,false,fun d=>if d=41 then .heap else .auto,[]⟩
def ZnB(l:List Int):∀c∈flat (l.map eInt),c.sc=true:=fun c hc=>by
 obtain⟨x,hx,hc⟩:=Qw.1 hc;obtain⟨y,_,rfl⟩:=Qi.1 hx;simp only[eInt,AV.cells,Ql]at hc;subst hc;rfl
def ZsE(op:Str)(ls:List (List Int))(N:Nat)(hN:ls.length=N+1)(hl:N+1≤1000)(n l:Nat)(H:Za):ZnJ (n+1) l ls.length 3 1 eInt (ZbO op ls n l H) (JF op) (fun σ _=>σ.2=false∧σ.1.length≤1000):=by
 have hbt:Yg (fun p=>Below (n+1) p.2) (Jt ls n):=⟨ZaJ ⟨ZL (ZhC _),trivial⟩,.ptr _ _ _ (Qq n),.ptr _ _ _ (Qq n),trivial⟩
 refine⟨fun m G σ row hok hm hrl hA h7=>?_,fun σ σ' a b x ha hx=>?_,fun x=>⟨rfl,fun m c hc=>by simp only[eInt,AV.cells,Ql]at hc;subst hc;exact .int _ _⟩⟩
 ·obtain⟨S,b⟩:=σ;obtain⟨hb,hS⟩:=hok;simp only at hb hS;subst hb;have h100:G n 100=some (.lrec l Tryz.f200.ntmps 201 (Jt ls n) #[29] c200.fst.fst c200.fst.snd .ready none):=(hA n 100 (Qq n)).trans (by simp[ZbO,full,Za8,ZfF,setb,lkb]);have h26:G n 26=some (.map (encI S)):=(hA n 26 (Qq n)).trans (by simp[ZbO,full,Za8,ZfF,setb,lkb]);have h8:G n 8=some (.box [.map n 26]):=(hA n 8 (Qq n)).trans (by simp[ZbO,full,Za8,ZfF,setb,lkb]);have h2:G n 2=some (.box [.str op]):=(hA n 2 (Qq n)).trans (by simp[ZbO,full,Za8,ZfF,setb,lkb]);refine ZfI tt (x:=n) (y:=100) (Zf func200 rfl rfl).get h100 om rfl dc fun B'=>?_
  show AKc _ _ _ ⟨(29,.msl 1 (n+1) 7 ls.length)::Jt ls n,[],G⟩;unfold Jt;refine gd ?_;refine⟨rfl,h100,?_⟩;refine aS ?_;obtain⟨G1,hG1⟩:∃G1,G1=G.upd n 100 (.lrec l Tryz.f200.ntmps 201 (Jt ls n) #[29] c200.fst.fst c200.fst.snd .busy none):=⟨_,rfl⟩
  have h26':G1 n 26=some (.map (encI S)):=by rw[hG1,Za.upd_ne _ _ sm];exact h26
  have h8':G1 n 8=some (.box [.map n 26]):=by rw[hG1,Za.upd_ne _ _ sm];exact h8
  have h2':G1 n 2=some (.box [.str op]):=by rw[hG1,Za.upd_ne _ _ sm];exact h2
  have h7':G1 (n+1) 7=some (.Zg 3 1 (flat (row.map eInt)) ls.length):=by rw[hG1,Za.upd_ne _ _ sm];exact h7
  have hnm:¬n=m:=om;have hnm1:¬n+1=m:=om;change AKc _ _ _ ⟨_,[],G.upd n 100 (.lrec l Tryz.f200.ntmps 201 (Jt ls n) #[29] c200.fst.fst c200.fst.snd .busy none)⟩;rw[←hG1];refine nq2 h2' hnm ?_;refine ZsR (Zf func235 rfl rfl) (ZnT (pre:=[.str op]) (ZuL op row om) ((Zi hm _ _ _).trans h7') om (by simp[hrl]) (Zm om) (fun x hx=>by obtain⟨y,_,rfl⟩:=Qi.1 hx;rfl) (ZnB row) (by simp[AV.sc]) (by simp[AV.sc])) sS ?_;refine aS ?_;have hlow:=fun T b=>Zrs (T:=T) (b:=b) hA
  rw[←hG1]at hlow;have h100':G1 n 100=some (.lrec l Tryz.f200.ntmps 201 (Jt ls n) #[29] c200.fst.fst c200.fst.snd .busy none):=by rw[hG1,Za.upd_same]
  cases hc:X8 op row with
  |none=>
   have hst:JF op (S,false) row=some (S,false):=by unfold JF J4;rw[hc];rfl
   refine nr ?_;simp only[go_sem,simprocAttr,Option.isSome];refine nF ?_;refine nN ?_;refine⟨h100',(S,false),hst,rfl,?_⟩;have:=hlow S false;rw[Yb h26']at this;exact this
  |some v=>
   refine nr ?_;simp only[go_sem,simprocAttr,Option.isSome,Option.getD];refine nT ?_;refine nq3 h8' hnm h26' ?_;rw[ZqX];refine⟨⟨rfl,Zpj S⟩,.inr (ZaN _),?_⟩;obtain⟨T,hT⟩:∃T,T=Zdr S v:=⟨_,rfl⟩
   have hTl:T.length≤S.length+1:=hT▸ZoI;have hst:JF op (S,false) row=if 1000<T.length then none else some (T,false):=by
    unfold JF J4;rw[hc,hT];simp only;split<;>rfl
   rw[←hT];refine ZeG 197 tok o200 rfl (pre:=[_,_]) (post:=[]) rfl rfl rfl rfl ?_;have hu8:(G1.upd n 26 (.map (encI T))) n 8=some (.box [.map n 26]):=by rw[Za.upd_ne _ _ sm];exact h8'
   have hu26:full m [] (G1.upd n 26 (.map (encI T))) n 26=some (.map (encI T)):=(Zi om _ _ _).trans (Za.upd_same ..);have hu100:(G1.upd n 26 (.map (encI T))) n 100=some (.lrec l Tryz.f200.ntmps 201 (Jt ls n) #[29] c200.fst.fst c200.fst.snd .busy none):=by rw[Za.upd_ne _ _ sm];exact h100'
   simp only[go_sem,simprocAttr,o200,hnm,hu8];refine Step.look (Zlz (re:=_) tok rfl rfl rfl hu26) ?_;rw[Zky];simp only[go_sem,simprocAttr,o200];refine Js (Zf func232 rfl rfl) (e232 (m+1) _ (T.length:Int)) sS ?_ ?_
   ·rintro r H1 ⟨hle,rfl,rfl⟩;refine⟨_,_,rfl,.refl _ _,?_⟩;rw[if_neg om]at hst;refine gO ?_;exact⟨hu100,(T,false),hst,rfl,hlow T false⟩
   ·rintro H1 ⟨hgt,rfl⟩;refine⟨_,_,rfl,.refl _ _,?_⟩;rw[if_pos om]at hst;refine⟨rfl,hst,(T,true),?_⟩;have:=hlow T true;rw[if_pos rfl,Yb hu100]at this;exact this
 ·unfold ZbO full at hx⊢;by_cases h:a=n
  ·rw[if_pos h]at hx;have hb:Yg (fun q:Nat×Ze=>q.2.Below (n+1)) (Za8 op ls n l σ'):=
    ⟨ZaN _,Ze.Zz ⟨.map _ _ (Qq n),trivial⟩,Ze.Zz ⟨.str _,trivial⟩,Ze.ZaX hbt,trivial⟩
   exact .inr (hb.mem _ (lkb_mem hx))
  ·rw[if_neg h]at hx⊢;exact .inl hx
def Zt9(op:Str)(ps:List (List Tm))(n:Nat)(H:Za)(i:Nat):Zb:=
 ⟨[(16,.int .i64 i),(15,.int .i64 ps.length),(14,.sl 1 (ps.map eTs) .any),(5,.sl 1 (((ps.take i).map Ym).map eIs) (.buf n 200)),(2,.ptr n 2 0)],[(200,.buf 113 1 i),(2,.box [.str op])],H⟩
def ZiT(S:List Int)(i:Nat):Int:=S.getD i 0
def ZlL(S:List Int):(List.range S.length).map (ZiT S)=S:=by
 apply Gl
 ·simp
 ·intro i h1 h2;simp[ZiT,h2]
def ZpF(S:List Int)(n:Nat)(H:Za)(seen:List Nat):Zb:=
 ⟨[(44,.ptr n 44 0),(12,.msl 4 n 201 seen.length)],[(44,.iter n 26 S.length seen),(201,.Zg 40 4 (flat (((seen.map (ZiT S)).map Yf).map Tm.enc)) seen.length),(26,.map (encI S))],H⟩
def Zus(op:Str)(ps:List (List Tm))(n:Nat)(H:Za)(S:List Int)(hS:(Yd (ps.map Ym)).foldlM (J4 op) []=some S)(B:Base):
  AKc ⟨prog,tt,⟨none,B⟩,n,Tryz.f200.ntmps⟩ [.code (ZR Tryz.f200).snd.snd.snd.snd.snd] (ZdU prog tt 197 n Tryz.f200.results.toList (fun r H'=>∃l,Za3 op ps=some l∧r= .sl 4 (l.map Tm.enc) .any∧H'=H) (fun H'=>Za3 op ps=none∧H'=H))
   ⟨[(8,.ptr n 8 0)],[(26,.map (encI S)),(8,.box [.map n 26])],H⟩:=by
 obtain⟨hnd0,hSl,_⟩:=Zdt Gz sm hS;have hel:=Zky S;have hgd:∀j (h:j<S.length),(encI S).getD j (.dead,.dead)=(.int .i64 S[j],.int .i64 S[j]):=fun j h=>by
  rw[Qp];simp[encI,Zax,h,eInt]
 refine gk ?_;refine ZbX 12 201 40 4 rfl rfl ?_;refine Zaf (fun m st=>∃seen:List Nat,seen.Nodup∧(∀i∈seen,i<S.length)∧m=S.length - seen.length∧st=ZpF S n H seen) (m0:=S.length) (s0:=ZpF S n H []) rfl ?_ ⟨[],sm,sm,sm,rfl⟩ ?_
 ·rw[hel];exact KK
 rintro m st ⟨seen,hnd,hlt,rfl,rfl⟩;refine Yc rfl ?_;have hlen:seen.length≤S.length:=by
  have:=YL hnd (q:=List.range S.length) (fun i hi=>by simpa using hlt i hi);simpa using this
 refine nR ?_;refine⟨44,n,26,encI S,seen,rfl,by simp only[go_sem,simprocAttr,hel],sS,fun hall=>?_,fun i hi hni=>?_⟩
 ·refine aS ?_;refine gg ?_;have hp:(seen.map (ZiT S)).Perm S:=by
   conv=>rhs;rw[←ZlL S]
   refine List.Perm.map _ ((QaY hnd QaC).2 fun i=>?_);rw[MK];exact⟨hlt i,fun h=>hall i om⟩
  obtain⟨xs,hxs⟩:∃xs,xs=(seen.map (ZiT S)).map Yf:=⟨_,rfl⟩
  have hxl:seen.length=xs.length:=by rw[hxs];simp
  rw[←hxs,hxl];obtain⟨ho1,ho2,ho3⟩:=Zn9 hS (hxs▸hp.map Yf);refine kK ?_;refine Yx 197 tok (pre:=[_]) (post:=[_]) rfl rfl rfl rfl ?_;refine aS ?_;refine Js (Zf func236 rfl rfl) (ZvI (n+1) _ n 201 (Qq n) xs ho3 om (by simp[full,lkb])) sS ?_ ?_
  ·rintro r H1 ⟨_,hq⟩;have hLi:∀p∈[(44,Ze.iter n 26 S.length seen),(26,Ze.map (encI S))],p.2.Inside n (fun k=>k≠201):=fun p hp=>by
    simp only[Qk,QD,or_false]at hp;rcases hp with rfl|rfl
    ·exact⟨by simp[Ze.avs],fun q' hq=>by simp only[Ze.at_,Ql]at hq;subst hq;exact .inr ⟨rfl,show(26:Nat)≠201 by decide⟩⟩
    ·exact⟨fun c hc=>((ZaN (n:=n) S).1 c hc).inside,by simp[Ze.at_]⟩
   generalize XI cmpT xs=U at*;rcases hq with⟨rfl,e,rfl⟩|⟨rfl,hpos,hle,rfl⟩
   ·refine⟨_,H,(Zn n _ H 201 _).symm,.refl _ _,?_⟩;refine aS ?_;refine ZK (Xm (tm':=[(4,.sl 4 (U.map Tm.enc) .any)]) (j:=201) (U.map Tm.enc) rfl rfl (by simp[e]) (ZlW U) (ZdW U).mem (fun p hp=>?_) hLi) ?_
    ·simp only[Qk,QD,or_false]at hp;subst hp;exact .inr ⟨4,rfl,rfl⟩
    refine nV ?_;exact Ve (Zk (.refl _) (ZH _) ⟨U,ho1,rfl,rfl⟩)
   ·refine⟨_,H,(Zn n _ H 201 _).symm,.refl _ _,?_⟩;refine aS ?_;refine ZK (JJ (tm':=[(4,.sl 4 (U.map Tm.enc) .any)]) (j:=201) (U.map Tm.enc++List.replicate (xs.length - U.length) zTm) rfl rfl (by simp;omega) (fun x hx=>?_) (fun c hc=>?_) (fun p hp=>?_) hLi) ?_
    ·rcases Qg.1 hx with hx|hx
     ·exact ZlW U x hx
     ·rw[(Uh.1 hx).2];rfl
    ·obtain⟨z,hz,hc⟩:=Qw.1 hc;rcases Qg.1 hz with hz|hz
     ·exact(ZdW U).mem c (Qw.2 ⟨z,hz,hc⟩)
     ·rw[(Uh.1 hz).2]at hc;exact Yg.mem (l:=zTm.cells) (p:=fun c=>Inside n (fun k=>k≠201) c) ⟨.int _ _,.int _ _,.str _,inZ,trivial⟩ c hc
    ·simp only[Qk,QD,or_false]at hp;subst hp;exact .inr (.inr ⟨0,U.length,rfl,by rw[GZ,Gf sm]⟩)
    refine nV ?_;exact Ve (Zk (.refl _) (ZH _) ⟨U,ho1,rfl,rfl⟩)
  ·rintro H1 ⟨hgt,_⟩;omega
 ·have hi':i<S.length:=om;have hgi:=hgd i hi';refine aq hgi ?_;refine nT ?_;obtain⟨h0,t0,het⟩:∃h0 t0,seen++[i]=h0::t0:=by
   cases seen with
   |nil=>exact⟨i,[],rfl⟩
   |cons x y=>exact⟨x,y++[i],rfl⟩
  have hgl:∀p,(h0::t0).getLast p=i:=fun p=>by
   have:∀(l:List Nat) (q:l≠[]),l=seen++[i]→l.getLast q=i:=fun l q e=>by subst e;simp
   exact this _ p het.symm
  rw[het];refine nq3 hel hgl hgi ?_;refine⟨hi',?_⟩;refine nR ?_;refine VK (Zf func233 rfl rfl) (e233 S[i]) sS ?_;refine aS ?_;refine⟨rfl,⟨Zm om,om⟩,?_⟩;rw[←het];refine nN ?_;have hnd':(seen++[i]).Nodup:=Gn.2 ⟨hnd,sm,fun x hx y hy e=>by
   simp only[Ql]at hy;subst hy;subst e;exact hni hx⟩
  have hlt':∀x∈seen++[i],x<S.length:=fun x hx=>by
   rcases Qg.1 hx with hx|hx
   ·exact hlt x hx
   ·simp only[Ql]at hx;subst hx;exact hi'
  have hl1:(seen++[i]).length=seen.length+1:=sm;have hle':=YL hnd' (q:=List.range S.length) (fun x hx=>by simpa using hlt' x hx);simp only[Qd,Qo,QC,MV,QG]at hle';have hfl:flat (((seen.map (ZiT S)).map Yf).map Tm.enc)++flat [(Yf S[i]).enc]=flat ((((seen++[i]).map (ZiT S)).map Yf).map Tm.enc):=by
   have hka:ZiT S i=S[i]:=by simp[ZiT,hi']
   rw[←YQ,QL,QL,QL,Qu,hka];rfl
  rw[hfl];refine⟨S.length - (seen++[i]).length,ZpF S n H (seen++[i]),by simp only[Qd,Qo,QC];omega,?_,seen++[i],hnd',hlt',rfl,rfl⟩;apply kZ;repeat' first|apply q0|exact xx|apply aI
  all_goals first|exact Zku S|exact Zeb rfl|exact .msl _ _ _ _ (.inr ⟨rfl,rfl⟩)|(intro a ha;simp[Ze.avs]at ha;done)|(intro q hq;simp only[Ze.at_,Ql]at hq;subst hq;exact .inr ⟨rfl,rfl⟩)|exact ZdW _|(simp only[go_sem,simprocAttr,hl1];try exact .refl _)
def Zvq(op:Str)(ps:List (List Tm))(N:Nat)(hN:ps.length=N+1)(hl:N+1≤1000)(hq:∀q∈ps,q.length≤1000000)(n:Nat)(H:Za)(hn:0<n)(hT:Tabs H):
  Z9 prog 197 n 200 [.str op,.sl 1 (ps.map eTs) .any] H (fun r H'=>∃l,Za3 op ps=some l∧r= .sl 4 (l.map Tm.enc) .any∧H'=H) (fun H'=>Za3 op ps=none∧H'=H):=by
 have hso:∀(q:Nat→Prop) (r:List (List Int)),q 200→Inside n q (.sl 1 (r.map eIs) (.buf n 200)):=fun q r h=>Abs.Yz (mB fun u=>JU n u) h
 refine ZgR (T:=tt) tok (Zf func200 rfl rfl) sm fun B=>?_
 refine Zhp tt (d:=(ZR Tryz.f200).snd.snd.snd.snd) [(ZR Tryz.f200).fst,(ZR Tryz.f200).snd.fst,(ZR Tryz.f200).snd.snd.fst,(ZR Tryz.f200).snd.snd.snd.fst] rfl ?_;show AKc _ [.code _,.code _,.code _,.code _] _ _;refine gz ?_;refine XL 5 200 113 1 rfl rfl ?_;refine Zt (Zt9 op ps n H) ps.length rfl ?_ ?_
 ·exact KK
 intro i hi;refine Yc rfl ?_;rcases Qj i ps.length with h|h
 ·refine nr ?_;simp only[go_sem,simprocAttr,h];refine nT ?_;refine nq2 (getD_map eTs _ _ h) h ?_;refine nr ?_;simp only[go_sem,simprocAttr,eTs];refine VK (Zf func199 rfl rfl) (e199 ps[i] (hq _ (Qa h))) sS ?_;have htl:(ps.take i).length=i:=by rw[QK];omega
  have hts:((ps.take i).map Ym).map eIs++[AV.sl 1 ((Ym ps[i]).map eInt) .any]=((ps.take (i+1)).map Ym).map eIs:=by rw[Qn h,QL,QL];rfl
  refine aq2 htl hts ?_;refine⟨rfl,⟨Zm om,om⟩,?_⟩;refine gd ?_;exact KK
 ·have hi':i=ps.length:=om;subst hi';refine nr ?_;simp only[go_sem,simprocAttr,Ui];refine gG ?_;refine Zh0 (show Zbd _ _ _ _ _ _ _ _ from ?_);have htk:(ps.take ps.length).map Ym=ps.map Ym:=by rw[QN]
  rw[htk];obtain⟨ls,hls⟩:∃ls,ls=ps.map Ym:=⟨_,rfl⟩
  have hll:ls.length=N+1:=by rw[hls,Qv,hN]
  have hlq:∀q∈ls,q.length≤1000000:=fun q hq'=>by
   rw[hls]at hq';obtain⟨u,hu,rfl⟩:=Qi.1 hq';unfold Ym;rw[Qv];exact Ux (UL _ _) (hq u hu)
  rw[←hls];refine ZdP rfl (ZdP rfl (ZrA (T:=tt) ?_));refine nR ?_;refine cQ (Zh.args (e234 ls (n+1) _) (args':=[.sl 1 (ls.map eIs) (.buf n 200)]) ⟨.any _ _ _,trivial⟩) ?_;refine aS ?_;refine Zh0 (show Zbd _ _ _ _ _ _ _ _ from ?_);refine Zd7 (s':=⟨Jt ls n,ZfF op n [],H⟩) ?_ ?_
  ·unfold Jt ZfF;apply kZ;repeat' first|apply q0|exact xx|apply aI
   all_goals first|exact Below.inside (v:=.fn (.func 257) [.iptr [.sl 1 (ls.map eIs) .any]]) (ZaJ ⟨ZL (ZhC _),trivial⟩)|exact Zeb rfl
  refine Zgp rfl ?_;refine Zbx (t:=197) (T:=tt) (caps:=[.iptr [.sl 1 (ls.map eIs) .any]]) 100 rfl (by unfold Jt;simp only[go_sem,simprocAttr]) (Zf func257 rfl rfl) rfl fun l=>?_
  have hok:∀pr r po σ',Yd ls=pr++r::po→pr.foldlM (JF op) ([],false)=some σ'→σ'.2=false∧σ'.1.length≤1000:=fun pr r po σ' e1 e2=>by
   rw[Zdl]at e2;obtain⟨T,hT,rfl⟩:=Um.1 e2;exact⟨rfl,(Zdt Gz sm hT).2.1⟩
  refine⟨_,_,e257 (n:=n+1) (l:=l) (A:=ZbO op ls n l H) (step:=JF op) (ok:=fun σ _=>σ.2=false∧σ.1.length≤1000) _ ls om hlq (ZsE op ls N hll hl n l H) ([],false) (fun a b _=>rfl) hok,?_,?_⟩
  ·rintro r H1 ⟨σ',hs,rfl⟩;obtain⟨S,rfl,hS⟩:∃S,σ'=(S,false)∧(Yd ls).foldlM (J4 op) []=some S:=by
    have hs':(Yd ls).foldlM (JF op) ([],false)=some σ':=by unfold WI at hs;simpa using hs
    rw[Zdl]at hs';obtain⟨T,hT,rfl⟩:=Um.1 hs';exact⟨T,rfl,hT⟩
   refine⟨Za8 op ls n l (S,false),H,.ready,ZeA (op:=op) (ls:=ls) (n:=n) (l:=l) (H:=H) ([],false) (S,false),.refl _ _,rfl,sm,?_⟩;refine ZkA (ZrA (T:=tt) ?_);refine ZK (s':=⟨[(8,.ptr n 8 0)],[(26,.map (encI S)),(8,.box [.map n 26])],H⟩) ?_ ?_
   ·unfold Jt Za8 ZfF;exact KK
   rw[hls]at hS;exact Zus op ps n H S hS B
  ·rintro H1 ⟨hs,σ',rfl⟩;have hS:(Yd ls).foldlM (J4 op) []=none:=by
    have hs':(Yd ls).foldlM (JF op) ([],false)=none:=by unfold WI at hs;simpa using hs
    rw[Zdl]at hs';simpa using hs'
   rw[hls]at hS;exact⟨Za8 op ls n l σ',H,ZeA (op:=op) (ls:=ls) (n:=n) (l:=l) (H:=H) ([],false) σ',.refl _ _,rfl,Znu hS,rfl⟩
end
theorem expSs_append:∀(p:List Tm) (u:Tm),expandS.expandSs (p++[u])=(expandS.expandSs p).bind fun ps=>(expandS u).bind fun q=>some (ps++[q])
 |[],u=>by
  simp only[Q5,expandS.expandSs];cases expandS u<;>rfl
 |t::r,u=>by
  simp only[Q9,expandS.expandSs,expSs_append r u];cases expandS t with
  |none=>rfl
  |some p=>
   simp only[UH];cases expandS.expandSs r with
   |none=>rfl
   |some ps=>cases expandS u<;>rfl
theorem Zlj{l:List Tm}{i:Nat}(h:i<l.length)(e:expandS l[i]=none):expandS.expandSs l=none:=by
 cases hs:expandS.expandSs l with
 |none=>rfl
 |some ps=>
  obtain⟨q,_,hq⟩:=(expandSs_fa hs).left (Qa h);rw[e]at hq;cases hq
def Zui(t:Tm)(ps:List (List Tm)):Option (List Tm):=if t.kind=6 then WC (Ym (ps.getD 0 [])) (Ym (ps.getD 1 []))else if t.kind=5 then Za3 t.name ps else Zd0 t.name ps
def ZlK(t:Tm)(h:t.args≠[]):expandS t=(expandS.expandSs t.args).bind (Zui t):=by
 cases t with|mk k n s a=>
 cases a with
 |nil=>exact absurd rfl h
 |cons u r=>rw[expandS];rfl
def ZhX{t:Tm}(h:t.args=[]):expandS t=some [t]:=by
 cases t with|mk k n s a=>
 simp only[Tm.args]at h;subst h;exact ZaP
def ZpJ(t:Tm)(ps:List (List Tm))(n:Nat)(H:Za)(i:Nat):Zb:=
 ⟨[(16,.int .i64 i),(15,.int .i64 t.args.length),(14,.sl 4 (t.args.map Tm.enc) .any),(3,.sl 1 (ps.map eTs) (.buf n 200)),(1,.ptr n 1 0)],[(200,.buf 37 1 ps.length),(1,.box t.cs)],H⟩
def Zjw{l:List Tm}(h:∀v∈l,v.all okv=true):∀x∈Ym l,-2147483648≤x∧x≤2147483648:=fun x hx=>by
 have:=Zhk h x hx;unfold Y8 at this;rw[Qh,decide_eq_true_eq,decide_eq_true_eq]at this;omega
def Zkv(l:List Tm):(Ym l).length≤l.length:=by unfold Ym;rw[Qv];exact UL _ _
def e154(t:Tm)(ht:t.Good)(hG:t.all okG=true)(n:Nat)(H:Za)(hn:0<n)(hT:Tabs H):
  Z9 prog 197 n 154 [t.enc] H (fun r H'=>∃l,expandS t=some l∧r= .sl 4 (l.map Tm.enc) .any∧H'=H) (fun H'=>expandS t=none∧H'=H):=by
 have hl:=ht.len;have ih:∀u∈t.args,∀(n:Nat) (H:Za),0<n→Tabs H→Z9 prog 197 n 154 [u.enc] H (fun r H'=>∃l,expandS u=some l∧r= .sl 4 (l.map Tm.enc) .any∧H'=H) (fun H'=>expandS u=none∧H'=H):=
  fun u hu n H hn hT=>e154 u (ht.arg hu) (Xj (by cases t;exact hG) hu) n H hn hT
 have ho:∀(q:Nat→Prop) (r:List (List Tm)),q 200→Inside n q (.sl 1 (r.map eTs) (.buf n 200)):=fun q r h=>Abs.Yz (mB fun u=>JZ n u) h
 refine xF func154 fun B=>?_
 refine nR ?_;by_cases h0:t.args=[]
 ·have hl0:((t.args.length:Int)==0)=true:=by rw[h0];rfl
  refine nq hl0 ?_;refine gi ?_;refine cP (Zsh t ht) ?_;refine⟨rfl,?_⟩;refine nV ?_;exact Ve (Zk (v:=.sl 4 ([t].map Tm.enc) .any) (.any _ _ _) (ZH [t]) ⟨[t],ZhX h0,rfl,rfl⟩)
 have hpos:0<t.args.length:=GX.2 h0;have hl0:((t.args.length:Int)==0)=false:=by simp;omega
 have hE:=ZlK t h0;refine nq hl0 ?_;refine nF ?_;refine gk ?_;refine XL 3 200 37 1 rfl rfl ?_;refine Zaf (fun μ st=>∃i ps,i≤t.args.length∧μ=t.args.length - i∧expandS.expandSs (t.args.take i)=some ps∧ps.length=i∧st=ZpJ t ps n H i) (m0:=t.args.length) (s0:=ZpJ t [] n H 0) rfl ?_ ⟨0,[],Uo _,rfl,rfl,rfl,rfl⟩ ?_
 ·exact KK
 rintro μ st ⟨i,ps,hi,rfl,hps,hpl,rfl⟩;refine Yc rfl ?_;rcases Qj i t.args.length with h|h
 ·refine nq h ?_;refine nT ?_;refine nq2 (Tm.Zp _ _ h) h ?_;refine kK ?_;refine Yx 197 tok (pre:=[_,_]) (post:=[_,_,_]) rfl rfl rfl rfl ?_;refine aS ?_;refine Js (Zf func154 rfl rfl) (ih _ (Qa h) (n+1) _ (QT _) (hT.full hn)) sS ?_ ?_
  ·rintro r H1 ⟨q,hq,rfl,rfl⟩;refine⟨_,_,rfl,.refl _ _,?_⟩;have hm:(ps.map eTs)++[eTs q]=(ps++[q]).map eTs:=by rw[QL];rfl
   refine aS ?_;refine⟨by first|exact⟨rfl,dc⟩|exact rfl,⟨Zm om,om⟩,?_⟩;change AKc _ _ _ ⟨(3,.sl 1 ((ps.map eTs)++[eTs q]) (.buf n 200))::_,_,_⟩;rw[hm];refine gd ?_;have hps':expandS.expandSs (t.args.take (i+1))=some (ps++[q]):=by
    rw[Qn h,expSs_append,hps,hq];rfl
   have hpl':(ps++[q]).length=i+1:=by simp[hpl]
   refine⟨t.args.length - (i+1),ZpJ t (ps++[q]) n H (i+1),om,?_,i+1,ps++[q],h,rfl,hps',hpl',rfl⟩;apply kZ;repeat' first|apply q0|exact xx|apply aI
   all_goals first|exact(ZH _).inside|exact ho _ _ rfl|exact xI|(simp only[go_sem,simprocAttr,hpl',hpl];done)|skip
   trace_state
  ·rintro H1 ⟨hq,rfl⟩;refine⟨_,_,rfl,.refl _ _,?_⟩;refine Vb ⟨rfl,?_,rfl⟩ _;rw[hE,Zlj h hq];rfl
 ·have hi':i=t.args.length:=om;subst hi';rw[QN]at hps;rw[hps]at hE;have hfa:=expandSs_fa hps;have hpl':=hpl;have hql:∀q∈ps,q.length≤1000000:=fun q hq=>by
   obtain⟨u,hu,hue⟩:=hfa.right hq;have:=ZcH hue;omega
  have hokp:∀q∈ps,∀v∈q,v.all okv=true:=fun q hq v hv=>by
   obtain⟨u,hu,hue⟩:=hfa.right hq;exact(expand_val u (Xj (by cases t;exact hG) hu) q hue v hv).1
  refine nr ?_;simp only[go_sem,simprocAttr,Ui];refine gg ?_;refine gh ?_;refine nR ?_;have h0k:=Zhv (Y1 hG);have hlen8:1≤t.args.length∧t.args.length≤8:=by
   rcases h0k with⟨_,_,h⟩|⟨_,_,_,_,h⟩|⟨_,h⟩|⟨_,h⟩
   ·exact absurd h h0
   ·exact h
   ·omega
   ·omega
  obtain⟨N,hN⟩:∃N,ps.length=N+1:=⟨ps.length - 1,om⟩
  rw[UH]at hE;unfold Zui at hE;by_cases k6:t.kind=6
  ·have hk:(t.kind==6)=true:=by simp[k6]
   have hlen2:t.args.length=2:=by
    rcases h0k with⟨_,h,_⟩|⟨_,h,_⟩|⟨h,_⟩|⟨_,h⟩<;>omega
   obtain⟨p,q,rfl⟩:∃p q,ps=[p,q]:=by
    rw[hlen2]at hpl
    match ps,hpl with
    |[p,q],_=>exact⟨p,q,rfl⟩
   rw[if_pos k6]at hE;change expandS t=WC (Ym p) (Ym q)at hE;have hp1:=hql p sm;have hq1:=hql q sm;have h198:=fun n H=>Zuy n H (Ym p) (Ym q) (Ux (Zkv p) hp1) (Ux (Zkv q) hq1) (Zjw (hokp p sm)) (Zjw (hokp q sm))
   rw[hk];refine nT ?_;refine kK ?_;cases hI:WC (Ym p) (Ym q)with
   |none=>
    refine Zpp 197 tok mixed drawO rfl (pre:=[_,_,_,_,_,_,_,_]) (post:=[_]) rfl rfl rfl rfl ?_;simp only[go_sem,simprocAttr,eTs];refine cP (e199 p hp1) ?_;refine cP (e199 q hq1) ?_;refine nN ?_;refine Js (Zf func198 rfl rfl) (h198 (n+1) _) sS ?_ ?_
    ·rintro r H1 ⟨l,hl,_⟩;rw[hI]at hl;cases hl
    ·rintro H1 ⟨hl,rfl⟩;exact⟨_,_,rfl,.refl _ _,rfl,hE.trans hI,rfl⟩
   |some l=>
    refine nD drawO ?_;simp only[go_sem,simprocAttr,eTs];refine cP (e199 p hp1) ?_;refine cP (e199 q hq1) ?_;refine VK (Zf func198 rfl rfl) (r:=.sl 4 (l.map Tm.enc) .any) (fun n H=>(Z9.ret (h198 n H) (fun H' h=>by rw[hI]at h;cases h.1)).mono fun r H' h=>by
     obtain⟨l',h1,h2,h3⟩:=h;rw[hI]at h1;cases h1;exact⟨h2,h3⟩) sS ?_
    refine gw ?_;exact Ve (Zk (.refl _) (ZH _) ⟨l,hE.trans hI,rfl,rfl⟩)
  have hk:(t.kind==6)=false:=by simp[k6]
  rw[if_neg k6]at hE;rw[hk];refine gv ?_;by_cases k5:t.kind=5
  ·have hk5:(t.kind==5)=true:=by simp[k5]
   rw[if_pos k5]at hE;rw[hk5];refine nT ?_;refine kK ?_;refine Yx 197 tok (pre:=[_,_,_]) (post:=[_]) rfl rfl rfl rfl ?_;refine aS ?_;refine Js (Zf func200 rfl rfl) (Z9.wk (args:=[.str t.name,.sl 1 (ps.map eTs) (.buf n 200)]) (Zvq t.name ps N hN om hql (n+1) _ (QT _) (hT.full hn)) ⟨.refl _,.any _ _ _,trivial⟩) sS ?_ ?_
   ·rintro r H1 ⟨l,hl,rfl,rfl⟩;refine⟨_,_,rfl,.refl _ _,?_⟩;refine gw ?_;exact Ve (Zk (.refl _) (ZH _) ⟨l,hE.trans hl,rfl,rfl⟩)
   ·rintro H1 ⟨hl,rfl⟩;exact⟨_,_,rfl,.refl _ _,rfl,hE.trans hl,rfl⟩
  have hk5:(t.kind==5)=false:=by simp[k5]
  rw[if_neg k5]at hE;rw[hk5];refine gu ?_;refine Yx 197 tok (pre:=[_,_,_]) (post:=[_]) rfl rfl rfl rfl ?_;refine aS ?_;refine Js (Zf func201 rfl rfl) (Z9.wk (args:=[.str t.name,.sl 1 (ps.map eTs) (.buf n 200)]) (ZvF t.name ps N hN om hql (n+1) _ (QT _) (hT.full hn)) ⟨.refl _,.any _ _ _,trivial⟩) sS ?_ ?_
  ·rintro r H1 ⟨l,hl,rfl,rfl⟩;refine⟨_,_,rfl,.refl _ _,?_⟩;refine gw ?_;exact Ve (Zk (.refl _) (ZH _) ⟨l,hE.trans hl,rfl,rfl⟩)
  ·rintro H1 ⟨hl,rfl⟩;exact⟨_,_,rfl,.refl _ _,rfl,hE.trans hl,rfl⟩
termination_by SizeOf.sizeOf t
decreasing_by exact Tm.Xp hu
end Go.Proofs.YtmdeagmbfhbbnaaGreatDoorR

namespace Go.Abs
def dfr(f:FuncId)(vs:List Value):Deferred:={target:=.fn (.func f) vs.toArray,args:=#[]}
def Zg2(P:Program)(m:Nat)(f:FuncId)(args:List AV)(H:Za)(u:FrameMode)(Q:Za→Prop):Prop:=
 ∀E w vs,Zq m H E w→VRs E args vs→CallsDIn Fence.wide 0 P f vs.toArray u w fun e u' w'=>(∃v,e= .returned v)∧settle u'= .returning∧ ∃H' E',Q H'∧Zq m H' E' w'∧Ext m E w E' w'
section
variable {E E':Env} {n m:Nat}
def Zqy(hnm:n≤m)(h:E.le n E'):E.le n (E'.cut m):=
 ⟨h.F,fun l k b hl hm=>by simp only[Env.cut,if_pos (Ul hl hnm)];exact h.m l k b hl hm,fun l k j v hl hm=>by simp only[Env.cut,if_pos (Ul hl hnm)];exact h.hist l k j v hl hm,h.qd⟩
def ZmE{b:Nat}(ho:(E.cut m).own b):E.own b:=by
 rcases ho with⟨l,k,hm⟩|⟨l,k,hm⟩
 ·simp only[Env.cut]at hm;split at hm
  ·exact .inl ⟨l,k,hm⟩
  ·cases hm
 ·simp only[Env.cut]at hm;split at hm
  ·exact .inr ⟨l,k,hm⟩
  ·cases hm
def Zjv(hnm:n≤m){w w' w2:World}(hx:Ext n E w E' w')(k2:∀b,b<w.heap.size→w2.heap[b]? =w'.heap[b]?)(k3:w2.os=w'.os)(k4:w2.tape=w'.tape)(k5:w2.output=w'.output)(k6:w2.drawn=w'.drawn)(k7:w2.heap.size=w'.heap.size):Ext n E w (E'.cut m) w2:=
 ⟨Zqy hnm hx.le,k3.trans hx.os,k4.trans hx.tape,k5.trans hx.output,fun hq=>by rw[k6];exact hx.drawn hq,by rw[k7];exact hx.size,fun b hb' ho=>by rw[k2 b hb'];exact hx.block b hb' ho,fun b hb' ho=>hx.own b hb' (ZmE ho)⟩
def VR.Zuq{a:AV}{v:Value}(h:VR E a v)(hb:Below m a)(hle:E.le m E'):VR E' a v:=
 (h.cut hb).mono (Env.Zf1 m E) ⟨hle.F,fun l k b hl hm=>hle.m l k b hl (by simp only[Env.cut,if_pos hl]at hm;exact hm),fun l k j v hl hm=>hle.hist l k j v hl (by simp only[Env.cut,if_pos hl]at hm;exact hm),hle.qd⟩
theorem ZbH{P:Program}{fn:Func}{tmps:Array Value}{R:Ending→World→Prop}{m:Nat}{H:Za}{E:Env}{u:FrameMode}(hu:u≠ .run){ds:List Deferred}{F:Fence}{n:Nat}:∀(l:List Nat) (w:World),l.Nodup→(∀D∈l,w.heap[D]? =some (.deferred (some []))∧ ¬E.own D)→Zq m H E w→
  (∀w2,Zq m H E w2→(∀b,b∉l→w2.heap[b]? =w.heap[b]?)→w2.os=w.os→w2.tape=w.tape→w2.output=w.output→w2.drawn=w.drawn→w2.heap.size=w.heap.size→LeavesInM F n P fn tmps R ds u w2)→
  LeavesInM F n P fn tmps R (l.map mark++ds) u w
 |[],w,_,_,hr,hk=>hk w hr (fun _ _=>rfl) rfl rfl rfl rfl rfl
 |D::l,w,hn,hD,hr,hk=>by
  obtain⟨h1,h2⟩:=hD D sm;obtain⟨n1,n2⟩:=MZ.1 hn;refine⟨hu,.inl ⟨D,_,rfl,run_takeDeferred h1,?_⟩⟩;refine ZbH hu l _ n2 (fun D' hD'=>?_) (hr.putObj h1 (fun _ _ _ e=>by cases e) h2) (fun w2 q1 q2 q3 q4 q5 q6 q7=>?_)
  ·obtain⟨a1,a2⟩:=hD D' (Qy _ hD');exact⟨(World.putObj_heap_other (show D'≠D from fun e=>n1 (e▸hD'))).trans a1,a2⟩
  ·refine hk w2 q1 (fun b hb=>?_) q3 q4 q5 q6 (by rw[q7,World.putObj_size]);simp only[Qk,not_or]at hb;rw[q2 b hb.2,World.putObj_heap_other hb.1]
variable {Q:AV→Prop} {caps:List AV} {f':FuncId} {T:TT} {P:Program}
theorem Zot(hT:TOK P T){t lo1:Nat}{fn fn':Func}{c':Code}{s':Zb}{E0:Env}{w0 w':World}{a':Act}{l0:List Nat}{H:Za}{vs:List Value}{tm':List (Nat×AV)}{u:FrameMode}(hu:u≠ .run)(hf':Fun P f' fn' c')
  (hs':Yp ⟨lo1,dfr f' vs::l0.map mark⟩ (n+1) fn.ntmps s' E' a' w') (hx':Ext n E0 w0 E' w') (hl0:Zcg ⟨w0.heap.size,[]⟩ E' (l0.map mark) w') (hlo:∀D∈l0,D<lo1) (hlo0:w0.heap.size≤lo1) (hv:VRs E' caps vs) (hb:∀c∈caps,Below (n+1) c)
  (htm:∀p∈tm',lkv s'.tmps p.1=lkv tm' p.1∧Below (n+1) (lkv tm' p.1)) (hout:∀l k b,l<n→H l k=some b→b.Below n)
  (hc:Zg2 P (n+1) f' caps s'.H u fun H1=>∃L2 s2,H1=full n L2 H∧AWk n fn.ntmps ⟨tm',L2,H⟩ s2∧PostF P T n fn.results.toList (fun r H'=>Q r∧H'=H) .ret s2):
  LeavesInM Fence.wide 0 P fn a'.tmps (ZgW t n E0 w0 (fun r H'=>Q r∧H'=H) fun _=>False) a'.defers u w':=by
 obtain⟨g0,l,g1,g2,g3⟩:=hs'.defs;rw[g1];refine ZbH hu l w' g2 (fun D hD=>(g3 D hD).2) hs'.heap fun w2 k1 k2 k3 k4 k5 k6 k7=>?_
 have hs2:Yp ⟨lo1,dfr f' vs::l0.map mark⟩ (n+1) fn.ntmps s' E' {a' with defers:=dfr f' vs::l0.map mark} w2:=⟨hs'.size,⟨by rw[k7];exact g0,[],rfl,Gz,fun _ h=>by cases h⟩,hs'.tmps,k1,hs'.out⟩
 have hr2:=Zq.leave hs2;have hvc:VRs (E'.cut (n+1)) caps vs:=⟨hv.1,fun i h1 h2=>(hv.2 i h1 h2).cut (hb _ (Qa h1))⟩
 refine⟨hu,.inr ⟨fun _=>by simp_all [Fence.wide],.func f',vs.toArray,f',vs.toArray,rfl,?_,fun _ _=>trivial,?_⟩⟩
 ·simp[dfr,invoke,Y4 hf']
 refine(hc (E'.cut (n+1)) w2 vs hr2 hvc).mono ?_;rintro e u' w3 ⟨⟨v,rfl⟩,hst,H1,E2,⟨L2,s5,rfl,hW,hP⟩,hr3,hx3⟩;show LeavesInM _ _ _ _ _ _ (l0.map mark) (settle u') w3;rw[hst];have hx4:Ext n E0 w0 E2 w3:=(Zjv (Uj n) hx' (fun b hb=>k2 b fun hm=>by have:=(g3 b hm).1;simp only at this;omega) k3 k4 k5 k6 k7).trans (hx3.mono (Uj n));have hd2:Zcg ⟨w0.heap.size,[]⟩ (E'.cut (n+1)) (l0.map mark) w2:=by
  obtain⟨p0,l',p1,p2,p3⟩:=hl0;refine⟨by rw[k7];exact p0,l',p1,p2,fun D hD=>?_⟩;obtain⟨a1,a2,a3⟩:=p3 D hD;have hDl:D∈l0:=by
   have inj:∀(a b:List Nat),a.map mark=b.map mark→a=b:=by
    intro a;induction a with
    |nil=>intro b hb;cases b with
     |nil=>rfl
     |cons _ _=>cases hb
    |cons x a ih=>intro b hb;cases b with
     |nil=>cases hb
     |cons z b=>
      simp only[Qu,Uf,mark,Deferred.mk.injEq,Target.collected.injEq,and_true]at hb;rw[hb.1,ih b hb.2]
   rw[Qs]at p1;rw[inj _ _ p1];exact hD
  refine⟨a1,?_,fun h=>a3 (ZmE h)⟩;rw[k2 D fun hm=>by have:=(g3 D hm).1;have:=hlo D hDl;simp only at*;omega];exact a2
 have hs4:Yp ⟨w0.heap.size,[]⟩ n fn.ntmps ⟨tm',L2,H⟩ E2 {a' with defers:=l0.map mark} w3:=by
  refine⟨hs'.size,hd2.ext hx3,fun x=>?_,hr3,hout⟩;rcases lkv_mem (tm:=tm') (t:=x)with hd|hm
  ·show VR _ (lkv tm' x) _;rw[hd];exact .dead _
  ·obtain⟨e1,e2⟩:=htm _ hm;have h1:=hs'.tmps x;simp only at e1 e2;rw[e1]at h1;exact(h1.cut e2).mono hr2.norm hx3.le
 obtain⟨E5,hs5,hx5⟩:=hW _ E2 w3 _ hs4;exact Jk (a':={a' with defers:=l0.map mark}) hT rfl hs5 (hx4.trans hx5) hP
variable {pre:List Oper} {ops:Array Oper}
def Zp3(hT:TOK P T){B0 n N:Nat}{s:Zb}{E:Env}{w:World}{a:Act}{id:Nat}{o:Oper}{g:Operand}{f':FuncId}{caps:List AV}{K:Zb→Prop}
  (hl:ops.toList=pre++[o]) (hg:o.guard=none) (ho:o.op= .defer {callee:=.value g,args:=#[],argTypes:=#[]}) (hdst:o.dst=none)
  (h:XA ⟨P,T,⟨none,⟨B0,[]⟩⟩,n,N⟩ plainO ops.toList (fun s1=>evT s1.tmps g= .fn (.func f') caps∧K s1) pre s) (hd:XY N ops.toList=true) (hs:Yp ⟨B0,[]⟩ n N s E a w):
  (Code.region id ops false).wpIn (fr none) 0 P (fun e a' w'=>∃s1 E1 vs,∃l0:List Nat,e=Exit.normal∧K s1∧VRs E1 caps vs∧Zcg ⟨B0,[]⟩ E1 (l0.map mark) w'∧(∀D∈l0,D<w'.heap.size)∧B0≤w'.heap.size∧Yp ⟨w'.heap.size,dfr f' vs::l0.map mark⟩ (n+1) N ⟨s1.tmps,[],full n s1.L s1.H⟩ E1 a' w'∧Ext n E w E1 w') a w:=by
 refine wpIn_region ?_;have hd':=WH hd;have key:=Vr (cx:=⟨P,T,⟨none,⟨B0,[]⟩⟩,n,N⟩) hT (op:=plainO) rfl (post:=[o]) (E0:=E) (w0:=w) (Q':=fun e a' w'=>∃s1 E1 vs,∃l0:List Nat,e=Exit.normal∧K s1∧VRs E1 caps vs∧Zcg ⟨B0,[]⟩ E1 (l0.map mark) w'∧(∀D∈l0,D<w'.heap.size)∧B0≤w'.heap.size∧Yp ⟨w'.heap.size,dfr f' vs::l0.map mark⟩ (n+1) N ⟨s1.tmps,[],full n s1.L s1.H⟩ E1 a' w'∧Ext n E w E1 w') hd' pre 0 s (by simpa using hl) h ?_ E w a hs (.refl _ _ _)
 ·simpa using key
 intro s1 E1 w1 a1 hF hs1 hx1;simp only[QG];have hlt:pre.length<ops.size:=by
  have:=congrArg List.length hl;simp at this;omega
 have hoi:ops[pre.length]? =some o:=by
  have:ops.toList[pre.length]? =some o:=by rw[hl];simp
  simpa using this
 rw[Qz (by simpa using hlt)];simp only[MN,wpOpsIn,hoi];have hwant:Region.wanted o (yielded ops a1.tmps)=true:=by simp[Region.wanted,hg]
 rw[hwant];simp only[if_true];obtain⟨hv,hK⟩:=hF;have hgv:=Zc4 hs1.tmps g;rw[hv]at hgv;generalize hy:a1.eval g=y at hgv;cases hgv with|fn _ _ vs hl2 hvs=>
 have hsem:o.semAt (fr none).round a1.eval=execOp a1.eval o:=Oper.semAt_none _ _;have hrun:(execOp a1.eval o).run P w1= .ok (.defer (dfr f' vs)) w1:=by
  simp[execOp,ho,resolve,hy,Deferred.ofValue,dfr]
 refine⟨fun _ _=>trivial,?_⟩;rw[hsem,hrun,Oper.uponIn_defer,hdst];have hsz:ops.size≤pre.length+1:=by
  have:=congrArg List.length hl;simp at this;omega
 rw[UC (by simpa using hsz)];obtain⟨g0,l0,g1,g2,g3⟩:=hs1.defs;have hlt0:∀D∈l0,D<w1.heap.size:=fun D hD=>(QU.1 (g3 D hD).2.1).1
 refine⟨s1,E1,vs,l0,rfl,hK,⟨hl2,hvs⟩,⟨g0,l0,sm,g2,g3⟩,hlt0,g0,⟨hs1.size,⟨Qe _,[],?_,Gz,fun _ h=>by cases h⟩,hs1.tmps,hs1.heap.enter,fun l k b hl hb=>hs1.heap.out hl hb⟩,hx1⟩;show dfr f' vs::a1.defers=_;rw[g1];simp
def Zmx{cx:Cx}{Q:Exit→Zb→Prop}{W:Exit→Act→World→Prop}{d:Code}{E0:Env}{w0:World}:∀(l:List Code) (s:Zb) (E:Env) (w:World) (a:Act),Yp cx.φ.B cx.n cx.N s E a w→Ext cx.n E0 w0 E w→AKc cx (l.map .code) Q s→
  (∀s' E' a' w',Q .normal s'→Yp cx.φ.B cx.n cx.N s' E' a' w'→Ext cx.n E0 w0 E' w'→d.wpIn (fr cx.φ.ro) 0 cx.P W a' w')→(∀e s' E' a' w',e≠ .normal→Q e s'→Yp cx.φ.B cx.n cx.N s' E' a' w'→Ext cx.n E0 w0 E' w'→W e a' w')→(seqs l d).wpIn (fr cx.φ.ro) 0 cx.P W a w
 |[],s,E,w,a,hs,hx,h,hn,he=>hn s E a w h hs hx
 |c::r,s,E,w,a,hs,hx,h,hn,he=>by
  refine wpIn_seq (wpIn_mono (h E w a hs) ?_);rintro e a' w' ⟨s',E',hq,hs',hx'⟩;cases e with
  |normal=>exact Zmx r s' E' w' a' hs' (hx.trans hx') hq hn he
  |_=>exact he _ s' E' a' w' sm (Zf4 (r:=r) sm hq) hs' (hx.trans hx')
def Zib{t n:Nat}{f:FuncId}{fn fn':Func}{c':Code}{args caps:List AV}{H:Za}{Q:AV→Prop}(hT:TOK P T)(hf:Fun P f fn (ZR fn))(hN:args.length≤fn.ntmps)(hf':Fun P f' fn' c')(l:List Code){id:Nat}{o:Oper}{g:Operand}{R:Code}(tm':List (Nat×AV))(s1 S2:Zb)
  (hb:ZR fn=seqs l (.seq (.region id ops false) R)) (hl:ops.toList=pre++[o]) (hg:o.guard=none) (ho:o.op= .defer {callee:=.value g,args:=#[],argTypes:=#[]}) (hdst:o.dst=none) (hd:XY fn.ntmps ops.toList=true) (hcb:∀c∈caps,Below (n+1) c) (htm:∀p∈tm',Below (n+1) (lkv tm' p.1))
  (h1:∀B,AKc ⟨P,T,⟨none,B⟩,n,fn.ntmps⟩ (l.map .code) (fun e s'=>(e= .normal∧AWk n fn.ntmps s' s1)∨(e= .ret∧PostF P T n fn.results.toList (fun r H'=>Q r∧H'=H) .ret s')) ⟨numbered 0 args,[],H⟩)
  (h2:∀B,XA ⟨P,T,⟨none,B⟩,n,fn.ntmps⟩ plainO ops.toList (fun s2=>evT s2.tmps g= .fn (.func f') caps∧s2=S2) pre s1)
  (h3:∀B,AKc ⟨P,T,⟨none,B⟩,n+1,fn.ntmps⟩ [.code R] (fun e s'=>∃u:FrameMode,((e= .normal∧u= .returning)∨(e= .ret∧u= .returning)∨(e= .panic (ch t)∧u= .panicking (ch t)))∧(∀p∈tm',lkv s'.tmps p.1=lkv tm' p.1)∧
   Zg2 P (n+1) f' caps s'.H u fun H1=>∃L2 s2,H1=full n L2 H∧AWk n fn.ntmps ⟨tm',L2,H⟩ s2∧PostF P T n fn.results.toList (fun r H'=>Q r∧H'=H) .ret s2) ⟨S2.tmps,[],full n S2.L S2.H⟩):
  Zh P n f args H fun r H'=>Q r∧H'=H:=by
 have key:Z9 P t n f args H (fun r H'=>Q r∧H'=H) (fun _=>False):=fun E w vs hr hv=>by
  have hbody:fn.body=some (seqs l (.seq (.region id ops false) R)):=hb▸hf.body;refine(callsIn_wide (n:=0)).1 (callsIn_of_wp_marks hf.get hbody trivial ?_);refine Zmx (cx:=⟨P,T,⟨none,⟨w.heap.size,[]⟩⟩,n,fn.ntmps⟩) (E0:=E) (w0:=w) l _ E w _ (Yp.start hr hv hN) (.refl _ _ _) (h1 ⟨w.heap.size,[]⟩) ?_ ?_
  ·intro s' E' a' w' hq hs' hx';rcases hq with⟨_,hw⟩|⟨e,_⟩
   rotate_left
   ·cases e
   obtain⟨E1,hs1,hx1⟩:=hw _ E' w' a' hs';refine wpIn_seq (wpIn_mono (Zp3 hT hl hg ho hdst (h2 _) hd hs1) ?_);rintro e2 a2 w2 ⟨s2,E2,vs2,l0,rfl,rfl,hv2,hd2,hlt,hle,hs2,hx2⟩;refine wpIn_mono (h3 ⟨w2.heap.size,dfr f' vs2::l0.map mark⟩ E2 w2 a2 hs2) ?_;rintro e3 a3 w3 ⟨s3,E3,⟨u,hu,htm3,hdef⟩,hs3,hx3⟩;have hxx:=((hx'.trans hx1).trans hx2).trans (hx3.mono (Uj n));have fin:u≠ .run→LeavesInM Fence.wide 0 P fn a3.tmps (ZgW t n E w (fun r H'=>Q r∧H'=H) fun _=>False) a3.defers u w3:=fun hu=>
    Zot hT hu hf' hs3 hxx (hd2.ext hx3) hlt hle ⟨hv2.1,fun i h1 h2=>(hv2.2 i h1 h2).Zuq (hcb _ (Qa h1)) hx3.le⟩ hcb (fun p hp=>⟨htm3 p hp,htm p hp⟩) (fun l k b hl hb=>hr.out hl hb) hdef
   rcases hu with⟨rfl,rfl⟩|⟨rfl,rfl⟩|⟨rfl,rfl⟩
   ·exact fin sm
   ·exact fin sm
   ·exact fin sm
  ·intro e s' E' a' w' he hq hs' hx';rcases hq with⟨rfl,_⟩|⟨rfl,hp⟩
   ·exact absurd rfl he
   ·exact Jk hT rfl hs' hx' hp
 exact key.ret fun _ h=>h
end
def ZeF{P:Program}{m:Nat}{H:Za}{E:Env}{cs:List Frame}:∀(l:List Nat) (w:World) (b:Frame),b.mode≠ .run→b.defers=l.map mark→l.Nodup→(∀D∈l,w.heap[D]? =some (.deferred (some []))∧ ¬E.own D)→Zq m H E w→
  ∃w2,StepsIn (Machine.fenced P Fence.wide) P (lone b cs w) (lone {b with defers:=[]} cs w2)∧Zq m H E w2∧(∀x,x∉l→w2.heap[x]? =w.heap[x]?)∧w2.os=w.os∧w2.tape=w.tape∧w2.output=w.output∧w2.drawn=w.drawn∧w2.heap.size=w.heap.size
 |[],w,b,hb,hd,_,_,hr=>⟨w,by
   have:({b with defers:=[]}:Frame)=b:=by cases b;simp only[UD]at hd;subst hd;rfl
   rw[this];exact StepsIn.refl _,hr,fun _ _=>rfl,rfl,rfl,rfl,rfl,rfl⟩
 |D::l,w,b,hb,hd,hn,hD,hr=>by
  obtain⟨h1,h2⟩:=hD D sm;obtain⟨n1,n2⟩:=MZ.1 hn;have hs:=step_collected (cs:=cs) (P:=P) hb (d:=mark D) (ds:=l.map mark) hd rfl (run_takeDeferred h1);obtain⟨w2,q0,q1,q2,q3,q4,q5,q6,q7⟩:=ZeF (P:=P) (cs:=cs) l (w.putObj D (.deferred none)) {b with defers:=[]++l.map mark} hb rfl n2 (fun D' hD'=>by
   obtain⟨a1,a2⟩:=hD D' (Qy _ hD');exact⟨(World.putObj_heap_other (show D'≠D from fun e=>n1 (e▸hD'))).trans a1,a2⟩) (hr.putObj h1 (fun _ _ _ e=>by cases e) h2)
  refine⟨w2,.head (fenced_wide _ _) hs q0,q1,fun x hx=>?_,q3,q4,q5,q6,by rw[q7,World.putObj_size]⟩;simp only[Qk,not_or]at hx;rw[q2 x hx.2,World.putObj_heap_other hx.1]
section
variable {u:FrameMode} {P:Program}
def Zdb{f:FuncId}{fn:Func}{c:Code}{args:Array Value}{w:World}{R:Ending→FrameMode→World→Prop}(hf:P.funcs[f]? =some fn)(hb:fn.body=some c)
  (h:∀(c₀:Frame) (cs:List Frame),c₀.mode=u→c.wpSIn Fence.wide 0 P (fun e a' cs' w'=>(e= .normal∨e= .ret)∧ ∃u' m H E l,cs'={c₀ with mode:=u'}::cs∧a'.defers=List.map mark l∧l.Nodup∧(∀D∈l,w'.heap[D]? =some (.deferred (some []))∧ ¬Env.own E D)∧Zq m H E w'∧
   ∀w2,Zq m H E w2→(∀x,x∉l→w2.heap[x]? =w'.heap[x]?)→w2.os=w'.os→w2.tape=w'.tape→w2.output=w'.output→w2.drawn=w'.drawn→w2.heap.size=w'.heap.size→ ∃v,(results fn a'.tmps).run P w2= .ok v w2∧R (.returned v) u' w2)
   {tmps:=args++Array.replicate (fn.ntmps - args.size) undef,defers:=[]} (c₀::cs) w):CallsDIn Fence.wide 0 P f args u w R:=by
 refine⟨trivial,fun c₀ cs hu hroom=>?_⟩
 let b:Frame:={(default:Frame)with fn:=f,kind:=.deferred,roundOf:=none}
 have henter:Frame.enter P f args .deferred=b.atR {tmps:=args++Array.replicate (fn.ntmps - args.size) undef,defers:=[]} [.code c]:=by
  simp[Frame.enter,Frame.atR,hf,hb,b]
 obtain⟨e,a',cs',w',hl,⟨he,u',m,H,E,l,rfl,h1,h2,h3,h4,h5⟩,harr⟩:=h c₀ cs hu b [] rfl rfl trivial hroom;rw[←henter]at harr;have fin:∀todo,StepsIn (Machine.fenced P Fence.wide) P (lone (Frame.enter P f args .deferred) (c₀::cs) w) (lone {b.atR a' todo with mode:=.returning} ({c₀ with mode:=u'}::cs) w')→ ∃e u' w' fr,R e u' w'∧
   ComesIn (Machine.fenced P Fence.wide) P (lone (Frame.enter P f args .deferred) (c₀::cs) w) (lone fr ({c₀ with mode:=u'}::cs) w') e∧fr.kind= .deferred∧fr.fn=f∧fr.going P w' e:=fun todo hs=>by
  obtain⟨w2,q0,q1,q2,q3,q4,q5,q6,q7⟩:=ZeF (P:=P) (cs:={c₀ with mode:=u'}::cs) l w' {b.atR a' todo with mode:=.returning} sm h1 h2 h3 h4;obtain⟨v,hv,hR⟩:=h5 w2 q1 q2 q3 q4 q5 q6 q7;exact⟨.returned v,u',w2,_,hR,StepsIn.trans hs q0,rfl,rfl,rfl,rfl,fn,hf,hv⟩
 rcases he with rfl|rfl
 ·exact fin [] (StepsIn.trans harr (.one (fenced_calm (fr:=b.atR a' []) (n:=0) trivial (show Fence.wide.room ((_::cs).length+1+0) from hroom) rfl) (stepR_end rfl)))
 ·obtain⟨todo,hs⟩:=harr.1 rfl;exact fin todo hs
variable {ops:Array Oper}
def Zqw{P:Program}{o:Oper}{id:Nat}{Q:Exit→Act→List Frame→World→Prop}{a:Act}{cs cs1:List Frame}{w:World}{v:Value}(h0:ops[0]? =some o)(ho:o.op= .call {callee:=.builtin .recover,args:=#[],argTypes:=#[]})(hg:o.guard=none)
  (hrec:recoverD cs=some (v,cs1)∨(recoverD cs=none∧v= .nilIface∧cs1=cs))
  (h:wpOpsIn Fence.wide 0 P ops (fun e a' w'=>Q e a' cs1 w') ((List.range ops.size).drop 1) (a.put o.dst v) w):(Code.region id ops false).wpSIn Fence.wide 0 P Q a cs w:=fun b k hb hro hF hroom=>by
 have hsz:0<ops.size:=(QU.1 h0).1;obtain⟨rest,hrg,hrd⟩:∃rest,List.range ops.size=0::rest∧(List.range ops.size).drop 1=rest:=by
  obtain⟨k,hk⟩:∃k,ops.size=k+1:=⟨ops.size - 1,om⟩
  rw[hk,List.range_succ_eq_map];exact⟨_,rfl,rfl⟩
 rw[hrd]at h;have hlen:cs1.length=cs.length:=by
  rcases hrec with h|⟨_,_,rfl⟩
  ·exact recoverD_length h
  ·rfl
 have hw:Region.wanted o (yielded ops a.tmps)=true:=by simp[Region.wanted,hg]
 have hsg:=stepGR_op (P:=P) (b:=b) (a:=a) (k:=k) (cs:=cs) (w:=w) (rest:=rest) h0 hw;rw[hro,Oper.semAt_none]at hsg;have hfin:∀v,(b.atR a (.inRegion ops (0::rest)::k)).finish v=b.atR (a.put o.dst v) (.inRegion ops rest::k):=by
  intro v;rw[Frame.finish_atR,h0];rfl
 have hr:(execOp a.eval o).run P w= .ok .recover w:=by simp[execOp,ho,resolve,invoke,builtin]
 have hk:(b.atR a (.inRegion ops (0::rest)::k)).kind= .deferred:=hb;have htr:=tryRecover_deferred hk cs;have hstep:step P (lone (b.atR a (.inRegion ops (List.range ops.size)::k)) cs w)= .next (lone (b.atR (a.put o.dst v) (.inRegion ops rest::k)) cs1 w):=by
  rw[hrg];refine step_lone_go ?_;rcases hrec with h|⟨h,rfl,rfl⟩
  ·rw[hsg,←hfin];simp only[Frame.atR,hro]at htr⊢;simp[stepG.apply,hr,htr,h]
  ·rw[hsg,←hfin];simp only[Frame.atR,hro]at htr⊢;simp[stepG.apply,hr,htr,h]
 obtain⟨e,a',w',hq,harr⟩:=wp_opsIn (F:=Fence.wide) (n:=0) _ _ _ h b k cs1 hro hF (hlen▸hroom);exact⟨e,a',cs1,w',hlen,hq,.of_steps (.head (fenced_wide _ _) stepR_region (.one (fenced_wide _ _) hstep)) harr⟩
def ZjQ{T:TT}{m f:Nat}{fn:Func}{args:List AV}{H:Za}{t:TypeId}{u:FrameMode}{Q:Za→Prop}{id:Nat}{o:Oper}{post:List Oper}{C:Code}{d:Tmp}{x:AV}(hT:TOK P T)(hf:Fun P f fn (.seq (.region id ops false) C))(hN:args.length≤fn.ntmps)(hres:fn.results= #[])
  (hl:ops.toList=o::post) (ho:o.op= .call {callee:=.builtin .recover,args:=#[],argTypes:=#[]}) (hg:o.guard=none) (hd:o.dst=some d) (hu:(u= .returning∧x= .nili)∨(u= .panicking (ch t)∧x= .ifc t (.agg [])))
  (h:∀B,XA ⟨P,T,⟨none,B⟩,m,fn.ntmps⟩ plainO ops.toList (AKc ⟨P,T,⟨none,B⟩,m,fn.ntmps⟩ [.code C] (fun e s'=>(e= .normal∨e= .ret)∧Q s'.H)) post ⟨(d,x)::numbered 0 args,[],H⟩)
  (hdo:XY fn.ntmps ops.toList=true:=by kernel_rfl):Zg2 P m f args H u Q:=fun E w vs hr hv=>by
 have hdd:=WH hdo;refine Zdb hf.get hf.body fun c₀ cs hm=>?_
 obtain⟨v,u',hvx,hst,hrec⟩:∃v u',VR E x v∧settle u'= .returning∧(recoverD (c₀::cs)=some (v,{c₀ with mode:=u'}::cs)∨(recoverD (c₀::cs)=none∧v= .nilIface∧{c₀ with mode:=u'}::cs=c₀::cs)):=by
  rcases hu with⟨rfl,rfl⟩|⟨rfl,rfl⟩
  ·exact⟨.nilIface,.returning,.nili,rfl,.inr ⟨by simp[recoverD,hm],rfl,by rw[←hm]⟩⟩
  ·exact⟨_,_,.ifc t _ (.agg #[]) (.agg [] [] rfl fun i h=>absurd h sm),rfl,.inl (by simp[recoverD,hm,ch];rfl)⟩
 have hs0:=Yp.start (fn:=fn) hr hv hN;have h0:ops[0]? =some o:=by
  have:=congrArg (·[0]?) hl;simpa using this
 refine wpSIn_seq (Zqw h0 ho hg hrec ?_);have hmem:o∈ops.toList:=by rw[hl];simp
 rw[hd];refine Vr (cx:=⟨P,T,⟨none,⟨w.heap.size,[]⟩⟩,m,fn.ntmps⟩) hT (op:=plainO) rfl (post:=[]) (E0:=E) (w0:=w) hdd post 1 ⟨(d,x)::numbered 0 args,[],H⟩ (by rw[hl];simp) (h ⟨w.heap.size,[]⟩) ?_ E w _ ⟨by rw[size_put];exact hs0.size,by rw[X3];exact hs0.defs,fun t=>?_,hs0.heap,hs0.out⟩ (.refl _ _ _)
 ·intro s' E' w' a' hF hs' hx';have hdr:(List.range ops.size).drop (1+post.length)=[]:=UC (by
   have:=congrArg List.length hl;simp at this⊢;omega)
  rw[hdr];show C.wpSIn _ _ _ _ _ _ _;refine wpSIn_of_wpIn rfl (wpIn_mono (hF E' w' a' hs') ?_);rintro e a2 w2 ⟨s2,E2,⟨he,hQ⟩,hs2,hx2⟩;have hx3:=hx'.trans hx2;obtain⟨g0,l,g1,g2,g3⟩:=hs2.defs;refine⟨he,u',m+1,full m s2.L s2.H,E2,l,rfl,by rw[g1];simp,g2,fun D hD=>(g3 D hD).2,hs2.heap,fun w3 k1 k2 k3 k4 k5 k6 k7=>?_⟩;have hs4:Yp ⟨w.heap.size,[]⟩ m fn.ntmps s2 E2 {a2 with defers:=[]} w3:=⟨hs2.size,.nil _ (by rw[k7];exact g0),hs2.tmps,k1,hs2.out⟩
  refine⟨.tuple #[],by simp[ZcR,hres,Sem.run_pure],⟨_,rfl⟩,hst,s2.H,_,hQ,Zq.leave hs4,Zjv (Qe m) hx3 (fun b hb=>k2 b fun hm=>by have:=(g3 b hm).1;simp only at this;omega) k3 k4 k5 k6 k7⟩
 ·rw[VW (d:=some d) hs0.size (fun x hx=>hdd o hmem x (hd.trans hx))];show VR E (lkv (Yl (numbered 0 args) (some d) x) t) _;rw[JD];split
  ·exact hvx
  ·exact hs0.tmps t
end
end Go.Abs

namespace Go.Proofs.YtmdeagmbfhbbnaaGreatDoorR
open Go.Abs
def e197(t:Tm):Pure prog 197 [t.enc] (.bool (!(t.kind==3))):=by
 intro n H;refine aF func197 fun B=>?_
 refine gc ?_;exact pB
def e152(t:Tm)(ht:t.Good):Z4 prog 152 [t.enc] (.bool (grT t)):=by
 intro n H hn hT;refine aF func152 fun B=>?_
 refine gc ?_;refine cT (a71 t ht 197 (fun u=>!(u.kind==3)) ⟨⟨_,_,Zf func197 rfl rfl⟩,fun u _=>Abs.Pure.tabs (e197 u)⟩) ?_;refine YB rfl rfl ?_;refine Zc ?_ (.bool _) rfl;try simp only[go_sem,simprocAttr,grT]
 exact .refl _
def Zue(n:Nat)(H:Za):Zg2 prog (n+1) 153 [.ptr n 2 0,.ptr n 3 0] H .returning (fun H'=>H'=H):=by
 refine ZjQ (t:=197) (x:=.nili) tok (Zf func153 rfl rfl) sm rfl rfl rfl rfl rfl (.inl ⟨rfl,rfl⟩) fun B=>?_
 refine gP ?_;refine nF ?_;refine nN ?_;exact⟨.inl rfl,rfl⟩
def ZtD(n:Nat)(H:Za)(x:AV)(c:Int)(h2:H n 2=some (.box [x]))(h3:H n 3=some (.box [.int .i64 c])):Zg2 prog (n+1) 153 [.ptr n 2 0,.ptr n 3 0] H (.panicking (ch 197)) (fun H'=>H'=(H.upd n 2 (.box [.sl 4 [] .full])).upd n 3 (.box [.int .i64 5])):=by
 refine ZjQ (t:=197) (x:=.ifc 197 (.agg [])) tok (Zf func153 rfl rfl) sm rfl rfl rfl rfl rfl (.inr ⟨rfl,rfl⟩) fun B=>?_
 refine gP ?_;refine nT ?_;have hu3:∀y,H.upd n 2 y n 3=some (.box [.int .i64 c]):=fun y=>by rw[Za.upd_ne _ _ sm];exact h3
 have hnn:¬n=n+1:=om;refine nq3 h2 hu3 hnn ?_;refine⟨.inr (Ze.Zz ⟨YR (fun _ h=>by cases h) (fun _ _ e=>by cases e),trivial⟩),.inr (Ze.Zz ⟨.int _ _,trivial⟩),?_⟩;refine nN ?_;exact⟨.inl rfl,rfl⟩
def Zg2.mono{P:Program}{m f:Nat}{args:List AV}{H:Za}{u:FrameMode}{Q Q':Za→Prop}(h:Zg2 P m f args H u Q)(hq:∀H',Q H'→Q' H'):Zg2 P m f args H u Q':=fun E w vs hr hv=>
 (h E w vs hr hv).mono fun e u' w' ⟨h1,h2,H',E',h3,h4⟩=>⟨h1,h2,H',E',hq _ h3,h4⟩
def mc(t:Tm)(n:Nat)(l:List Tm)(c:Int)(r:AV):List (Nat×Ze):=[(200,.Zg 40 4 (flat (l.map Tm.enc)) l.length),(3,.box [.int .i64 c]),(2,.box [r]),(1,.box t.cs)]
def ZdL(n:Nat):List (Nat×AV):=[(3,.ptr n 3 0),(2,.ptr n 2 0),(1,.ptr n 1 0)]
def Zfc{n:Nat}{H:Za}{s:Zb}{v:AV}{xs:List Tm}{c:Int}(h1:lkv s.tmps 2= .ptr n 2 0)(h2:lkv s.tmps 3= .ptr n 3 0)(h3:lkb s.L 2=some (.box [v]))(h4:lkb s.L 3=some (.box [.int .i64 c]))(hv:Wk v (.sl 4 (xs.map Tm.enc) .any))(hH:s.H=H):
  PostF prog tt n Tryz.f100.results.toList (fun r H'=>r= .tup [.sl 4 (xs.map Tm.enc) .any,eInt c]∧H'=H) .ret s:=by
 have f2:full n s.L s.H n 2=some (.box [v]):=by simp[full,h3]
 have f3:full n s.L s.H n 3=some (.box [.int .i64 c]):=by simp[full,h4]
 show PostF prog tt n [.cell 2 37,.cell 3 29] _ .ret s;refine⟨fun x hx=>?_,[.sl 4 (xs.map Tm.enc) .any,.int .i64 c],⟨?_,?_,trivial⟩,?_,rfl,hH⟩
 ·simp only[Qk,QD,or_false]at hx;rcases hx with rfl|rfl
  ·exact⟨n,2,0,_,_,h1,f2,rfl,Qe _,fun _=>Nat.zero_lt_one⟩
  ·exact⟨n,3,0,_,_,h2,f3,rfl,Qe _,fun _=>Nat.zero_lt_one⟩
 ·have:Zdo s.tmps s.H n s.L tt (.cell 2 37)=v:=by
   simp only[Zdo,h1,f2];rfl
  rw[this];exact hv
 ·have:Zdo s.tmps s.H n s.L tt (.cell 3 29)= .int .i64 c:=by
   simp only[Zdo,h2,f3];rfl
  rw[this];exact .refl _
 ·intro x hx;simp only[Qk,QD,or_false]at hx;rcases hx with rfl|rfl
  ·exact ZH _
  ·exact .int _ _
def Zsl(n:Nat):Opt:=⟨true,true,fun d=>if d=27 then .heap else if d=28 then .at_ n 200 else if d=2 then .at_ n 2 else .auto,[]⟩
theorem e100:ExpOK:=by
 intro t ht n H hn hT;have hb1:∀k,Ze.Below k (.box t.cs):=fun k=>Ze.Zz ⟨.int _ _,.int _ _,.str _,Zy (mB fun u=>u.blw k),trivial⟩
 suffices h:Zh prog n 100 [t.enc] H fun r H'=>r= .tup [.sl 4 ((ZcX t).1.map Tm.enc) .any,eInt (ZcX t).2]∧H'=H from h
 by_cases hbad:Xw t=true∧grT t=true;rotate_left
 ·have he:ZcX t=([],2):=by
   unfold ZcX;rw[if_neg (by rw[Qh];exact hbad)]
  rw[he];refine aF func100 fun B=>?_
  refine gc ?_;refine cT (a72 t ht) ?_;cases hv:Xw t with
  |false=>
   refine aS ?_;refine gj ?_;exact Zfc (xs:=[]) rfl rfl rfl rfl (.any _ _ _) rfl
  |true=>
   have hg:grT t=false:=by
    cases hg:grT t with
    |false=>rfl
    |true=>exact absurd ⟨hv,hg⟩ hbad
   refine aS ?_;refine cT (e152 t ht) ?_;rw[hg];refine aS ?_;refine gj ?_;exact Zfc (xs:=[]) rfl rfl rfl rfl (.any _ _ _) rfl
 obtain⟨hv,hg⟩:=hbad;have hok:t.all okG=true:=by
  simp only[Xw,Qh]at hv;have:=Zcc shape (fun u=>!(u.kind==3)) t;unfold grT at hg;rw[hv.2,hg]at this;exact this
 have hdp:dep t≤12:=by simp only[Xw,Qh,decide_eq_true_eq]at hv;exact hv.1
 have he:ZcX t=match expandS t with|some l=>(l,0)|none=>([],5):=by unfold ZcX;rw[hv,hg];rfl
 refine Zib (t:=197) (pre:=[_]) (R:=(ZR Tryz.f100).snd.snd.snd) (Q:=fun r=>r= .tup [.sl 4 ((ZcX t).1.map Tm.enc) .any,eInt (ZcX t).2]) (caps:=[.ptr n 2 0,.ptr n 3 0]) tok (Zf func100 rfl rfl) sm (Zf func153 rfl rfl) [(ZR Tryz.f100).fst,(ZR Tryz.f100).snd.fst] (ZdL n) ⟨ZdL n,mc t n [] 0 (.msl 4 n 200 0),H⟩ ⟨(14,.fn (.func 153) [.ptr n 2 0,.ptr n 3 0])::ZdL n,mc t n [] 0 (.msl 4 n 200 0),H⟩ rfl rfl rfl rfl rfl (by kernel_rfl) ?_ ?_ (fun B=>?_) (fun B=>?_) (fun B=>?_)
 ·intro c hc;simp only[Qk,QD,or_false]at hc;rcases hc with rfl|rfl<;>exact .ptr _ _ _ (Qq n)
 ·intro p hp;simp only[ZdL,Qk,QD,or_false]at hp;rcases hp with rfl|rfl|rfl<;>exact .ptr _ _ _ (Qq n)
 ·show AKc _ [.code _,.code _] _ _;refine gc ?_;refine cT (a72 t ht) ?_;rw[hv];refine aS ?_;refine cT (e152 t ht) ?_;rw[hg];refine aS ?_;refine nF ?_;refine ZK (JK (j0:=2) (j:=200) (i:=0) 40 4 rfl rfl rfl) ?_;refine nN ?_;refine .inl ⟨rfl,?_⟩;unfold ZdL mc;exact KK
 ·unfold ZdL;exact sT
 ·show AKc _ _ _ ⟨(14,.fn (.func 153) [.ptr n 2 0,.ptr n 3 0])::ZdL n,[],full n (mc t n [] 0 (.msl 4 n 200 0)) H⟩;obtain⟨G,hG⟩:∃G:List Tm→Za,G=fun l=>full n (mc t n l 0 (.msl 4 n 200 l.length)) H:=⟨_,rfl⟩
  have g1:∀l,G l n 1=some (.box t.cs):=fun l=>by rw[hG];simp[full,mc,lkb]
  have g2:∀l,G l n 2=some (.box [.msl 4 n 200 l.length]):=fun l=>by rw[hG];simp[full,mc,lkb]
  have g3:∀l,G l n 3=some (.box [.int .i64 0]):=fun l=>by rw[hG];simp[full,mc,lkb]
  have g200:∀l,G l n 200=some (.Zg 40 4 (flat (l.map Tm.enc)) l.length):=fun l=>by rw[hG];simp[full,mc,lkb]
  have hG0:full n (mc t n [] 0 (.msl 4 n 200 0)) H=G []:=by rw[hG];rfl
  have hTG:∀l,Tabs (G l):=fun l=>by rw[hG];exact hT.full hn
  have hnn:¬n=n+1:=om;rw[hG0];unfold ZdL;refine kK ?_;refine Yx 197 tok (pre:=[_]) (post:=[_,_]) rfl rfl rfl rfl ?_;simp only[go_sem,simprocAttr,g1,hnn,Tm.cs];refine Js (Zf func154 rfl rfl) (e154 t ht hok (n+1+1) _ (QT _) ((hTG []).full (QT _))) sS ?_ ?_;rotate_left
  ·rintro H1 ⟨hx,rfl⟩;refine⟨_,_,rfl,.refl _ _,?_⟩;refine⟨.panicking (ch 197),.inr (.inr rfl),⟨rfl,rfl,rfl⟩,Zg2.mono (ZtD n (G []) _ 0 (g2 []) (g3 [])) fun H' h=>?_⟩;subst h;rw[hx]at he;rw[he];refine⟨mc t n [] 5 (.sl 4 [] .full),⟨ZdL n,mc t n [] 5 (.sl 4 [] .full),H⟩,?_,.refl _ _ _,Zfc (xs:=[]) rfl rfl rfl rfl (.any _ _ _) rfl⟩;rw[hG];show((full n (mc t n [] 0 (.msl 4 n 200 0)) H).upd n 2 _).upd n 3 _=_;rw[←Zn,←Zn];rfl
  rintro r H1 ⟨l,hx,rfl,rfl⟩;refine⟨_,_,rfl,.refl _ _,?_⟩;rw[hx]at he;have hll:=ZcH hx;have hvl:=expand_val t hok l hx;rw[he];refine gM ?_;refine Zt (fun i=>⟨[(18,.int .i64 i),(17,.int .i64 l.length),(16,.sl 4 (l.map Tm.enc) .any),(3,.ptr n 3 0),(2,.ptr n 2 0),(1,.ptr n 1 0)],[],G (l.take i)⟩) l.length rfl ?_ ?_
  ·exact KK
  intro i hi;refine Yc rfl ?_;rcases Qj i l.length with h|h
  ·refine nq h ?_;refine nT ?_;refine nq2 (Tm.Zp _ _ h) h ?_;obtain⟨σ,hσ⟩:∃σ,σ=l.take i:=⟨_,rfl⟩
   have hσl:σ.length=i:=by rw[hσ,QK];omega
   have hgd:l[i].Good:=Xx (value_of (hvl _ (Qa h)).1 (by have:=(hvl _ (Qa h)).2;omega));rw[←hσ];refine nD (Zsl n) ?_;have hu2:∀x,(G σ).upd n 200 x n 2=some (.box [.msl 4 n 200 σ.length]):=fun x=>by rw[Za.upd_ne _ _ sm];exact g2 σ
   have hs1:=ZoL σ (.agg [.int .u8 0,.int .i64 0,.str [],.sl 0 [] .full]) rfl l[i];have hzl:(flat (σ.map Tm.enc)++flat [AV.agg [.int .u8 0,.int .i64 0,.str [],.sl 0 [] .full]]).length=σ.length*4+4:=by rw[Qd,ZgI];rfl
   simp only[go_sem,simprocAttr,Zsl,hnn,g2,g200,hu2,hzl,Za.upd_same,Za.Zar];refine ZgN (Zf func155 rfl rfl) (Zsh l[i] hgd) sS ?_;simp only[go_sem,simprocAttr,Zsl,hnn,g2,g200,hu2,hzl,Za.upd_same,Za.Zar];have hs1':(flat (σ.map Tm.enc)++flat [AV.agg [.int .u8 0,.int .i64 0,.str [],.sl 0 [] .full]]).take (σ.length*4)++(AV.int .u8 l[i].kind::AV.int .i64 l[i].num::AV.str l[i].name::AV.sl 4 (l[i].args.map Tm.enc) .any::(flat (σ.map Tm.enc)++flat [AV.agg [.int .u8 0,.int .i64 0,.str [],.sl 0 [] .full]]).drop (σ.length*4+4))=flat ((σ++[l[i]]).map Tm.enc):=hs1;rw[hs1'];have hb0:Ze.Below (n+1) (.Zg 40 4 (flat (σ.map Tm.enc)++flat [.agg [.int .u8 0,.int .i64 0,.str [],.sl 0 [] .full]]) (σ.length+1)):=by
    refine⟨fun c hc=>?_,by simp[Ze.at_]⟩;rcases Qg.1 hc with hc|hc
    ·exact(WJ (m:=0) σ).1 c hc
    ·exact Yg.mem (l:=[AV.int .u8 0,.int .i64 0,.str [],.sl 0 [] .full]) (p:=fun c=>Below (n+1) c) ⟨.int _ _,.int _ _,.str _,YR (fun _ h=>by cases h) (fun _ _ e=>by cases e),trivial⟩ c (by simpa[flat,AV.cells]using hc)
   refine⟨rfl,⟨Zm om,om⟩,.inr hb0,om,om,.inr (WJ _),.inr (Ze.Zz ⟨.msl _ _ _ _ om,trivial⟩),?_⟩;have hH:((G σ).upd n 200 (.Zg 40 4 (flat ((σ++[l[i]]).map Tm.enc)) (σ.length+1))).upd n 2 (.box [.msl 4 n 200 (σ.length+1)])=G (l.take (i+1)):=by
    have e1:σ.length+1=(σ++[l[i]]).length:=sm;rw[Qn h,←hσ,e1,hG];show((full n (mc t n σ 0 (.msl 4 n 200 σ.length)) H).upd n 200 _).upd n 2 _=_;rw[←Zn,←Zn];rfl
   rw[hH];refine gd ?_;exact KK
  ·have hi':i=l.length:=om;subst hi';rw[QN];refine nr ?_;simp only[go_sem,simprocAttr,Ui];refine gg ?_;have hu3:∀x,(G l).upd n 2 x n 3=some (.box [.int .i64 0]):=fun x=>by rw[Za.upd_ne _ _ sm];exact g3 l
   refine nq3 hnn g2 hu3 ?_;refine⟨.inr (Ze.Zz ⟨.msl _ _ _ _ (Qq n),trivial⟩),.inr (Ze.Zz ⟨.int _ _,trivial⟩),?_⟩;rw[Yb (g2 l),Yb (g3 l)];refine nV ?_;refine⟨.returning,.inr (.inl ⟨rfl,rfl⟩),⟨rfl,rfl,rfl⟩,Zg2.mono (Zue n _) fun H' h=>?_⟩;subst h;refine⟨mc t n l 0 (.msl 4 n 200 l.length),_,by rw[hG],YU (tm':=[(3,.ptr n 3 0),(2,.ptr n 2 0)]) (av':=.sl 4 (l.map Tm.enc) .any) (j0:=2) (i:=0) (j:=200) 30 (show 30<Tryz.f100.ntmps by decide) (l.map Tm.enc) dc rfl rfl (.inl ⟨4,rfl,rfl⟩) rfl rfl (by rw[Qv]) (ZlW l) (ZdW l).mem ?_ ?_,Zfc rfl rfl rfl rfl (.refl _) rfl⟩
   ·intro p hp;simp only[Qk,QD,or_false]at hp;rcases hp with rfl|rfl
    ·exact⟨sm,.refl _,.ptr _ _ _ (.inr ⟨rfl,show(3:Nat)≠200 by decide⟩)⟩
    ·exact⟨sm,.refl _,.ptr _ _ _ (.inr ⟨rfl,show(2:Nat)≠200 by decide⟩)⟩
   ·intro p hp;simp[mc,setb,delb]at hp;rcases hp with rfl|rfl|rfl
    ·exact Ze.Zx ⟨.int _ _,trivial⟩
    ·exact Ze.Zx ⟨.dead,trivial⟩
    ·exact Ze.ZjD (fun c hc=>Yg.mem (l:=t.cs) (p:=fun c=>Below n c) ⟨.int _ _,.int _ _,.str _,Zy (mB fun u=>u.blw n),trivial⟩ c hc)
def ZtU(n ls bs:Nat)(l:List Lt)(b:Bnd)(H:Za)(i:Nat):Zb:=
 ⟨[(42,.int .i64 i),(41,.int .i64 l.length),(40,.sl 13 (l.map Lt.enc) .any),(10,.iptr [.map n 39]),(0,.sl 13 (l.map Lt.enc) .any),(1,.ptr ls bs 0),(2,.sl 5 (b.map eBd) .any)],[(39,.map (encS (ZM [] ((l.take i).flatMap ZE))))],H⟩
def k10(hE:ExpOK)(n:Nat)(H:Za)(hT:Tabs H)(hn:0<n)(ls bs:Nat)(hls:ls<n)(s:Sto)(hs:Z7 H ls bs s)(hok:Ok s)(l:List Lt)(hl:l.length≤10)(hsm:∀x∈l,Sm x)(hop:∀x∈l,0≤x.op∧x.op≤255)(b:Bnd)(hb:b.length≤1000)(gb:∀q∈b,q.2.Good):
  PC prog n 10 [.sl 13 (l.map Lt.enc) .any,.ptr ls bs 0,.sl 5 (b.map eBd) .any] H (.tup [.sl 1 ((ZQ s.A l b).1.map Zj) .any,eInt (ZQ s.A l b).2]):=by
 have hat:((atR s.A 0).2==1)=false:=by
  unfold atR;split
  ·split<;>rfl
  ·rfl
 have hnil:∀k,Below k (.sl 1 (([]:List Bnd).map Zj) .any):=fun k=>ZA []
 refine aF func10 fun B=>?_
 refine gc ?_;refine cQ (a27 (n+1) _ ls bs s 0 om (hs.full hls _) hok.g om (hT.full hn)) ?_;refine aS ?_;refine nq hat ?_;refine gv ?_;refine cT (j38 l om fun x hx=>(hsm x hx).good) ?_;cases hv:l.all Y5 with
 |false=>
  have hj:ZQ s.A l b=([],2):=by unfold ZQ;rw[hv];rfl
  refine aS ?_;refine gj ?_;rw[hj];exact ZF (.any _ _ _) (.refl _) (hnil _) (.int _ _) rfl
 |true=>
  refine aS ?_;refine cT (k39 b om gb) ?_;cases hvb:validB b with
  |false=>
   have hj:ZQ s.A l b=([],2):=by unfold ZQ;rw[hv,hvb];rfl
   refine aS ?_;refine gj ?_;rw[hj];exact ZF (.any _ _ _) (.refl _) (hnil _) (.int _ _) rfl
  |true=>
   refine aS ?_;refine gN ?_;refine ZK (s':=⟨[(10,.ptr n 10 0),(0,.sl 13 (l.map Lt.enc) .any),(1,.ptr ls bs 0),(2,.sl 5 (b.map eBd) .any)],[(39,.map []),(10,.box [.map n 39])],H⟩) ?_ ?_
   ·exact KK
   refine Z5 10 [.map n 39] [(10,.iptr [.map n 39]),(0,.sl 13 (l.map Lt.enc) .any),(1,.ptr ls bs 0),(2,.sl 5 (b.map eBd) .any)] rfl ⟨Zeb dc,trivial⟩ ?_ ?_ ?_
   ·exact⟨.inr ⟨0,rfl,rfl⟩,.inl ⟨.refl _,(Yi l).inside⟩,.inl ⟨.refl _,.ptr _ _ _ (.inl hls)⟩,.inl ⟨.refl _,(ZC n b).inside⟩,trivial⟩
   ·exact⟨⟨by simp[Ze.avs],by simp[Ze.at_]⟩,trivial⟩
   refine aS ?_;refine gh ?_;refine Zt (ZtU n ls bs l b H) l.length rfl ?_ ?_
   ·exact KK
   intro i hi;refine Yc rfl ?_;rcases Qj i l.length with h|h
   ·obtain⟨x,hx⟩:∃x,x=l[i]:=⟨_,rfl⟩
    have hxs:=hsm _ (Qa h);rw[←hx]at hxs;have hstep:ZM (ZM [] ((l.take i).flatMap ZE)) (ZE x)=ZM [] ((l.take (i+1)).flatMap ZE):=by
     rw[Qn h,Uc,Jc,hx];simp
    refine nr ?_;refine aq h ?_;refine gH ?_;simp only[go_sem,simprocAttr,Lt.Zp _ _ h,h,←hx];refine nD o10a ?_;simp only[go_sem,simprocAttr,o10a];refine Zbf (Zf func41 rfl rfl) (fun G hG=>j41 x hxs (n+1) G om (XV hG▸hT.full hn)) sS ?_;simp only[go_sem,simprocAttr,o10a];refine Zmy rfl (k:=39) (xs:=ZE x) (S:=ZM [] ((l.take i).flatMap ZE)) (by have:=hxs.tv.2.2;omega) rfl (by simp only[go_sem,simprocAttr];rfl) ?_;rw[hstep];simp only[go_sem,simprocAttr];refine gd ?_;exact KK
   ·have hi':i=l.length:=om;subst hi';rw[QN];obtain⟨K1,hK1⟩:∃K1,K1=ZM [] (l.flatMap ZE):=⟨_,rfl⟩
    rw[←hK1];refine nq (QI.2 h) ?_;refine gG ?_;refine⟨rfl,?_⟩;refine ZaK 56 200 3 84 1 rfl rfl rfl ?_;simp only[go_sem,simprocAttr,Mc,UR];refine ZK (Zkl (j0:=56) (i:=2) (av':=.sl 1 [.sl 5 (b.map eBd) .any] .any) rfl rfl (.any _ _ _)) ?_;simp only[go_sem,simprocAttr,Mc,UR];refine ZK (s':=Zm1 n ls bs l b K1 H) ?_ ?_
    ·unfold Zm1;exact KK
    exact ZuM hE n H hT hn ls bs hls s hs hok l hl hsm hop b hb hv hvb K1 hK1 B
def Tabs.cut{n:Nat}{H:Za}(h:Tabs H)(hn:0<n):Tabs (Zcx n H):=by
 obtain⟨m,t,t',h1,h2⟩:=h;exact⟨m,t,t',by rw[Zcx,if_pos hn];exact h1,by rw[Zcx,if_pos hn];exact h2⟩
def YE.cut(n m:Nat)(H:Za)(h:n≤m)(b:Nat):YE (Zcx n H) m b:=fun k _=>by rw[Zcx,if_neg om]
def Zie{n b:Nat}{H:Za}{s:Sto}{l:Nat}(hl:n≤l):∀l' k,l'<n→put (Zcx n H) l b s l' k=H l' k:=fun l' k h=>by
 rw[Zey om,Zcx,if_pos h]
def tinyT:Tm→Bool
 | .mk k n s l=>decide (s.length≤100)&&decide (0≤k∧k≤255)&&decide (-1000≤n∧n≤1000)&&decide (l.length≤100)&&tinys l
where tinys:List Tm→Bool
 |[]=>true
 |t::r=>tinyT t&&tinys r
mutual
def tiny_nm:∀t:Tm,tinyT t=true→Tm.Nm t
 | .mk k n s l,h=>by
  simp only[tinyT,Qh,decide_eq_true_eq]at h;exact .mk _ _ _ _ om h.1.1.1.2 om om (tinys_nm l h.2)
def tinys_nm:∀l:List Tm,tinyT.tinys l=true→ ∀u∈l,Tm.Nm u
 |[],_,u,hu=>by cases hu
 |t::r,h,u,hu=>by
  simp only[tinyT.tinys,Qh]at h;rcases Qk.1 hu with e|hu
  ·rw[e];exact tiny_nm t h.1
  ·exact tinys_nm r h.2 u hu
end
def ZeQ(x:Lt):Bool:=tinyT x.L&&tinyT x.R&&tinyT.tinys x.at_.args&&decide (x.at_.pred.length≤100)&&decide (x.L.sz≤300∧x.R.sz≤300∧Tm.sz.szs x.at_.args≤300)&&decide (0≤x.op∧x.op≤255)
def ZdN{x:Lt}(h:ZeQ x=true):Sm x∧0≤x.op∧x.op≤255:=by
 simp only[ZeQ,Qh,decide_eq_true_eq]at h;obtain⟨⟨⟨⟨⟨h1,h2⟩,h3⟩,h4⟩,h5⟩,h6⟩:=h;exact⟨⟨⟨⟨om,by simp only[Am.sz];omega,tinys_nm _ h3⟩,⟨om,tiny_nm _ h1⟩,⟨om,tiny_nm _ h2⟩⟩,om,om,om⟩,h6⟩
def Zpg(a:Am):Bool:=tinyT.tinys a.args&&decide (a.pred.length≤100)&&decide (Tm.sz.szs a.args≤300)
def Zrb{a:Am}(h:Zpg a=true):a.Good:=by
 simp only[Zpg,Qh,decide_eq_true_eq]at h;exact⟨om,by simp only[Am.sz];omega,tinys_nm _ h.1.1⟩
def exA_good:V7 exA:=fun a ha=>Zrb (QA.1 (show exA.all Zpg=true by kernel_rfl) a ha)
def exA_A:(Xl sto0 exA).A=exA:=by rw[ok0.ZsP exA_good];kernel_rfl
def exA_ok:Ok (Xl sto0 exA):=ok0.Xl exA_good
def Zmh{i k:Nat}(hi:i≤1000000):IntKind.i64.wrap ((i:Int).tdiv (k:Int))=((i / k:Nat):Int):=by
 have h:(i:Int).tdiv (k:Int)=((i / k:Nat):Int):=by rw[Int.tdiv_eq_ediv_of_nonneg om];exact(Int.natCast_ediv i k).symm
 have:=Nat.div_le_self i k;rw[h];generalize i / k=j at*;exact iw
def Zqx(i k:Nat):(i:Int).tmod (k:Int)=((i % k:Nat):Int):=by rw[Int.tmod_eq_emod_of_nonneg om];exact(Int.natCast_emod i k).symm
def ZuS(bs:List Bnd)(xs:List Int)(H:Za)(i:Nat):Zb:=⟨[(7,.int .i64 i),(5,.sl 1 (bs.map Zj) .any),(1,.sl 1 (xs.map eInt) .any)],[],H⟩
def e29(l:List Lt)(hl:l.length≤10)(ht:l.all ZeQ=true)(b1 b2:Bnd)(k:Nat)(hk:0<k)(hk2:k≤1000)(h1:b1.length=k)(h2:b2.length=k)(xs:List Int)(hx:(b1++b2).map Prod.snd=xs.map Yf)(hj:ZQ exA l []=([b1,b2],0))(n:Nat)(H:Za)(hn:0<n)(hT:Tabs H):
  PC prog n 29 [.sl 13 (l.map Lt.enc) .any,.sl 1 (xs.map eInt) .any] H (.bool true):=by
 have hxl:xs.length=2*k:=by
  have:=congrArg List.length hx;simp at this;omega
 have hsm:∀x∈l,Sm x∧0≤x.op∧x.op≤255:=fun x hx=>ZdN (QA.1 ht x hx)
 have hTc:=hT.cut hn;have hfr:=YE.cut n n H (Qe _) 0;refine PC.up 1 (.bool _) ?_;refine aF func29 fun B=>?_
 refine gc ?_;refine cP (e25) ?_;refine call9 rfl n 0 exA .any (Qq n) hfr exA_good dc (QT _) hTc sS ?_;refine aS ?_;have hTp:=hTc.put hfr (Xl sto0 exA);refine cQ (Zh.args (k10 e100 (n+1+1) _ (hTp.full (QT _)) (QT _) n 0 om (Xl sto0 exA) ((Z7.put _ _ _ _).full om _) exA_ok l hl (fun x hx=>(hsm x hx).1) (fun x hx=>(hsm x hx).2) [] sm sm) (args':=[.sl 13 (l.map Lt.enc) .any,.ptr n 0 0,.sl 5 [] .full]) ⟨.refl _,.refl _,.any _ _ _,trivial⟩) ?_;rw[exA_A,hj];refine aS ?_;have hq:IntKind.i64.wrap ((xs.length:Int).tdiv 2)=(k:Int):=by
  have:=Zmh (i:=xs.length) (k:=2) om;rw[show((2:Nat):Int)=2 from rfl]at this;rw[this,hxl,Nat.mul_div_cancel_left _ om]
 have hkk:((k:Int) !=(k:Int))=false:=sm;refine nr ?_;simp only[go_sem,simprocAttr,eInt,Zj,h1,h2,hq,hkk];refine gN ?_;obtain⟨bs,hbs⟩:∃bs,bs=[b1,b2]:=⟨_,rfl⟩
 have hb2:bs.length=2:=by rw[hbs];rfl
 have hbk:∀j (h:j<bs.length),bs[j].length=k:=fun j h=>by
  subst hbs;have hj:j=0∨j=1:=by simp at h;omega
  rcases hj with rfl|rfl
  ·exact h1
  ·exact h2
 have he:∀j (hj:j<(b1++b2).length) (hj':j<xs.length),(b1++b2)[j].2=Yf xs[j]:=fun j hj hj'=>by
  have:=congrArg (fun l=>l[j]?) hx;simp only[Q8,Qb hj,Qb hj',Un,Qr]at this;exact this
 have hbx:∀i (h:i<xs.length) (hd:i / k<bs.length) (hm:i % k<bs[i / k].length),bs[i / k][i % k].2=Yf xs[i]:=fun i h hd hm=>by
  subst hbs;have hle:i<(b1++b2).length:=by rw[Qd];omega
  rcases Qj i k with hik|hik
  ·have:=he i hle h;rw[MJ om]at this;simpa only[Qbf hik,Qah hik,Ue]using this
  ·have e1:i / k=1:=Nat.div_eq_of_lt_le om om;have e2:i % k=i - b1.length:=by rw[QaX hik,Qah om,h1]
   have:=he i hle h;rw[Qa5 om]at this;simpa only[e1,e2,U0,Ue]using this
 have hall:∀(q:Nat→Prop),Inside (n+1) q (.sl 1 (bs.map Zj) .any)∧Inside (n+1) q (.sl 1 (xs.map eInt) .any):=fun q=>⟨(ZA _).inside,(Zap xs).inside⟩
 refine Zt (ZuS bs xs (put (Zcx n H) n 0 (Xl sto0 exA))) xs.length rfl ?_ ?_
 ·rw[hbs];apply kZ;repeat' first|apply q0|exact xx|apply aI
  all_goals first|exact(hall _).2|(rw[←hbs];exact(hall _).1)|skip
 intro i hi;refine Yc rfl ?_;rcases Qj i xs.length with h|h
 ·have hqi:=Zmh (i:=i) (k:=k) om;have hri:=Zqx i k;have hd:i / k<bs.length:=by rw[hb2];exact GL (by rw[Gw];omega)
  have hm:i % k<bs[i / k].length:=by rw[hbk _ hd];exact Qa0 _ hk
  have hx0:=hbx i h hd hm;have h00:0<bs.length:=om;have hk0:((k:Int)=0)=False:=by simp;omega
  have hb0:=hbk 0 h00;refine nr ?_;refine aq h ?_;refine gH ?_;simp only[go_sem,simprocAttr,getD_map Zj _ _ h00,h00,Zj,hb0,hqi,hk0,hd,getD_map Zj _ _ hd];refine⟨om,?_⟩;have hkind:(Yf xs[i]).kind=1:=rfl;have hnum:(Yf xs[i]).num=xs[i]:=rfl;refine nr ?_;simp only[go_sem,simprocAttr,getD_map Zj _ _ h00,h00,Zj,hb0,hri,hk0,getD_map eBd _ _ hm,hm,eBd,hx0,hkind,hnum];refine⟨om,?_⟩;have hbb:(xs[i] !=xs[i])=false:=by simp
  refine nD drawO ?_;simp only[go_sem,simprocAttr,getD_map eInt _ _ h,eInt,h,hbb];refine gm ?_;exact KK
 ·refine nq (QI.2 h) ?_;refine gt ?_;exact Zk (.refl _) (.bool _) ⟨rfl,Zie (Qe n)⟩
def e27(x:Lt)(hx:x.Good):Pure prog 27 [x.enc,x.enc] (.bool true):=by
 intro n H;have h1:=a28 x.at_ x.at_ hx.at_;rw[(Zfo _ _).2 rfl]at h1;have h2:=a62 x.L x.L hx.L;rw[(eqT_iff _ _).2 rfl]at h2;have h3:=a62 x.R x.R hx.R;rw[(eqT_iff _ _).2 rfl]at h3;have b1:(x.neg==x.neg)=true:=sm;refine aF func27 fun B=>?_
 refine nR ?_;refine nq b1 ?_;refine cP (h1) ?_;refine cP (h2) ?_;refine cP (h3) ?_;exact pB
def ZrZ{cx:Cx}{op:Oper}{args:List Operand}{ts:List TypeId}{F:Zb→Prop}{tm:List (Nat×AV)}{L:List (Nat×Ze)}{H:Za}(hP:cx.P=prog)(l2 b2:Nat)(A:List Am)(o:Own)(hl2:l2<cx.n)(hf:YE H l2 b2)(hg:V7 A)(hlen:A.length≤1000000)
  (hn:0<cx.n) (hT:Tabs H) (ha:Yo cx.T (evT tm) args ts=[.sl 2 (A.map Am.enc) o]) (hF:F ⟨Yl tm op.dst (.ptr l2 b2 0),L,put H l2 b2 (Xl sto0 A)⟩):Zex cx op (.func 9) args ts ⟨tm,L,H⟩ F:=by
 obtain⟨P,T,φ,n,N⟩:=cx;subst hP;have h:=w9 (n+1) (full n L H) l2 b2 A (MH hl2) (hf.full hl2 L) hg hlen (QT _) (hT.full hn);rw[ZbJ n l2 b2 _ L H (Qav hl2)]at h;exact⟨9,_,_,[],.ptr l2 b2 0,L,_,rfl,Zf func9 rfl rfl,by rw[Qs,ha];exact Zh.wk h ⟨.any _ _ _,trivial⟩,Zay hl2,hF⟩
def ZvJ(n:Nat)(G:Za)(hT:Tabs G)(hn:0<n)(ls bs:Nat)(hls:ls<n)(hs:Z7 G ls bs (Xl sto0 exA))(l:List Lt)(hl:l.length≤10)(ht:l.all ZeQ=true)(r:List Bnd)(e:Int)(hj:ZQ exA l []=(r,e)):
  PC prog n 10 [.sl 13 (l.map Lt.enc) .full,.ptr ls bs 0,.sl 5 [] .full] G (.tup [.sl 1 (r.map Zj) .any,eInt e]):=by
 have hsm:∀x∈l,Sm x∧0≤x.op∧x.op≤255:=fun x hx=>ZdN (QA.1 ht x hx)
 have h:=k10 e100 n G hT hn ls bs hls (Xl sto0 exA) hs exA_ok l hl (fun x hx=>(hsm x hx).1) (fun x hx=>(hsm x hx).2) [] sm sm;rw[exA_A,hj]at h;exact Zh.args h ⟨.any _ _ _,.refl _,.any _ _ _,trivial⟩
def Zut(n:Nat)(G:Za)(hT:Tabs G)(hn:0<n)(l:List Lt)(hl:l.length≤10)(ht:l.all ZeQ=true)(r:List Lt)(hj:XR l []=r):PC prog n 26 [.sl 13 (l.map Lt.enc) .full,.sl 1 [] .full] G (.sl 13 (r.map Lt.enc) .any):=by
 have h:=j26 l hl (fun x hx=>(ZdN (QA.1 ht x hx)).1) [] sm n G hn hT;rw[hj]at h;exact Zh.args h ⟨.any _ _ _,.any _ _ _,trivial⟩
def Zub(n:Nat)(G:Za)(hT:Tabs G)(hn:0<n)(l:List Lt)(hl:l.length≤10)(ht:l.all ZeQ=true)(b1 b2:Bnd)(k:Nat)(hk:0<k)(hk2:k≤1000)(h1:b1.length=k)(h2:b2.length=k)(xs:List Int)(hx:(b1++b2).map Prod.snd=xs.map Yf)(hj:ZQ exA l []=([b1,b2],0)):
  PC prog n 29 [.sl 13 (l.map Lt.enc) .full,.sl 1 (xs.map eInt) .full] G (.bool true):=Zh.args (e29 l hl ht b1 b2 k hk hk2 h1 h2 xs hx hj n G hn hT) ⟨.any _ _ _,.any _ _ _,trivial⟩
def v1:Tm:=.mk 3 0 [35,49] []
def o7c:Opt:=⟨true,true,fun d=>if d=73∨d=93 then .heap else .auto,[]⟩
def o7a:Opt:=⟨true,true,fun d=>if d=20 then .call else if d=21 then .heap else .auto,[]⟩
def o7b:Opt:=⟨true,true,fun d=>if d=32 then .heap else .auto,[]⟩
def e7(n:Nat)(H:Za)(hn:0<n)(hT:Tabs H):PC prog n 7 [] H (.bool true):=by
 have hTc:=hT.cut hn;have hfr:=YE.cut n n H (Qe _) 0;refine PC.up 1 (.bool _) ?_;refine aF func7 fun B=>?_
 refine gc ?_;refine cP (w18 [88]) ?_;refine cP (w18 [89]) ?_;refine cP (w18 [90]) ?_;refine nD o7a ?_;simp only[go_sem,simprocAttr,o7a];refine cR (e24 1) ?_;refine⟨rfl,?_⟩;refine cR (Zry [43] vZ (Yf 1)) ?_;refine⟨rfl,?_⟩;refine cR (ZlP [112] vX (Zbt vZ (Yf 1))) ?_;refine⟨rfl,?_⟩;refine cR (e25) ?_;refine ZrZ rfl n 0 exA .any (Qq n) hfr exA_good dc (QT _) hTc sS ?_;simp only[go_sem,simprocAttr];have hTp:=hTc.put hfr (Xl sto0 exA);refine Zbf (Zf func10 rfl rfl) (fun G hG=>ZvJ (n+1+1) G (XV hG▸hTp.full (QT _)) (QT _) n 0 om (XV hG▸(Z7.put _ _ _ _).full (Qq n) _) _ dc (by kernel_rfl) _ _ aw1) rfl ?_;simp only[go_sem,simprocAttr];refine nD o7b ?_;simp only[go_sem,simprocAttr,o7b];refine cR (e24 1) ?_;refine⟨rfl,?_⟩;refine cR (Zry [43] vX (Yf 1)) ?_;refine⟨rfl,?_⟩;refine cR (ZlP [112] vX (Zbt vX (Yf 1))) ?_;refine⟨rfl,?_⟩;refine Zbf (Zf func26 rfl rfl) (fun G hG=>Zut (n+1+1) G (XV hG▸hTp.full (QT _)) (QT _) [Zgr [vX,Zbt vX (Yf 1)]] dc (by kernel_rfl) _ aw4) rfl ?_;simp only[go_sem,simprocAttr];refine nD o7c ?_;simp only[go_sem,simprocAttr,o7c,eInt];refine cR (w18 [35,49]) ?_;refine⟨rfl,?_⟩;refine cR (ZlP [112] vX v1) ?_;refine cR (e27 (Zgr [vX,v1]) (ZdN (show ZeQ _=true by kernel_rfl)).1.good) ?_;refine cR (w18 [35,49]) ?_;refine cR (e24 1) ?_;refine⟨rfl,?_⟩;refine cR (Zry [43] vX (Yf 1)) ?_;refine cR (e28 1 v1 (Zbt vX (Yf 1))) ?_;refine cR (e27 (ZfG 1 v1 (Zbt vX (Yf 1))) (ZdN (show ZeQ _=true by kernel_rfl)).1.good) ?_;refine⟨rfl,?_⟩;refine cR (ZlP [112] vX vY) ?_;refine⟨rfl,?_⟩;refine cR (ZlP [112] vY vZ) ?_;refine⟨rfl,?_⟩;refine⟨rfl,?_⟩;refine Zbf (Zf func29 rfl rfl) (fun G hG=>Zub (n+1+1) G (XV hG▸hTp.full (QT _)) (QT _) [Zgr [vX,vY],Zgr [vY,vZ]] dc (by kernel_rfl) _ _ 3 dc dc rfl rfl [1,2,3,2,3,5] rfl aw2) rfl ?_;simp only[go_sem,simprocAttr];refine cR (e24 1) ?_;refine⟨rfl,?_⟩;refine cR (Zry [43] vX (Yf 1)) ?_;refine⟨rfl,?_⟩;refine cR (ZlP [112] vX (Zbt vX (Yf 1))) ?_;refine cR (e24 1) ?_;refine cR (e30 (Yf 1) vX) ?_;refine cR (e28 1 vY (.mk 6 0 [] [Yf 1,vX])) ?_;refine cR (e24 2) ?_;refine cR (e28 2 vY (Yf 2)) ?_;refine⟨rfl,?_⟩;refine⟨rfl,?_⟩;refine Zbf (Zf func29 rfl rfl) (fun G hG=>Zub (n+1+1) G (XV hG▸hTp.full (QT _)) (QT _) [Zgr [vX,Zbt vX (Yf 1)],ZfG 1 vY (.mk 6 0 [] [Yf 1,vX]),ZfG 2 vY (Yf 2)] dc (by kernel_rfl) _ _ 2 dc dc rfl rfl [1,1,2,1] rfl aw3) rfl ?_;simp only[go_sem,simprocAttr];refine nV ?_;exact Zk (.refl _) (.bool _) ⟨rfl,Zie (Qe n)⟩
structure InJ (l:List Lt) (A:List Am) (b:Bnd):Prop where
 hl:l.length≤100000000000000
 hA:A.length≤100000000000000
 hb:b.length≤100000000000000
 gl:szLs l≤300→ ∀x∈l,x.Good
 gA:szA A≤300→V7 A
 gb:sumN (b.map fun p=>p.2.sz)≤300→ ∀p∈b,p.2.Good
 op:∀x∈l,0≤x.op∧x.op≤255
 bn:∀p∈b,p.1.length≤140737488355328
def szLs_mem:∀{l:List Lt} {x:Lt},x∈l→1+x.at_.sz+x.L.sz+x.R.sz≤szLs l+1
 |y::l,x,h=>by
  simp only[szLs,szX];rcases Qk.1 h with rfl|h
  ·omega
  ·have:=szLs_mem h;omega
structure SmJ (l:List Lt) (A:List Am) (b:Bnd):Prop where
 l5:l.length≤5
 A24:A.length≤24
 b300:b.length≤300
 sm:∀x∈l,Sm x
 gA:V7 A
 gb:∀p∈b,p.2.Good
def InJ.small{l:List Lt}{A:List Am}{b:Bnd}(h:InJ l A b)(hg:ZcJ l A b=false):SmJ l A b:=by
 obtain⟨h1,h2,h3⟩:=ZeW hg;refine⟨h2,h3,om,fun x hx=>?_,h.gA om,h.gb om⟩;have:=szLs_mem hx;have h0:x.at_.sz=1+Tm.sz.szs x.at_.args:=rfl;exact⟨h.gl om x hx,om,om,om⟩
def Zm5(A:List Am):∀(p:List Stp) (now:List Bnd),now.length≤20001→(WT A p now).1.length≤20001
 |[],now,h=>h
 |s::r,now,_=>by
  rw[WT];split
  ·exact Zm5 A r _ (Zmw _ _)
  ·simp
def Zca(A:List Am)(l:List Lt)(b:Bnd):(ZQ A l b).1.length≤20001:=by
 unfold ZQ;split
 ·dsimp only;split
  ·simp
  ·rename_i p _;split
   ·refine Ux (ZqP _ _) ?_;rw[Qv];exact Zm5 A p [b] sm
   ·simp
 ·simp
def Zoo{A:List Am}(hA:∀a∈A,Yn a=true){l:List Lt}{b:Bnd}(hl:l.length≤10)(hs:∀x∈l,Sm x)(hb:b.length≤1000):∀σ∈(ZQ A l b).1,σ.length≤7100:=fun σ hσ=>by
 rcases WL hA l b with⟨_,h⟩|⟨_,_,_,h⟩|⟨_,_,_,⟨e,_,h⟩|⟨r,h,_,hm⟩⟩
 ·rw[h]at hσ;cases hσ
 ·rw[h]at hσ;cases hσ
 ·rw[h]at hσ;cases hσ
 ·rw[h]at hσ;have h1:=((hm σ).1 hσ).1;have h2:=YL (p:=Zo σ) (q:=ZN l b) ((ZbG h1.1.asc).imp fun{x y} h e=>by subst e;rw[cmpBytes_self]at h;omega) fun x hx=>(h1.2 x).1 hx
  have h3:=Zgg hl hs hb;simp only[Zo,Qv]at h2;omega
open Go.ChangeShapes Go.WideShapes Go.ChangeAt Go.RowKit
def rdS:List TypeId:=[3,4,5,9,22,23,34,37,40,42,52,54]
theorem rdOk:Zk1 tt rdS=true:=by kernel_rfl
def wf_i64{n:Int}(h:(Lit.int .i64 n).wf=true):-9223372036854775808≤n∧n≤9223372036854775807:=by
 simp[Lit.wf,IntKind.min,IntKind.max,IntKind.signed,IntKind.bits]at h;omega
def wf_u8{n:Int}(h:(Lit.int .u8 n).wf=true):0≤n∧n≤255:=by
 simp[Lit.wf,IntKind.min,IntKind.max,IntKind.signed,IntKind.bits]at h;omega
def ZjI{n:Nat}(h:n≤rB):n≤140737488355328:=Ux h dc
theorem r3:tt 3=some ⟨.int .i64,1,8,[.int .i64 0]⟩:=rfl
theorem r4:tt 4=some ⟨.bool,1,1,[.bool false]⟩:=rfl
theorem r5:tt 5=some ⟨.int .u8,1,1,[.int .u8 0]⟩:=rfl
theorem r9:tt 9=some ⟨.str,1,16,[.str []]⟩:=rfl
theorem r22:tt 22=some ⟨.slice 54,1,24,[.sl 13 [] .full]⟩:=rfl
theorem r23:tt 23=some ⟨.slice 52,1,24,[.sl 2 [] .full]⟩:=rfl
theorem r37:tt 37=some ⟨.slice 40,1,24,[.sl 4 [] .full]⟩:=rfl
theorem r40:tt 40=some ⟨.struct [(0,5),(1,3),(2,9),(3,37)],4,56,[.int .u8 0,.int .i64 0,.str [],.sl 4 [] .full]⟩:=rfl
theorem r52:tt 52=some ⟨.struct [(0,9),(1,37)],2,40,[.str [],.sl 4 [] .full]⟩:=rfl
theorem r54:tt 54=some ⟨.struct [(0,5),(1,4),(2,52),(4,5),(5,40),(9,40)],13,168,[.int .u8 0,.bool false,.str [],.sl 4 [] .full,.int .u8 0,.int .u8 0,.int .i64 0,.str [],.sl 4 [] .full,.int .u8 0,.int .i64 0,.str [],.sl 4 [] .full]⟩:=rfl
inductive NmW:Tm→Prop
 |mk (k n:Int) (s:Str) (l:List Tm) (h:s.length≤140737488355328) (hk:0≤k∧k≤255) (hn:-9223372036854775808≤n∧n≤9223372036854775807) (hl:∀u∈l,NmW u):NmW (.mk k n s l)
def NmW.nm:∀{t:Tm},NmW t→t.sz≤1000000→t.Nm
 | .mk k n s l,h,hs=>by
  cases h with
  |mk _ _ _ _ h hk hn hl=>
   have h1:=Tm.ZoG (.mk k n s l);simp only[Tm.args]at h1;exact .mk _ _ _ _ h hk hn om fun u hu=>(hl u hu).nm (by have:=Tm.ZoC (t:=.mk k n s l) (u:=u) hu;omega)
termination_by t=>SizeOf.sizeOf t
decreasing_by exact Tm.Xp (t:=.mk k n s l) hu
def NmW.good{t:Tm}(h:NmW t)(hs:t.sz≤1000000):t.Good:=⟨om,h.nm hs⟩
structure NmA (a:Am):Prop where
 pred:a.pred.length≤140737488355328
 nm:∀t∈a.args,NmW t
def NmA.good{a:Am}(h:NmA a)(hs:a.sz≤1000000):a.Good:=⟨h.pred,hs,fun t ht=>(h.nm t ht).nm (by have:=Tm.ZcL ht;simp only[Am.sz]at hs;omega)⟩
structure NmX (x:Lt):Prop where
 at_:NmA x.at_
 L:NmW x.L
 R:NmW x.R
 op:0≤x.op∧x.op≤255
def NmX.good{x:Lt}(h:NmX x)(hs:szX x≤1000000):x.Good:=by
 unfold szX at hs;exact⟨h.at_.good om,h.L.good om,h.R.good om⟩
def Zl7{α:Type}{p:α→Prop}{enc:α→List AV}:∀{xs:List (List AV)},(∀x∈xs,∃a,x=enc a∧p a)→ ∃l:List α,xs=l.map enc∧ ∀a∈l,p a
 |[],_=>⟨[],rfl,sm⟩
 |x::xs,h=>by
  obtain⟨a,h1,h2⟩:=h x sm;obtain⟨l,h3,h4⟩:=Zl7 (xs:=xs) (fun y hy=>h y (by simp[hy]));exact⟨a::l,by rw[h1,h3];rfl,fun b hb=>by rcases Qk.1 hb with rfl|hb;exact h2;exact h4 b hb⟩
section
variable {cs:List AV}
def Zll{t:TypeId}(h:XD tt t cs):(t=40→ ∃u:Tm,cs=u.cs∧NmW u)∧(t=37→ ∃l:List Tm,cs=[.sl 4 (l.map Tm.enc) .any]∧ ∀u∈l,NmW u):=by
 induction h with
 |int h hd hw=>exact⟨fun e=>(by subst e;rw[r40]at h;cases h;cases hd),fun e=>(by subst e;rw[r37]at h;cases h;cases hd)⟩
 |bool h hd=>exact⟨fun e=>(by subst e;rw[r40]at h;cases h;cases hd),fun e=>(by subst e;rw[r37]at h;cases h;cases hd)⟩
 |str h hd hl=>exact⟨fun e=>(by subst e;rw[r40]at h;cases h;cases hd),fun e=>(by subst e;rw[r37]at h;cases h;cases hd)⟩
 |slice xs h hd he hx hl ih=>
  refine⟨fun e=>(by subst e;rw[r40]at h;cases h;cases hd),fun e=>?_⟩;subst e;rw[r37]at h;cases h;cases hd;rw[r40]at he;cases he;obtain⟨l,h1,h2⟩:=Zl7 (enc:=Tm.cs) (p:=NmW) (fun x hx=>(ih x hx).1 rfl);refine⟨l,?_,h2⟩;rw[h1,QbD];congr 2
  exact U4 fun u _=>by simp[XQ,Zu.isAgg,Tm.Zcz]
 |struct h hd ps hl hf ih=>
  refine⟨fun e=>?_,fun e=>(by subst e;rw[r37]at h;cases h;cases hd)⟩;subst e;rw[r40]at h;cases h;cases hd
  match ps,hl with
  |[p0,p1,p2,p3],_=>
   obtain⟨k,rfl,hk⟩:=(hf 0 sm sm).Zdg r5 rfl;obtain⟨n,rfl,hn⟩:=(hf 1 sm sm).Zdg r3 rfl;obtain⟨s,rfl,hs⟩:=(hf 2 sm sm).Zih r9 rfl;obtain⟨l,rfl,hl⟩:=(ih 3 sm sm).2 rfl;exact⟨.mk k n s l,rfl,.mk k n s l (ZjI hs) (wf_u8 hk) (wf_i64 hn) hl⟩
def ZpG(h:XD tt 52 cs):∃a:Am,cs=a.cs∧NmA a:=by
 obtain⟨ps,rfl,hl,hf⟩:=h.ZfB r52 rfl
 match ps,hl with
 |[p0,p1],_=>
  obtain⟨s,rfl,hs⟩:=(hf 0 sm sm).Zih r9 rfl;obtain⟨l,rfl,hl⟩:=(Zll (hf 1 sm sm)).2 rfl;exact⟨⟨s,l⟩,rfl,ZjI hs,hl⟩
def Zja{α:Type}{e t k:Nat}{r re:Zu}{enc:α→AV}{acs:α→List AV}{p:α→Prop}(h:XD tt t cs)(hr:tt t=some r)(hd:r.td= .slice e)(he:tt e=some re)(hk:re.size=k)(ha:re.isAgg=true)(hby:40≤re.bytes)
  (hc:∀x,enc x= .agg (acs x)) (hf:∀cs,XD tt e cs→ ∃a:α,cs=acs a∧p a):∃l:List α,cs=[.sl k (l.map enc) .any]∧l.length≤26214400∧ ∀a∈l,p a:=by
 obtain⟨xs,rfl,hx,hlen⟩:=h.Zob hr hd he;obtain⟨l,rfl,h2⟩:=Zl7 (enc:=acs) (p:=p) (fun x hx'=>hf x (hx x hx'));refine⟨l,?_,?_,h2⟩
 ·rw[QbD,hk];congr 2
  exact U4 fun u _=>by simp only[Function.comp,XQ,ha,if_true,hc]
 ·rw[Qv]at hlen;have h1:l.length*_≤1048576000:=hlen;have h3:=GV l.length hby;omega
def Zrv(h:XD tt 23 cs):∃l:List Am,cs=[.sl 2 (l.map Am.enc) .any]∧l.length≤26214400∧ ∀a∈l,NmA a:=Zja h r23 rfl r52 rfl rfl dc (fun _=>rfl) fun _ h=>ZpG h
def ZsK(h:XD tt 54 cs):∃x:Lt,cs=x.cs∧NmX x:=by
 obtain⟨ps,rfl,hl,hf⟩:=h.ZfB r54 rfl
 match ps,hl with
 |[p0,p1,p2,p3,p4,p5],_=>
  obtain⟨k,rfl,_⟩:=(hf 0 sm sm).Zdg r5 rfl;obtain⟨g,rfl⟩:=(hf 1 sm sm).Zkq r4 rfl;obtain⟨a,rfl,ha⟩:=ZpG (hf 2 sm sm);obtain⟨o,rfl,ho⟩:=(hf 3 sm sm).Zdg r5 rfl;obtain⟨u,rfl,hu⟩:=(Zll (hf 4 sm sm)).1 rfl;obtain⟨v,rfl,hv⟩:=(Zll (hf 5 sm sm)).1 rfl;exact⟨⟨k,g,a,o,u,v⟩,rfl,ha,hu,hv,wf_u8 ho⟩
def Zra(h:XD tt 22 cs):∃l:List Lt,cs=[.sl 13 (l.map Lt.enc) .any]∧l.length≤26214400∧ ∀x∈l,NmX x:=Zja h r22 rfl r54 rfl rfl dc (fun _=>rfl) fun _ h=>ZsK h
def Znb(h:XD tt 22 cs):∃l:List Lt,ZhG tt 22 cs= .sl 13 (l.map Lt.enc) .any∧l.length≤26214400∧ ∀x∈l,NmX x:=by
 obtain⟨a,rfl,h2⟩:=Zra h;exact⟨a,rfl,h2⟩
def Zrm(h:XD tt 23 cs):∃l:List Am,ZhG tt 23 cs= .sl 2 (l.map Am.enc) .any∧l.length≤26214400∧ ∀a∈l,NmA a:=by
 obtain⟨a,rfl,h2⟩:=Zrv h;exact⟨a,rfl,h2⟩
def szA_mem:∀{l:List Am} {a:Am},a∈l→a.sz≤szA l
 |b::l,a,h=>by
  simp only[szA];rcases Qk.1 h with rfl|h
  ·omega
  ·have:=szA_mem h;omega
def sumN_mem:∀{l:List Nat} {a:Nat},a∈l→a≤sumN l
 |b::l,a,h=>by
  simp only[sumN];rcases Qk.1 h with rfl|h
  ·omega
  ·have:=sumN_mem h;omega
def Zsm{l:List Lt}{A:List Am}{b:Bnd}(hl:l.length≤100000000000000∧ ∀x∈l,NmX x)(hA:A.length≤100000000000000∧ ∀a∈A,NmA a)(hb:b.length≤100000000000000∧ ∀p∈b,p.1.length≤140737488355328∧NmW p.2):InJ l A b where
 hl:=hl.1
 hA:=hA.1
 hb:=hb.1
 gl h x hx:=(hl.2 x hx).good (by have:=szLs_mem hx;unfold szX;omega)
 gA h a ha:=(hA.2 a ha).good (by have:=szA_mem ha;omega)
 gb h p hp:=(hb.2 p hp).2.good (by have:=sumN_mem (l:=b.map fun p=>p.2.sz) (Qi.2 ⟨p,hp,rfl⟩);omega)
 op x hx:=(hl.2 x hx).op
 bn p hp:=(hb.2 p hp).1
/-! The variables of Go's library. -/
theorem own:ownKnob prog.godebug=none:=by kernel_rfl
theorem ZtN : Tryz.prog.globalNamed "internal/strconv.uint64pow10" = some 1 := by kernel_rfl
theorem gPowT:(prog.globals[1]?).map (·.type)=some 292:=by kernel_rfl
theorem cells292:prog.cellsOf 292=20:=by kernel_rfl
theorem cells196:prog.cellsOf 196=1:=by kernel_rfl
variable {W:World}
def Zrr (h : laidMetH Tryz.prog Rows.joinAllRow.laid W) : Lib.TabIs Tryz.prog W "internal/strconv.uint64pow10" .u64 Lib.pow10Tab := by
 have h1 := laidMetH.filter (fun x => x.1 == "internal/strconv.uint64pow10") h
 exact Lib.tabIs_of_head (rest:=[]) ZtN gPowT Tryz.underlying292 Tryz.underlying196 cells196 cells292 h1
def Ze5(W:World):Env where
 F:=fun b o=>if b=0∨b=1 then none else W.cell? ⟨b,o,none⟩
 m:=fun l k=>if l=0∧k=0 then some 0 else if l=0∧k=1 then some 1 else none
 hist:=fun _ _ _=>none
 g:=fun _ _=>none
 qd:=false
def ZhB(m:Int):Za:=fun l k=>if l=0∧k=0 then some (.var 0 3 [.int .i64 m])else if l=0∧k=1 then some (.var 1 292 (Lib.pow10Tab.map (.int .u64)))else none
def Zt1(m:Int):Tabs (ZhB m):=⟨m,3,292,rfl,rfl⟩
def ZrD (hsh : W.ShapedOpen Tryz.prog) (hL : Lib.TabIs Tryz.prog W "internal/strconv.uint64pow10" .u64 Lib.pow10Tab) :
  ∃m,W.heap[0]? =some (.cells #[.int .i64 m] 3 (0,0))∧W.heap[1]? =some (.cells (Lib.pow10Tab.map fun z=>Value.int .u64 z).toArray 292 (0,0)):=by
 obtain⟨m,hm⟩:=cell_of_shapedOpen_int (P:=prog) (g:=0) (t:=3) (zero:=#[.int .i64 0]) hsh (of_decide_eq_true (by kernel_rfl)) (by kernel_rfl) rfl (by kernel_rfl) (by kernel_rfl) Tryz.underlying3;obtain⟨cs,h1,h2,_⟩:=hsh.1 0 #[.int .i64 0] 3 (of_decide_eq_true (by kernel_rfl)) (by kernel_rfl);obtain⟨cs3,h3,h4,_⟩:=hsh.1 1 (Array.replicate 20 (.int .u64 0)) 292 (of_decide_eq_true (by kernel_rfl)) (by kernel_rfl);refine⟨m,?_,?_⟩
 ·have hs:cs.size=1:=h2;simp only[World.cell?,h1]at hm;rw[h1];have:cs= #[.int .i64 m]:=by
   apply Array.ext_getElem?;intro i;cases i with
   |zero=>simpa using hm
   |succ i=>rw[G8 om,G8 sm]
  rw[this]
 ·unfold Lib.TabIs World.var? at hL;rw[ZtN]at hL;simp only[UH,h3]at hL;rw[h3,UU hL]
def Zt3{m:Int}(h0:W.heap[0]? =some (.cells #[.int .i64 m] 3 (0,0)))(h3:W.heap[1]? =some (.cells (Lib.pow10Tab.map fun z=>Value.int .u64 z).toArray 292 (0,0))):Zq 1 (ZhB m) (Ze5 W) W:=by
 have hm:∀l k b,(Ze5 W).m l k=some b→(l=0∧k=0∧b=0)∨(l=0∧k=1∧b=1):=fun l k b h=>by
  simp only[Ze5]at h;split at h
  ·rename_i e;cases h;exact .inl ⟨e.1,e.2,rfl⟩
  ·split at h
   ·rename_i e;cases h;exact .inr ⟨e.1,e.2,rfl⟩
   ·cases h
 refine{norm:=⟨fun l k hl=>?_,fun _ _ _=>rfl,fun _ _ _ _=>rfl⟩,F:=fun b o v h=>?_,blk:=fun l k b hl h=>?_,dom:=fun l k hl h=>?_,nobuf:=fun l k h=>absurd rfl h,inj:=fun l k l' k' b h h'=>?_,injg:=fun _ _ _ _ _ h=>(by cases h),mg:=fun _ _ _ _ _ _ h=>(by cases h),mF:=fun l k b o h=>?_,lt:=fun b h=>?_}
 ·simp only[Ze5];rw[if_neg om,if_neg om]
 ·simp only[Ze5]at h;split at h
  ·cases h
  ·exact h
 ·simp only[ZhB]at h;split at h
  ·rename_i e;obtain⟨rfl,rfl⟩:=e;cases h;exact⟨rfl,rfl,_,h0,VRs.cons (.int _ _) (VRs.nil _)⟩
  ·split at h
   ·rename_i e;obtain⟨rfl,rfl⟩:=e;cases h;exact⟨rfl,rfl,_,h3,sm,fun i h1 h2=>by simp only[QV,U5];exact .int _ _⟩
   ·cases h
 ·simp only[ZhB]at h;split at h
  ·cases h
  ·rename_i c1;split at h
   ·cases h
   ·rename_i c2;simp only[Ze5];rw[if_neg c1,if_neg c2];simp
 ·rcases hm _ _ _ h with⟨rfl,rfl,rfl⟩|⟨rfl,rfl,rfl⟩<;>rcases hm _ _ _ h' with⟨rfl,rfl,e⟩|⟨rfl,rfl,e⟩<;>first|(cases e;done)|exact⟨trivial,trivial⟩|exact⟨rfl,rfl⟩|simp
 ·rcases hm _ _ _ h with⟨_,_,rfl⟩|⟨_,_,rfl⟩<;>simp[Ze5]
 ·rcases h with⟨l,k,h⟩|⟨l,k,h⟩
  ·rcases hm _ _ _ h with⟨_,_,rfl⟩|⟨_,_,rfl⟩
   ·exact(QU.1 h0).1
   ·exact(QU.1 h3).1
  ·cases h
def Zsn{W':World}{m:Int}{E':Env}(h0:W.heap[0]? =some (.cells #[.int .i64 m] 3 (0,0)))(h3:W.heap[1]? =some (.cells (Lib.pow10Tab.map fun z=>Value.int .u64 z).toArray 292 (0,0)))
  (hh:Zq 1 (ZhB m) E' W') (hx:Ext 1 (Ze5 W) W E' W'):Go.RowKit.Below W.heap.size W W':=by
 refine⟨hx.os,hx.tape,hx.output,hx.size,fun k hk=>?_⟩;by_cases e0:k=0
 ·subst e0;obtain⟨_,_,c,h1,h2⟩:=hh.blk 0 0 (.var 0 3 [.int .i64 m]) om rfl;obtain⟨x,r,hr,hv,hn⟩:=h2.YS;cases hv;rw[h1,h0,show c= #[.int .i64 m] from Qaj.1 (by rw[hr,hn.of_nil])]
 ·by_cases e3:k=1
  ·subst e3;obtain⟨_,_,c,h1,h2⟩:=hh.blk 0 1 (.var 1 292 (Lib.pow10Tab.map (.int .u64))) om rfl;rw[h1,h3,show c=_ from Qaj.1 (VRs.Zsi h2)]
  ·refine hx.block k hk ?_;rintro(⟨l,j,h⟩|⟨l,j,h⟩)
   ·simp only[Ze5]at h;split at h
    ·cases h;exact e0 rfl
    ·split at h
     ·cases h;exact e3 rfl
     ·cases h
   ·cases h
def ZpO{H:Type}{enc:TypeId×Value→H}(f:Nat)(ts:List TypeId)(hts:∀t∈ts,t∈rdS)(h:∀cs,ZkH tt ts cs→Z4 prog f (wraps tt ts cs) (.bool true))
  (W:World) (base:Nat) (args:Array Value) (ds:List (DataW H)) (ps:List MemPlace) (hA:DataW.TrodAll enc prog W 0 (fun _=>true) true ts args.toList ds ps)
  (hok:∀(j:Nat) t v,ts[j]? =some t→args.toList[j]? =some v→Value.okWide prog W .any base t v) (hw:∀n∈DataW.weightsEach prog ts ds,n≤rB)
  (hsh : W.ShapedOpen Tryz.prog) (hL : Lib.TabIs Tryz.prog W "internal/strconv.uint64pow10" .u64 Lib.pow10Tab) :
  Calls prog f args W fun e W'=>e= .returned (.bool true)∧Go.RowKit.Below W.heap.size W W':=by
 obtain⟨m,h0,h3⟩:=ZrD hsh hL;obtain⟨cs,hf,hv⟩:=Zmn (E:=Ze5 W) (X:=fun b=>b=0∨b=1) tok rdS rdOk (fun b o v hX hc=>by simp only[Ze5];rw[if_neg hX];exact hc)
  (fun b o v hX hc=>by
   rcases hX with rfl|rfl
   ·simp only[World.cell?,h0]at hc;cases o with
    |zero=>simp at hc;exact .inl ⟨m,hc.symm⟩
    |succ o=>simp at hc
   ·simp only[World.cell?,h3]at hc;simp only[G9,QS,if_false,List.getElem?_toArray,Q8,Um]at hc;obtain⟨z,_,rfl⟩:=hc;exact .inr ⟨z,rfl⟩) ts args.toList ds ps hA hts hok hw
 have hc:=h cs hf 1 (ZhB m) Nat.one_pos (Zt1 m) (Ze5 W) W args.toList (Zt3 h0 h3) hv;refine Calls.mono hc ?_;rintro e W' ⟨r,v,H',E',rfl,⟨rfl,rfl⟩,h1,h2,h4⟩;cases h1;exact⟨rfl,Zsn h0 h3 h2 h4⟩
end
def Zq3(P:Program)(S:List TypeId)(M:Nat):Bool:=S.all fun t=>match P.underlying t with
 |some (.slice e)=>S.contains e&&decide (P.bytesOf e≤M)
 |some (.struct fs)=>fs.toList.all fun f=>S.contains f.type
 |some (.pointer _)=>false
 |some (.array _ _)=>false
 |some (.map _ _)=>false
 |_=>true
def ZiJ{P:Program}{S:List TypeId}{M:Nat}(h:Zq3 P S M=true){t:TypeId}(ht:t∈S):(match P.underlying t with
 |some (.slice e)=>S.contains e&&decide (P.bytesOf e≤M)
 |some (.struct fs)=>fs.toList.all fun f=>S.contains f.type
 |some (.pointer _)=>false
 |some (.array _ _)=>false
 |some (.map _ _)=>false
 |_=>true)=true:=QA.1 h t ht
def ZoF{H:Type}(d:DataW H):1≤Rows.uptoBulk d:=by
 cases d with
 |lit l=>cases l<;>simp[Rows.uptoBulk]
 |_=>simp[Rows.uptoBulk]
def ZgB{H:Type}:∀l:List (DataW H),l.length≤Rows.uptoBulkAll l
 |[]=>Uo _
 |d::r=>by have:=ZoF d;have:=ZgB r;simp only[Rows.uptoBulkAll,Qo];omega
mutual
def ZrK{H:Type}{P:Program}{S:List TypeId}{M:Nat}(hM:Zq3 P S M=true)(h1:1≤M):∀(d:DataW H) (t:TypeId),t∈S→ ∀n∈d.weights P t,n≤Rows.uptoBulk d*M
 | .lit l,t,ht,n,h=>by
  cases l with
  |string b=>
   simp only[DataW.weights,Ql]at h;subst h;simp only[Rows.uptoBulk];have:(b.length+1)*1≤(b.length+1)*M:=GV _ h1;omega
  |_=>simp[DataW.weights]at h
 | .nil,t,ht,n,h=>by simp[DataW.weights]at h
 | .ptr d,t,ht,n,h=>by
  have hc:=ZiJ hM ht;simp only[DataW.weights]at h;split at h
  ·rename_i e he;rw[he]at hc;cases hc
  ·cases h
 | .slice xs ys,t,ht,n,h=>by
  have hc:=ZiJ hM ht;simp only[DataW.weights]at h;split at h
  ·rename_i e he;rw[he]at hc;simp only[Qh,Qbu,decide_eq_true_eq]at hc;rcases Qk.1 h with rfl|h
   ·have h2:=ZgB xs;have h3:=ZgB ys;have h4:=Qaw (show xs.length+ys.length≤Rows.uptoBulkAll xs+Rows.uptoBulkAll ys by omega) hc.2;simp only[Rows.uptoBulk,QY]at h4⊢;omega
   ·rcases Qg.1 h with h|h
    ·have:=ZlV hM h1 xs _ hc.1 n h;simp only[Rows.uptoBulk,QY];omega
    ·have:=ZlV hM h1 ys _ hc.1 n h;simp only[Rows.uptoBulk,QY];omega
  ·cases h
 | .agg xs,t,ht,n,h=>by
  have hc:=ZiJ hM ht;simp only[DataW.weights]at h;split at h
  ·rename_i fs he;rw[he]at hc;simp only[QA,Qbu]at hc;have:=Zli hM h1 xs (fs.toList.map (·.type)) (fun u hu=>by obtain⟨f,hf,rfl⟩:=Qi.1 hu;exact hc f hf) n h;simp only[Rows.uptoBulk,QY];omega
  ·rename_i e he;rw[he]at hc;cases hc
  ·cases h
 | .iface _ _,t,ht,n,h=>by simp[DataW.weights]at h
 | .map es,t,ht,n,h=>by
  have hc:=ZiJ hM ht;simp only[DataW.weights]at h;split at h
  ·rename_i k e he;rw[he]at hc;cases hc
  ·cases h
 | .held _,t,ht,n,h=>by simp[DataW.weights]at h
def ZlV{H:Type}{P:Program}{S:List TypeId}{M:Nat}(hM:Zq3 P S M=true)(h1:1≤M):∀(l:List (DataW H)) (t:TypeId),t∈S→ ∀n∈DataW.weightsAll P t l,n≤Rows.uptoBulkAll l*M
 |[],t,ht,n,h=>by simp[DataW.weightsAll]at h
 |d::r,t,ht,n,h=>by
  simp only[DataW.weightsAll]at h;rcases Qg.1 h with h|h
  ·have:=ZrK hM h1 d t ht n h;simp only[Rows.uptoBulkAll,QY];omega
  ·have:=ZlV hM h1 r t ht n h;simp only[Rows.uptoBulkAll,QY];omega
def Zli{H:Type}{P:Program}{S:List TypeId}{M:Nat}(hM:Zq3 P S M=true)(h1:1≤M):∀(l:List (DataW H)) (ts:List TypeId),(∀t∈ts,t∈S)→ ∀n∈DataW.weightsEach P ts l,n≤Rows.uptoBulkAll l*M
 |[],ts,ht,n,h=>by cases ts<;>simp[DataW.weightsEach]at h
 |d::r,[],ht,n,h=>by simp[DataW.weightsEach]at h
 |d::r,t::ts,ht,n,h=>by
  simp only[DataW.weightsEach]at h;rcases Qg.1 h with h|h
  ·have:=ZrK hM h1 d t (ht t QaS) n h;simp only[Rows.uptoBulkAll,QY];omega
  ·have:=Zli hM h1 r ts (fun u hu=>ht u (Qy _ hu)) n h;simp only[Rows.uptoBulkAll,QY];omega
end

theorem laidOut : laidOutB Tryz.prog = true := by kernel_rfl
theorem ZsC : rdS.all (fun t => Tryz.prog.readableRec t && decide (t < Tryz.prog.types.size)) = true := by kernel_rfl
theorem Zs2 {t : TypeId} (h : t ∈ rdS) : Tryz.prog.readableRec t = true ∧ t < Tryz.prog.types.size := by
  have := List.all_eq_true.1 ZsC t h
  simpa using this

theorem Zdf {H : Type} {enc : TypeId × Value → H} {P : Program} {W : World} {b : Nat} {sp : Nat → Bool} {hd : Bool} : ∀ {ts : List TypeId} {vs : List Value} {ds : List (DataW H)} {ps : List MemPlace}, DataW.TrodAll enc P W b sp hd ts vs ds ps → ds.length = ts.length
  | [], [], [], _, _ => rfl
  | t :: ts, v :: vs, d :: ds, ps, h => by
    obtain ⟨p, q, _, h2, _⟩ := h
    simp only [List.length_cons, Zdf h2]
  | [], _ :: _, _, _, h => h.elim
  | [], [], _ :: _, _, h => h.elim
  | _ :: _, [], _, _, h => h.elim
  | _ :: _, _ :: _, [], _, h => h.elim

theorem Zhf {H : Type} {enc : TypeId × Value → H} {W W' : World} (hb : Go.RowKit.Below W.heap.size W W') : ∀ {ts : List TypeId} {vs : List Value} {ds : List (DataW H)} {ps : List MemPlace}, (∀ t ∈ ts, t ∈ rdS) →
    DataW.TrodAll enc Tryz.prog W 0 (fun _ => true) true ts vs ds ps → (∀ x ∈ ps, x.block < W.heap.size) → DataW.TrodAll enc Tryz.prog W' 0 (fun b => decide (b < W.heap.size)) true ts vs ds ps
  | [], [], [], _, _, h, _ => h
  | t :: ts, v :: vs, d :: ds, ps, hts, h, hlt => by
    obtain ⟨p, q, h1, h2, rfl⟩ := h
    have hr := Zs2 (hts t (List.mem_cons_self ..))
    exact ⟨p, q, Go.RowKit.Below.trod laidOut hr.1 hr.2 h1 hb (fun x hx => hlt x (List.mem_append_left _ hx)), Zhf hb (fun t h => hts t (List.mem_cons_of_mem _ h)) h2 (fun x hx => hlt x (List.mem_append_right _ hx)), rfl⟩
  | [], _ :: _, _, _, _, h, _ => h.elim
  | [], [], _ :: _, _, _, h, _ => h.elim
  | _ :: _, [], _, _, _, h, _ => h.elim
  | _ :: _, _ :: _, [], _, _, h, _ => h.elim

theorem Zu0 : Tryz.prog.underlying 4 = some .bool := by kernel_rfl

/-- A law's post, from its walk. -/
theorem Zpn {H : Type} {enc : TypeId × Value → H} (f : Nat) (fn : Func) (s : ChangeSpec) (ts : List TypeId) (hp : fn.params.toList = ts) (hr : fn.resultTypes = #[4]) (hs : s.vars = [])
    (hfn : ∀ ds : List (DataW H), ds.length = ts.length → s.fn H ds = { results := [.lit (.bool true)], args := ds })
    (hts : ∀ t ∈ ts, t ∈ rdS) (h : ∀ cs, ZkH tt ts cs → Z4 Tryz.prog f (wraps tt ts cs) (.bool true))
    (W : World) (base : Nat) (args : Array Value) (ds gs : List (DataW H)) (before : List MemPlace)
    (hval : ∀ (j : Nat) t v, fn.params[j]? = some t → args[j]? = some v → Value.okWide Tryz.prog W .any base t v)
    (hW : DataW.Whole enc Tryz.prog fn.params.toList s.vars false W args.toList ds gs before)
    (hw : ∀ n ∈ DataW.weightsEach Tryz.prog ts ds, n ≤ rB)
    (hsh : W.ShapedOpen Tryz.prog) (hL : Lib.TabIs Tryz.prog W "internal/strconv.uint64pow10" .u64 Lib.pow10Tab) :
    Calls Tryz.prog f args W fun e W' => ∃ v, e = .returned v ∧ s.post enc Tryz.prog fn false true false false W args v W' := by
  have hlt := hW.lt
  have hW' := hW
  obtain ⟨p, q, hA, hV, rfl, hfz, hnd⟩ := hW
  rw [hs] at hV
  obtain ⟨rfl, rfl⟩ := trodVars_none hV
  rw [hp] at hA
  simp only [List.append_nil] at hlt hW'
  have hval' : ∀ (j : Nat) t v, ts[j]? = some t → args.toList[j]? = some v → Value.okWide Tryz.prog W .any base t v := fun j t v h1 h2 =>
    hval j t v (by rw [← hp] at h1; simpa using h1) (by simpa using h2)
  have w := ZpO f ts hts h W base args ds p hA hval' hw hsh hL
  refine w.mono fun e W' ⟨he, hg⟩ => ?_
  subst he
  refine ⟨_, rfl, ds, [], p, [], p, [], hW', ?_, ?_, ?_, hg.frame _, fun h => by cases h⟩
  · rw [List.append_nil, hfn ds (Zdf hA), hr]
    exact trodAll_mk1 (shut_bool Zu0 true)
  · rw [List.append_nil, hfn ds (Zdf hA), hp]
    exact Zhf hg hts hA hlt
  · rw [List.append_nil, hfn ds (Zdf hA), hs]
    exact rfl

theorem Zmc {H : Type} {ts : List TypeId} {ds : List (DataW H)} (hts : ∀ t ∈ ts, t ∈ rdS) (h : Rows.uptoSmall H (ds ++ []) = true) : ∀ n ∈ DataW.weightsEach Tryz.prog ts ds, n ≤ rB := by
  intro n hn
  rw [List.append_nil] at h
  have hb : Rows.uptoBulkAll ds ≤ 1048576 := of_decide_eq_true h
  exact Nat.le_trans (Zli (S := rdS) (M := 1000) (by kernel_rfl) (by decide) ds ts hts n hn) (Nat.mul_le_mul_right 1000 hb)

def ZrJ : DataW Unit → List Value
  | .lit (.int k n) => [.int k n]
  | _ => []
def ZrO : DataW Unit → List Value
  | .agg l => l.flatMap ZrJ
  | d => ZrJ d
def Zs6 : DataW Unit → List Value
  | .agg l => l.flatMap ZrO
  | d => ZrO d
def lay (d : DataW Unit) : Obj → Obj
  | .cells _ t frozen => .cells (Zs6 d).toArray t frozen
  | o => o
/-- A world for the witness: the settled one, Go's own tables holding what their initialisers lay. -/
noncomputable def laidWorld (os : Os) : World :=
  { World.holding Tryz.prog os ⟨#[], #[], []⟩ with heap := (((((World.holding Tryz.prog os ⟨#[], #[], []⟩).heap.modify 4 (lay Rows.laid_math_bits_deBruijn32tab)).modify 5 (lay Rows.laid_math_bits_deBruijn64tab)).modify 1
      (lay Rows.laid_internal_strconv_uint64pow10)).modify 3 (lay Rows.laid_unicode_utf8_acceptRanges)).modify 2 (lay Rows.laid_unicode_utf8_first) }
theorem laid_met (os : Os) (args : Array Value) : laidMet Tryz.prog Rows.joinAllRow.laid ((laidWorld os).forCall (fun _ _ => 0) ⟨#[], args, []⟩).memory :=
  laidMet_of_run' 8 (by kernel_rfl) (by kernel_rfl)
end Go.Proofs.YtmdeagmbfhbbnaaGreatDoorR
