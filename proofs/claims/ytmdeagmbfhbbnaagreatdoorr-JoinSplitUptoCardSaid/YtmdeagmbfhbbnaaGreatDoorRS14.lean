/- Bindings are the same; a binding is among others. -/
import Derived.Test.YtmdeagmbfhbbnaaGreatDoorRS13
set_option linter.all false
set_option maxRecDepth 100000
open Go.Proofs.Tryz
namespace Go.Proofs.YtmdeagmbfhbbnaaGreatDoorR
open Go.Abs
def Zcq(p q:Str×Tm):Bool:=(p.1==q.1)&&eqT p.2 q.2
def Zou(p q:Str×Tm):Zcq p q=true↔p=q:=by
 unfold Zcq;rw[Qh,beq_iff_eq,eqT_iff];exact⟨fun h=>QaV h.1 h.2,fun h=>by rw[h];exact⟨rfl,rfl⟩⟩
def ZuN(p q:Str×Tm)(hp:p.2.Good):Pure prog 107 [eBd p,eBd q] (.bool (Zcq p q)):=by
 intro n H;refine aF func107 fun B=>?_
 refine nR ?_;cases h1:(p.1==q.1)with
 |true=>
  refine nq h1 ?_;refine cP (a62 p.2 q.2 hp) ?_;refine YB rfl rfl ?_;refine Zc ?_ (.bool _) rfl;try simp only[go_sem,simprocAttr,Zcq,h1,UZ]
  exact .refl _
 |false=>
  refine nq h1 ?_;refine YB rfl rfl ?_;refine Zc ?_ (.bool _) rfl;try simp only[go_sem,simprocAttr,Zcq,h1,G6]
  exact .refl _
def Za9(b c:Bnd):Bool:=(b.length==c.length)&&(b.zip c).all fun x=>Zcq x.1 x.2
def Zk3(b:Bnd):Za9 b b=true:=by
 unfold Za9;rw[Qh,QA];refine⟨sm,fun x hx=>(Zou _ _).2 ?_⟩;obtain⟨i,hi,rfl⟩:=QJ hx;simp
def ZuG(b c:Bnd)(H:Za)(i:Nat):Zb:=⟨[(5,.int .i64 i),(0,.sl 5 (b.map eBd) .any),(1,.sl 5 (c.map eBd) .any)],[],H⟩
def e58(b c:Bnd)(hb:b.length≤1000000)(gb:∀q∈b,q.2.Good):Pure prog 58 [Zj b,Zj c] (.bool (Za9 b c)):=by
 intro n H;have hin:∀q,Inside n q (.sl 5 (b.map eBd) .any)∧Inside n q (.sl 5 (c.map eBd) .any):=fun q=>⟨(ZC n b).inside,(ZC n c).inside⟩
 refine aF func58 fun B=>?_
 refine nR ?_;by_cases hl:b.length=c.length;rotate_left
 ·have hn:((b.length:Int) !=(c.length:Int))=true:=by simp;omega
  have hs:Za9 b c=false:=by unfold Za9;rw[Bool.and_eq_false_iff];exact .inl (by simpa using hl)
  refine nr ?_;simp only[go_sem,simprocAttr,Zj,hn];refine gi ?_;refine YB rfl rfl ?_;refine Zc ?_ (.bool _) rfl;try simp only[go_sem,simprocAttr,hs]
  exact .refl _
 have hn:((b.length:Int) !=(c.length:Int))=false:=by simp;omega
 have hs:Za9 b c=(b.zip c).all fun x=>Zcq x.1 x.2:=by unfold Za9;rw[show(b.length==c.length)=true by simpa using hl,UZ]
 rw[hs];refine nr ?_;simp only[go_sem,simprocAttr,Zj,hn];refine gv ?_;repeat refine kn rfl ?_
 refine ZX (ZuG b c H) (fun i=>((b.zip c).all fun x=>Zcq x.1 x.2)=(((b.zip c).drop i).all fun x=>Zcq x.1 x.2)) b.length rfl ?_ sm ?_
 ·exact KK
 intro i hi hq;refine Yc rfl ?_;rcases Qj i b.length with h|h
 ·have h':i<c.length:=om;have hz:i<(b.zip c).length:=by rw[List.length_zip];omega
  rw[Qz hz,Qbd,List.getElem_zip]at hq;simp only at hq;refine nq h ?_;refine nT ?_;refine dq4 (getD_map eBd _ _ h) (getD_map eBd _ _ h') h h' ?_;refine cP (ZuN b[i] c[i] (gb _ (Qa h))) ?_;cases hsp:Zcq b[i] c[i]with
  |false=>
   rw[hsp,G6]at hq;refine gn ?_;rw[hq];exact Zc (.refl _) (.bool _) rfl
  |true=>
   rw[hsp,UZ]at hq;refine gD ?_;refine⟨hq,?_⟩;exact KK
 ·have hd:(b.zip c).drop i=[]:=Us (by rw[List.length_zip];omega);rw[hd]at hq;rw[hq];refine nq (QI.2 h) ?_;refine gG ?_;exact pB
def Zs7(R:List Bnd)(b:Bnd)(H:Za)(i:Nat):Zb:=⟨[(5,.int .i64 i),(0,.sl 1 (R.map Zj) .any),(1,.sl 5 (b.map eBd) .any)],[],H⟩
def e14(R:List Bnd)(b:Bnd)(hR:R.length≤1000000)(hl:∀c∈R,c.length≤1000000)(gR:∀c∈R,∀q∈c,q.2.Good):Pure prog 14 [.sl 1 (R.map Zj) .any,Zj b] (.bool (R.any fun c=>Za9 c b)):=by
 intro n H;have hin:∀q,Inside n q (.sl 1 (R.map Zj) .any)∧Inside n q (.sl 5 (b.map eBd) .any):=fun q=>⟨(ZA _).inside,(ZC n b).inside⟩
 refine aF func14 fun B=>?_
 refine gk ?_;refine ZX (Zs7 R b H) (fun i=>(R.any fun c=>Za9 c b)=((R.drop i).any fun c=>Za9 c b)) R.length rfl ?_ sm ?_
 ·unfold Zs7;exact KK
 intro i hi hq;refine Yc rfl ?_;rcases Qj i R.length with h|h
 ·rw[Qz h,QbB]at hq;have hm:=Qa h;refine nr ?_;refine aq h ?_;refine nT ?_;refine nq2 (getD_map Zj _ _ h) h ?_;refine VK (Zf func58 rfl rfl) (e58 R[i] b (hl _ hm) (gR _ hm)) (by simp only[go_sem,simprocAttr,Zj]) ?_;simp only[go_sem,simprocAttr,Zj];cases hsp:Za9 R[i] b with
  |true=>
   rw[hsp,G7]at hq;refine gn ?_;rw[hq];exact Zc (.refl _) (.bool _) rfl
  |false=>
   rw[hsp,MR]at hq;refine gD ?_;refine⟨hq,?_⟩;exact KK
 ·rw[Us h]at hq;rw[hq];refine nq (QI.2 h) ?_;refine gG ?_;exact pB
def ZoZ{n ls:Nat}{A:List Am}{G:Za}(hA:V7 A)(hT:Tabs G)(hn:0<n)(hls:ls<n)(hs:Z7 G ls 0 (Xl sto0 A)){l:List Lt}(hl:l.length≤10)(hsm:∀x∈l,Sm x)(hop:∀x∈l,0≤x.op∧x.op≤255){b:Bnd}(hb:b.length≤1000)(gb:∀q∈b,q.2.Good){ol ob:Own}{R:List Bnd}{e:Int}(hj:ZQ (Xl sto0 A).A l b=(R,e)):
  PC prog n 10 [.sl 13 (l.map Lt.enc) ol,.ptr ls 0 0,.sl 5 (b.map eBd) ob] G (.tup [.sl 1 (R.map Zj) .any,eInt e]):=by
 have h:=k10 e100 n G hT hn ls 0 hls (Xl sto0 A) hs (ok0.Xl hA) l hl hsm hop b hb gb;rw[hj]at h;exact Zh.args h ⟨.any _ _ _,.refl _,.any _ _ _,trivial⟩
def w8o(l:List Lt)(A:List Am)(b:Bnd)(o1 o2 o3:Own)(h:InJ l A b):Pure prog 8 [.sl 13 (l.map Lt.enc) o1,.sl 2 (A.map Am.enc) o2,.sl 5 (b.map eBd) o3] (.bool (ZcJ l A b)):=
 Pure.args (w8 l A b h.hl h.hA h.hb h.gl h.gb) ⟨.any _ _ _,.any _ _ _,.any _ _ _,trivial⟩
def ZpC(x:Lt):(ZE x).length≤szX x:=by
 have h1:=flatMap_vars_len [x.L,x.R];have h2:=flatMap_vars_len x.at_.args;have h3:x.at_.sz=1+Tm.sz.szs x.at_.args:=rfl;simp only[Tm.sz.szs]at h1;unfold ZE szX;split<;>omega
def vars_szLs:∀l:List Lt,(l.flatMap ZE).length≤szLs l
 |[]=>by simp
 |x::r=>by
  have:=vars_szLs r;have:=ZpC x;rw[QM,Qd,szLs];omega
def ZlT{A:List Am}(hA:∀a∈A,Yn a=true){l:List Lt}{b:Bnd}:∀σ∈(ZQ A l b).1,σ.length≤szLs l+b.length:=fun σ hσ=>by
 rcases WL hA l b with⟨_,h⟩|⟨_,_,_,h⟩|⟨_,_,_,⟨e,_,h⟩|⟨r,h,_,hm⟩⟩
 ·rw[h]at hσ;cases hσ
 ·rw[h]at hσ;cases hσ
 ·rw[h]at hσ;cases hσ
 ·rw[h]at hσ;have h1:=((hm σ).1 hσ).1;have h2:=YL (p:=Zo σ) (q:=ZN l b) ((ZbG h1.1.asc).imp fun{x y} h e=>by subst e;rw[cmpBytes_self]at h;omega) fun x hx=>(h1.2 x).1 hx
  have h3:=vars_szLs l;simp only[Zo,Qv,ZN,Qd]at h2;omega
def ss5(m:List Lt)(A:List Am)(G:Bnd→List Bnd)(R0 R1:List Bnd)(n:Nat)(H:Za)(i:Nat):Zb:=
 ⟨[(14,.int .i64 i),(13,.int .i64 ((R1.take i).flatMap G).length),(11,.sl 1 (R1.map Zj) .any),(9,.sl 1 (R0.map Zj) .any),(8,.ptr n 0 0),(1,.sl 13 (m.map Lt.enc) .any)],[],H⟩
def ZuH(m:List Lt)(R0 R1 R2:List Bnd)(c:Nat)(n:Nat)(H:Za)(i j:Nat):Zb:=
 ⟨[(17,.int .i64 j),(15,.sl 1 (R2.map Zj) .any),(14,.int .i64 i),(13,.int .i64 c),(11,.sl 1 (R1.map Zj) .any),(9,.sl 1 (R0.map Zj) .any),(8,.ptr n 0 0),(1,.sl 13 (m.map Lt.enc) .any)],[],H⟩
def ZuP(m:List Lt)(R0 R1 R2:List Bnd)(c:Nat)(n:Nat)(H:Za)(i:Nat):Zb:=
 ⟨[(15,.sl 1 (R2.map Zj) .any),(14,.int .i64 i),(13,.int .i64 c),(11,.sl 1 (R1.map Zj) .any),(9,.sl 1 (R0.map Zj) .any),(8,.ptr n 0 0),(1,.sl 13 (m.map Lt.enc) .any)],[],H⟩
def Zgc{G:Bnd→List Bnd}(hG:∀b,(G b).length≤20001):∀l:List Bnd,(l.flatMap G).length≤l.length*20001
 |[]=>by simp
 |x::r=>by have:=Zgc hG r;have:=hG x;rw[QM,Qd,Qo];omega
def o5:Opt:=⟨false,false,fun d=>if d=22 then .lay false else .auto,[]⟩
def e5(l m:List Lt)(A:List Am)(hi:InJ (l++m) A [])(hlen:l.length+m.length≤100000000):Z4 prog 5 [.sl 13 (l.map Lt.enc) .any,.sl 13 (m.map Lt.enc) .any,.sl 2 (A.map Am.enc) .any] (.bool true):=by
 intro n H hn hT;have hTc:=hT.cut hn;have hfr:=YE.cut n n H (Qe _) 0;refine PC.up 1 (.bool _) ?_;refine aF func5 fun B=>?_
 refine gc ?_;refine cQ (e7 (n+1+1) _ (QT _) (hTc.full (QT _))) ?_;simp only[go_sem,simprocAttr];refine nF ?_;repeat refine kn rfl ?_
 refine YF tok o5 rfl rfl (by kernel_rfl) ?_;simp only[go_sem,simprocAttr,o5];have hone:∀q:List Lt,∀y∈q.map Lt.enc,y.cells.all AV.one=true:=fun q y hy=>by obtain⟨u,_,rfl⟩:=Qi.1 hy;rfl
 refine⟨rfl,⟨hone l,Zm om,om⟩,⟨hone m,Zm om,om⟩,?_⟩;rw[←QL];refine ZK (s':=⟨[(7,.sl 13 ((l++m).map Lt.enc) .any),(0,.sl 13 (l.map Lt.enc) .any),(1,.sl 13 (m.map Lt.enc) .any),(2,.sl 2 (A.map Am.enc) .any)],[],Zcx n H⟩) ?_ ?_
 ·exact KK
 refine nR ?_;refine cP (w8o (l++m) A [] .any .any .full hi) ?_;cases hg:ZcJ (l++m) A []with
 |true=>
  refine gj ?_;exact Zk (.refl _) (.bool _) ⟨rfl,fun l k hl=>if_pos hl⟩
 |false=>
 refine nF ?_;refine Zes rfl ?_;have hs:=hi.small hg;have hok:Ok (Xl sto0 A):=ok0.Xl hs.gA;have hTp:=hTc.put hfr (Xl sto0 A);have hl5:=hs.l5;rw[Qd]at hl5;have hsl:∀x∈l,Sm x:=fun x hx=>hs.sm x (Qx _ hx)
 have hsm:∀x∈m,Sm x:=fun x hx=>hs.sm x (QB _ hx)
 have hol:∀x∈l,0≤x.op∧x.op≤255:=fun x hx=>hi.op x (Qx _ hx)
 have hom:∀x∈m,0≤x.op∧x.op≤255:=fun x hx=>hi.op x (QB _ hx)
 refine nR ?_;refine call9 rfl n 0 A .any (Qq n) hfr hs.gA (by have:=hs.A24;omega) (QT _) hTc sS ?_;refine aS ?_;have hSF:=ZjM hok.v l m;have hd1:=ZlT hok.v (l:=l) (b:=[]);have hz1:szLs l≤300:=by have:=(ZeW hg).1;rw[szLs_append]at this;omega
 have hl1:=Zca (Xl sto0 A).A l [];have hg1:=ZcW hok.v l [];have hd0:=Zoo hok.v (l:=l++m) (b:=[]) (by rw[Qd];omega) hs.sm sm;have hl0:=Zca (Xl sto0 A).A (l++m) [];have hg0:=ZcW hok.v (l++m) [];obtain⟨W,hW⟩:∃W,W=put (Zcx n H) n 0 (Xl sto0 A):=⟨_,rfl⟩
 have hcut:∀l k,l<n→W l k=H l k:=hW▸Zie (Qe n);have hTW:Tabs W:=hW▸hTp;have hHW:Z7 W n 0 (Xl sto0 A):=hW▸Z7.put _ _ _ _;rw[←hW];obtain⟨R0,e0,hj0⟩:∃R e,ZQ (Xl sto0 A).A (l++m) []=(R,e):=⟨_,_,rfl⟩
 obtain⟨R1,e1,hj1⟩:∃R e,ZQ (Xl sto0 A).A l []=(R,e):=⟨_,_,rfl⟩
 refine nR ?_;refine cQ (ZoZ hs.gA (hTW.full (QT _)) (QT _) (MH (Qq n)) (hHW.full (Qq n) _) (by rw[Qd];omega) hs.sm hi.op (b:=[]) sm sm (ol:=.any) (ob:=.full) hj0) ?_;simp only[go_sem,simprocAttr,eInt];refine nR ?_;refine cQ (ZoZ hs.gA (hTW.full (QT _)) (QT _) (MH (Qq n)) (hHW.full (Qq n) _) om hsl hol (b:=[]) sm sm (ol:=.any) (ob:=.full) hj1) ?_;simp only[go_sem,simprocAttr,eInt];rw[hj0,hj1]at hSF;rw[hj0]at hd0 hl0 hg0;rw[hj1]at hd1 hl1 hg1;simp only at hSF hd0 hl0 hd1 hl1;by_cases he0:e0=0;rotate_left
 ·have hb:(e0 !=0)=true:=by simp[he0]
  refine nq hb ?_;refine gj ?_;exact Zk (.refl _) (.bool _) ⟨rfl,hcut⟩
 by_cases he1:e1=0;rotate_left
 ·have hb:(e0 !=0)=false:=by simp[he0]
  have hb':(e1 !=0)=true:=by simp[he1]
  refine nq2 hb hb' ?_;refine gj ?_;exact Zk (.refl _) (.bool _) ⟨rfl,hcut⟩
 have hb:(e0 !=0)=false:=by simp[he0]
 have hb':(e1 !=0)=false:=by simp[he1]
 obtain⟨hSF1,hSF2⟩:=hSF he0 he1;refine nq2 hb hb' ?_;refine nF ?_;refine gk ?_;have hall:∀(q:Nat→Prop),Inside (n+1) q (.sl 1 (R1.map Zj) .any)∧Inside (n+1) q (.sl 1 (R0.map Zj) .any)∧Inside (n+1) q (.ptr n 0 0):=fun q=>⟨(ZA _).inside,(ZA _).inside,.ptr _ _ _ (.inl (Qq n))⟩
 refine ZX (ss5 m A (fun β=>(ZQ (Xl sto0 A).A m β).1) R0 R1 n W) (fun i=>∀β∈R1.take i,(ZQ (Xl sto0 A).A m β).2=0) R1.length rfl ?_ (fun β hβ=>by simp at hβ) ?_
 ·exact KK
 intro i hi' hq;refine Yc rfl ?_;rcases Qj i R1.length with h|h
 ·have hβ:=Qa h;have hβl:=hd1 _ hβ;simp only[QC,Uz]at hβl;obtain⟨hF1,hF2⟩:=hSF1 _ hβ;obtain⟨R2,e2,hj2⟩:∃R e,ZQ (Xl sto0 A).A m R1[i]=(R,e):=⟨_,_,rfl⟩
  have hl2:=Zca (Xl sto0 A).A m R1[i];rw[hj2]at hF1 hF2 hl2;simp only at hF1 hF2 hl2;refine nr ?_;refine aq h ?_;refine nT ?_;refine nq2 (getD_map Zj _ _ h) h ?_;refine ZhD (Zf func10 rfl rfl) (ZoZ hs.gA (hTW.full (QT _)) (QT _) (MH (Qq n)) (hHW.full (Qq n) _) om hsm hom (b:=R1[i]) om (fun q hq=>Xx ((hg1.good _ hβ).val q hq)) (ol:=.any) (ob:=.any) hj2) (by simp only[go_sem,simprocAttr,Zj]) ?_;simp only[go_sem,simprocAttr,eInt];by_cases h5:e2=5
  ·have hb5:(e2==5)=true:=by simp[h5]
   refine nq hb5 ?_;refine gn ?_;exact Zk (.refl _) (.bool _) ⟨rfl,hcut⟩
  have hb5:(e2==5)=false:=by simp[h5]
  by_cases h3:e2=3
  ·have hb3:(e2==3)=true:=by simp[h3]
   refine nq2 hb5 hb3 ?_;refine gn ?_;exact Zk (.refl _) (.bool _) ⟨rfl,hcut⟩
  have hb3:(e2==3)=false:=by simp[h3]
  have hz:e2=0:=om;have hbz:(e2 !=0)=false:=by simp[hz]
  refine nq2 hb5 hb3 ?_;refine nF ?_;refine nq hbz ?_;refine gv ?_;generalize hc:((R1.take i).flatMap fun β=>(ZQ (Xl sto0 A).A m β).1).length=c at*;refine V5 (ZuP m R0 R1 R2 c n W i) ?_ ?_
  ·refine kK ?_;refine Zt (ZuH m R0 R1 R2 c n W i) R2.length rfl ?_ ?_
   ·exact KK
   intro j hj';refine Yc rfl ?_;rcases Qj j R2.length with hj|hj
   ·have hin:=hF2 _ (Qa hj);have hany:(R0.any fun c=>Za9 c R2[j])=true:=Gy.2 ⟨_,hin,Zk3 _⟩;refine nr ?_;refine aq hj ?_;refine nT ?_;refine nq2 (getD_map Zj _ _ hj) hj ?_;refine VK (Zf func14 rfl rfl) (e14 R0 R2[j] om (fun c hc=>by have:=hd0 c hc;omega) (fun c hc q hq=>Xx ((hg0.good c hc).val q hq))) (by simp only[go_sem,simprocAttr,Zj]) ?_;simp only[go_sem,simprocAttr,Zj];simp only[go_sem,simprocAttr,hany];refine nF ?_;repeat refine kn rfl ?_
    refine gd ?_;exact KK
   ·refine nq (QI.2 hj) ?_;refine gJ ?_;refine⟨rfl,?_⟩;exact KK
  refine Yc rfl ?_;have hcb:c≤20001*20001:=by
   have:=Zgc (G:=fun β=>(ZQ (Xl sto0 A).A m β).1) (fun b=>Zca _ _ _) (R1.take i);rw[hc,QK]at this;have h9:min i R1.length≤20001:=om;have:=QE 20001 h9;omega
  have hst:((R1.take (i+1)).flatMap fun β=>(ZQ (Xl sto0 A).A m β).1).length=c+R2.length:=by
   rw[Qn h,Uc,Qd,hc];simp[hj2]
  refine gc ?_;refine nN ?_;refine⟨fun β hβ'=>?_,?_⟩
  ·rw[Qn h]at hβ';rcases Qg.1 hβ' with hβ'|hβ'
   ·exact hq β hβ'
   ·simp only[Ql]at hβ';rw[hβ',hj2,hz]
  ·unfold ss5;rw[hst];exact KK
 ·have hi2:i=R1.length:=om;subst hi2;rw[QN]at hq;have hcnt:=hSF2 hq;have hbe:((R0.length:Int)==(R0.length:Int))=true:=sm;refine nr ?_;simp only[go_sem,simprocAttr,QN,Ui];refine gg ?_;rw[hcnt];refine nq hbe ?_;refine nV ?_;exact Zk (.refl _) (.bool _) ⟨rfl,hcut⟩
end Go.Proofs.YtmdeagmbfhbbnaaGreatDoorR
