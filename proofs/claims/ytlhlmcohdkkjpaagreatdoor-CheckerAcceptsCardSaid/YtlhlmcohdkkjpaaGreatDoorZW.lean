/- Package proof: begin, First, Check. -/
import Derived.Test.YtlhlmcohdkkjpaaGreatDoorZV
set_option linter.all false
set_option maxHeartbeats 16000000
set_option maxRecDepth 100000
namespace Go.Proofs.YtlhlmcohdkkjpaaGreatDoor
open Go.RowKit
theorem uO {α:Type}{c:α→α→Int}(ht: ∀x y z,c x y<0→c y z<0→c x z<0): ∀ {l:List α},FY c l→l.Pairwise (fun x y=>c x y<0)
 | [],_=>List.Pairwise.nil
 | [x],_=>List.pairwise_singleton _ _
 | x::y::t,h=>by
  have h1:c x y<0:=h 0 x y rfl rfl;have ih:=uO ht (l:=y::t) (fun j a b ha hb=>h (j+1) a b ha hb);refine Yh.2 ⟨fun z hz=> ?_,ih⟩;rcases m6.1 hz with rfl | hz
  ·exact h1
  ·exact ht x y z h1 ((Yh.1 ih).1 z hz)
variable{cf:Bool}{a b:Int}{ls:List (List Cx)}{xs:List Int}{ms:List Nat}{nb sp tb g:Nat}{p:Px}{α:Type}{w0 w:World}{l:List α}{c:α→α→Int}
theorem LK (h:l.Pairwise (fun x y=>c x y<0)):FY c l:=fun j x y hx hy=>by
 obtain⟨hj,e1⟩:=U4.1 hx;obtain⟨qL,e2⟩:=U4.1 hy;have:=Yg.1 h j (j+1) hj qL (by omega);rw[e1,e2]at this;exact this
theorem Lx (ht: ∀x y z,c x y<0→c y z<0→c x z<0)(q:α→Bool)(h:N8 c l=true):N8 c (l.filter q)=true:=
 D3.2 (LK ((uO ht (D3.1 h)).filter q))
theorem qj4 :j7 a b<0↔a<b:=by
 unfold j7;split
 ·omega
 ·split<;>omega
theorem GX {t:List Int}:Kr (j7 a b::t)<0↔a<b∨(a=b∧Kr t<0):=by
 show(if j7 a b=0 then Kr t else j7 a b)<0↔_;generalize Kr t=z;unfold j7;by_cases h:a<b
 ·rw[x9 h];simp[h]
 ·rw[z9 h];by_cases h2:b<a
  ·rw[x9 h2];simp[h];omega
  ·rw[z9 h2,x9 rfl];have:a=b:=by omega
   simp[this]
theorem or_nil: ¬Kr []<0:=by unfold Kr;omega
theorem qy (x y z:Q5)(h1:U6 x y<0)(h2:U6 y z<0):U6 x z<0:=by
 unfold U6 at*;simp only[GX,or_nil,and_false,Q1]at*;omega
theorem qi (x y z:Q5)(h1:U7 x y<0)(h2:U7 y z<0):U7 x z<0:=by
 unfold U7 at*;simp only[GX,or_nil,and_false,Q1]at*;omega
theorem BM (x y z:Q4)(h1:F3 x y<0)(h2:F3 y z<0):F3 x z<0:=by
 unfold F3 at*;simp only[GX,or_nil,and_false,Q1]at*;omega
theorem BI (x y z:Dx)(h1:R9 x y<0)(h2:R9 y z<0):R9 x z<0:=by
 unfold R9 at*;rw[qj4]at*;omega
theorem all_filter {f q:α→Bool}(h:l.all f=true):(l.filter q).all f=true:=Z6.2 (fun x hx=>Z6.1 h x (G4.1 hx).1)
theorem I0 {l:List Int}{s:Int}(h:y8 p s=true)(hl:l.contains s=true):y8 (c_ p l) s=true:=by
 unfold y8 at h⊢;have hm:s∈l5 p.D:=by simpa using h
 obtain⟨d,hd,rfl⟩:=F4.1 hm;have:d.st∈l5 (c_ p l).D:=kF (G4.2 ⟨hd,hl⟩);simpa using this
theorem Cj (h:J5 p=true)(l:List Int):J5 (c_ p l)=true:=by
 unfold J5 V1 at h⊢;simp only[p9,E0]at h⊢;obtain⟨h1,⟨h2,h3,h4,h5,h6,h7,h8,h9,h10⟩,h11,h12,h13,h14⟩:=h;refine⟨all_filter h1,⟨j9 (L3 _ _) h2,all_filter h3,Lx qy _ h4,j9 (L3 _ _) h5,all_filter h6,Lx qi _ h7,j9 (L3 _ _) h8,all_filter h9,Lx BM _ h10⟩,Lx BI _ h11,?_,?_,?_⟩
 ·refine Z6.2 (fun x hx=> ?_);obtain⟨m1,m2⟩:=G4.1 hx;have:=Z6.1 h12 x m1;rw[p9]at this m2⊢;exact⟨I0 this.1 m2.1,I0 this.2 m2.2⟩
 ·refine Z6.2 (fun x hx=> ?_);obtain⟨m1,m2⟩:=G4.1 hx;have:=Z6.1 h13 x m1;rw[p9]at this m2⊢;exact⟨I0 this.1 m2.1,I0 this.2 m2.2⟩
 ·refine Z6.2 (fun x hx=> ?_);obtain⟨m1,m2⟩:=G4.1 hx;exact I0 (Z6.1 h14 x m1) m2
theorem Dv (h:P0 p)(l:List Int):P0 (c_ p l):=
 ⟨j9 (L3 _ _) h.d,fun x hx=>h.ch x (G4.1 hx).1,j9 (L3 _ _) h.pr,j9 (L3 _ _) h.ld,j9 (L3 _ _) h.cp⟩
theorem pO (h:W0 p xs=true)(h0:(c_ p xs).D.length=0):xs= []:=by
 cases xs with
 | nil=>rfl
 | cons x xs=>
  have h1:=I0 (l:=x::xs) (Z6.1 h x N3) (by simp);unfold y8 l5 at h1;rw[cR.1 h0]at h1;simp at h1
theorem SM (h:C1 [] ls=true):ls= [[]]:=by
 unfold C1 at h;simp only[p9,E0]at h;obtain⟨⟨⟨-,h1⟩,-⟩,h2⟩:=h
 have hg: ∀i,i<ls.length→ls.getD i []= []∧i+1=ls.length:=fun i hi=>by
  have h3:=Z6.1 h2 i (Gj.2 hi);unfold Im mX at h3;simp only[p9,beq_iff_eq]at h3;obtain⟨⟨-,h4⟩,h5⟩:=h3
  have h6:ls.getD i []= []:=by
   cases e:ls.getD i []with
   | nil=>rfl
   | cons y t=>
    rw[e]at h5;simp at h5
  refine⟨h6,?_⟩;rw[h6]at h4;simpa using h4.symm
 have hn:=(hg 0 (by omega)).2
 match ls,hn,hg with
 | [g],_,hg=>
  have:=(hg 0 (by simp)).1;simp at this;rw[this]
theorem XE.soZ {cap:Nat}(h:XE w0 w nb sp tb g cap p ms cf)(h0:p.D.length=0)(hc:ms.length≤cap∧cap≤maxLen):XD w nb sp tb p:=by
 have u_:cf=false:=by
  cases cf with
  | false=>rfl
  | true=>
   obtain⟨k,hk,-⟩:=h.sb;omega
 subst u_;have bE:ms.length=0:=by rw[h.st.len,h0]
 have hb:=h.st.st;rw[bE]at hb;exact⟨⟨_,_,hc.2,hb⟩,⟨h.bk.lt,fun s hs=>(h.bk.cell s).trans (jl _ _ hs)⟩,(h.bk.cell 512).trans (aG _ _ 0),(h.bk.cell 513).trans (aG _ _ 1)⟩
theorem AH {cap:Nat}{q:Px}{vs vp vc vi vf VL:Value}(hu:xL w0 tb q vs vp vc vi vf)(hn:Dz q.D)(h:XE w0 w nb sp tb g cap q ms cf)(LS:List (List Cx))(hL:C8 2 Cx.cells Cx.Fit w0 VL LS)(Bo: ∀x∈LS,x.length≤100000)(J3:C1 xs LS=true)(hq:q=c_ p xs)(ha:W0 p xs=true):Calls Tryz.prog 93 #[.pointer (some ⟨nb,0,none⟩),VL] w (zN w0 q LS):=by
 by_cases h0:0<q.D.length
 ·refine wF hu hn (h.soO h0) LS hL ?_ Bo;unfold C1 at J3;simp only[p9,E0]at J3;exact J3.1.2
 ·have h1:q.D.length=0:=by omega
  have hx:xs= []:=pO ha (by rw[←hq];exact h1);subst hx;have:=SM J3;subst this;exact pW hu.hp hn h1 (h.soZ h1 (h.st.lb.reads.cap)) h.st.t0 hL
def qk8 (p:Px)(xs:List Int)(ls:List (List Cx))(w:World)(r:Ending)(w':World):Prop:=
 ((J5 p&&C1 xs ls)=false∧r= .returned (.tuple #[.pointer none,.int .i64 2])∧z6 [] w w')∨
 (J5 p=true∧C1 xs ls=true∧W0 p xs=false∧r= .returned (.tuple #[.pointer none,.int .i64 9])∧z6 [] w w')∨
 (J5 p=true∧C1 xs ls=true∧W0 p xs=true∧ ∃(w0:World) (nb sp tb g cap:Nat) (ms:List Nat) (cf:Bool) (vs vp vc vi vf:Value),r= .returned (.tuple #[.pointer (some ⟨nb,0,none⟩),.int .i64 0])∧z6 [] w w0∧xL w0 tb (c_ p xs) vs vp vc vi vf∧XE w0 w' nb sp tb g cap (c_ p xs) ms cf)
theorem Fp (h:C1 xs ls=true):Fa xs=true:=by
 unfold C1 at h;simp only[p9]at h;exact h.1.1.1
theorem BO (p:Px)(VD VP VL VC VS VM:Value)(xs:List Int)(ls:List (List Cx))(w:World)(h:K3 w VD VP VL VC p)(hl:P0 p)(jO:Y1 w)(hS:e8 w VS xs)(hM:C8 2 Cx.cells Cx.Fit w VM ls)(Ks:xs.length≤100000)(T3:ls.length≤100000)(Bo: ∀x∈ls,x.length≤100000):Calls Tryz.prog 92 #[.agg #[VD,VP,VL,VC],.agg #[VS,VM]] w (qk8 p xs ls w):=by
 have HV:=p7 (fun W t=>Di p VD VP VL VC W (h.q8 t) hl);have HX:=p7 (fun W t=>vV VS VM xs ls W (hS.q8 t) (hM.q8 t) Ks T3 Bo);have N_:=O (fun(e1:J5 p=true) (e2:Fa xs=true) (e3:W0 p xs=false) (W:World) (t:z6 [] w W)=>Rh p VD VP VL VC VS xs W (h.q8 t) hl (hS.q8 t) Ks e1 e2 e3);have HRO:=O (fun(e1:J5 p=true) (e2:Fa xs=true) (e3:W0 p xs=true) (W:World) (t:z6 [] w W)=>Yq p VD VP VL VC VS xs W (h.q8 t) hl (hS.q8 t) Ks e1 e2 e3);have QM:=O (fun(e1:J5 p=true) (W:World) (vD vP vL vC:Value) (hq:K3 W vD vP vL vC (c_ p xs)) (t:z6 [] w W)=>LY (c_ p xs) vD vP vL vC W hq (Dv hl xs) (jO.q8 t));have mr:=O (fun(e1:J5 p=true)=>Cj e1 xs);obtain⟨AD,cD,rfl,-,-⟩:=h.d.form;obtain⟨AP,cP,rfl⟩:=h.pr.form;obtain⟨AL,cL,rfl⟩:=h.ld.form;obtain⟨AC,cC,rfl⟩:=h.cp.form;obtain⟨AS,cS,rfl⟩:=hS.form;obtain⟨AM,cM,rfl⟩:=hM.form;have b0:=j4.new w 29 #[.slice AD p.D.length cD,.slice AP p.R.P.length cP,.slice AL p.R.L.length cL,.slice AC p.R.C.length cC];have t0:=((z8 [] w).alloc (.cells #[.slice AD p.D.length cD,.slice AP p.R.P.length cP,.slice AL p.R.L.length cL,.slice AC p.R.C.length cC] 29)).alloc (.cells #[.slice AS xs.length cS,.slice AM ls.length cM] 35);have b1:=j4.new (w.alloc (.cells #[.slice AD p.D.length cD,.slice AP p.R.P.length cP,.slice AL p.R.L.length cL,.slice AC p.R.C.length cC] 29)) 35 #[.slice AS xs.length cS,.slice AM ls.length cM];have b2:=b0.alloc (.cells #[.slice AS xs.length cS,.slice AM ls.length cM] 35);simp only[World.size_alloc]at b1;have HC:Hid (∀W',z6 [] ((w.alloc (.cells #[.slice AD p.D.length cD,.slice AP p.R.P.length cP,.slice AL p.R.L.length cL,.slice AC p.R.C.length cC] 29)).alloc (.cells #[.slice AS xs.length cS,.slice AM ls.length cM] 35)) W'→(W'.cell? ⟨w.heap.size,0,none⟩=some (.slice AD p.D.length cD)∧W'.cell? ⟨w.heap.size,1,none⟩=some (.slice AP p.R.P.length cP)∧W'.cell? ⟨w.heap.size,2,none⟩=some (.slice AL p.R.L.length cL)∧W'.cell? ⟨w.heap.size,3,none⟩=some (.slice AC p.R.C.length cC))∧W'.cell? ⟨w.heap.size+1,0,none⟩=some (.slice AS xs.length cS)∧W'.cell? ⟨w.heap.size+1,1,none⟩=some (.slice AM ls.length cM)):=O (fun W' t=>⟨⟨((b2.z7 t (by simp)).cell 0).trans rfl,((b2.z7 t (by simp)).cell 1).trans rfl,((b2.z7 t (by simp)).cell 2).trans rfl,((b2.z7 t (by simp)).cell 3).trans rfl⟩,((b1.z7 t (by simp)).cell 0).trans rfl,((b1.z7 t (by simp)).cell 1).trans rfl⟩);have m9:=O t0;clear h hl jO b0 b1 b2 t0 hS hM Ks T3 Bo;go_enter Tryz.func92,Tryz.ntmps92;go_upto_region 1 with fail
 generalize (w.alloc _).alloc _=wa at HC m9⊢;obtain⟨⟨c0,c1,c2,c3⟩,d0,d1⟩:=HC.o _ (z8 [] _);go_wp2_with fail;refine(HV.o _ m9.o).mono ?_;rintro r w1 ⟨rfl,t1⟩;have J6:=O (m9.o.Y t1);have V0:=O t1;clear c0 c1 c2 c3 d0 d1 t1
 cases J3:J5 p with
 | false=>
  have Y7:=O J3;clear J3;go_wp2_with fail;go_ret2;exact .inl ⟨by rw[Y7.o];rfl,rfl,J6.o⟩
 | true=>
  have Y7:=O J3;clear J3;obtain⟨⟨c0,c1,c2,c3⟩,d0,d1⟩:=HC.o _ V0.o;go_wp2_with fail;refine(HX.o _ J6.o).mono ?_;rintro r w2 ⟨rfl,t2⟩;have B4:=O (J6.o.Y t2);have Vu:=O (V0.o.Y t2);clear c0 c1 c2 c3 d0 d1 t2 V0
  cases PI:C1 xs ls with
  | false=>
   have ml:=O PI;clear PI;go_wp2_with fail;go_ret2;exact .inl ⟨by rw[Y7.o,ml.o];rfl,rfl,B4.o⟩
  | true=>
   have ml:=O PI;clear PI;obtain⟨⟨c0,c1,c2,c3⟩,d0,d1⟩:=HC.o _ Vu.o
   cases xJ:W0 p xs with
   | false=>
    have xB:=O xJ;have Na:=N_.o Y7.o (Fp ml.o) xJ w2 B4.o;unfold Q3 at Na;have rG:=O Na;clear Na;clear xJ;go_wp2_with fail;refine rG.o.mono ?_;rintro r w3 ⟨rfl,t3⟩;have V3:=O (B4.o.Y t3);clear t3 c0 c1 c2 c3 d0 d1;go_wp2_with fail;go_ret2;exact .inr (.inl ⟨Y7.o,ml.o,xB.o,rfl,V3.o.alloc _⟩)
   | true=>
    have xB:=O xJ;have rG:=O (HRO.o Y7.o (Fp ml.o) xJ w2 B4.o);clear xJ;go_wp2_with fail;refine rG.o.mono ?_;rintro r w3 ⟨vD,vP,vL,vC,rfl,hq,t3⟩;obtain⟨A1,k1,rfl,-,-⟩:=hq.d.form;obtain⟨A2,k2,rfl⟩:=hq.pr.form;obtain⟨A3,k3,rfl⟩:=hq.ld.form;obtain⟨A4,k4,rfl⟩:=hq.cp.form;have TA:=(z8 [] w3).alloc (.cells #[.slice A1 (c_ p xs).D.length k1,.slice A2 (c_ p xs).R.P.length k2,.slice A3 (c_ p xs).R.L.length k3,.slice A4 (c_ p xs).R.C.length k4] 29);have V3:=O (B4.o.Y (t3.Y TA));have BX:=j4.new w3 29 #[.slice A1 (c_ p xs).D.length k1,.slice A2 (c_ p xs).R.P.length k2,.slice A3 (c_ p xs).R.L.length k3,.slice A4 (c_ p xs).R.C.length k4];obtain⟨e0,e1,e2,e3⟩:=BX.F2;have Sz:=O (QM.o Y7.o _ _ _ _ _ (hq.q8 TA) V3.o);clear t3 c0 c1 c2 c3 d0 d1 hq TA BX;go_wp2_with fail;refine Sz.o.mono ?_;rintro r w4 (⟨Iz,rfl,t4⟩ | ⟨-,w0,nb,sp,tb,g,cap,ms,cf,vs,vp,vc,vi,vf,rfl,t4,t5,hu,hq⟩)
    ·exact absurd (mr.o Y7.o) (by rw[Iz];decide)
    ·have aB:Hid (z6 [] w w0∧xL w0 tb (c_ p xs) vs vp vc vi vf∧XE w0 w4 nb sp tb g cap (c_ p xs) ms cf):=O ⟨V3.o.Y t4,hu,hq⟩;clear t4 t5 hu hq e0 e1 e2 e3;go_wp2_with fail;go_ret2;exact .inr (.inr ⟨Y7.o,ml.o,xB.o,w0,nb,sp,tb,g,cap,ms,cf,vs,vp,vc,vi,vf,rfl,aB.o⟩)
def zP (p:Px)(xs:List Int)(ls:List (List Cx))(w:World)(r:Ending)(w':World):Prop:=
 z6 [] w w'∧(((J5 p&&C1 xs ls)=false∧r= .returned (.tuple #[.int .i64 0,.int .i64 2]))∨
 (J5 p=true∧C1 xs ls=true∧W0 p xs=false∧r= .returned (.tuple #[.int .i64 0,.int .i64 9]))∨
 (J5 p=true∧C1 xs ls=true∧W0 p xs=true∧ ∃k:Nat,r= .returned (.tuple #[.int .i64 k,.int .i64 0])∧Dt (c_ p xs) ls k))
def KH (p:Px)(xs:List Int)(ls:List (List Cx))(w:World)(r:Ending)(w':World):Prop:=
 z6 [] w w'∧(((J5 p&&C1 xs ls)=false∧r= .returned (.int .i64 2))∨
 (J5 p=true∧C1 xs ls=true∧W0 p xs=false∧r= .returned (.int .i64 9))∨
 (J5 p=true∧C1 xs ls=true∧W0 p xs=true∧ ∃k:Nat,Dt (c_ p xs) ls k∧r= .returned (.int .i64 (if k<ls.length then 10 else 0))))
theorem zr (p:Px)(VD VP VL VC VS VM:Value)(xs:List Int)(ls:List (List Cx))(w:World)(h:K3 w VD VP VL VC p)(hl:P0 p)(jO:Y1 w)(hS:e8 w VS xs)(hM:C8 2 Cx.cells Cx.Fit w VM ls)(Ks:xs.length≤100000)(T3:ls.length≤100000)(Bo: ∀x∈ls,x.length≤100000):Calls Tryz.prog 48 #[.agg #[VD,VP,VL,VC],.agg #[VS,VM]] w (zP p xs ls w):=by
 have HB:=p7 (fun W t=>BO p VD VP VL VC VS VM xs ls W (h.q8 t) hl (jO.q8 t) (hS.q8 t) (hM.q8 t) Ks T3 Bo);have HH:=O (fun(e0:J5 p=true) (e1:C1 xs ls=true) (e2:W0 p xs=true) (w0 W:World) (nb sp tb g cap:Nat) (ms:List Nat) (cf:Bool) (vs vp vc vi vf:Value) (t0:z6 [] w w0) (hu:xL w0 tb (c_ p xs) vs vp vc vi vf) (hq:XE w0 W nb sp tb g cap (c_ p xs) ms cf)=>AH hu (Cg (Cj e0 xs)) hq ls (hM.q8 t0) Bo e1 rfl e2);obtain⟨AD,cD,rfl,-,-⟩:=h.d.form;obtain⟨AP,cP,rfl⟩:=h.pr.form;obtain⟨AL,cL,rfl⟩:=h.ld.form;obtain⟨AC,cC,rfl⟩:=h.cp.form;obtain⟨AS,cS,rfl⟩:=hS.form;obtain⟨AM,cM,rfl⟩:=hM.form;have b0:=j4.new w 29 #[.slice AD p.D.length cD,.slice AP p.R.P.length cP,.slice AL p.R.L.length cL,.slice AC p.R.C.length cC];have t0:=((z8 [] w).alloc (.cells #[.slice AD p.D.length cD,.slice AP p.R.P.length cP,.slice AL p.R.L.length cL,.slice AC p.R.C.length cC] 29)).alloc (.cells #[.slice AS xs.length cS,.slice AM ls.length cM] 35);have b1:=j4.new (w.alloc (.cells #[.slice AD p.D.length cD,.slice AP p.R.P.length cP,.slice AL p.R.L.length cL,.slice AC p.R.C.length cC] 29)) 35 #[.slice AS xs.length cS,.slice AM ls.length cM];have b2:=b0.alloc (.cells #[.slice AS xs.length cS,.slice AM ls.length cM] 35);simp only[World.size_alloc]at b1;have HC:Hid (∀W',z6 [] ((w.alloc (.cells #[.slice AD p.D.length cD,.slice AP p.R.P.length cP,.slice AL p.R.L.length cL,.slice AC p.R.C.length cC] 29)).alloc (.cells #[.slice AS xs.length cS,.slice AM ls.length cM] 35)) W'→(W'.cell? ⟨w.heap.size,0,none⟩=some (.slice AD p.D.length cD)∧W'.cell? ⟨w.heap.size,1,none⟩=some (.slice AP p.R.P.length cP)∧W'.cell? ⟨w.heap.size,2,none⟩=some (.slice AL p.R.L.length cL)∧W'.cell? ⟨w.heap.size,3,none⟩=some (.slice AC p.R.C.length cC))∧W'.cell? ⟨w.heap.size+1,0,none⟩=some (.slice AS xs.length cS)∧W'.cell? ⟨w.heap.size+1,1,none⟩=some (.slice AM ls.length cM)):=O (fun W' t=>⟨⟨((b2.z7 t (by simp)).cell 0).trans rfl,((b2.z7 t (by simp)).cell 1).trans rfl,((b2.z7 t (by simp)).cell 2).trans rfl,((b2.z7 t (by simp)).cell 3).trans rfl⟩,((b1.z7 t (by simp)).cell 0).trans rfl,((b1.z7 t (by simp)).cell 1).trans rfl⟩);have m9:=O t0;clear h hl jO b0 b1 b2 t0 hS hM Ks T3 Bo;go_enter Tryz.func48,Tryz.ntmps48;go_upto_region 1 with fail
 generalize (w.alloc _).alloc _=wa at HC m9⊢;obtain⟨⟨c0,c1,c2,c3⟩,d0,d1⟩:=HC.o _ (z8 [] _);go_wp2_with fail;refine(HB.o _ m9.o).mono ?_;rintro r w1 (⟨e1,rfl,t1⟩ | ⟨e1,e2,e3,rfl,t1⟩ | ⟨e1,e2,e3,w0,nb,sp,tb,g,cap,ms,cf,vs,vp,vc,vi,vf,rfl,t1,hu,hq⟩)
 ·have HX:=O (And.intro e1 (m9.o.Y t1));clear e1 t1 c0 c1 c2 c3 d0 d1;go_wp2_with fail;go_ret2;exact⟨HX.o.2,.inl ⟨HX.o.1,rfl⟩⟩
 ·have HX:=O (And.intro (And.intro e1 (And.intro e2 e3)) (m9.o.Y t1));clear e1 e2 e3 t1 c0 c1 c2 c3 d0 d1;go_wp2_with fail;go_ret2;exact⟨HX.o.2,.inr (.inl ⟨HX.o.1.1,HX.o.1.2.1,HX.o.1.2.2,rfl⟩)⟩
 ·have HX:=O (And.intro (And.intro e1 (And.intro e2 e3)) (m9.o.Y t1));have HHO:=O (HH.o e1 e2 e3 w0 w1 nb sp tb g cap ms cf vs vp vc vi vf (m9.o.Y t1) hu hq);clear c0 c1 c2 c3 d0 d1;obtain⟨-,-,d1⟩:=HC.o w1 (t1.Y hq.st.t0);clear e1 e2 e3 t1 hu hq;go_wp2_with fail;refine HHO.o.mono ?_;rintro r w2 ⟨k,rfl,hk,t2⟩;have HK:=O (And.intro hk t2);clear hk t2 d1;go_wp2_with fail;go_ret2;exact⟨HX.o.2.Y HK.o.2,.inr (.inr ⟨HX.o.1.1,HX.o.1.2.1,HX.o.1.2.2,k,rfl,HK.o.1⟩)⟩
theorem jE (p:Px)(VD VP VL VC VS VM:Value)(xs:List Int)(ls:List (List Cx))(w:World)(h:K3 w VD VP VL VC p)(hl:P0 p)(jO:Y1 w)(hS:e8 w VS xs)(hM:C8 2 Cx.cells Cx.Fit w VM ls)(Ks:xs.length≤100000)(T3:ls.length≤100000)(Bo: ∀x∈ls,x.length≤100000):Calls Tryz.prog 21 #[.agg #[VD,VP,VL,VC],.agg #[VS,VM]] w (KH p xs ls w):=by
 have HB:=p7 (fun W t=>zr p VD VP VL VC VS VM xs ls W (h.q8 t) hl (jO.q8 t) (hS.q8 t) (hM.q8 t) Ks T3 Bo);obtain⟨AD,cD,rfl,-,-⟩:=h.d.form;obtain⟨AP,cP,rfl⟩:=h.pr.form;obtain⟨AL,cL,rfl⟩:=h.ld.form;obtain⟨AC,cC,rfl⟩:=h.cp.form;obtain⟨AS,cS,rfl⟩:=hS.form;obtain⟨AM,cM,rfl⟩:=hM.form;have b0:=j4.new w 29 #[.slice AD p.D.length cD,.slice AP p.R.P.length cP,.slice AL p.R.L.length cL,.slice AC p.R.C.length cC];have t0:=((z8 [] w).alloc (.cells #[.slice AD p.D.length cD,.slice AP p.R.P.length cP,.slice AL p.R.L.length cL,.slice AC p.R.C.length cC] 29)).alloc (.cells #[.slice AS xs.length cS,.slice AM ls.length cM] 35);have b1:=j4.new (w.alloc (.cells #[.slice AD p.D.length cD,.slice AP p.R.P.length cP,.slice AL p.R.L.length cL,.slice AC p.R.C.length cC] 29)) 35 #[.slice AS xs.length cS,.slice AM ls.length cM];have b2:=b0.alloc (.cells #[.slice AS xs.length cS,.slice AM ls.length cM] 35);simp only[World.size_alloc]at b1;have HC:Hid (∀W',z6 [] ((w.alloc (.cells #[.slice AD p.D.length cD,.slice AP p.R.P.length cP,.slice AL p.R.L.length cL,.slice AC p.R.C.length cC] 29)).alloc (.cells #[.slice AS xs.length cS,.slice AM ls.length cM] 35)) W'→(W'.cell? ⟨w.heap.size,0,none⟩=some (.slice AD p.D.length cD)∧W'.cell? ⟨w.heap.size,1,none⟩=some (.slice AP p.R.P.length cP)∧W'.cell? ⟨w.heap.size,2,none⟩=some (.slice AL p.R.L.length cL)∧W'.cell? ⟨w.heap.size,3,none⟩=some (.slice AC p.R.C.length cC))∧W'.cell? ⟨w.heap.size+1,0,none⟩=some (.slice AS xs.length cS)∧W'.cell? ⟨w.heap.size+1,1,none⟩=some (.slice AM ls.length cM)):=O (fun W' t=>⟨⟨((b2.z7 t (by simp)).cell 0).trans rfl,((b2.z7 t (by simp)).cell 1).trans rfl,((b2.z7 t (by simp)).cell 2).trans rfl,((b2.z7 t (by simp)).cell 3).trans rfl⟩,((b1.z7 t (by simp)).cell 0).trans rfl,((b1.z7 t (by simp)).cell 1).trans rfl⟩);have m9:=O t0;clear h hl jO b0 b1 b2 t0 hS hM Ks T3 Bo;go_enter Tryz.func21,Tryz.ntmps21;go_upto_region 1 with fail
 generalize (w.alloc _).alloc _=wa at HC m9⊢;obtain⟨⟨c0,c1,c2,c3⟩,d0,d1⟩:=HC.o _ (z8 [] _);go_wp2_with fail;refine(HB.o _ m9.o).mono ?_;rintro r w1 ⟨t1,(⟨e1,rfl⟩ | ⟨e1,e2,e3,rfl⟩ | ⟨e1,e2,e3,k,rfl,hk⟩)⟩
 ·have HX:=O (And.intro e1 (m9.o.Y t1));clear e1 t1 c0 c1 c2 c3 d0 d1;go_wp2_with fail;go_ret;exact⟨HX.o.2,.inl ⟨HX.o.1,rfl⟩⟩
 ·have HX:=O (And.intro (And.intro e1 (And.intro e2 e3)) (m9.o.Y t1));clear e1 e2 e3 t1 c0 c1 c2 c3 d0 d1;go_wp2_with fail;go_ret;exact⟨HX.o.2,.inr (.inl ⟨HX.o.1.1,HX.o.1.2.1,HX.o.1.2.2,rfl⟩)⟩
 ·have HX:=O (And.intro (And.intro e1 (And.intro e2 e3)) (m9.o.Y t1));have HK:=O hk;clear c0 c1 c2 c3 d0 d1;obtain⟨-,-,d1⟩:=HC.o w1 t1;clear e1 e2 e3 t1 hk;by_cases I1:k<ls.length
  ·have qc2:(k:Int)< (ls.length:Int):=by omega
   go_wp2_with fail;go_ret;exact⟨HX.o.2,.inr (.inr ⟨HX.o.1.1,HX.o.1.2.1,HX.o.1.2.2,k,HK.o,by rw[x9 I1];rfl⟩)⟩
  ·have qc2: ¬(k:Int)< (ls.length:Int):=by omega
   go_wp2_with fail;go_ret;exact⟨HX.o.2,.inr (.inr ⟨HX.o.1.1,HX.o.1.2.1,HX.o.1.2.2,k,HK.o,by rw[z9 I1];rfl⟩)⟩
end Go.Proofs.YtlhlmcohdkkjpaaGreatDoor
