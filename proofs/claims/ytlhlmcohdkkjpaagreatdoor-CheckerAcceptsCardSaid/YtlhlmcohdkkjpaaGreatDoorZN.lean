/- Layer 17, the document: what Restrict builds. -/
import Derived.Test.YtlhlmcohdkkjpaaGreatDoorZM
import Derived.Deep.CutBlock
set_option linter.all false
set_option maxHeartbeats 64000000
set_option maxRecDepth 100000
namespace Go.Proofs.YtlhlmcohdkkjpaaGreatDoor
open Go.RowKit
def Mm (w0 w:World)(v:Value)(ds:List Dx):Prop:= ∃K1:List Value,K1.length=ds.length∧Own w 75 2 v ds.length ((ds.zip K1).flatMap Gi)∧ ∀(j:Nat) d c,ds[j]? =some d→K1[j]? =some c→Fits d.st∧e8 w0 c d.ch
variable{cin:Array Value}{d:Dx}{ds:List Dx}{l:List Int}{K1:List Value}{g gr g8 k:Nat}{p:Px}{v c:Value}{w w0 w':World}
theorem Mm.Ms (h:Mm w0 w v ds)(t:z6 [] w0 w):C0 w v ds:=by
 obtain⟨K1,h1,h2,h3⟩:=h;exact⟨K1,h1,h2.reads,fun j d c hd hc=>⟨(h3 j d c hd hc).1,(h3 j d c hd hc).2.q8 t⟩⟩
theorem Mm.nil (w0 w:World):Mm w0 w Q3 []:=⟨[],rfl,Own.nil _ _ _,fun j d c h=>by simp at h⟩
theorem Mm.z7 {L:List Nat}(h:Mm w0 w v ds)(t:z6 L w w')(hk: ∀b∈L,∃k,Kd w b k∧k≠3∧k≠75):Mm w0 w' v ds:=by
 obtain⟨K1,h1,h2,h3⟩:=h;exact⟨K1,h1,h2.v7 t (fun b hb=>by obtain⟨k,q1,q2,q3⟩:=hk b hb;exact⟨k,q1,q3⟩),h3⟩
theorem Mm.push {v':Value}(h1:K1.length=ds.length)(h3: ∀(j:Nat) d c,ds[j]? =some d→K1[j]? =some c→Fits d.st∧e8 w0 c d.ch)(hf:Fits d.st)(hc:e8 w0 c d.ch)(ho:Own w' 75 2 v' (ds.length+1) ((ds.zip K1).flatMap Gi++Gi (d,c))):Mm w0 w' v' (ds++ [d]):=by
 refine⟨K1++ [c],by simp[h1],?_,fun j d' c' hd gR=> ?_⟩
 ·rw[tJ h1,Tz,Ec];simpa using ho
 ·by_cases hj:j<ds.length
  ·rw[Ty hj]at hd;rw[Ty (by omega)]at gR;exact h3 j d' c' hd gR
  ·have qL:j=ds.length:=by
    have:=(U4.1 hd).1;simp at this;omega
   subst qL;rw[kI]at hd;rw[←h1,kI]at gR;injection hd with hd;injection gR with gR;subst hd gR;exact⟨hf,hc⟩
structure Bu (w:World)(g gr g8:Nat)(cin:Array Value)(wr:World)(vD vP vL vC:Value)(ds:List Dx)(ps ls:List Q5)(cs:List Q4):Prop where
 lo:w.heap.size≤g8
 Fb:z6 [] w wr
 Sq:j4 wr g 29 cin
 n9:j4 wr gr 29 #[Q3,Q3,Q3,Q3]
 ne:g≠g8∧gr≠g8
 q:j4 wr g8 29 #[vD,vP,vL,vC]
 d:Mm w wr vD ds
 pr:Own wr 79 5 vP ps.length (ps.flatMap Q5.cells)
 ld:Own wr 81 5 vL ls.length (ls.flatMap Q5.cells)
 cp:Own wr 83 4 vC cs.length (cs.flatMap Q4.cells)
 fd: ∀b∈m5 vD,w.heap.size≤b
 fp: ∀b∈m5 vP,w.heap.size≤b
 fl: ∀b∈m5 vL,w.heap.size≤b
 fc: ∀b∈m5 vC,w.heap.size≤b
section
variable {w wr w':World}{g gr g8:Nat}{cin:Array Value}{vD vP vL vC v':Value}{ds:List Dx}{ps ls:List Q5}{cs:List Q4}{L:List Nat}
theorem Bu.q8 (h:Bu w g gr g8 cin wr vD vP vL vC ds ps ls cs)(t:z6 [] wr w'):Bu w g gr g8 cin w' vD vP vL vC ds ps ls cs:=
 ⟨h.lo,h.Fb.Y t,h.Sq.z7 t (by simp),h.n9.z7 t (by simp),h.ne,h.q.z7 t (by simp),h.d.z7 t (fun b hb=>by cases hb),h.pr.q8 t,h.ld.q8 t,h.cp.q8 t,h.fd,h.fp,h.fl,h.fc⟩
theorem Bu.GS (h:Bu w g gr g8 cin wr vD vP vL vC ds ps ls cs)(x:Q5)(ho:Own w' 79 5 v' (ps.length+1) (ps.flatMap Q5.cells++Q5.cells x))(t:z6 (m5 vP) wr w')(f:S2 wr vP v'):Bu w g gr g8 cin (w'.setCell ⟨g8,1,none⟩ v') vD v' vL vC ds (ps++ [x]) ls cs:=by
 have hk: ∀b∈m5 vP,Kd wr b 79:=h.pr.kd;have q':=h.q.v7 t (fun b hb=>⟨_,hk b hb,by decide⟩);have t2:z6 [g8] w' (w'.setCell ⟨g8,1,none⟩ v'):=(z8 _ _).setCell (.inl (by simp)) _;have V9: ∀b∈ [g8],Kd w' b 29:=fun b hb=>by rw[y7]at hb;subst hb;exact q'.kd
 refine⟨h.lo,(h.Fb.step t (fun m hm=> .inr (h.fp m hm))).step t2 (fun m hm=> .inr (by rw[y7]at hm;rw[hm];exact h.lo)),(h.Sq.v7 t (fun b hb=>⟨_,hk b hb,by decide⟩)).z7 t2 (by simpa using h.ne.1),(h.n9.v7 t (fun b hb=>⟨_,hk b hb,by decide⟩)).z7 t2 (by simpa using h.ne.2),h.ne,?_,?_,?_,?_,?_,h.fd,fun b hb=> ?_,h.fl,h.fc⟩
 ·exact q'.V8 1 v'
 ·exact(h.d.z7 t (fun b hb=>⟨_,hk b hb,by decide,by decide⟩)).z7 t2 (fun b hb=>⟨_,V9 b hb,by decide,by decide⟩)
 ·rw[Ec,Tz];have:=ho.v7 t2 (fun b hb=>⟨_,V9 b hb,by decide⟩);simpa using this
 ·exact(h.ld.v7 t (fun b hb=>⟨_,hk b hb,by decide⟩)).v7 t2 (fun b hb=>⟨_,V9 b hb,by decide⟩)
 ·exact(h.cp.v7 t (fun b hb=>⟨_,hk b hb,by decide⟩)).v7 t2 (fun b hb=>⟨_,V9 b hb,by decide⟩)
 ·rcases f b hb with h1 | h1
  ·exact h.fp b h1
  ·have:=h.Fb.size;omega
theorem Bu.GU (h:Bu w g gr g8 cin wr vD vP vL vC ds ps ls cs)(x:Q5)(ho:Own w' 81 5 v' (ls.length+1) (ls.flatMap Q5.cells++Q5.cells x))(t:z6 (m5 vL) wr w')(f:S2 wr vL v'):Bu w g gr g8 cin (w'.setCell ⟨g8,2,none⟩ v') vD vP v' vC ds ps (ls++ [x]) cs:=by
 have hk: ∀b∈m5 vL,Kd wr b 81:=h.ld.kd;have q':=h.q.v7 t (fun b hb=>⟨_,hk b hb,by decide⟩);have t2:z6 [g8] w' (w'.setCell ⟨g8,2,none⟩ v'):=(z8 _ _).setCell (.inl (by simp)) _;have V9: ∀b∈ [g8],Kd w' b 29:=fun b hb=>by rw[y7]at hb;subst hb;exact q'.kd
 refine⟨h.lo,(h.Fb.step t (fun m hm=> .inr (h.fl m hm))).step t2 (fun m hm=> .inr (by rw[y7]at hm;rw[hm];exact h.lo)),(h.Sq.v7 t (fun b hb=>⟨_,hk b hb,by decide⟩)).z7 t2 (by simpa using h.ne.1),(h.n9.v7 t (fun b hb=>⟨_,hk b hb,by decide⟩)).z7 t2 (by simpa using h.ne.2),h.ne,?_,?_,?_,?_,?_,h.fd,h.fp,fun b hb=> ?_,h.fc⟩
 ·exact q'.V8 2 v'
 ·exact(h.d.z7 t (fun b hb=>⟨_,hk b hb,by decide,by decide⟩)).z7 t2 (fun b hb=>⟨_,V9 b hb,by decide,by decide⟩)
 ·exact(h.pr.v7 t (fun b hb=>⟨_,hk b hb,by decide⟩)).v7 t2 (fun b hb=>⟨_,V9 b hb,by decide⟩)
 ·rw[Ec,Tz];have:=ho.v7 t2 (fun b hb=>⟨_,V9 b hb,by decide⟩);simpa using this
 ·exact(h.cp.v7 t (fun b hb=>⟨_,hk b hb,by decide⟩)).v7 t2 (fun b hb=>⟨_,V9 b hb,by decide⟩)
 ·rcases f b hb with h1 | h1
  ·exact h.fl b h1
  ·have:=h.Fb.size;omega
theorem Bu.GW (h:Bu w g gr g8 cin wr vD vP vL vC ds ps ls cs)(x:Q4)(ho:Own w' 83 4 v' (cs.length+1) (cs.flatMap Q4.cells++Q4.cells x))(t:z6 (m5 vC) wr w')(f:S2 wr vC v'):Bu w g gr g8 cin (w'.setCell ⟨g8,3,none⟩ v') vD vP vL v' ds ps ls (cs++ [x]):=by
 have hk: ∀b∈m5 vC,Kd wr b 83:=h.cp.kd;have q':=h.q.v7 t (fun b hb=>⟨_,hk b hb,by decide⟩);have t2:z6 [g8] w' (w'.setCell ⟨g8,3,none⟩ v'):=(z8 _ _).setCell (.inl (by simp)) _;have V9: ∀b∈ [g8],Kd w' b 29:=fun b hb=>by rw[y7]at hb;subst hb;exact q'.kd
 refine⟨h.lo,(h.Fb.step t (fun m hm=> .inr (h.fc m hm))).step t2 (fun m hm=> .inr (by rw[y7]at hm;rw[hm];exact h.lo)),(h.Sq.v7 t (fun b hb=>⟨_,hk b hb,by decide⟩)).z7 t2 (by simpa using h.ne.1),(h.n9.v7 t (fun b hb=>⟨_,hk b hb,by decide⟩)).z7 t2 (by simpa using h.ne.2),h.ne,?_,?_,?_,?_,?_,h.fd,h.fp,h.fl,fun b hb=> ?_⟩
 ·exact q'.V8 3 v'
 ·exact(h.d.z7 t (fun b hb=>⟨_,hk b hb,by decide,by decide⟩)).z7 t2 (fun b hb=>⟨_,V9 b hb,by decide,by decide⟩)
 ·exact(h.pr.v7 t (fun b hb=>⟨_,hk b hb,by decide⟩)).v7 t2 (fun b hb=>⟨_,V9 b hb,by decide⟩)
 ·exact(h.ld.v7 t (fun b hb=>⟨_,hk b hb,by decide⟩)).v7 t2 (fun b hb=>⟨_,V9 b hb,by decide⟩)
 ·rw[Ec,Tz];have:=ho.v7 t2 (fun b hb=>⟨_,V9 b hb,by decide⟩);simpa using this
 ·rcases f b hb with h1 | h1
  ·exact h.fc b h1
  ·have:=h.Fb.size;omega
theorem Bu.GV (h:Bu w g gr g8 cin wr vD vP vL vC ds ps ls cs)(h1:K1.length=ds.length)(hk: ∀b∈m5 vD,Kd wr b 75)(h3: ∀(j:Nat) d c,ds[j]? =some d→K1[j]? =some c→Fits d.st∧e8 w c d.ch)(I7:Fits d.st)(hc:e8 w c d.ch)(t:z6 (m5 vD) wr w')(f:S2 wr vD v')(ho:Own w' 75 2 v' (ds.length+1) ((ds.zip K1).flatMap Gi++Gi (d,c))):
  Bu w g gr g8 cin (w'.setCell ⟨g8,0,none⟩ v') v' vP vL vC (ds++ [d]) ps ls cs:=by
 have q':=h.q.v7 t (fun b hb=>⟨_,hk b hb,by decide⟩);have t2:z6 [g8] w' (w'.setCell ⟨g8,0,none⟩ v'):=(z8 _ _).setCell (.inl (by simp)) _;have V9: ∀b∈ [g8],Kd w' b 29:=fun b hb=>by rw[y7]at hb;subst hb;exact q'.kd
 refine⟨h.lo,(h.Fb.step t (fun m hm=> .inr (h.fd m hm))).step t2 (fun m hm=> .inr (by rw[y7]at hm;rw[hm];exact h.lo)),(h.Sq.v7 t (fun b hb=>⟨_,hk b hb,by decide⟩)).z7 t2 (by simpa using h.ne.1),(h.n9.v7 t (fun b hb=>⟨_,hk b hb,by decide⟩)).z7 t2 (by simpa using h.ne.2),h.ne,?_,?_,?_,?_,?_,fun b hb=> ?_,h.fp,h.fl,h.fc⟩
 ·exact q'.V8 0 v'
 ·exact(Mm.push h1 h3 I7 hc ho).z7 t2 (fun b hb=>⟨_,V9 b hb,by decide,by decide⟩)
 ·exact(h.pr.v7 t (fun b hb=>⟨_,hk b hb,by decide⟩)).v7 t2 (fun b hb=>⟨_,V9 b hb,by decide⟩)
 ·exact(h.ld.v7 t (fun b hb=>⟨_,hk b hb,by decide⟩)).v7 t2 (fun b hb=>⟨_,V9 b hb,by decide⟩)
 ·exact(h.cp.v7 t (fun b hb=>⟨_,hk b hb,by decide⟩)).v7 t2 (fun b hb=>⟨_,V9 b hb,by decide⟩)
 ·rcases f b hb with h1 | h1
  ·exact h.fd b h1
  ·have:=h.Fb.size;omega
theorem Bu.qa9 {VD VP VL VC:Value}(h:Bu w g gr g8 cin wr vD vP vL vC (p.D.filter (fun d=>l.contains d.st)) (p.R.P.filter (fun x=>l.contains x.a&&l.contains x.b)) (p.R.L.filter (fun x=>l.contains x.a&&l.contains x.b)) (p.R.C.filter (fun x=>l.contains x.a)))(hp:K3 w VD VP VL VC p)(hgr:w.heap.size≤gr)(t:z6 [gr] wr w'):K3 w' vD vP vL vC (c_ p l)∧z6 [] w w':=by
 have hk: ∀b∈ [gr],Kd wr b 29:=fun b hb=>by rw[y7]at hb;subst hb;exact h.n9.kd
 have ht:=h.Fb.step t (fun m hm=> .inr (by rw[y7]at hm;omega));exact⟨⟨(h.d.z7 t (fun b hb=>⟨_,hk b hb,by decide,by decide⟩)).Ms ht,⟨(h.pr.v7 t (fun b hb=>⟨_,hk b hb,by decide⟩)).reads,fun x hx=>hp.pr.2 x (G4.1 hx).1⟩,⟨(h.ld.v7 t (fun b hb=>⟨_,hk b hb,by decide⟩)).reads,fun x hx=>hp.ld.2 x (G4.1 hx).1⟩,⟨(h.cp.v7 t (fun b hb=>⟨_,hk b hb,by decide⟩)).reads,fun x hx=>hp.cp.2 x (G4.1 hx).1⟩⟩,ht⟩
end
theorem Bu.qj2 {wr:World}{vD vP vL vC:Value}{ps ls:List Q5}{cs:List Q4}(h:Bu w g gr g8 cin wr vD vP vL vC ds ps ls cs): ∃A cap,vD= .slice A ds.length cap:=by
 obtain⟨K1,h1,h2,h3⟩:=h.d;exact h2.form
theorem Bu.zero {wr:World}(lo:w.heap.size≤g8)(Fb:z6 [] w wr)(Sq:j4 wr g 29 cin)(n9:j4 wr gr 29 #[Q3,Q3,Q3,Q3])(ne:g≠g8∧gr≠g8)(q:j4 wr g8 29 #[Q3,Q3,Q3,Q3]):Bu w g gr g8 cin wr Q3 Q3 Q3 Q3 [] [] [] []:=
 ⟨lo,Fb,Sq,n9,ne,q,Mm.nil _ _,Own.nil _ _ _,Own.nil _ _ _,Own.nil _ _ _,fun b hb=>(by cases hb),fun b hb=>(by cases hb),fun b hb=>(by cases hb),fun b hb=>(by cases hb)⟩
def JZ (p:Px)(l:List Int)(w:World)(r:Ending)(w':World):Prop:=z6 [] w w'∧
 (((J5 p&&Fa l)=false∧r= .returned (.tuple #[.agg #[Q3,Q3,Q3,Q3],.int .i64 2]))∨
 (J5 p=true∧Fa l=true∧W0 p l=false∧r= .returned (.tuple #[.agg #[Q3,Q3,Q3,Q3],.int .i64 9]))∨
 (J5 p=true∧Fa l=true∧W0 p l=true∧ ∃vD vP vL vC,r= .returned (.tuple #[.agg #[vD,vP,vL,vC],.int .i64 0])∧K3 w' vD vP vL vC (c_ p l)))
def jh (w:World)(g gr g8:Nat)(cin:Array Value)(len:Nat)(F:Nat→List Dx×List Q5×List Q5×List Q4)(ti:Value)(wr:World):Prop:= ∃(k:Nat) (vD vP vL vC:Value),k≤len∧ti= .int .i64 (k:Int)∧Hid (Bu w g gr g8 cin wr vD vP vL vC (F k).1 (F k).2.1 (F k).2.2.1 (F k).2.2.2)
def fD (p:Px)(l:List Int)(k:Nat):List Dx:=(p.D.take k).filter (fun d=>l.contains d.st)
def fP (p:Px)(l:List Int)(k:Nat):List Q5:=(p.R.P.take k).filter (fun x=>l.contains x.a&&l.contains x.b)
def fL (p:Px)(l:List Int)(k:Nat):List Q5:=(p.R.L.take k).filter (fun x=>l.contains x.a&&l.contains x.b)
def fC (p:Px)(l:List Int)(k:Nat):List Q4:=(p.R.C.take k).filter (fun x=>l.contains x.a)
theorem UE (hk:k<p.D.length):fD p l (k+1)=if l.contains p.D[k].st then fD p l k++ [p.D[k]]else fD p l k:=F9 _ _ hk
theorem UC (hk:k<p.R.P.length):fP p l (k+1)=if l.contains p.R.P[k].a&&l.contains p.R.P[k].b then fP p l k++ [p.R.P[k]]else fP p l k:=F9 _ _ hk
theorem UD (hk:k<p.R.L.length):fL p l (k+1)=if l.contains p.R.L[k].a&&l.contains p.R.L[k].b then fL p l k++ [p.R.L[k]]else fL p l k:=F9 _ _ hk
theorem UF (hk:k<p.R.C.length):fC p l (k+1)=if l.contains p.R.C[k].a then fC p l k++ [p.R.C[k]]else fC p l k:=F9 _ _ hk
theorem Ux {α:Type}(q:α→Bool)(l:List α)(k:Nat):((l.take k).filter q).length≤l.length:=j9 (L3 _ _) (by rw[Y8];omega)
theorem pK (p:Px)(VD VP VL VC VS:Value)(l:List Int)(w:World)(h:K3 w VD VP VL VC p)(hl:P0 p)(hS:e8 w VS l)(T3:l.length≤100000)(hRV: ∀W,z6 [] w W→Calls Tryz.prog 7 #[.agg #[VD,VP,VL,VC]] W fun r w'=>r= .returned (.bool (J5 p))∧z6 [] W w'):Calls Tryz.prog 28 #[.agg #[VD,VP,VL,VC],VS] w (JZ p l w):=by
 have HV:=O hRV;have mP:=p7 (fun W t=>Ay VS l W (hS.q8 t) T3);have aB:=O (fun(W:World) (t:z6 [] w W) (n:Int)=>Py VD VP VL VC p.D n W (h.d.q8 t));have Vn:=O (fun(W:World) (t:z6 [] w W) (n:Int)=>Gx VS l n W (hS.q8 t));have Bb:=p7 (fun W t=>h.q8 t);have HNS:=p7 (fun W t=>hS.q8 t);have aA:=O hl;obtain⟨AD,cD,rfl,-,-⟩:=h.d.form;obtain⟨AP,cP,rfl⟩:=h.pr.form;obtain⟨AL,cL,rfl⟩:=h.ld.form;obtain⟨AC,cC,rfl⟩:=h.cp.form;obtain⟨AS,cS,rfl⟩:=hS.form;have b0:=(j4.new w 29 #[.slice AD p.D.length cD,.slice AP p.R.P.length cP,.slice AL p.R.L.length cL,.slice AC p.R.C.length cC]).alloc (.cells #[.slice none 0 0,.slice none 0 0,.slice none 0 0,.slice none 0 0] 29);have b1:=j4.new (w.alloc (.cells #[.slice AD p.D.length cD,.slice AP p.R.P.length cP,.slice AL p.R.L.length cL,.slice AC p.R.C.length cC] 29)) 29 #[.slice none 0 0,.slice none 0 0,.slice none 0 0,.slice none 0 0];have t0:=((z8 [] w).alloc (.cells #[.slice AD p.D.length cD,.slice AP p.R.P.length cP,.slice AL p.R.L.length cL,.slice AC p.R.C.length cC] 29)).alloc (.cells #[.slice none 0 0,.slice none 0 0,.slice none 0 0,.slice none 0 0] 29);simp only[World.size_alloc]at b1;clear h hl hS T3;go_enter Tryz.func28,Tryz.ntmps28;go_upto_region 1 with fail
 generalize (w.alloc _).alloc _=wa at b0 b1 t0⊢;obtain⟨gp,hgp⟩: ∃gp,gp=w.heap.size:=⟨_,rfl⟩;rw[←hgp]at b0 b1⊢;have D7:=O b0;have Ag:=O b1;have m9:=O t0;have HGP:=O hgp;obtain⟨c0,c1,c2,c3⟩:=b0.F2;clear b0 b1 t0 hgp;go_wp2_with fail;refine(HV.o _ m9.o).mono ?_;rintro r w1 ⟨rfl,t1⟩;have J6:=O (m9.o.Y t1);have Zf:=O t1;clear c0 c1 c2 c3 t1
 cases J3:J5 p with
 | false=>
  have Y7:=O J3;clear J3;have b2:=Ag.o.z7 Zf.o (by simp);go_wp2_with (refine Am (ty:=29) (cs':=#[.slice none 0 0,.slice none 0 0,.slice none 0 0,.slice none 0 0]) (by kernel_rfl) rfl (by simp[Value.oneCell']) b2 ?_;intro w9 b9 t9);refine bodyPost_ret (P3 (d:=_) b9 rfl Tryz.underlying29 (by kernel_rfl) rfl rfl rfl) rfl ⟨J6.o.step t9 (fun m hm=> .inr (by rw[y7]at hm;have:=HGP.o;omega)),.inl ⟨by rw[Y7.o];rfl,rfl⟩⟩
 | true=>
  have Y7:=O J3;clear J3;go_wp2_with fail;refine(mP.o _ J6.o).mono ?_;rintro r w2 ⟨rfl,t2⟩;have B4:=O (J6.o.Y t2);have Su:=O (Zf.o.Y t2);clear t2
  cases hsk:Fa l with
  | false=>
   have HSK:=O hsk;clear hsk;have b2:=Ag.o.z7 Su.o (by simp);go_wp2_with (refine Am (ty:=29) (cs':=#[.slice none 0 0,.slice none 0 0,.slice none 0 0,.slice none 0 0]) (by kernel_rfl) rfl (by simp[Value.oneCell']) b2 ?_;intro w9 b9 t9);refine bodyPost_ret (P3 (d:=_) b9 rfl Tryz.underlying29 (by kernel_rfl) rfl rfl rfl) rfl ⟨B4.o.step t9 (fun m hm=> .inr (by rw[y7]at hm;have:=HGP.o;omega)),.inl ⟨by rw[Y7.o,HSK.o];rfl,rfl⟩⟩
  | true=>
  have HSK:=O hsk;clear hsk;have HC:=p7 (fun W t=>(D7.o.z7 (Su.o.Y t) (by simp)).F2);have HR:=p7 (fun W t=>Ag.o.z7 (Su.o.Y t) (by simp));have O5:=p7 (fun W t=>D7.o.z7 (Su.o.Y t) (by simp));clear D7 Ag HV mP Zf J6;go_wp2_with fail;go_loopw [6] (fun ti wr=>C9 (fun n=>y8 p n) w2 l ti wr) (fun ti _=>l.length - (intOf ti).toNat)
  case atStart=>exact⟨0,by omega,rfl,z8 _ _,O (fun j x h=>by omega)⟩
  case round=>
   obtain⟨k,hk,rfl,ht,HX⟩:=hrel;have HT:=O ht;have Q8:=O (B4.o.Y ht);by_cases Z:k<l.length
   ·have j1:(k:Int)< (l.length:Int):=by omega
    have hn:=HNS.o wr Q8.o;obtain⟨b,off,rfl,hb⟩:=hn.addr Z;have Ko:=p7 (fun W t=>e8.at_ (hn.q8 t) Z);have yF:=hn.cap;have Sr:wrap64 ((k:Int)+1)=(k:Int)+1:=by unfold wrap64;omega
    have XN:=p7 (fun W t=>HC.o W (HT.o.Y t));have HF:=p7 (fun W t=>aB.o W (Q8.o.Y t) l[k]);have mM:=Df p l[k]
    have bY:Hid (y8 p l[k]=false→W0 p l=false):=O (fun e=>by
     unfold W0;rw[kK]
     exact⟨_,k8 Z,by rw[e];simp⟩)
    have W7:Hid (y8 p l[k]=true→ ∀(j:Nat) x,j<k+1→l[j]? =some x→y8 p x=true):=O (fun e=>X7 (good:=fun n=>y8 p n) HX.o Z e);generalize y8 p l[k]=qa at*;generalize l[k]=xa at*;clear hn hb ht HX yF;go_wp2_with fail
    cases qa with
    | false=>
     have dz:decide (L2 p.D xa<0)=true:=b_ (by have:=Gt mM.symm;omega);clear mM;refine wp_region_held_drew (S:=fun W=>z6 [] wr W) (by kernel_rfl) (z8 _ _).drew (fun hS=> ?_);refine kw 0 hS ?_ (hy:=by intro W m7;obtain⟨e0,e1,e2,e3⟩:=XN.o W m7;go_simp<;>rfl);refine kw 1 hS ?_;refine kw 2 hS ?_;refine kw 3 hS ?_;refine kw 4 hS ?_ (hy:=by intro W m7;have e4:=Ko.o W m7;go_simp<;>rfl);refine s8 5 rfl (fun K hK=> ?_);go_simp;refine(HF.o _ hS).mono ?_;rintro r w5 ⟨rfl,t5⟩;have p8:=hS.Y t5;go_wp2_with fail;refine zk6 hK p8 ?_;clear hK K;refine s8 6 rfl (fun K hK=> ?_);go_simp;refine zk6 hK p8 ?_;clear hK K;refine wpAnyH_done (by kernel_rfl) ?_ _;have Bq:=O p8;have T4:=O (bY.o (by first | rfl | trivial));have b2:=HR.o _ (HT.o.Y p8);clear hS p8 t5;go_wp2_with (refine Am (ty:=29) (cs':=#[.slice none 0 0,.slice none 0 0,.slice none 0 0,.slice none 0 0]) (by kernel_rfl) rfl (by simp[Value.oneCell']) b2 ?_;intro w9 b9 t9);refine bodyPost_ret (P3 (d:=_) b9 rfl Tryz.underlying29 (by kernel_rfl) rfl rfl rfl) rfl ⟨(Q8.o.Y Bq.o).step t9 (fun m hm=> .inr (by rw[y7]at hm;have:=HGP.o;omega)),.inr (.inl ⟨Y7.o,HSK.o,T4.o,rfl⟩)⟩
    | true=>
     have dz:decide (L2 p.D xa<0)=false:=v8 (by have:=U9 mM.symm;omega);clear mM;refine wp_region_held_drew (S:=fun W=>z6 [] wr W) (by kernel_rfl) (z8 _ _).drew (fun hS=> ?_);refine kw 0 hS ?_ (hy:=by intro W m7;obtain⟨e0,e1,e2,e3⟩:=XN.o W m7;go_simp<;>rfl);refine kw 1 hS ?_;refine kw 2 hS ?_;refine kw 3 hS ?_;refine kw 4 hS ?_ (hy:=by intro W m7;have e4:=Ko.o W m7;go_simp<;>rfl);refine s8 5 rfl (fun K hK=> ?_);go_simp;refine(HF.o _ hS).mono ?_;rintro r w5 ⟨rfl,t5⟩;have p8:=hS.Y t5;go_wp2_with fail;refine zk6 hK p8 ?_;clear hK K;refine s8 6 rfl (fun K hK=> ?_);go_simp;refine zk6 hK p8 ?_;clear hK K;refine wpAnyH_done (by kernel_rfl) ?_ _;have Bq:=O p8;have Mv:=O (W7.o (by first | rfl | trivial));clear hS p8 t5;go_wp2_with fail;(try rw[Sr]);exact⟨⟨k+1,by omega,by go_num,HT.o.Y Bq.o,Mv⟩,by simp[intOf];omega⟩
   ·have j1: ¬(k:Int)< (l.length:Int):=by omega
    have xB:Hid (W0 p l=true):=O (U8 (good:=fun n=>y8 p n) HX.o (by omega));obtain⟨cin,nu⟩: ∃cin:Array Value,cin=#[.slice AD p.D.length cD,.slice AP p.R.P.length cP,.slice AL p.R.L.length cL,.slice AC p.R.C.length cC]:=⟨_,rfl⟩;obtain⟨g8,hg8⟩: ∃g8,g8=wr.heap.size:=⟨_,rfl⟩
    have Co:Hid (Bu w gp (gp+1) g8 cin (wr.alloc (.cells #[.slice none 0 0,.slice none 0 0,.slice none 0 0,.slice none 0 0] 29)) Q3 Q3 Q3 Q3 [] [] [] []):=O (by
     have ta:=(z8 [] wr).alloc (.cells #[.slice none 0 0,.slice none 0 0,.slice none 0 0,.slice none 0 0] 29);have e1:=O5.o _ (ht.Y ta);have e2:=HR.o _ (ht.Y ta);rw[←nu]at e1;subst hg8
     exact Bu.zero (by exact Q8.o.size) (Q8.o.Y ta) e1 e2 ⟨by have:=(O5.o _ ht).lt;omega,by have:=(HR.o _ ht).lt;omega⟩ (j4.new _ _ _))
    have Mw:=O nu;clear nu ht HX HT Q8;go_upto_region 9 with fail
    generalize wr.alloc _=wb at Co⊢;rw[←hg8];clear hg8 Z j1 hk;generalize wr=wz at*;go_wp2_with fail;go_loopw [8] (fun ti wr=>jh w gp (gp+1) g8 cin p.D.length (fun k=>(fD p l k,[],[],[])) ti wr) (fun ti _=>p.D.length - (intOf ti).toNat)
    case atStart=>exact⟨0,Q3,Q3,Q3,Q3,by omega,rfl,Co⟩
    case round=>
     clear Co;obtain⟨k,vD,vP,vL,vC,hk,rfl,Q9⟩:=hrel;simp only at Q9;have M8:=Q9.o.Sq;rw[Mw.o]at M8;obtain⟨k0,k1,k2,k3⟩:=M8.F2;by_cases Z:k<p.D.length
     ·have j1:(k:Int)< (p.D.length:Int):=by omega
      have hlen:p.D.length≤100000:=aA.o.d;have Sr:wrap64 ((k:Int)+1)=(k:Int)+1:=by unfold wrap64;omega
      have Gd:=O (UE (p:=p) (l:=l) Z);have me:Hid ((fD p l k).length≤100000):=O (j9 (Ux _ _ _) hlen);have T2:=Bb.o wr Q9.o.Fb;have hdw:=Bb.o w (z8 _ _);obtain⟨b,off,c,rfl,hb,I7,N0⟩:=hdw.d.at_ Z;have Ko:=p7 (fun W t=>N0 W (Q9.o.Fb.Y t));have HCW:=O (And.intro I7 (N0 w (z8 _ _)).2.2);obtain⟨A2,X2,rfl⟩:=(N0 w (z8 _ _)).2.2.form;obtain⟨c0,c1,-⟩:=Ko.o wr (z8 _ _);obtain⟨x,hx⟩: ∃x,x=p.D[k]:=⟨_,rfl⟩;rw[←hx]at Gd Ko HCW c0 c1;have HXX:=O hx;have xA:=p7 (fun W t=>N0 W t);rw[←hx]at xA;clear hx hdw hb N0 I7 T2;have HH:=O (Vn.o wr Q9.o.Fb x.st);go_wp2_with fail;refine HH.o.mono ?_;rintro r w6 ⟨rfl,t6⟩
      cases hq:l.contains x.st with
      | false=>
       clear c0 c1 k0 k1 k2 k3;have HN:Hid (fD p l (k+1)=fD p l k):=O (by rw[Gd.o,hq];rfl);go_wp2_with fail;(try rw[Sr]);exact⟨⟨k+1,vD,vP,vL,vC,by omega,by go_num,by simp only[HN.o];exact O (Q9.o.q8 t6)⟩,by simp[intOf];omega⟩
      | true=>
       have HN:Hid (fD p l (k+1)=fD p l k++ [x]):=O (by rw[Gd.o,hq];rfl);have bI:=O (Q9.o.q8 t6);have sC:=p7 (fun W t=>Ko.o W t);have Vl:=O (show z6 [] wr w6 from t6);clear Q9 Gd HH c0 c1 k0 k1 k2 k3;go_upto_region 13 with fail
       obtain⟨K1,g1,g2,g3⟩:=bI.o.d;have Iy:=O g2;have HKD:=O g2.kd
       have HK:=p7 (fun W' tW=>show W'.cell? ⟨g8,0,none⟩=some vD∧W'.cell? ⟨gp,0,none⟩=some (.slice (some ⟨b,off,none⟩) p.D.length cD)∧(W'.cell? ⟨b,off+k*2,none⟩=some (.int .i64 x.st)∧W'.cell? ⟨b,off+k*2+1,none⟩=some (.slice A2 x.ch.length X2))from⟨((bI.o.q.z7 tW (by simp)).cell 0).trans rfl,by
        have M8:=bI.o.Sq.z7 tW (by simp);rw[Mw.o]at M8
        exact(M8.cell 0).trans rfl,(sC.o W' (Vl.o.Y tW)).1,(sC.o W' (Vl.o.Y tW)).2.1⟩)
       have I9:=O (fun(W:World) (tW:z6 [] w6 W) (X6:World) (v':Value) (ho:Own X6 75 2 v' ((fD p l k).length+1) (((fD p l k).zip K1).flatMap Gi++ [Value.int .i64 x.st,Value.slice A2 x.ch.length X2])) (t:z6 (m5 vD) W X6) (f:S2 W vD v')=>show(X6.cell? ⟨g8,0,none⟩=some vD∧X6.cell? ⟨gp,0,none⟩=some (.slice (some ⟨b,off,none⟩) p.D.length cD)∧(X6.cell? ⟨b,off+k*2,none⟩=some (.int .i64 x.st)∧X6.cell? ⟨b,off+k*2+1,none⟩=some (.slice A2 x.ch.length X2)))∧X6.frozen? ⟨g8,0,none⟩=false∧Bu w gp (gp+1) g8 cin (X6.setCell ⟨g8,0,none⟩ v') v' vP vL vC (fD p l k++ [x]) [] [] []from by
        have hs:=bI.o.q8 tW;have vu: ∀b∈m5 vD,Kd W b 75:=fun b hb=>(HKD.o b hb).z7 tW (by simp);have q':=hs.q.v7 t (fun b hb=>⟨_,vu b hb,by decide⟩);have i':=hs.Sq.v7 t (fun b hb=>⟨_,vu b hb,by decide⟩);rw[Mw.o]at i';refine⟨⟨(q'.cell 0).trans rfl,(i'.cell 0).trans rfl,?_⟩,q'.frozen 0,(bI.o.q8 tW).GV (d:=x) (c:= .slice A2 x.ch.length X2) g1 (fun b hb=>(HKD.o b hb).z7 tW (by simp)) g3 HCW.o.1 HCW.o.2 t f ho⟩;have t0:=hs.Fb.step t (fun m hm=> .inr (hs.fd m hm))
        exact⟨(xA.o X6 t0).1,(xA.o X6 t0).2.1⟩)
       have hQ:=z8 [] w6;refine n6 (fun W'=>W'.cell? ⟨g8,0,none⟩=some vD∧W'.cell? ⟨gp,0,none⟩=some (.slice (some ⟨b,off,none⟩) p.D.length cD)∧(W'.cell? ⟨b,off+k*2,none⟩=some (.int .i64 x.st)∧W'.cell? ⟨b,off+k*2+1,none⟩=some (.slice A2 x.ch.length X2))) 10 (by kernel_rfl) ?_;refine tk 0 (HK.o _ hQ.drew) ?_;refine tk 1 (HK.o _ hQ.drew) ?_ (hy:=by intro W m7;have e0:=m7.1;go_simp<;>rfl);refine tk 2 (HK.o _ hQ.drew) ?_;refine tk 3 (HK.o _ hQ.drew) ?_ (hy:=by intro W m7;have e1:=m7.2.1;go_simp<;>rfl);refine tk 4 (HK.o _ hQ.drew) ?_;refine tk 5 (HK.o _ hQ.drew) ?_;refine tk 6 (HK.o _ hQ.drew) ?_ (hy:=by intro W m7;obtain⟨d0,d1⟩:=m7.2.2;go_simp<;>rfl);refine tn 7 (fun K hK=> ?_);go_simp;go_wp2_with fail;refine YU hK (HK.o _ (hQ.drew.alloc _)) ?_;clear hK K;refine tn 8 (fun K hK=> ?_);refine l7 Ch (Iy.o.q8 (hQ.drew.alloc _)) (J0 _ 75 [Value.int .i64 x.st,Value.slice A2 x.ch.length X2] 2 1 rfl (by decide)) (by simp[Value.oneCell',I]) (j9 (Dd _ (Cv me.o 1)) (by decide)) (j9 (Cv me.o 1) (by unfold maxLen;decide)) ?_;intro v11 X6 r8 Q6 X9;obtain⟨Mq,Mo,rfl⟩:=r8.form;have M5:=O (I9.o _ (hQ.drew.alloc _) X6 _ r8 Q6 X9);have Ik:=M5.o.1.1;have f11:=M5.o.2.1;refine YU hK M5.o.1 ?_;clear hK K;refine tn 9 (fun K hK=> ?_);go_simp;refine YU hK M5.o.1 ?_;clear hK K;refine tl (fun K hK=> ?_);go_simp;refine hK.o _ _ ?_;clear hK K;(try simp only[nz]);have H9:=O M5.o.2.2;clear M5 I9 HK Iy Ik f11 hQ;go_wp2_with fail;(try rw[Sr]);exact⟨⟨k+1,_,vP,vL,vC,by omega,by go_num,by simp only[HN.o];exact H9⟩,by simp[intOf];omega⟩
     ·have j1: ¬(k:Int)< (p.D.length:Int):=by omega
      have DU:k=p.D.length:=by omega
      rw[DU]at Q9;clear DU;have Co:=Q9;clear Q9;go_wp2_with fail;clear k0 k1 k2 k3 Z j1 hk;generalize wr=wz at*;go_loopw [9] (fun ti wr=>jh w gp (gp+1) g8 cin p.R.P.length (fun k=>(fD p l p.D.length,fP p l k,[],[])) ti wr) (fun ti _=>p.R.P.length - (intOf ti).toNat)
      case atStart=>exact⟨0,_,_,_,_,by omega,rfl,Co⟩
      case round=>
       clear Co;obtain⟨k,vD,vP,vL,vC,hk,rfl,Q9⟩:=hrel;simp only at Q9;have M8:=Q9.o.Sq;rw[Mw.o]at M8;obtain⟨k0,k1,k2,k3⟩:=M8.F2;by_cases Z:k<p.R.P.length
       ·have j1:(k:Int)< (p.R.P.length:Int):=by omega
        have hlen:p.R.P.length≤100000:=aA.o.pr;have Sr:wrap64 ((k:Int)+1)=(k:Int)+1:=by unfold wrap64;omega
        have Gd:=O (UC (p:=p) (l:=l) Z);have me:Hid ((fP p l k).length≤100000):=O (j9 (Ux _ _ _) hlen);have T2:=Bb.o wr Q9.o.Fb;obtain⟨b,off,rfl,hb⟩:=T2.pr.addr Z;obtain⟨c0,c1,c2,c3,c4⟩:=o5.at_ T2.pr Z;have Ko:=p7 (fun W t=>o5.at_ (T2.q8 t).pr Z);obtain⟨x,hx⟩: ∃x,x=p.R.P[k]:=⟨_,rfl⟩;rw[←hx]at Gd Ko c0 c1 c2 c3 c4;have HXX:=O hx;have xA:=p7 (fun W t=>o5.at_ (Bb.o W t).pr Z);rw[←hx]at xA;clear hx hb T2;have HH:=O (Vn.o wr Q9.o.Fb x.a);have HH2:=p7 (fun W t=>Vn.o W (Q9.o.Fb.Y t) x.b);go_wp2_with fail;refine HH.o.mono ?_;rintro r w5 ⟨rfl,t5⟩
        cases hq:l.contains x.a with
        | false=>
         clear c0 c1 c2 c3 c4 k0 k1 k2 k3;have HN:Hid (fP p l (k+1)=fP p l k):=O (by rw[Gd.o,hq];rfl);go_wp2_with fail;(try rw[Sr]);exact⟨⟨k+1,vD,vP,vL,vC,by omega,by go_num,by simp only[HN.o];exact O (Q9.o.q8 t5)⟩,by simp[intOf];omega⟩
        | true=>
         obtain⟨c0,c1,c2,c3,c4⟩:=Ko.o w5 t5;have FE:=Q9.o.Sq.z7 t5 (by simp);rw[Mw.o]at FE;obtain⟨k0,k1,k2,k3⟩:=FE.F2;go_wp2_with fail;refine(HH2.o w5 t5).mono ?_;rintro r w6 ⟨rfl,t6⟩
         cases Ba:l.contains x.b with
         | false=>
          clear c0 c1 c2 c3 c4 k0 k1 k2 k3;have HN:Hid (fP p l (k+1)=fP p l k):=O (by rw[Gd.o,hq,Ba];rfl);go_wp2_with fail;(try rw[Sr]);exact⟨⟨k+1,vD,vP,vL,vC,by omega,by go_num,by simp only[HN.o];exact O (Q9.o.q8 (t5.Y t6))⟩,by simp[intOf];omega⟩
         | true=>
          have HN:Hid (fP p l (k+1)=fP p l k++ [x]):=O (by rw[Gd.o,hq,Ba];rfl);have bI:=O (Q9.o.q8 (t5.Y t6));have sC:=p7 (fun W t=>Ko.o W t);have Vl:=O (show z6 [] wr w6 from(t5.Y t6));clear Q9 Gd HH HH2 c0 c1 c2 c3 c4 k0 k1 k2 k3;go_upto_region 18 with fail
          have Iy:=O bI.o.pr
          have HK:=p7 (fun W' tW=>show W'.cell? ⟨g8,1,none⟩=some vP∧W'.cell? ⟨gp,1,none⟩=some (.slice (some ⟨b,off,none⟩) p.R.P.length cP)∧(W'.cell? ⟨b,off+k*5,none⟩=some (.int .i64 x.a)∧W'.cell? ⟨b,off+k*5+1,none⟩=some (.int .i64 x.b)∧W'.cell? ⟨b,off+k*5+1+1,none⟩=some (.int .i64 x.c)∧W'.cell? ⟨b,off+k*5+1+1+1,none⟩=some (.int .i64 x.d)∧W'.cell? ⟨b,off+k*5+1+1+1+1,none⟩=some (.int .i64 x.e))from⟨((bI.o.q.z7 tW (by simp)).cell 1).trans rfl,by
           have M8:=bI.o.Sq.z7 tW (by simp);rw[Mw.o]at M8
           exact(M8.cell 1).trans rfl,sC.o W' (Vl.o.Y tW)⟩)
          have I9:=O (fun(W:World) (tW:z6 [] w6 W) (X6:World) (v':Value) (ho:Own X6 79 5 v' ((fP p l k).length+1) ((fP p l k).flatMap Q5.cells++ [I x.a,I x.b,I x.c,I x.d,I x.e])) (t:z6 (m5 vP) W X6) (f:S2 W vP v')=>show(X6.cell? ⟨g8,1,none⟩=some vP∧X6.cell? ⟨gp,1,none⟩=some (.slice (some ⟨b,off,none⟩) p.R.P.length cP)∧(X6.cell? ⟨b,off+k*5,none⟩=some (.int .i64 x.a)∧X6.cell? ⟨b,off+k*5+1,none⟩=some (.int .i64 x.b)∧X6.cell? ⟨b,off+k*5+1+1,none⟩=some (.int .i64 x.c)∧X6.cell? ⟨b,off+k*5+1+1+1,none⟩=some (.int .i64 x.d)∧X6.cell? ⟨b,off+k*5+1+1+1+1,none⟩=some (.int .i64 x.e)))∧X6.frozen? ⟨g8,1,none⟩=false∧Bu w gp (gp+1) g8 cin (X6.setCell ⟨g8,1,none⟩ v') vD v' vL vC (fD p l p.D.length) (fP p l k++ [x]) [] []from by
           have hs:=bI.o.q8 tW;have vu: ∀b∈m5 vP,Kd W b 79:=hs.pr.kd;have q':=hs.q.v7 t (fun b hb=>⟨_,vu b hb,by decide⟩);have i':=hs.Sq.v7 t (fun b hb=>⟨_,vu b hb,by decide⟩);rw[Mw.o]at i';refine⟨⟨(q'.cell 1).trans rfl,(i'.cell 1).trans rfl,?_⟩,q'.frozen 1,(bI.o.q8 tW).GS x ho t f⟩;have t0:=hs.Fb.step t (fun m hm=> .inr (hs.fp m hm))
           exact xA.o X6 t0)
          have hQ:=z8 [] w6;refine n6 (fun W'=>W'.cell? ⟨g8,1,none⟩=some vP∧W'.cell? ⟨gp,1,none⟩=some (.slice (some ⟨b,off,none⟩) p.R.P.length cP)∧(W'.cell? ⟨b,off+k*5,none⟩=some (.int .i64 x.a)∧W'.cell? ⟨b,off+k*5+1,none⟩=some (.int .i64 x.b)∧W'.cell? ⟨b,off+k*5+1+1,none⟩=some (.int .i64 x.c)∧W'.cell? ⟨b,off+k*5+1+1+1,none⟩=some (.int .i64 x.d)∧W'.cell? ⟨b,off+k*5+1+1+1+1,none⟩=some (.int .i64 x.e))) 13 (by kernel_rfl) ?_;refine tk 0 (HK.o _ hQ.drew) ?_;refine tk 1 (HK.o _ hQ.drew) ?_;refine tk 2 (HK.o _ hQ.drew) ?_ (hy:=by intro W m7;have e0:=m7.1;go_simp<;>rfl);refine tk 3 (HK.o _ hQ.drew) ?_;refine tk 4 (HK.o _ hQ.drew) ?_;refine tk 5 (HK.o _ hQ.drew) ?_ (hy:=by intro W m7;have e1:=m7.2.1;go_simp<;>rfl);refine tk 6 (HK.o _ hQ.drew) ?_;refine tk 7 (HK.o _ hQ.drew) ?_;refine tk 8 (HK.o _ hQ.drew) ?_ (hy:=by intro W m7;obtain⟨d0,d1,d2,d3,d4⟩:=m7.2.2;go_simp<;>rfl);refine tn 9 (fun K hK=> ?_);go_simp;go_wp2_with fail;refine YU hK (HK.o _ (hQ.drew.alloc _)) ?_;clear hK K;refine tn 10 (fun K hK=> ?_);refine l7 Qg (Iy.o.q8 (hQ.drew.alloc _)) (J0 _ 79 [I x.a,I x.b,I x.c,I x.d,I x.e] 5 1 rfl (by decide)) (by simp[Value.oneCell',I]) (j9 (Dd _ (Cv me.o 1)) (by decide)) (j9 (Cv me.o 1) (by unfold maxLen;decide)) ?_;intro v11 X6 r8 Q6 X9;obtain⟨Mq,Mo,rfl⟩:=r8.form;have M5:=O (I9.o _ (hQ.drew.alloc _) X6 _ r8 Q6 X9);have Ik:=M5.o.1.1;have f11:=M5.o.2.1;refine YU hK M5.o.1 ?_;clear hK K;refine tn 11 (fun K hK=> ?_);go_simp;refine YU hK M5.o.1 ?_;clear hK K;refine tn 12 (fun K hK=> ?_);go_simp;refine YU hK M5.o.1 ?_;clear hK K;refine tl (fun K hK=> ?_);go_simp;refine hK.o _ _ ?_;clear hK K;(try simp only[nz]);have H9:=O M5.o.2.2;clear M5 I9 HK Iy Ik f11 hQ;go_wp2_with fail;(try rw[Sr]);exact⟨⟨k+1,vD,_,vL,vC,by omega,by go_num,by simp only[HN.o];exact H9⟩,by simp[intOf];omega⟩
       ·have j1: ¬(k:Int)< (p.R.P.length:Int):=by omega
        have DU:k=p.R.P.length:=by omega
        rw[DU]at Q9;clear DU;have Co:=Q9;clear Q9;go_wp2_with fail;clear k0 k1 k2 k3 Z j1 hk;generalize wr=wz at*;go_loopw [10] (fun ti wr=>jh w gp (gp+1) g8 cin p.R.L.length (fun k=>(fD p l p.D.length,fP p l p.R.P.length,fL p l k,[])) ti wr) (fun ti _=>p.R.L.length - (intOf ti).toNat)
        case atStart=>exact⟨0,_,_,_,_,by omega,rfl,Co⟩
        case round=>
         clear Co;obtain⟨k,vD,vP,vL,vC,hk,rfl,Q9⟩:=hrel;simp only at Q9;have M8:=Q9.o.Sq;rw[Mw.o]at M8;obtain⟨k0,k1,k2,k3⟩:=M8.F2;by_cases Z:k<p.R.L.length
         ·have j1:(k:Int)< (p.R.L.length:Int):=by omega
          have hlen:p.R.L.length≤100000:=aA.o.ld;have Sr:wrap64 ((k:Int)+1)=(k:Int)+1:=by unfold wrap64;omega
          have Gd:=O (UD (p:=p) (l:=l) Z);have me:Hid ((fL p l k).length≤100000):=O (j9 (Ux _ _ _) hlen);have T2:=Bb.o wr Q9.o.Fb;obtain⟨b,off,rfl,hb⟩:=T2.ld.addr Z;obtain⟨c0,c1,c2,c3,c4⟩:=o5.at_ T2.ld Z;have Ko:=p7 (fun W t=>o5.at_ (T2.q8 t).ld Z);obtain⟨x,hx⟩: ∃x,x=p.R.L[k]:=⟨_,rfl⟩;rw[←hx]at Gd Ko c0 c1 c2 c3 c4;have HXX:=O hx;have xA:=p7 (fun W t=>o5.at_ (Bb.o W t).ld Z);rw[←hx]at xA;clear hx hb T2;have HH:=O (Vn.o wr Q9.o.Fb x.a);have HH2:=p7 (fun W t=>Vn.o W (Q9.o.Fb.Y t) x.b);go_wp2_with fail;refine HH.o.mono ?_;rintro r w5 ⟨rfl,t5⟩
          cases hq:l.contains x.a with
          | false=>
           clear c0 c1 c2 c3 c4 k0 k1 k2 k3;have HN:Hid (fL p l (k+1)=fL p l k):=O (by rw[Gd.o,hq];rfl);go_wp2_with fail;(try rw[Sr]);exact⟨⟨k+1,vD,vP,vL,vC,by omega,by go_num,by simp only[HN.o];exact O (Q9.o.q8 t5)⟩,by simp[intOf];omega⟩
          | true=>
           obtain⟨c0,c1,c2,c3,c4⟩:=Ko.o w5 t5;have FE:=Q9.o.Sq.z7 t5 (by simp);rw[Mw.o]at FE;obtain⟨k0,k1,k2,k3⟩:=FE.F2;go_wp2_with fail;refine(HH2.o w5 t5).mono ?_;rintro r w6 ⟨rfl,t6⟩
           cases Ba:l.contains x.b with
           | false=>
            clear c0 c1 c2 c3 c4 k0 k1 k2 k3;have HN:Hid (fL p l (k+1)=fL p l k):=O (by rw[Gd.o,hq,Ba];rfl);go_wp2_with fail;(try rw[Sr]);exact⟨⟨k+1,vD,vP,vL,vC,by omega,by go_num,by simp only[HN.o];exact O (Q9.o.q8 (t5.Y t6))⟩,by simp[intOf];omega⟩
           | true=>
            have HN:Hid (fL p l (k+1)=fL p l k++ [x]):=O (by rw[Gd.o,hq,Ba];rfl);have bI:=O (Q9.o.q8 (t5.Y t6));have sC:=p7 (fun W t=>Ko.o W t);have Vl:=O (show z6 [] wr w6 from(t5.Y t6));clear Q9 Gd HH HH2 c0 c1 c2 c3 c4 k0 k1 k2 k3;go_upto_region 23 with fail
            have Iy:=O bI.o.ld
            have HK:=p7 (fun W' tW=>show W'.cell? ⟨g8,2,none⟩=some vL∧W'.cell? ⟨gp,2,none⟩=some (.slice (some ⟨b,off,none⟩) p.R.L.length cL)∧(W'.cell? ⟨b,off+k*5,none⟩=some (.int .i64 x.a)∧W'.cell? ⟨b,off+k*5+1,none⟩=some (.int .i64 x.b)∧W'.cell? ⟨b,off+k*5+1+1,none⟩=some (.int .i64 x.c)∧W'.cell? ⟨b,off+k*5+1+1+1,none⟩=some (.int .i64 x.d)∧W'.cell? ⟨b,off+k*5+1+1+1+1,none⟩=some (.int .i64 x.e))from⟨((bI.o.q.z7 tW (by simp)).cell 2).trans rfl,by
             have M8:=bI.o.Sq.z7 tW (by simp);rw[Mw.o]at M8
             exact(M8.cell 2).trans rfl,sC.o W' (Vl.o.Y tW)⟩)
            have I9:=O (fun(W:World) (tW:z6 [] w6 W) (X6:World) (v':Value) (ho:Own X6 81 5 v' ((fL p l k).length+1) ((fL p l k).flatMap Q5.cells++ [I x.a,I x.b,I x.c,I x.d,I x.e])) (t:z6 (m5 vL) W X6) (f:S2 W vL v')=>show(X6.cell? ⟨g8,2,none⟩=some vL∧X6.cell? ⟨gp,2,none⟩=some (.slice (some ⟨b,off,none⟩) p.R.L.length cL)∧(X6.cell? ⟨b,off+k*5,none⟩=some (.int .i64 x.a)∧X6.cell? ⟨b,off+k*5+1,none⟩=some (.int .i64 x.b)∧X6.cell? ⟨b,off+k*5+1+1,none⟩=some (.int .i64 x.c)∧X6.cell? ⟨b,off+k*5+1+1+1,none⟩=some (.int .i64 x.d)∧X6.cell? ⟨b,off+k*5+1+1+1+1,none⟩=some (.int .i64 x.e)))∧X6.frozen? ⟨g8,2,none⟩=false∧Bu w gp (gp+1) g8 cin (X6.setCell ⟨g8,2,none⟩ v') vD vP v' vC (fD p l p.D.length) (fP p l p.R.P.length) (fL p l k++ [x]) []from by
             have hs:=bI.o.q8 tW;have vu: ∀b∈m5 vL,Kd W b 81:=hs.ld.kd;have q':=hs.q.v7 t (fun b hb=>⟨_,vu b hb,by decide⟩);have i':=hs.Sq.v7 t (fun b hb=>⟨_,vu b hb,by decide⟩);rw[Mw.o]at i';refine⟨⟨(q'.cell 2).trans rfl,(i'.cell 2).trans rfl,?_⟩,q'.frozen 2,(bI.o.q8 tW).GU x ho t f⟩;have t0:=hs.Fb.step t (fun m hm=> .inr (hs.fl m hm))
             exact xA.o X6 t0)
            have hQ:=z8 [] w6;refine n6 (fun W'=>W'.cell? ⟨g8,2,none⟩=some vL∧W'.cell? ⟨gp,2,none⟩=some (.slice (some ⟨b,off,none⟩) p.R.L.length cL)∧(W'.cell? ⟨b,off+k*5,none⟩=some (.int .i64 x.a)∧W'.cell? ⟨b,off+k*5+1,none⟩=some (.int .i64 x.b)∧W'.cell? ⟨b,off+k*5+1+1,none⟩=some (.int .i64 x.c)∧W'.cell? ⟨b,off+k*5+1+1+1,none⟩=some (.int .i64 x.d)∧W'.cell? ⟨b,off+k*5+1+1+1+1,none⟩=some (.int .i64 x.e))) 13 (by kernel_rfl) ?_;refine tk 0 (HK.o _ hQ.drew) ?_;refine tk 1 (HK.o _ hQ.drew) ?_;refine tk 2 (HK.o _ hQ.drew) ?_ (hy:=by intro W m7;have e0:=m7.1;go_simp<;>rfl);refine tk 3 (HK.o _ hQ.drew) ?_;refine tk 4 (HK.o _ hQ.drew) ?_;refine tk 5 (HK.o _ hQ.drew) ?_ (hy:=by intro W m7;have e1:=m7.2.1;go_simp<;>rfl);refine tk 6 (HK.o _ hQ.drew) ?_;refine tk 7 (HK.o _ hQ.drew) ?_;refine tk 8 (HK.o _ hQ.drew) ?_ (hy:=by intro W m7;obtain⟨d0,d1,d2,d3,d4⟩:=m7.2.2;go_simp<;>rfl);refine tn 9 (fun K hK=> ?_);go_simp;go_wp2_with fail;refine YU hK (HK.o _ (hQ.drew.alloc _)) ?_;clear hK K;refine tn 10 (fun K hK=> ?_);refine l7 Qh (Iy.o.q8 (hQ.drew.alloc _)) (J0 _ 81 [I x.a,I x.b,I x.c,I x.d,I x.e] 5 1 rfl (by decide)) (by simp[Value.oneCell',I]) (j9 (Dd _ (Cv me.o 1)) (by decide)) (j9 (Cv me.o 1) (by unfold maxLen;decide)) ?_;intro v11 X6 r8 Q6 X9;obtain⟨Mq,Mo,rfl⟩:=r8.form;have M5:=O (I9.o _ (hQ.drew.alloc _) X6 _ r8 Q6 X9);have Ik:=M5.o.1.1;have f11:=M5.o.2.1;refine YU hK M5.o.1 ?_;clear hK K;refine tn 11 (fun K hK=> ?_);go_simp;refine YU hK M5.o.1 ?_;clear hK K;refine tn 12 (fun K hK=> ?_);go_simp;refine YU hK M5.o.1 ?_;clear hK K;refine tl (fun K hK=> ?_);go_simp;refine hK.o _ _ ?_;clear hK K;(try simp only[nz]);have H9:=O M5.o.2.2;clear M5 I9 HK Iy Ik f11 hQ;go_wp2_with fail;(try rw[Sr]);exact⟨⟨k+1,vD,vP,_,vC,by omega,by go_num,by simp only[HN.o];exact H9⟩,by simp[intOf];omega⟩
         ·have j1: ¬(k:Int)< (p.R.L.length:Int):=by omega
          have DU:k=p.R.L.length:=by omega
          rw[DU]at Q9;clear DU;have Co:=Q9;clear Q9;go_wp2_with fail;clear k0 k1 k2 k3 Z j1 hk;generalize wr=wz at*;go_loopw [11] (fun ti wr=>jh w gp (gp+1) g8 cin p.R.C.length (fun k=>(fD p l p.D.length,fP p l p.R.P.length,fL p l p.R.L.length,fC p l k)) ti wr) (fun ti _=>p.R.C.length - (intOf ti).toNat)
          case atStart=>exact⟨0,_,_,_,_,by omega,rfl,Co⟩
          case round=>
           clear Co;obtain⟨k,vD,vP,vL,vC,hk,rfl,Q9⟩:=hrel;simp only at Q9;have M8:=Q9.o.Sq;rw[Mw.o]at M8;obtain⟨k0,k1,k2,k3⟩:=M8.F2;by_cases Z:k<p.R.C.length
           ·have j1:(k:Int)< (p.R.C.length:Int):=by omega
            have hlen:p.R.C.length≤100000:=aA.o.cp;have Sr:wrap64 ((k:Int)+1)=(k:Int)+1:=by unfold wrap64;omega
            have Gd:=O (UF (p:=p) (l:=l) Z);have me:Hid ((fC p l k).length≤100000):=O (j9 (Ux _ _ _) hlen);have T2:=Bb.o wr Q9.o.Fb;obtain⟨b,off,rfl,hb⟩:=T2.cp.addr Z;obtain⟨c0,c1,c2,c3⟩:=T9.at_ T2.cp Z;have Ko:=p7 (fun W t=>T9.at_ (T2.q8 t).cp Z);obtain⟨x,hx⟩: ∃x,x=p.R.C[k]:=⟨_,rfl⟩;rw[←hx]at Gd Ko c0 c1 c2 c3;have HXX:=O hx;have xA:=p7 (fun W t=>T9.at_ (Bb.o W t).cp Z);rw[←hx]at xA;clear hx hb T2;have HH:=O (Vn.o wr Q9.o.Fb x.a);go_wp2_with fail;refine HH.o.mono ?_;rintro r w6 ⟨rfl,t6⟩
            cases hq:l.contains x.a with
            | false=>
             clear c0 c1 c2 c3 k0 k1 k2 k3;have HN:Hid (fC p l (k+1)=fC p l k):=O (by rw[Gd.o,hq];rfl);go_wp2_with fail;(try rw[Sr]);exact⟨⟨k+1,vD,vP,vL,vC,by omega,by go_num,by simp only[HN.o];exact O (Q9.o.q8 t6)⟩,by simp[intOf];omega⟩
            | true=>
             have HN:Hid (fC p l (k+1)=fC p l k++ [x]):=O (by rw[Gd.o,hq];rfl);have bI:=O (Q9.o.q8 t6);have sC:=p7 (fun W t=>Ko.o W t);have Vl:=O (show z6 [] wr w6 from t6);clear Q9 Gd HH c0 c1 c2 c3 k0 k1 k2 k3;go_upto_region 28 with fail
             have Iy:=O bI.o.cp
             have HK:=p7 (fun W' tW=>show W'.cell? ⟨g8,3,none⟩=some vC∧W'.cell? ⟨gp,3,none⟩=some (.slice (some ⟨b,off,none⟩) p.R.C.length cC)∧(W'.cell? ⟨b,off+k*4,none⟩=some (.int .i64 x.a)∧W'.cell? ⟨b,off+k*4+1,none⟩=some (.int .i64 x.b)∧W'.cell? ⟨b,off+k*4+1+1,none⟩=some (.int .i64 x.c)∧W'.cell? ⟨b,off+k*4+1+1+1,none⟩=some (.int .i64 x.d))from⟨((bI.o.q.z7 tW (by simp)).cell 3).trans rfl,by
              have M8:=bI.o.Sq.z7 tW (by simp);rw[Mw.o]at M8
              exact(M8.cell 3).trans rfl,sC.o W' (Vl.o.Y tW)⟩)
             have I9:=O (fun(W:World) (tW:z6 [] w6 W) (X6:World) (v':Value) (ho:Own X6 83 4 v' ((fC p l k).length+1) ((fC p l k).flatMap Q4.cells++ [I x.a,I x.b,I x.c,I x.d])) (t:z6 (m5 vC) W X6) (f:S2 W vC v')=>show(X6.cell? ⟨g8,3,none⟩=some vC∧X6.cell? ⟨gp,3,none⟩=some (.slice (some ⟨b,off,none⟩) p.R.C.length cC)∧(X6.cell? ⟨b,off+k*4,none⟩=some (.int .i64 x.a)∧X6.cell? ⟨b,off+k*4+1,none⟩=some (.int .i64 x.b)∧X6.cell? ⟨b,off+k*4+1+1,none⟩=some (.int .i64 x.c)∧X6.cell? ⟨b,off+k*4+1+1+1,none⟩=some (.int .i64 x.d)))∧X6.frozen? ⟨g8,3,none⟩=false∧Bu w gp (gp+1) g8 cin (X6.setCell ⟨g8,3,none⟩ v') vD vP vL v' (fD p l p.D.length) (fP p l p.R.P.length) (fL p l p.R.L.length) (fC p l k++ [x])from by
              have hs:=bI.o.q8 tW;have vu: ∀b∈m5 vC,Kd W b 83:=hs.cp.kd;have q':=hs.q.v7 t (fun b hb=>⟨_,vu b hb,by decide⟩);have i':=hs.Sq.v7 t (fun b hb=>⟨_,vu b hb,by decide⟩);rw[Mw.o]at i';refine⟨⟨(q'.cell 3).trans rfl,(i'.cell 3).trans rfl,?_⟩,q'.frozen 3,(bI.o.q8 tW).GW x ho t f⟩;have t0:=hs.Fb.step t (fun m hm=> .inr (hs.fc m hm))
              exact xA.o X6 t0)
             have hQ:=z8 [] w6;refine n6 (fun W'=>W'.cell? ⟨g8,3,none⟩=some vC∧W'.cell? ⟨gp,3,none⟩=some (.slice (some ⟨b,off,none⟩) p.R.C.length cC)∧(W'.cell? ⟨b,off+k*4,none⟩=some (.int .i64 x.a)∧W'.cell? ⟨b,off+k*4+1,none⟩=some (.int .i64 x.b)∧W'.cell? ⟨b,off+k*4+1+1,none⟩=some (.int .i64 x.c)∧W'.cell? ⟨b,off+k*4+1+1+1,none⟩=some (.int .i64 x.d))) 13 (by kernel_rfl) ?_;refine tk 0 (HK.o _ hQ.drew) ?_;refine tk 1 (HK.o _ hQ.drew) ?_;refine tk 2 (HK.o _ hQ.drew) ?_ (hy:=by intro W m7;have e0:=m7.1;go_simp<;>rfl);refine tk 3 (HK.o _ hQ.drew) ?_;refine tk 4 (HK.o _ hQ.drew) ?_;refine tk 5 (HK.o _ hQ.drew) ?_ (hy:=by intro W m7;have e1:=m7.2.1;go_simp<;>rfl);refine tk 6 (HK.o _ hQ.drew) ?_;refine tk 7 (HK.o _ hQ.drew) ?_;refine tk 8 (HK.o _ hQ.drew) ?_ (hy:=by intro W m7;obtain⟨d0,d1,d2,d3⟩:=m7.2.2;go_simp<;>rfl);refine tn 9 (fun K hK=> ?_);go_simp;go_wp2_with fail;refine YU hK (HK.o _ (hQ.drew.alloc _)) ?_;clear hK K;refine tn 10 (fun K hK=> ?_);refine l7 eO (Iy.o.q8 (hQ.drew.alloc _)) (J0 _ 83 [I x.a,I x.b,I x.c,I x.d] 4 1 rfl (by decide)) (by simp[Value.oneCell',I]) (j9 (Dd _ (Cv me.o 1)) (by decide)) (j9 (Cv me.o 1) (by unfold maxLen;decide)) ?_;intro v11 X6 r8 Q6 X9;obtain⟨Mq,Mo,rfl⟩:=r8.form;have M5:=O (I9.o _ (hQ.drew.alloc _) X6 _ r8 Q6 X9);have Ik:=M5.o.1.1;have f11:=M5.o.2.1;refine YU hK M5.o.1 ?_;clear hK K;refine tn 11 (fun K hK=> ?_);go_simp;refine YU hK M5.o.1 ?_;clear hK K;refine tn 12 (fun K hK=> ?_);go_simp;refine YU hK M5.o.1 ?_;clear hK K;refine tl (fun K hK=> ?_);go_simp;refine hK.o _ _ ?_;clear hK K;(try simp only[nz]);have H9:=O M5.o.2.2;clear M5 I9 HK Iy Ik f11 hQ;go_wp2_with fail;(try rw[Sr]);exact⟨⟨k+1,vD,vP,vL,_,by omega,by go_num,by simp only[HN.o];exact H9⟩,by simp[intOf];omega⟩
           ·have j1: ¬(k:Int)< (p.R.C.length:Int):=by omega
            have DU:k=p.R.C.length:=by omega
            rw[DU]at Q9;clear DU;have q9:=Q9.o.q;have r9:=Q9.o.n9;obtain⟨A0,c0,e0⟩:=Q9.o.qj2;obtain⟨A1,c1,e1⟩:=Q9.o.pr.form;obtain⟨A2,c2,e2⟩:=Q9.o.ld.form;obtain⟨A3,c3,e3⟩:=Q9.o.cp.form;have I6:(#[vD,vP,vL,vC]:Array Value).all (·.oneCell')=true:=by rw[e0,e1,e2,e3];simp[Value.oneCell']
            clear e0 e1 e2 e3;go_wp2_with (first | (refine yw q9 ?_) | (refine jr r9 I6 ?_;intro ZO Ss t10));have Ni:=Bu.qa9 (p:=p) (l:=l) (by have h:=Q9.o;unfold fD fP fL fC at h;simp only[cO]at h;exact h) (Bb.o w (z8 _ _)) (by have:=HGP.o;omega) t10;exact bodyPost_ret (P3 Ss rfl Tryz.underlying29 Qb rfl rfl rfl) rfl ⟨Ni.2,.inr (.inr ⟨Y7.o,HSK.o,xB.o,vD,vP,vL,vC,rfl,Ni.1⟩)⟩
end Go.Proofs.YtlhlmcohdkkjpaaGreatDoor
