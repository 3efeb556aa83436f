/- Layer 21, the document: byNogood. -/
import Derived.Test.YtlhlmcohdkkjpaaGreatDoorZL
set_option linter.all false
set_option maxHeartbeats 16000000
set_option maxRecDepth 100000
namespace Go.Proofs.YtlhlmcohdkkjpaaGreatDoor
open Go.RowKit
def R7 (d:List Dx)(s c:Int):Bool→List Cx→Bool
 | has,[]=>has
 | has,y::g=>if y.a=s then R7 d s c (y.b==c) g else if J8 d y.a y.b then R7 d s c has g else false
def qw6 (w:World)(d:List Dx)(s c:Int)(g:List Cx)(n9:Bool)(tv ti:Value)(wr:World):Prop:= ∃(k:Nat) (has:Bool),k≤g.length∧tv= .bool has∧ti= .int .i64 (k:Int)∧z6 [] w wr∧Hid (n9=R7 d s c has (g.drop k))
theorem iT (vd vg:Value)(d:List Dx)(g:List Cx)(s c:Int)(w:World)(hd:C0 w vd d)(hg:Q0 w vg g)(hl:g.length≤100000):Calls Tryz.prog 249 #[vd,vg,.int .i64 s,.int .i64 c] w fun r w'=>r= .returned (.bool (R7 d s c false g))∧z6 [] w w':=by
 obtain⟨AD,zk3,rfl,-,-⟩:=hd.form;obtain⟨A,cap,rfl⟩:=hg.form;have HD:=O (fun(W:World) (t:z6 [] w W) (m n:Int)=>Pw _ d m n W (hd.q8 t));have HG:=p7 (fun W t=>hg.q8 t);have HR:Hid (R7 d s c false g=R7 d s c false g):=O rfl;generalize Cp:R7 d s c false g=n9 at*;have Hr:=O Cp;clear hd hg Cp HR;go_enter Tryz.func249,Tryz.ntmps249;go_wp2_with fail;go_loopw [9,10] (fun tv ti wr=>qw6 w d s c g n9 tv ti wr) (fun _ ti _=>g.length - (intOf ti).toNat)
 case atStart=>exact⟨0,false,by omega,rfl,rfl,z8 _ _,O Hr.o.symm⟩
 case round=>
  obtain⟨k,has,hk,rfl,rfl,ht,HX⟩:=hrel;by_cases Z:k<g.length
  ·have j1:(k:Int)< (g.length:Int):=by omega
   have mu:=HG.o wr ht;obtain⟨b,off,rfl,hb⟩:=mu.addr Z;obtain⟨ca,cb⟩:=Q0.at_ mu Z;have N5:Hid (n9=if g[k].a=s then R7 d s c (g[k].b==c) (g.drop (k+1))else if J8 d g[k].a g[k].b then R7 d s c has (g.drop (k+1))else false):=O (by rw[HX.o,Rd Z];rfl);have R_:=p7 (fun W t=>HD.o W (ht.Y t) g[k].a g[k].b);clear HX mu;generalize g[k].a=xa at*;generalize g[k].b=xb at*;have HT:=O ht;clear ht;by_cases h1:xa=s
   ·have d1:(xa==s)=true:=by simpa using h1
    have My:Hid (n9=R7 d s c (xb==c) (g.drop (k+1))):=O (by rw[N5.o,x9 h1]);clear N5 h1;go_wp2_with fail;exact⟨⟨k+1,xb==c,by omega,rfl,by go_num,HT.o,My⟩,by simp[intOf];omega⟩
   ·have d1:(xa==s)=false:=by simpa using h1
    have My:Hid (n9=if J8 d xa xb then R7 d s c has (g.drop (k+1))else false):=O (by rw[N5.o,z9 h1]);clear N5 h1;generalize J8 d xa xb=q at*;go_wp2_with fail;have HOW:=O (fun n=>R_.o _ ((z8 [] wr).drewN n))
    cases q with
    | true=>
     have K_:Hid (n9=R7 d s c has (g.drop (k+1))):=O (by rw[My.o];rfl);go_quiet ((first | (go_at_call 265;exact x8 (HOW.o _))));go_wp2_with fail;exact⟨⟨k+1,has,by omega,rfl,by go_num,HT.o.drewN _,K_⟩,by simp[intOf];omega⟩
    | false=>
     have K_:Hid (n9=false):=O (by rw[My.o];rfl);go_quiet ((first | (go_at_call 265;exact x8 (HOW.o _))));go_wp2_with fail;go_ret;exact⟨v9 (by rw[K_.o]),HT.o.drewN _⟩
  ·have j1: ¬(k:Int)< (g.length:Int):=by omega
   have K_:Hid (n9=has):=O (by rw[HX.o,Hz (by omega)];rfl);clear HX;go_wp2_with fail;go_ret;exact⟨v9 (by rw[K_.o]),ht⟩
def Nm (w:World)(v:Value)(gs:List (List Cx)):Prop:= ∃K1:List Value,K1.length=gs.length∧Reads w 1 v gs.length K1∧ ∀(j:Nat) g c,gs[j]? =some g→K1[j]? =some c→Q0 w c g
variable{x:Dx}{s c y:Int}{gs:List (List Cx)}{d d0:List Dx}{k m:Nat}{A:Option Addr}{p:Px}{α:Type}{v:Value}{w w':World}{f:α→Int}{l:List α}
theorem Nm.q8 (h:Nm w v gs)(t:z6 [] w w'):Nm w' v gs:=by
 obtain⟨K1,h1,h2,h3⟩:=h;exact⟨K1,h1,Reads.q8 h2 t,fun j g c hg hc=>(h3 j g c hg hc).q8 t⟩
theorem Nm.form (h:Nm w v gs): ∃A cap,v= .slice A gs.length cap∧gs.length≤cap∧cap≤9223372036854775807:=by
 obtain⟨K1,h1,⟨A,cap,rfl,h2,h3,-⟩,-⟩:=h;unfold maxLen at h3;exact⟨A,cap,rfl,h2,by omega⟩
theorem Nm.at_ {cap:Nat}(h:Nm w (.slice A gs.length cap) gs)(hk:k<gs.length): ∃b off c,A=some ⟨b,off,none⟩∧b<w.heap.size∧ ∀w',z6 [] w w'→w'.cell? ⟨b,off+k,none⟩=some c∧Q0 w' c gs[k]:=by
 obtain⟨K1,h1,⟨A',Ak,e,h2,h3,h4,h5⟩,h6⟩:=h;injection e with e1 e2 e3;subst e1;obtain⟨b,off,rfl,hb,hc⟩:=h5 (by omega);have CI:k<K1.length:=by omega
 have h7:=h6 k _ _ (j6 hk) (j6 CI);exact⟨b,off,K1[k],rfl,hb,fun w' t=>⟨(t.cell (p:=⟨b,off+k,none⟩) hb (by simp)).trans (hc k _ (j6 CI)),h7.q8 t⟩⟩
theorem Nm.take {cap:Nat}(h:Nm w (.slice A gs.length cap) gs)(hk:k≤gs.length):Nm w (.slice A (gs.take k).length cap) (gs.take k):=by
 obtain⟨K1,h1,⟨A',Ak,e,h2,h3,h4,h5⟩,h6⟩:=h;injection e with e1 e2 e3;subst e1 e3;have hl:(gs.take k).length=k:=by rw[Y8];omega
 refine⟨K1.take k,by rw[Y8,Y8,h1],⟨A,cap,rfl,by omega,h3,by rw[Y8,hl];omega,fun hp=> ?_⟩,fun j g c hg hc=> ?_⟩
 ·obtain⟨b,off,e,hb,hc⟩:=h5 (by omega);refine⟨b,off,e,hb,fun j u hu=>hc j u ?_⟩;rw[Tw]at hu;split at hu
  ·exact hu
  ·cases hu
 ·rw[Tw]at hg hc;split at hg
  ·rename_i hj;rw[x9 hj]at hc;exact h6 j g c hg hc
  ·cases hg
def Jk (p:Px)(gs:List (List Cx))(d:List Dx)(s c:Int):Bool:=gs.any (fun g=>R7 d s c false g) || dw p d s c
theorem iS (p:Px)(VD VP VL VC v vs:Value)(gs:List (List Cx))(d:List Dx)(s c:Int)(w:World)(h:K3 w VD VP VL VC p)(hs:Nm w vs gs)(hv:C0 w v d)(V5:P0 p)(J3:J5 p=true)(hc: -1000≤c∧c≤1000)(Bo:gs.length≤100000)(gQ: ∀g∈gs,g.length≤100000):Calls Tryz.prog 221 #[.agg #[VD,VP,VL,VC],vs,v,.int .i64 s,.int .i64 c] w fun r w'=>r= .returned (.bool (Jk p gs d s c))∧z6 [] w w':=by
 have HRM:=p7 (fun W t=>pL p VD VP VL VC v d s c W (h.q8 t) (hv.q8 t) V5 J3 hc);have HNG:=p7 (fun W t=>hs.q8 t);have HGS:=O gQ;have aC:=O (fun(W:World) (t:z6 [] w W) (vg:Value) (g:List Cx) (hg:Q0 W vg g) (hl:g.length≤100000)=>iT v vg d g s c W (hv.q8 t) hg hl);have Tk:Hid (∀(k:Nat) (hk:k<gs.length),R7 d s c false gs[k]=true→Jk p gs d s c=true):=O (fun k hk e=>by unfold Jk;rw[nW (f:=fun g=>R7 d s c false g) hk e];rfl);have qP:Hid (gs.all (fun g=> !R7 d s c false g)=true→Jk p gs d s c=dw p d s c):=O (fun e=>by unfold Jk;rw[nV e];rfl);generalize Jk p gs d s c=n9 at*;obtain⟨A,cap,rfl,-,-⟩:=hv.form;obtain⟨AG,qd1,rfl,WQ,s_⟩:=hs.form;obtain⟨AD,cD,rfl,-,-⟩:=h.d.form;obtain⟨AP,cP,rfl⟩:=h.pr.form;obtain⟨AL,cL,rfl⟩:=h.ld.form;obtain⟨AC,cC,rfl⟩:=h.cp.form;have Bb:=p7 (fun W t=>h.q8 t);have b0:=j4.new w 29 #[.slice AD p.D.length cD,.slice AP p.R.P.length cP,.slice AL p.R.L.length cL,.slice AC p.R.C.length cC];have o6:z6 [] w (w.alloc (.cells #[.slice AD p.D.length cD,.slice AP p.R.P.length cP,.slice AL p.R.L.length cL,.slice AC p.R.C.length cC] 29)):=(z8 [] w).alloc _;have HK:Hid (∀W',z6 [] (w.alloc (.cells #[.slice AD p.D.length cD,.slice AP p.R.P.length cP,.slice AL p.R.L.length cL,.slice AC p.R.C.length cC] 29)) W'→W'.cell? ⟨w.heap.size,0,none⟩=some (.slice AD p.D.length cD)∧W'.cell? ⟨w.heap.size,1,none⟩=some (.slice AP p.R.P.length cP)∧W'.cell? ⟨w.heap.size,2,none⟩=some (.slice AL p.R.L.length cL)∧W'.cell? ⟨w.heap.size,3,none⟩=some (.slice AC p.R.C.length cC)):=O (fun W' t=>(b0.z7 t (by simp)).F2);have m9:=O o6;clear b0 o6 h;clear hv hs V5 J3 gQ;go_enter Tryz.func221,Tryz.ntmps221;go_wp2_with fail;generalize El:w.alloc _=w0 at*;clear El;generalize w.heap.size=g at*;go_loopw [11] (fun ti wr=>C9 (fun g=> !R7 d s c false g) w0 gs ti wr) (fun ti _=>gs.length - (intOf ti).toNat)
 case atStart=>exact⟨0,by omega,rfl,z8 _ _,O (fun j x h=>by omega)⟩
 case round=>
  obtain⟨k,hk,rfl,ht,HX⟩:=hrel;by_cases Z:k<gs.length
  ·have j1:(k:Int)< (gs.length:Int):=by omega
   have hng:=HNG.o wr (m9.o.Y ht);obtain⟨b,off,cg,rfl,hb,N0⟩:=hng.at_ Z;obtain⟨c0,T2⟩:=N0 wr (z8 _ _);have hgk:=HGS.o _ (k8 Z);have D7:=O (Tk.o k Z);have I5:Hid (R7 d s c false gs[k]=false→ ∀(j:Nat) x,j<k+1→gs[j]? =some x→(!R7 d s c false x)=true):=O (fun e=>X7 HX.o Z (by simp[e]));have QS:=O (aC.o wr (m9.o.Y ht) cg gs[k] T2 hgk);obtain⟨A3,c3,rfl⟩:=T2.form;clear hng N0 T2 HX hgk;generalize R7 d s c false gs[k]=q at*;have HT:=O ht;clear ht;go_wp2_with fail;refine QS.o.mono ?_;rintro r w2 ⟨rfl,t2⟩;have Q8:=O (HT.o.Y t2);clear t2
   cases q with
   | true=>
    have y5:=O (D7.o rfl);go_wp2_with fail;go_ret;exact⟨v9 (by rw[y5.o]),m9.o.Y Q8.o⟩
   | false=>
    have W7:=O (I5.o rfl);go_wp2_with fail;exact⟨⟨k+1,by omega,by go_num,Q8.o,W7⟩,by simp[intOf];omega⟩
  ·have j1: ¬(k:Int)< (gs.length:Int):=by omega
   have HF:=O (qP.o (U8 HX.o (by omega)));obtain⟨r0,r1,r2,r3⟩:=HK.o wr ht;have rG:=O (HRM.o wr (m9.o.Y ht));have D6:=O (m9.o.Y ht);clear HX ht;go_wp2_with fail;refine rG.o.mono ?_;rintro r w2 ⟨rfl,t2⟩;go_wp2_with fail;go_ret;exact⟨v9 (by rw[HF.o]),D6.o.Y t2⟩
theorem Mh {g:List Cx}(h:Iw g=true):g.Pairwise (fun x y=>x.a≠y.a):=by
 rw[Yg];intro i j hi hj Rl;have:=oL (Fs.1 h).2 (j - i - 1) i g[i] g[j] (j6 hi) (by rw[show i+1+(j - i - 1)=j by omega];exact j6 hj);omega
theorem Pz : ∀(g:List Cx) (has:Bool),g.Pairwise (fun x y=>x.a≠y.a)→(R7 d s c has g=true↔(∀y∈g,y.a≠s→F5 (J1 d) y.a y.b)∧((∃y∈g,y.a=s∧y.b=c)∨((∀y∈g,y.a≠s)∧has=true)))
 | [],has,_=>by simp[R7]
 | y::g,has,hp=>by
  obtain⟨h1,h2⟩:=Yh.1 hp;unfold R7;by_cases hs:y.a=s
  ·rw[x9 hs,Pz g _ h2];have Iz: ∀z∈g,z.a≠s:=fun z hz e=>h1 z hz (hs.trans e.symm);constructor
   ·rintro⟨h3,h4⟩;refine⟨fun z hz Vj=> ?_,.inl ?_⟩
    ·rcases m6.1 hz with rfl | hz
     ·exact absurd hs Vj
     ·exact h3 z hz Vj
    ·rcases h4 with⟨z,hz,e,-⟩ | ⟨-,e⟩
     ·exact absurd e (Iz z hz)
     ·exact⟨y,N3,hs,by simpa using e⟩
   ·rintro⟨h3,h4⟩;refine⟨fun z hz Vj=>h3 z (T8 _ hz) Vj,.inr ⟨Iz,?_⟩⟩;rcases h4 with⟨z,hz,e,e2⟩ | ⟨h5,-⟩
    ·rcases m6.1 hz with rfl | hz
     ·simpa using e2
     ·exact absurd e (Iz z hz)
    ·exact absurd hs (h5 y N3)
  ·rw[z9 hs];by_cases ho:J8 d y.a y.b=true
   ·rw[x9 ho,Pz g _ h2];have ho2:=L8.1 ho;constructor
    ·rintro⟨h3,h4⟩;refine⟨fun z hz Vj=> ?_,?_⟩
     ·rcases m6.1 hz with rfl | hz
      ·exact ho2
      ·exact h3 z hz Vj
     ·rcases h4 with⟨z,hz,e⟩ | ⟨h5,e⟩
      ·exact .inl ⟨z,T8 _ hz,e⟩
      ·exact .inr ⟨fun z hz=>by
        rcases m6.1 hz with rfl | hz
        ·exact hs
        ·exact h5 z hz,e⟩
    ·rintro⟨h3,h4⟩;refine⟨fun z hz Vj=>h3 z (T8 _ hz) Vj,?_⟩;rcases h4 with⟨z,hz,e,e2⟩ | ⟨h5,e⟩
     ·rcases m6.1 hz with rfl | hz
      ·exact absurd e hs
      ·exact .inl ⟨z,hz,e,e2⟩
     ·exact .inr ⟨fun z hz=>h5 z (T8 _ hz),e⟩
   ·rw[z9 ho];constructor
    ·intro h;cases h
    ·rintro⟨h3,-⟩;exact absurd (L8.2 (h3 y N3 hs)) ho
theorem kX (hg: ∀g∈gs,Iw g=true):Jk p gs d s c=true↔rY p gs (J1 d) s c:=by
 unfold Jk rY dN;rw[S9,KZ,Ua];constructor
 ·rintro(⟨g,hm,h⟩ | h)
  ·obtain⟨h1,h2⟩:=(Pz g false (Mh (hg g hm))).1 h;rcases h2 with h2 | ⟨-,h2⟩
   ·exact .inl ⟨g,hm,h2,h1⟩
   ·cases h2
  ·exact .inr h
 ·rintro(⟨g,hm,h1,h2⟩ | h)
  ·exact .inl ⟨g,hm,(Pz g false (Mh (hg g hm))).2 ⟨h2,.inl h1⟩⟩
  ·exact .inr h
def Cc (d:List Dx):Nat:=(d.map (fun x=>x.ch.length)).sum
theorem eR (s c:Int)(x:Dx):(Tt s c x).ch.length≤x.ch.length:=L3 _ _
theorem Pj (s c:Int): ∀d:List Dx,Cc (Y3 s c d)≤Cc d
 | []=>a9 _
 | x::d=>by
  have h1:=eR s c x;have h2:=Pj s c d;unfold Cc Y3 at*;simp only[Bw,Hy]at*;omega
theorem Ph : ∀ {d:List Dx},J1 d s c→Cc (Y3 s c d)<Cc d
 | [],h=>by obtain⟨x,hx,-⟩:=h;cases hx
 | x::d,h=>by
  have h1:=eR s c x;have h2:=Pj s c d;obtain⟨y,hy,e1,e2⟩:=h;rcases m6.1 hy with rfl | hy
  ·have:(Tt s c y).ch.length<y.ch.length:=by
    unfold Tt;simp only;refine Nat.lt_of_le_of_ne (L3 _ _) (fun e=> ?_);have:=List.length_filter_eq_length_iff.1 e c e2;unfold I3 at this;rw[e1]at this;simp at this
   unfold Cc Y3 at*;simp only[Bw,Hy]at*;omega
  ·have h3:=Ph (d:=d) ⟨y,hy,e1,e2⟩;unfold Cc Y3 at*;simp only[Bw,Hy]at*;omega
structure Dz (d:List Dx):Prop where
 st:d.Pairwise (fun x y=>x.st≠y.st)
 ch: ∀x∈d,x.ch.Pairwise (· < ·)
 rg: ∀x∈d,∀c∈x.ch,2≤c∧c≤51
theorem Dz.drop (h:Dz d)(s c:Int):Dz (Y3 s c d):=by
 refine⟨?_,fun x hx=> ?_,fun x hx e he=> ?_⟩
 ·unfold Y3;rw[List.pairwise_map];exact h.st
 ·obtain⟨y,hy,rfl⟩:=F4.1 hx;exact(h.ch y hy).filter _
 ·obtain⟨y,hy,rfl⟩:=F4.1 hx;exact h.rg y hy e (G4.1 he).1
theorem Dz.xZ (h:Dz d)(s c:Int):Dz (S8 s c d):=by
 refine⟨?_,fun x hx=> ?_,fun x hx e he=> ?_⟩
 ·unfold S8;rw[List.pairwise_map];refine h.st.imp (fun {a b} jN=> ?_);have e1: ∀x:Dx,(Qv s c x).st=x.st:=fun x=>by unfold Qv;split<;>rfl
  rw[e1,e1];exact jN
 ·obtain⟨y,hy,rfl⟩:=F4.1 hx;unfold Qv;split
  ·simp only;split<;>simp
  ·exact h.ch y hy
 ·obtain⟨y,hy,rfl⟩:=F4.1 hx;unfold Qv at he;split at he
  ·simp only at he;split at he
   ·rename_i hc;rw[y7]at he;subst he;exact h.rg y hy _ (by simpa using hc)
   ·cases he
  ·exact h.rg y hy e he
theorem fV {s c st:Int}: ∀ {l:List Int} {k:Nat},l.Pairwise (· < ·)→(hk:k<l.length)→l[k]=c→(l.filter (I3 s c st)).take k=l.take k∧k≤(l.filter (I3 s c st)).length
 | [],k,_,hk,_=>by simp at hk
 | x::l,0,_,_,_=>by simp
 | x::l,k+1,hp,hk,he=>by
  obtain⟨h1,h2⟩:=Yh.1 hp;have V9:k<l.length:=by simpa using hk
  have qM:l[k]=c:=by simpa using he
  obtain⟨i1,i2⟩:=fV (s:=s) (c:=c) (st:=st) h2 V9 qM;have hx:x<c:=by rw[←qM];exact h1 _ (k8 V9)
  have hf:I3 s c st x=true:=by
   unfold I3;rw[S9];right;have:x≠c:=by omega
   simpa using this
  rw[cU hf,List.take_succ_cons,List.take_succ_cons,i1];exact⟨rfl,by simpa using i2⟩
theorem e8.unique {l l':List Int}(h:e8 w v l)(h':e8 w v l'):l=l':=by
 obtain⟨A,cap,rfl⟩:=h.form;obtain⟨A',Ak,e⟩:=h'.form;injection e with e1 e2 e3;refine List.ext_getElem e2 (fun k h1 h2=> ?_);obtain⟨b,off,rfl,-⟩:=h.addr h1;have c1:=e8.at_ h h1;rw[e2]at h';have c2:=e8.at_ h' h2;rw[c1]at c2;injection c2 with c2;injection c2
theorem C0.unique {d':List Dx}(h:C0 w v d)(h':C0 w v d'):d=d':=by
 obtain⟨A,cap,rfl,-,-⟩:=h.form;obtain⟨A',Ak,e,-,-⟩:=h'.form;injection e with e1 e2 e3;refine List.ext_getElem e2 (fun k h1 h2=> ?_);obtain⟨b,off,c,rfl,-,-,H⟩:=h.at_ h1;rw[e2]at h';obtain⟨b2,Hn,c2,e4,-,-,H2⟩:=h'.at_ h2;injection e4 with e4;injection e4 with e5 e6;subst e5 e6;obtain⟨a1,a2,a3⟩:=H w (z8 _ _);obtain⟨b1,b2,b3⟩:=H2 w (z8 _ _);rw[a1]at b1;rw[a2]at b2;injection b1 with b1;injection b1 with _ b1;injection b2 with b2;subst b2;have e7:=a3.unique b3;cases hx:d[k];cases hy:d'[k];rw[hx,hy]at b1 e7;simp only at b1 e7;rw[b1,e7]
open Classical in
noncomputable def sR (w:World)(v:Value):Nat:=if h: ∃d,C0 w v d then Cc h.choose else 0
theorem uZ (h:C0 w v d):sR w v=Cc d:=by
 unfold sR;have he: ∃d,C0 w v d:=⟨d,h⟩;rw[dif_pos he,he.choose_spec.unique h]
def sV:Value→Nat
 | .bool true=>1
 | _=>0
structure Zl (p:Px)(gs:List (List Cx))(d0:List Dx)(w wr:World)(v:Value)(d:List Dx):Prop where
 Fb:z6 [] w wr
 Ms:C0 wr v d
 rP:Dz d
 st:d.map Dx.st=d0.map Dx.st
 sub:Qq (J1 d) (J1 d0)
 hold:S7 p gs (J1 d0) (J1 d)
theorem Zl.q8 {wr:World}(h:Zl p gs d0 w wr v d)(t:z6 [] wr w'):Zl p gs d0 w w' v d:=⟨h.Fb.Y t,h.Ms.q8 t,h.rP,h.st,h.sub,h.hold⟩
theorem Zl.len {wr:World}(h:Zl p gs d0 w wr v d):d.length=d0.length:=by
 have:=congrArg List.length h.st;simpa using this
theorem Zl.drop {wr:World}{v':Value}(h:Zl p gs d0 w wr v d)(hw: ∀x∈p.R.L,0≤x.c)(hg: ∀g∈gs,Iw g=true)(hr:Jk p gs d s c=true)(t:z6 [] wr w')(hd:C0 w' v' (Y3 s c d)):Zl p gs d0 w w' v' (Y3 s c d):=by
 refine⟨h.Fb.Y t,hd,h.rP.drop s c,?_,fun a b hm=>h.sub a b (fO.1 hm).1,h.hold.drop hw (fun a b hm=> ?_)⟩
 ·rw[←h.st];unfold Y3;rw[List.map_map];rfl
 ·by_cases e:a=s∧b=c
  ·right;rw[e.1,e.2];exact(kX hg).1 hr
  ·exact .inl (fO.2 ⟨hm,e⟩)
def Seen (p:Px)(gs:List (List Cx))(d:List Dx)(i:Nat)(k:Int):Prop:= ∀(j:Nat) x,d[j]? =some x→ ∀(m:Nat) c,x.ch[m]? =some c→(j<i∨(j=i∧k< (m:Int)))→Jk p gs d x.st c=false
theorem Seen.qg3 {i:Nat}{k:Int}(h:Seen p gs d i k)(hi:d.length≤i)(hg: ∀g∈gs,Iw g=true):S6 p gs (J1 d):=fun s c hm hr=>by
 obtain⟨x,hx,rfl,hc⟩:=hm;obtain⟨j,hj⟩:=Gk hx;obtain⟨m,hm⟩:=Gk hc;have:=h j x hj m c hm (.inl (by have:=(U4.1 hj).1;omega));rw[(kX hg).2 hr]at this;cases this
def eW (p:Px)(gs:List (List Cx))(d0:List Dx)(w:World)(r:Ending)(w':World):Prop:= ∃(v:Value) (b:Bool) (d:List Dx),r= .returned (.tuple #[v,.bool b])∧d.map Dx.st=d0.map Dx.st∧Great p gs (J1 d0) (J1 d)∧(b=true↔(∀x∈d,x.ch≠ [])∧ ∀g∈gs,g≠ [])∧z6 [] w w'
def YY (p:Px)(gs:List (List Cx))(d0:List Dx)(w:World)(tv tb:Value)(wr:World):Prop:= ∃(d:List Dx) (again:Bool),tb= .bool again∧Hid (Zl p gs d0 w wr tv d)∧Hid (again=false→S6 p gs (J1 d))
def JD (p:Px)(gs:List (List Cx))(d0:List Dx)(w:World)(EC:Nat)(tv tb ti:Value)(wr:World):Prop:= ∃(d:List Dx) (again:Bool) (i:Nat),tb= .bool again∧ti= .int .i64 (i:Int)∧i≤d0.length∧Hid (Zl p gs d0 w wr tv d)∧Hid (Cc d+(if again then 1 else 0)≤EC)∧Hid (again=false→Seen p gs d i 1000000)
def jf (p:Px)(gs:List (List Cx))(d0:List Dx)(w:World)(EC i:Nat)(tv tb tk:Value)(wr:World):Prop:= ∃(d:List Dx) (again:Bool) (k:Int) (x:Dx),tb= .bool again∧tk= .int .i64 k∧ -1≤k∧Hid (d[i]? =some x∧k< (x.ch.length:Int)∧(x.ch.length:Int)≤100000)∧Hid (Zl p gs d0 w wr tv d)∧Hid (Cc d+(if again then 1 else 0)≤EC)∧Hid (again=false→Seen p gs d i k)
theorem yj: ∀(l:List Int) (lo:Int),l.Pairwise (· < ·)→(∀c∈l,lo≤c∧c≤51)→lo≤52→(l.length:Int)≤52 - lo
 | [],lo,_,_,h=>by simp;omega
 | x::l,lo,hp,hr,h=>by
  obtain⟨h1,h2⟩:=Yh.1 hp;have hx:=hr x N3;have:=yj l (x+1) h2 (fun c hc=>⟨by have:=h1 c hc;omega,(hr c (T8 _ hc)).2⟩) (by omega);rw[Cz];omega
theorem Dz.few (h:Dz d): ∀x∈d,x.ch.length≤100000:=fun x hx=>by
 have:=yj x.ch 2 (h.ch x hx) (h.rg x hx) (by omega);omega
theorem gC (p:Px)(VD VP VL VC v vs:Value)(gs:List (List Cx))(d0:List Dx)(w:World)(h:K3 w VD VP VL VC p)(hs:Nm w vs gs)(hv:C0 w v d0)(V5:P0 p)(J3:J5 p=true)(hn:Dz d0)(hdl:d0.length≤100000)(Bo:gs.length≤100000)(gQ: ∀g∈gs,g.length≤100000)(hg: ∀g∈gs,Iw g=true):Calls Tryz.prog 172 #[.agg #[VD,VP,VL,VC],vs,v] w (eW p gs d0 w):=by
 have HW:=O (fun x hx=>(On J3 x hx).1);have HGC:=O hg;have HRM:=O (fun(W:World) (t:z6 [] w W) (v:Value) (d:List Dx) (s c:Int) (hv:C0 W v d) (hc: -1000≤c∧c≤1000)=>iS p VD VP VL VC v vs gs d s c W (h.q8 t) (hs.q8 t) hv V5 J3 hc Bo gQ);have qq7:Hid (Zl p gs d0 w w v d0):=O ⟨z8 _ _,hv,hn,rfl,fun _ _ h=>h,S7.start _ _ _⟩;have HNG:=p7 (fun W t=>hs.q8 t);obtain⟨A,cap,rfl,-,-⟩:=hv.form;obtain⟨AG,qd1,rfl,WQ,s_⟩:=hs.form;obtain⟨AD,cD,rfl,-,-⟩:=h.d.form;obtain⟨AP,cP,rfl⟩:=h.pr.form;obtain⟨AL,cL,rfl⟩:=h.ld.form;obtain⟨AC,cC,rfl⟩:=h.cp.form;have Bb:=p7 (fun W t=>h.q8 t);have b0:=j4.new w 29 #[.slice AD p.D.length cD,.slice AP p.R.P.length cP,.slice AL p.R.L.length cL,.slice AC p.R.C.length cC];have o6:z6 [] w (w.alloc (.cells #[.slice AD p.D.length cD,.slice AP p.R.P.length cP,.slice AL p.R.L.length cL,.slice AC p.R.C.length cC] 29)):=(z8 [] w).alloc _;have HK:Hid (∀W',z6 [] (w.alloc (.cells #[.slice AD p.D.length cD,.slice AP p.R.P.length cP,.slice AL p.R.L.length cL,.slice AC p.R.C.length cC] 29)) W'→W'.cell? ⟨w.heap.size,0,none⟩=some (.slice AD p.D.length cD)∧W'.cell? ⟨w.heap.size,1,none⟩=some (.slice AP p.R.P.length cP)∧W'.cell? ⟨w.heap.size,2,none⟩=some (.slice AL p.R.L.length cL)∧W'.cell? ⟨w.heap.size,3,none⟩=some (.slice AC p.R.C.length cC)):=O (fun W' t=>(b0.z7 t (by simp)).F2);have m9:=O o6;clear b0 o6 h;have Q9:Hid (Zl p gs d0 w (w.alloc (.cells #[.slice AD p.D.length cD,.slice AP p.R.P.length cP,.slice AL p.R.L.length cL,.slice AC p.R.C.length cC] 29)) (.slice A d0.length cap) d0):=O (qq7.o.q8 m9.o);clear hv hs V5 J3 gQ hn hg qq7;go_enter Tryz.func172,Tryz.ntmps172;go_wp2_with fail;generalize El:w.alloc _=w0 at*;clear El;generalize w.heap.size=g at*;go_loopw [2,8] (fun tv tb wr=>YY p gs d0 w tv tb wr∧z6 [] w0 wr) (fun tv tb wr=>2*sR wr tv+sV tb)
 case atStart=>exact⟨⟨d0,true,rfl,Q9,O (fun h=>by cases h)⟩,z8 _ _⟩
 case round=>
  clear Q9;obtain⟨⟨d,again,rfl,HS,HB⟩,OE⟩:=hrel;have zg4:=O OE;clear OE;obtain⟨A1,FQ,rfl,-,-⟩:=HS.o.Ms.form;have hlen:=HS.o.len;rw[hlen]at HS⊢
  cases again with
  | true=>
   have jS:=O (uZ HS.o.Ms)
   have ZF:Hid (JD p gs d0 w (Cc d) (.slice A1 d0.length FQ) (.bool false) (.int .i64 0) wr):=O ⟨d,false,0,rfl,rfl,by omega,HS,O (a9 _),O (fun _ j x hx m c hc hj=>by
    have h1:=HS.o.rP.few x (Mk hx);have h2:=(U4.1 hc).1
    omega)⟩
   clear hlen HB;go_wp2_with fail;have HM0:Hid (2*sR wr (.slice A1 d0.length FQ)+sV (.bool true)=2*Cc d+1):=O (by rw[jS.o];rfl);generalize Cc d=EC at*;clear HS jS;go_loopw [2,8,9] (fun tv tb ti wq=>JD p gs d0 w EC tv tb ti wq∧z6 [] w0 wq) (fun _ _ ti _=>d0.length - (intOf ti).toNat)
   case atStart=>exact⟨ZF.o,zg4.o⟩
   case round=>
    clear ZF;obtain⟨⟨d,again,i,rfl,rfl,hi,HS,HC,QL⟩,OE⟩:=hrel;obtain⟨A2,X2,rfl,-,-⟩:=HS.o.Ms.form;have hlen:=HS.o.len;by_cases Z:i<d0.length
    ·have j1:(i:Int)< (d0.length:Int):=by omega
     have Q7:i<d.length:=by omega
     obtain⟨b,off,cc,rfl,hb,I7,N0⟩:=HS.o.Ms.at_ Q7;obtain⟨c0,c1,B8⟩:=N0 wr (z8 _ _);obtain⟨A3,Qp,rfl⟩:=B8.form;have zj9:=HS.o.rP.few _ (k8 Q7)
     have KE:Hid (jf p gs d0 w EC i (.slice (some ⟨b,off,none⟩) d0.length X2) (.bool again) (.int .i64 ((d[i].ch.length:Int) - 1)) wr):=O ⟨d,again,_,d[i],rfl,rfl,by omega,O ⟨j6 Q7,by omega,by omega⟩,by rw[←hlen];exact HS,HC,O (fun e j x hx m c hc hj=>by
      rcases hj with hj | ⟨hj,hm⟩
      ·exact QL.o e j x hx m c hc (.inl hj)
      ·subst hj;rw[j6 Q7]at hx;injection hx with hx;subst hx;have:=(U4.1 hc).1
       omega)⟩
     rw[hlen]at HS⊢;generalize Nc:d[i].ch.length=cl at*;have hwr:IntKind.i64.wrap ((cl:Int) - 1)=(cl:Int) - 1:=IntWalk.i64_in _ (by omega);have Q8:=O OE;clear B8 N0 HS HC QL hlen Nc OE;go_wp2_with fail;go_loopw [2,8,10] (fun tv tb tk wq=>jf p gs d0 w EC i tv tb tk wq∧z6 [] w0 wq) (fun _ _ tk _=>(intOf tk+1).toNat)
     case atStart=>exact⟨KE.o,Q8.o⟩
     case round=>
      clear KE c0 c1 hwr Q8;obtain⟨⟨d,again,kz,x,rfl,rfl,Ku,jQ,HS,HC,QL⟩,OE⟩:=hrel;obtain⟨A4,RP,rfl,-,-⟩:=HS.o.Ms.form;have hlen:=HS.o.len;have Q8:=O OE;clear OE;by_cases Em:0≤kz
      ·obtain⟨m,rfl⟩:=K5 Em;obtain⟨hx,hm,Ja⟩:=jQ.o;have Q7:i<d.length:=(U4.1 hx).1;have CC:d[i]=x:=by rw[j6 Q7]at hx;injection hx
       have wU:m<x.ch.length:=by omega
       obtain⟨b,off,cc,rfl,hb,I7,N0⟩:=HS.o.Ms.at_ Q7;rw[CC]at N0;obtain⟨c0,c1,B8⟩:=N0 wr (z8 _ _);obtain⟨A3,Qp,rfl⟩:=B8.form;obtain⟨b2,Hn,rfl,U3⟩:=B8.addr wU;have c3:=e8.at_ B8 wU;have hrg:=HS.o.rP.rg x (Mk hx) x.ch[m] (k8 wU);obtain⟨r0,r1,r2,r3⟩:=HK.o wr Q8.o;have HRC:=p7 (fun W t=>HRM.o W (HS.o.Fb.Y t) (.slice (some ⟨b,off,none⟩) d.length RP) d x.st x.ch[m] (HS.o.Ms.q8 t) ⟨by omega,by omega⟩);have HDR:=p7 (fun W t=>lm (.slice (some ⟨b,off,none⟩) d.length RP) d x.st x.ch[m] W (HS.o.Ms.q8 t) (by omega) HS.o.rP.few);have HDP:=O (fun(W:World) (v':Value) (t:z6 [] wr W) (hd:C0 W v' (Y3 x.st x.ch[m] d)) (hr:Jk p gs d x.st x.ch[m]=true)=>HS.o.drop HW.o HGC.o hr t hd);have HCT:=O (Ph (s:=x.st) (c:=x.ch[m]) (d:=d) ⟨x,Mk hx,rfl,k8 wU⟩);have HAH:=O (fV (s:=x.st) (c:=x.ch[m]) (st:=x.st) (HS.o.rP.ch x (Mk hx)) wU rfl)
       have zh0:Hid (Jk p gs d x.st x.ch[m]=false→again=false→Seen p gs d i ((m:Int) - 1)):=O (fun e1 e2 j y hy n c hc hj=>by
        by_cases hjn:j=i∧n=m
        ·rw[hjn.1,hx]at hy;injection hy with hy;subst hy;rw[hjn.2,j6 wU]at hc;injection hc with hc;rw[←hc];exact e1
        ·exact QL.o e2 j y hy n c hc (by omega))
       have J_:Hid ((Y3 x.st x.ch[m] d)[i]? =some (Tt x.st x.ch[m] x)):=O (by unfold Y3;rw[Jq,hx];rfl);have Jh:=O Ja;unfold Va at HDR;have mq:m<100000:=by omega
       clear B8 N0 QL I7 Ja CC;rw[hlen]at HRC HDR HS⊢;have hdl:(Y3 x.st x.ch[m] d).length=d0.length:=by unfold Y3;rw[Cy,hlen]
       rw[hdl]at HDR;have hwr:IntKind.i64.wrap ((m:Int) - 1)=(m:Int) - 1:=IntWalk.i64_in _ (by omega);have mj:decide ((0:Int)≤(m:Int))=true:=b_ (by omega);clear hdl;generalize Jk p gs d x.st x.ch[m]=q at*;have HX:=O hx;clear hx hrg jQ hm;have uq:=O wU;go_wp2_with fail;go_quiet (fail);go_wp2_with fail;refine(HRC.o _ ((z8 [] wr).drewN _)).mono ?_;rintro r w2 ⟨rfl,t2⟩;have B4:=O (((z8 [] wr).drewN _).Y t2);clear t2
       cases q with
       | false=>
        have HE:Hid (jf p gs d0 w EC i (.slice (some ⟨b,off,none⟩) d0.length RP) (.bool again) (.int .i64 ((m:Int) - 1)) w2):=O ⟨d,again,_,x,rfl,rfl,by omega,O ⟨HX.o,by have:=uq.o;omega,by have:=uq.o;have:=Jh.o;omega⟩,O (HS.o.q8 B4.o),HC,O (zh0.o rfl)⟩;go_wp2_with fail;exact⟨⟨HE.o,Q8.o.Y B4.o⟩,by simp[intOf]⟩
       | true=>
        go_wp2_with fail;refine(HDR.o _ B4.o).mono ?_;rintro r w3 ⟨A5,qd2,rfl,hd5,t3⟩;have V3:=O (B4.o.Y t3);have HE:Hid (jf p gs d0 w EC i (.slice A5 d0.length qd2) (.bool true) (.int .i64 ((m:Int) - 1)) w3):=O ⟨_,true,_,_,rfl,rfl,by omega,O ⟨J_.o,by have:=HAH.o.2;unfold Tt;simp only;omega,by have:=eR x.st (x.ch[m]) x;have:=uq.o;have:=Jh.o;omega⟩,O (HDP.o w3 _ V3.o hd5 trivial),O (by have:=HCT.o;have:=HC.o;simp;omega),O (fun e=>by cases e)⟩;clear hd5 t3;go_wp2_with fail;exact⟨⟨HE.o,Q8.o.Y V3.o⟩,by simp[intOf]⟩
      ·have hkm:kz= -1:=by omega
       subst hkm
       have HE:Hid (JD p gs d0 w EC (.slice A4 d.length RP) (.bool again) (.int .i64 ((i+1:Nat):Int)) wr):=O ⟨d,again,i+1,rfl,rfl,by omega,HS,HC,O (fun e j y hy n c hc hj=>QL.o e j y hy n c hc (by
        rcases hj with hj | ⟨hj,hn⟩
        ·by_cases e2:j<i
         ·exact .inl e2
         ·exact .inr ⟨by omega,by omega⟩
        ·exfalso;have h1:=HS.o.rP.few y (Mk hy);have h2:=(U4.1 hc).1
         omega))⟩
       clear HS HC QL jQ Ku hlen;go_wp2_with fail;exact⟨⟨HE.o,Q8.o⟩,by simp[intOf];omega⟩
    ·have j1: ¬(i:Int)< (d0.length:Int):=by omega
     rw[hlen]at HS⊢;have HE:Hid (YY p gs d0 w (.slice A2 d0.length X2) (.bool again) wr):=O ⟨d,again,rfl,HS,O (fun e=>(QL.o e).qg3 (by omega) HGC.o)⟩
     have U_:Hid (2*sR wr (.slice A2 d0.length X2)+sV (.bool again)<2*EC+1):=O (by
      rw[uZ HS.o.Ms];have:=HC.o
      cases again with
      | true=>simp[sV]at this⊢;omega
      | false=>simp[sV]at this⊢;omega)
     have Q8:=O OE;clear OE hlen Z HS HC QL;go_wp2_with fail;exact⟨⟨HE.o,Q8.o⟩,by rw[HM0.o];exact U_.o⟩
  | false=>
   have HGT:=O (HS.o.hold.YM HS.o.sub (HB.o rfl));have HD:=p7 (fun W t=>(hlen ▸ HS.o.Ms.q8 t:C0 W (.slice A1 d.length FQ) d));have zg8:=O HS.o.st;have Zy:=O HS.o.Fb;clear HS HB;go_wp2_with fail;have JE:Hid (∀(v:Value) (b:Bool) (W:World),(b=true↔(∀x∈d,x.ch≠ [])∧ ∀g∈gs,g≠ [])→z6 [] wr W→eW p gs d0 w (.returned (.tuple #[v,.bool b])) W):=O (fun v b W hb t=>⟨v,b,d,rfl,zg8.o,HGT.o,hb,Zy.o.Y t⟩);generalize wr=wa at*;go_loopw [13] (fun ti wq=>C9 (fun x:Dx=> !x.ch.isEmpty) wa d ti wq) (fun ti _=>d0.length - (intOf ti).toNat)
   case atStart=>exact⟨0,by omega,rfl,z8 _ _,O (fun j x h=>by omega)⟩
   case round=>
    obtain⟨k,hk,rfl,ht,HX⟩:=hrel;by_cases Z:k<d.length
    ·have j1:(k:Int)< (d0.length:Int):=by omega
     obtain⟨b,off,cc,rfl,hb,-,N0⟩:=(HD.o wr ht).at_ Z;obtain⟨c0,c1,B8⟩:=N0 wr (z8 _ _);obtain⟨A3,Qp,rfl⟩:=B8.form;have I5:Hid ((!d[k].ch.isEmpty)=true→ ∀(j:Nat) (x:Dx),j<k+1→d[j]? =some x→(!x.ch.isEmpty)=true):=O (fun e=>X7 (good:=fun x:Dx=> !x.ch.isEmpty) HX.o Z e);have D7:Hid (d[k].ch= []→ ¬((∀x∈d,x.ch≠ [])∧ ∀g∈gs,g≠ [])):=O (fun e h=>h.1 d[k] (k8 Z) e);have HT:=O ht;clear HX N0 B8 ht;generalize d[k].ch=ch at*
     cases ch with
     | nil=>
      have HF:=O (D7.o rfl);go_wp2_with fail;exact bodyPost_ret (results_tmp2 rfl _ _ _) rfl (JE.o _ _ _ ⟨fun e=>(by cases e),fun e=>absurd e HF.o⟩ HT.o)
     | cons y ys=>
      have W7:=O (I5.o rfl);have hz:(((y::ys).length:Int)==0)=false:=by simp;omega
      generalize (y::ys).length=nl at*;go_wp2_with fail;exact⟨⟨k+1,by omega,by go_num,HT.o,W7⟩,by simp[intOf];omega⟩
    ·have j1: ¬(k:Int)< (d0.length:Int):=by omega
     have M5:=O (U8 HX.o (by omega));have D6:=O ht;clear HX ht;go_wp2_with fail;go_loopw [14] (fun ti wq=>C9 (fun g:List Cx=> !g.isEmpty) wa gs ti wq) (fun ti _=>gs.length - (intOf ti).toNat)
     case atStart=>exact⟨0,by omega,rfl,D6.o,O (fun j x h=>by omega)⟩
     case round=>
      clear D6;obtain⟨k,hk,rfl,ht,HX⟩:=hrel;by_cases Z:k<gs.length
      ·have j1:(k:Int)< (gs.length:Int):=by omega
       obtain⟨b,off,cc,rfl,hb,N0⟩:=(HNG.o wr (Zy.o.Y ht)).at_ Z;obtain⟨c0,T2⟩:=N0 wr (z8 _ _);obtain⟨A3,Qp,rfl⟩:=T2.form;have I5:Hid ((!gs[k].isEmpty)=true→ ∀(j:Nat) (x:List Cx),j<k+1→gs[j]? =some x→(!x.isEmpty)=true):=O (fun e=>X7 (good:=fun g:List Cx=> !g.isEmpty) HX.o Z e);have D7:Hid (gs[k]= []→ ¬((∀x∈d,x.ch≠ [])∧ ∀g∈gs,g≠ [])):=O (fun e h=>h.2 gs[k] (k8 Z) e);have HT:=O ht;clear HX N0 T2 ht;generalize gs[k]=ch at*
       cases ch with
       | nil=>
        have HF:=O (D7.o rfl);go_wp2_with fail;exact bodyPost_ret (results_tmp2 rfl _ _ _) rfl (JE.o _ _ _ ⟨fun e=>(by cases e),fun e=>absurd e HF.o⟩ HT.o)
       | cons y ys=>
        have W7:=O (I5.o rfl);have hz:(((y::ys).length:Int)==0)=false:=by simp;omega
        generalize (y::ys).length=nl at*;go_wp2_with fail;exact⟨⟨k+1,by omega,by go_num,HT.o,W7⟩,by simp[intOf];omega⟩
      ·have j1: ¬(k:Int)< (gs.length:Int):=by omega
       have HAG:=O (U8 HX.o (by omega));have aB:Hid ((∀x∈d,x.ch≠ [])∧(∀g∈gs,g≠ [])):=O ⟨fun x hx e=>(by have:=Z6.1 M5.o x hx;rw[e]at this;exact absurd this (by decide)),fun x hx e=>(by have:=Z6.1 HAG.o x hx;rw[e]at this;exact absurd this (by decide))⟩;have HT:=O ht;clear HX ht;go_wp2_with fail;exact bodyPost_ret (results_tmp2 rfl _ _ _) rfl (JE.o _ _ _ ⟨fun _=>aB.o,fun _=>rfl⟩ HT.o)
def Z0 (d:List Dx)(l:List Cx):List Dx:=l.foldl (fun d y=>S8 y.a y.b d) d
theorem Vg {l:List Cx}(hk:k<l.length):Z0 d (l.take (k+1))=S8 l[k].a l[k].b (Z0 d (l.take k)):=by
 unfold Z0;rw[Cw hk,kJ];rfl
theorem MN (s c:Int)(d:List Dx):(S8 s c d).map Dx.st=d.map Dx.st:=by
 unfold S8;rw[List.map_map];refine kH (fun x _=> ?_);show(Qv s c x).st=x.st;unfold Qv;split<;>rfl
theorem Dk: ∀(l:List Cx) (d:List Dx),(Z0 d l).map Dx.st=d.map Dx.st
 | [],_=>rfl
 | y::l,d=>by
  show(Z0 (S8 y.a y.b d) l).map Dx.st=_;rw[Dk l,MN]
theorem Fu: ∀(l:List Cx) {d:List Dx},Dz d→Dz (Z0 d l)
 | [],_,h=>h
 | y::l,_,h=>Fu l (h.xZ y.a y.b)
theorem Mc : ∀(l:List Cx) (d:List Dx),J1 (Z0 d l) s c↔J1 d s c∧ ∀y∈l,s=y.a→c=y.b
 | [],d=>by simp[Z0]
 | y::l,d=>by
  show J1 (Z0 (S8 y.a y.b d) l) s c↔_;rw[Mc l,Lw];constructor
  ·rintro⟨⟨h1,h2⟩,h3⟩;refine⟨h1,fun z hz e=> ?_⟩;rcases m6.1 hz with rfl | hz
   ·exact h2 e
   ·exact h3 z hz e
  ·rintro⟨h1,h2⟩;exact⟨⟨h1,fun e=>h2 y N3 e⟩,fun z hz e=>h2 z (T8 _ hz) e⟩
def Yn (p:Px)(gs:List (List Cx))(M0:Left)(sts:List Int):Prop:= ∃M,Great p gs M0 M∧(∀s∈sts,∃c,M s c)∧ ∀g∈gs,g≠ []
theorem AX {M0:Left}(h:Great p gs M0 (J1 d))(hn:d.Pairwise (fun x y=>x.st≠y.st)):Yn p gs M0 (d.map Dx.st)↔(∀x∈d,x.ch≠ [])∧ ∀g∈gs,g≠ []:=by
 constructor
 ·rintro⟨M,hM,h1,h2⟩;refine⟨fun x hx e=> ?_,h2⟩;obtain⟨c,hc⟩:=h1 x.st (kF hx);obtain⟨y,hy,e1,e2⟩:=(h.unique hM x.st c).2 hc
  have:y=x:=by
   obtain⟨i,hi,rfl⟩:=Bg hx;obtain⟨j,hj,rfl⟩:=Bg hy;rw[Yg]at hn;rcases dM i j with Rl | rfl | Rl
   ·exact absurd e1.symm (hn i j hi hj Rl)
   ·rfl
   ·exact absurd e1 (hn j i hj hi Rl)
  subst this;rw[e]at e2;cases e2
 ·rintro⟨h1,h2⟩;refine⟨J1 d,h,fun s hs=> ?_,h2⟩;obtain⟨x,hx,rfl⟩:=F4.1 hs
  cases hc:x.ch with
  | nil=>exact absurd hc (h1 x hx)
  | cons c t=>exact⟨c,x,hx,rfl,by rw[hc];exact N3⟩
def KA (p:Px)(gs:List (List Cx))(d0:List Dx)(w:World)(r:Ending)(w':World):Prop:= ∃(v:Value) (b:Bool),r= .returned (.tuple #[v,.bool b])∧(b=true↔Yn p gs (J1 d0) (p.D.map Dx.st))∧z6 [] w w'
def qw1 (w:World)(d0:List Dx)(l:List Cx)(tv ti:Value)(wr:World):Prop:= ∃(k:Nat) (A:Option Addr) (cap:Nat),k≤l.length∧ti= .int .i64 (k:Int)∧tv= .slice A d0.length cap∧z6 [] w wr∧Hid (C0 wr (.slice A d0.length cap) (Z0 d0 (l.take k)))
theorem js (h: ∀(j:Nat) x y,l[j]? =some x→l[j+1]? =some y→f x<f y): ∀(d j:Nat) x y,l[j]? =some x→l[j+1+d]? =some y→f x<f y
 | 0,j,x,y,hx,hy=>h j x y hx hy
 | d+1,j,x,y,hx,hy=>by
  have hlen:=(U4.1 hy).1;have hz:l[j+1+d]? =some l[j+1+d]:=j6 (by omega);have h1:=js h d j x _ hx hz;have h2:=h (j+1+d) _ y hz hy;omega
theorem Hc (h: ∀(j:Nat) x y,l[j]? =some x→l[j+1]? =some y→f x<f y):l.Pairwise (fun x y=>f x<f y):=by
 rw[Yg];intro i j hi hj Rl;exact js h (j - i - 1) i _ _ (j6 hi) (by rw[show i+1+(j - i - 1)=j by omega];exact j6 hj)
theorem Cg (h:J5 p=true):Dz p.D:=by
 unfold J5 at h;simp only[p9]at h;obtain⟨h1,-,h2,-⟩:=h;refine⟨?_,fun x hx=> ?_,fun x hx c hc=> ?_⟩
 ·refine(Hc (f:=Dx.st) (fun j x y hx hy=> ?_)).imp (fun {a b} jN=>by omega);have:=D3.1 h2 j x y hx hy;unfold R9 j7 at this;by_cases e:x.st<y.st
  ·exact e
  ·rw[z9 e]at this;split at this<;>omega
 ·have:=Z6.1 h1 x hx;unfold K4 at this;simp only[p9]at this;exact Hc (f:=id) (E7.1 this.2.2)
 ·have:=Z6.1 h1 x hx;unfold K4 at this;simp only[p9]at this;have h3:=Z6.1 this.2.1 c hc;unfold Qw at h3;exact U9 h3
theorem KX (p:Px)(VD VP VL VC vl vs:Value)(gs:List (List Cx))(l:List Cx)(w:World)(h:K3 w VD VP VL VC p)(hs:Nm w vs gs)(hv:Q0 w vl l)(V5:P0 p)(J3:J5 p=true)(Bo:gs.length≤100000)(gQ: ∀g∈gs,g.length≤100000)(hg: ∀g∈gs,Iw g=true)(T3:l.length≤100000):Calls Tryz.prog 137 #[.agg #[VD,VP,VL,VC],vs,vl] w (KA p gs (Z0 p.D l) w):=by
 have hdl:=V5.d;have HPG:=O (fun(W:World) (t:z6 [] w W) (v:Value) (hd:C0 W v (Z0 p.D l))=>gC p VD VP VL VC v vs gs (Z0 p.D l) W (h.q8 t) (hs.q8 t) hd V5 J3 (Fu l (Cg J3)) (by have:=congrArg List.length (Dk l p.D);simp at this;omega) Bo gQ hg);have HKE:=O (fun(W:World) (v:Value) (k:Nat) (s c:Int) (hd:C0 W v (Z0 p.D (l.take k))) (hc:Fits c)=>lg v (Z0 p.D (l.take k)) s c W hd (by have:=congrArg List.length (Dk (l.take k) p.D);simp at this;omega) (Fu (l.take k) (Cg J3)).few hc);have qO:=p7 (fun W t=>hv.q8 t);have PA:=O hv.2;have HD0:=p7 (fun W t=>h.d.q8 t);have HNT:=O (fun(d:List Dx) (hs:d.map Dx.st=(Z0 p.D l).map Dx.st)=>(by rw[←Dk l p.D,←hs]:p.D.map Dx.st=d.map Dx.st));have HNP:=O (Fu l (Cg J3)).st;obtain⟨A,cap,rfl⟩:=hv.form;obtain⟨AG,qd1,rfl,WQ,s_⟩:=hs.form;obtain⟨AD,cD,rfl,-,-⟩:=h.d.form;obtain⟨AP,cP,rfl⟩:=h.pr.form;obtain⟨AL,cL,rfl⟩:=h.ld.form;obtain⟨AC,cC,rfl⟩:=h.cp.form;have Bb:=p7 (fun W t=>h.q8 t);have b0:=j4.new w 29 #[.slice AD p.D.length cD,.slice AP p.R.P.length cP,.slice AL p.R.L.length cL,.slice AC p.R.C.length cC];have o6:z6 [] w (w.alloc (.cells #[.slice AD p.D.length cD,.slice AP p.R.P.length cP,.slice AL p.R.L.length cL,.slice AC p.R.C.length cC] 29)):=(z8 [] w).alloc _;have HK:Hid (∀W',z6 [] (w.alloc (.cells #[.slice AD p.D.length cD,.slice AP p.R.P.length cP,.slice AL p.R.L.length cL,.slice AC p.R.C.length cC] 29)) W'→W'.cell? ⟨w.heap.size,0,none⟩=some (.slice AD p.D.length cD)∧W'.cell? ⟨w.heap.size,1,none⟩=some (.slice AP p.R.P.length cP)∧W'.cell? ⟨w.heap.size,2,none⟩=some (.slice AL p.R.L.length cL)∧W'.cell? ⟨w.heap.size,3,none⟩=some (.slice AC p.R.C.length cC)):=O (fun W' t=>(b0.z7 t (by simp)).F2);have m9:=O o6;clear b0 o6 h;clear hv hs V5 J3 gQ hg;go_enter Tryz.func137,Tryz.ntmps137;go_wp2_with fail;obtain⟨k0,-,-,-⟩:=HK.o _ (z8 _ _);go_wp2_with fail;generalize El:w.alloc _=w0 at*;clear El;generalize w.heap.size=g at*;have zj2:(Z0 p.D (l.take 0)).length=p.D.length:=rfl;go_loopw [8,9] (fun tv ti wr=>qw1 w0 p.D l tv ti wr) (fun _ ti _=>l.length - (intOf ti).toNat)
 case atStart=>exact⟨0,AD,cD,by omega,rfl,rfl,z8 _ _,O (HD0.o _ m9.o)⟩
 case round=>
  obtain⟨k,A2,X2,hk,rfl,rfl,ht,HD⟩:=hrel;by_cases Z:k<l.length
  ·have j1:(k:Int)< (l.length:Int):=by omega
   have qJ:=qO.o wr (m9.o.Y ht);obtain⟨b,off,rfl,hb⟩:=qJ.addr Z;obtain⟨ca,cb⟩:=Q0.at_ qJ Z;have hft:=PA.o _ (k8 Z);have HKS:=O (Vg (d:=p.D) Z);have I1:(Z0 p.D (l.take k)).length=p.D.length:=by have:=congrArg List.length (Dk (l.take k) p.D);simpa using this
   have qo2:(Z0 p.D (l.take (k+1))).length=p.D.length:=by have:=congrArg List.length (Dk (l.take (k+1)) p.D);simpa using this
   have HKK:=p7 (fun W t=>HKE.o W (.slice A2 p.D.length X2) k l[k].a l[k].b (HD.o.q8 t) hft.2);rw[←HKS.o]at HKK;unfold Va at HKK;rw[qo2]at HKK;have HKC:=p7 (fun W' t=>(Q0.at_ (qJ.q8 t) Z));clear qJ I1 qo2 hft HKS HD;generalize l[k].a=xa at*;generalize l[k].b=xb at*;have hQ:=z8 [] wr;have HT:=O ht;clear ht;go_wp2_with fail;clear ca cb
   go_region_held3 (fun W'=>W'.cell? ⟨b,off+k*2,none⟩=some (.int .i64 xa)∧W'.cell? ⟨b,off+k*2+1,none⟩=some (.int .i64 xb)) (first | exact HKC.o _ hQ | exact HKC.o _ hQ.drew) (first
    | (go_at_call 171;(first | with_reducible refine(HKK.o _ hQ.drew).mono ?_ | with_reducible refine(HKK.o _ hQ).mono ?_);rintro r w2 ⟨A5,qd2,rfl,hd5,V4⟩;(try dsimp only);(first | replace hQ:=hQ.drew.Y V4 | replace hQ:=hQ.Y V4);clear V4))
   have HE:=O hd5;have Q8:=O (HT.o.Y hQ);clear hd5 hQ HKC HKK;go_wp2_with fail;exact⟨⟨k+1,A5,qd2,by omega,by go_num,rfl,Q8.o,HE⟩,by simp[intOf];omega⟩
  ·have j1: ¬(k:Int)< (l.length:Int):=by omega
   have I1:l.take k=l:=N2 (by omega);rw[I1]at HD;have HPP:=O (HPG.o wr (m9.o.Y ht) _ HD.o);obtain⟨r0,r1,r2,r3⟩:=HK.o wr ht;have D6:=O (m9.o.Y ht);unfold eW at HPP;clear I1 HD ht;go_wp2_with fail;refine HPP.o.mono ?_;rintro r w2 ⟨v,bb,d,rfl,h1,h2,h3,t2⟩;go_wp2_with fail
   exact bodyPost_ret (results_tmp2 rfl _ _ _) rfl ⟨v,bb,rfl,by rw[h3,HNT.o d h1];exact(AX h2 (by
    have e:=HNP.o;rw[←List.pairwise_map (f:=Dx.st) (R:=(· ≠ ·))]at e⊢;rw[h1]
    exact e)).symm,D6.o.Y t2⟩
theorem pN (p:Px)(VD VP VL VC vl vs:Value)(gs:List (List Cx))(l:List Cx)(w:World)(h:K3 w VD VP VL VC p)(hs:Nm w vs gs)(hv:Q0 w vl l)(V5:P0 p)(J3:J5 p=true)(Bo:gs.length≤100000)(gQ: ∀g∈gs,g.length≤100000)(hg: ∀g∈gs,Iw g=true)(T3:l.length≤100000):Calls Tryz.prog 99 #[.agg #[VD,VP,VL,VC],vs,vl] w fun r w'=> ∃b,r= .returned (.bool b)∧(b=true↔ ¬Yn p gs (J1 (Z0 p.D l)) (p.D.map Dx.st))∧z6 [] w w':=by
 have N_:=p7 (fun W t=>KX p VD VP VL VC vl vs gs l W (h.q8 t) (hs.q8 t) (hv.q8 t) V5 J3 Bo gQ hg T3);obtain⟨A,cap,rfl⟩:=hv.form;obtain⟨AG,qd1,rfl,WQ,s_⟩:=hs.form;obtain⟨AD,cD,rfl,-,-⟩:=h.d.form;obtain⟨AP,cP,rfl⟩:=h.pr.form;obtain⟨AL,cL,rfl⟩:=h.ld.form;obtain⟨AC,cC,rfl⟩:=h.cp.form;have Bb:=p7 (fun W t=>h.q8 t);have b0:=j4.new w 29 #[.slice AD p.D.length cD,.slice AP p.R.P.length cP,.slice AL p.R.L.length cL,.slice AC p.R.C.length cC];have o6:z6 [] w (w.alloc (.cells #[.slice AD p.D.length cD,.slice AP p.R.P.length cP,.slice AL p.R.L.length cL,.slice AC p.R.C.length cC] 29)):=(z8 [] w).alloc _;have HK:Hid (∀W',z6 [] (w.alloc (.cells #[.slice AD p.D.length cD,.slice AP p.R.P.length cP,.slice AL p.R.L.length cL,.slice AC p.R.C.length cC] 29)) W'→W'.cell? ⟨w.heap.size,0,none⟩=some (.slice AD p.D.length cD)∧W'.cell? ⟨w.heap.size,1,none⟩=some (.slice AP p.R.P.length cP)∧W'.cell? ⟨w.heap.size,2,none⟩=some (.slice AL p.R.L.length cL)∧W'.cell? ⟨w.heap.size,3,none⟩=some (.slice AC p.R.C.length cC)):=O (fun W' t=>(b0.z7 t (by simp)).F2);have m9:=O o6;clear b0 o6 h;clear hv hs V5 J3 gQ hg;unfold KA at N_;go_enter Tryz.func99,Tryz.ntmps99;go_wp2_with fail;obtain⟨k0,k1,k2,k3⟩:=HK.o _ (z8 _ _);go_wp2_with fail;refine(N_.o _ m9.o).mono ?_;rintro r w2 ⟨v,b,rfl,hb,t2⟩;have HB:=O hb;clear hb;go_wp2_with fail;go_ret;refine⟨!b,rfl,?_,m9.o.Y t2⟩;rw[←HB.o];cases b<;>simp
theorem fE (va vb:Value)(a b:List Int)(w:World)(ha:e8 w va a)(hb:e8 w vb b)(hl:a.length≤100000):Calls Tryz.prog 9 #[va,vb] w fun r w'=>r= .returned (.bool (a.all (fun n=>b.contains n)))∧z6 [] w w':=by
 obtain⟨A,cap,rfl⟩:=ha.form;obtain⟨B,zk4,rfl⟩:=hb.form;have HA:=p7 (fun W t=>ha.q8 t);have HH:=O (fun(W:World) (t:z6 [] w W) (n:Int)=>Gx _ b n W (hb.q8 t));have Tk:Hid (∀(k:Nat) (hk:k<a.length),b.contains a[k]=false→a.all (fun n=>b.contains n)=false):=O (fun k hk e=>B7 (good:=fun n=>b.contains n) hk e);have qP:Hid (a.all (fun n=>b.contains n)=true→a.all (fun n=>b.contains n)=true):=O id;generalize Cp:a.all (fun n=>b.contains n)=n9 at Tk qP⊢;have Hr:=O Cp;clear ha hb Cp;go_enter Tryz.func9,Tryz.ntmps9;go_wp2_with fail;go_loopw [5] (fun ti wr=>C9 (fun n=>b.contains n) w a ti wr) (fun ti _=>a.length - (intOf ti).toNat)
 case atStart=>exact⟨0,by omega,rfl,z8 _ _,O (fun j x h=>by omega)⟩
 case round=>
  obtain⟨k,hk,rfl,ht,HX⟩:=hrel;by_cases Z:k<a.length
  ·have j1:(k:Int)< (a.length:Int):=by omega
   have haa:=HA.o wr ht;obtain⟨bb,off,rfl,hbb⟩:=haa.addr Z;have c0:=e8.at_ haa Z;have HC:=O (HH.o wr ht a[k]);have D7:=O (Tk.o k Z);have I5:Hid (b.contains a[k]=true→ ∀(j:Nat) (x:Int),j<k+1→a[j]? =some x→b.contains x=true):=O (fun e=>X7 (good:=fun n=>b.contains n) HX.o Z e);clear haa HX;generalize b.contains a[k]=q at*;generalize a[k]=y at*;have HT:=O ht;clear ht;go_wp2_with fail;refine HC.o.mono ?_;rintro r w2 ⟨rfl,t2⟩;have Q8:=O (HT.o.Y t2);clear t2
   cases q with
   | true=>
    have W7:=O (I5.o rfl);go_wp2_with fail;exact⟨⟨k+1,by omega,by go_num,Q8.o,W7⟩,by simp[intOf];omega⟩
   | false=>
    have y5:=O (D7.o rfl);go_wp2_with fail;go_ret;exact⟨v9 (by rw[y5.o]),Q8.o⟩
  ·have j1: ¬(k:Int)< (a.length:Int):=by omega
   have HF:Hid (n9=true):=O (by rw[←Hr.o];exact U8 HX.o (by omega));clear HX;go_wp2_with fail;go_ret;exact⟨v9 (by rw[HF.o]),ht⟩
def Gn (p:Px)(nd nr:Int):Bool:=(p.D.take 600).all (fun d=>decide (d.ch.length≤60))&&(decide ((p.D.length:Int)≤nd)&&(decide ((p.R.P.length:Int)≤nr)&&(decide ((p.R.L.length:Int)≤nr)&&decide ((p.R.C.length:Int)≤nr))))
theorem qx (p:Px)(VD VP VL VC:Value)(nd nr:Int)(w:World)(h:K3 w VD VP VL VC p):Calls Tryz.prog 12 #[.agg #[VD,VP,VL,VC],.int .i64 nd,.int .i64 nr] w fun r w'=>r= .returned (.bool (Gn p nd nr))∧z6 [] w w':=by
 have Tk:Hid (∀(k:Nat) (hk:k<p.D.length),k<600→ ¬p.D[k].ch.length≤60→Gn p nd nr=false):=O (fun k hk h6 e=>by
  unfold Gn;have V9:k< (p.D.take 600).length:=by rw[Y8];omega
  rw[B7 (good:=fun d:Dx=>decide (d.ch.length≤60)) V9 (by rw[List.getElem_take];exact v8 e)]
  rfl)
 have qP:Hid ((p.D.take 600).all (fun d=>decide (d.ch.length≤60))=true→Gn p nd nr=(decide ((p.D.length:Int)≤nd)&&(decide ((p.R.P.length:Int)≤nr)&&(decide ((p.R.L.length:Int)≤nr)&&decide ((p.R.C.length:Int)≤nr))))):=O (fun e=>by unfold Gn;rw[e];rfl);generalize Gn p nd nr=n9 at*;obtain⟨AD,cD,rfl,-,-⟩:=h.d.form;obtain⟨AP,cP,rfl⟩:=h.pr.form;obtain⟨AL,cL,rfl⟩:=h.ld.form;obtain⟨AC,cC,rfl⟩:=h.cp.form;have Bb:=p7 (fun W t=>h.q8 t);have b0:=j4.new w 29 #[.slice AD p.D.length cD,.slice AP p.R.P.length cP,.slice AL p.R.L.length cL,.slice AC p.R.C.length cC];have o6:z6 [] w (w.alloc (.cells #[.slice AD p.D.length cD,.slice AP p.R.P.length cP,.slice AL p.R.L.length cL,.slice AC p.R.C.length cC] 29)):=(z8 [] w).alloc _;have HK:Hid (∀W',z6 [] (w.alloc (.cells #[.slice AD p.D.length cD,.slice AP p.R.P.length cP,.slice AL p.R.L.length cL,.slice AC p.R.C.length cC] 29)) W'→W'.cell? ⟨w.heap.size,0,none⟩=some (.slice AD p.D.length cD)∧W'.cell? ⟨w.heap.size,1,none⟩=some (.slice AP p.R.P.length cP)∧W'.cell? ⟨w.heap.size,2,none⟩=some (.slice AL p.R.L.length cL)∧W'.cell? ⟨w.heap.size,3,none⟩=some (.slice AC p.R.C.length cC)):=O (fun W' t=>(b0.z7 t (by simp)).F2);have m9:=O o6;clear b0 o6 h;go_enter Tryz.func12,Tryz.ntmps12;go_wp2_with fail;generalize El:w.alloc _=w0 at*;clear El;generalize w.heap.size=g at*;go_loopw [7] (fun ti wr=>C9 (fun d:Dx=>decide (d.ch.length≤60)) w0 (p.D.take 600) ti wr) (fun ti _=>600 - (intOf ti).toNat)
 case atStart=>exact⟨0,by omega,rfl,z8 _ _,O (fun j x h=>by omega)⟩
 case round=>
  obtain⟨k,hk,rfl,ht,HX⟩:=hrel;obtain⟨r0,r1,r2,r3⟩:=HK.o wr ht;rw[Y8]at hk;have hk6:k≤600:=by omega
  have hkd:k≤p.D.length:=by omega
  by_cases Z:k<p.D.length
  ·have j1:(k:Int)< (p.D.length:Int):=by omega
   by_cases hl6:k<600
   ·have zd8:(k:Int)<600:=by omega
    have T2:=Bb.o wr (m9.o.Y ht);obtain⟨b,off,cc,rfl,hb,-,N0⟩:=T2.d.at_ Z;obtain⟨c0,c1,B8⟩:=N0 wr (z8 _ _);obtain⟨A3,c3,rfl⟩:=B8.form;have D7:=O (Tk.o k Z hl6);have V9:k< (p.D.take 600).length:=by rw[Y8];omega
    have I5:Hid (p.D[k].ch.length≤60→ ∀(j:Nat) (x:Dx),j<k+1→(p.D.take 600)[j]? =some x→decide (x.ch.length≤60)=true):=O (fun e=>X7 (good:=fun d:Dx=>decide (d.ch.length≤60)) HX.o V9 (by rw[List.getElem_take];exact b_ e));have HT:=O ht;clear T2 N0 B8 HX ht;generalize p.D[k].ch.length=cl at*;by_cases h1:cl≤60
    ·have d1:decide ((60:Int)< (cl:Int))=false:=v8 (by omega);have W7:=O (I5.o h1);have HK2:Hid (k+1≤(p.D.take 600).length):=O V9;clear h1 V9;go_wp2_with fail;exact⟨⟨k+1,HK2.o,by go_num,HT.o,W7⟩,by simp[intOf];omega⟩
    ·have d1:decide ((60:Int)< (cl:Int))=true:=b_ (by omega);have y5:=O (D7.o h1);clear h1;go_wp2_with fail;go_ret;exact⟨v9 (by rw[y5.o]),m9.o.Y HT.o⟩
   ·have zd8: ¬(k:Int)<600:=by omega
    have HF:=O (qP.o (U8 HX.o (by rw[Y8];omega)));have HT:=O ht;clear HX ht
    cases bC:decide ((p.D.length:Int)≤nd)with
    | false=>
     have y5:Hid (n9=false):=O (by rw[HF.o,bC];rfl);go_wp2_with fail;go_ret;exact⟨v9 (by rw[y5.o]),m9.o.Y HT.o⟩
    | true=>
     cases Vr:decide ((p.R.P.length:Int)≤nr)with
     | false=>
      have y5:Hid (n9=false):=O (by rw[HF.o,bC,Vr];rfl);go_wp2_with fail;go_ret;exact⟨v9 (by rw[y5.o]),m9.o.Y HT.o⟩
     | true=>
      cases Ba:decide ((p.R.L.length:Int)≤nr)with
      | false=>
       have y5:Hid (n9=false):=O (by rw[HF.o,bC,Vr,Ba];rfl);go_wp2_with fail;go_ret;exact⟨v9 (by rw[y5.o]),m9.o.Y HT.o⟩
      | true=>
       cases qY:decide ((p.R.C.length:Int)≤nr)with
       | false=>
        have y5:Hid (n9=false):=O (by rw[HF.o,bC,Vr,Ba,qY];rfl);go_wp2_with fail;go_ret;exact⟨v9 (by rw[y5.o]),m9.o.Y HT.o⟩
       | true=>
        have y5:Hid (n9=true):=O (by rw[HF.o,bC,Vr,Ba,qY];rfl);go_wp2_with fail;go_ret;exact⟨v9 (by rw[y5.o]),m9.o.Y HT.o⟩
  ·have j1: ¬(k:Int)< (p.D.length:Int):=by omega
   have HF:=O (qP.o (U8 HX.o (by rw[Y8];omega)));have HT:=O ht;clear HX ht
   cases bC:decide ((p.D.length:Int)≤nd)with
   | false=>
    have y5:Hid (n9=false):=O (by rw[HF.o,bC];rfl);go_wp2_with fail;go_ret;exact⟨v9 (by rw[y5.o]),m9.o.Y HT.o⟩
   | true=>
    cases Vr:decide ((p.R.P.length:Int)≤nr)with
    | false=>
     have y5:Hid (n9=false):=O (by rw[HF.o,bC,Vr];rfl);go_wp2_with fail;go_ret;exact⟨v9 (by rw[y5.o]),m9.o.Y HT.o⟩
    | true=>
     cases Ba:decide ((p.R.L.length:Int)≤nr)with
     | false=>
      have y5:Hid (n9=false):=O (by rw[HF.o,bC,Vr,Ba];rfl);go_wp2_with fail;go_ret;exact⟨v9 (by rw[y5.o]),m9.o.Y HT.o⟩
     | true=>
      cases qY:decide ((p.R.C.length:Int)≤nr)with
      | false=>
       have y5:Hid (n9=false):=O (by rw[HF.o,bC,Vr,Ba,qY];rfl);go_wp2_with fail;go_ret;exact⟨v9 (by rw[y5.o]),m9.o.Y HT.o⟩
      | true=>
       have y5:Hid (n9=true):=O (by rw[HF.o,bC,Vr,Ba,qY];rfl);go_wp2_with fail;go_ret;exact⟨v9 (by rw[y5.o]),m9.o.Y HT.o⟩
def qk1 (l:List Int)(w:World)(r:Ending)(w':World):Prop:= ∃A cap,r= .returned (.slice A l.length cap)∧e8 w' (.slice A l.length cap) l∧z6 [] w w'
def YW (w:World)(l:List Int)(tv ti:Value)(wr:World):Prop:= ∃(k:Nat) (A:Option Addr) (cap:Nat),k≤l.length∧ti= .int .i64 (k:Int)∧tv= .slice A k cap∧z6 [] w wr∧Hid (Own wr 3 1 (.slice A k cap) k ((l.take k).flatMap Ao))∧Hid (∀b∈m5 (.slice A k cap),w.heap.size≤b)
theorem iR (p:Px)(VD VP VL VC:Value)(w:World)(h:K3 w VD VP VL VC p)(hlD:p.D.length≤100000):Calls Tryz.prog 10 #[.agg #[VD,VP,VL,VC]] w (qk1 (l5 p.D) w):=by
 obtain⟨AD,cD,rfl,-,-⟩:=h.d.form;obtain⟨AP,cP,rfl⟩:=h.pr.form;obtain⟨AL,cL,rfl⟩:=h.ld.form;obtain⟨AC,cC,rfl⟩:=h.cp.form;have Bb:=p7 (fun W t=>h.q8 t);have b0:=j4.new w 29 #[.slice AD p.D.length cD,.slice AP p.R.P.length cP,.slice AL p.R.L.length cL,.slice AC p.R.C.length cC];have o6:z6 [] w (w.alloc (.cells #[.slice AD p.D.length cD,.slice AP p.R.P.length cP,.slice AL p.R.L.length cL,.slice AC p.R.C.length cC] 29)):=(z8 [] w).alloc _;have HK:Hid (∀W',z6 [] (w.alloc (.cells #[.slice AD p.D.length cD,.slice AP p.R.P.length cP,.slice AL p.R.L.length cL,.slice AC p.R.C.length cC] 29)) W'→W'.cell? ⟨w.heap.size,0,none⟩=some (.slice AD p.D.length cD)∧W'.cell? ⟨w.heap.size,1,none⟩=some (.slice AP p.R.P.length cP)∧W'.cell? ⟨w.heap.size,2,none⟩=some (.slice AL p.R.L.length cL)∧W'.cell? ⟨w.heap.size,3,none⟩=some (.slice AC p.R.C.length cC)):=O (fun W' t=>(b0.z7 t (by simp)).F2);have m9:=O o6;clear b0 o6 h;have vz:(l5 p.D).length=p.D.length:=by simp[l5]
 have OV:=O vz;clear vz;go_enter Tryz.func10,Tryz.ntmps10;go_wp2_with fail;generalize El:w.alloc _=w0 at*;clear El;generalize w.heap.size=g at*;go_loopw [3,4] (fun tv ti wr=>YW w0 (l5 p.D) tv ti wr) (fun _ ti _=>p.D.length - (intOf ti).toNat)
 case atStart=>exact⟨0,none,0,by omega,rfl,rfl,z8 _ _,O (Own.nil _ _ _),O (Ic _)⟩
 case round=>
  obtain⟨k,A,cap,hk,rfl,rfl,ht,HO,HN⟩:=hrel;rw[OV.o]at hk;obtain⟨r0,r1,r2,r3⟩:=HK.o wr ht;by_cases Z:k<p.D.length
  ·have j1:(k:Int)< (p.D.length:Int):=by omega
   have T2:=Bb.o wr (m9.o.Y ht);obtain⟨b,off,cc,rfl,hb,-,N0⟩:=T2.d.at_ Z;obtain⟨c0,-,-⟩:=N0 wr (z8 _ _);have HTK:Hid ((l5 p.D).take (k+1)=(l5 p.D).take k++ [p.D[k].st]):=O (by rw[Cw (by simpa[l5]using Z)];simp[l5]);have ho:=HO.o;have HT:=O ht;clear T2 N0 HO ht;generalize p.D[k].st=st at*;go_wp2_with (at_builtin;go_must (refine Ah Jz ho [.int .i64 st] 1 1 (by omega) (by unfold maxLen;omega) ?_);intro v11 X6 r8 Q6 X9;obtain⟨Mq,Mo,rfl⟩:=r8.form)
   have HE:Hid (YW w0 (l5 p.D) (.slice Mq (k+1) Mo) (.int .i64 ((k+1:Nat):Int)) X6):=O ⟨k+1,Mq,Mo,by rw[OV.o];exact Z,rfl,rfl,HT.o.step Q6 (fun i hi=> .inr (HN.o i hi)),O (by rw[HTK.o];simpa[Ao,I]using r8),O (fun b hb=>by
    rcases X9 b hb with e | e
    ·exact HN.o b e
    ·exact j9 HT.o.size e)⟩
   clear r8 Q6 X9 ho;go_wp2_with fail;exact⟨HE.o,by simp[intOf];omega⟩
  ·have j1: ¬(k:Int)< (p.D.length:Int):=by omega
   have I1:k=p.D.length:=by omega
   have HR:Hid (e8 wr (.slice A (l5 p.D).length cap) (l5 p.D)):=O (by
    have h1:=HO.o.reads;rw[N2 (by rw[OV.o];omega)]at h1;rw[I1,←OV.o]at h1;refine⟨h1,fun x hx=> ?_⟩;obtain⟨d,hd,rfl⟩:=F4.1 hx;obtain⟨i,hi,rfl⟩:=Bg hd;have T2:=Bb.o wr (m9.o.Y ht);obtain⟨_,_,_,_,_,hf,_⟩:=T2.d.at_ hi
    exact hf)
   have D6:=O (m9.o.Y ht);have HKL:Hid (k=(l5 p.D).length):=O (by rw[OV.o];exact I1);clear HO HN ht I1;go_wp2_with fail;go_ret;exact⟨A,cap,by rw[←HKL.o];rfl,HR.o,D6.o⟩
theorem eH: ∀(l:List Int) (lo hi:Int),l.Pairwise (· < ·)→(∀c∈l,lo≤c∧c≤hi)→lo≤hi+1→(l.length:Int)≤hi+1 - lo
 | [],lo,hi,_,_,h=>by simp;omega
 | x::l,lo,hi,hp,hr,h=>by
  obtain⟨h1,h2⟩:=Yh.1 hp;have hx:=hr x N3;have:=eH l (x+1) hi h2 (fun c hc=>⟨by have:=h1 c hc;omega,(hr c (T8 _ hc)).2⟩) (by omega);rw[Cz];omega
theorem lR (h:K4 x=true):x.ch.length≤50:=by
 unfold K4 at h;simp only[p9]at h
 have:=eH x.ch 2 51 (Hc (f:=id) (E7.1 h.2.2)) (fun c hc=>by
  have h3:=Z6.1 h.2.1 c hc;unfold Qw at h3
  exact U9 h3) (by omega)
 omega
theorem aJ (h:J5 p=true):p.D.length≤512:=by
 have hn:=Lj h;unfold J5 at h;simp only[p9]at h;obtain⟨h1,-,h2,-⟩:=h
 have hp:(l5 p.D).Pairwise (· < ·):=by
  unfold l5;rw[List.pairwise_map];refine Hc (f:=Dx.st) (fun j x y hx hy=> ?_);have:=D3.1 h2 j x y hx hy;unfold R9 j7 at this;by_cases e:x.st<y.st
  ·exact e
  ·rw[z9 e]at this;split at this<;>omega
 have:=eH (l5 p.D) 0 511 hp (fun c hc=>by
  obtain⟨d,hd,rfl⟩:=F4.1 hc;have:=hn d hd;unfold Jb at this
  omega) (by omega)
 unfold l5 at this;rw[Cy]at this;omega
def vr (l:List Dx)(k:Nat):Prop:=(∀(j:Nat) x,j<k→l[j]? =some x→K4 x=true)∧ ∀(j:Nat) x y,j+1<k→l[j]? =some x→l[j+1]? =some y→x.st<y.st
theorem vr.zero (l:List Dx):vr l 0:=⟨fun j x h=>by omega,fun j x y h=>by omega⟩
theorem vr.first {l:List Dx}(h0:0<l.length)(hg:K4 l[0]=true):vr l 1:=⟨fun j x hj hx=>by
 obtain rfl:j=0:=by omega
 rw[j6 h0]at hx;injection hx with hx
 rw[←hx];exact hg,fun j x y h=>by omega⟩
theorem vr.step {l:List Dx}(h:vr l (k+1))(hk:k+1<l.length)(hg:K4 l[k+1]=true)(hc:l[k].st<l[k+1].st):vr l (k+1+1):=by
 refine⟨fun j x hj hx=> ?_,fun j x y hj hx hy=> ?_⟩
 ·by_cases h2:j<k+1
  ·exact h.1 j x h2 hx
  ·obtain rfl:j=k+1:=by omega
   rw[j6 hk]at hx;injection hx with hx;rw[←hx];exact hg
 ·by_cases h2:j+1<k+1
  ·exact h.2 j x y h2 hx hy
  ·obtain rfl:j=k:=by omega
   rw[j6 (by omega)]at hx;rw[j6 hk]at hy;injection hx with hx;injection hy with hy;rw[←hx,←hy];exact hc
theorem uX {y:Dx}:R9 x y<0↔x.st<y.st:=by
 unfold R9 j7;constructor
 ·intro h;by_cases e:x.st<y.st
  ·exact e
  ·rw[z9 e]at h;split at h<;>omega
 ·intro h;rw[x9 h];omega
def F_ (l:List Int)(k:Nat):Prop:=(∀(j:Nat) x,j<k→l[j]? =some x→2≤x∧x≤51)∧ ∀(j:Nat) x y,j+1<k→l[j]? =some x→l[j+1]? =some y→x<y
theorem F_.good (h:F_ x.ch k)(hk:x.ch.length≤k)(hs:K2 x.st=true):K4 x=true:=by
 unfold K4;rw[hs,Z4,p9];refine⟨Z6.2 (fun c hc=> ?_),E7.2 (fun j a b ha hb=>h.2 j a b (by have:=(U4.1 hb).1;omega) ha hb)⟩;obtain⟨j,hj⟩:=Gk hc;have:=h.1 j c (by have:=(U4.1 hj).1;omega) hj;unfold Qw;exact b_ this
theorem lS (hm:x.ch[m]? =some y)(h: ¬(2≤y∧y≤51)):K4 x=false:=by
 cases e:K4 x with
 | false=>rfl
 | true=>
  unfold K4 at e;simp only[p9]at e;have:=Z6.1 e.2.1 y (Mk hm);unfold Qw at this;exact absurd (U9 this) h
theorem fR {z:Int}(hm:x.ch[m]? =some y)(Ja:x.ch[m+1]? =some z)(h: ¬y<z):K4 x=false:=by
 cases e:K4 x with
 | false=>rfl
 | true=>
  unfold K4 at e;simp only[p9]at e;exact absurd (E7.1 e.2.2 m y z hm Ja) h
def qy2 (w:World)(l:List Dx)(ti:Value)(wr:World):Prop:= ∃k:Nat,k≤l.length∧ti= .int .i64 (k:Int)∧z6 [] w wr∧Hid (vr l k)
def ZK (w:World)(l:List Int)(ti:Value)(wr:World):Prop:= ∃k:Nat,k≤l.length∧ti= .int .i64 (k:Int)∧z6 [] w wr∧Hid (F_ l k)
end Go.Proofs.YtlhlmcohdkkjpaaGreatDoor
