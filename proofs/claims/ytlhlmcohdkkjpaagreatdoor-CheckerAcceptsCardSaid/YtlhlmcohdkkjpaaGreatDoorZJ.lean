/- Layer 17: problem.Check, problem.Only of no choices. -/
import Derived.Test.YtlhlmcohdkkjpaaGreatDoorZI
set_option linter.all false
set_option maxHeartbeats 16000000
set_option maxRecDepth 100000
namespace Go.Proofs.YtlhlmcohdkkjpaaGreatDoor
open Go.RowKit
def fg (ok zf3:Bool)(w:World)(r:Ending)(w':World):Prop:= ∃k i e:Int,r= .returned (.tuple #[.agg #[.int .i64 k,.int .i64 i],.int .i64 e])∧(ok=true→e=0)∧(ok=false→e=2∧k=0)∧(ok=true→(k=0↔zf3=true))∧z6 [] w w'
theorem BK (p:Px)(VD VP VL VC v:Value)(l:List Cx)(w:World)(h:K3 w VD VP VL VC p)(hv:Q0 w v l)(V5:P0 p)(T3:l.length≤100000):Calls Tryz.prog 20 #[.agg #[VD,VP,VL,VC],v] w (fg (J5 p&&Iw l) (B5 p l) w):=by
 have HV:=p7 (fun W t=>Di p VD VP VL VC W (h.q8 t) V5);have HL:=p7 (fun W t=>Du v l W (hv.q8 t) T3);have HVI:=O (fun(h1:J5 p=true) (h2:Iw l=true) (W:World) (t:z6 [] w W)=>iO p VD VP VL VC v l W (h.q8 t) (hv.q8 t) V5 T3 h1 h2);obtain⟨AD,cD,rfl,-,-⟩:=h.d.form;obtain⟨AP,cP,rfl⟩:=h.pr.form;obtain⟨AL,cL,rfl⟩:=h.ld.form;obtain⟨AC,cC,rfl⟩:=h.cp.form;obtain⟨A,cap,rfl⟩:=hv.form;have b0:=(j4.new w 29 #[.slice AD p.D.length cD,.slice AP p.R.P.length cP,.slice AL p.R.L.length cL,.slice AC p.R.C.length cC]).alloc (.cells #[.int .i64 0,.int .i64 0] 62);have b1:=j4.new (w.alloc (.cells #[.slice AD p.D.length cD,.slice AP p.R.P.length cP,.slice AL p.R.L.length cL,.slice AC p.R.C.length cC] 29)) 62 #[.int .i64 0,.int .i64 0];simp only[World.size_alloc]at b1;have o6:z6 [] w ((w.alloc (.cells #[.slice AD p.D.length cD,.slice AP p.R.P.length cP,.slice AL p.R.L.length cL,.slice AC p.R.C.length cC] 29)).alloc (.cells #[.int .i64 0,.int .i64 0] 62)):=((z8 [] w).alloc _).alloc _;clear h hv V5;generalize B5 p l=fb at*;generalize J5 p=q0 at*;generalize Iw l=q1 at*;have HG:=O (Nat.le_succ w.heap.size);unfold fg
 cases q0 with
 | false=>
  clear HVI;go_enter Tryz.func20,Tryz.ntmps20;go_wp2_with fail;refine(HV.o _ o6).mono ?_;rintro r w1 ⟨rfl,t1⟩;have b2:=b1.z7 t1 (by simp);go_wp2_with (refine Am (ty:=62) (cs':=#[.int .i64 0,.int .i64 0]) (by kernel_rfl) rfl (by simp[Value.oneCell']) b2 ?_;intro w3 b3 t3);exact bodyPost_ret (P3 (d:=_) b3 rfl Tryz.underlying62 (by kernel_rfl) rfl rfl rfl) rfl ⟨0,0,2,rfl,fun e=>(by simp at e),fun _=>⟨rfl,rfl⟩,fun e=>(by simp at e),(o6.Y t1).step t3 (fun m hm=> .inr (by rw[y7]at hm;omega))⟩
 | true=>
 cases q1 with
 | false=>
  clear HVI;go_enter Tryz.func20,Tryz.ntmps20;go_wp2_with fail;refine(HV.o _ o6).mono ?_;rintro r w1 ⟨rfl,t1⟩;go_wp2_with fail;refine(HL.o _ (o6.Y t1)).mono ?_;rintro r w2 ⟨rfl,t2⟩;have b2:=(b1.z7 t1 (by simp)).z7 t2 (by simp);go_wp2_with (refine Am (ty:=62) (cs':=#[.int .i64 0,.int .i64 0]) (by kernel_rfl) rfl (by simp[Value.oneCell']) b2 ?_;intro w3 b3 t3);exact bodyPost_ret (P3 (d:=_) b3 rfl Tryz.underlying62 (by kernel_rfl) rfl rfl rfl) rfl ⟨0,0,2,rfl,fun e=>(by simp at e),fun _=>⟨rfl,rfl⟩,fun e=>(by simp at e),((o6.Y t1).Y t2).step t3 (fun m hm=> .inr (by rw[y7]at hm;omega))⟩
 | true=>
  have HVJ:=O (HVI.o rfl rfl);clear HVI;unfold aU at HVJ;go_enter Tryz.func20,Tryz.ntmps20;go_wp2_with fail;refine(HV.o _ o6).mono ?_;rintro r w1 ⟨rfl,t1⟩;go_wp2_with fail;refine(HL.o _ (o6.Y t1)).mono ?_;rintro r w2 ⟨rfl,t2⟩;obtain⟨r0,r1,r2,r3⟩:=((b0.z7 t1 (by simp)).z7 t2 (by simp)).F2;go_wp2_with fail;refine(HVJ.o _ ((o6.Y t1).Y t2)).mono ?_;rintro r w3 ⟨k,i,rfl,h1,h2,t3⟩;have b2:=((b1.z7 t1 (by simp)).z7 t2 (by simp)).z7 t3 (by simp)
  have H12:=O (show k=0↔fb=true from⟨fun e=>by cases fb with
   | true=>rfl
   | false=>exact absurd e (h2 rfl),fun e=>(h1 e).1⟩)
  clear h1 h2;have wo:_=some _:=(b2.cell 0).trans rfl;have wi:_=some _:=(b2.cell 1).trans rfl;have f90:=b2.frozen 0;have f91:=b2.frozen 1;have O5:=O b2;have V3:=O (((o6.Y t1).Y t2).Y t3);clear b2;go_wp2_with fail;have Ss:=(O5.o.V8 0 (.int .i64 k)).V8 1 (.int .i64 i);refine bodyPost_ret (P3 (d:=_) Ss rfl Tryz.underlying62 (by kernel_rfl) rfl rfl rfl) rfl ⟨k,i,0,rfl,fun _=>rfl,fun e=>(by simp at e),fun _=>H12.o,(V3.o.setCell (p:=⟨w.heap.size+1,0,none⟩) (.inr (by show w.heap.size≤w.heap.size+1;omega)) _).setCell (p:=⟨w.heap.size+1,1,none⟩) (.inr (by show w.heap.size≤w.heap.size+1;omega)) _⟩
theorem UM:Iw []=true:=by
 rw[Fs];exact⟨fun j x h=>by simp at h,fun j x y h=>by simp at h⟩
theorem sx (w:World):Q0 w (.slice none 0 0) []:=by
 exact⟨Reads.nil w 2,fun x hx=>by cases hx⟩
theorem LN (VS:Value)(l:List Int)(w:World)(hS:e8 w VS l)(T3:l.length≤100000):Calls Tryz.prog 103 #[.slice none 0 0,VS] w fun r w'=>r= .returned (.tuple #[.slice none 0 0,.int .i64 (if Fa l then 0 else 2)])∧z6 [] w w':=by
 have HL:=O (fun(W:World)=>Du (.slice none 0 0) [] W (sx W) (by simp));rw[UM]at HL;have mP:=p7 (fun W t=>P6 VS l W (hS.q8 t) T3);have HO:=O (fun(h:Fa l=true) (W:World) (t:z6 [] w W)=>Li VS l W (hS.q8 t) (R5 h));have mn:Hid (Fa l=true→Wf (D9 l)):=O (fun h=>Ca (R5 h));obtain⟨AS,cS,rfl⟩:=hS.form;clear hS
 cases hq:Fa l with
 | false=>
  rw[hq]at mP;clear HO mn;go_enter Tryz.func103,Tryz.ntmps103;go_wp2_with fail;refine(HL.o _).mono ?_;rintro r w1 ⟨rfl,t1⟩;go_wp2_with fail;refine(mP.o _ t1).mono ?_;rintro r w2 ⟨rfl,t2⟩;go_wp2_with fail;exact bodyPost_ret (results_tmp2 rfl _ _ _) rfl ⟨rfl,t1.Y t2⟩
 | true=>
  rw[hq]at mP;have CF:=mn.o hq;have R_:=O (HO.o hq);have Cr:=m8 CF;have I6:=V7 (D9 l);clear HO mn CF;unfold T5 at R_;generalize ((D9 l).map y6).toArray=cs at*;go_enter Tryz.func103,Tryz.ntmps103;go_wp2_with fail;refine(HL.o _).mono ?_;rintro r w1 ⟨rfl,t1⟩;go_wp2_with fail;refine(mP.o _ t1).mono ?_;rintro r w2 ⟨rfl,t2⟩;go_wp2_with fail;refine(R_.o _ (t1.Y t2)).mono ?_;rintro r w3 ⟨rfl,t3⟩;have HT:=O ((t1.Y t2).Y t3);have V0:=O (HT.o.alloc (.cells ((l8.map y6).toArray) 69));have QK:=O HT.o.size;clear t1 t2 t3;go_wp2_with (first | (refine D0 (j4.new _ _ _) rfl Cr I6 ?_;intro w6 b6 vq));have Q8:=O (V0.o.step vq (fun m hm=> .inr (by rw[y7]at hm;have:=QK.o;omega)));clear b6 vq;go_loopw [8,26] (fun tv ti wr=>tv= .slice none 0 0∧ti= .int .i64 0∧wr=w6) (fun _ _ _=>0)
  case atStart=>exact⟨rfl,rfl,rfl⟩
  case round=>
   obtain⟨rfl,rfl,rfl⟩:=hrel;go_wp2_with fail;exact bodyPost_ret (results_tmp2 rfl _ _ _) rfl ⟨rfl,Q8.o⟩
abbrev Left:=Int→Int→Prop
def F5 (M:Left)(s c:Int):Prop:= ∀c',M s c'→c'=c
def Up (p:Px)(M:Left)(s c:Int):Prop:= ∃x∈p.R.P,(x.a=s∧x.d≤c∧c≤x.e∧F5 M x.b (c+x.c))∨(x.b=s∧x.d≤c - x.c∧c - x.c≤x.e∧F5 M x.a (c - x.c))
open Classical in
noncomputable def Fg (ls:List Q5)(M:Left)(to c TY:Int):Int:=(ls.map (fun x=>if x.a=to∧x.d≤c∧c≤x.e∧(x.b=TY∨F5 M x.b c)then x.c else 0)).sum
def Ym (p:Px)(s c dh:Int):Prop:= ∃x∈p.R.C,x.a=s∧x.c≤c∧c≤x.d∧x.b<dh
def oY (p:Px)(M:Left)(s c:Int):Prop:= ∃x∈p.R.L,x.b=s∧x.d≤c∧c≤x.e∧F5 M x.a c∧Ym p x.a c (Fg p.R.L M x.a c s)
def Rem (p:Px)(M:Left)(s c:Int):Prop:=Up p M s c∨Ym p s c (Fg p.R.L M s c (-1))∨oY p M s c
def dN (gs:List (List Cx))(M:Left)(s c:Int):Prop:= ∃g∈gs,(∃y∈g,y.a=s∧y.b=c)∧ ∀y∈g,y.a≠s→F5 M y.a y.b
def rY (p:Px)(gs:List (List Cx))(M:Left)(s c:Int):Prop:=dN gs M s c∨Rem p M s c
def Qq (S M:Left):Prop:= ∀s c,S s c→M s c
def S6 (p:Px)(gs:List (List Cx))(M:Left):Prop:= ∀s c,M s c→ ¬rY p gs M s c
def Great (p:Px)(gs:List (List Cx))(M0 M:Left):Prop:=Qq M M0∧S6 p gs M∧ ∀S,Qq S M0→S6 p gs S→Qq S M
variable{c s l:Int}{M S M0 M':Left}{gs:List (List Cx)}{d:List Dx}{ls:List Q5}{k:Nat}{p:Px}{α:Type}{f:α→Bool}
theorem F5.yG (h:Qq S M)(ho:F5 M s c):F5 S s c:=fun c' hc=>ho c' (h s c' hc)
theorem uJ (hw: ∀x∈ls,0≤x.c)(h:Qq S M)(to c f:Int):Fg ls M to c f≤Fg ls S to c f:=by
 unfold Fg
 induction ls with
 | nil=>simp
 | cons x ls ih=>
  have hi:=ih (fun y hy=>hw y (T8 _ hy));have hx:=hw x N3;simp only[Bw,Hy];by_cases h1:x.a=to∧x.d≤c∧c≤x.e∧(x.b=f∨F5 M x.b c)
  ·have h2:x.a=to∧x.d≤c∧c≤x.e∧(x.b=f∨F5 S x.b c):=⟨h1.1,h1.2.1,h1.2.2.1,h1.2.2.2.imp id (F5.yG h)⟩;rw[x9 h1,x9 h2];omega
  ·rw[z9 h1];split<;>omega
theorem Ym.mono {l':Int}(h:Ym p s c l)(hl:l≤l'):Ym p s c l':=by
 obtain⟨x,hx,h1,h2,h3,h4⟩:=h;exact⟨x,hx,h1,h2,h3,by omega⟩
theorem rY.yG (hw: ∀x∈p.R.L,0≤x.c)(h:Qq S M)(hr:rY p gs M s c):rY p gs S s c:=by
 rcases hr with⟨g,hg,hy,ho⟩ | hr | hr | hr
 ·exact .inl ⟨g,hg,hy,fun y hy hs=>(ho y hy hs).yG h⟩
 ·obtain⟨x,hx,hr⟩:=hr;refine .inr (.inl ⟨x,hx,?_⟩);rcases hr with⟨h1,h2,h3,h4⟩ | ⟨h1,h2,h3,h4⟩
  ·exact .inl ⟨h1,h2,h3,h4.yG h⟩
  ·exact .inr ⟨h1,h2,h3,h4.yG h⟩
 ·exact .inr (.inr (.inl (hr.mono (uJ hw h _ _ _))))
 ·obtain⟨x,hx,h1,h2,h3,h4,h5⟩:=hr;exact .inr (.inr (.inr ⟨x,hx,h1,h2,h3,h4.yG h,h5.mono (uJ hw h _ _ _)⟩))
theorem S6.o (hw: ∀x∈p.R.L,0≤x.c)(hs:S6 p gs S)(h:Qq S M)(hr:rY p gs M s c): ¬S s c:=fun hc=>hs s c hc (hr.yG hw h)
theorem Great.unique (h:Great p gs M0 M)(h':Great p gs M0 M'): ∀s c,M s c↔M' s c:=
 fun s c=>⟨h'.2.2 M h.1 h.2.1 s c,h.2.2 M' h'.1 h'.2.1 s c⟩
def S7 (p:Px)(gs:List (List Cx))(M0 M:Left):Prop:= ∀S,Qq S M0→S6 p gs S→Qq S M
theorem S7.start (p:Px)(gs:List (List Cx))(M0:Left):S7 p gs M0 M0:=fun _ h _=>h
theorem S7.drop (hw: ∀x∈p.R.L,0≤x.c)(h:S7 p gs M0 M)(hd: ∀s c,M s c→M' s c∨rY p gs M s c):S7 p gs M0 M':=fun S h0 hs s c hc=>by
 have hm:=h S h0 hs;rcases hd s c (hm s c hc)with h1 | h1
 ·exact h1
 ·exact absurd hc (hs.o hw hm h1)
theorem S7.YM (h:S7 p gs M0 M)(h0:Qq M M0)(hs:S6 p gs M):Great p gs M0 M:=⟨h0,hs,h⟩
theorem S6.less {gs':List (List Cx)}(hg: ∀g∈gs,g∈gs')(h:S6 p gs' M):S6 p gs M:=fun s c hc hr=>h s c hc (by
 rcases hr with⟨g,hm,hy,ho⟩ | hr
 ·exact .inl ⟨g,hg g hm,hy,ho⟩
 ·exact .inr hr)
def J1 (d:List Dx):Left:=fun s c=> ∃x∈d,x.st=s∧c∈x.ch
def J8 (d:List Dx)(s c:Int):Bool:=d.all (fun x=>x.st !=s || x.ch.all (fun c'=>c'==c))
theorem L8 :J8 d s c=true↔F5 (J1 d) s c:=by
 unfold J8 F5 J1;rw[Z6];constructor
 ·intro h c' hc;obtain⟨x,hx,hs,hm⟩:=hc;have:=h x hx;rw[S9]at this;rcases this with h1 | h1
  ·simp at h1;exact absurd hs h1
  ·rw[Z6]at h1;simpa using h1 c' hm
 ·intro h x hx;by_cases hs:x.st=s
  ·rw[S9];refine .inr ?_;rw[Z6];intro c' hc;simpa using h c' ⟨x,hx,hs,hc⟩
  ·simp[hs]
def O6 (p:Px)(d:List Dx)(s c:Int):Bool:=p.R.P.any (fun x=>(decide (x.a=s)&&(decide (x.d≤c∧c≤x.e)&&J8 d x.b (c+x.c))) || (decide (x.b=s)&&(decide (x.d≤c - x.c∧c - x.c≤x.e)&&J8 d x.a (c - x.c))))
theorem sw :O6 p d s c=true↔Up p (J1 d) s c:=by
 unfold O6 Up;rw[Ua];constructor
 ·rintro⟨x,hx,h⟩;refine⟨x,hx,?_⟩;rw[S9,p9,p9,p9,p9,G3,G3,G3,G3,L8,L8]at h;rcases h with⟨h1,⟨h2,h3⟩,h4⟩ | ⟨h1,⟨h2,h3⟩,h4⟩
  ·exact .inl ⟨h1,h2,h3,h4⟩
  ·exact .inr ⟨h1,h2,h3,h4⟩
 ·rintro⟨x,hx,h⟩;refine⟨x,hx,?_⟩;rw[S9,p9,p9,p9,p9,G3,G3,G3,G3,L8,L8];rcases h with⟨h1,h2,h3,h4⟩ | ⟨h1,h2,h3,h4⟩
  ·exact .inl ⟨h1,⟨h2,h3⟩,h4⟩
  ·exact .inr ⟨h1,⟨h2,h3⟩,h4⟩
def F0 (d:List Dx)(to c f:Int):List Q5→Int
 | []=>0
 | x::ls=>(if decide (x.a=to∧x.d≤c∧c≤x.e)&&(decide (x.b=f) || J8 d x.b c)then x.c else 0)+F0 d to c f ls
theorem Uv (d:List Dx)(to c f:Int): ∀ls:List Q5,F0 d to c f ls=Fg ls (J1 d) to c f
 | []=>by simp[F0,Fg]
 | x::ls=>by
  have hi:=Uv d to c f ls;unfold Fg at hi⊢;rw[Bw,Hy,←hi];show(if decide (x.a=to∧x.d≤c∧c≤x.e)&&(decide (x.b=f) || J8 d x.b c)then x.c else 0)+F0 d to c f ls=_
  congr 1
  by_cases h:x.a=to∧x.d≤c∧c≤x.e∧(x.b=f∨F5 (J1 d) x.b c)
  ·rw[x9 h]
   have:(decide (x.a=to∧x.d≤c∧c≤x.e)&&(decide (x.b=f) || J8 d x.b c))=true:=by
    rw[p9,S9,G3,G3,L8];exact⟨⟨h.1,h.2.1,h.2.2.1⟩,h.2.2.2⟩
   rw[x9 this]
  ·rw[z9 h]
   have: ¬(decide (x.a=to∧x.d≤c∧c≤x.e)&&(decide (x.b=f) || J8 d x.b c))=true:=by
    rw[p9,S9,G3,G3,L8];exact fun h2=>h ⟨h2.1.1,h2.1.2.1,h2.1.2.2,h2.2⟩
   rw[z9 this]
def Jl (p:Px)(s c l:Int):Bool:=p.R.C.any (fun x=>decide (x.a=s∧x.c≤c∧c≤x.d∧x.b<l))
theorem Wz :Jl p s c l=true↔Ym p s c l:=by
 unfold Jl Ym;rw[Ua];constructor
 ·rintro⟨x,hx,h⟩;exact⟨x,hx,U9 h⟩
 ·rintro⟨x,hx,h⟩;exact⟨x,hx,b_ h⟩
def Xz (p:Px)(d:List Dx)(s c:Int):Bool:=p.R.L.any (fun x=>decide (x.b=s∧x.d≤c∧c≤x.e)&&(J8 d x.a c&&Jl p x.a c (F0 d x.a c s p.R.L)))
theorem rk :Xz p d s c=true↔oY p (J1 d) s c:=by
 unfold Xz oY;rw[Ua];constructor
 ·rintro⟨x,hx,h⟩;rw[p9,p9,G3,L8,Wz,Uv]at h;exact⟨x,hx,h.1.1,h.1.2.1,h.1.2.2,h.2.1,h.2.2⟩
 ·rintro⟨x,hx,h1,h2,h3,h4,h5⟩;refine⟨x,hx,?_⟩;rw[p9,p9,G3,L8,Wz,Uv];exact⟨⟨h1,h2,h3⟩,h4,h5⟩
def dw (p:Px)(d:List Dx)(s c:Int):Bool:=O6 p d s c || (Jl p s c (F0 d s c (-1) p.R.L) || Xz p d s c)
theorem KZ :dw p d s c=true↔Rem p (J1 d) s c:=by
 unfold dw Rem;rw[S9,S9,sw,Wz,rk,Uv]
theorem Ls (lo n hi:Int)(w:World):Calls Tryz.prog 283 #[.int .i64 lo,.int .i64 n,.int .i64 hi] w fun r w'=>r= .returned (.bool (decide (lo≤n∧n≤hi)))∧w=w':=by
 by_cases h1:lo≤n
 ·by_cases h2:n≤hi
  ·rw[b_ ⟨h1,h2⟩];have d1:=b_ h1;have d2:=b_ h2;go_enter Tryz.func283,Tryz.ntmps283;go_wp2_with fail;go_ret;exact⟨rfl,rfl⟩
  ·rw[v8 (fun h=>h2 h.2)];have d1:=b_ h1;have d2:=v8 h2;go_enter Tryz.func283,Tryz.ntmps283;go_wp2_with fail;go_ret;exact⟨rfl,rfl⟩
 ·rw[v8 (fun h=>h1 h.1)];have d1:=v8 h1;go_enter Tryz.func283,Tryz.ntmps283;go_wp2_with fail;go_ret;exact⟨rfl,rfl⟩
def qr6 (good:α→Bool)(w0:World)(l:List α)(ti:Value)(wr:World):Prop:= ∃k:Nat,k≤l.length∧ti= .int .i64 (k:Int)∧w0=wr∧Hid (∀(j:Nat) x,j<k→l[j]? =some x→good x=true)
def cF (s c:Int)(x:Dx):Bool:=x.st !=s || x.ch.all (fun c'=>c'==c)
theorem Pw (v:Value)(d:List Dx)(s c:Int)(w:World)(hv:C0 w v d):Calls Tryz.prog 265 #[v,.int .i64 s,.int .i64 c] w fun r w'=>r= .returned (.bool (J8 d s c))∧w=w':=by
 obtain⟨A,cap,rfl,Ad,Cs⟩:=hv.form;have HT:=p7 (fun W t=>hv.q8 t);have Tk:Hid (d.all (cF s c)=false→J8 d s c=false):=O id;have qP:Hid (d.all (cF s c)=true→J8 d s c=true):=O id;generalize J8 d s c=n9 at*;clear hv;go_enter Tryz.func265,Tryz.ntmps265;go_wp2_with fail;go_loopw [7] (fun ti wr=>qr6 (cF s c) w d ti wr) (fun ti _=>d.length - (intOf ti).toNat)
 case atStart=>exact⟨0,by omega,rfl,rfl,O (fun j x h=>by omega)⟩
 case round=>
  obtain⟨k,hk,rfl,rfl,HX⟩:=hrel;by_cases Z:k<d.length
  ·have j1:(k:Int)< (d.length:Int):=by omega
   have hD:=HT.o w (z8 _ _);obtain⟨b,off,cv,rfl,-,-,N0⟩:=hD.at_ Z;obtain⟨c0,c1,B8⟩:=N0 w (z8 _ _);obtain⟨A2,X2,rfl⟩:=B8.form;obtain⟨CH,Ja⟩:=B8.cap;have D7:Hid (cF s c d[k]=false→n9=false):=O (fun e=>Tk.o (B7 Z e));have I5:Hid (cF s c d[k]=true→ ∀(j:Nat) x,j<k+1→d[j]? =some x→cF s c x=true):=O (fun e=>X7 HX.o Z e);have HCD:=p7 (fun W' t=>(N0 W' t).2.1);have jS:=p7 (fun W' t=>B8.q8 t);clear HX hD N0 B8;unfold cF at D7 I5;generalize d[k].st=st at*;generalize d[k].ch=ch at*;by_cases hs:st=s;rotate_left
   ·have xF:(st !=s)=true:=by simpa using hs
    have W7:=O (I5.o (by rw[xF];rfl));clear hs;go_wp2_with fail;go_roundw
    case rel=>exact⟨k+1,by omega,by go_num,rfl,W7⟩
    case measure=>simp[intOf];omega
   ·have xF:(st !=s)=false:=by simpa using hs
    have Ag:Hid (ch.all (fun c'=>c'==c)=false→n9=false):=O (fun e=>D7.o (by rw[xF,e];rfl));have jR:=O (fun(e:ch.all (fun c'=>c'==c)=true)=>I5.o (by rw[xF,e];rfl));clear hs D7 I5;go_wp2_with fail;clear c0 c1;go_loopw [8] (fun ti wq=>qr6 (fun c':Int=>c'==c) w ch ti wq) (fun ti _=>ch.length - (intOf ti).toNat)
    case atStart=>exact⟨0,by omega,rfl,rfl,O (fun j x h=>by omega)⟩
    case round=>
     obtain⟨m,hm,rfl,rfl,HX⟩:=hrel;have c1:=HCD.o _ (z8 _ _);by_cases Q7:m<ch.length
     ·have Jo:(m:Int)< (ch.length:Int):=by omega
      have B8:=jS.o _ (z8 _ _);obtain⟨b2,Hn,rfl,U3⟩:=B8.addr Q7;have c3:=e8.at_ B8 Q7;have O5:=O (fun(e:(ch[m]==c)=false)=>Ag.o (B7 Q7 e));have Sz:=O (fun(e:(ch[m]==c)=true)=>X7 HX.o Q7 e);clear HX B8;generalize ch[m]=x at*;by_cases he:x=c
      ·have qM:(x==c)=true:=by simpa using he
       have he3:(x !=c)=false:=by simpa using he
       have W7:=O (Sz.o qM);clear he;go_wp2_with fail;go_roundw
       case rel=>exact⟨m+1,by omega,by go_num,rfl,W7⟩
       case measure=>simp[intOf];omega
      ·have qM:(x==c)=false:=by simpa using he
       have he3:(x !=c)=true:=by simpa using he
       have y5:=O (O5.o qM);clear he;go_wp2_with fail;go_ret;exact⟨v9 (by rw[y5.o]),rfl⟩
     ·have Jo: ¬(m:Int)< (ch.length:Int):=by omega
      have W7:=O (jR.o (U8 HX.o (by omega)));clear HX;go_wp2_with fail;go_roundw
      case rel=>exact⟨k+1,by omega,by go_num,rfl,W7⟩
      case measure=>simp[intOf];omega
  ·have j1: ¬(k:Int)< (d.length:Int):=by omega
   have HF:=O (qP.o (U8 HX.o (by omega)));clear HX;go_wp2_with fail;go_ret;exact⟨v9 (by rw[HF.o]),rfl⟩
theorem nW {l:List α}(hk:k<l.length)(h:f l[k]=true):l.any f=true:=Ua.2 ⟨l[k],k8 hk,h⟩
theorem nV {l:List α}(h:l.all (fun x=> !f x)=true):l.any f=false:=by
 rw[tH];intro x hx;have:=Z6.1 h x hx;simpa using this
def cE (s c l:Int)(x:Q4):Bool:=decide (x.a=s∧x.c≤c∧c≤x.d∧x.b<l)
theorem kV (p:Px)(VD VP VL VC:Value)(s c l:Int)(w:World)(h:K3 w VD VP VL VC p)(WK:p.R.C.length≤100000):Calls Tryz.prog 267 #[.agg #[VD,VP,VL,VC],.int .i64 s,.int .i64 c,.int .i64 l] w fun r w'=>r= .returned (.bool (Jl p s c l))∧z6 [] w w':=by
 have Tk:Hid (∀(k:Nat) (hk:k<p.R.C.length),cE s c l p.R.C[k]=true→Jl p s c l=true):=O (fun k hk e=>nW (f:=cE s c l) hk e);have qP:Hid (p.R.C.all (fun x=> !cE s c l x)=true→Jl p s c l=false):=O (fun e=>nV e);have HW:=O (fun lo hi W=>Ls lo c hi W);generalize Jl p s c l=n9 at*;obtain⟨AD,cD,rfl,-,-⟩:=h.d.form;obtain⟨AP,cP,rfl⟩:=h.pr.form;obtain⟨AL,cL,rfl⟩:=h.ld.form;obtain⟨AC,cC,rfl⟩:=h.cp.form;have Bb:=p7 (fun W t=>h.q8 t);have b0:=j4.new w 29 #[.slice AD p.D.length cD,.slice AP p.R.P.length cP,.slice AL p.R.L.length cL,.slice AC p.R.C.length cC];have o6:z6 [] w (w.alloc (.cells #[.slice AD p.D.length cD,.slice AP p.R.P.length cP,.slice AL p.R.L.length cL,.slice AC p.R.C.length cC] 29)):=(z8 [] w).alloc _;have HK:Hid (∀W',z6 [] (w.alloc (.cells #[.slice AD p.D.length cD,.slice AP p.R.P.length cP,.slice AL p.R.L.length cL,.slice AC p.R.C.length cC] 29)) W'→W'.cell? ⟨w.heap.size,0,none⟩=some (.slice AD p.D.length cD)∧W'.cell? ⟨w.heap.size,1,none⟩=some (.slice AP p.R.P.length cP)∧W'.cell? ⟨w.heap.size,2,none⟩=some (.slice AL p.R.L.length cL)∧W'.cell? ⟨w.heap.size,3,none⟩=some (.slice AC p.R.C.length cC)):=O (fun W' t=>(b0.z7 t (by simp)).F2);have m9:=O o6;clear b0 o6 h;go_enter Tryz.func267,Tryz.ntmps267;go_wp2_with fail;generalize El:w.alloc _=w0 at*;clear El;generalize w.heap.size=g at*;go_loopw [9] (fun ti wr=>C9 (fun x=> !cE s c l x) w0 p.R.C ti wr) (fun ti _=>p.R.C.length - (intOf ti).toNat)
 case atStart=>exact⟨0,by omega,rfl,z8 _ _,O (fun j x h=>by omega)⟩
 case round=>
  obtain⟨k,hk,rfl,ht,HX⟩:=hrel;obtain⟨r0,r1,r2,r3⟩:=HK.o wr ht;by_cases Z:k<p.R.C.length
  ·have j1:(k:Int)< (p.R.C.length:Int):=by omega
   have T2:=Bb.o wr (m9.o.Y ht);obtain⟨b,off,rfl,hb⟩:=T2.cp.addr Z;obtain⟨ca,cb,cc,cd⟩:=T9.at_ T2.cp Z;have D7:=O (Tk.o k Z);have I5:Hid (cE s c l p.R.C[k]=false→ ∀(j:Nat) x,j<k+1→p.R.C[j]? =some x→(!cE s c l x)=true):=O (fun e=>X7 HX.o Z (by simp[e]));clear T2 HX;generalize p.R.C[k]=x at*;obtain⟨xa,xb,xc,xd⟩:=x;simp only at ca cb cc cd;unfold cE at D7 I5;simp only at D7 I5;have Ae:=O (ht.alloc (.cells #[.int .i64 xa,.int .i64 xb,.int .i64 xc,.int .i64 xd] 83));have CX:=O (HW.o xc xd);clear ht;by_cases h1:xa=s;rotate_left
   ·have d1:(xa==s)=false:=by simpa using h1
    have W7:=O (I5.o (v8 (fun e=>h1 e.1)));clear h1;go_wp2_with fail;exact⟨⟨k+1,by omega,by go_num,Ae.o,W7⟩,by simp[intOf];omega⟩
   subst h1;by_cases h2:xc≤c∧c≤xd;rotate_left
   ·have W7:=O (I5.o (v8 (fun e=>h2 ⟨e.2.1,e.2.2.1⟩)));rw[v8 h2]at CX;clear h2;go_wp2_with fail;refine(CX.o _).mono ?_;rintro r w2 ⟨rfl,rfl⟩;go_wp2_with fail;exact⟨⟨k+1,by omega,by go_num,Ae.o,W7⟩,by simp[intOf];omega⟩
   rw[b_ h2]at CX;by_cases h3:xb<l
   ·have d3:decide (xb<l)=true:=b_ h3;have y5:=O (D7.o (b_ ⟨rfl,h2.1,h2.2,h3⟩));clear h2;go_wp2_with fail;refine(CX.o _).mono ?_;rintro r w2 ⟨rfl,rfl⟩;go_wp2_with fail;go_ret;exact⟨v9 (by rw[y5.o]),m9.o.Y Ae.o⟩
   ·have d3:decide (xb<l)=false:=v8 h3;have W7:=O (I5.o (v8 (fun e=>h3 e.2.2.2)));clear h2;go_wp2_with fail;refine(CX.o _).mono ?_;rintro r w2 ⟨rfl,rfl⟩;go_wp2_with fail;exact⟨⟨k+1,by omega,by go_num,Ae.o,W7⟩,by simp[intOf];omega⟩
  ·have j1: ¬(k:Int)< (p.R.C.length:Int):=by omega
   have HF:=O (qP.o (U8 HX.o (by omega)));have D6:=O (m9.o.Y ht);clear HX ht;go_wp2_with fail;go_ret;exact⟨v9 (by rw[HF.o]),D6.o⟩
theorem lK (d:List Dx)(to c f:Int): ∀(a b:List Q5),F0 d to c f (a++b)=F0 d to c f a+F0 d to c f b
 | [],b=>by show F0 d to c f b=0+_;omega
 | x::a,b=>by
  have:=lK d to c f a b;show _+F0 d to c f (a++b)=(_+F0 d to c f a)+F0 d to c f b;omega
theorem ql {to f:Int}(hk:k<ls.length):F0 d to c f (ls.take (k+1))=F0 d to c f (ls.take k)+(if decide (ls[k].a=to∧ls[k].d≤c∧c≤ls[k].e)&&(decide (ls[k].b=f) || J8 d ls[k].b c)then ls[k].c else 0):=by
 rw[Cw hk,lK];show _+(_+0)=_;rw[Ub]
def qv9 (w0:World)(d:List Dx)(to c f:Int)(ls:List Q5)(tn ti:Value)(wr:World):Prop:= ∃(k:Nat) (s:Int),k≤ls.length∧tn= .int .i64 s∧ti= .int .i64 (k:Int)∧z6 [] w0 wr∧Hid (s=F0 d to c f (ls.take k))∧0≤s∧s≤1073741824*(k:Int)
theorem tV (p:Px)(VD VP VL VC v:Value)(d:List Dx)(to c f:Int)(w:World)(h:K3 w VD VP VL VC p)(hv:C0 w v d)(hw: ∀x∈p.R.L,0≤x.c∧x.c≤1073741824)(T3:p.R.L.length≤100000):Calls Tryz.prog 268 #[.agg #[VD,VP,VL,VC],v,.int .i64 to,.int .i64 c,.int .i64 f] w fun r w'=>r= .returned (.int .i64 (F0 d to c f p.R.L))∧z6 [] w w':=by
 have E4:=O hw;have HW:=O (fun lo hi W=>Ls lo c hi W);have St:=O (fun(W:World) (t:z6 [] w W) (m:Int)=>Pw v d m c W (hv.q8 t));obtain⟨A,cap,rfl,-,-⟩:=hv.form;obtain⟨AD,cD,rfl,-,-⟩:=h.d.form;obtain⟨AP,cP,rfl⟩:=h.pr.form;obtain⟨AL,cL,rfl⟩:=h.ld.form;obtain⟨AC,cC,rfl⟩:=h.cp.form;have Bb:=p7 (fun W t=>h.q8 t);have b0:=j4.new w 29 #[.slice AD p.D.length cD,.slice AP p.R.P.length cP,.slice AL p.R.L.length cL,.slice AC p.R.C.length cC];have o6:z6 [] w (w.alloc (.cells #[.slice AD p.D.length cD,.slice AP p.R.P.length cP,.slice AL p.R.L.length cL,.slice AC p.R.C.length cC] 29)):=(z8 [] w).alloc _;have HK:Hid (∀W',z6 [] (w.alloc (.cells #[.slice AD p.D.length cD,.slice AP p.R.P.length cP,.slice AL p.R.L.length cL,.slice AC p.R.C.length cC] 29)) W'→W'.cell? ⟨w.heap.size,0,none⟩=some (.slice AD p.D.length cD)∧W'.cell? ⟨w.heap.size,1,none⟩=some (.slice AP p.R.P.length cP)∧W'.cell? ⟨w.heap.size,2,none⟩=some (.slice AL p.R.L.length cL)∧W'.cell? ⟨w.heap.size,3,none⟩=some (.slice AC p.R.C.length cC)):=O (fun W' t=>(b0.z7 t (by simp)).F2);have m9:=O o6;clear b0 o6 h;clear hv hw;go_enter Tryz.func268,Tryz.ntmps268;go_wp2_with fail;generalize El:w.alloc _=w0 at*;clear El;generalize w.heap.size=g at*;go_loopw [11,12] (fun tn ti wr=>qv9 w0 d to c f p.R.L tn ti wr) (fun _ ti _=>p.R.L.length - (intOf ti).toNat)
 case atStart=>exact⟨0,0,by omega,rfl,rfl,z8 _ _,O rfl,by omega,by omega⟩
 case round=>
  obtain⟨k,s,hk,rfl,rfl,ht,HS,bA,xF⟩:=hrel;obtain⟨r0,r1,r2,r3⟩:=HK.o wr ht;by_cases Z:k<p.R.L.length
  ·have j1:(k:Int)< (p.R.L.length:Int):=by omega
   have T2:=Bb.o wr (m9.o.Y ht);obtain⟨b,off,rfl,hb⟩:=T2.ld.addr Z;obtain⟨ca,cb,cc,cd,ce⟩:=o5.at_ T2.ld Z;have WT:=E4.o _ (k8 Z);have Hw:=O (ql (d:=d) (to:=to) (c:=c) (f:=f) Z);rw[←HS.o]at Hw;clear T2 HS;generalize p.R.L[k]=x at*;obtain⟨xa,xb,xc,xd,xe⟩:=x;simp only at ca cb cc cd ce WT Hw;have Ae:=O (ht.alloc (.cells #[.int .i64 xa,.int .i64 xb,.int .i64 xc,.int .i64 xd,.int .i64 xe] 81));have CX:=O (HW.o xd xe);have R_:=O (St.o _ (m9.o.Y Ae.o) xb);clear ht;have hwr:IntKind.i64.wrap (s+xc)=s+xc:=IntWalk.i64_in _ (by omega);by_cases h1:xa=to;rotate_left
   ·have d1:(xa==to)=false:=by simpa using h1
    have W7:Hid (s=F0 d to c f (p.R.L.take (k+1))):=O (by rw[Hw.o,v8 (fun e=>h1 e.1)];simp);clear h1 Hw;go_wp2_with fail;exact⟨⟨k+1,s,by omega,rfl,by go_num,Ae.o,W7,by omega,by omega⟩,by simp[intOf];omega⟩
   subst h1;by_cases h2:xd≤c∧c≤xe;rotate_left
   ·have W7:Hid (s=F0 d xa c f (p.R.L.take (k+1))):=O (by rw[Hw.o,v8 (fun e=>h2 e.2)];simp);rw[v8 h2]at CX;clear h2 Hw;go_wp2_with fail;refine(CX.o _).mono ?_;rintro r w2 ⟨rfl,rfl⟩;go_wp2_with fail;exact⟨⟨k+1,s,by omega,rfl,by go_num,Ae.o,W7,by omega,by omega⟩,by simp[intOf];omega⟩
   rw[b_ (show xa=xa∧xd≤c∧c≤xe from⟨rfl,h2⟩),Z4]at Hw;rw[b_ h2]at CX;clear h2;by_cases h3:xb=f
   ·have d3:(xb==f)=true:=by simpa using h3
    have W7:Hid (s+xc=F0 d xa c f (p.R.L.take (k+1))):=O (by rw[Hw.o,b_ h3];simp);clear h3 Hw;go_wp2_with fail;refine(CX.o _).mono ?_;rintro r w2 ⟨rfl,rfl⟩;go_wp2_with fail;exact⟨⟨k+1,s+xc,by omega,rfl,by go_num,Ae.o,W7,by omega,by omega⟩,by simp[intOf];omega⟩
   have d3:(xb==f)=false:=by simpa using h3
   rw[v8 h3,Yl]at Hw;clear h3;generalize J8 d xb c=q at*
   cases q with
   | false=>
    have W7:Hid (s=F0 d xa c f (p.R.L.take (k+1))):=O (by rw[Hw.o];simp);clear Hw;go_wp2_with fail;refine(CX.o _).mono ?_;rintro r w2 ⟨rfl,rfl⟩;go_wp2_with fail;refine R_.o.mono ?_;rintro r w2 ⟨rfl,rfl⟩;go_wp2_with fail;exact⟨⟨k+1,s,by omega,rfl,by go_num,Ae.o,W7,by omega,by omega⟩,by simp[intOf];omega⟩
   | true=>
    have W7:Hid (s+xc=F0 d xa c f (p.R.L.take (k+1))):=O (by rw[Hw.o];simp);clear Hw;go_wp2_with fail;refine(CX.o _).mono ?_;rintro r w2 ⟨rfl,rfl⟩;go_wp2_with fail;refine R_.o.mono ?_;rintro r w2 ⟨rfl,rfl⟩;go_wp2_with fail;exact⟨⟨k+1,s+xc,by omega,rfl,by go_num,Ae.o,W7,by omega,by omega⟩,by simp[intOf];omega⟩
  ·have j1: ¬(k:Int)< (p.R.L.length:Int):=by omega
   have HF:Hid (s=F0 d to c f p.R.L):=O (by rw[HS.o,N2 (by omega)]);have D6:=O (m9.o.Y ht);clear HS ht;go_wp2_with fail;go_ret;exact⟨by rw[←HF.o];rfl,D6.o⟩
end Go.Proofs.YtlhlmcohdkkjpaaGreatDoor
