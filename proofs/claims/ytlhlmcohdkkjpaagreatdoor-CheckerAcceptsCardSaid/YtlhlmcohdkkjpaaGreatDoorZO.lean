/- Domains as words of bits; what the rules of package propagate remove. No program in sight. -/
import Derived.Test.YtlhlmcohdkkjpaaGreatDoorZM
set_option linter.all false
namespace Go.Proofs.YtlhlmcohdkkjpaaGreatDoor
open Go.RowKit
def Aq (m:Nat):Prop:= ∀j,m.testBit j=true→2≤j∧j≤51
variable{c s f fs:Int}{nx:Int→Bool}{M0 M:Left}{gs:List (List Cx)}{g:List Cx}{l:List Int}{ms q:List Nat}{m a i j k t b g1 g2 g3:Nat}{P:Nat→Prop}{p:Px}{y x:Q5}
theorem Aq.lt (h:Aq m):m<18446744073709551616:=by
 have h1:m<2^64:=Nat.lt_pow_two_of_testBit m (fun i hi=>by
  cases e:m.testBit i with
  | false=>rfl
  | true=>have:=h i e;omega)
 exact h1
def J7 (a b:Nat):Nat:=a^^^(a&&&b)
theorem F8 (a b j:Nat):(J7 a b).testBit j=(a.testBit j&& !b.testBit j):=by
 unfold J7;rw[Nat.testBit_xor,Le];cases a.testBit j<;>cases b.testBit j<;>rfl
theorem Aq.J7 (h:Aq a)(b:Nat):Aq (J7 a b):=fun j hj=>h j (by
 rw[F8,p9]at hj
 exact hj.1)
theorem VH (a b:Nat):J7 a b≤a:=Nat.le_of_testBit (fun i h=>by
 rw[F8,p9]at h
 exact h.1)
def n7 (m:Nat):Int:=if m≠0∧m&&&(m - 1)=0 then(Lib.ctz 64 m:Int)else 0
theorem TG (h0:m≠0)(h:m<18446744073709551616)(j:Nat):(m&&&(m - 1)).testBit j=(decide (Lib.ctz 64 m<j)&&m.testBit j):=by
 have e:Lib.ctz 64 m=Lib.ctzFrom 64 m:=by simp[Lib.ctz,h0]
 obtain⟨q,hq,hk⟩:=Lib.ctzFrom_spec 64 m (by omega) h;rw[e];generalize Lib.ctzFrom 64 m=c at*;have hp:0<2^c:=Nat.two_pow_pos c;have e1:m=2^(c+1)*q+2^c:=by rw[hq,Nat.pow_succ,Nat.mul_add,Sc,Nat.mul_assoc]
 have e2:m - 1=2^(c+1)*q+(2^c - 1):=by rw[e1];exact Nat.add_sub_assoc hp _
 have h1:2^c<2^(c+1):=dL (by omega) (by omega)
 have b1:m.testBit j=if j<c+1 then(2^c).testBit j else q.testBit (j - (c+1)):=by
  rw[e1];exact Nat.testBit_two_pow_mul_add q h1 j
 have b2:(m - 1).testBit j=if j<c+1 then(2^c - 1).testBit j else q.testBit (j - (c+1)):=by
  rw[e2];exact Nat.testBit_two_pow_mul_add q (Wo (Nat.sub_le _ _) h1) j
 rw[Le,b1,b2];by_cases hj:j<c+1
 ·rw[x9 hj,x9 hj,Gu,Nat.testBit_two_pow_sub_one];by_cases e3:c=j
  ·subst e3;simp
  ·rw[v8 e3,B6,Nk]
 ·rw[z9 hj,z9 hj,b_ (by omega)];cases q.testBit (j - (c+1))<;>rfl
theorem sc (hb:Aq m)(h0:m≠0)(hc:c≠0):n7 m=c↔ ∀j:Nat,m.testBit j=true→(j:Int)=c:=by
 obtain⟨h1,h2,h3⟩:=Uy h0 hb.lt;have h4:=TG h0 hb.lt;unfold n7;constructor
 ·intro h j hj;split at h
  ·rename_i hs;have h5:=h4 j;rw[hs.2,Ew,hj,Bool.and_true]at h5;have h6: ¬Lib.ctz 64 m<j:=Gt h5.symm;have h7: ¬j<Lib.ctz 64 m:=fun Z=>by rw[h3 j Z]at hj;cases hj
   omega
  ·exact absurd h.symm hc
 ·intro h;have h5:=h _ h2
  have h6:m&&&(m - 1)=0:=sX (fun j=>by
   rw[h4 j,Ew]
   cases e:m.testBit j with
   | false=>rw[Nk]
   | true=>
    have:=h j e;rw[v8 (by omega)]
    rfl)
  rw[x9 ⟨h0,h6⟩];exact h5
theorem lC:n7 0=0:=by simp[n7]
theorem oH (hb:Aq m)(h:n7 m≠0):m≠0∧2≤n7 m∧n7 m≤51∧m.testBit (n7 m).toNat=true:=by
 have h0:m≠0:=fun e=>h (by rw[e];exact lC);obtain⟨h1,h2,h3⟩:=Uy h0 hb.lt
 have h4:n7 m=(Lib.ctz 64 m:Int):=by
  unfold n7 at h⊢;split
  ·rfl
  ·rename_i hs;rw[z9 hs]at h;exact absurd rfl h
 have h5:=hb _ h2;rw[h4,X4];exact⟨h0,by omega,by omega,h2⟩
theorem Hf (hb:Aq m):0≤n7 m∧n7 m≤51:=by
 by_cases h:n7 m=0
 ·omega
 ·have:=oH hb h;omega
def wd (ms:List Nat)(i:Nat):Nat:=ms.getD i 0
def sd (p:Px)(i:Nat):Int:=(l5 p.D).getD i 0
def G8 (p:Px)(s:Int):Nat:=(l5 p.D).findIdx (fun t=>t==s)
def Z5 (p:Px)(ms:List Nat):Left:=fun s c=> ∃i,i<p.D.length∧sd p i=s∧0≤c∧(wd ms i).testBit c.toNat=true
theorem yR (hi:i<ms.length):wd (ms.set i m) j=if i=j then m else wd ms j:=by
 unfold wd;rw[Bz,List.getElem?_set,Bz];by_cases e:i=j
 ·rw[x9 e,x9 e,x9 hi];rfl
 ·rw[z9 e,z9 e]
theorem Z2 (hi:i<ms.length):wd (ms.set i m) i=m:=by rw[yR hi,x9 rfl]
theorem Y5 (hi:i<ms.length)(h:i≠j):wd (ms.set i m) j=wd ms j:=by rw[yR hi,z9 h]
theorem Tl (hi:i<ms.length):wd ms i=ms[i]:=by
 unfold wd;rw[Bz,j6 hi];rfl
theorem Po (hi:i<ms.length):ms.set i (wd ms i)=ms:=by rw[Tl hi];exact List.set_getElem_self hi
theorem Ff (hi:i<p.D.length):sd p i=p.D[i].st:=by
 unfold sd l5;rw[Bz,Jq,j6 hi];rfl
structure j8 (p:Px):Prop where
 RN: ∀i j,i<p.D.length→j<p.D.length→sd p i=sd p j→i=j
 pr: ∀x∈p.R.P,y8 p x.a=true∧y8 p x.b=true∧x.a≠x.b∧ -1≤x.c∧x.c≤1∧2≤x.d∧x.e≤51
 ld: ∀x∈p.R.L,y8 p x.a=true∧y8 p x.b=true∧x.a≠x.b∧1≤x.c∧x.c≤1073741824∧2≤x.d∧x.e≤51
 cp: ∀x∈p.R.C,y8 p x.a=true∧0≤x.b∧x.b≤1099511627776∧2≤x.c∧x.d≤51
 sr: ∀i,i<p.D.length→0≤sd p i∧sd p i≤511
theorem Ut (h:J5 p=true):j8 p:=by
 have hn:=Cg h;have hr:=Lj h;unfold J5 V1 at h;simp only[p9]at h;obtain⟨-,⟨-,h1,-,-,h2,-,-,h3,-⟩,-,h4,h5,h6⟩:=h;refine⟨fun i j hi hj e=> ?_,fun x hx=> ?_,fun x hx=> ?_,fun x hx=> ?_,fun i hi=> ?_⟩
 ·have hp:=hn.st;rw[Yg]at hp;rw[Ff hi,Ff hj]at e;rcases dM i j with Rl | Rl | Rl
  ·exact absurd e (hp i j hi hj Rl)
  ·exact Rl
  ·exact absurd e.symm (hp j i hj hi Rl)
 ·have a1:=Z6.1 h1 x hx;have a2:=Z6.1 h4 x hx;unfold W8 Jd Da at a1;simp only[p9,E0]at a1 a2;refine⟨a2.1,a2.2,?_⟩;omega
 ·have a1:=Z6.1 h2 x hx;have a2:=Z6.1 h5 x hx;unfold W9 Jd Da at a1;simp only[p9,E0,bne_iff_ne]at a1 a2;refine⟨a2.1,a2.2,?_⟩;omega
 ·have a1:=Z6.1 h3 x hx;have a2:=Z6.1 h6 x hx;unfold C5 Jd Da at a1;simp only[p9,E0]at a1;refine⟨a2,?_⟩;omega
 ·rw[Ff hi];have:=hr _ (k8 hi);unfold Jb at this;omega
theorem X0 (h:y8 p s=true):G8 p s<p.D.length∧sd p (G8 p s)=s:=by
 unfold y8 at h;have hm:s∈l5 p.D:=by simpa using h
 have hl:G8 p s< (l5 p.D).length:=List.findIdx_lt_length_of_exists ⟨s,hm,by simp⟩;have hg:((l5 p.D)[G8 p s]==s)=true:=List.findIdx_getElem (p:=fun t=>t==s) (w:=hl);refine⟨by simpa[l5]using hl,?_⟩;unfold sd;rw[Bz,j6 hl];simpa using hg
theorem dD (hi:i<p.D.length):y8 p (sd p i)=true:=by
 unfold y8;rw[Ff hi];have:p.D[i].st∈l5 p.D:=kF (k8 hi);simpa using this
theorem j8.ix (h:j8 p)(hi:i<p.D.length):G8 p (sd p i)=i:=by
 obtain⟨h1,h2⟩:=X0 (dD hi);exact h.RN _ _ h1 hi h2
theorem j8.Wi (h:j8 p)(hi:i<p.D.length)(hs:y8 p s=true):G8 p s=i↔s=sd p i:=by
 constructor
 ·intro e;rw[←e];exact(X0 hs).2.symm
 ·intro e;rw[e];exact h.ix hi
theorem left_at (h:j8 p)(hi:i<p.D.length):Z5 p ms (sd p i) c↔0≤c∧(wd ms i).testBit c.toNat=true:=by
 constructor
 ·rintro⟨j,hj,e,h1,h2⟩;have:=h.RN _ _ hj hi e;subst this;exact⟨h1,h2⟩
 ·rintro⟨h1,h2⟩;exact⟨i,hi,rfl,h1,h2⟩
theorem Pu (h:j8 p)(hi:i<p.D.length)(hb:Aq (wd ms i))(h0:wd ms i≠0)(hc:c≠0):F5 (Z5 p ms) (sd p i) c↔n7 (wd ms i)=c:=by
 rw[sc hb h0 hc];constructor
 ·intro ho j hj;exact ho j ((left_at h hi).2 ⟨by omega,by rw[X4];exact hj⟩)
 ·intro ho c' gR;obtain⟨h1,h2⟩:=(left_at h hi).1 gR;have:=ho _ h2;omega
theorem Ue (h:j8 p)(hi:i<p.D.length)(hb:Aq (wd ms i))(hc:c≠0)(e:n7 (wd ms i)=c):F5 (Z5 p ms) (sd p i) c:=
 (Pu h hi hb (oH hb (by rw[e];exact hc)).1 hc).2 e
def Cq (p:Px)(x:Q5):Q5:=⟨(G8 p x.a:Int),(G8 p x.b:Int),x.c,x.d,x.e⟩
def CS (p:Px)(x:Q4):Q4:=⟨(G8 p x.a:Int),x.b,x.c,x.d⟩
def y9 (p:Px)(i:Nat):List Q5:=(p.R.P.map (Cq p)).filter (fun x=>x.a==(i:Int) || x.b==(i:Int))
def s9 (p:Px)(i:Nat):List Q4:=(p.R.C.map (CS p)).filter (fun x=>x.a==(i:Int))
def a_ (p:Px)(i:Nat):List Q5:=(p.R.L.map (Cq p)).filter (fun x=>x.a==(i:Int))
def s6 (p:Px)(i:Nat):List Q5:=(p.R.L.map (Cq p)).filter (fun x=>x.b==(i:Int))
theorem Bm :y∈y9 p i↔ ∃x∈p.R.P,y=Cq p x∧(y.a=(i:Int)∨y.b=(i:Int)):=by
 unfold y9;rw[G4,F4];constructor
 ·rintro⟨⟨x,hx,rfl⟩,h⟩;exact⟨x,hx,rfl,by simpa using h⟩
 ·rintro⟨x,hx,rfl,h⟩;exact⟨⟨x,hx,rfl⟩,by simpa using h⟩
theorem Lv {y:Q4}:y∈s9 p i↔ ∃x∈p.R.C,y=CS p x∧y.a=(i:Int):=by
 unfold s9;rw[G4,F4];constructor
 ·rintro⟨⟨x,hx,rfl⟩,h⟩;exact⟨x,hx,rfl,by simpa using h⟩
 ·rintro⟨x,hx,rfl,h⟩;exact⟨⟨x,hx,rfl⟩,by simpa using h⟩
theorem Sj :y∈a_ p i↔ ∃x∈p.R.L,y=Cq p x∧y.a=(i:Int):=by
 unfold a_;rw[G4,F4];constructor
 ·rintro⟨⟨x,hx,rfl⟩,h⟩;exact⟨x,hx,rfl,by simpa using h⟩
 ·rintro⟨x,hx,rfl,h⟩;exact⟨⟨x,hx,rfl⟩,by simpa using h⟩
theorem Hg :y∈s6 p i↔ ∃x∈p.R.L,y=Cq p x∧y.b=(i:Int):=by
 unfold s6;rw[G4,F4];constructor
 ·rintro⟨⟨x,hx,rfl⟩,h⟩;exact⟨x,hx,rfl,by simpa using h⟩
 ·rintro⟨x,hx,rfl,h⟩;exact⟨⟨x,hx,rfl⟩,by simpa using h⟩
theorem Lc (ha:y8 p x.a=true)(hb:y8 p x.b=true)(X3:x.a≠x.b):G8 p x.a<p.D.length∧G8 p x.b<p.D.length∧G8 p x.a≠G8 p x.b∧sd p (G8 p x.a)=x.a∧sd p (G8 p x.b)=x.b:=by
 obtain⟨h1,h2⟩:=X0 ha;obtain⟨h3,h4⟩:=X0 hb;exact⟨h1,h3,fun e=>X3 (by rw[←h2,←h4,e]),h2,h4⟩
def Tb (ms:List Nat)(i:Nat)(x:Q5):Nat:=
 if x.a=(i:Int)then(if n7 (wd ms x.b.toNat)≠0∧x.d≤n7 (wd ms x.b.toNat) - x.c∧n7 (wd ms x.b.toNat) - x.c≤x.e then 2^(n7 (wd ms x.b.toNat) - x.c).toNat else 0)
 else(if x.d≤n7 (wd ms x.a.toNat)∧n7 (wd ms x.a.toNat)≤x.e then 2^(n7 (wd ms x.a.toNat)+x.c).toNat else 0)
def P8 (ms:List Nat)(f c:Int)(x:Q5):Int:=if x.d≤c∧c≤x.e∧(x.b=f∨n7 (wd ms x.b.toNat)=c)then x.c else 0
theorem Xa (h:x.d≤c∧c≤x.e∧(x.b=f∨n7 (wd ms x.b.toNat)=c)):P8 ms f c x=x.c:=x9 h
theorem Xb (h: ¬(x.d≤c∧c≤x.e∧(x.b=f∨n7 (wd ms x.b.toNat)=c))):P8 ms f c x=0:=z9 h
def C3 (ms:List Nat)(f c:Int)(l:List Q5):Int:=(l.map (P8 ms f c)).sum
def Db (p:Px)(t:Nat)(c dh:Int):Prop:= ∃y∈s9 p t,y.c≤c∧c≤y.d∧y.b<dh
def Pb (p:Px)(ms:List Nat)(i j:Nat):Prop:= ∃x∈y9 p i,(Tb ms i x).testBit j=true
def Cb (p:Px)(ms:List Nat)(i j:Nat):Prop:=Db p i j (C3 ms (-1) j (a_ p i))
def Lb (p:Px)(ms:List Nat)(i j:Nat):Prop:= ∃x∈s6 p i,n7 (wd ms x.a.toNat)=(j:Int)∧x.d≤(j:Int)∧(j:Int)≤x.e∧Db p x.a.toNat j (C3 ms i j (a_ p x.a.toNat))
def Rb (p:Px)(ms:List Nat)(i j:Nat):Prop:=Pb p ms i j∨Cb p ms i j∨Lb p ms i j
structure G5 (p:Px)(ms:List Nat):Prop where
 len:ms.length=p.D.length
 bits: ∀i,Aq (wd ms i)
theorem aI :(2^k).testBit j=true↔k=j:=by rw[Gu,G3]
theorem yu {c:Prop} [Decidable c] :(if c then 2^k else 0).testBit j=true↔c∧k=j:=by
 by_cases h:c
 ·rw[x9 h,aI];exact⟨fun e=>⟨h,e⟩,fun e=>e.2⟩
 ·rw[z9 h,Ew];exact⟨fun e=>(by cases e),fun e=>absurd e.1 h⟩
theorem Ol :(Tb ms i x).testBit j=true↔(x.a=(i:Int)∧(n7 (wd ms x.b.toNat)≠0∧x.d≤n7 (wd ms x.b.toNat) - x.c∧n7 (wd ms x.b.toNat) - x.c≤x.e)∧(n7 (wd ms x.b.toNat) - x.c).toNat=j)∨(x.a≠(i:Int)∧(x.d≤n7 (wd ms x.a.toNat)∧n7 (wd ms x.a.toNat)≤x.e)∧(n7 (wd ms x.a.toNat)+x.c).toNat=j):=by
 unfold Tb;by_cases h:x.a=(i:Int)
 ·rw[x9 h,yu]
  exact⟨fun e=> .inl ⟨h,e⟩,fun e=>by
   rcases e with e | e
   ·exact e.2
   ·exact absurd h e.1⟩
 ·rw[z9 h,yu]
  exact⟨fun e=> .inr ⟨h,e⟩,fun e=>by
   rcases e with e | e
   ·exact absurd e.1 h
   ·exact e.2⟩
theorem qh (hp:j8 p)(hw:G5 p ms)(hi:i<p.D.length)(h:Pb p ms i j):Up p (Z5 p ms) (sd p i) j:=by
 obtain⟨y,hy,hb⟩:=h;obtain⟨x,hx,rfl,jN⟩:=Bm.1 hy;obtain⟨f1,f2,f3,f4,f5,f6,f7⟩:=hp.pr x hx;obtain⟨g1,g2,g3,g4,g5⟩:=Lc f1 f2 f3;refine⟨x,hx,?_⟩;rw[Ol]at hb;simp only[Cq,X4]at hb jN;rcases hb with⟨e1,⟨e2,e3,e4⟩,e5⟩ | ⟨e1,⟨e3,e4⟩,e5⟩
 ·have e6:G8 p x.a=i:=by omega
  have hc:n7 (wd ms (G8 p x.b))=(j:Int)+x.c:=by omega
  left;refine⟨by rw[←g4,e6],by omega,by omega,?_⟩;rw[←g5];exact Ue hp g2 (hw.bits _) (by omega) hc
 ·have e6:G8 p x.b=i:=by
   rcases jN with e | e
   ·exact absurd e e1
   ·omega
  have hc:n7 (wd ms (G8 p x.a))=(j:Int) - x.c:=by omega
  right;refine⟨by rw[←g5,e6],by omega,by omega,?_⟩;rw[←g4];exact Ue hp g1 (hw.bits _) (by omega) hc
theorem qg (hp:j8 p)(hw:G5 p ms)(hi:i<p.D.length)(X3: ∀k,k<p.D.length→wd ms k≠0)(hj:2≤j)(h:Up p (Z5 p ms) (sd p i) j):Pb p ms i j:=by
 obtain⟨x,hx,h⟩:=h;obtain⟨f1,f2,f3,f4,f5,f6,f7⟩:=hp.pr x hx;obtain⟨g1,g2,g3,g4,g5⟩:=Lc f1 f2 f3;refine⟨Cq p x,?_,?_⟩
 ·refine Bm.2 ⟨x,hx,rfl,?_⟩;show(G8 p x.a:Int)=(i:Int)∨(G8 p x.b:Int)=(i:Int);rcases h with⟨e,-⟩ | ⟨e,-⟩
  ·left;rw[(hp.Wi hi f1).2 e]
  ·right;rw[(hp.Wi hi f2).2 e]
 ·rw[Ol];simp only[Cq,X4];rcases h with⟨e,e2,e3,e4⟩ | ⟨e,e2,e3,e4⟩
  ·left;rw[←g5]at e4;have e5:=(Pu hp g2 (hw.bits _) (X3 _ g2) (by omega)).1 e4;have e6:=(hp.Wi hi f1).2 e;omega
  ·right;rw[←g4]at e4;have e5:=(Pu hp g1 (hw.bits _) (X3 _ g1) (by omega)).1 e4;have e6:=(hp.Wi hi f2).2 e;omega
theorem yU {α:Type}{f g:α→Int}: ∀ {l:List α},(∀x∈l,f x≤g x)→(l.map f).sum≤(l.map g).sum
 | [],_=>by simp
 | x::l,h=>by
  have h1:=h x N3;have h2:=yU (l:=l) (fun y hy=>h y (T8 _ hy));simp only[Bw,Hy];omega
open Classical in
theorem uI (M:Left)(g:Q5→Int): ∀(L:List Q5),(∀x∈L,(x.a=sd p t↔(G8 p x.a:Int)=(t:Int))∧(x.a=sd p t→(if x.d≤c∧c≤x.e∧(x.b=fs∨F5 M x.b c)then x.c else 0)=g (Cq p x)))→Fg L M (sd p t) c fs=(((L.map (Cq p)).filter (fun x=>x.a==(t:Int))).map g).sum
 | [],_=>by simp[Fg]
 | x::L,h=>by
  obtain⟨h1,h2⟩:=h x N3;have hi:=uI M g L (fun y hy=>h y (T8 _ hy));unfold Fg at hi⊢;rw[Bw,Hy,hi,Bw];by_cases e:x.a=sd p t
  ·have e2:((Cq p x).a==(t:Int))=true:=by
    show((G8 p x.a:Int)==(t:Int))=true;simpa using h1.1 e
   rw[cU (by simpa using e2),Bw,Hy,←h2 e]
   congr 1
   by_cases e3:x.d≤c∧c≤x.e∧(x.b=fs∨F5 M x.b c)
   ·rw[x9 e3,x9 ⟨e,e3⟩]
   ·rw[z9 e3,z9 (fun k=>e3 k.2)]
  ·have e2: ¬((Cq p x).a==(t:Int))=true:=by
    show¬((G8 p x.a:Int)==(t:Int))=true;intro k;exact e (h1.2 (by simpa using k))
   rw[jk (by simpa using e2),z9 (fun k=>e k.1)];omega
open Classical in
theorem gi (M:Left)(g:Q5→Int): ∀(L:List Q5),(∀x∈L,(x.a=sd p t↔(G8 p x.a:Int)=(t:Int))∧0≤x.c∧(x.a=sd p t→g (Cq p x)≤(if x.d≤c∧c≤x.e∧(x.b=fs∨F5 M x.b c)then x.c else 0)))→(((L.map (Cq p)).filter (fun x=>x.a==(t:Int))).map g).sum≤Fg L M (sd p t) c fs
 | [],_=>by simp[Fg]
 | x::L,h=>by
  obtain⟨h1,h0,h2⟩:=h x N3;have hi:=gi M g L (fun y hy=>h y (T8 _ hy));unfold Fg at hi⊢;rw[Bw (f:=Cq p),Bw,Hy];by_cases e:x.a=sd p t
  ·have e2:((Cq p x).a==(t:Int))=true:=by
    show((G8 p x.a:Int)==(t:Int))=true;simpa using h1.1 e
   have h3:=h2 e;rw[cU (by simpa using e2),Bw,Hy];by_cases e3:x.d≤c∧c≤x.e∧(x.b=fs∨F5 M x.b c)
   ·rw[x9 e3]at h3;rw[x9 ⟨e,e3⟩];omega
   ·rw[z9 e3]at h3;rw[z9 (fun k=>e3 k.2)];omega
  ·have e2: ¬((Cq p x).a==(t:Int))=true:=by
    show¬((G8 p x.a:Int)==(t:Int))=true;intro k;exact e (h1.2 (by simpa using k))
   rw[jk (by simpa using e2),z9 (fun k=>e k.1)];omega
theorem Lm (hp:j8 p)(ht:t<p.D.length)(hs:y8 p s=true):s=sd p t↔(G8 p s:Int)=(t:Int):=by
 rw[←hp.Wi ht hs];omega
open Classical in
theorem uD (hp:j8 p)(hw:G5 p ms)(X3: ∀k,k<p.D.length→wd ms k≠0)(ht:t<p.D.length)(hc:c≠0)(hf: ∀x∈p.R.L,x.b=fs↔(G8 p x.b:Int)=f):Fg p.R.L (Z5 p ms) (sd p t) c fs=C3 ms f c (a_ p t):=by
 refine uI (Z5 p ms) (P8 ms f c) p.R.L (fun x hx=> ?_);obtain⟨f1,f2,f3,f4,-⟩:=hp.ld x hx;obtain⟨g1,g2,g3,g4,g5⟩:=Lc f1 f2 f3;refine⟨Lm hp ht f1,fun _=> ?_⟩;have e:=Pu hp g2 (hw.bits _) (X3 _ g2) hc;rw[g5]at e;have e2:=hf x hx;by_cases h:x.d≤c∧c≤x.e∧(x.b=fs∨F5 (Z5 p ms) x.b c)
 ·rw[x9 h];exact(Xa (x:=Cq p x) ⟨h.1,h.2.1,h.2.2.imp e2.1 e.1⟩).symm
 ·rw[z9 h];exact(Xb (x:=Cq p x) (fun k=>h ⟨k.1,k.2.1,k.2.2.imp e2.2 e.2⟩)).symm
open Classical in
theorem uC (hp:j8 p)(hw:G5 p ms)(ht:t<p.D.length)(hc:c≠0)(hf: ∀x∈p.R.L,x.b=fs↔(G8 p x.b:Int)=f):C3 ms f c (a_ p t)≤Fg p.R.L (Z5 p ms) (sd p t) c fs:=by
 refine gi (Z5 p ms) (P8 ms f c) p.R.L (fun x hx=> ?_);obtain⟨f1,f2,f3,f4,-⟩:=hp.ld x hx;obtain⟨g1,g2,g3,g4,g5⟩:=Lc f1 f2 f3;refine⟨Lm hp ht f1,by omega,fun _=> ?_⟩;have e2:=hf x hx;by_cases h:x.d≤c∧c≤x.e∧((G8 p x.b:Int)=f∨n7 (wd ms (G8 p x.b))=c)
 ·rw[x9 ⟨h.1,h.2.1,h.2.2.imp e2.2 (fun k=>by rw[←g5];exact Ue hp g2 (hw.bits _) hc k)⟩];exact Int.le_of_eq (Xa (x:=Cq p x) h)
 ·rw[show P8 ms f c (Cq p x)=0 from Xb (x:=Cq p x) h];split<;>omega
theorem Us (hp:j8 p)(ht:t<p.D.length){dh:Int}:Db p t c dh↔Ym p (sd p t) c dh:=by
 constructor
 ·rintro⟨y,hy,h1,h2,h3⟩;obtain⟨x,hx,rfl,h4⟩:=Lv.1 hy;obtain⟨f1,-⟩:=hp.cp x hx;exact⟨x,hx,(Lm hp ht f1).2 h4,h1,h2,h3⟩
 ·rintro⟨x,hx,h0,h1,h2,h3⟩;obtain⟨f1,-⟩:=hp.cp x hx;exact⟨CS p x,Lv.2 ⟨x,hx,rfl,(Lm hp ht f1).1 h0⟩,h1,h2,h3⟩
theorem Db.mono {l l':Int}(h:Db p t c l)(hl:l≤l'):Db p t c l':=by
 obtain⟨y,hy,h1,h2,h3⟩:=h;exact⟨y,hy,h1,h2,by omega⟩
theorem aK (hp:j8 p): ∀x∈p.R.L,x.b= -1↔(G8 p x.b:Int)= -1:=fun x hx=>by
 obtain⟨-,f2,-⟩:=hp.ld x hx;obtain⟨h1,h2⟩:=X0 f2;have:=hp.sr _ h1;omega
theorem ja (hp:j8 p)(hi:i<p.D.length): ∀x∈p.R.L,x.b=sd p i↔(G8 p x.b:Int)=(i:Int):=fun x hx=>by
 obtain⟨-,f2,-⟩:=hp.ld x hx;exact Lm hp hi f2
theorem LC (hp:j8 p)(hw:G5 p ms)(hi:i<p.D.length)(hj:2≤j)(h:Rb p ms i j):Rem p (Z5 p ms) (sd p i) j:=by
 rcases h with h | h | h
 ·exact .inl (qh hp hw hi h)
 ·exact .inr (.inl (((Us hp hi).1 h).mono (uC hp hw hi (by omega) (aK hp))))
 ·obtain⟨y,hy,h1,h2,h3,h4⟩:=h;obtain⟨x,hx,rfl,h5⟩:=Hg.1 hy;obtain⟨f1,f2,f3,f4,-⟩:=hp.ld x hx;obtain⟨g1,g2,g3,g4,g5⟩:=Lc f1 f2 f3;simp only[Cq,X4]at h1 h2 h3 h4 h5;refine .inr (.inr ⟨x,hx,(Lm hp hi f2).2 h5,h2,h3,?_,?_⟩)
  ·rw[←g4];exact Ue hp g1 (hw.bits _) (by omega) h1
  ·have:=((Us hp g1).1 h4).mono (uC hp hw g1 (by omega) (ja hp hi));rw[g4]at this;exact this
theorem LA (hp:j8 p)(hw:G5 p ms)(hi:i<p.D.length)(X3: ∀k,k<p.D.length→wd ms k≠0)(hj:2≤j)(h:Rem p (Z5 p ms) (sd p i) j):Rb p ms i j:=by
 rcases h with h | h | h
 ·exact .inl (qg hp hw hi X3 hj h)
 ·rw[uD hp hw X3 hi (by omega) (aK hp)]at h;exact .inr (.inl ((Us hp hi).2 h))
 ·obtain⟨x,hx,h1,h2,h3,h4,h5⟩:=h;obtain⟨f1,f2,f3,f4,-⟩:=hp.ld x hx;obtain⟨g1,g2,g3,g4,g5⟩:=Lc f1 f2 f3;refine .inr (.inr ⟨Cq p x,Hg.2 ⟨x,hx,rfl,(Lm hp hi f2).1 h1⟩,?_,h2,h3,?_⟩)
  ·show n7 (wd ms (G8 p x.a:Int).toNat)=_;rw[X4];rw[←g4]at h4;exact(Pu hp g1 (hw.bits _) (X3 _ g1) (by omega)).1 h4
  ·show Db p (G8 p x.a:Int).toNat j (C3 ms i j (a_ p (G8 p x.a:Int).toNat));rw[X4];rw[←g4,uD hp hw X3 g1 (by omega) (ja hp hi)]at h5;exact(Us hp g1).2 h5
def Ez (p:Px)(ms:List Nat)(i:Nat):Prop:= ∀j,(wd ms i).testBit j=true→ ¬Rb p ms i j
def XF (p:Px)(ms:List Nat)(i:Nat)(j:Int):Prop:=n7 (wd ms i)≠0∧((∃x∈y9 p i,j=x.a+x.b - (i:Int))∨(∃x∈a_ p i,j=x.b)∨ ∃x∈s6 p i,j=x.a∨(n7 (wd ms x.a.toNat)≠0∧ ∃y∈a_ p x.a.toNat,j=y.b))
theorem G5.set (h:G5 p ms)(hi:i<p.D.length)(hm:Aq m):G5 p (ms.set i m):=by
 have hl:i<ms.length:=by rw[h.len];exact hi
 refine⟨by rw[Nt];exact h.len,fun k=> ?_⟩;rw[yR hl];split
 ·exact hm
 ·exact h.bits k
theorem F1 (hp:j8 p)(h:y∈y9 p i): ∃a b:Nat,y.a=(a:Int)∧y.b=(b:Int)∧a<p.D.length∧b<p.D.length∧a≠b∧(a=i∨b=i)∧ -1≤y.c∧y.c≤1∧2≤y.d∧y.e≤51:=by
 obtain⟨x,hx,rfl,jN⟩:=Bm.1 h;obtain⟨f1,f2,f3,f4,f5,f6,f7⟩:=hp.pr x hx;obtain⟨g1,g2,g3,g4,g5⟩:=Lc f1 f2 f3;refine⟨G8 p x.a,G8 p x.b,rfl,rfl,g1,g2,g3,?_,f4,f5,f6,f7⟩;simp only[Cq]at jN;omega
theorem Q2 (hp:j8 p)(h:y∈a_ p i): ∃b:Nat,y.a=(i:Int)∧y.b=(b:Int)∧i<p.D.length∧b<p.D.length∧b≠i∧y∈s6 p b∧1≤y.c∧y.c≤1073741824∧2≤y.d∧y.e≤51:=by
 obtain⟨x,hx,rfl,ha⟩:=Sj.1 h;obtain⟨f1,f2,f3,f4,f5,f6,f7⟩:=hp.ld x hx;obtain⟨g1,g2,g3,g4,g5⟩:=Lc f1 f2 f3;refine⟨G8 p x.b,ha,rfl,?_,g2,?_,Hg.2 ⟨x,hx,rfl,rfl⟩,f4,f5,f6,f7⟩
 ·simp only[Cq]at ha;omega
 ·simp only[Cq]at ha;omega
theorem E3 (hp:j8 p)(h:y∈s6 p i): ∃a:Nat,y.b=(i:Int)∧y.a=(a:Int)∧i<p.D.length∧a<p.D.length∧a≠i∧y∈a_ p a∧1≤y.c∧y.c≤1073741824∧2≤y.d∧y.e≤51:=by
 obtain⟨x,hx,rfl,hb⟩:=Hg.1 h;obtain⟨f1,f2,f3,f4,f5,f6,f7⟩:=hp.ld x hx;obtain⟨g1,g2,g3,g4,g5⟩:=Lc f1 f2 f3;refine⟨G8 p x.a,hb,rfl,?_,g1,?_,Sj.2 ⟨x,hx,rfl,rfl⟩,f4,f5,f6,f7⟩
 ·simp only[Cq]at hb;omega
 ·simp only[Cq]at hb;omega
theorem D4 (hp:j8 p){y:Q4}(h:y∈s9 p i):y.a=(i:Int)∧0≤y.b∧y.b≤1099511627776∧2≤y.c∧y.d≤51:=by
 obtain⟨x,hx,rfl,ha⟩:=Lv.1 h;obtain⟨f1,f2⟩:=hp.cp x hx;exact⟨ha,f2⟩
theorem Db.two (hp:j8 p){l:Int}(h:Db p t c l):2≤c∧c≤51:=by
 obtain⟨y,hy,h1,h2,-⟩:=h;have:=D4 hp hy;omega
theorem Rb.two (hp:j8 p)(hw:G5 p ms)(h:Pb p ms i j):1≤j∧j≤52:=by
 obtain⟨y,hy,hb⟩:=h;obtain⟨a,b,e1,e2,h1,h2,h3,h4,h5,h6,h7,h8⟩:=F1 hp hy;rw[Ol]at hb;omega
theorem Eh (hi:i<ms.length)(hb:x.b=(b:Int))(X3:b≠i):P8 (ms.set i m) f c x=P8 ms f c x:=by
 unfold P8;rw[hb,X4,Y5 hi (W5 X3)]
theorem qt (hb:x.b=f):P8 (ms.set i m) f c x=P8 ms f c x:=by
 unfold P8;have e: ∀q:Prop,(x.b=f∨q)=True:=fun q=>by simp[hb]
 simp only[e]
theorem Ig {Fj:List Nat}{l:List Q5}(h: ∀x∈l,P8 Fj f c x=P8 ms f c x):C3 Fj f c l=C3 ms f c l:=by
 unfold C3;rw[kH h]
theorem oE (hp:j8 p)(hw:G5 p ms)(hi:i<p.D.length):(∀j,Pb p (ms.set i m) i j↔Pb p ms i j)∧(∀j,Cb p (ms.set i m) i j↔Cb p ms i j)∧ ∀j,Lb p (ms.set i m) i j↔Lb p ms i j:=by
 have hl:i<ms.length:=by rw[hw.len];exact hi
 refine⟨fun j=> ?_,fun j=> ?_,fun j=> ?_⟩
 ·have e: ∀y∈y9 p i,Tb (ms.set i m) i y=Tb ms i y:=fun y hy=>by
   obtain⟨a,b,e1,e2,h1,h2,h3,h4,-⟩:=F1 hp hy;unfold Tb;rw[e1,e2,X4,X4];by_cases ha:(a:Int)=(i:Int)
   ·rw[x9 ha,x9 ha,Y5 hl (by omega)]
   ·rw[z9 ha,z9 ha,Y5 hl (by omega)]
  unfold Pb;constructor
  ·rintro⟨y,hy,h⟩;exact⟨y,hy,by rw[←e y hy];exact h⟩
  ·rintro⟨y,hy,h⟩;exact⟨y,hy,by rw[e y hy];exact h⟩
 ·unfold Cb
  rw[Ig (Fj:=ms.set i m) (ms:=ms) (fun x hx=>by
   obtain⟨b,h1,h2,h3,h4,h5,-⟩:=Q2 hp hx
   exact Eh hl h2 h5)]
 ·have e: ∀y∈s6 p i,n7 (wd (ms.set i m) y.a.toNat)=n7 (wd ms y.a.toNat)∧ ∀c,C3 (ms.set i m) i c (a_ p y.a.toNat)=C3 ms i c (a_ p y.a.toNat):=fun y hy=>by
   obtain⟨a,h1,h2,h3,h4,h5,-⟩:=E3 hp hy;rw[h2,X4];refine⟨by rw[Y5 hl (W5 h5)],fun c=>Ig (fun x hx=> ?_)⟩;obtain⟨b,k1,k2,k3,k4,k5,-⟩:=Q2 hp hx;by_cases hb:b=i
   ·exact qt (by rw[k2,hb])
   ·exact Eh hl k2 hb
  unfold Lb;constructor
  ·rintro⟨y,hy,g1,g2,g3,g4⟩;obtain⟨e1,e2⟩:=e y hy;exact⟨y,hy,by rw[←e1];exact g1,g2,g3,by rw[←e2];exact g4⟩
  ·rintro⟨y,hy,g1,g2,g3,g4⟩;obtain⟨e1,e2⟩:=e y hy;exact⟨y,hy,by rw[e1];exact g1,g2,g3,by rw[e2];exact g4⟩
theorem JJ (hp:j8 p)(hw:G5 p ms)(hi:i<p.D.length)(j:Nat):Rb p (ms.set i m) i j↔Rb p ms i j:=by
 obtain⟨h1,h2,h3⟩:=oE hp hw (m:=m) hi;unfold Rb;rw[h1,h2,h3]
theorem fK (hw:G5 p ms)(hi:i<p.D.length)(hs: ∀j,m.testBit j=true→(wd ms i).testBit j=true)(h0:m≠0)(hz:n7 m=0)(hc:c≠0)(hb:x.b=(b:Int))(hx:0≤x.c):P8 (ms.set i m) f c x≤P8 ms f c x:=by
 have hl:i<ms.length:=by rw[hw.len];exact hi
 by_cases e:b=i
 ·subst e;unfold P8;rw[hb,X4,Z2 hl,hz];by_cases h:x.d≤c∧c≤x.e∧((b:Int)=f∨(0:Int)=c)
  ·rcases h with⟨h1,h2,h3 | h3⟩
   ·rw[x9 ⟨h1,h2,.inl h3⟩,x9 ⟨h1,h2,.inl h3⟩];omega
   ·exact absurd h3.symm hc
  ·rw[z9 h];split<;>omega
 ·rw[Eh hl hb e];omega
theorem fW (hp:j8 p)(hw:G5 p ms)(hi:i<p.D.length)(hs: ∀j,m.testBit j=true→(wd ms i).testBit j=true)(h0:m≠0)(hk:k<p.D.length)(X3:k≠i)(hn: ¬XF p (ms.set i m) i (k:Int))(hc:Ez p ms k):Ez p (ms.set i m) k:=by
 have hl:i<ms.length:=by rw[hw.len];exact hi
 have hwi:wd (ms.set i m) i=m:=Z2 hl;intro j hj hr;rw[Y5 hl (W5 X3)]at hj;have qL:=hw.bits k j hj;refine hc j hj ?_;rcases hr with hr | hr | hr
 ·left;obtain⟨y,hy,hb⟩:=hr;refine⟨y,hy,?_⟩;obtain⟨a,b,e1,e2,h1,h2,h3,h4,h5,h6,h7,h8⟩:=F1 hp hy
  -- the other end is i,and then i is not single;or it is another
  by_cases ho:a=i∨b=i
  ·exfalso
   have hyi:y∈y9 p i:=by
    obtain⟨x,hx,e,-⟩:=Bm.1 hy;exact Bm.2 ⟨x,hx,e,by rw[e1,e2];rcases ho with rfl | rfl;exact .inl rfl;exact .inr rfl⟩
   have hz:n7 (wd (ms.set i m) i)=0:=by
    refine Bh (fun hz=>hn ⟨hz,.inl ⟨y,hyi,?_⟩⟩);rw[e1,e2];omega
   rw[Ol,e1,e2,X4,X4]at hb;rcases hb with⟨k1,⟨k2,-⟩,-⟩ | ⟨k1,⟨k2,-⟩,-⟩
   ·have:b=i:=by omega
    rw[this]at k2;exact k2 hz
   ·have:a=i:=by omega
    rw[this,hz]at k2;omega
  ·have e3:Tb (ms.set i m) k y=Tb ms k y:=by
    unfold Tb;rw[e1,e2,X4,X4,Y5 hl (by omega),Y5 hl (by omega)]
   rw[←e3];exact hb
 ·right;left;refine Db.mono hr ?_;by_cases hz:n7 m=0
  ·refine yU (fun x hx=> ?_);obtain⟨b,k1,k2,k3,k4,k5,k6,k7,-⟩:=Q2 hp hx;exact fK hw hi hs h0 hz (by omega) k2 (by omega)
  ·refine Int.le_of_eq (Ig (fun x hx=> ?_));obtain⟨b,k1,k2,k3,k4,k5,k6,-⟩:=Q2 hp hx;by_cases hb:b=i
   ·subst hb;exact absurd ⟨by rw[hwi];exact hz,.inr (.inr ⟨x,k6,.inl k1.symm⟩)⟩ hn
   ·exact Eh hl k2 hb
 ·right;right;obtain⟨y,hy,h1,h2,h3,h4⟩:=hr;obtain⟨a,g1,g2,g3,g4,g5,g6,g7,-⟩:=E3 hp hy;rw[g2,X4]at h1 h4;by_cases ha:a=i
  ·exfalso;subst ha;exact hn ⟨by rw[h1];omega,.inr (.inl ⟨y,g6,g1.symm⟩)⟩
  ·have hwa:wd (ms.set i m) a=wd ms a:=Y5 hl (W5 ha);refine⟨y,hy,?_,h2,h3,?_⟩
   ·rw[g2,X4,←hwa];exact h1
   ·rw[g2,X4];refine h4.mono ?_;by_cases hz:n7 m=0
    ·refine yU (fun x hx=> ?_);obtain⟨b,k1,k2,k3,k4,k5,k6,k7,-⟩:=Q2 hp hx;exact fK hw hi hs h0 hz (by omega) k2 (by omega)
    ·refine Int.le_of_eq (Ig (fun x hx=> ?_));obtain⟨b,k1,k2,k3,k4,k5,k6,-⟩:=Q2 hp hx;by_cases hb:b=i
     ·subst hb;refine absurd ⟨by rw[hwi];exact hz,.inr (.inr ⟨x,k6,.inr ⟨?_,y,?_,g1.symm⟩⟩)⟩ hn
      ·rw[k1,X4,h1];omega
      ·rw[k1,X4];exact g6
     ·exact Eh hl k2 hb
structure K9 (p:Px)(gs:List (List Cx))(M0:Left)(ms:List Nat):Prop where
 Fv:G5 p ms
 sub:Qq (Z5 p ms) M0
 hold:S7 p gs M0 (Z5 p ms)
def Ru (p:Px)(ms:List Nat)(q:List Nat)(nx:Int→Bool):Prop:= ∀k,k<p.D.length→k∉q→nx (k:Int)=false→Ez p ms k
def Void (p:Px)(ms:List Nat)(q:List Nat):Prop:= ∀k,k<p.D.length→wd ms k=0→k∈q
theorem j8.nn (hp:j8 p): ∀x∈p.R.L,0≤x.c:=fun x hx=>by
 have:=hp.ld x hx;omega
theorem Oq (hp:j8 p)(hw:G5 p ms)(hi:i<p.D.length)(h:Z5 p ms s c):Z5 p (ms.set i m) s c∨(s=sd p i∧0≤c∧(wd ms i).testBit c.toNat=true∧m.testBit c.toNat=false):=by
 have hl:i<ms.length:=by rw[hw.len];exact hi
 obtain⟨k,hk,rfl,h1,h2⟩:=h;by_cases e:i=k
 ·subst e
  cases hm:m.testBit c.toNat with
  | true=>exact .inl ⟨i,hi,rfl,h1,by rw[Z2 hl];exact hm⟩
  | false=>exact .inr ⟨rfl,h1,h2,rfl⟩
 ·exact .inl ⟨k,hk,rfl,h1,by rw[Y5 hl e];exact h2⟩
theorem lM (hw:G5 p ms)(hi:i<p.D.length)(hs: ∀j,m.testBit j=true→(wd ms i).testBit j=true):Qq (Z5 p (ms.set i m)) (Z5 p ms):=by
 have hl:i<ms.length:=by rw[hw.len];exact hi
 rintro s c ⟨k,hk,rfl,h1,h2⟩;by_cases e:i=k
 ·subst e;rw[Z2 hl]at h2;exact⟨i,hi,rfl,h1,hs _ h2⟩
 ·rw[Y5 hl e]at h2;exact⟨k,hk,rfl,h1,h2⟩
theorem K9.ql3 (hp:j8 p)(h:K9 p gs M0 ms)(hi:i<p.D.length){g:Nat}(hg: ∀j,g.testBit j=true→Rb p ms i j):K9 p gs M0 (ms.set i (J7 (wd ms i) g)):=by
 refine⟨h.Fv.set hi ((h.Fv.bits i).J7 g),?_,?_⟩
 ·intro s c hc;exact h.sub s c (lM h.Fv hi (fun j hj=>by rw[F8,p9]at hj;exact hj.1) s c hc)
 ·refine h.hold.drop hp.nn (fun s c hc=> ?_);rcases Oq hp h.Fv (m:=J7 (wd ms i) g) hi hc with h1 | ⟨rfl,h1,h2,h3⟩
  ·exact .inl h1
  ·right;rw[F8,h2,Z4,Bool.not_eq_false']at h3;obtain⟨n,rfl⟩:=K5 h1;rw[X4]at h2 h3;exact .inr (LC hp h.Fv hi (h.Fv.bits i n h2).1 (hg n h3))
theorem vM (hp:j8 p)(hw:G5 p ms)(hi:i<p.D.length)(h1: ∀j,g1.testBit j=true↔Pb p ms i j)(h2: ∀j,g2.testBit j=true↔Cb p ms i j)(h3: ∀j,g3.testBit j=true↔Lb p ms i j):Ez p (ms.set i (J7 (J7 (J7 (wd ms i) g1) g2) g3)) i:=by
 have hl:i<ms.length:=by rw[hw.len];exact hi
 intro j hj hr;rw[Z2 hl,F8,F8,F8,p9,p9,p9]at hj;obtain⟨⟨⟨-,e1⟩,e2⟩,e3⟩:=hj;rw[JJ hp hw hi]at hr;rcases hr with hr | hr | hr
 ·rw[(h1 j).2 hr]at e1;cases e1
 ·rw[(h2 j).2 hr]at e2;cases e2
 ·rw[(h3 j).2 hr]at e3;cases e3
theorem Ru.same (h:Ru p ms (i::q) nx)(hc:Ez p ms i):Ru p ms q nx:=fun k hk hq hn=>by
 by_cases e:k=i
 ·rw[e];exact hc
 ·exact h k hk (fun hm=>by
   rcases m6.1 hm with h1 | h1
   ·exact e h1
   ·exact hq h1) hn
theorem Ru.change (hp:j8 p)(hw:G5 p ms)(hi:i<p.D.length){j5:Int→Bool}(h:Ru p ms (i::q) nx)(hs: ∀j,m.testBit j=true→(wd ms i).testBit j=true)(h0:m≠0)(hc:Ez p (ms.set i m) i)(hx: ∀j,nx j=true→j5 j=true)(hb: ∀j,XF p (ms.set i m) i j→j5 j=true):Ru p (ms.set i m) q j5:=fun k hk hq hn=>by
 by_cases e:k=i
 ·rw[e];exact hc
 ·refine fW hp hw hi hs h0 hk e (fun U3=> ?_) (h k hk (fun hm=> ?_) ?_)
  ·rw[hb _ U3]at hn;cases hn
  ·rcases m6.1 hm with h1 | h1
   ·exact e h1
   ·exact hq h1
  ·cases hx2:nx (k:Int)with
   | false=>rfl
   | true=>rw[hx _ hx2]at hn;cases hn
theorem Ru.cut (hp:j8 p)(hw:G5 p ms)(hi:i<p.D.length)(hs: ∀j,m.testBit j=true→(wd ms i).testBit j=true)(h0:m≠0)(M9: ∀k,k<p.D.length→Ez p ms k)(hb: ∀j,XF p (ms.set i m) i j→nx j=true): ∀k,k<p.D.length→nx (k:Int)=false→Ez p (ms.set i m) k:=fun k hk hn=>by
 by_cases e:k=i
 ·subst e;intro j hj hr;have hl:k<ms.length:=by rw[hw.len];exact hi
  rw[JJ hp hw hi]at hr;rw[Z2 hl]at hj;exact M9 k hk j (hs j hj) hr
 ·exact fW hp hw hi hs h0 hk e (fun U3=>by rw[hb _ U3]at hn;cases hn) (M9 k hk)
theorem qG (hp:j8 p)(hw:G5 p ms)(X3: ∀k,k<p.D.length→wd ms k≠0)(hc: ∀k,k<p.D.length→Ez p ms k):S6 p [] (Z5 p ms):=by
 rintro s c ⟨k,hk,rfl,h1,h2⟩ hr;obtain⟨n,rfl⟩:=K5 h1;rw[X4]at h2;rcases hr with⟨g,hg,-⟩ | hr
 ·cases hg
 ·exact hc k hk n h2 (LA hp hw hk X3 (hw.bits k n h2).1 hr)
theorem oD {i m:Nat}: ∀ {ms:List Nat},i<ms.length→(ms.set i m).sum+wd ms i=ms.sum+m
 | [],h=>by simp at h
 | x::ms,h=>by
  cases i with
  | zero=>
   simp only[kD,Hy];show m+ms.sum+x=_;omega
  | succ i=>
   have:=oD (i:=i) (m:=m) (ms:=ms) (by simpa using h);simp only[kE,Hy];show x+(ms.set i m).sum+wd ms i=_;omega
theorem VF (h:J7 a b≠a):J7 a b<a:=Nat.lt_of_le_of_ne (VH a b) h
theorem exists_least (n:Nat):P n→ ∃k,P k∧ ∀m,P m→k≤m:=by
 induction n using Nat.strongRecOn with
 | ind n ih=>
  intro h;by_cases hm: ∃m,m<n∧P m
  ·obtain⟨m,h1,h2⟩:=hm;exact ih m h1 h2
  ·exact⟨n,h,fun m Ja=>Nat.le_of_not_lt (fun Z=>hm ⟨m,Z,Ja⟩)⟩
open Classical in
noncomputable def Nz (P:Nat→Prop):Nat:=if h: ∃n,P n then(exists_least h.choose h.choose_spec).choose else 0
theorem Oy (h: ∃n,P n):P (Nz P)∧ ∀m,P m→Nz P≤m:=by
 unfold Nz;rw[dif_pos h];exact(exists_least h.choose h.choose_spec).choose_spec
theorem Qa (h:P m):Nz P≤m:=(Oy ⟨m,h⟩).2 m h
def C4 (l:List Int):Nat:=l.foldl (fun m c=>m ||| 2^c.toNat) 0
theorem lU: ∀(l:List Int) (m j:Nat),(l.foldl (fun m c=>m ||| 2^c.toNat) m).testBit j=(m.testBit j || l.any (fun c=>decide (c.toNat=j)))
 | [],m,j=>by simp
 | c::l,m,j=>by
  rw[tD,lU l,Og,Gu,List.any_cons,Bool.or_assoc]
theorem Uu (h: ∀c∈l,0≤c):(C4 l).testBit j=true↔(j:Int)∈l:=by
 unfold C4;rw[lU,Ew,Yl,Ua];constructor
 ·rintro⟨c,hc,e⟩;have e1:=U9 e;have:=h c hc;have e2:c=(j:Int):=by omega
  rw[←e2];exact hc
 ·intro hm;exact⟨_,hm,b_ (X4 j)⟩
theorem lJ (hk:k<l.length):C4 (l.take (k+1))=C4 (l.take k) ||| 2^l[k].toNat:=by
 unfold C4;rw[Cw hk,kJ];rfl
theorem aL (h: ∀c∈l,2≤c∧c≤51):Aq (C4 l):=fun j hj=>by
 have:=h _ ((Uu (fun c hc=>by have:=h c hc;omega)).1 hj);omega
def L1 (p:Px):List Nat:=p.D.map (fun d=>C4 d.ch)
theorem dZ (hi:i<p.D.length):wd (L1 p) i=C4 p.D[i].ch:=by
 have hl:i< (L1 p).length:=by unfold L1;rw[Cy];exact hi
 rw[Tl hl];simp[L1]
theorem MC (hn:Dz p.D):G5 p (L1 p):=by
 refine⟨by simp[L1],fun i=> ?_⟩;by_cases hi:i<p.D.length
 ·rw[dZ hi];exact aL (hn.rg _ (k8 hi))
 ·intro j hj
  have:wd (L1 p) i=0:=by
   unfold wd;rw[Bz,Ra (by simp[L1];omega)];rfl
  rw[this,Ew]at hj;cases hj
theorem qm (hn:Dz p.D):Z5 p (L1 p) s c↔J1 p.D s c:=by
 constructor
 ·rintro⟨i,hi,rfl,h1,h2⟩;rw[dZ hi]at h2;have h3:=(Uu (fun c hc=>by have:=hn.rg _ (k8 hi) c hc;omega)).1 h2;refine⟨p.D[i],k8 hi,(Ff hi).symm,?_⟩
  rwa [show((c.toNat:Nat):Int)=c by omega]at h3
 ·rintro⟨x,hx,rfl,hc⟩;obtain⟨i,hi,rfl⟩:=Bg hx;have hr:=hn.rg _ hx c hc;refine⟨i,hi,Ff hi,by omega,?_⟩;rw[dZ hi,Uu (fun c hc=>by have:=hn.rg _ (k8 hi) c hc;omega),show((c.toNat:Nat):Int)=c by omega];exact hc
def Rest (p:Px)(ms:List Nat):Prop:=(∀k,k<p.D.length→wd ms k≠0)∧ ∀k,k<p.D.length→Ez p ms k
def yO (p:Px)(ms:List Nat):Prop:= ∃k,k<p.D.length∧wd ms k=0
def OT (p:Px)(ms:List Nat):Bool→Prop
 | true=>yO p ms
 | false=>Rest p ms
theorem S6.nil (h:S6 p gs M):S6 p [] M:=h.less (fun g hg=>by cases hg)
theorem S7.more (h:S7 p [] M0 M):S7 p gs M0 M:=fun S h0 hs=>h S h0 hs.nil
theorem S7.narrow {M1:Left}(h:S7 p gs M0 M)(h1:Qq M1 M0):S7 p gs M1 M:=fun S h0 hs=>h S (fun s c hc=>h1 s c (h0 s c hc)) hs
theorem K9.more (h:K9 p [] M0 ms):K9 p gs M0 ms:=⟨h.Fv,h.sub,h.hold.more⟩
theorem vS (hp:j8 p)(hw:G5 p ms)(h:Rest p ms):S6 p [] (Z5 p ms):=qG hp hw h.1 h.2
theorem uP (hp:j8 p)(h:S7 p gs M0 (Z5 p ms))(hg:yO p ms): ¬Yn p gs M0 (p.D.map Dx.st):=by
 rintro⟨M,hM,h1,-⟩;obtain⟨k,hk,h0⟩:=hg;obtain⟨c,hc⟩:=h1 (sd p k) (by rw[Ff hk];exact kF (k8 hk));have:=(left_at hp hk).1 (h M hM.1 hM.2.1 _ _ hc);rw[h0,Ew]at this;cases this.2
theorem BF (h: []∈gs): ¬Yn p gs M0 l:=by
 rintro⟨M,-,-,h2⟩;exact h2 [] h rfl
theorem jc (h:m≠0): ∃j,m.testBit j=true:=Nat.exists_testBit_of_ne_zero h
theorem lf (hp:j8 p)(h:K9 p gs M0 ms)(X3: ∀k,k<p.D.length→wd ms k≠0)(hs:S6 p gs (Z5 p ms))(hg: ∀g∈gs,g≠ []):Yn p gs M0 (p.D.map Dx.st):=by
 refine⟨Z5 p ms,h.hold.YM h.sub hs,fun s hs=> ?_,hg⟩;obtain⟨x,hx,rfl⟩:=F4.1 hs;obtain⟨i,hi,rfl⟩:=Bg hx;obtain⟨j,hj⟩:=jc (X3 i hi);exact⟨j,i,hi,Ff hi,by omega,by rw[X4];exact hj⟩
theorem lN (hp:j8 p)(hw:G5 p ms)(hi:i<p.D.length){c:Nat}{b:Int}:Z5 p (ms.set i (wd ms i&&&2^c)) s b↔Z5 p ms s b∧(s=sd p i→b=(c:Int)):=by
 have hl:i<ms.length:=by rw[hw.len];exact hi
 constructor
 ·rintro⟨k,hk,rfl,h1,h2⟩;by_cases e:i=k
  ·subst e;rw[Z2 hl,Le,p9,aI]at h2;exact⟨⟨i,hi,rfl,h1,h2.1⟩,fun _=>by omega⟩
  ·rw[Y5 hl e]at h2;exact⟨⟨k,hk,rfl,h1,h2⟩,fun e2=>absurd (hp.RN _ _ hk hi e2).symm e⟩
 ·rintro⟨⟨k,hk,rfl,h1,h2⟩,h3⟩;refine⟨k,hk,rfl,h1,?_⟩;by_cases e:i=k
  ·subst e;rw[Z2 hl,Le,h2,Z4,aI];have:=h3 rfl;omega
  ·rw[Y5 hl e];exact h2
theorem K9.xZ (hp:j8 p){d:List Dx}(h:K9 p gs (J1 d) ms)(hi:i<p.D.length){c:Nat}:K9 p gs (J1 (S8 (sd p i) (c:Int) d)) (ms.set i (wd ms i&&&2^c)):=by
 refine⟨h.Fv.set hi (fun j hj=>h.Fv.bits i j (by rw[Le,p9]at hj;exact hj.1)),?_,?_⟩
 ·intro s b hb;obtain⟨h1,h2⟩:=(lN hp h.Fv hi).1 hb;exact Lw.2 ⟨h.sub s b h1,h2⟩
 ·intro S h0 hs s b hb;have h1:=Lw.1 (h0 s b hb);exact(lN hp h.Fv hi).2 ⟨h.hold S (fun s b hb=>(Lw.1 (h0 s b hb)).1) hs s b hb,h1.2⟩
theorem K9.qi7 (hp:j8 p)(h:K9 p gs M0 ms)(hi:i<p.D.length){c:Nat}(hr:dN gs (Z5 p ms) (sd p i) (c:Int)):K9 p gs M0 (ms.set i (J7 (wd ms i) (2^c))):=by
 refine⟨h.Fv.set hi ((h.Fv.bits i).J7 _),?_,?_⟩
 ·intro s b hb;exact h.sub s b (lM h.Fv hi (fun j hj=>by rw[F8,p9]at hj;exact hj.1) s b hb)
 ·refine h.hold.drop hp.nn (fun s b hb=> ?_);rcases Oq hp h.Fv (m:=J7 (wd ms i) (2^c)) hi hb with h1 | ⟨rfl,h1,h2,h3⟩
  ·exact .inl h1
  ·right;rw[F8,h2,Z4,Bool.not_eq_false',aI]at h3;have e:b=(c:Int):=by omega
   rw[e];exact .inl hr
def wh (p:Px)(ms:List Nat)(s:Int):Int:=n7 (wd ms (G8 p s))
def M3 (p:Px)(ms:List Nat)(g:List Cx):List Cx:=g.filter (fun y=>wh p ms y.a !=y.b)
structure Ml (p:Px)(g:List Cx):Prop where
 c:Iw g=true
 has: ∀y∈g,y8 p y.a=true∧2≤y.b∧y.b≤51
theorem SR (hp:j8 p)(hw:G5 p ms)(hs:y8 p s=true)(hc:c≠0)(h:wh p ms s=c):F5 (Z5 p ms) s c:=by
 obtain⟨h1,h2⟩:=X0 hs;rw[←h2];exact Ue hp h1 (hw.bits _) hc h
theorem SP (hp:j8 p)(hw:G5 p ms)(X3: ∀k,k<p.D.length→wd ms k≠0)(hs:y8 p s=true)(hc:c≠0)(h:F5 (Z5 p ms) s c):wh p ms s=c:=by
 obtain⟨h1,h2⟩:=X0 hs;rw[←h2]at h;exact(Pu hp h1 (hw.bits _) (X3 _ h1) hc).1 h
theorem fM (hp:j8 p)(hw:G5 p ms)(hg:g∈gs)(hk:Ml p g){y:Cx}(hy:y∈g)(h: ∀z∈M3 p ms g,z=y):dN gs (Z5 p ms) y.a y.b:=by
 refine⟨g,hg,⟨y,hy,rfl,rfl⟩,fun z hz X3=> ?_⟩;obtain⟨h1,h2,h3⟩:=hk.has z hz;refine SR hp hw h1 (by omega) (Bh (fun e=>X3 ?_))
 have hm:z∈M3 p ms g:=by
  unfold M3;rw[G4];exact⟨hz,by simpa using e⟩
 rw[h z hm]
theorem lE (hp:j8 p)(hw:G5 p ms)(X3: ∀k,k<p.D.length→wd ms k≠0)(hk:Ml p g)(h:(∃y∈M3 p ms g,∃z∈M3 p ms g,y.a≠z.a)∨(∃y∈M3 p ms g,¬Z5 p ms y.a y.b))(hl:Z5 p ms s c): ¬((∃y∈g,y.a=s∧y.b=c)∧ ∀y∈g,y.a≠s→F5 (Z5 p ms) y.a y.b):=by
 rintro⟨⟨y,hy,rfl,rfl⟩,M9⟩
 have qb9: ∀z∈M3 p ms g,z.a=y.a:=fun z hz=>Bh (fun e=>by
  unfold M3 at hz;rw[G4]at hz;obtain⟨h1,h2,h3⟩:=hk.has z hz.1;have:=SP hp hw X3 h1 (by omega) (M9 z hz.1 e);have h4:=hz.2
  simp[this]at h4)
 rcases h with⟨a,ha,b,hb,e⟩ | ⟨a,ha,e⟩
 ·exact e ((qb9 a ha).trans (qb9 b hb).symm)
 ·have e1:=qb9 a ha;have xJ:a∈g:=by unfold M3 at ha;exact(G4.1 ha).1
  have hd:=Mh hk.c
  have:a=y:=by
   obtain⟨i,hi,rfl⟩:=Bg xJ;obtain⟨j,hj,rfl⟩:=Bg hy;rw[Yg]at hd;rcases dM i j with Rl | Rl | Rl
   ·exact absurd e1 (hd i j hi hj Rl)
   ·subst Rl;rfl
   ·exact absurd e1.symm (hd j i hj hi Rl)
  rw[this]at e;exact e hl
theorem pQ (hp:j8 p)(hw:G5 p ms)(h:Rest p ms)(hq: ∀g∈gs,∀s c,Z5 p ms s c→ ¬((∃y∈g,y.a=s∧y.b=c)∧ ∀y∈g,y.a≠s→F5 (Z5 p ms) y.a y.b)):S6 p gs (Z5 p ms):=by
 intro s c hc hr;rcases hr with⟨g,hg,h1,h2⟩ | hr
 ·exact hq g hg s c hc ⟨h1,h2⟩
 ·exact vS hp hw h s c hc (.inr hr)
theorem K9.three (hp:j8 p)(h:K9 p gs M0 ms)(hi:i<p.D.length)(h1: ∀j,g1.testBit j=true↔Pb p ms i j):K9 p gs M0 (ms.set i (J7 (wd ms i) g1)):=h.ql3 hp hi (fun j hj=> .inl ((h1 j).1 hj))
theorem vQ (hp:j8 p)(hw:G5 p ms)(hi:i<p.D.length){m1 m2:Nat}(h1: ∀j,g1.testBit j=true↔Pb p ms i j)(h2: ∀j,g2.testBit j=true↔Cb p (ms.set i m1) i j)(h3: ∀j,g3.testBit j=true↔Lb p (ms.set i m2) i j):Ez p (ms.set i (J7 (J7 (J7 (wd ms i) g1) g2) g3)) i:=
 vM hp hw hi h1 (fun j=>(h2 j).trans ((oE hp hw (m:=m1) hi).2.1 j)) (fun j=>(h3 j).trans ((oE hp hw (m:=m2) hi).2.2 j))
theorem Void.set (hw:G5 p ms)(hi:i<p.D.length)(h:Void p ms (i::q))(h0:m≠0):Void p (ms.set i m) q:=fun k hk e=>by
 have hl:i<ms.length:=by rw[hw.len];exact hi
 by_cases ek:i=k
 ·subst ek;rw[Z2 hl]at e;exact absurd e h0
 ·rw[Y5 hl ek]at e;rcases m6.1 (h k hk e)with h1 | h1
  ·exact absurd h1.symm ek
  ·exact h1
theorem pz (h1:Ru p ms [] nx)(h2:Void p ms [])(hx: ∀k,k<p.D.length→nx (k:Int)=false):Rest p ms:=
 ⟨fun k hk e=>(by cases h2 k hk e),fun k hk=>h1 k hk (by simp) (hx k hk)⟩
theorem Ru.fill (h:Ru p ms [] nx)(hq: ∀k:Nat,k<p.D.length→nx (k:Int)=true→k∈q):Ru p ms q (fun _=>false):=fun k hk hn _=>by
 refine h k hk (by simp) ?_
 cases e:nx (k:Int)with
 | false=>rfl
 | true=>exact absurd (hq k hk e) hn
def mW (ms:List Nat)(q:Nat)(nx:Nat):Nat:=2000*ms.sum+(q+nx)
theorem LH {q nx:Nat}:mW ms q nx<mW ms (q+1) nx:=by unfold mW;omega
theorem uB {q nx j5:Nat}(hi:i<ms.length)(h:m<wd ms i)(hx:j5≤600):mW (ms.set i m) q j5<mW ms (q+1) nx:=by
 have:=oD (ms:=ms) (i:=i) (m:=m) hi;unfold mW;omega
def Eo (q:Px)(g:List Cx):Bool:=Iw g&&g.all (fun y=>q.D.any (fun d=>d.st==y.a&&d.ch.contains y.b))
theorem gj {q:Px}(hn:Dz q.D)(h:Eo q g=true):Ml q g:=by
 unfold Eo at h;rw[p9]at h;refine⟨h.1,fun y hy=> ?_⟩;obtain⟨d,hd,hx⟩:=Ua.1 (Z6.1 h.2 y hy);rw[p9]at hx;have h1:d.st=y.a:=by simpa using hx.1
 have h2:y.b∈d.ch:=by simpa using hx.2
 refine⟨?_,hn.rg d hd _ h2⟩;unfold y8;have:y.a∈l5 q.D:=by rw[←h1];exact kF hd
 simpa using this
def Hs (q:Px)(gs:List (List Cx))(g:List Cx):Prop:= ¬Yn q gs (J1 (Z0 q.D g)) (q.D.map Dx.st)
def sA (q:Px)(ls:List (List Cx))(i:Nat):Prop:= ∃g,ls[i]? =some g∧Eo q g=true∧Hs q (ls.take i) g
structure Dt (q:Px)(ls:List (List Cx))(k:Nat):Prop where
 le:k≤ls.length
 all: ∀i,i<k→sA q ls i
 not:k<ls.length→ ¬sA q ls k
theorem Dt.unique {q:Px}{ls:List (List Cx)}{k':Nat}(h:Dt q ls k)(h':Dt q ls k'):k=k':=by
 rcases dM k k' with e | e | e
 ·exact absurd (h'.all k e) (h.not (by have:=h'.le;omega))
 ·exact e
 ·exact absurd (h.all k' e) (h'.not (by have:=h.le;omega))
end Go.Proofs.YtlhlmcohdkkjpaaGreatDoor
