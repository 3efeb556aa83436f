/- Layer 17, the document's side: which lists of stations and of choices are valid. -/
import Derived.Test.YtlhlmcohdkkjpaaGreatDoorZA
set_option linter.all false
set_option maxHeartbeats 8000000
set_option maxRecDepth 100000
namespace Go.Proofs.YtlhlmcohdkkjpaaGreatDoor
open Go.RowKit
variable{x n:Int}{l:List Int}{k b off:Nat}{D:Value}{w:World}
theorem KU (h1: ∀(j:Nat) x,l[j]? =some x→K2 x=true)(h2:RS l):Fa l=true:=by
 rw[Kc,p9,E7,Z6];exact⟨fun x hx=>by obtain⟨j,hj⟩:=Gk hx;exact h1 j x hj,h2⟩
theorem SB (hx:l[k]? =some x)(h:K2 x=false):Fa l=false:=by
 cases e:Fa l with
 | false=>rfl
 | true=>
  rw[Kc,p9,Z6]at e;rw[e.1 x (Mk hx)]at h;cases h
theorem KV {y:Int}(hx:l[k]? =some x)(hy:l[k+1]? =some y)(h: ¬x<y):Fa l=false:=by
 cases e:Fa l with
 | false=>rfl
 | true=>
  rw[Kc,p9,E7]at e;exact absurd (e.2 k x y hx hy) h
def tI (l:List Int)(k:Nat):Prop:=(∀(j:Nat) x,j<k→l[j]? =some x→K2 x=true)∧(∀(j:Nat) x y,j+1<k→l[j]? =some x→l[j+1]? =some y→x<y)
theorem tI.step (h:tI l k)(h1: ∀x,l[k]? =some x→K2 x=true)(h2: ∀x y,0<k→l[k - 1]? =some x→l[k]? =some y→x<y):tI l (k+1):=by
 refine⟨fun j x hj hx=> ?_,fun j x y hj hx hy=> ?_⟩
 ·by_cases h3:j<k
  ·exact h.1 j x h3 hx
  ·obtain rfl:j=k:=by omega
   exact h1 x hx
 ·by_cases h3:j+1<k
  ·exact h.2 j x y h3 hx hy
  ·obtain rfl:k=j+1:=by omega
   exact h2 x y (by omega) hx hy
def qv7 (w:World)(l:List Int)(ti:Value)(wr:World):Prop:= ∃k:Nat,k≤l.length∧ti= .int .i64 k∧z6 [] w wr∧Hid (tI l k)
theorem Ay (v:Value)(l:List Int)(w:World)(hv:e8 w v l)(hl:l.length≤100000):Calls Tryz.prog 8 #[v] w fun r w'=>r= .returned (.bool (Fa l))∧z6 [] w w':=by
 obtain⟨A,cap,rfl⟩:=hv.form;obtain⟨Ad,Cs⟩:=hv.cap;have HT:=O (KU (l:=l));have Ag:=O (fun k x=>SB (l:=l) (k:=k) (x:=x));have O5:=O (fun k x y=>KV (l:=l) (k:=k) (x:=x) (y:=y));generalize Fa l=n9 at*;go_enter Tryz.func8,Tryz.ntmps8;go_wp2_with fail;go_loopw [3] (fun ti wr=>qv7 w l ti wr) (fun ti _=>l.length - (intOf ti).toNat)
 case atStart=>exact⟨0,by omega,rfl,z8 _ _,O ⟨fun j x h=>by omega,fun j x y h=>by omega⟩⟩
 case round=>
  obtain⟨k,hk,rfl,ht,HU⟩:=hrel;by_cases Z:k<l.length
  ·have j1:(k:Int)< (l.length:Int):=by omega
   obtain⟨b,off,rfl,hb⟩:=hv.addr Z;have c0:=e8.at_ (hv.q8 ht) Z;have HK:=O (j6 Z);by_cases M8:K2 l[k]=true;rotate_left
   ·have qc4:K2 l[k]=false:=by cases h:K2 l[k]with | true=>exact absurd h M8 | false=>rfl
    have y5:Hid (n9=false):=O (Ag.o k _ HK.o qc4);have Q9:=O (fun W=>qc4 ▸ j3 l[k] W);clear HT Ag O5 HU HK M8 qc4 hv;generalize l[k]=x at*;go_wp2_with fail;go_quiet ((first | (go_at_call 25;exact x8 (Q9.o _))));go_wp2_with fail;go_ret;exact⟨v9 (by rw[y5.o]),ht.drewN _⟩
   have Q9:=O (fun W=>M8 ▸ j3 l[k] W)
   have Qs:Hid (∀x,l[k]? =some x→K2 x=true):=O (fun x hx=>by
    rw[HK.o]at hx;injection hx with hx;rw[←hx]
    exact M8)
   cases k with
   | zero=>
    have W7:Hid (tI l 1):=O (HU.o.step Qs.o (fun x y h=>by omega));clear HT Ag O5 HU HK Qs M8 hv;simp only[Jp]at c0;generalize l[0]=x at*;go_wp2_with fail;go_quiet ((first | (go_at_call 25;exact x8 (Q9.o _))));go_wp2_with fail;go_roundw
    case rel=>exact⟨1,by omega,by go_num,ht.drewN _,W7⟩
    case measure=>simp[intOf];omega
   | succ m=>
    have Kt:m<l.length:=by omega
    have c1:=e8.at_ (hv.q8 ht) Kt;have Q7:(m:Int)+1< (l.length:Int):=by omega
    have Dw:(m:Int)< (l.length:Int):=by omega
    have nE:(0:Int)≤(m:Int)+1:=by omega
    have Qm:(0:Int)< (m:Int)+1:=by omega
    have tj:IntKind.i64.wrap (m:Int)=(m:Int):=IntWalk.i64_in _ (by omega);by_cases Sv:l[m]<l[m+1]
    ·have W7:Hid (tI l (m+1+1)):=O (HU.o.step Qs.o (fun x y _ hx hy=>by
      rw[Nat.add_sub_cancel,j6 Kt]at hx;rw[HK.o]at hy;injection hx with hx;injection hy with hy;rw[←hx,←hy]
      exact Sv))
     have mj: ¬l[m+1]≤l[m]:=by omega
     clear HT Ag O5 HU HK Qs M8 hv Sv;generalize l[m]=x at*;generalize l[m+1]=y at*;go_wp2_with fail;go_quiet ((first | (go_at_call 25;exact x8 (Q9.o _))));go_wp2_with fail;go_roundw
     case rel=>exact⟨m+1+1,by omega,by go_num,ht.drewN _,W7⟩
     case measure=>simp[intOf];omega
    ·have y5:Hid (n9=false):=O (O5.o m _ _ (j6 Kt) HK.o (by omega));have mj:l[m+1]≤l[m]:=by omega
     clear HT Ag O5 HU HK Qs M8 hv Sv;generalize l[m]=x at*;generalize l[m+1]=y at*;go_wp2_with fail;go_quiet ((first | (go_at_call 25;exact x8 (Q9.o _))));go_wp2_with fail;go_ret;exact⟨v9 (by rw[y5.o]),ht.drewN _⟩
  ·have j1: ¬(k:Int)< (l.length:Int):=by omega
   have y5:Hid (n9=true):=O (HT.o (fun j x hx=>HU.o.1 j x (by have:=(U4.1 hx).1;omega) hx) (fun j x y hx hy=>HU.o.2 j x y (by have:=(U4.1 hy).1;omega) hx hy));clear HU HT Ag O5;go_wp2_with fail;go_ret;exact⟨v9 (by rw[y5.o]),ht⟩
section
variable {α:Type}{good:α→Bool}{key:α→Int}{l:List α}{k:Nat}
def okG (good:α→Bool)(key:α→Int)(l:List α):Prop:=(∀(j:Nat) x,l[j]? =some x→good x=true)∧(∀(j:Nat) x y,l[j]? =some x→l[j+1]? =some y→key x<key y)
theorem SU {bad:α→Prop} [DecidablePred bad](hg: ∀x,good x=true↔0≤key x∧ ¬bad x):A7 bad key (-1) l=true↔okG good key l:=by
 rw[Sh];constructor
 ·rintro⟨h1,h2,h3⟩
  have yE: ∀(j:Nat) x,l[j]? =some x→0≤key x:=by
   intro j
   induction j with
   | zero=>intro x hx;have:=h2 x hx;omega
   | succ j ih=>
    intro y hy;have hj:j<l.length:=by have:=(U4.1 hy).1;omega
    have:=ih l[j] (j6 hj);have:=h3 j l[j] y (j6 hj) hy;omega
  exact⟨fun j x hx=>(hg x).2 ⟨yE j x hx,h1 x (Mk hx)⟩,h3⟩
 ·rintro⟨h1,h3⟩;refine⟨fun x hx=> ?_,fun x hx=> ?_,h3⟩
  ·obtain⟨j,hj⟩:=Gk hx;exact((hg x).1 (h1 j x hj)).2
  ·have:=((hg x).1 (h1 0 x hx)).1;omega
def Rf (good:α→Bool)(key:α→Int)(l:List α)(k:Nat):Prop:=(∀(j:Nat) x,j<k→l[j]? =some x→good x=true)∧(∀(j:Nat) x y,j+1<k→l[j]? =some x→l[j+1]? =some y→key x<key y)
theorem Rf.zero:Rf good key l 0:=⟨fun j x h=>by omega,fun j x y h=>by omega⟩
theorem Rf.step (h:Rf good key l k)(h1: ∀x,l[k]? =some x→good x=true)(h2: ∀x y,0<k→l[k - 1]? =some x→l[k]? =some y→key x<key y):Rf good key l (k+1):=by
 refine⟨fun j x hj hx=> ?_,fun j x y hj hx hy=> ?_⟩
 ·by_cases h3:j<k
  ·exact h.1 j x h3 hx
  ·obtain rfl:j=k:=by omega
   exact h1 x hx
 ·by_cases h3:j+1<k
  ·exact h.2 j x y h3 hx hy
  ·obtain rfl:k=j+1:=by omega
   exact h2 x y (by omega) hx hy
theorem Rf.all (h:Rf good key l k)(hk: ¬k<l.length):okG good key l:=⟨fun j x hx=>h.1 j x (by have:=(U4.1 hx).1;omega) hx,fun j x y hx hy=>h.2 j x y (by have:=(U4.1 hy).1;omega) hx hy⟩
end
def Vz (x:Cx):Bool:=K2 x.a&&decide (2≤x.b)&&decide (x.b≤51)
theorem MQ (x:Cx):Vz x=true↔0≤x.a∧ ¬iK x:=by
 unfold Vz K2 iK;rw[p9,p9,G3,G3,G3];omega
theorem Fs {l:List Cx}:Iw l=true↔okG Vz Cx.a l:=SU MQ
theorem qj6 {l:List Cx}(h: ¬okG Vz Cx.a l):Iw l=false:=by
 cases e:Iw l with
 | false=>rfl
 | true=>exact absurd (Fs.1 e) h
def qv8 (w:World)(l:List Cx)(ti:Value)(wr:World):Prop:= ∃k:Nat,k≤l.length∧ti= .int .i64 k∧z6 [] w wr∧Hid (Rf Vz Cx.a l k)
theorem Hj (v:Value)(l:List Cx)(w:World)(hv:Q0 w v l)(hl:l.length≤100000):Calls Tryz.prog 55 #[v] w fun r w'=>r= .returned (.bool (Iw l))∧z6 [] w w':=by
 obtain⟨A,cap,rfl⟩:=hv.form;obtain⟨Ad,Cs⟩:=hv.cap;have HT:=O (fun h=>(Fs (l:=l)).2 h);have HN:=O (fun h=>qj6 (l:=l) h);generalize Iw l=n9 at*;go_enter Tryz.func55,Tryz.ntmps55;go_wp2_with fail;go_loopw [3] (fun ti wr=>qv8 w l ti wr) (fun ti _=>l.length - (intOf ti).toNat)
 case atStart=>exact⟨0,by omega,rfl,z8 _ _,O Rf.zero⟩
 case round=>
  obtain⟨k,hk,rfl,ht,HU⟩:=hrel;by_cases Z:k<l.length
  ·have j1:(k:Int)< (l.length:Int):=by omega
   obtain⟨b,off,rfl,hb⟩:=hv.addr Z;obtain⟨c0,c1⟩:=Q0.at_ (hv.q8 ht) Z;have HK:=O (j6 Z);have E4:Hid (Vz l[k]=false→n9=false):=O (fun h=>HN.o (fun hg=>by rw[hg.1 k _ HK.o]at h;cases h))
   have Qs:Hid (Vz l[k]=true→ ∀x,l[k]? =some x→Vz x=true):=O (fun h x hx=>by
    rw[HK.o]at hx;injection hx with hx;rw[←hx]
    exact h)
   have HI:=O (show Vz l[k]=(K2 l[k].a&&decide (2≤l[k].b)&&decide (l[k].b≤51))from rfl);have Q9:=O (fun W=>j3 l[k].a W)
   cases h1:K2 l[k].a with
   | false=>
    rw[h1]at Q9;have y5:Hid (n9=false):=O (E4.o (by rw[HI.o,h1];rfl));clear HT HN HU HK E4 Qs HI h1 hv;generalize l[k].a=xa at*;generalize l[k].b=xb at*;go_wp2_with fail;go_quiet ((first | (go_at_call 25;exact x8 (Q9.o _))));go_wp2_with fail;go_ret;exact⟨v9 (by rw[y5.o]),ht.drewN _⟩
   | true=>
   rw[h1]at Q9;by_cases h2:l[k].b<2
   ·have y5:Hid (n9=false):=O (E4.o (by rw[HI.o,h1,v8 (by omega)];rfl));clear HT HN HU HK E4 Qs HI h1 hv;generalize l[k].a=xa at*;generalize l[k].b=xb at*;have d2:decide (xb<2)=true:=b_ h2;go_wp2_with fail;go_quiet ((first | (go_at_call 25;exact x8 (Q9.o _))));go_wp2_with fail;go_ret;exact⟨v9 (by rw[y5.o]),ht.drewN _⟩
   by_cases h3:51<l[k].b
   ·have y5:Hid (n9=false):=O (E4.o (by rw[HI.o,h1,b_ (by omega),v8 (by omega)];rfl));clear HT HN HU HK E4 Qs HI h1 hv;generalize l[k].a=xa at*;generalize l[k].b=xb at*;have d2:decide (xb<2)=false:=v8 h2;have d3:decide (51<xb)=true:=b_ h3;go_wp2_with fail;go_quiet ((first | (go_at_call 25;exact x8 (Q9.o _))));go_wp2_with fail;go_ret;exact⟨v9 (by rw[y5.o]),ht.drewN _⟩
   have GI:=O (Qs.o (by rw[HI.o,h1,b_ (by omega),b_ (by omega)];rfl));clear Qs HI E4 h1
   cases k with
   | zero=>
    have W7:Hid (Rf Vz Cx.a l 1):=O (HU.o.step GI.o (fun x y h=>by omega));clear HT HN HU HK GI hv;simp only[Nat.zero_mul,Jp]at c0 c1;generalize l[0].a=xa at*;generalize l[0].b=xb at*;have d2:decide (xb<2)=false:=v8 h2;have d3:decide (51<xb)=false:=v8 h3;go_wp2_with fail;go_quiet ((first | (go_at_call 25;exact x8 (Q9.o _))));go_wp2_with fail;go_roundw
    case rel=>exact⟨1,by omega,by go_num,ht.drewN _,W7⟩
    case measure=>simp[intOf];omega
   | succ m=>
    have Kt:m<l.length:=by omega
    obtain⟨p0,-⟩:=Q0.at_ (hv.q8 ht) Kt;have Q7:(m:Int)+1< (l.length:Int):=by omega
    have Dw:(m:Int)< (l.length:Int):=by omega
    have nE:(0:Int)≤(m:Int)+1:=by omega
    have Qm:(0:Int)< (m:Int)+1:=by omega
    have tj:IntKind.i64.wrap (m:Int)=(m:Int):=IntWalk.i64_in _ (by omega);by_cases Sv:l[m].a<l[m+1].a
    ·have W7:Hid (Rf Vz Cx.a l (m+1+1)):=O (HU.o.step GI.o (fun x y _ hx hy=>by
      rw[Nat.add_sub_cancel,j6 Kt]at hx;rw[HK.o]at hy;injection hx with hx;injection hy with hy;rw[←hx,←hy]
      exact Sv))
     have mj: ¬l[m+1].a≤l[m].a:=by omega
     clear HT HN HU HK GI hv Sv;generalize l[m].a=ya at*;generalize l[m+1].a=xa at*;generalize l[m+1].b=xb at*;have d2:decide (xb<2)=false:=v8 h2;have d3:decide (51<xb)=false:=v8 h3;go_wp2_with fail;go_quiet ((first | (go_at_call 25;exact x8 (Q9.o _))));go_wp2_with fail;go_roundw
     case rel=>exact⟨m+1+1,by omega,by go_num,ht.drewN _,W7⟩
     case measure=>simp[intOf];omega
    ·have y5:Hid (n9=false):=O (HN.o (fun hg=>Sv (hg.2 m _ _ (j6 Kt) HK.o)));have mj:l[m+1].a≤l[m].a:=by omega
     clear HT HN HU HK GI hv Sv;generalize l[m].a=ya at*;generalize l[m+1].a=xa at*;generalize l[m+1].b=xb at*;have d2:decide (xb<2)=false:=v8 h2;have d3:decide (51<xb)=false:=v8 h3;go_wp2_with fail;go_quiet ((first | (go_at_call 25;exact x8 (Q9.o _))));go_wp2_with fail;go_ret;exact⟨v9 (by rw[y5.o]),ht.drewN _⟩
  ·have j1: ¬(k:Int)< (l.length:Int):=by omega
   have y5:Hid (n9=true):=O (HT.o (HU.o.all Z));clear HU HT HN;go_wp2_with fail;go_ret;exact⟨v9 (by rw[y5.o]),ht⟩
theorem Gx (v:Value)(l:List Int)(n:Int)(w:World)(hv:e8 w v l):Calls Tryz.prog 27 #[v,.int .i64 n] w fun r w'=>r= .returned (.bool (l.contains n))∧z6 [] w w':=by
 obtain⟨A,cap,rfl⟩:=hv.form;obtain⟨Ad,Cs⟩:=hv.cap;have Z7: ∃k:Nat,k≤l.length∧(Value.int .i64 0)= .int .i64 (k:Int)∧z6 [] w w∧Hid (l.contains n=(l.drop k).contains n):=⟨0,by omega,rfl,z8 _ _,O rfl⟩;generalize l.contains n=n9 at*;go_enter Tryz.func27,Tryz.ntmps27;go_wp2_with fail;go_loopw [5] (fun ti wr=> ∃k:Nat,k≤l.length∧ti= .int .i64 (k:Int)∧z6 [] w wr∧Hid (n9=(l.drop k).contains n)) (fun ti _=>l.length - (intOf ti).toNat)
 case atStart=>exact Z7
 case round=>
  clear Z7;obtain⟨k,hk,rfl,ht,HX⟩:=hrel;by_cases Z:k<l.length
  ·have j1:(k:Int)< (l.length:Int):=by omega
   obtain⟨b,off,rfl,hb⟩:=hv.addr Z;have c0:=e8.at_ (hv.q8 ht) Z;have N5:Hid (n9=(n==l[k] || (l.drop (k+1)).contains n)):=O (by rw[HX.o,Rd Z,List.contains_cons]);clear HX hv;generalize l[k]=x at*;by_cases he:x=n
   ·have y5:Hid (n9=true):=O (by rw[N5.o,he];simp);subst he;clear N5;go_wp2_with fail
    (try go_quiet (fail))
    (try go_wp2_with fail)
    go_ret;exact⟨v9 (by rw[y5.o]),by first | exact ht.drewN _ | exact ht⟩
   ·have My:Hid (n9=(l.drop (k+1)).contains n):=O (by rw[N5.o,beq_false_of_ne (fun e=>he e.symm)];rfl);have qM:=beq_false_of_ne he;clear N5 he;go_wp2_with fail
    (try go_quiet (fail))
    (try go_wp2_with fail)
    go_roundw
    case rel=>exact⟨k+1,by omega,by go_num,by first | exact ht.drewN _ | exact ht,My⟩
    case measure=>simp[intOf];omega
  ·have j1: ¬(k:Int)< (l.length:Int):=by omega
   have y5:Hid (n9=false):=O (by rw[HX.o,Hz (by omega)];rfl);clear HX;go_wp2_with fail;go_ret;exact⟨v9 (by rw[y5.o]),ht⟩
def I4:List Cx→Int→Int
 | [],_=>0
 | x::t,n=>if x.a=n then x.b else I4 t n
def ZA (w:World)(l:List Cx)(n n9:Int)(ti:Value)(wr:World):Prop:= ∃k:Nat,k≤l.length∧ti= .int .i64 (k:Int)∧z6 [] w wr∧Hid (n9=I4 (l.drop k) n)
theorem Ud (v:Value)(l:List Cx)(n:Int)(w:World)(hv:Q0 w v l):Calls Tryz.prog 94 #[v,.int .i64 n] w fun r w'=>r= .returned (.int .i64 (I4 l n))∧z6 [] w w':=by
 obtain⟨A,cap,rfl⟩:=hv.form;obtain⟨Ad,Cs⟩:=hv.cap;have Z7:ZA w l n (I4 l n) (.int .i64 0) w:=⟨0,by omega,rfl,z8 _ _,O rfl⟩;generalize I4 l n=n9 at*;go_enter Tryz.func94,Tryz.ntmps94;go_wp2_with fail;go_loopw [5] (fun ti wr=>ZA w l n n9 ti wr) (fun ti _=>l.length - (intOf ti).toNat)
 case atStart=>exact Z7
 case round=>
  clear Z7;obtain⟨k,hk,rfl,ht,HX⟩:=hrel;by_cases Z:k<l.length
  ·have j1:(k:Int)< (l.length:Int):=by omega
   obtain⟨b,off,rfl,hb⟩:=hv.addr Z;obtain⟨c0,c1⟩:=Q0.at_ (hv.q8 ht) Z;have N5:Hid (n9=if l[k].a=n then l[k].b else I4 (l.drop (k+1)) n):=O (by rw[HX.o,Rd Z];rfl);clear HX hv;generalize l[k].a=xa at*;generalize l[k].b=xb at*;by_cases he:xa=n
   ·have y5:Hid (n9=xb):=O (by rw[N5.o,x9 he]);subst he;clear N5;go_wp2_with fail;go_ret;exact⟨by rw[y5.o];rfl,ht⟩
   ·have My:Hid (n9=I4 (l.drop (k+1)) n):=O (by rw[N5.o,z9 he]);have qM:=beq_false_of_ne he;clear N5 he;go_wp2_with fail;go_roundw
    case rel=>exact⟨k+1,by omega,by go_num,ht,My⟩
    case measure=>simp[intOf];omega
  ·have j1: ¬(k:Int)< (l.length:Int):=by omega
   have y5:Hid (n9=0):=O (by rw[HX.o,Hz (by omega)];rfl);clear HX;go_wp2_with fail;go_ret;exact⟨by rw[y5.o];rfl,ht⟩
structure Dx where
 st:Int
 ch:List Int
def Gi (x:Dx×Value):List Value:= [I x.1.st,x.2]
def C0 (w:World)(D:Value)(ds:List Dx):Prop:= ∃K1:List Value,K1.length=ds.length∧Reads w 2 D ds.length ((ds.zip K1).flatMap Gi)∧ ∀(j:Nat) d c,ds[j]? =some d→K1[j]? =some c→Fits d.st∧e8 w c d.ch
variable{ds:List Dx}
theorem C0.q8 {w':World}(h:C0 w D ds)(t:z6 [] w w'):C0 w' D ds:=by
 obtain⟨K1,h1,h2,h3⟩:=h;exact⟨K1,h1,Reads.q8 h2 t,fun j d c hd hc=>⟨(h3 j d c hd hc).1,(h3 j d c hd hc).2.q8 t⟩⟩
theorem C0.form (h:C0 w D ds): ∃A cap,D= .slice A ds.length cap∧ds.length≤cap∧cap≤9223372036854775807:=by
 obtain⟨K1,h1,⟨A,cap,rfl,h2,h3,-⟩,-⟩:=h;unfold maxLen at h3;exact⟨A,cap,rfl,h2,by omega⟩
theorem C0.at_ {A:Option Addr}{cap:Nat}(h:C0 w (.slice A ds.length cap) ds)(hk:k<ds.length): ∃b off c,A=some ⟨b,off,none⟩∧b<w.heap.size∧Fits ds[k].st∧ ∀w',z6 [] w w'→w'.cell? ⟨b,off+k*2,none⟩=some (.int .i64 ds[k].st)∧w'.cell? ⟨b,off+k*2+1,none⟩=some c∧e8 w' c ds[k].ch:=by
 obtain⟨K1,h1,⟨A',Ak,e,h2,h3,h4,h5⟩,h6⟩:=h;injection e with e1 e2 e3;subst e1;obtain⟨b,off,rfl,hb,hc⟩:=h5 (by omega);have CI:k<K1.length:=by omega
 have hz:k< (ds.zip K1).length:=by simp;omega
 have FG:(ds.zip K1)[k]=(ds[k],K1[k]):=by simp
 have f0:=Uk Gi 2 (fun _=>rfl) (ds.zip K1) k 0 hz (by omega);have f1:=Uk Gi 2 (fun _=>rfl) (ds.zip K1) k 1 hz (by omega);rw[FG]at f0 f1;have h7:=h6 k _ _ (j6 hk) (j6 CI);refine⟨b,off,K1[k],rfl,hb,h7.1,fun w' t=>⟨?_,?_,h7.2.q8 t⟩⟩
 ·exact(t.cell (p:=⟨b,off+k*2,none⟩) hb (by simp)).trans (hc (k*2) _ (f0.trans rfl))
 ·exact(t.cell (p:=⟨b,off+k*2+1,none⟩) hb (by simp)).trans (by
   have:=hc (k*2+1) _ (f1.trans rfl)
   rwa [←Nat.add_assoc]at this)
def L2 (l:List Dx)(n:Int):Int:=match l.findIdx? (fun d=>d.st==n)with
 | some i=>(i:Int)
 | none=> -1
def qy1 (w0 w:World)(l:List Dx)(n:Int)(ti:Value)(wr:World):Prop:= ∃k:Nat,k≤l.length∧ti= .int .i64 (k:Int)∧z6 [] w0 wr∧Hid (∀j d,j<k→l[j]? =some d→d.st≠n)
theorem MX {l:List Dx}(hk:k<l.length)(h: ∀j d,j<k→l[j]? =some d→d.st≠n)(he:l[k].st=n):L2 l n=(k:Int):=by
 unfold L2
 rw[tE.2 ⟨hk,by simpa using he,fun j hj=>by
  have:=h j l[j] hj (j6 (by omega))
  simpa using this⟩]
theorem MW {l:List Dx}(h: ∀j d,j<l.length→l[j]? =some d→d.st≠n):L2 l n= -1:=by
 unfold L2
 rw[tF.2 (fun d hd=>by
  obtain⟨j,hj⟩:=Gk hd;have:=h j d (U4.1 hj).1 hj
  simpa using this)]
theorem Py (D P L C:Value)(l:List Dx)(n:Int)(w:World)(hv:C0 w D l):Calls Tryz.prog 26 #[.agg #[D,P,L,C],.int .i64 n] w fun r w'=>r= .returned (.int .i64 (L2 l n))∧z6 [] w w':=by
 obtain⟨A,cap,rfl,Ad,Cs⟩:=hv.form;have HT:=p7 (fun W t=>hv.q8 t);have HA:=O (fun k hk=>MX (l:=l) (n:=n) (k:=k) hk);have HN:=O (fun h=>MW (l:=l) (n:=n) h);generalize L2 l n=n9 at*;have jM:=j4.new w 29 #[.slice A l.length cap,P,L,C];have o6:z6 [] w (w.alloc (.cells #[.slice A l.length cap,P,L,C] 29)):=(z8 [] w).alloc _;have HB:Hid (∀(W:World),z6 [] (w.alloc (.cells #[.slice A l.length cap,P,L,C] 29)) W→W.cell? ⟨w.heap.size,0,none⟩=some (.slice A l.length cap)):=O (fun W t=>((jM.z7 t (by simp)).cell 0).trans rfl);have m9:=O o6;clear jM o6 hv;go_enter Tryz.func26,Tryz.ntmps26;go_wp2_with fail;generalize (w.alloc (.cells #[.slice A l.length cap,P,L,C] 29))=w0 at*;generalize w.heap.size=g at*;go_loopw [5] (fun ti wr=>qy1 w0 w l n ti wr) (fun ti _=>l.length - (intOf ti).toNat)
 case atStart=>exact⟨0,by omega,rfl,z8 _ _,O (fun j d h=>by omega)⟩
 case round=>
  obtain⟨k,hk,rfl,ht,HX⟩:=hrel;have hD:=HT.o wr (m9.o.Y ht);have cg:=HB.o wr ht;by_cases Z:k<l.length
  ·have j1:(k:Int)< (l.length:Int):=by omega
   obtain⟨b,off,c,rfl,-,-,hc⟩:=hD.at_ Z;obtain⟨c0,-,-⟩:=hc wr (z8 _ _);by_cases he:l[k].st=n
   ·have y5:=O (HA.o k Z HX.o he);rw[he]at c0;clear HX HA HN hc hD he;go_wp2_with fail;go_ret;exact⟨by rw[y5.o];rfl,m9.o.Y ht⟩
   ·have My:Hid (∀j d,j<k+1→l[j]? =some d→d.st≠n):=O (fun j d hj hd=>by
     by_cases h:j<k
     ·exact HX.o j d h hd
     ·obtain rfl:j=k:=by omega
      rw[j6 Z]at hd;injection hd with hd;rw[←hd]
      exact he)
    have qM:=beq_false_of_ne he;clear HX hc hD he;generalize l[k].st=s at*;go_wp2_with fail;go_roundw
    case rel=>exact⟨k+1,by omega,by go_num,ht,My⟩
    case measure=>simp[intOf];omega
  ·have j1: ¬(k:Int)< (l.length:Int):=by omega
   have y5:=O (HN.o (fun j d hj=>HX.o j d (by omega)));clear HX HA HN hD;go_wp2_with fail;go_ret;exact⟨by rw[y5.o];rfl,m9.o.Y ht⟩
structure Q5 where
 a:Int
 b:Int
 c:Int
 d:Int
 e:Int
def Q5.cells (x:Q5):List Value:= [I x.a,I x.b,I x.c,I x.d,I x.e]
def Q5.Fit (x:Q5):Prop:=Fits x.a∧Fits x.b∧Fits x.c∧Fits x.d∧Fits x.e
abbrev o5:=C7 5 Q5.cells Q5.Fit
structure Q4 where
 a:Int
 b:Int
 c:Int
 d:Int
def Q4.cells (x:Q4):List Value:= [I x.a,I x.b,I x.c,I x.d]
def Q4.Fit (x:Q4):Prop:=Fits x.a∧Fits x.b∧Fits x.c∧Fits x.d
abbrev T9:=C7 4 Q4.cells Q4.Fit
def Jd (n lo hi:Int):Bool:=decide (lo≤n∧n≤hi)
def Da (lo hi:Int):Bool:=decide (2≤lo∧lo≤hi∧hi≤51)
theorem Oz (lo hi:Int)(w:World):Calls Tryz.prog 164 #[.int .i64 lo,.int .i64 hi] w fun r w'=>r= .returned (.bool (Da lo hi))∧w=w':=by
 unfold Da;by_cases h1:2≤lo
 ·by_cases h2:lo≤hi
  ·by_cases h3:hi≤51
   ·rw[b_ ⟨h1,h2,h3⟩];go_enter Tryz.func164,Tryz.ntmps164;go_wp2_with fail;go_ret;exact⟨rfl,rfl⟩
   ·rw[v8 (fun h=>h3 h.2.2)];go_enter Tryz.func164,Tryz.ntmps164;go_wp2_with fail;go_ret;exact⟨rfl,rfl⟩
  ·rw[v8 (fun h=>h2 h.2.1)];go_enter Tryz.func164,Tryz.ntmps164;go_wp2_with fail;go_ret;exact⟨rfl,rfl⟩
 ·rw[v8 (fun h=>h1 h.1)];go_enter Tryz.func164,Tryz.ntmps164;go_wp2_with fail;go_ret;exact⟨rfl,rfl⟩
def W8 (a b c d e:Int):Bool:=K2 a&&K2 b&&decide (a<b)&&Jd c (-1) (1)&&Da d e
theorem zu (a b c d e:Int)(w:World):Calls Tryz.prog 121 #[.agg #[.int .i64 a,.int .i64 b,.int .i64 c,.int .i64 d,.int .i64 e]] w fun r w'=>r= .returned (.bool (W8 a b c d e))∧z6 [] w w':=by
 have H0:=O (fun W=>K7 a W);have H1:=O (fun W=>K7 b W);have H3:=O (fun W=>N4 c (-1) (1) W);have H4:=O (fun W=>Oz d e W);have HW:=O (z8 [] w);have HA:=O ((z8 [] w).alloc (.cells #[.int .i64 a,.int .i64 b,.int .i64 c,.int .i64 d,.int .i64 e] 79));unfold W8
 cases bC:K2 a with
 | false=>
  have Zv:decide (0≤a∧a≤511)=false:=bC;simp only[B6,Nk];go_enter Tryz.func121,Tryz.ntmps121;go_wp2_with fail
  refine(H0.o _).mono ?_
  rintro r w0 ⟨rfl,rfl⟩;rw[Zv];go_wp2_with fail;go_ret;exact⟨rfl,HA.o⟩
 | true=>
 have Zv:decide (0≤a∧a≤511)=true:=bC
 cases Vr:K2 b with
 | false=>
  have gW:decide (0≤b∧b≤511)=false:=Vr;simp only[B6,Nk];go_enter Tryz.func121,Tryz.ntmps121;go_wp2_with fail
  refine(H0.o _).mono ?_
  rintro r w0 ⟨rfl,rfl⟩;rw[Zv];go_wp2_with fail
  refine(H1.o _).mono ?_
  rintro r w1 ⟨rfl,rfl⟩;rw[gW];go_wp2_with fail;go_ret;exact⟨rfl,HA.o⟩
 | true=>
 have gW:decide (0≤b∧b≤511)=true:=Vr;by_cases xG:a<b;rotate_left
 ·have CN:decide (a<b)=false:=v8 xG;rw[CN];simp only[B6,Nk];go_enter Tryz.func121,Tryz.ntmps121;go_wp2_with fail
  refine(H0.o _).mono ?_
  rintro r w0 ⟨rfl,rfl⟩;rw[Zv];go_wp2_with fail
  refine(H1.o _).mono ?_
  rintro r w1 ⟨rfl,rfl⟩;rw[gW];go_wp2_with fail;go_ret;exact⟨rfl,HA.o⟩
 have CN:decide (a<b)=true:=b_ xG
 cases qY:Jd c (-1) (1)with
 | false=>
  have DW:decide (-1≤c∧c≤1)=false:=qY;simp only[B6,Nk];go_enter Tryz.func121,Tryz.ntmps121;go_wp2_with fail
  refine(H0.o _).mono ?_
  rintro r w0 ⟨rfl,rfl⟩;rw[Zv];go_wp2_with fail
  refine(H1.o _).mono ?_
  rintro r w1 ⟨rfl,rfl⟩;rw[gW];go_wp2_with fail
  refine(H3.o _).mono ?_
  rintro r w3 ⟨rfl,rfl⟩;rw[DW];go_wp2_with fail;go_ret;exact⟨rfl,HA.o⟩
 | true=>
 have DW:decide (-1≤c∧c≤1)=true:=qY
 cases i_:Da d e with
 | false=>
  have PO:Da d e=false:=i_;simp only[B6,Nk];go_enter Tryz.func121,Tryz.ntmps121;go_wp2_with fail
  refine(H0.o _).mono ?_
  rintro r w0 ⟨rfl,rfl⟩;rw[Zv];go_wp2_with fail
  refine(H1.o _).mono ?_
  rintro r w1 ⟨rfl,rfl⟩;rw[gW];go_wp2_with fail
  refine(H3.o _).mono ?_
  rintro r w3 ⟨rfl,rfl⟩;rw[DW];go_wp2_with fail
  refine(H4.o _).mono ?_
  rintro r w4 ⟨rfl,rfl⟩;rw[PO];go_wp2_with fail;go_ret;exact⟨rfl,HA.o⟩
 | true=>
 have PO:Da d e=true:=i_
 (try simp only[Zv,gW,CN,DW,PO])
 go_enter Tryz.func121,Tryz.ntmps121;go_wp2_with fail
 refine(H0.o _).mono ?_
 rintro r w0 ⟨rfl,rfl⟩;rw[Zv];go_wp2_with fail
 refine(H1.o _).mono ?_
 rintro r w1 ⟨rfl,rfl⟩;rw[gW];go_wp2_with fail
 refine(H3.o _).mono ?_
 rintro r w3 ⟨rfl,rfl⟩;rw[DW];go_wp2_with fail
 refine(H4.o _).mono ?_
 rintro r w4 ⟨rfl,rfl⟩;rw[PO];go_wp2_with fail;go_ret;exact⟨rfl,HA.o⟩
def W9 (a b c d e:Int):Bool:=K2 a&&K2 b&&(a !=b)&&Jd c (1) (1073741824)&&Da d e
theorem zj (a b c d e:Int)(w:World):Calls Tryz.prog 124 #[.agg #[.int .i64 a,.int .i64 b,.int .i64 c,.int .i64 d,.int .i64 e]] w fun r w'=>r= .returned (.bool (W9 a b c d e))∧z6 [] w w':=by
 have H0:=O (fun W=>K7 a W);have H1:=O (fun W=>K7 b W);have H3:=O (fun W=>N4 c (1) (1073741824) W);have H4:=O (fun W=>Oz d e W);have HW:=O (z8 [] w);have HA:=O ((z8 [] w).alloc (.cells #[.int .i64 a,.int .i64 b,.int .i64 c,.int .i64 d,.int .i64 e] 81));unfold W9
 cases bC:K2 a with
 | false=>
  have Zv:decide (0≤a∧a≤511)=false:=bC;simp only[B6,Nk];go_enter Tryz.func124,Tryz.ntmps124;go_wp2_with fail
  refine(H0.o _).mono ?_
  rintro r w0 ⟨rfl,rfl⟩;rw[Zv];go_wp2_with fail;go_ret;exact⟨rfl,HA.o⟩
 | true=>
 have Zv:decide (0≤a∧a≤511)=true:=bC
 cases Vr:K2 b with
 | false=>
  have gW:decide (0≤b∧b≤511)=false:=Vr;simp only[B6,Nk];go_enter Tryz.func124,Tryz.ntmps124;go_wp2_with fail
  refine(H0.o _).mono ?_
  rintro r w0 ⟨rfl,rfl⟩;rw[Zv];go_wp2_with fail
  refine(H1.o _).mono ?_
  rintro r w1 ⟨rfl,rfl⟩;rw[gW];go_wp2_with fail;go_ret;exact⟨rfl,HA.o⟩
 | true=>
 have gW:decide (0≤b∧b≤511)=true:=Vr;by_cases xG:a=b
 ·have CN:(a !=b)=false:=by simp[xG]
  clear xG;rw[CN];simp only[B6,Nk];go_enter Tryz.func124,Tryz.ntmps124;go_wp2_with fail
  refine(H0.o _).mono ?_
  rintro r w0 ⟨rfl,rfl⟩;rw[Zv];go_wp2_with fail
  refine(H1.o _).mono ?_
  rintro r w1 ⟨rfl,rfl⟩;rw[gW];go_wp2_with fail;go_ret;exact⟨rfl,HA.o⟩
 have CN:(a !=b)=true:=by simp[xG]
 cases qY:Jd c (1) (1073741824)with
 | false=>
  have DW:decide (1≤c∧c≤1073741824)=false:=qY;simp only[B6,Nk];go_enter Tryz.func124,Tryz.ntmps124;go_wp2_with fail
  refine(H0.o _).mono ?_
  rintro r w0 ⟨rfl,rfl⟩;rw[Zv];go_wp2_with fail
  refine(H1.o _).mono ?_
  rintro r w1 ⟨rfl,rfl⟩;rw[gW];go_wp2_with fail
  refine(H3.o _).mono ?_
  rintro r w3 ⟨rfl,rfl⟩;rw[DW];go_wp2_with fail;go_ret;exact⟨rfl,HA.o⟩
 | true=>
 have DW:decide (1≤c∧c≤1073741824)=true:=qY
 cases i_:Da d e with
 | false=>
  have PO:Da d e=false:=i_;simp only[B6,Nk];go_enter Tryz.func124,Tryz.ntmps124;go_wp2_with fail
  refine(H0.o _).mono ?_
  rintro r w0 ⟨rfl,rfl⟩;rw[Zv];go_wp2_with fail
  refine(H1.o _).mono ?_
  rintro r w1 ⟨rfl,rfl⟩;rw[gW];go_wp2_with fail
  refine(H3.o _).mono ?_
  rintro r w3 ⟨rfl,rfl⟩;rw[DW];go_wp2_with fail
  refine(H4.o _).mono ?_
  rintro r w4 ⟨rfl,rfl⟩;rw[PO];go_wp2_with fail;go_ret;exact⟨rfl,HA.o⟩
 | true=>
 have PO:Da d e=true:=i_
 (try simp only[Zv,gW,CN,DW,PO])
 go_enter Tryz.func124,Tryz.ntmps124;go_wp2_with fail
 refine(H0.o _).mono ?_
 rintro r w0 ⟨rfl,rfl⟩;rw[Zv];go_wp2_with fail
 refine(H1.o _).mono ?_
 rintro r w1 ⟨rfl,rfl⟩;rw[gW];go_wp2_with fail
 refine(H3.o _).mono ?_
 rintro r w3 ⟨rfl,rfl⟩;rw[DW];go_wp2_with fail
 refine(H4.o _).mono ?_
 rintro r w4 ⟨rfl,rfl⟩;rw[PO];go_wp2_with fail;go_ret;exact⟨rfl,HA.o⟩
def C5 (a b c d:Int):Bool:=K2 a&&Jd b (0) (1099511627776)&&Da c d
theorem AF (a b c d:Int)(w:World):Calls Tryz.prog 127 #[.agg #[.int .i64 a,.int .i64 b,.int .i64 c,.int .i64 d]] w fun r w'=>r= .returned (.bool (C5 a b c d))∧z6 [] w w':=by
 have H0:=O (fun W=>K7 a W);have H1:=O (fun W=>N4 b (0) (1099511627776) W);have H2:=O (fun W=>Oz c d W);have HW:=O (z8 [] w);have HA:=O ((z8 [] w).alloc (.cells #[.int .i64 a,.int .i64 b,.int .i64 c,.int .i64 d] 83));unfold C5
 cases bC:K2 a with
 | false=>
  have Zv:decide (0≤a∧a≤511)=false:=bC;simp only[B6,Nk];go_enter Tryz.func127,Tryz.ntmps127;go_wp2_with fail
  refine(H0.o _).mono ?_
  rintro r w0 ⟨rfl,rfl⟩;rw[Zv];go_wp2_with fail;go_ret;exact⟨rfl,HA.o⟩
 | true=>
 have Zv:decide (0≤a∧a≤511)=true:=bC
 cases Vr:Jd b (0) (1099511627776)with
 | false=>
  have gW:decide (0≤b∧b≤1099511627776)=false:=Vr;simp only[B6,Nk];go_enter Tryz.func127,Tryz.ntmps127;go_wp2_with fail
  refine(H0.o _).mono ?_
  rintro r w0 ⟨rfl,rfl⟩;rw[Zv];go_wp2_with fail
  refine(H1.o _).mono ?_
  rintro r w1 ⟨rfl,rfl⟩;rw[gW];go_wp2_with fail;go_ret;exact⟨rfl,HA.o⟩
 | true=>
 have gW:decide (0≤b∧b≤1099511627776)=true:=Vr
 cases Ba:Da c d with
 | false=>
  have CN:Da c d=false:=Ba;simp only[B6,Nk];go_enter Tryz.func127,Tryz.ntmps127;go_wp2_with fail
  refine(H0.o _).mono ?_
  rintro r w0 ⟨rfl,rfl⟩;rw[Zv];go_wp2_with fail
  refine(H1.o _).mono ?_
  rintro r w1 ⟨rfl,rfl⟩;rw[gW];go_wp2_with fail
  refine(H2.o _).mono ?_
  rintro r w2 ⟨rfl,rfl⟩;rw[CN];go_wp2_with fail;go_ret;exact⟨rfl,HA.o⟩
 | true=>
 have CN:Da c d=true:=Ba
 (try simp only[Zv,gW,CN])
 go_enter Tryz.func127,Tryz.ntmps127;go_wp2_with fail
 refine(H0.o _).mono ?_
 rintro r w0 ⟨rfl,rfl⟩;rw[Zv];go_wp2_with fail
 refine(H1.o _).mono ?_
 rintro r w1 ⟨rfl,rfl⟩;rw[gW];go_wp2_with fail
 refine(H2.o _).mono ?_
 rintro r w2 ⟨rfl,rfl⟩;rw[CN];go_wp2_with fail;go_ret;exact⟨rfl,HA.o⟩
theorem o5.at_ {cap:Nat}{xs:List Q5}(h:o5 w (.slice (some ⟨b,off,none⟩) xs.length cap) xs)(hk:k<xs.length):
  w.cell? ⟨b,off+k*5,none⟩=some (.int .i64 xs[k].a)∧w.cell? ⟨b,off+k*5+1,none⟩=some (.int .i64 xs[k].b)∧w.cell? ⟨b,off+k*5+1+1,none⟩=some (.int .i64 xs[k].c)∧w.cell? ⟨b,off+k*5+1+1+1,none⟩=some (.int .i64 xs[k].d)∧w.cell? ⟨b,off+k*5+1+1+1+1,none⟩=some (.int .i64 xs[k].e):=
 ⟨h.cell (fun _=>rfl) hk 0 (by omega) _ rfl,h.cell (fun _=>rfl) hk 1 (by omega) _ rfl,h.cell (fun _=>rfl) hk 2 (by omega) _ rfl,h.cell (fun _=>rfl) hk 3 (by omega) _ rfl,h.cell (fun _=>rfl) hk 4 (by omega) _ rfl⟩
theorem T9.at_ {cap:Nat}{xs:List Q4}(h:T9 w (.slice (some ⟨b,off,none⟩) xs.length cap) xs)(hk:k<xs.length):
  w.cell? ⟨b,off+k*4,none⟩=some (.int .i64 xs[k].a)∧w.cell? ⟨b,off+k*4+1,none⟩=some (.int .i64 xs[k].b)∧w.cell? ⟨b,off+k*4+1+1,none⟩=some (.int .i64 xs[k].c)∧w.cell? ⟨b,off+k*4+1+1+1,none⟩=some (.int .i64 xs[k].d):=
 ⟨h.cell (fun _=>rfl) hk 0 (by omega) _ rfl,h.cell (fun _=>rfl) hk 1 (by omega) _ rfl,h.cell (fun _=>rfl) hk 2 (by omega) _ rfl,h.cell (fun _=>rfl) hk 3 (by omega) _ rfl⟩
def nZ (w:World)(good:Q5→Bool)(l:List Q5)(n9:Bool)(ti:Value)(wr:World):Prop:= ∃k:Nat,k≤l.length∧ti= .int .i64 k∧z6 [] w wr∧Hid (n9=(l.drop k).all good)
theorem iY (F:FuncId)(good:Q5→Bool)(v:Value)(l:List Q5)(w:World)(hv:o5 w v l)(hF: ∀args W,(callFunc F args).run Tryz.prog W= .ok (.enter F args) W)
  (Nc: ∀W (x:Q5),z6 [] w W→Calls Tryz.prog F #[.agg #[.int .i64 x.a,.int .i64 x.b,.int .i64 x.c,.int .i64 x.d,.int .i64 x.e]] W fun r w'=>r= .returned (.bool (good x))∧z6 [] W w'):
  Calls Tryz.prog 80 #[v,.func (.func F) #[] #[]] w fun r w'=>r= .returned (.bool (l.all good))∧z6 [] w w':=by
 obtain⟨A,cap,rfl⟩:=hv.form;obtain⟨Ad,Cs⟩:=hv.cap;have Z7:nZ w good l (l.all good) (.int .i64 0) w:=⟨0,by omega,rfl,z8 _ _,O rfl⟩;generalize l.all good=n9 at*;have HC:=O Nc;clear Nc;go_enter Tryz.func80,Tryz.ntmps80;go_wp2_with fail;go_loopw [9] (fun ti wr=>nZ w good l n9 ti wr) (fun ti _=>l.length - (intOf ti).toNat)
 case atStart=>exact Z7
 case round=>
  clear Z7;obtain⟨k,hk,rfl,ht,HX⟩:=hrel;by_cases Z:k<l.length
  ·have j1:(k:Int)< (l.length:Int):=by omega
   obtain⟨b,off,rfl,hb⟩:=hv.addr Z;obtain⟨ca,cb,cc,cd,ce⟩:=o5.at_ (hv.q8 ht) Z;have Pm:b<wr.heap.size:=by have:=ht.size;omega
   have N5:Hid (n9=(good l[k]&&(l.drop (k+1)).all good)):=O (HX.o.trans (Eg Z));have Ze:=O (HC.o (wr.alloc (.cells #[.int .i64 l[k].a,.int .i64 l[k].b,.int .i64 l[k].c,.int .i64 l[k].d,.int .i64 l[k].e] 79)) l[k] (ht.alloc _));have V0:=O (ht.alloc (.cells #[.int .i64 l[k].a,.int .i64 l[k].b,.int .i64 l[k].c,.int .i64 l[k].d,.int .i64 l[k].e] 79));clear HX hv;generalize hg:good l[k]=gb at*;clear hg;generalize l[k].a=xa at*;generalize l[k].b=xb at*;generalize l[k].c=xc at*;generalize l[k].d=xd at*;generalize l[k].e=xe at*
   cases gb with
   | false=>
    have y5:Hid (n9=false):=N5;clear N5;go_wp2_with fail
    refine Ze.o.mono ?_
    rintro r w2 ⟨rfl,V4⟩;go_wp2_with fail;go_ret;exact⟨v9 (by rw[y5.o]),V0.o.Y V4⟩
   | true=>
    have My:Hid (n9=(l.drop (k+1)).all good):=N5;clear N5;go_wp2_with fail
    refine Ze.o.mono ?_
    rintro r w2 ⟨rfl,V4⟩;go_wp2_with fail;go_roundw
    case rel=>exact⟨k+1,by omega,by go_num,V0.o.Y V4,My⟩
    case measure=>simp[intOf];omega
  ·have j1: ¬(k:Int)< (l.length:Int):=by omega
   have y5:Hid (n9=true):=O (by rw[HX.o,Hz (by omega)];rfl);clear HX;go_wp2_with fail;go_ret;exact⟨v9 (by rw[y5.o]),ht⟩
def oA (w:World)(good:Q5→Bool)(l:List Q5)(n9:Bool)(ti:Value)(wr:World):Prop:= ∃k:Nat,k≤l.length∧ti= .int .i64 k∧z6 [] w wr∧Hid (n9=(l.drop k).all good)
theorem iZ (F:FuncId)(good:Q5→Bool)(v:Value)(l:List Q5)(w:World)(hv:o5 w v l)(hF: ∀args W,(callFunc F args).run Tryz.prog W= .ok (.enter F args) W)
  (Nc: ∀W (x:Q5),z6 [] w W→Calls Tryz.prog F #[.agg #[.int .i64 x.a,.int .i64 x.b,.int .i64 x.c,.int .i64 x.d,.int .i64 x.e]] W fun r w'=>r= .returned (.bool (good x))∧z6 [] W w'):
  Calls Tryz.prog 82 #[v,.func (.func F) #[] #[]] w fun r w'=>r= .returned (.bool (l.all good))∧z6 [] w w':=by
 obtain⟨A,cap,rfl⟩:=hv.form;obtain⟨Ad,Cs⟩:=hv.cap;have Z7:oA w good l (l.all good) (.int .i64 0) w:=⟨0,by omega,rfl,z8 _ _,O rfl⟩;generalize l.all good=n9 at*;have HC:=O Nc;clear Nc;go_enter Tryz.func82,Tryz.ntmps82;go_wp2_with fail;go_loopw [9] (fun ti wr=>oA w good l n9 ti wr) (fun ti _=>l.length - (intOf ti).toNat)
 case atStart=>exact Z7
 case round=>
  clear Z7;obtain⟨k,hk,rfl,ht,HX⟩:=hrel;by_cases Z:k<l.length
  ·have j1:(k:Int)< (l.length:Int):=by omega
   obtain⟨b,off,rfl,hb⟩:=hv.addr Z;obtain⟨ca,cb,cc,cd,ce⟩:=o5.at_ (hv.q8 ht) Z;have Pm:b<wr.heap.size:=by have:=ht.size;omega
   have N5:Hid (n9=(good l[k]&&(l.drop (k+1)).all good)):=O (HX.o.trans (Eg Z));have Ze:=O (HC.o (wr.alloc (.cells #[.int .i64 l[k].a,.int .i64 l[k].b,.int .i64 l[k].c,.int .i64 l[k].d,.int .i64 l[k].e] 81)) l[k] (ht.alloc _));have V0:=O (ht.alloc (.cells #[.int .i64 l[k].a,.int .i64 l[k].b,.int .i64 l[k].c,.int .i64 l[k].d,.int .i64 l[k].e] 81));clear HX hv;generalize hg:good l[k]=gb at*;clear hg;generalize l[k].a=xa at*;generalize l[k].b=xb at*;generalize l[k].c=xc at*;generalize l[k].d=xd at*;generalize l[k].e=xe at*
   cases gb with
   | false=>
    have y5:Hid (n9=false):=N5;clear N5;go_wp2_with fail
    refine Ze.o.mono ?_
    rintro r w2 ⟨rfl,V4⟩;go_wp2_with fail;go_ret;exact⟨v9 (by rw[y5.o]),V0.o.Y V4⟩
   | true=>
    have My:Hid (n9=(l.drop (k+1)).all good):=N5;clear N5;go_wp2_with fail
    refine Ze.o.mono ?_
    rintro r w2 ⟨rfl,V4⟩;go_wp2_with fail;go_roundw
    case rel=>exact⟨k+1,by omega,by go_num,V0.o.Y V4,My⟩
    case measure=>simp[intOf];omega
  ·have j1: ¬(k:Int)< (l.length:Int):=by omega
   have y5:Hid (n9=true):=O (by rw[HX.o,Hz (by omega)];rfl);clear HX;go_wp2_with fail;go_ret;exact⟨v9 (by rw[y5.o]),ht⟩
def jm (w:World)(good:Q4→Bool)(l:List Q4)(n9:Bool)(ti:Value)(wr:World):Prop:= ∃k:Nat,k≤l.length∧ti= .int .i64 k∧z6 [] w wr∧Hid (n9=(l.drop k).all good)
theorem qC (F:FuncId)(good:Q4→Bool)(v:Value)(l:List Q4)(w:World)(hv:T9 w v l)(hF: ∀args W,(callFunc F args).run Tryz.prog W= .ok (.enter F args) W)
  (Nc: ∀W (x:Q4),z6 [] w W→Calls Tryz.prog F #[.agg #[.int .i64 x.a,.int .i64 x.b,.int .i64 x.c,.int .i64 x.d]] W fun r w'=>r= .returned (.bool (good x))∧z6 [] W w'):
  Calls Tryz.prog 84 #[v,.func (.func F) #[] #[]] w fun r w'=>r= .returned (.bool (l.all good))∧z6 [] w w':=by
 obtain⟨A,cap,rfl⟩:=hv.form;obtain⟨Ad,Cs⟩:=hv.cap;have Z7:jm w good l (l.all good) (.int .i64 0) w:=⟨0,by omega,rfl,z8 _ _,O rfl⟩;generalize l.all good=n9 at*;have HC:=O Nc;clear Nc;go_enter Tryz.func84,Tryz.ntmps84;go_wp2_with fail;go_loopw [9] (fun ti wr=>jm w good l n9 ti wr) (fun ti _=>l.length - (intOf ti).toNat)
 case atStart=>exact Z7
 case round=>
  clear Z7;obtain⟨k,hk,rfl,ht,HX⟩:=hrel;by_cases Z:k<l.length
  ·have j1:(k:Int)< (l.length:Int):=by omega
   obtain⟨b,off,rfl,hb⟩:=hv.addr Z;obtain⟨ca,cb,cc,cd⟩:=T9.at_ (hv.q8 ht) Z;have Pm:b<wr.heap.size:=by have:=ht.size;omega
   have N5:Hid (n9=(good l[k]&&(l.drop (k+1)).all good)):=O (HX.o.trans (Eg Z));have Ze:=O (HC.o (wr.alloc (.cells #[.int .i64 l[k].a,.int .i64 l[k].b,.int .i64 l[k].c,.int .i64 l[k].d] 83)) l[k] (ht.alloc _));have V0:=O (ht.alloc (.cells #[.int .i64 l[k].a,.int .i64 l[k].b,.int .i64 l[k].c,.int .i64 l[k].d] 83));clear HX hv;generalize hg:good l[k]=gb at*;clear hg;generalize l[k].a=xa at*;generalize l[k].b=xb at*;generalize l[k].c=xc at*;generalize l[k].d=xd at*
   cases gb with
   | false=>
    have y5:Hid (n9=false):=N5;clear N5;go_wp2_with fail
    refine Ze.o.mono ?_
    rintro r w2 ⟨rfl,V4⟩;go_wp2_with fail;go_ret;exact⟨v9 (by rw[y5.o]),V0.o.Y V4⟩
   | true=>
    have My:Hid (n9=(l.drop (k+1)).all good):=N5;clear N5;go_wp2_with fail
    refine Ze.o.mono ?_
    rintro r w2 ⟨rfl,V4⟩;go_wp2_with fail;go_roundw
    case rel=>exact⟨k+1,by omega,by go_num,V0.o.Y V4,My⟩
    case measure=>simp[intOf];omega
  ·have j1: ¬(k:Int)< (l.length:Int):=by omega
   have y5:Hid (n9=true):=O (by rw[HX.o,Hz (by omega)];rfl);clear HX;go_wp2_with fail;go_ret;exact⟨v9 (by rw[y5.o]),ht⟩
def Kr:List Int→Int
 | []=>0
 | x::t=>if x=0 then Kr t else x
theorem oG (v:Value)(l:List Int)(w:World)(hv:e8 w v l):Calls Tryz.prog 165 #[v] w fun r w'=>r= .returned (.int .i64 (Kr l))∧z6 [] w w':=by
 obtain⟨A,cap,rfl⟩:=hv.form;obtain⟨Ad,Cs⟩:=hv.cap;have Z7: ∃k:Nat,k≤l.length∧(Value.int .i64 0)= .int .i64 (k:Int)∧z6 [] w w∧Hid (Kr l=Kr (l.drop k)):=⟨0,by omega,rfl,z8 _ _,O rfl⟩;generalize Kr l=n9 at*;go_enter Tryz.func165,Tryz.ntmps165;go_wp2_with fail;go_loopw [8] (fun ti wr=> ∃k:Nat,k≤l.length∧ti= .int .i64 (k:Int)∧z6 [] w wr∧Hid (n9=Kr (l.drop k))) (fun ti _=>l.length - (intOf ti).toNat)
 case atStart=>exact Z7
 case round=>
  clear Z7;obtain⟨k,hk,rfl,ht,HX⟩:=hrel;by_cases Z:k<l.length
  ·have j1:(k:Int)< (l.length:Int):=by omega
   obtain⟨b,off,rfl,hb⟩:=hv.addr Z;have c0:=e8.at_ (hv.q8 ht) Z;have N5:Hid (n9=if l[k]=0 then Kr (l.drop (k+1))else l[k]):=O (by rw[HX.o,Rd Z];rfl);clear HX hv;generalize l[k]=x at*;by_cases he:x=0
   ·have My:Hid (n9=Kr (l.drop (k+1))):=O (by rw[N5.o,x9 he]);subst he;clear N5;go_wp2_with fail;go_roundw
    case rel=>exact⟨k+1,by omega,by go_num,ht,My⟩
    case measure=>simp[intOf];omega
   ·have y5:Hid (n9=x):=O (by rw[N5.o,z9 he]);have qM:(x !=0)=true:=by simp[he]
    clear N5 he;go_wp2_with fail;go_ret;exact⟨by rw[y5.o];rfl,ht⟩
  ·have j1: ¬(k:Int)< (l.length:Int):=by omega
   have y5:Hid (n9=0):=O (by rw[HX.o,Hz (by omega)];rfl);clear HX;go_wp2_with fail;go_ret;exact⟨by rw[y5.o];rfl,ht⟩
end Go.Proofs.YtlhlmcohdkkjpaaGreatDoor
