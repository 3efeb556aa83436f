/- Maps keyed by an int that a call makes, read as functions; lists of structs of two and three numbers. No program in sight. -/
import Derived.Test.YtlhlmcohdkkjpaaGreatDoorBase
import Derived.Test.YtlhlmcohdkkjpaaGreatDoorProg
set_option linter.all false
set_option maxHeartbeats 4000000
set_option maxRecDepth 100000
namespace Go.Proofs.YtlhlmcohdkkjpaaGreatDoor
open Go.RowKit Go.ChangeMaps
def Rv (w:World)(b:Nat)(f:Int→Option Value):Prop:=
 ∃es clock,w.heap[b]? =some (.map es clock)∧(∀x∈es.toList,∃n,x.key= .int .i64 n)∧(es.toList.map (·.key)).Nodup∧ ∀n v,f n=some v↔ ∃x∈es.toList,x.key= .int .i64 n∧x.val=v
section
variable {w w':World}{b:Nat}{f:Int→Option Value}{P:Program}{t k e:TypeId}{L:List Nat}
theorem Rv.lt (h:Rv w b f):b<w.heap.size:=by
 obtain⟨es,clock,hb,_⟩:=h;exact(Mu.1 hb).1
theorem Rv.z7 (h:Rv w b f)(ht:z6 L w w')(hb:b∉L):Rv w' b f:=by
 have Z:=h.lt;obtain⟨es,clock,h1,h2⟩:=h;exact⟨es,clock,(ht.block b Z hb).trans h1,h2⟩
theorem Rv.q8 (h:Rv w b f)(ht:z6 [] w w'):Rv w' b f:=h.z7 ht (by simp)
theorem Rv.new (w:World):Rv (w.alloc (.map #[] 0)) w.heap.size (fun _=>none):=⟨#[],0,heap_alloc_new w _,by simp,by simp,by simp⟩
theorem Rv.congr {g:Int→Option Value}(h:Rv w b f)(e: ∀n,f n=g n):Rv w b g:=by
 have:f=g:=funext e
 rwa [←this]
theorem Rv.lookup (h:Rv w b f)(ht:P.underlying t=some (.map k e))(hk:P.underlying k=some (.int .i64)){z:Value}(hz:(zeroValue e).run P w= .ok z w)(n:Int)(c:Bool):
  (Instr.lookup t (.map (some b)) (.int .i64 n) c).run P w= .ok (if c then .tuple #[(f n).getD z,.bool (f n).isSome]else(f n).getD z) w:=by
 obtain⟨es,clock,hb,qu1,Yz,hf⟩:=h;have hK:MapKept.IsKey (.int .i64) (.int .i64 n):=by simp[MapKept.IsKey]
 have M9: ∀x∈es.toList,MapKept.IsKey (.int .i64) x.key:=fun x hx=>by obtain⟨m,e⟩:=qu1 x hx;rw[e];simp[MapKept.IsKey]
 rcases MapKept.findNow_spec hK es.toList 0 M9 with⟨h1,h2⟩ | ⟨j,e0,h1,h2,h3⟩
 ·have hn:f n=none:=by
   cases xH:f n with
   | none=>rfl
   | some v=>obtain⟨x,hx,hxk,_⟩:=(hf n v).1 xH;exact absurd hxk (h2 x hx)
  rw[hn];simp[Instr.lookup,run_underlying ht,MapKept.run_getObj_map hb,MapKept.run_checkKey hk hK,MapKept.run_findKey hk h1,hz,Result.andThen]
 ·have hn:f n=some e0.val:=(hf n e0.val).2 ⟨e0,Mk h2,h3,rfl⟩;rw[hn];simp[Instr.lookup,run_underlying ht,MapKept.run_getObj_map hb,MapKept.run_checkKey hk hK,MapKept.run_findKey hk h1,Result.andThen]
end
def I (n:Int):Value:= .int .i64 n
def Fits (n:Int):Prop:= -9223372036854775808≤n∧n≤9223372036854775807
variable{n9:Bool}{xa xb:Int}{k:Nat}{A:Option Addr}{α:Type}
theorem Uk {β:Type}(f:α→List β)(c:Nat)(hc: ∀x,(f x).length=c): ∀(xs:List α) (k j:Nat) (hk:k<xs.length),j<c→(xs.flatMap f)[k*c+j]? =(f xs[k])[j]?
 | [],k,j,hk,_=>absurd hk (by simp)
 | x::xs,0,j,hk,hj=>by
  rw[List.flatMap_cons,Ty (by rw[hc];omega)];simp
 | x::xs,k+1,j,hk,hj=>by
  have h1:(k+1)*c+j=(k*c+j)+c:=by rw[Yf];omega
  rw[List.flatMap_cons,List.getElem?_append_right (by rw[hc];omega),hc,h1,Nat.add_sub_cancel,Uk f c hc xs k j (by simpa using hk) hj];simp
def C7 (c:Nat)(f:α→List Value)(fit:α→Prop)(w:World)(v:Value)(xs:List α):Prop:=Reads w c v xs.length (xs.flatMap f)∧ ∀x∈xs,fit x
section
variable {α:Type}{c:Nat}{f:α→List Value}{fit:α→Prop}{w w':World}{v:Value}{xs:List α}{L:List Nat}
theorem C7.z7 (h:C7 c f fit w v xs)(ht:z6 L w w')(hv: ∀b∈rb v,b∉L):C7 c f fit w' v xs:=⟨Reads.z7 h.1 ht hv,h.2⟩
theorem C7.q8 (h:C7 c f fit w v xs)(ht:z6 [] w w'):C7 c f fit w' v xs:=⟨Reads.q8 h.1 ht,h.2⟩
theorem C7.form (h:C7 c f fit w v xs): ∃A cap,v= .slice A xs.length cap:=by
 obtain⟨A,cap,e,-⟩:=h.1;exact⟨A,cap,e⟩
theorem C7.addr {cap:Nat}(h:C7 c f fit w (.slice A xs.length cap) xs)(hk:k<xs.length): ∃b off,A=some ⟨b,off,none⟩∧b<w.heap.size:=by
 obtain⟨A',Ak,e,h1,h2,h3,h4⟩:=h.1;injection e with e1 e2 e3;subst e1 e3;obtain⟨b,off,rfl,hb,C6⟩:=h4 (by omega);exact⟨b,off,rfl,hb⟩
theorem C7.cell {b off cap:Nat}(h:C7 c f fit w (.slice (some ⟨b,off,none⟩) xs.length cap) xs)(hc: ∀x,(f x).length=c)(hk:k<xs.length)(j:Nat)(hj:j<c)(u:Value)(hu:(f xs[k])[j]? =some u):w.cell? ⟨b,off+k*c+j,none⟩=some u:=by
 obtain⟨A',Ak,e,h1,h2,h3,h4⟩:=h.1;injection e with e1 e2 e3;subst e1 e3;obtain⟨b',ql9,e4,hb,C6⟩:=h4 (by omega);injection e4 with e4;injection e4 with e5 e6;subst e5 e6;rw[←Uk f c hc xs k j hk hj]at hu;have:=C6 _ u hu
 rwa [←Nat.add_assoc]at this
theorem C7.lt (h:C7 c f fit w v xs): ∀g∈rb v,g<w.heap.size:=Reads.lt h.1
theorem C7.cap {cap:Nat}(h:C7 c f fit w (.slice A xs.length cap) xs):xs.length≤cap∧cap≤9223372036854775807:=by
 obtain⟨A',Ak,e,h1,h2,-⟩:=h.1;injection e with e1 e2 e3;subst e3;unfold maxLen at h2;exact⟨h1,by omega⟩
end
structure Tx where
 a:Int
 b:Int
 c:Int
def Tx.cells (x:Tx):List Value:= [I x.a,I x.b,I x.c]
def Tx.Fit (x:Tx):Prop:=Fits x.a∧Fits x.b∧Fits x.c
abbrev YV:=C7 3 Tx.cells Tx.Fit
structure Cx where
 a:Int
 b:Int
def Cx.cells (x:Cx):List Value:= [I x.a,I x.b]
def Cx.Fit (x:Cx):Prop:=Fits x.a∧Fits x.b
abbrev Q0:=C7 2 Cx.cells Cx.Fit
def Ao (n:Int):List Value:= [I n]
abbrev e8:=C7 1 Ao Fits
section
variable {w:World}{b off cap:Nat}
theorem YV.at_ {xs:List Tx}(h:YV w (.slice (some ⟨b,off,none⟩) xs.length cap) xs)(hk:k<xs.length):
  w.cell? ⟨b,off+k*3,none⟩=some (.int .i64 xs[k].a)∧w.cell? ⟨b,off+k*3+1,none⟩=some (.int .i64 xs[k].b)∧w.cell? ⟨b,off+k*3+1+1,none⟩=some (.int .i64 xs[k].c):=
 ⟨h.cell (fun _=>rfl) hk 0 (by omega) _ rfl,h.cell (fun _=>rfl) hk 1 (by omega) _ rfl,h.cell (fun _=>rfl) hk 2 (by omega) _ rfl⟩
theorem Q0.at_ {xs:List Cx}(h:Q0 w (.slice (some ⟨b,off,none⟩) xs.length cap) xs)(hk:k<xs.length):
  w.cell? ⟨b,off+k*2,none⟩=some (.int .i64 xs[k].a)∧w.cell? ⟨b,off+k*2+1,none⟩=some (.int .i64 xs[k].b):=
 ⟨h.cell (fun _=>rfl) hk 0 (by omega) _ rfl,h.cell (fun _=>rfl) hk 1 (by omega) _ rfl⟩
theorem e8.at_ {xs:List Int}(h:e8 w (.slice (some ⟨b,off,none⟩) xs.length cap) xs)(hk:k<xs.length):
  w.cell? ⟨b,off+k,none⟩=some (.int .i64 xs[k]):=by
 have:=h.cell (fun _=>rfl) hk 0 (by omega) _ rfl;simpa[I]using this
end
def A7 (bad:α→Prop) [DecidablePred bad](key:α→Int):Int→List α→Bool
 | _,[]=>true
 | last,x::xs=>if key x≤last∨bad x then false else A7 bad key (key x) xs
section
variable {α:Type}{bad:α→Prop} [DecidablePred bad] {key:α→Int}{l:List α}{k:Nat}{last:Int}
theorem qg9 (hk: ¬k<l.length):A7 bad key last (l.drop k)=true:=by rw[Hz (by omega)];rfl
theorem qh0 (hk:k<l.length)(hb:key l[k]≤last∨bad l[k]):A7 bad key last (l.drop k)=false:=by
 rw[Rd hk];simp only[A7];rw[x9 hb]
theorem SV (hk:k<l.length)(h1: ¬key l[k]≤last)(hb: ¬bad l[k]):A7 bad key last (l.drop k)=A7 bad key (key l[k]) (l.drop (k+1)):=by
 rw[Rd hk];simp only[A7];rw[z9 (fun h=>h.elim h1 hb)]
end
def ql1 (x:Tx):Prop:=512≤x.a∨x.b<0∨2<x.b∨x.c<0∨1000000000<x.c
instance:DecidablePred ql1:=fun x=>by unfold ql1;infer_instance
def qp3 (x:Tx):Prop:=512≤x.a∨x.b<1∨3<x.b∨x.c<1∨1000000<x.c
instance:DecidablePred qp3:=fun x=>by unfold qp3;infer_instance
def EU (n:Int):Prop:=512≤n
instance:DecidablePred EU:=fun x=>by unfold EU;infer_instance
def iK (x:Cx):Prop:=512≤x.a∨x.b<2∨51<x.b
instance:DecidablePred iK:=fun x=>by unfold iK;infer_instance
def Fa (l:List Int):Bool:=A7 EU id (-1) l
def Iw (l:List Cx):Bool:=A7 iK Cx.a (-1) l
theorem v9 {a b:Bool}(h:a=b):Ending.returned (.bool a)= .returned (.bool b):=by rw[h]
variable{l:List Cx}
theorem JA {last:Int}(Cp:n9=A7 iK Cx.a last (l.drop k))(hk:k<l.length)(hx:l[k]=⟨xa,xb⟩)(h:xa≤last∨512≤xa∨xb<2∨51<xb):n9=false:=by
 rw[Cp];refine qh0 hk ?_;rw[hx];unfold iK;simpa using h
theorem JS {last:Int}(Cp:n9=A7 iK Cx.a last (l.drop k))(hk:k<l.length)(hx:l[k]=⟨xa,xb⟩)(h: ¬(xa≤last∨512≤xa∨xb<2∨51<xb)):n9=A7 iK Cx.a xa (l.drop (k+1)):=by
 rw[Cp,SV hk]
 ·first | (rw[hx];done) | (rw[hx];rfl)
 ·rw[hx];exact fun h1=>h (.inl h1)
 ·rw[hx];exact fun h1=>h (.inr h1)
theorem N4 (n lo hi:Int)(w:World):Calls Tryz.prog 89 #[.int .i64 n,.int .i64 lo,.int .i64 hi] w fun r w'=>r= .returned (.bool (decide (lo≤n∧n≤hi)))∧w=w':=by
 by_cases h1:lo≤n
 ·by_cases h2:n≤hi
  ·rw[b_ ⟨h1,h2⟩];go_enter Tryz.func89,Tryz.ntmps89;go_wp2_with fail;go_ret;exact⟨rfl,rfl⟩
  ·rw[v8 (fun h=>h2 h.2)];go_enter Tryz.func89,Tryz.ntmps89;go_wp2_with fail;go_ret;exact⟨rfl,rfl⟩
 ·rw[v8 (fun h=>h1 h.1)];go_enter Tryz.func89,Tryz.ntmps89;go_wp2_with fail;go_ret;exact⟨rfl,rfl⟩
theorem K7 (n:Int)(w:World):Calls Tryz.prog 87 #[.int .i64 n] w fun r w'=>r= .returned (.bool (decide (0≤n∧n≤511)))∧w=w':=by
 have HB:=O (N4 n 0 511 w);generalize decide (0≤n∧n≤511)=q at*;go_enter Tryz.func87,Tryz.ntmps87;go_wp2_with fail;refine HB.o.mono ?_;rintro r w' ⟨rfl,rfl⟩;go_wp2_with fail;go_ret;exact⟨rfl,rfl⟩
def ZN (w:World)(l:List Cx)(n9:Bool)(ti:Value)(wr:World):Prop:=
 ∃(k:Nat) (last:Int),k≤l.length∧ti= .int .i64 k∧(k=0→last= -1)∧(∀j x,l[j]? =some x→j+1=k→last=x.a)∧(0<k→0≤last)∧z6 [] w wr∧n9=A7 iK Cx.a last (l.drop k)
theorem Du (v:Value)(l:List Cx)(w:World)(hv:Q0 w v l)(hl:l.length≤100000):Calls Tryz.prog 46 #[v] w fun r w'=>r= .returned (.bool (Iw l))∧z6 [] w w':=by
 obtain⟨A,cap,rfl⟩:=hv.form;obtain⟨Ad,Cs⟩:=hv.cap;have Z7:ZN w l (Iw l) (.int .i64 0) w:=⟨0,-1,by omega,rfl,fun _=>rfl,fun j x _ h=>by omega,fun h=>by omega,z8 _ _,rfl⟩;generalize Iw l=n9 at*;go_enter Tryz.func46,Tryz.ntmps46;go_wp2_with fail;go_loopw [7] (fun ti wr=>ZN w l n9 ti wr) (fun ti _=>l.length - (intOf ti).toNat)
 case atStart=>exact Z7
 case round=>
  clear Z7;obtain⟨k,last,hk,rfl,h0,h1,h2,ht,Cp⟩:=hrel;have Hr:=O Cp;clear Cp;by_cases Z:k<l.length
  case neg=>
   have j1: ¬(k:Int)< (l.length:Int):=by omega
   clear h0 h1 h2;go_wp2_with fail;go_ret;exact⟨v9 (by rw[Hr.o,qg9 Z]),ht⟩
  have j1:(k:Int)< (l.length:Int):=by omega
  obtain⟨b,off,rfl,hb⟩:=hv.addr Z;obtain⟨c0,c1⟩:=Q0.at_ (hv.q8 ht) Z;have Pm:b<wr.heap.size:=by have:=ht.size;omega
  have HP:Hid (∀m,k=m+1→wr.cell? ⟨b,off+m*2,none⟩=some (.int .i64 last)):=O (fun m hm=>by
   have:=(Q0.at_ (hv.q8 ht) (k:=m) (by omega)).1
   rw[this,h1 m l[m] (by simp) hm.symm])
  have H0:=O h0;have H2:=O h2
  have N5:Hid (∀j x,l[j]? =some x→j+1=k+1→l[k].a=x.a):=O (fun j x hj WM=>by
   have:j=k:=by omega
   subst this;rw[j6 Z]at hj;cases hj
   rfl)
  clear h0 h1 h2;generalize hxk:l[k]=x at*;have jQ:=O hxk;obtain⟨xa,xb⟩:=x;clear hxk hv;simp only at c0 c1 N5;go_wp2_with fail;refine(K7 xa _).mono ?_;rintro r w' ⟨rfl,rfl⟩;by_cases b1:0≤xa∧xa≤511
  case neg=>
   rw[v8 b1]
   have Hk: -1≤last:=by
    rcases Tu k with h | h
    ·have:=H0.o h;omega
    ·have:=H2.o h;omega
   go_wp2_with fail;go_ret;exact⟨v9 (JA Hr.o Z jQ.o (by omega)).symm,ht.alloc _⟩
  rw[b_ b1];go_wp2_with fail;refine(N4 xb 2 51 _).mono ?_;rintro r w' ⟨rfl,rfl⟩;by_cases b2:2≤xb∧xb≤51
  case neg=>
   rw[v8 b2];go_wp2_with fail;go_ret;exact⟨v9 (JA Hr.o Z jQ.o (by omega)).symm,ht.alloc _⟩
  rw[b_ b2];obtain⟨b1a,b1b⟩:=b1;obtain⟨b2a,b2b⟩:=b2;rcases Tu k with Em | Em
  ·subst Em;have hz:=H0.o rfl;go_wp2_with fail;go_quiet (fail);go_wp2_with fail;go_roundw
   case rel=>exact⟨1,xa,by omega,by go_num,fun h=>by omega,N5.o,fun _=>b1a,(ht.alloc _).drewN _,JS Hr.o Z jQ.o (by omega)⟩
   case measure=>simp[intOf];omega
  ·obtain⟨m,rfl⟩: ∃m,k=m+1:=⟨k - 1,by omega⟩;have cp:=HP.o m rfl;have d0:decide ((0:Int)< ((m+1:Nat):Int))=true:=b_ (by omega);have hz:=H2.o Em;have e1:(((m+1:Nat):Int) - 1)=(m:Int):=by omega
   by_cases b3:xa≤last
   ·have d3:decide (xa≤last)=true:=by simpa using b3
    go_wp2_with fail;go_quiet (fail);go_wp2_with fail;go_ret;exact⟨v9 (JA Hr.o Z jQ.o (by omega)).symm,(ht.alloc _).drewN _⟩
   ·have d3:decide (xa≤last)=false:=by simpa using b3
    go_wp2_with fail;go_quiet (fail);go_wp2_with fail;go_roundw
    case rel=>exact⟨m+1+1,xa,by omega,by go_num,fun h=>by omega,N5.o,fun _=>b1a,(ht.alloc _).drewN _,JS Hr.o Z jQ.o (by omega)⟩
    case measure=>simp[intOf];omega
theorem Sh {bad:α→Prop} [DecidablePred bad] {key:α→Int}: ∀(l:List α) (last:Int),A7 bad key last l=true↔(∀x∈l,¬bad x)∧(∀x,l[0]? =some x→last<key x)∧(∀(j:Nat) x y,l[j]? =some x→l[j+1]? =some y→key x<key y)
 | [],last=>by simp[A7]
 | a::t,last=>by
  unfold A7;by_cases hb:key a≤last∨bad a
  ·rw[x9 hb];refine⟨fun h=>(by cases h),fun⟨h1,h2,h3⟩=> ?_⟩;rcases hb with hb | hb
   ·have:=h2 a rfl;omega
   ·exact absurd hb (h1 a (by simp))
  ·rw[z9 hb,Sh t (key a)];refine⟨fun⟨h1,h2,h3⟩=>⟨fun x hx=> ?_,fun x hx=> ?_,fun j x y hx hy=> ?_⟩,fun⟨h1,h2,h3⟩=>⟨fun x hx=>h1 x (by simp[hx]),fun x hx=>h3 0 a x rfl (by simpa using hx),fun j x y hx hy=>h3 (j+1) x y (by simpa using hx) (by simpa using hy)⟩⟩
   ·rcases m6.1 hx with rfl | hx
    ·exact fun h=>hb (.inr h)
    ·exact h1 x hx
   ·injection hx with hx;subst hx;by_cases h:key a≤last
    ·exact absurd (.inl h) hb
    ·omega
   ·cases j with
    | zero=>
     injection hx with hx;subst hx;exact h2 y (by simpa using hy)
    | succ j=>exact h3 j x y (by simpa using hx) (by simpa using hy)
def RS (l:List Int):Prop:= ∀(j:Nat) x y,l[j]? =some x→l[j+1]? =some y→x<y
noncomputable def Zh (l:List Int):Bool:= @decide (RS l) (Classical.propDecidable _)
theorem E7 {l:List Int}:Zh l=true↔RS l:=by unfold Zh;exact @decide_eq_true_iff _ (Classical.propDecidable _)
theorem zw {l:List Int}(h: ¬RS l):Zh l=false:=by
 cases e:Zh l with
 | false=>rfl
 | true=>exact absurd (E7.1 e) h
def K2 (n:Int):Bool:=decide (0≤n∧n≤511)
theorem Kc (l:List Int):Fa l=(l.all K2&&Zh l):=by
 rw[Jr,p9,E7,Z6];unfold Fa;rw[Sh];constructor
 ·rintro⟨h1,h2,h3⟩
  have yE: ∀(j:Nat) x,l[j]? =some x→0≤x:=by
   intro j
   induction j with
   | zero=>intro x hx;have:=h2 x hx;simp only[id]at this;omega
   | succ j ih=>
    intro y hy;have hj:j<l.length:=by have:=(U4.1 hy).1;omega
    have:=ih l[j] (j6 hj);have:=h3 j l[j] y (j6 hj) hy;simp only[id]at this;omega
  refine⟨fun x hx=> ?_,fun j x y hx hy=>by have:=h3 j x y hx hy;simpa using this⟩;obtain⟨j,hj⟩:=Gk hx;have h4:=yE j x hj;have h5:=h1 x hx;unfold EU at h5;unfold K2;exact b_ (by omega)
 ·rintro⟨h1,h3⟩;refine⟨fun x hx=> ?_,fun x hx=> ?_,fun j x y hx hy=>by have:=h3 j x y hx hy;simpa using this⟩
  ·have:=U9 (h1 x hx);unfold EU;omega
  ·have:=U9 (h1 x (Mk hx));simp only[id];omega
theorem j3 (n:Int)(w:World):Calls Tryz.prog 25 #[.int .i64 n] w fun r w'=>r= .returned (.bool (K2 n))∧w=w':=by
 unfold K2;by_cases h1:0≤n
 ·by_cases h2:n≤511
  ·rw[b_ ⟨h1,h2⟩];go_enter Tryz.func25,Tryz.ntmps25;go_wp2_with fail;go_ret;exact⟨rfl,rfl⟩
  ·rw[v8 (fun h=>h2 h.2)];go_enter Tryz.func25,Tryz.ntmps25;go_wp2_with fail;go_ret;exact⟨rfl,rfl⟩
 ·rw[v8 (fun h=>h1 h.1)];go_enter Tryz.func25,Tryz.ntmps25;go_wp2_with fail;go_ret;exact⟨rfl,rfl⟩
def j7 (a b:Int):Int:=if a<b then -1 else if b<a then 1 else 0
theorem lO (n:Int)(w:World):Calls Tryz.prog 130 #[.int .i64 n] w fun r w'=>r= .returned (.bool false)∧w=w':=by
 go_enter Tryz.func130,Tryz.ntmps130;go_wp2_with fail;go_ret;exact⟨by simp,rfl⟩
theorem Ck (a b:Int)(w:World):Calls Tryz.prog 78 #[.int .i64 a,.int .i64 b] w fun r w'=>r= .returned (.int .i64 (j7 a b))∧w=w':=by
 have HA:=O (lO a w);have HB:=O (lO b w);unfold j7;rcases Int.lt_trichotomy a b with h | h | h
 ·rw[x9 h];go_enter Tryz.func78,Tryz.ntmps78;go_wp2_with fail;refine HA.o.mono ?_;rintro r w1 ⟨rfl,rfl⟩;go_wp2_with fail;refine HB.o.mono ?_;rintro r w2 ⟨rfl,rfl⟩;go_wp2_with fail;go_ret;exact⟨rfl,rfl⟩
 ·subst h;rw[z9 (by omega),z9 (by omega)];go_enter Tryz.func78,Tryz.ntmps78;go_wp2_with fail;refine HA.o.mono ?_;rintro r w1 ⟨rfl,rfl⟩;go_wp2_with fail;refine HB.o.mono ?_;rintro r w2 ⟨rfl,rfl⟩;go_wp2_with fail;go_ret;exact⟨rfl,rfl⟩
 ·have h': ¬a<b:=by omega
  rw[z9 h',x9 h];go_enter Tryz.func78,Tryz.ntmps78;go_wp2_with fail;refine HA.o.mono ?_;rintro r w1 ⟨rfl,rfl⟩;go_wp2_with fail;refine HB.o.mono ?_;rintro r w2 ⟨rfl,rfl⟩;go_wp2_with fail;go_ret;exact⟨rfl,rfl⟩
theorem x8 {P:Program}{f:FuncId}{args:Array Value}{w:World}{n:Nat}{v:Value}
  (h:Calls P f args (w.drewN n) fun e w'=>e= .returned v∧w.drewN n=w'):Calls P f args (w.drewN n) fun e w''=>e= .returned v∧ ∃m,w''=w.drewN m:=
 h.mono fun _ _ ⟨he,hm⟩=>⟨he,n,hm.symm⟩
def KF (w:World)(good:Int→Bool)(l:List Int)(n9:Bool)(ti:Value)(wr:World):Prop:= ∃k:Nat,k≤l.length∧ti= .int .i64 k∧z6 [] w wr∧Hid (n9=(l.drop k).all good)
theorem Eg {good:α→Bool}{l:List α}(hk:k<l.length):(l.drop k).all good=(good l[k]&&(l.drop (k+1)).all good):=by rw[Rd hk,List.all_cons]
theorem fS (F:FuncId)(good:Int→Bool)(v:Value)(l:List Int)(w:World)(hv:e8 w v l)(hF: ∀args W,(callFunc F args).run Tryz.prog W= .ok (.enter F args) W)
  (Nc: ∀W n,z6 [] w W→Calls Tryz.prog F #[.int .i64 n] W fun r w'=>r= .returned (.bool (good n))∧z6 [] W w'):
  Calls Tryz.prog 86 #[v,.func (.func F) #[] #[]] w fun r w'=>r= .returned (.bool (l.all good))∧z6 [] w w':=by
 obtain⟨A,cap,rfl⟩:=hv.form;obtain⟨Ad,Cs⟩:=hv.cap;have Z7:KF w good l (l.all good) (.int .i64 0) w:=⟨0,by omega,rfl,z8 _ _,O rfl⟩;generalize l.all good=n9 at*;have HC:=O Nc;clear Nc;go_enter Tryz.func86,Tryz.ntmps86;go_wp2_with fail;go_loopw [9] (fun ti wr=>KF w good l n9 ti wr) (fun ti _=>l.length - (intOf ti).toNat)
 case atStart=>exact Z7
 case round=>
  clear Z7;obtain⟨k,hk,rfl,ht,HX⟩:=hrel;by_cases Z:k<l.length
  ·have j1:(k:Int)< (l.length:Int):=by omega
   obtain⟨b,off,rfl,hb⟩:=hv.addr Z;obtain c0:=e8.at_ (hv.q8 ht) Z;have N5:Hid (n9=(good l[k]&&(l.drop (k+1)).all good)):=O (HX.o.trans (Eg Z));have Ze:=O (HC.o wr l[k] ht);clear HX hv;generalize l[k]=n at*
   cases hg:good n with
   | false=>
    rw[hg]at Ze N5;have y5:Hid (n9=false):=N5;clear N5 hg;go_wp2_with fail;refine Ze.o.mono ?_;rintro r w2 ⟨rfl,V4⟩;go_wp2_with fail;go_ret;exact⟨v9 (by rw[y5.o]),ht.Y V4⟩
   | true=>
    rw[hg]at Ze N5;have My:Hid (n9=(l.drop (k+1)).all good):=N5;clear N5 hg;go_wp2_with fail;refine Ze.o.mono ?_;rintro r w2 ⟨rfl,V4⟩;go_wp2_with fail;go_roundw
    case rel=>exact⟨k+1,by omega,by go_num,ht.Y V4,My⟩
    case measure=>simp[intOf];omega
  ·have j1: ¬(k:Int)< (l.length:Int):=by omega
   have y5:Hid (n9=true):=O (by rw[HX.o,Hz (by omega)];rfl);clear HX;go_wp2_with fail;go_ret;exact⟨v9 (by rw[y5.o]),ht⟩
def qk6 (w:World)(l:List Int)(ti:Value)(wr:World):Prop:= ∃k:Nat,1≤k∧(k≤l.length∨k=1)∧ti= .int .i64 k∧z6 [] w wr∧Hid (∀(j:Nat) x y,j+1<k→l[j]? =some x→l[j+1]? =some y→x<y)
theorem lP (v:Value)(l:List Int)(w:World)(hv:e8 w v l)(hl:l.length≤100000):
  Calls Tryz.prog 88 #[v,.func (.func 78) #[] #[]] w fun r w'=>r= .returned (.bool (Zh l))∧z6 [] w w':=by
 obtain⟨A,cap,rfl⟩:=hv.form;obtain⟨Ad,Cs⟩:=hv.cap;have hF: ∀args W,(callFunc 78 args).run Tryz.prog W= .ok (.enter 78 args) W:=fun _ _=>by kernel_rfl
 have HT:=O (fun h=>(E7 (l:=l)).2 h);have HN:=O (fun h=>(zw (l:=l)) h);generalize Zh l=n9 at*;go_enter Tryz.func88,Tryz.ntmps88;go_wp2_with fail;go_loopw [5] (fun ti wr=>qk6 w l ti wr) (fun ti _=>l.length - (intOf ti).toNat)
 case atStart=>exact⟨1,by omega,.inr rfl,rfl,z8 _ _,O (fun j x y h=>by omega)⟩
 case round=>
  obtain⟨k,Ku,V9,rfl,ht,HX⟩:=hrel;by_cases Z:k<l.length
  ·have j1:(k:Int)< (l.length:Int):=by omega
   obtain⟨m,rfl⟩: ∃m,k=m+1:=⟨k - 1,by omega⟩;have Kt:m<l.length:=by omega
   have Q7:(m:Int)+1< (l.length:Int):=by omega
   have Dw:(m:Int)< (l.length:Int):=by omega
   have nE:(0:Int)≤(m:Int)+1:=by omega
   obtain⟨b,off,rfl,hb⟩:=hv.addr Z;have c0:=e8.at_ (hv.q8 ht) Z;have c1:=e8.at_ (hv.q8 ht) Kt
   have W7:Hid (l[m]<l[m+1]→ ∀(j:Nat) x y,j+1<m+1+1→l[j]? =some x→l[j+1]? =some y→x<y):=O (fun h j x y hj hx hy=>by
    by_cases h2:j+1<m+1
    ·exact HX.o j x y h2 hx hy
    ·obtain rfl:j=m:=by omega
     rw[j6 Kt]at hx;rw[j6 Z]at hy;injection hx with hx;injection hy with hy;rw[←hx,←hy]
     exact h)
   have E4:Hid (¬l[m]<l[m+1]→n9=false):=O (fun h=>HN.o (fun hi=>h (hi m _ _ (j6 Kt) (j6 Z))));have Vw:=O (fun W=>Ck l[m] l[m+1] W);clear HX hv HN HT;generalize l[m]=x at*;generalize l[m+1]=y at*;have tj:IntKind.i64.wrap (m:Int)=(m:Int):=IntWalk.i64_in _ (by omega);unfold j7 at Vw;by_cases Sv:x<y
   ·simp only[x9 Sv]at Vw;have Mv:=O (W7.o Sv);clear W7 E4 Sv;go_wp2_with fail;go_quiet ((first | (go_at_call 78;exact x8 (Vw.o _))));go_wp2_with fail;go_roundw
    case rel=>exact⟨m+1+1,by omega,by omega,by go_num,ht.drewN _,Mv⟩
    case measure=>simp[intOf];omega
   ·have y5:=O (E4.o Sv);by_cases hyx:y<x
    ·simp only[z9 Sv,x9 hyx]at Vw;clear W7 E4 Sv hyx;go_wp2_with fail;go_quiet ((first | (go_at_call 78;exact x8 (Vw.o _))));go_wp2_with fail;go_ret;exact⟨v9 (by rw[y5.o]),ht.drewN _⟩
    ·simp only[z9 Sv,z9 hyx]at Vw;clear W7 E4 Sv hyx;go_wp2_with fail;go_quiet ((first | (go_at_call 78;exact x8 (Vw.o _))));go_wp2_with fail;go_ret;exact⟨v9 (by rw[y5.o]),ht.drewN _⟩
  ·have j1: ¬(k:Int)< (l.length:Int):=by omega
   have y5:Hid (n9=true):=O (HT.o (fun j x y hx hy=>HX.o j x y (by have:=(U4.1 hy).1;omega) hx hy));clear HX HT HN;go_wp2_with fail;go_ret;exact⟨v9 (by rw[y5.o]),ht⟩
theorem P6 (v:Value)(l:List Int)(w:World)(hv:e8 w v l)(hl:l.length≤100000):Calls Tryz.prog 42 #[v] w fun r w'=>r= .returned (.bool (Fa l))∧z6 [] w w':=by
 have HE:=O (fS 87 K2 v l w hv (fun _ _=>by kernel_rfl) (fun W n _=>(K7 n W).mono (fun r w' ⟨h1,h2⟩=>⟨h1,by subst h2;exact z8 _ _⟩)));have HI:=p7 (fun W t=>lP v l W (hv.q8 t) hl);have HS:=O (Kc l);obtain⟨A,cap,rfl⟩:=hv.form;generalize Fa l=n9 at*;clear hv
 cases he:l.all K2 with
 | false=>
  rw[he]at HE HS;have y5:Hid (n9=false):=HS;clear HS HI he;go_enter Tryz.func42,Tryz.ntmps42;go_wp2_with fail;refine HE.o.mono ?_;rintro r w1 ⟨rfl,gU⟩;go_wp2_with fail;go_ret;exact⟨v9 (by rw[y5.o]),gU⟩
 | true=>
  rw[he]at HE HS;have y5:Hid (n9=Zh l):=HS;clear HS he;generalize Zh l=q at*;go_enter Tryz.func42,Tryz.ntmps42;go_wp2_with fail;refine HE.o.mono ?_;rintro r w1 ⟨rfl,gU⟩;go_wp2_with fail;refine(HI.o w1 gU).mono ?_;rintro r w2 ⟨rfl,V4⟩;go_wp2_with fail;go_ret;exact⟨v9 (by rw[y5.o]),gU.Y V4⟩
end Go.Proofs.YtlhlmcohdkkjpaaGreatDoor
