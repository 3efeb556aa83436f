/- Sets of numbers from 0 to 511 as eight words (package bitset): Has. -/
import Derived.Test.YtlhlmcohdkkjpaaGreatDoorZA
import Derived.Lib.TrailingZeros
import Derived.RangeFuncNested
import Derived.RangeFuncBound
import Derived.Shelf.Abstract
import Derived.OwnWalkIn
import Derived.TacticsInMore
import Derived.LoopNIn
import Derived.LoopIn
set_option linter.all false
set_option maxHeartbeats 4000000
set_option maxRecDepth 100000
namespace Go.Proofs.YtlhlmcohdkkjpaaGreatDoor
open Go.RowKit
def y6 (x:Nat):Value:= .int .u64 x
def T5 (ws:List Nat):Value:= .agg (ws.map y6).toArray
structure Wf (ws:List Nat):Prop where
 len:ws.length=8
 lt: ∀x∈ws,x<18446744073709551616
def Z1 (ws:List Nat)(n:Int):Bool:=decide (0≤n∧n<512)&&(ws.getD (n.toNat / 64) 0).testBit (n.toNat % 64)
theorem O8 (n:Nat)(h:n<64):IntKind.u64.wrap (2^n)=((2^n:Nat):Int):=by
 have h2:2^n<2^64:=dL (by omega) h;have e:((2:Int)^n)=((2^n:Nat):Int):=by simp
 rw[e,IntKind.wrap_u64];generalize 2^n=m at*;simp only[show(2:Nat)^64=18446744073709551616 from rfl]at h2;omega
theorem aS (x n:Nat)(hx:x<18446744073709551616):bits .and .u64 ((x:Int) / 2^n) 1=if x.testBit n then 1 else 0:=by
 have e:((x:Int) / 2^n)=((x / 2^n:Nat):Int):=by simp
 have h1:x / 2^n≤x:=Nat.div_le_self _ _;have h2:=u64_and_nat (x / 2^n) 1 (by omega) (by omega);rw[e];refine h2.trans ?_;rw[Nat.testBit_eq_decide_div_mod_eq,Nat.and_one_is_mod];by_cases h:x / 2^n % 2=1
 ·simp[h]
 ·have:x / 2^n % 2=0:=by omega
  simp[this]
theorem Pa (n:Int)(w:World):Calls Tryz.prog 49 #[.int .i64 n] w fun r w'=>r= .returned (.bool (decide (0≤n∧n<512)))∧w=w':=by
 by_cases h1:0≤n
 ·by_cases h2:n<512
  ·rw[b_ ⟨h1,h2⟩];go_enter Tryz.func49,Tryz.ntmps49;go_wp2_with fail;go_ret;exact⟨rfl,rfl⟩
  ·rw[v8 (fun h=>h2 h.2)];go_enter Tryz.func49,Tryz.ntmps49;go_wp2_with fail;go_ret;exact⟨rfl,rfl⟩
 ·rw[v8 (fun h=>h1 h.1)];go_enter Tryz.func49,Tryz.ntmps49;go_wp2_with fail;go_ret;exact⟨rfl,rfl⟩
theorem Ee (ws:List Nat)(hw:Wf ws)(n:Int)(w:World):Calls Tryz.prog 44 #[T5 ws,.int .i64 n] w fun r w'=>r= .returned (.bool (Z1 ws n))∧z6 [] w w':=by
 have HI:=O (fun W=>Pa n W);have ht:=(z8 [] w).alloc (.cells (ws.map y6).toArray 69);unfold Z1 T5;by_cases hn:0≤n∧n<512
 ·rw[b_ hn]at HI⊢;obtain⟨k,rfl⟩:=K5 hn.1;have hk:k<512:=by omega
  have hi:k / 64<ws.length:=by rw[hw.len];omega
  have hc:(ws.map y6).toArray[k / 64]? =some (.int .u64 (ws[k / 64]:Nat)):=by simp[j6 hi,y6]
  have hx:=hw.lt _ (k8 hi);have hd:ws.getD (k / 64) 0=ws[k / 64]:=by simp[List.getD,j6 hi]
  have hb:=aS ws[k / 64] (k % 64) hx;rw[Z4,X4,hd];generalize (ws.map y6).toArray=cs at*;generalize ws[k / 64]=x at*;clear hw hd hi;go_enter Tryz.func44,Tryz.ntmps44;go_wp2_with fail;refine(HI.o _).mono ?_;rintro r w1 ⟨rfl,rfl⟩;go_wp2_with fail
  all_goals (go_ret;exact⟨rfl,ht⟩)
 ·rw[v8 hn]at HI⊢;generalize (ws.map y6).toArray=cs at*;go_enter Tryz.func44,Tryz.ntmps44;go_wp2_with fail;refine(HI.o _).mono ?_;rintro r w1 ⟨rfl,rfl⟩;go_wp2_with fail;go_ret;exact⟨rfl,ht⟩
variable{a:Act}{ops:Array Oper}{cs:Array Value}{Q:Exit→Act→World→Prop}{l:List Int}{ws b L:List Nat}{xs:List Value}{i k g n r base size B:Nat}{o:Oper}{x:Operand}{t e:TypeId}{u v:Value}{w w' W:World}
theorem Fq {l:List Nat}(h:i<l.length):l.getD i 0=l[i]:=by simp[List.getD,j6 h]
def Dy (ws:List Nat)(k:Nat):List Nat:=ws.set (k / 64) (ws.getD (k / 64) 0 ||| 2^(k % 64))
theorem Lp (h:Wf ws)(hk:k<512):Wf (Dy ws k):=by
 have hi:k / 64<ws.length:=by rw[h.len];omega
 refine⟨by simp[Dy,h.len],fun x hx=> ?_⟩;rcases List.mem_or_eq_of_mem_set hx with hx | rfl
 ·exact h.lt x hx
 ·have h1:=h.lt _ (k8 hi);have h2:2^(k % 64)<2^64:=dL (by omega) (by omega);rw[Bz,j6 hi];exact Nat.or_lt_two_pow h1 h2
theorem vJ (h:Wf ws)(hk:k<512)(n:Int):Z1 (Dy ws k) n=(decide (n=(k:Int)) || Z1 ws n):=by
 unfold Z1;by_cases hn:0≤n∧n<512
 ·obtain⟨m,rfl⟩:=K5 hn.1;rw[b_ hn,Z4,Z4,X4];have hi:k / 64<ws.length:=by rw[h.len];omega
  have hm:m / 64<ws.length:=by rw[h.len];omega
  by_cases he:m / 64=k / 64
  ·have e1:(Dy ws k).getD (m / 64) 0=ws.getD (k / 64) 0 ||| 2^(k % 64):=by
    unfold Dy;rw[he,Fq (by simpa using hi)];simp
   rw[e1,he,Og,Gu,Bool.or_comm]
   congr 1
   rw[decide_eq_decide];omega
  ·have e1:(Dy ws k).getD (m / 64) 0=ws.getD (m / 64) 0:=by
    unfold Dy;rw[Fq (by simpa using hm),Fq hm];simp[W5 he]
   have e2:decide ((m:Int)=(k:Int))=false:=v8 (by omega);rw[e1,e2,Yl]
 ·rw[v8 hn,B6,B6,v8 (by omega)];rfl
theorem fY (ws:List Nat)(k:Nat):((Dy ws k).map y6).toArray=(ws.map y6).toArray.setIfInBounds (k / 64) (y6 (ws.getD (k / 64) 0 ||| 2^(k % 64))):=by
 unfold Dy;simp[List.map_set]
theorem U5 {rest:List Oper}(hb:j4 w g 69 cs)(hs:cs.size=8)
  (h:wpList Tryz.prog ops Q rest (a.put o.dst (.agg cs)) w) (Cn:o.guard=none:=by rfl) (ho:o.op= .load 69 x:=by rfl) (hx:a.eval x= .pointer (some ⟨g,0,none⟩):=by rfl):wpList Tryz.prog ops Q (o::rest) a w:=
 wpList_load_row Cn 69 x ho g hx 69 cs (0,0) _ hb Tryz.underlying69 rfl (by rw[hs];kernel_rfl) h
theorem Hd (hb:j4 w g t cs)(cs':Array Value):j4 (w.setRow g cs') g t cs'∧z6 [g] w (w.setRow g cs'):=by
 have Z:=hb.lt;unfold j4 at hb;refine⟨?_,⟨rfl,rfl,rfl,by simp[World.setRow],fun k hk hn=> ?_⟩⟩
 ·simp[j4,World.setRow,Array.getElem?_modify,hb]
 ·simp at hn;simp[World.setRow,Array.getElem?_modify,W5 hn]
theorem D0 {rest:List Oper}{y:Operand}{cs':Array Value}(hb:j4 w g 69 cs)(hs:cs.size=8)(CG:cs'.size=8)(h1:cs'.all (·.oneCell')=true)
  (h: ∀w',j4 w' g 69 cs'→z6 [g] w w'→wpList Tryz.prog ops Q rest (a.put o.dst undef) w') (Cn:o.guard=none:=by rfl) (ho:o.op= .store 69 x y:=by rfl) (hx:a.eval x= .pointer (some ⟨g,0,none⟩):=by rfl) (hy:a.eval y= .agg cs':=by rfl):wpList Tryz.prog ops Q (o::rest) a w:=by
 have hk:=Hd hb cs';exact wpList_plain Cn fun _ hK=>wp_store_row 69 x y ho g _ hx hy 69 cs hb (by rw[CG];kernel_rfl) (by rw[hs,CG]) h1 (hK _ _ (h _ hk.1 hk.2))
theorem m8 (h:Wf ws):(ws.map y6).toArray.size=8:=by simp[h.len]
theorem V7 (ws:List Nat):(ws.map y6).toArray.all (·.oneCell')=true:=by simp[y6,Value.oneCell']
theorem je {fn:Func}{p q:Tmp}{tmps:Array Value}(hb:j4 w g 69 cs)(hs:cs.size=8)(h:fn.results=#[.cell p 69,.tmp q])(hp:tmps.getD p undef= .pointer (some ⟨g,0,none⟩))(hq:tmps.getD q undef=u):(results fn tmps).run Tryz.prog w= .ok (.tuple #[.agg cs,u]) w:=by
 have j_:tmps[p]?.getD undef= .pointer (some ⟨g,0,none⟩):=by simpa using hp
 have hq':tmps[q]?.getD undef=u:=by simpa using hq
 have hl:=run_loadVar_row (P:=Tryz.prog) w g 69 69 cs (0,0) _ hb Tryz.underlying69 rfl (by rw[hs];kernel_rfl);simp[results,h,j_,hq',asAddr,hl,Result.andThen]
theorem Nx (x n:Nat)(hx:x<18446744073709551616)(hn:n<64):bits .or .u64 (x:Int) (2^n)=((x ||| 2^n:Nat):Int):=by
 have h2:2^n<2^64:=dL (by omega) hn;have e:((2:Int)^n)=((2^n:Nat):Int):=by simp
 rw[e];exact u64_or_nat x (2^n) hx h2
theorem KT (ws:List Nat)(hw:Wf ws)(k:Nat)(hk:k<512)(w:World):Calls Tryz.prog 183 #[T5 ws,.int .i64 k] w fun r w'=>r= .returned (.tuple #[T5 (Dy ws k),.int .i64 0])∧z6 [] w w':=by
 have HI:=O (fun W=>Pa k W);rw[b_ (by omega)]at HI;have ht:=(z8 [] w).alloc (.cells (ws.map y6).toArray 69);unfold T5;have hi:k / 64<ws.length:=by rw[hw.len];omega
 have hc:(ws.map y6).toArray[k / 64]? =some (.int .u64 (ws[k / 64]:Nat)):=by simp[j6 hi,y6]
 have hx:=hw.lt _ (k8 hi);have hd:ws.getD (k / 64) 0=ws[k / 64]:=by simp[List.getD,j6 hi]
 have hb:=Nx ws[k / 64] (k % 64) hx (by omega);have hsh:=O8 (k % 64) (by omega);have HE:=O (fY ws k);rw[hd]at HE;have Gb:(ws.map y6).toArray.size=8:=by simp[hw.len]
 have FI:=m8 (Lp hw hk);have I6:=V7 (Dy ws k);generalize ((Dy ws k).map y6).toArray=cs' at*;generalize (ws.map y6).toArray=cs at*;generalize ws[k / 64]=x at*;clear hw hd hi;go_enter Tryz.func183,Tryz.ntmps183;go_wp2_with fail;refine(HI.o _).mono ?_;rintro r w1 ⟨rfl,rfl⟩;go_wp2_with fail;have b0:=(j4.new w 69 cs).alloc (.cells (([0,0,0,0,0,0,0,0].map y6).toArray) 69);have b1:=j4.new (w.alloc (.cells cs 69)) 69 (([0,0,0,0,0,0,0,0].map y6).toArray);have V4:=ht.alloc (.cells (([0,0,0,0,0,0,0,0].map y6).toArray) 69);simp only[World.size_alloc]at b1;have mu:w.heap.size≠w.heap.size+1:=by omega
 have Z:=mu;simp only[y6,List.map]at b0 b1 V4;generalize aY:((w.alloc (.cells cs 69)).alloc _)=w2 at b0 b1 V4⊢;have Bo:w.heap.size≤w.heap.size:=a9 _;generalize gQ:w.heap.size=g at b0 b1 mu Bo Z⊢;have c0:=(b0.cell (k / 64)).trans hc;have f0:=b0.frozen (k / 64);go_region
 have b2:j4 (w2.setCell ⟨g,k / 64,none⟩ (.int .u64 ((x ||| 2^(k % 64):Nat):Int))).drew g 69 cs':=by
  rw[HE.o];exact(b0.V8 _ _).drew
 have b3:=(b1.rD (p:=⟨g,k / 64,none⟩) mu.symm (.int .u64 ((x ||| 2^(k % 64):Nat):Int))).drew;have Rk:=(V4.setCell (p:=⟨g,k / 64,none⟩) (.inr (by rw[gQ];exact a9 _)) (.int .u64 ((x ||| 2^(k % 64):Nat):Int))).drew;generalize (w2.setCell ⟨g,k / 64,none⟩ (.int .u64 ((x ||| 2^(k % 64):Nat):Int))).drew=w3 at*;clear b0 b1 V4 c0 f0 aY ht;go_wp2_with (first | (refine U5 b2 FI ?_) | (refine D0 b3 rfl FI I6 ?_;intro w4 b4 gO));exact bodyPost_ret (je b4 FI rfl rfl rfl) rfl ⟨rfl,Rk.step gO (fun m hm=> .inr (by rw[y7]at hm;omega))⟩
def l8:List Nat:= [0,0,0,0,0,0,0,0]
theorem L5:Wf l8:=⟨rfl,by simp[l8]⟩
theorem De (n:Int):Z1 l8 n=false:=by
 unfold Z1
 have:l8.getD (n.toNat / 64) 0=0:=by
  unfold l8
  match n.toNat / 64 with
  | 0 | 1 | 2 | 3 | 4 | 5 | 6 | 7=>rfl
  | m+8=>rfl
 rw[this];simp
def D9 (l:List Int):List Nat:=l.foldl (fun ws n=>Dy ws n.toNat) l8
def Jb (n:Int):Prop:=0≤n∧n<512
theorem IP: ∀(l:List Int) (ws:List Nat),Wf ws→(∀x∈l,Jb x)→Wf (l.foldl (fun ws n=>Dy ws n.toNat) ws)∧ ∀n,Z1 (l.foldl (fun ws n=>Dy ws n.toNat) ws) n=(l.contains n || Z1 ws n)
 | [],ws,h,_=>⟨h,fun n=>by simp⟩
 | x::t,ws,h,hr=>by
  obtain⟨h1,h2⟩:=hr x (by simp);obtain⟨k,rfl⟩:=K5 h1;have hk:k<512:=by omega
  obtain⟨q1,q2⟩:=IP t (Dy ws k) (Lp h hk) (fun y hy=>hr y (by simp[hy]));refine⟨q1,fun n=> ?_⟩;rw[tD];refine(q2 n).trans ?_;rw[vJ h hk,List.contains_cons,←Bool.or_assoc]
  congr 1
  rw[Bool.or_comm]
  congr 1
theorem Ca (h: ∀x∈l,Jb x):Wf (D9 l):=(IP l l8 L5 h).1
theorem Y4 (h: ∀x∈l,Jb x)(n:Int):Z1 (D9 l) n=l.contains n:=by
 refine((IP l l8 L5 h).2 n).trans ?_;rw[De,Bool.or_false]
theorem LU (hk:k<l.length):D9 (l.take (k+1))=Dy (D9 (l.take k)) l[k].toNat:=by
 unfold D9;rw[Cw hk,kJ];rfl
def ZB (w0:World)(g:Nat)(l:List Int)(ti:Value)(wr:World):Prop:= ∃k:Nat,k≤l.length∧ti= .int .i64 (k:Int)∧z6 [] w0 wr∧j4 wr (g+1) 69 (((D9 (l.take k)).map y6).toArray)∧j4 wr g 69 ((l8.map y6).toArray)
theorem Li (v:Value)(l:List Int)(w:World)(hv:e8 w v l)(hr: ∀x∈l,Jb x):Calls Tryz.prog 22 #[v] w fun r w'=>r= .returned (.tuple #[T5 (D9 l),.int .i64 0])∧z6 [] w w':=by
 obtain⟨A,cap,rfl⟩:=hv.form;obtain⟨Ad,Cs⟩:=hv.cap;have m9:=O (fun W (t:z6 [] w W)=>hv.q8 t);have HR:=O hr;have HW:=O (fun k=>Ca (l:=l.take k) (fun x hx=>hr x (Qz hx)));clear hv hr;unfold T5;go_enter Tryz.func22,Tryz.ntmps22;go_wp2_with fail;have b0:=(j4.new w 69 ((l8.map y6).toArray)).alloc (.cells ((l8.map y6).toArray) 69);have b1:=j4.new (w.alloc (.cells ((l8.map y6).toArray) 69)) 69 ((l8.map y6).toArray);have V4:z6 [] w ((w.alloc (.cells ((l8.map y6).toArray) 69)).alloc (.cells ((l8.map y6).toArray) 69)):=((z8 [] w).alloc _).alloc _;simp only[World.size_alloc]at b1;change j4 ((w.alloc (.cells _ 69)).alloc (.cells _ 69)) _ _ _ at b0 b1;have Z7:ZB w w.heap.size l (.int .i64 0) ((w.alloc (.cells ((l8.map y6).toArray) 69)).alloc (.cells ((l8.map y6).toArray) 69)):=⟨0,by omega,rfl,V4,b1,b0⟩;clear b0 b1 V4;simp only[y6,List.map,l8]at Z7;generalize El:((w.alloc _).alloc _)=w0 at Z7⊢;clear El;go_loopw [9] (fun ti wr=>ZB w w.heap.size l ti wr) (fun ti _=>l.length - (intOf ti).toNat)
 case atStart=>exact Z7
 case round=>
  clear Z7;obtain⟨k,hk,rfl,ht,b1,b0⟩:=hrel;have gQ: ∃g,g=w.heap.size:=⟨_,rfl⟩;obtain⟨g,gQ⟩:=gQ;rw[←gQ]at b1 b0⊢;have HG:=O gQ;clear gQ;by_cases Z:k<l.length
  ·have j1:(k:Int)< (l.length:Int):=by omega
   have hv:=m9.o wr ht;obtain⟨b,off,rfl,hb⟩:=hv.addr Z;have c0:=e8.at_ hv Z;obtain⟨r1,r2⟩:=HR.o l[k] (k8 Z);have HS:=O (LU Z);have CF:=HW.o k;clear hv;generalize qm9:D9 (l.take (k+1))=qT at HS;have HWS:=O qm9;clear qm9;generalize D9 (l.take k)=ws at*;generalize l[k]=n at*;obtain⟨m,rfl⟩:=K5 r1;have hm:m<512:=by omega
   have HI:=O (fun W=>Pa m W);rw[b_ (by omega)]at HI;have hi:m / 64<ws.length:=by rw[CF.len];omega
   have hc:(ws.map y6).toArray[m / 64]? =some (.int .u64 (ws[m / 64]:Nat)):=by simp[j6 hi,y6]
   have hx:=CF.lt _ (k8 hi);have hd:=Fq hi;have hbb:=Nx ws[m / 64] (m % 64) hx (by omega);have hsh:=O8 (m % 64) (by omega);have HE:=O (fY ws m);rw[hd]at HE;have e1:qT=Dy ws m:=HS.o;rw[←e1]at HE;have k0:=(b1.cell (m / 64)).trans hc;have k1:=b1.frozen (m / 64);have D7:=O b0;have Ag:=O b1;have HT:=O ht;clear CF HS e1 hd b0 b1 ht;generalize FI:(qT.map y6).toArray=cs' at*;generalize (ws.map y6).toArray=cs at*;generalize ws[m / 64]=x at*;clear hi;go_wp2_with fail;refine(HI.o _).mono ?_;rintro r w1 ⟨rfl,rfl⟩;go_wp2_with fail;go_region;go_wp2_with fail;go_roundw
   case rel=>
    refine⟨k+1,by omega,by go_num,?_,?_,?_⟩
    ·exact(HT.o.setCell (p:=⟨g+1,m / 64,none⟩) (.inr (by have:=HG.o;show w.heap.size≤g+1;omega)) _).drew
    ·rw[HWS.o,FI,HE.o];exact(Ag.o.V8 _ _).drew
    ·exact(D7.o.rD (p:=⟨g+1,m / 64,none⟩) (by show g≠g+1;omega) _).drew
   case measure=>simp[intOf];omega
  ·have j1: ¬(k:Int)< (l.length:Int):=by omega
   have I1:l.take k=l:=N2 (by omega);rw[I1]at b1;have CF:=HW.o k;rw[I1]at CF;have bA:=m8 CF;have I6:=V7 (D9 l);generalize Gb:((D9 l).map y6).toArray=cs at b1 bA I6;have HCS:=O Gb;clear Gb;have HT:=O ht;clear ht;go_wp2_with (first | (refine U5 b1 bA ?_) | (refine D0 b0 rfl bA I6 ?_;intro w4 b4 gO));exact bodyPost_ret (je b4 bA rfl rfl rfl) rfl ⟨by rw[←HCS.o];rfl,HT.o.step gO (fun m hm=> .inr (by rw[y7]at hm;have:=HG.o;omega))⟩
def Ta (a b:List Nat):Bool:=(List.range 512).all (fun i=> !Z1 a (i:Int) || Z1 b (i:Int))
theorem Ju {a:List Nat}:Ta a b=true↔ ∀n,Z1 a n=true→Z1 b n=true:=by
 unfold Ta;rw[Z6];constructor
 ·intro h n hn
  have h1:0≤n∧n<512:=by
   unfold Z1 at hn;rw[p9]at hn;exact U9 hn.1
  obtain⟨k,rfl⟩:=K5 h1.1;have:=h k (by rw[Gj];omega);rw[hn]at this;simpa using this
 ·intro h i hi
  cases hm:Z1 a (i:Int)with
  | false=>rfl
  | true=>rw[h _ hm];rfl
theorem wO (x y:Nat)(hx:x<18446744073709551616)(hy:y<18446744073709551616):(bits .andNot .u64 (x:Int) (y:Int)=0)↔ ∀i,i<64→x.testBit i=true→y.testBit i=true:=by
 rw[u64_andNot_nat x y hx hy];have e:(18446744073709551615 - y)=2^64 - (y+1):=by omega
 constructor
 ·intro h i hi hxi;have h0:x&&&(18446744073709551615 - y)=0:=by omega
  have h1:=congrArg (fun z=>z.testBit i) h0;simp only[Le,Ew,hxi,Z4]at h1;rw[e,dK hy]at h1;simpa[hi]using h1
 ·intro h
  have h0:x&&&(18446744073709551615 - y)=0:=by
   apply sX;intro i;rw[Le,Ew,e,dK hy];by_cases hi:i<64
   ·cases hxi:x.testBit i with
    | false=>rfl
    | true=>rw[h i hi hxi];simp
   ·simp[hi]
  rw[h0];rfl
theorem zY {a:List Nat}(ha:Wf a)(hb:Wf b)(h: ∀k (h1:k<a.length) (h2:k<b.length) i,i<64→a[k].testBit i=true→b[k].testBit i=true):Ta a b=true:=by
 rw[Ju];intro n hn;unfold Z1 at hn⊢;rw[p9]at hn⊢;have h1:=U9 hn.1;have q1:n.toNat / 64<a.length:=by rw[ha.len];omega
 have q2:n.toNat / 64<b.length:=by rw[hb.len];omega
 have h2:=hn.2;rw[Fq q1]at h2;refine⟨hn.1,?_⟩;rw[Fq q2];exact h _ q1 q2 _ (by omega) h2
theorem RZ {a:List Nat}(ha:Wf a)(hb:Wf b)(h1:k<a.length)(h2:k<b.length)(h: ¬ ∀i,i<64→a[k].testBit i=true→b[k].testBit i=true):Ta a b=false:=by
 cases e:Ta a b with
 | false=>rfl
 | true=>
  refine absurd (fun i hi hx=> ?_) h;have hk8:k<8:=by rw[←ha.len];exact h1
  have hq:=Ju.1 e ((64*k+i:Nat):Int);unfold Z1 at hq;have e1:(64*k+i) / 64=k:=by omega
  have e2:(64*k+i) % 64=i:=by omega
  rw[b_ (by omega),Z4,Z4,X4,e1,e2,Fq h1,Fq h2]at hq;exact hq hx
theorem fB {ca:Array Value}{x:Value}(hk:k<8)(hc:ca[k]? =some x)(w:World):(Instr.index 67 (.agg ca) (.int .i64 (k:Int))).run Tryz.prog w= .ok x w:=by
 have h0:(0:Int)≤(k:Int)∧(k:Int)< ((8:Nat):Int):=by omega
 have hz:(sizeOf 66).run Tryz.prog w= .ok 1 w:=by simp[go_sem]
 have ha:(isAgg 66).run Tryz.prog w= .ok false w:=by simp[go_sem]
 simp only[Instr.index,asIntOf,Sem.run_bind,Sem.run_pure,Result.andThen_ok,run_underlying Tryz.underlying67,x9 h0,hz,part,ha,hc,X4,Sc];simp[hc]
def qk0 (w0:World)(a b:List Nat)(ti:Value)(wr:World):Prop:= ∃k:Nat,k≤8∧ti= .int .i64 (k:Int)∧z6 [] w0 wr∧Hid (∀j (h1:j<a.length) (h2:j<b.length),j<k→ ∀i,i<64→a[j].testBit i=true→b[j].testBit i=true)
theorem Ok (a b:List Nat)(ha:Wf a)(hb:Wf b)(w:World):Calls Tryz.prog 23 #[T5 a,T5 b] w fun r w'=>r= .returned (.bool (Ta a b))∧z6 [] w w':=by
 unfold T5;have b0:=(j4.new w 69 ((a.map y6).toArray)).alloc (.cells ((b.map y6).toArray) 69);have b1:=j4.new (w.alloc (.cells ((a.map y6).toArray) 69)) 69 ((b.map y6).toArray);have V4:z6 [] w ((w.alloc (.cells ((a.map y6).toArray) 69)).alloc (.cells ((b.map y6).toArray) 69)):=((z8 [] w).alloc _).alloc _;simp only[World.size_alloc]at b1;have T4:=O (fun k h1 h2 h=>RZ ha hb (k:=k) h1 h2 h);have qd8:=O (fun h=>zY ha hb h);have DG:Hid (∀k (h:k<a.length),(a.map y6).toArray[k]? =some (.int .u64 ((a[k]:Nat):Int))∧a[k]<18446744073709551616):=O (fun k h=>⟨by simp[j6 h,y6],ha.lt _ (k8 h)⟩);have HCB:Hid (∀k (h:k<b.length),(b.map y6).toArray[k]? =some (.int .u64 ((b[k]:Nat):Int))∧b[k]<18446744073709551616):=O (fun k h=>⟨by simp[j6 h,y6],hb.lt _ (k8 h)⟩);have hla:=ha.len;have hlb:=hb.len;have hs:=m8 ha;clear ha hb;generalize Ta a b=n9 at*;generalize (a.map y6).toArray=ca at*;generalize (b.map y6).toArray=cb at*;have HS:=O hs;have H1:=O b1;have HT:=O V4;go_enter Tryz.func23,Tryz.ntmps23;go_wp2_with (refine wpList_load_row rfl 67 _ rfl w.heap.size rfl 69 ca (0,0) _ b0 Tryz.underlying67 rfl (by rw[HS.o];kernel_rfl) ?_);clear b0 b1 V4 hs;generalize w.heap.size=g at*;generalize El:((w.alloc _).alloc _)=w0 at H1 HT⊢;clear El;go_loopw [9] (fun ti wr=>qk0 w0 a b ti wr) (fun ti _=>8 - (intOf ti).toNat)
 case atStart=>exact⟨0,by omega,rfl,z8 _ _,O (fun j _ _ h=>by omega)⟩
 case round=>
  obtain⟨k,hk,rfl,ht,HX⟩:=hrel;by_cases Z:k<8
  ·have j1:(k:Int)<8:=by omega
   have hka:k<a.length:=by omega
   have vu:k<b.length:=by omega
   obtain⟨ca0,ra⟩:=DG.o k hka;obtain⟨cb0,rb⟩:=HCB.o k vu;have c0:=((H1.o.z7 ht (by simp)).cell k).trans cb0;have RK:=wO a[k] b[k] ra rb;have qe5:=O (T4.o k hka vu)
   have My:Hid ((∀i,i<64→a[k].testBit i=true→b[k].testBit i=true)→ ∀j (h1:j<a.length) (h2:j<b.length),j<k+1→ ∀i,i<64→a[j].testBit i=true→b[j].testBit i=true):=O (fun h j h1 h2 hj=>by
    by_cases h3:j<k
    ·exact HX.o j h1 h2 h3
    ·obtain rfl:j=k:=by omega
     exact h)
   have hix:=fB Z ca0;clear cb0 HX T4 qd8;by_cases hz:bits .andNot .u64 (a[k]:Int) (b[k]:Int)=0
   ·have K_:=O (My.o (RK.1 hz));clear My qe5 RK;generalize a[k]=x at*;generalize b[k]=y at*;go_wp2_with fail;go_roundw
    case rel=>exact⟨k+1,by omega,by go_num,ht,K_⟩
    case measure=>simp[intOf];omega
   ·have y5:=O (qe5.o (fun h=>hz (RK.2 h)));have Vp:(bits .andNot .u64 (a[k]:Int) (b[k]:Int) !=0)=true:=by simpa using hz
    clear My qe5 RK;generalize a[k]=x at*;generalize b[k]=y at*;go_wp2_with fail;go_ret;exact⟨v9 (by rw[y5.o]),HT.o.Y ht⟩
  ·have j1: ¬(k:Int)<8:=by omega
   have y5:=O (qd8.o (fun j h1 h2=>HX.o j h1 h2 (by omega)));clear HX T4 qd8;go_wp2_with fail;go_ret;exact⟨v9 (by rw[y5.o]),HT.o.Y ht⟩
theorem Uy {x:Nat}(h0:x≠0)(h:x<18446744073709551616):Lib.ctz 64 x<64∧x.testBit (Lib.ctz 64 x)=true∧ ∀j,j<Lib.ctz 64 x→x.testBit j=false:=by
 have e:Lib.ctz 64 x=Lib.ctzFrom 64 x:=by simp[Lib.ctz,h0]
 obtain⟨m,hm,hk⟩:=Lib.ctzFrom_spec 64 x (by omega) h;rw[e];generalize Lib.ctzFrom 64 x=c at*;subst hm;refine⟨hk,?_,fun j hj=> ?_⟩
 ·rw[Nat.mul_comm,Nat.testBit_mul_two_pow];simp[Nat.testBit_zero]
 ·rw[Nat.mul_comm,Nat.testBit_mul_two_pow];simp;omega
def J2 (ws:List Nat)(i:Nat):List Nat:=(List.range' i (512 - i)).filter (fun n=>Z1 ws (n:Int))
theorem JN (h:Z1 ws (n:Int)=true):n<512:=by
 unfold Z1 at h;rw[p9]at h;have:=U9 h.1;omega
theorem kQ (h: ∀n,i≤n→n<512→Z1 ws (n:Int)=false):J2 ws i= []:=by
 unfold J2;rw[List.filter_eq_nil_iff];intro n hn;rw[sZ]at hn;rw[h n hn.1 (by omega)];simp
theorem tR (hi:i≤r)(hr:r<512)(hm:Z1 ws (r:Int)=true)(h: ∀n,i≤n→n<r→Z1 ws (n:Int)=false):J2 ws i=r::J2 ws (r+1):=by
 unfold J2
 have e:List.range' i (512 - i)=List.range' i (r - i)++r::List.range' (r+1) (512 - (r+1)):=by
  have h1:512 - i=(r - i)+(1+(512 - (r+1))):=by omega
  rw[h1,←List.range'_append_1,←List.range'_append_1];have h2:i+(r - i)=r:=by omega
  rw[h2];rfl
 rw[e,cV,cU (by simpa using hm)]
 have e2:List.filter (fun n:Nat=>Z1 ws (n:Int)) (List.range' i (r - i))= []:=by
  rw[List.filter_eq_nil_iff];intro n hn;rw[sZ]at hn;rw[h n hn.1 (by omega)];simp
 rw[e2];rfl
theorem Ur (h:n∈J2 ws i):n<512∧i≤n∧Z1 ws (n:Int)=true:=by
 unfold J2 at h;rw[G4,sZ]at h;exact⟨by omega,h.1.1,h.2⟩
theorem Xc (h:Z1 ws (n:Int)=true):n∈J2 ws 0:=by
 unfold J2;rw[G4,sZ];have:=JN h;exact⟨by omega,h⟩
def Gg (ws:List Nat)(i:Nat):Int:=match J2 ws i with
 | []=> -1
 | r::_=>(r:Int)
theorem lH (h: ∀n,i≤n→n<512→Z1 ws (n:Int)=false):Gg ws i= -1:=by unfold Gg;rw[kQ h]
theorem uG (hi:i≤r)(hr:r<512)(hm:Z1 ws (r:Int)=true)(h: ∀n,i≤n→n<r→Z1 ws (n:Int)=false):Gg ws i=(r:Int):=by unfold Gg;rw[tR hi hr hm h]
theorem fN {t:List Nat}(h:J2 ws i=r::t):Gg ws i=(r:Int)∧t=J2 ws (r+1)∧r<512:=by
 have hr:=Ur (ws:=ws) (i:=i) (n:=r) (by rw[h];simp)
 have Iz: ∀n,i≤n→n<r→Z1 ws (n:Int)=false:=fun n h1 h2=>by
  cases hm:Z1 ws (n:Int)with
  | false=>rfl
  | true=>
   have h3:n∈J2 ws i:=by
    unfold J2;rw[G4,sZ];exact⟨by omega,hm⟩
   have hp:(J2 ws i).Pairwise (· < ·):=List.Pairwise.filter _ List.pairwise_lt_range';rw[h]at h3 hp;rcases m6.1 h3 with h4 | h4
   ·omega
   ·have:=(Yh.1 hp).1 n h4;omega
 have h2:=tR hr.2.1 hr.1 hr.2.2 Iz;refine⟨uG hr.2.1 hr.1 hr.2.2 Iz,?_,hr.1⟩;rw[h]at h2;injection h2
theorem lG (h:J2 ws i= []):Gg ws i= -1:=by unfold Gg;rw[h]
theorem JR (x s:Nat)(hx:x<18446744073709551616):x / 2^s*2^s<18446744073709551616∧ ∀j,(x / 2^s*2^s).testBit j=(decide (s≤j)&&x.testBit j):=by
 have h1:x / 2^s*2^s≤x:=Nat.div_mul_le_self _ _;refine⟨by omega,fun j=> ?_⟩;rw[Nat.testBit_mul_two_pow];by_cases h:s≤j
 ·rw[Nat.testBit_div_two_pow];simp[h]
 ·simp[h]
structure Js (ws:List Nat)(i k w:Nat):Prop where
 low: ∀n,i≤n→n<64*k→Z1 ws (n:Int)=false
 lt:w<18446744073709551616
 word: ∀j,j<64→w.testBit j=(decide (i≤64*k+j)&&Z1 ws ((64*k+j:Nat):Int))
theorem lI (hw:Wf ws){j:Nat}(hk:k<ws.length)(hj:j<64):Z1 ws ((64*k+j:Nat):Int)=ws[k].testBit j:=by
 have hk8:k<8:=by rw[←hw.len];exact hk
 unfold Z1;have e1:(64*k+j) / 64=k:=by omega
 have e2:(64*k+j) % 64=j:=by omega
 rw[b_ (by omega),Z4,X4,e1,e2,Fq hk]
theorem Js.first (hw:Wf ws)(hk:i / 64<ws.length):Js ws i (i / 64) (ws[i / 64] / 2^(i % 64)*2^(i % 64)):=by
 obtain⟨h1,h2⟩:=JR ws[i / 64] (i % 64) (hw.lt _ (k8 hk));refine⟨fun n h3 h4=>by omega,h1,fun j hj=> ?_⟩;rw[h2,lI hw hk hj]
 congr 1
 rw[decide_eq_decide];omega
theorem Js.next (hw:Wf ws)(h:Js ws i k 0)(hi:i<64*(k+1))(hk:k+1<ws.length):Js ws i (k+1) ws[k+1]:=by
 refine⟨fun n h3 h4=> ?_,hw.lt _ (k8 hk),fun j hj=> ?_⟩
 ·by_cases h5:n<64*k
  ·exact h.low n h3 h5
  ·have h6:=h.word (n - 64*k) (by omega);have e:64*k+(n - 64*k)=n:=by omega
   rw[e,Ew,b_ h3,Z4]at h6;exact h6.symm
 ·rw[lI hw hk hj,b_ (by omega),Z4]
theorem Js.done (h:Js ws i k 0)(hk:8≤k+1):Gg ws i= -1:=by
 refine lH (fun n h1 h2=> ?_);by_cases h5:n<64*k
 ·exact h.low n h1 h5
 ·have h6:=h.word (n - 64*k) (by omega);have e:64*k+(n - 64*k)=n:=by omega
  rw[e,Ew,b_ h1,Z4]at h6;exact h6.symm
theorem Js.hit {w:Nat}(h:Js ws i k w)(h0:w≠0):Gg ws i=((64*k+Lib.ctz 64 w:Nat):Int):=by
 obtain⟨h1,h2,h3⟩:=Uy h0 h.lt;have h4:=h.word _ h1;rw[h2]at h4;have h5:=Bool.and_eq_true_iff.1 h4.symm;refine uG (U9 h5.1) (JN h5.2) h5.2 (fun n h6 h7=> ?_);by_cases h8:n<64*k
 ·exact h.low n h6 h8
 ·have h9:=h.word (n - 64*k) (by omega);rw[h3 _ (by omega)]at h9;have e:64*k+(n - 64*k)=n:=by omega
  rw[e,b_ h6,Z4]at h9;exact h9.symm
def Y1 (w:World):Prop:= ∀j,j<64→w.cell? ⟨0,j,none⟩=some (.int .u8 (Lib.deBruijn64tab.getD j 0))
theorem Y1.lt (h:Y1 w):0<w.heap.size:=World.block_lt_of_cell? w _ (h 0 (by omega))
theorem Y1.z7 (h:Y1 w)(t:z6 L w w')(hL: ∀b∈L,0≠b):Y1 w':=fun j hj=>(t.cell (p:=⟨0,j,none⟩) h.lt (fun hm=>hL _ hm rfl)).trans (h j hj)
theorem Y1.q8 (h:Y1 w)(t:z6 [] w w'):Y1 w':=h.z7 t (by simp)
theorem qs0 (x a:Nat)(hx:x<18446744073709551616)(CD:x≠0)(yE:x&&&(18446744073709551616 - x)=a):
  IntKind.u64.wrap (bits BinOp.and IntKind.u64 (x:Int) (IntKind.u64.wrap (-(x:Int)))*285870213051353865) / 288230376151711744=((a*285870213051353865 % 18446744073709551616 / 288230376151711744:Nat):Int):=by
 have e1:IntKind.u64.wrap (-(x:Int))=((18446744073709551616 - x:Nat):Int):=by rw[IntKind.wrap_u64];omega
 rw[e1,bits_and_u64_nat x _ hx (by omega),yE,IntKind.wrap_u64];omega
theorem px (x k idx:Nat)(w:World)(CD:((x:Int)==0)=false)
  (key:IntKind.u64.wrap (bits BinOp.and IntKind.u64 (x:Int) (IntKind.u64.wrap (-(x:Int)))*285870213051353865) / 288230376151711744=(idx:Int))
  (hi:idx<64) (hk:k<64) (C6:w.cell? ⟨0,idx,none⟩=some (.int .u8 k)):
  Calls Tryz.prog 211 #[.int .u64 x] w fun r w'=>r= .returned (.int .i64 k)∧w=w':=by
 go_enter Tryz.func211,Tryz.ntmps211;go_wp2_with (simp only[key]);go_ret;exact⟨rfl,rfl⟩
theorem tK (x:Nat)(hx:x<18446744073709551616)(CD:x≠0)(w:World)(hT:Y1 w):Calls Tryz.prog 211 #[.int .u64 x] w fun r w'=>r= .returned (.int .i64 (Lib.ctz 64 x))∧w=w':=by
 obtain⟨yE,hk⟩:=Lib.lowest_bit 64 x CD hx;obtain⟨hi,zc5⟩:=Lib.deBruijn64_at _ hk;have C6:=hT _ hi;rw[zc5]at C6;exact px x _ _ w (by simp;omega) (qs0 x _ hx CD yE) hi hk C6
theorem qj9 (y:Int): ∃n:Nat,n≤127∧bits .and .i64 y 127=(n:Int):=by
 refine⟨(BitVec.ofInt 64 y&&&BitVec.ofInt 64 127).toNat,?_,?_⟩
 ·rw[BitVec.toNat_and];refine j9 Nat.and_le_right ?_;decide
 ·have h:(BitVec.ofInt 64 y&&&BitVec.ofInt 64 127).toNat≤127:=by
   rw[BitVec.toNat_and];refine j9 Nat.and_le_right ?_;decide
  show IntKind.i64.wrap ((BitVec.ofInt 64 y&&&BitVec.ofInt 64 127).toNat:Int)=_;exact IntWalk.i64_in _ (by omega)
theorem LO (x:Nat)(hx:x<18446744073709551616)(w:World):Calls Tryz.prog 173 #[.int .u64 x] w fun r w'=>(∃n:Nat,n≤127∧r= .returned (.int .i64 n))∧w=w':=by
 go_enter Tryz.func173,Tryz.ntmps173;go_wp2_with fail;refine bodyPost_ret (results_tmp rfl _ _ _) rfl ⟨?_,rfl⟩;obtain⟨n,hn,e⟩:=qj9 _;exact⟨n,hn,congrArg (fun z=>Ending.returned (Value.int .i64 z)) e⟩
def ZC (w0:World)(ws:List Nat)(i:Nat)(tk tw:Value)(wr:World):Prop:= ∃k x:Nat,k<8∧tk= .int .i64 (k:Int)∧tw= .int .u64 (x:Int)∧i<64*(k+1)∧z6 [] w0 wr∧Hid (Js ws i k x)
theorem kS (ws:List Nat)(hw:Wf ws)(i:Nat)(w:World)(hT:Y1 w):Calls Tryz.prog 176 #[T5 ws,.int .i64 i] w fun r w'=>r= .returned (.int .i64 (Gg ws i))∧z6 [] w w':=by
 unfold T5;have b0:=j4.new w 69 ((ws.map y6).toArray);have o6:z6 [] w (w.alloc (.cells ((ws.map y6).toArray) 69)):=(z8 [] w).alloc _;by_cases hi:i<512;rotate_left
 ·have HE:=O (lH (ws:=ws) (i:=i) (fun n h1 h2=>by omega));generalize Gg ws i=n9 at*;have CL:(512:Int)≤(i:Int):=by omega
  generalize (ws.map y6).toArray=cs at*;go_enter Tryz.func176,Tryz.ntmps176;go_wp2_with fail;go_ret;exact⟨by rw[HE.o];rfl,o6⟩
 have hk:i / 64<ws.length:=by rw[hw.len];omega
 have HC:Hid (∀k (h:k<ws.length),(ws.map y6).toArray[k]? =some (.int .u64 ((ws[k]:Nat):Int))∧ws[k]<18446744073709551616):=O (fun k h=>⟨by simp[j6 h,y6],hw.lt _ (k8 h)⟩);have HW:=O hw;have hl:=hw.len;have Z7:=Js.first hw hk;obtain⟨cw,hwx⟩:=HC.o _ hk
 have hsh:IntKind.u64.wrap ((ws[i / 64]:Int) / 2^(i % 64)*2^(i % 64))=((ws[i / 64] / 2^(i % 64)*2^(i % 64):Nat):Int):=by
  have h1:=(JR ws[i / 64] (i % 64) hwx).1;have e:((ws[i / 64]:Int) / 2^(i % 64)*2^(i % 64))=((ws[i / 64] / 2^(i % 64)*2^(i % 64):Nat):Int):=by simp
  rw[e,IntKind.wrap_u64];omega
 generalize Gb:(ws.map y6).toArray=cs at*;clear Gb hw hwx;generalize hx:ws[i / 64]=x at*;clear hx;generalize CD:x / 2^(i % 64)*2^(i % 64)=x0 at*;clear CD;have Q9:Hid (ZC (w.alloc (.cells cs 69)) ws i (.int .i64 ((i / 64:Nat):Int)) (.int .u64 (x0:Int)) (w.alloc (.cells cs 69))):=O ⟨i / 64,x0,by omega,rfl,rfl,by omega,z8 _ _,O Z7⟩;clear Z7;have HF:=O (fun k=>Js.done (ws:=ws) (i:=i) (k:=k));have HH:=O (fun k x=>Js.hit (ws:=ws) (i:=i) (k:=k) (w:=x));generalize Gg ws i=n9 at*;have D7:=O b0;have m9:=O o6;have QJ:=O (hT.q8 o6);clear b0 o6 hT;go_enter Tryz.func176,Tryz.ntmps176;have c0:=(D7.o.cell (i / 64)).trans cw;go_wp2_with fail;clear c0 cw hk;generalize El:w.alloc (.cells cs 69)=w0 at*;clear El;generalize w.heap.size=g at*;go_loopw [5,6] (fun tk tw wr=>ZC w0 ws i tk tw wr) (fun tk _ _=>8 - (intOf tk).toNat)
 case atStart=>rw[hsh];exact Q9.o
 case round=>
  clear Q9 hsh;obtain⟨k,x,hk,rfl,rfl,hik,ht,HX⟩:=hrel;have qm8:=HX.o.lt;by_cases hz:x=0
  ·subst hz;by_cases hk8:k+1<8
   ·have hk9:(k:Int)+1<8:=by omega
    have I1:k+1<ws.length:=by omega
    obtain⟨c1,r1⟩:=HC.o (k+1) I1;have c2:=((D7.o.z7 ht (by simp)).cell (k+1)).trans c1;have My:=O (HX.o.next HW.o hik I1);have X3:((k:Int)+1==8)=false:=by simp;omega
    clear HX HF HH c1;generalize ws[k+1]=y at*;go_wp2_with fail;go_roundw
    case rel=>exact⟨k+1,y,by omega,by go_num,rfl,by omega,ht,My⟩
    case measure=>simp[intOf];omega
   ·have hk9:k=7:=by omega
    subst hk9;have y5:=O (HF.o 7 HX.o (by omega));clear HX HF HH;go_wp2_with fail;go_ret;exact⟨by rw[y5.o];rfl,m9.o.Y ht⟩
  ·have y5:=O (HH.o k x HX.o hz);have D6:=O (tK x qm8 hz wr (QJ.o.q8 ht));have qc6:=(Uy hz qm8).1;have WA:((x:Int)==0)=false:=by simp;omega
   generalize Lib.ctz 64 x=c at*;clear HX HF HH;go_wp2_with fail;refine D6.o.mono ?_;rintro r w2 ⟨rfl,rfl⟩;go_wp2_with fail;go_ret;exact⟨by rw[y5.o];simp,m9.o.Y ht⟩
theorem KP (ws:List Nat)(hw:Wf ws)(w:World)(hT:Y1 w):Calls Tryz.prog 175 #[T5 ws] w fun r w'=>r= .returned (.int .i64 (Gg ws 0))∧z6 [] w w':=by
 have b0:=j4.new w 69 ((ws.map y6).toArray);have o6:z6 [] w (w.alloc (.cells ((ws.map y6).toArray) 69)):=(z8 [] w).alloc _;have HN:=p7 (fun W t=>kS ws hw 0 W (hT.q8 t));have hs:=m8 hw;unfold T5 at HN⊢;clear hw hT;generalize (ws.map y6).toArray=cs at*;go_enter Tryz.func175,Tryz.ntmps175;go_wp2_with (refine U5 b0 hs ?_);refine(HN.o _ o6).mono ?_;rintro r w2 ⟨rfl,V4⟩;go_wp2_with fail;go_ret;exact⟨rfl,o6.Y V4⟩
def qx1 (w0:World)(tn ti:Value)(wr:World):Prop:= ∃k n:Nat,k≤8∧n≤127*k∧tn= .int .i64 (n:Int)∧ti= .int .i64 (k:Int)∧z6 [] w0 wr
theorem KR (ws:List Nat)(hw:Wf ws)(w:World):Calls Tryz.prog 138 #[T5 ws] w fun r w'=>(∃n:Nat,n≤1016∧r= .returned (.int .i64 n))∧z6 [] w w':=by
 have b0:=j4.new w 69 ((ws.map y6).toArray);have o6:z6 [] w (w.alloc (.cells ((ws.map y6).toArray) 69)):=(z8 [] w).alloc _;have HC:Hid (∀k (h:k<ws.length),(ws.map y6).toArray[k]? =some (.int .u64 ((ws[k]:Nat):Int))∧ws[k]<18446744073709551616):=O (fun k h=>⟨by simp[j6 h,y6],hw.lt _ (k8 h)⟩);have hl:=hw.len;have hs:=m8 hw;unfold T5;clear hw;generalize (ws.map y6).toArray=cs at*;have HS:=O hs;have m9:=O o6;clear hs o6;go_enter Tryz.func138,Tryz.ntmps138;go_wp2_with (refine wpList_load_row rfl 67 _ rfl w.heap.size rfl 69 cs (0,0) _ b0 Tryz.underlying67 rfl (by rw[HS.o];kernel_rfl) ?_);clear b0;generalize El:w.alloc (.cells cs 69)=w0 at*;clear El;go_loopw [3,8] (fun tn ti wr=>qx1 w0 tn ti wr) (fun _ ti _=>8 - (intOf ti).toNat)
 case atStart=>exact⟨0,0,by omega,by omega,rfl,rfl,z8 _ _⟩
 case round=>
  obtain⟨k,n,hk,hn,rfl,rfl,ht⟩:=hrel;by_cases Z:k<8
  ·have j1:(k:Int)<8:=by omega
   obtain⟨c0,r0⟩:=HC.o k (by omega);have HO:=O (LO (ws[k]'(by omega)) r0 wr);generalize ws[k]'(by omega)=x at*;have hix:=fB Z c0;go_wp2_with fail;refine HO.o.mono ?_;rintro r w2 ⟨⟨m,hm,rfl⟩,rfl⟩;have Qj:n+m≤127*(k+1):=by omega
   go_wp2_with fail;go_roundw
   case rel=>exact⟨k+1,n+m,by omega,by omega,by go_num,by go_num,ht⟩
   case measure=>simp[intOf];omega
  ·have j1: ¬(k:Int)<8:=by omega
   go_wp2_with fail;go_ret;exact⟨⟨n,by omega,rfl⟩,m9.o.Y ht⟩
open Go.Shelf
attribute [local go_sem] Oper.semAt_some
theorem uH: ∀(fn:Fn) (first cap:Array Value) (w:World),(Instr.makeFunc fn first cap).run Tryz.prog w= .ok (.func fn first cap) w:=fun _ _ _ _=>rfl
theorem aM {F:Fence}{rest:List Oper}(hb:j4 w g 69 cs)(hs:cs.size=8)
  (h:wpListIn F n Tryz.prog ops Q rest (a.put o.dst (.agg cs)) w) (Cn:o.guard=none:=by rfl) (ho:o.op= .load 69 x:=by rfl) (hx:a.eval x= .pointer (some ⟨g,0,none⟩):=by rfl):wpListIn F n Tryz.prog ops Q (o::rest) a w:=by
 refine wpListIn_plain Cn fun K rC=> ?_;have hl:=run_loadVar_row (P:=Tryz.prog) w g 69 69 cs (0,0) _ hb Tryz.underlying69 rfl (by rw[hs];kernel_rfl);unfold Oper.wpIn;refine⟨by simp[Oper.about,ho],?_⟩;rw[Oper.semAt_plain F _ _ (by rw[ho];intro c hc;cases hc)];simp[execOp,ho,hx,Instr.loadAt,Instr.sureAddr,Sem.run_bind,Sem.run_pure,hl,Result.andThen];exact rC _ _ h
def itM (z:Int):Nat:=if z<0 then 0 else 513 - z.toNat
theorem qv6 (l g:Nat)(ws:List Nat)(hw:Wf ws)(J:List Nat→World→Prop)(hJ: ∀pre W W',J pre W→z6 [] W W'→J pre W')
  (hY: ∀pre x r W,J pre W→J2 ws 0=pre++x::r→YieldAt Fence.wide 2 Tryz.prog l #[.int .i64 ((x:Nat):Int)] W fun e W'=>e= .returned (.bool true)∧J (pre++ [x]) W'∧ ∀k,k=g∨k=0→W'.heap[k]? =W.heap[k]?)
  (W:World) (hb:j4 W g 69 ((ws.map y6).toArray)) (hT:Y1 W) (h0:J [] W):
  CallsIn Fence.wide 3 Tryz.prog 174 #[.func (.yield l) #[] #[],.pointer (some ⟨g,0,none⟩)] W fun e W'=>(∃v,e= .returned v)∧J (J2 ws 0) W':=by
 have hs:=m8 hw;have qe9:=O (fun(W':World) (t:Y1 W')=>KP ws hw W' t);have qq9:=O (fun(W':World) (i:Nat) (t:Y1 W')=>kS ws hw i W' t);unfold T5 at qe9 qq9;clear hw;generalize (ws.map y6).toArray=cs at*;have HB:=O hb;have HT:=O hT;have HJ0:=O h0;clear hT h0;refine callsIn_of_wp Tryz.func174 rfl trivial ?_ rfl;simp only[Tryz.ntmps174,List.size_toArray,Cz,tA,Nat.reduceAdd,Nat.reduceSub,Array.replicate_succ,Array.replicate_zero,List.push_toArray,List.append_toArray,Qy,List.cons_append]
 gi_wp2_with (refine aM hb hs ?_)
 refine⟨trivial,(callsIn_wide.2 (qe9.o W HT.o)).mono ?_⟩;rintro e w1 ⟨rfl,gU⟩;clear hb;have Ag:=O (HB.o.z7 gU (by simp));have J6:=O (HT.o.q8 gU);have HJ1:=O (hJ _ _ _ HJ0.o gU);clear HB HT HJ0 qe9 gU
 gi_wp2
 gi_loopw [3] (fun ti wr=> ∃(pre:List Nat) (j:Nat),ti= .int .i64 (Gg ws j)∧Hid (J2 ws 0=pre++J2 ws j)∧J pre wr∧Hid (j4 wr g 69 cs)∧Hid (Y1 wr)) (fun ti _=>itM (intOf ti))
 case atStart=>exact⟨[],0,rfl,O rfl,HJ1.o,Ag,J6⟩
 case round=>
  clear Ag J6 HJ1;obtain⟨pre,j,rfl,HS,hj,HB,HT⟩:=hrel
  cases g_:J2 ws j with
  | nil=>
   have hz:=lG g_;have HE:Hid (J2 ws 0=pre):=O (by rw[HS.o,g_,tG]);rw[hz];clear hz g_ HS
   gi_wp2
   go_end0;exact⟨⟨_,rfl⟩,by rw[HE.o];exact hj⟩
  | cons x r=>
   obtain⟨hz,htr,hx⟩:=fN g_;have CD:(0:Int)≤(x:Int):=by omega
   obtain⟨fn,tmps,assign,body,hy,hR⟩:=hY pre x r wr hj (by rw[HS.o,g_]);have HE:Hid (J2 ws 0=(pre++ [x])++J2 ws (x+1)):=O (by rw[HS.o,g_,htr];simp);rw[hz];clear g_ HS hj hz
   gi_wp2
   refine hR.mono ?_;rintro e W3 ⟨rfl,hj3,PM⟩;have b3:j4 W3 g 69 cs:=(PM g (.inl rfl)).trans HB.o
   have V3:Hid (Y1 W3):=O (fun q hq=>by
    have h1:=HT.o q hq
    rwa [←World.cell?_of_block (w:=wr) (w':=W3) (PM _ (.inr rfl))]at h1)
   have HN:=O (qq9.o W3 (x+1) V3.o)
   have hmz:itM (Gg ws (x+1))<itM (x:Int):=by
    unfold itM
    cases h5:J2 ws (x+1)with
    | nil=>
     have h9: ¬((x:Int)<0):=by omega
     rw[lG h5,x9 (by decide),z9 h9];omega
    | cons y r2=>
     have h6:=fN h5;have h7:=Ur (ws:=ws) (i:=x+1) (n:=y) (by rw[h5];simp);rw[h6.1];have h8: ¬((y:Int)<0):=by omega
     have h9: ¬((x:Int)<0):=by omega
     rw[z9 h8,z9 h9];omega
   clear htr PM
   gi_wp2_with (refine aM b3 hs ?_)
   refine⟨trivial,(callsIn_wide.2 HN.o).mono ?_⟩;rintro e W4 ⟨rfl,gO⟩
   gi_wp2
   refine⟨⟨pre++ [x],x+1,rfl,HE,hJ _ _ _ hj3 gO,O (b3.z7 gO (by simp)),O (V3.o.q8 gO)⟩,?_⟩;simpa[intOf]using hmz
def VI (gs:Nat)(I:List Nat→World→Prop)(pre:List Nat)(W:World):Exit→Act→World→Prop
 | .normal,_,W'=>KeepsOthers W W'∧(∀k,k=gs∨k=0→W'.heap[k]? =W.heap[k]?)∧I pre W'
 | _,_,_=>False
theorem iU {g:Operand}{ps:Array Tmp}{assign body:Code}(gs:Nat)(ws:List Nat)(hw:Wf ws)
  (hg:a.eval g= .func (.func 174) #[] #[.pointer (some ⟨gs,0,none⟩)]) (hps:ps.size=1) (hb:j4 w gs 69 ((ws.map y6).toArray)) (hT:Y1 w)
  (I:List Nat→World→Prop) (hI0: ∀pre W W',I pre W→z6 [] W W'→I pre W') (IL: ∀pre W l o o',I pre W→w.heap.size≤l→W.heap[l]? =some o→o.isCells=false→I pre (W.putObj l o'))
  (h0:I [] w) (qp6:Nat→Act)
  (TQ: ∀(l:Nat) (x:Nat) (W:World) (K:Act→World→Prop),K (qp6 x) W→assign.wpIn (Fence.wide.inRound l) 2 Tryz.prog (Exit.then K (fun _ _ _=>False)) { tmps:=(ps.zip #[.int .i64 (x:Int)]).foldl (fun t (p,v)=>t.setIfInBounds p v) a.tmps,defers:= [] } W)
  (Nr: ∀(l:Nat) (pre:List Nat) (x:Nat) (r:List Nat) (W:World),I pre W→J2 ws 0=pre++x::r→w.heap.size≤W.heap.size→body.wpIn (Fence.wide.inRound l) 2 Tryz.prog (VI gs I (pre++ [x]) W) (qp6 x) W)
  (qu4: ∀(W:World),I (J2 ws 0) W→W.heap[w.heap.size]? =some (.deferred (some []))→Q .normal { a with defers:= { target:= .collected w.heap.size,args:=#[] }::a.defers } W):
  (Code.rangeFunc g ps assign body).wpIn Fence.wide 4 Tryz.prog Q a w:=by
 have hlg:=hb.lt;have Z:=hT.lt;refine wpIn_rangeFunc ?_;intro fn xH;obtain⟨rec,nA⟩: ∃rec:LoopState→Option Code→Loop,rec=fun st pe=> { state:=st,pending:=pe,fn:=fn,tmps:=a.tmps,params:=ps,assign:=assign,body:=body,defers:=w.heap.size }:=⟨_,rfl⟩;obtain⟨W1,hW1⟩: ∃W1,(w.alloc (.deferred (some []))).alloc (.loop (rec .ready none))=W1:=⟨_,rfl⟩
 have hL1:W1.heap[w.heap.size+1]? =some (.loop (rec .ready none)):=by
  rw[←hW1];have:=World.alloc_heap_new (w.alloc (.deferred (some []))) (.loop (rec .ready none))
  rwa [World.size_alloc]at this
 have hK1:W1.heap[w.heap.size]? =some (.deferred (some [])):=by
  rw[←hW1];exact(Below.heap_alloc _ _ _ (by simp)).trans (World.alloc_heap_new w _)
 have gU:z6 [] w W1:=by rw[←hW1];exact((z8 _ _).alloc _).alloc _
 have ON:I [] W1:=hI0 _ _ _ h0 gU;have Qj:=hb.z7 gU (by simp);have hT1:=hT.q8 gU
 refine⟨w.heap.size+1,[{ target:= .collected w.heap.size,args:=#[] }],W1,{ target:= .fn (.func 174) #[.pointer (some ⟨gs,0,none⟩)],args:=#[.func (.yield (w.heap.size+1)) #[] #[]] },W1,174,
  #[.func (.yield (w.heap.size+1)) #[] #[],.pointer (some ⟨gs,0,none⟩)],W1,?_,?_,(fun _ _=>trivial),?_,(fun h=>by simp[Fence.wide]at h),?_⟩
 ·rw[←hW1,nA];exact run_enterLoop_outer _ _ _ _ _
 ·simp only[resolve,hg];simp[go_sem]
 ·have eg: ∀args w,(callFunc 174 args).run Tryz.prog w= .ok (.enter 174 args) w:=enters_of Tryz.func174 (by kernel_rfl) rfl;simp[invoke,go_sem,eg]
 ·refine(qv6 (w.heap.size+1) gs ws hw (fun pre W=>I pre W∧W.heap[w.heap.size+1]? =some (.loop (rec .ready none))∧W.heap[w.heap.size]? =some (.deferred (some []))) ?_ ?_ W1 Qj hT1 ⟨ON,hL1,hK1⟩).mono ?_
  ·rintro pre W W' ⟨h1,h2,h3⟩ ht;exact⟨hI0 _ _ _ h1 ht,(ht.block _ (Mu.1 h2).1 (by simp)).trans h2,(ht.block _ (Mu.1 h3).1 (by simp)).trans h3⟩
  ·rintro pre x r W ⟨hi,hl,hk⟩ Vq;have Z:w.heap.size+1<W.heap.size:=(Mu.1 hl).1;have hy:=run_yield (P:=Tryz.prog) (args:=#[.int .i64 ((x:Nat):Int)]) hl (by rw[nA];exact hps.symm);rw[nA]at hy;refine⟨fn,_,assign,body,hy,roundIn_of_wpIn xH (TQ _ x W _ ⟨_,run_beginRound hl (by rw[nA]),?_⟩)⟩;have hl2:(W.putObj (w.heap.size+1) (.loop { rec .ready none with state:= .busy })).heap[w.heap.size+1]? =some (.loop { rec .ready none with state:= .busy }):=World.putObj_heap_same Z;have V9:(W.putObj (w.heap.size+1) (.loop { rec .ready none with state:= .busy })).heap[w.heap.size]? =some (.deferred (some [])):=(World.putObj_heap_other (by omega)).trans hk;refine wpIn_mono (Nr _ pre x r _ (IL _ _ _ _ _ hi (by omega) hl rfl) Vq (by simp;omega)) ?_;rintro e a3 W3 hp
   cases e with
   | normal=>
    obtain⟨hko,gX,hi3⟩:=hp;have n_:=hko.same _ _ hl2 rfl;have PM:=hko.same _ _ V9 rfl;have Nj:=run_endRound (P:=Tryz.prog) none n_;refine⟨_,_,Nj,rfl,⟨IL _ _ _ _ _ hi3 (by omega) n_ rfl,?_,(World.putObj_heap_other (by omega)).trans PM⟩,fun k hkk=> ?_⟩
    ·have:=World.putObj_heap_same (w:=W3) (r:=w.heap.size+1) (o:= .loop (rec .ready none)) (Mu.1 n_).1;rw[nA]at this⊢;exact this
    ·have X3:k≠w.heap.size+1:=by rcases hkk with rfl | rfl<;>omega
     rw[World.putObj_heap_other X3,gX k hkk,World.putObj_heap_other X3]
   | _=>exact hp.elim
  ·rintro e W2 ⟨⟨v,rfl⟩,hi,hl,hk⟩;have Nj:=run_endLoop (P:=Tryz.prog) hl (by rw[nA];simp);have V9:(W2.putObj (w.heap.size+1) (.loop { rec .ready none with state:= .exhausted })).heap[w.heap.size]? =some (.deferred (some [])):=(World.putObj_heap_other (by omega)).trans hk;have CL:=IL _ _ _ _ (.loop { rec .ready none with state:= .exhausted }) hi (by omega) hl rfl;have hd:=qu4 _ CL V9;rw[nA]at Nj hd;exact⟨none,_,Nj,hd⟩
theorem KS (ws:List Nat)(w:World):Calls Tryz.prog 139 #[T5 ws] w fun e w'=>e= .returned (.func (.func 174) #[] #[.pointer (some ⟨w.heap.size,0,none⟩)])∧w'=w.alloc (.cells ((ws.map y6).toArray) 69):=by
 have hmf:=uH;unfold T5;generalize (ws.map y6).toArray=cs at*;go_enter Tryz.func139,Tryz.ntmps139;go_wp2_with fail;go_ret;exact⟨rfl,rfl⟩
theorem ql4 {W':World}(h:W.ownsRow base e size v n xs)(ht:z6 L W W')(hv: ∀b∈m5 v,b∉L):W'.ownsRow base e size v n xs:=by
 refine⟨h.1,?_⟩;rcases h.2 with hn | ⟨g,cap,cur,rfl,hb,mu,rest⟩
 ·exact .inl hn
 ·exact .inr ⟨g,cap,cur,rfl,hb,by rw[ht.block g (Mu.1 mu).1 (hv g (by simp[m5]))];exact mu,rest⟩
theorem qs4 (h:W.ownsRow base e size v n xs)(hb:Boxed W B t u)(X3:e≠t):B∉m5 v:=by
 rcases h.2 with⟨rfl,_⟩ | ⟨g',cap,cur,rfl,_,hh,_⟩
 ·simp[m5]
 ·intro he;have:B=g':=by simpa[m5]using he
  subst this;unfold Boxed at hb;rw[hh]at hb;injection hb with hb;injection hb with _ h2;exact X3 h2
theorem NN {w1:World}{rO:Nat}{v':Value}{m:Nat}{ys:List Value}{tmp:Obj}(hv:Boxed W B 30 v)(Z8:W.ownsRow rO 3 1 v k xs)(zj1:rO≤W.heap.size)(hB:rO≤B)(sL:w1.ownsRow rO 3 1 v' m ys)(Nq:(W.alloc tmp).grownBy w1 v.ownBlock):
  Boxed w1 B 30 v∧Boxed (w1.setCell ⟨B,0,none⟩ v') B 30 v'∧(w1.setCell ⟨B,0,none⟩ v').ownsRow rO 3 1 v' m ys∧KeepsOthers W (w1.setCell ⟨B,0,none⟩ v')∧(∀j,j<W.heap.size→j∉m5 v→j≠B→(w1.setCell ⟨B,0,none⟩ v').heap[j]? =W.heap[j]?)∧Below rO W (w1.setCell ⟨B,0,none⟩ v'):=by
 have PH:Boxed w1 B 30 v:=(hv.alloc tmp).kept Nq (hv.not_row (by decide) Z8);have DN: ∀j,v.ownBlock=some j→rO≤j:=fun j ej=>(Z8.lt j ej).1
 have hbv: ∀j,some j=v.ownBlock→j∈m5 v:=fun j hj=>by
  match v,hj with
  | .slice (some a) n c,hj=>simpa[m5,Value.ownBlock]using hj
 have qc7: ∀j,j<W.heap.size→j∉m5 v→w1.heap[j]? =W.heap[j]? :=fun j hj hn=>(Nq.block j (by simp;omega) (fun e=>hn (hbv j e))).trans (Below.heap_alloc W tmp j (by omega));refine⟨PH,PH.set v',ql4 sL ((z8 [B] _).setCell (p:=⟨B,0,none⟩) (.inl (by simp)) v') (fun b hb hm=> ?_),?_,fun j hj h1 h2=>(Below.heap_setCell _ _ _ _ (by show j≠B;exact h2)).trans (qc7 j hj h1),?_⟩
 ·rw[y7]at hm;subst hm;exact qs4 sL PH (by decide) hb
 ·refine((KeepsOthers.alloc W tmp).trans (KeepsOthers.of_grownBy Nq fun j o ej hj=> ?_)).trans (KeepsOthers.setCell _ _ _);rcases(Z8.alloc tmp).2 with⟨rfl,_⟩ | ⟨g,cap,cur,rfl,_,DX,_⟩
  ·simp[Value.ownBlock]at ej
  ·obtain rfl:g=j:=by simpa[Value.ownBlock]using ej
   rw[DX]at hj;cases hj;rfl
 ·exact(((Below.refl rO W).alloc (by omega) tmp).grown Nq (by simp;omega) (fun j ej=>by have:=DN j ej;omega)).setCell (p:=⟨B,0,none⟩) hB v'
def xY (n:Nat):Value:= .int .i64 (n:Int)
def NX (ms:List Nat)(w:World)(r:Ending)(w':World):Prop:= ∃g cap,r= .returned (.slice (some ⟨g,0,none⟩) ms.length cap)∧w.heap.size≤g∧ms.length≤cap∧cap≤maxLen∧Own w' 3 1 (.slice (some ⟨g,0,none⟩) ms.length cap) ms.length (ms.map xY)∧z6 [] w w'
theorem YB:(Tryz.prog.info? 3).map (fun i=>(i.zero,i.size,i.bytes))=some (some (.int .i64 0),1,8):=by kernel_rfl
theorem Wt (ws:List Nat):(J2 ws 0).length≤512:=by
 unfold J2;refine j9 (L3 _ _) ?_;simp
theorem Ww (ws:List Nat)(hw:Wf ws)(w:World)(hT:Y1 w):Calls Tryz.prog 100 #[T5 ws] w (NX (J2 ws 0) w):=by
 obtain⟨i0,hi,mJ,aX,Vp⟩:=info_parts YB;have OV:=O (Wt ws);have hs:=m8 hw;have Zo:=O (fun W=>KR ws hw W);have GN:=O (fun W=>KS ws W);unfold T5 at Zo GN⊢;refine(callsIn_wide (n:=4)).1 ?_;refine callsIn_of_wp_marks Tryz.func100 rfl trivial ?_ rfl;simp only[Tryz.ntmps100,List.size_toArray,Cz,tA,Nat.reduceAdd,Nat.reduceSub,Array.replicate_succ,Array.replicate_zero,List.push_toArray,List.append_toArray,Qy,List.cons_append];have b0:=j4.new w 69 ((ws.map y6).toArray);have o6:z6 [] w (w.alloc (.cells ((ws.map y6).toArray) 69)):=(z8 [] w).alloc _;generalize Gb:(ws.map y6).toArray=cs at*
 gi_wp2_with (refine aM b0 hs ?_)
 refine⟨trivial,(callsIn_wide.2 (Zo.o _)).mono ?_⟩;rintro e w1 ⟨⟨n,hn,rfl⟩,gU⟩;have J6:=O (o6.Y gU);have Ag:=O (b0.z7 gU (by simp));have zj6:=gU.size;clear o6 gU b0;have qn1:w.heap.size<w1.heap.size:=Ag.o.lt
 gi_wp2_with (first | (refine aM b2 hs ?_) | (gi_at_make;refine wpListIn_make_own _ rfl _ _ 30 rfl w.heap.size 3 i0 (.int .i64 0) 1 Tryz.underlying30 hi mJ aX .i64 .i64 (n:Int) n rfl rfl rfl (by rw[Vp];omega) (by unfold maxLen;omega) (by omega) ?_;intro w2 Je Nq;have zj5:=Nq.size;have b2:=(Ag.o.z7 (z6.dW Nq) (by simp)).alloc (.cells #[.slice (some ⟨w1.heap.size,0,none⟩) 0 n] 30)))
 refine⟨trivial,(callsIn_wide.2 (GN.o _)).mono ?_⟩;rintro e w3 ⟨rfl,rfl⟩
 gi_wp2_with fail
 clear Zo GN;have hTa:=((J6.o.step (z6.dW Nq) (by simp)).alloc (.cells #[.slice (some ⟨w1.heap.size,0,none⟩) 0 n] 30)).alloc (.cells cs 69);have bB:=(Boxed.new w2 30 (.slice (some ⟨w1.heap.size,0,none⟩) 0 n)).alloc (.cells cs 69);have bS:=j4.new (w2.alloc (.cells #[.slice (some ⟨w1.heap.size,0,none⟩) 0 n] 30)) 69 cs;have YF:=(Je.alloc (.cells #[.slice (some ⟨w1.heap.size,0,none⟩) 0 n] 30)).alloc (.cells cs 69);have zc6:((w2.alloc (.cells #[.slice (some ⟨w1.heap.size,0,none⟩) 0 n] 30)).alloc (.cells cs 69)).heap.size=w2.heap.size+2:=by simp
 simp only[World.size_alloc]at bS;clear b2 Nq Je;generalize ((w2.alloc (.cells #[.slice (some ⟨w1.heap.size,0,none⟩) 0 n] 30)).alloc (.cells cs 69))=w4 at*;have WY:=z6.tN hTa;have rA:=hT.q8 hTa;have HTL:=O hT.lt;clear hTa hT;rw[←Gb]at bS;obtain⟨B,WX⟩: ∃B,B=w2.heap.size:=⟨_,rfl⟩;rw[←WX]at bB bS⊢;have hwB:w.heap.size<B:=by omega
 have hBs:w4.heap.size=B+2:=by omega
 have HBB:=O WX;clear WX zc6
 refine iU (B+1) ws hw rfl rfl bS rA
  (fun pre W=>(∃v,v≠ .slice none 0 0∧Boxed W B 30 v∧W.ownsRow w.heap.size 3 1 v pre.length (pre.map xY))∧Below w.heap.size w W∧j4 W (B+1) 69 cs) ?set ?put ?start
  (fun x=> { tmps:=#[.agg cs,.pointer (some ⟨w.heap.size,0,none⟩),.slice none 0 0,.pointer (some ⟨B,0,none⟩),.int .i64 (x:Int),.agg cs,.int .i64 n,.slice (some ⟨w1.heap.size,0,none⟩) 0 n,.agg cs,.func (.func 174) #[] #[.pointer (some ⟨B+1,0,none⟩)],.int .i64 (x:Int),undef,undef,undef,undef,undef],defers:= [] }) ?assign ?body ?done
 case set=>
  rintro pre W W' ⟨⟨u,X3,hu,hr⟩,hB,hS⟩ ht;exact⟨⟨u,X3,(ht.block B hu.lt (by simp)).trans hu,ql4 hr ht (by simp)⟩,hB.trans (ht.below hB.size (by simp)),hS.z7 ht (by simp)⟩
 case put=>
  rintro pre W l o o' ⟨⟨u,X3,hu,hr⟩,hB,hS⟩ hl2 m_ ho;refine⟨⟨u,X3,(World.putObj_heap_other (by omega)).trans hu,ownsRow_putObj hr o' m_ ho⟩,hB.trans ((Below.refl w.heap.size W).grown (grownBy_putObj' W l o') hB.size (fun k e=>by cases e;omega)),(World.putObj_heap_other (by omega)).trans hS⟩
 case start=>exact⟨⟨_,by simp,bB,YF⟩,WY,by rw[←Gb];exact bS⟩
 case assign=>
  intro l x W K hK
  gi_wp2
  exact hK
 case body=>
  rintro l pre x r W ⟨⟨v,X3,hv,Z8⟩,hB,hS⟩ Vq Cr
  have hgS:B+1∉m5 v:=fun hm=>by
   rcases Z8.2 with⟨rfl,_⟩ | ⟨g',cap,cur,rfl,_,hh,_⟩
   ·cases hm
   ·have:B+1=g':=by simpa[m5]using hm
    subst this;exact j4.ne_ (t:=3) hh hS (by decide) rfl
  have HGS:=O hgS;have uz:=O hS;clear hgS hS;have hc:=hv.cell
  have hpl:pre.length+1≤513:=by
   have h1:=congrArg List.length Vq;simp at h1;have h2:=OV.o;omega
  have hwW:=hB.size;have qQ:=O X3;have HBE:=O hB;clear Vq bB bS YF WY rA X3 hB
  gi_wp2_with (gi_at_builtin;refine wpListIn_append_own _ rfl _ _ 30 rfl w.heap.size 3 i0 (.int .i64 0) 1 8 Tryz.underlying30 hi mJ aX Vp rfl (by decide) _ _ _ rfl (Z8.alloc _) ⟨W.heap.size,0,none⟩ 1 1 [xY x] rfl rfl (cell_one_new _ _ _) (by simp[Value.oneCell',xY]) (by unfold maxLen;omega) (by omega) (by simp;omega) ?_;intro v' w9 sL Nq yC;obtain⟨g',Ak,rfl⟩:=ownsRow_succ sL;obtain⟨PH,hv2,hr2,V9,U3,WU⟩:=NN hv Z8 hwW (by omega) sL Nq;have Ad:=PH.cell;have WS:=PH.frozen)
  have p8:=uz.o;have Hv:=U3 (B+1) uz.o.lt HGS.o (by omega);have OG:=HTL.o;refine⟨V9,fun k hk=> ?_,⟨_,by simp,hv2,?_⟩,HBE.o.trans WU,Hv.trans uz.o⟩
  ·rcases hk with rfl | rfl
   ·exact Hv
   ·refine U3 _ (by omega) (fun hm=> ?_) (by omega);rcases Z8.2 with⟨rfl,_⟩ | ⟨g',cap,cur,rfl,DY,hh,_⟩
    ·cases hm
    ·have:0=g':=by simpa[m5]using hm
     omega
  ·have e:(pre++ [x]).length=pre.length+1:=by simp
   rw[e,Yi];exact hr2
 case done=>
  rintro W ⟨⟨v,X3,hv,Z8⟩,hB,hS⟩ hK;have hc:=hv.cell;have hrd:=Reads.JL Z8 (by unfold maxLen;have:=OV.o;omega)
  gi_wp2
  refine⟨by simp,.inl ⟨_,_,rfl,run_takeDeferred hK,?_⟩⟩;rcases Z8.2 with⟨rfl,_⟩ | ⟨g,cap,cur,rfl,hg,-⟩
  ·exact absurd rfl X3
  ·obtain⟨A',Ak,e,h1,h2,-⟩:=hrd;injection e with e1 e2 e3;subst e3;have qt8:=ownsRow_putObj Z8 (.deferred none) hK rfl;refine⟨_,results_tmp rfl _ _ _,g,cap,rfl,hg,h1,h2,?_,z6.uF (hB.trans ((Below.refl w.heap.size W).grown (grownBy_putObj' W _ _) hB.size (fun k e=>by cases e;omega)))⟩;obtain⟨q1,q2⟩:=qt8;refine⟨q1,?_⟩;rcases q2 with q | ⟨g1,FQ,cur,q3,-,q4,q5,q6,q7⟩
   ·exact .inl q
   ·exact .inr ⟨g1,FQ,cur,q3,O2 _,q4,q5,q6,q7⟩
end Go.Proofs.YtlhlmcohdkkjpaaGreatDoor
