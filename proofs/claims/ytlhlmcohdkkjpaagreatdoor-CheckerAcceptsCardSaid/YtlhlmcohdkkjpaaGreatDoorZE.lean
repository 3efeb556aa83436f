/- Layer 17: members, the closures of problem.Valid. -/
import Derived.Test.YtlhlmcohdkkjpaaGreatDoorZD
import Derived.Test.YtlhlmcohdkkjpaaGreatDoorZC
import Derived.Laws.EntriesVeiled
set_option linter.all false
set_option maxHeartbeats 16000000
set_option maxRecDepth 100000
namespace Go.Proofs.YtlhlmcohdkkjpaaGreatDoor
open Go.RowKit
theorem Xh: ∀xs:List Int,xs.flatMap Ao=xs.map I
 | []=>rfl
 | a::t=>by rw[List.flatMap_cons,Bw,Xh t];rfl
def IB (w:World)(g:Nat)(xs:List Int):Prop:=j4 w g 3 ((xs.map I).toArray)
section
variable {w w':World}{g:Nat}{xs:List Int}{L:List Nat}
theorem IB.z7 (h:IB w g xs)(t:z6 L w w')(hg:g∉L):IB w' g xs:=j4.z7 h t hg
theorem IB.q8 (h:IB w g xs)(t:z6 [] w w'):IB w' g xs:=j4.z7 h t (by simp)
theorem IB.lt (h:IB w g xs):g<w.heap.size:=j4.lt h
variable{k:Nat}
theorem IB.at_ (h:IB w g xs)(hk:k<xs.length):w.cell? ⟨g,k,none⟩=some (.int .i64 xs[k]):=by
 have:=j4.cell h k;rw[this];simp[j6 hk,I]
theorem IB.frozen (h:IB w g xs)(k:Nat):w.frozen? ⟨g,k,none⟩=false:=j4.frozen h k
theorem IB.set (h:IB w g xs)(k:Nat)(x:Int):IB (w.setCell ⟨g,k,none⟩ (.int .i64 x)) g (xs.set k x)∧z6 [g] w (w.setCell ⟨g,k,none⟩ (.int .i64 x)):=by
 refine⟨?_,(z8 _ _).setCell (.inl (by simp)) _⟩;have:=j4.V8 h k (.int .i64 x);unfold IB
 rwa [show((xs.set k x).map I).toArray=(xs.map I).toArray.setIfInBounds k (.int .i64 x) by simp[List.map_set,I]]
theorem IB.new (w:World)(xs:List Int):IB (w.alloc (.cells ((xs.map I).toArray) 3)) w.heap.size xs:=j4.new _ _ _
theorem IB.bQ (h:IB w g xs)(hf: ∀x∈xs,Fits x){cap:Nat}(hc:xs.length≤cap)(hm:cap≤maxLen):e8 w (.slice (some ⟨g,0,none⟩) xs.length cap) xs:=by
 have e:=Xh xs;refine⟨⟨some ⟨g,0,none⟩,cap,rfl,hc,hm,by rw[e];simp,fun _=>⟨g,0,rfl,h.lt,fun j u hu=> ?_⟩⟩,hf⟩;rw[e]at hu;rw[O3];have:=j4.cell h j;rw[this];simpa using hu
end
theorem Jz:Gf Tryz.prog 30 3 1 8:=Gf.mk Tryz.underlying30 (z:= .int .i64 0) (by kernel_rfl) rfl (by decide)
theorem rj (m:Nat):madeCells (Value.int .i64 0).cells m=(((List.replicate m (0:Int)).map I).toArray):=by
 apply Array.ext
 ·simp[madeCells]
 ·intro i h1 h2;simp[madeCells,Value.cells,I];rw[Nat.mod_one];rfl
theorem Xe (m:Nat)(hm:m≤1099511627776)(W:World):(Instr.makeSlice 30 (.int .i64 (m:Int)) (.int .i64 (m:Int))).run Tryz.prog W= .ok (.slice (some ⟨W.heap.size,0,none⟩) m m) (W.alloc (.cells (((List.replicate m (0:Int)).map I).toArray) 3)):=by
 obtain⟨i0,hi,mJ,aX,Vp⟩:=info_parts YB;have hb:(i0.bytes:Int)*(m:Int)≤281474976710656:=by rw[Vp];omega
 have hr:=run_make (P:=Tryz.prog) W 30 3 i0 (.int .i64 0) Tryz.underlying30 hi mJ .i64 .i64 m m (by omega) (by omega) hb (by omega);simp only[X4]at hr;rw[hr,aX,Sc,rj]
def l5 (ds:List Dx):List Int:=ds.map Dx.st
def qw8 (w0:World)(g:Nat)(ds:List Dx)(ti:Value)(wr:World):Prop:= ∃k:Nat,k≤ds.length∧ti= .int .i64 (k:Int)∧z6 [g] w0 wr∧IB wr g (l5 (ds.take k)++List.replicate (ds.length - k) 0)
variable{k:Nat}{w:World}
theorem gm {ds:List Dx}(hk:k<ds.length):(l5 (ds.take k)++List.replicate (ds.length - k) 0).set k ds[k].st=l5 (ds.take (k+1))++List.replicate (ds.length - (k+1)) 0:=by
 have h1:(l5 (ds.take k)).length=k:=by simp[l5];omega
 rw[jj _ _ (by omega),h1,Wn];obtain⟨m,hm⟩: ∃m,ds.length - k=m+1:=⟨ds.length - k - 1,by omega⟩;rw[hm,jg,kD,show ds.length - (k+1)=m by omega,Cw hk];unfold l5;rw[Yi,List.append_assoc];rfl
theorem Ih (D P L C:Value)(ds:List Dx)(w:World)(hD:C0 w D ds)(hr: ∀d∈ds,Jb d.st)(hl:ds.length≤100000):Calls Tryz.prog 43 #[.agg #[D,P,L,C]] w fun r w'=>r= .returned (T5 (D9 (l5 ds)))∧z6 [] w w':=by
 obtain⟨A,cap,rfl,Ad,Cs⟩:=hD.form
 have hrs: ∀x∈l5 ds,Jb x:=fun x hx=>by
  obtain⟨d,hd,rfl⟩:=F4.1 hx;exact hr d hd
 have HD:=p7 (fun W t=>hD.q8 t);have HO:=O (fun(W:World) (g:Nat) (h:IB W g (l5 ds))=>Li (.slice (some ⟨g,0,none⟩) (l5 ds).length ds.length) (l5 ds) W (h.bQ (fun x hx=>by have:=hrs x hx;unfold Jb at this;unfold Fits;omega) (by simp[l5]) (by unfold maxLen;omega)) hrs);have Cr:=m8 (Ca hrs);have I6:=V7 (D9 (l5 ds));have DS:=Xe ds.length (by omega);have vz:(l5 ds).length=ds.length:=by simp[l5]
 rw[vz]at HO;unfold T5 at HO⊢;clear hD hr hrs;generalize ((D9 (l5 ds)).map y6).toArray=cs at*;obtain⟨zs,Vj⟩: ∃zs,zs=(((List.replicate ds.length (0:Int)).map I).toArray):=⟨_,rfl⟩;rw[←Vj]at DS;have I_:=O Vj;clear Vj;go_enter Tryz.func43,Tryz.ntmps43;go_wp2_with fail;have Fw:z6 [] w ((w.alloc (.cells #[.slice A ds.length cap,P,L,C] 29)).alloc (.cells ((l8.map y6).toArray) 69)):=((z8 [] w).alloc _).alloc _;have b1:=(((j4.new w 29 #[.slice A ds.length cap,P,L,C]).alloc (.cells ((l8.map y6).toArray) 69))).alloc (.cells zs 3);have b2:=(j4.new (w.alloc (.cells #[.slice A ds.length cap,P,L,C] 29)) 69 ((l8.map y6).toArray)).alloc (.cells zs 3);have b3:=IB.new ((w.alloc (.cells #[.slice A ds.length cap,P,L,C] 29)).alloc (.cells ((l8.map y6).toArray) 69)) (List.replicate ds.length (0:Int));rw[←I_.o]at b3;simp only[World.size_alloc]at b2 b3;have OG:=Fw.alloc (.cells zs 3);have Co:=O (a9 w.heap.size);simp only[y6,List.map,l8]at b1 b2 b3 OG;clear Fw;generalize El:((World.alloc _ _).alloc (.cells zs 3))=w0 at b1 b2 b3 OG⊢;obtain⟨g,hg⟩: ∃g,g=w.heap.size:=⟨_,rfl⟩;rw[←hg]at b1 b2 b3⊢;have HG:=O hg;have O5:=O b2;have Vu:=O OG;have uy:=O b3;clear hg El b2 OG b3 DS;go_loopw [15] (fun ti wr=>qw8 w0 (g+1+1) ds ti wr) (fun ti _=>ds.length - (intOf ti).toNat)
 case atStart=>exact⟨0,by omega,rfl,z8 _ _,by simpa[l5]using uy.o⟩
 case round=>
  clear uy b1;obtain⟨k,hk,rfl,ht,q_⟩:=hrel;have Q8:=O (Vu.o.step ht (fun m hm=> .inr (by rw[y7]at hm;have:=HG.o;omega)));have hHD:=HD.o wr Q8.o;have HT:=O ht;by_cases Z:k<ds.length
  ·have j1:(k:Int)< (ds.length:Int):=by omega
   obtain⟨b,off,c,rfl,hb,-,N0⟩:=hHD.at_ Z;obtain⟨c0,c1,B8⟩:=N0 wr (z8 _ _);obtain⟨A2,X2,rfl⟩:=B8.form;have HIB:=O q_;have HMB:=O (gm Z);have Z8:(l5 (ds.take k)++List.replicate (ds.length - k) 0).length=ds.length:=by simp[l5];omega
   have V9:k< (l5 (ds.take k)++List.replicate (ds.length - k) 0).length:=by omega
   have cr:=q_.at_ V9;have fr:=q_.frozen k;have mz:=q_.lt;generalize (l5 (ds.take k)++List.replicate (ds.length - k) 0)=ys at*;generalize ys[k]=y at*;clear N0 B8 hHD q_ ht V9 Z8;generalize ds[k].st=st at*;generalize ds[k].ch.length=cl at*;go_wp2_with fail;go_roundw
   case rel=>
    obtain⟨s1,s2⟩:=HIB.o.set k st;exact⟨k+1,by omega,by go_num,(HT.o.trans s2).alloc _,by rw[←HMB.o];exact s1.q8 ((z8 [] _).alloc _)⟩
   case measure=>simp[intOf];omega
  ·have j1: ¬(k:Int)< (ds.length:Int):=by omega
   have I1:k=ds.length:=by omega
   have qo4:IB wr (g+1+1) (l5 ds):=by simpa[I1]using q_
   have HIB:=O (HO.o wr _ qo4);have b2:=O (O5.o.z7 ht (by simp));clear q_ qo4 ht I1;go_wp2_with fail;refine HIB.o.mono ?_;rintro r w5 ⟨rfl,DM⟩;have b2b:=(b2.o.z7 DM (by simp)).alloc (.cells ((l8.map y6).toArray) 69);have X3:g+1≠w5.heap.size:=by have:=(b2.o.z7 DM (by simp)).lt;omega
   have K8:=O ((Q8.o.Y DM).alloc (.cells ((l8.map y6).toArray) 69));simp only[y6,List.map,l8]at b2b K8;have gS:=O Q8.o.size;have zg5:=O DM.size;clear DM;go_wp2_with (first | (refine U5 b6 Cr ?_) | (refine D0 b2c rfl Cr I6 ?_;intro w7 b7 th) | (refine D0 (j4.new _ _ _) rfl Cr I6 ?_;intro w6 b6 vq;have b2c:=b2b.z7 vq (by simpa using X3)));refine bodyPost_ret (results_cell_row rfl _ w7 (g+1) 69 cs (0,0) _ rfl b7 Tryz.underlying69 rfl (by rw[Cr];kernel_rfl)) rfl ⟨rfl,?_⟩;refine(K8.o.step vq (fun m hm=> .inr ?_)).step th (fun m hm=> .inr ?_)
   ·rw[y7]at hm;have:=gS.o;have:=zg5.o;omega
   ·rw[y7]at hm;have:=HG.o;omega
theorem Jx {ops:Array Oper}{rest:List Oper}{o:Oper}{a:Act}{Q:Exit→Act→World→Prop}{x:Operand}{g:Nat}{cs:Array Value}(hb:j4 w g 69 cs)(hs:cs.size=8)
  (h:wpList Tryz.prog ops Q rest (a.put o.dst (.agg cs)) w) (Cn:Region.wanted o (yielded ops a.tmps)=true:=by rfl) (ho:o.op= .load 69 x:=by rfl) (hx:a.eval x= .pointer (some ⟨g,0,none⟩):=by rfl):wpList Tryz.prog ops Q (o::rest) a w:=
 wpList_step fun _ hK=>by
  rw[x9 Cn];exact wp_load_row 69 x ho g hx 69 cs (0,0) _ hb Tryz.underlying69 rfl (by rw[hs];kernel_rfl) (hK _ _ h)
theorem zV (x:Q5)(g:Nat)(ws:List Nat)(hw:Wf ws)(w:World)(hb:j4 w g 69 ((ws.map y6).toArray)):Calls Tryz.prog 81 #[.agg #[.int .i64 x.a,.int .i64 x.b,.int .i64 x.c,.int .i64 x.d,.int .i64 x.e],.pointer (some ⟨g,0,none⟩)] w fun r w'=>r= .returned (.bool (Z1 ws x.a&&Z1 ws x.b))∧z6 [] w w':=by
 have hs:=m8 hw;have H1:=O (fun W=>Ee ws hw x.a W);have H2:=O (fun W=>Ee ws hw x.b W);unfold T5 at H1 H2;clear hw;generalize Z1 ws x.a=m1 at*;generalize Z1 ws x.b=m2 at*;generalize (ws.map y6).toArray=cs at*;obtain⟨a,b,c,d,e⟩:=x;have ht:=(z8 [] w).alloc (.cells #[.int .i64 a,.int .i64 b,.int .i64 c,.int .i64 d,.int .i64 e] 79);have b1:=hb.z7 ht (by simp);have b2:=j4.new w 79 #[.int .i64 a,.int .i64 b,.int .i64 c,.int .i64 d,.int .i64 e];clear hb
 cases m1 with
 | false=>
  go_enter Tryz.func81,Tryz.ntmps81;go_wp2_with (refine U5 b1 hs ?_);refine(H1.o _).mono ?_;rintro r w1 ⟨rfl,t1⟩;go_wp2_with fail;go_ret;exact⟨rfl,ht.Y t1⟩
 | true=>
  go_enter Tryz.func81,Tryz.ntmps81;go_wp2_with (refine U5 b1 hs ?_);refine(H1.o _).mono ?_;rintro r w1 ⟨rfl,t1⟩;have b3:=b1.z7 t1 (by simp);have c1:=(b2.z7 t1 (by simp)).cell 1;simp only[Tv,Rc,jy]at c1;have f1:=(b2.z7 t1 (by simp)).frozen 1;go_wp2_with (refine Jx b3 hs ?_);refine(H2.o _).mono ?_;rintro r w2 ⟨rfl,t2⟩;go_wp2_with fail;go_ret;exact⟨by simp,(ht.Y t1).Y t2⟩
theorem zU (x:Q5)(g:Nat)(ws:List Nat)(hw:Wf ws)(w:World)(hb:j4 w g 69 ((ws.map y6).toArray)):Calls Tryz.prog 83 #[.agg #[.int .i64 x.a,.int .i64 x.b,.int .i64 x.c,.int .i64 x.d,.int .i64 x.e],.pointer (some ⟨g,0,none⟩)] w fun r w'=>r= .returned (.bool (Z1 ws x.a&&Z1 ws x.b))∧z6 [] w w':=by
 have hs:=m8 hw;have H1:=O (fun W=>Ee ws hw x.a W);have H2:=O (fun W=>Ee ws hw x.b W);unfold T5 at H1 H2;clear hw;generalize Z1 ws x.a=m1 at*;generalize Z1 ws x.b=m2 at*;generalize (ws.map y6).toArray=cs at*;obtain⟨a,b,c,d,e⟩:=x;have ht:=(z8 [] w).alloc (.cells #[.int .i64 a,.int .i64 b,.int .i64 c,.int .i64 d,.int .i64 e] 81);have b1:=hb.z7 ht (by simp);have b2:=j4.new w 81 #[.int .i64 a,.int .i64 b,.int .i64 c,.int .i64 d,.int .i64 e];clear hb
 cases m1 with
 | false=>
  go_enter Tryz.func83,Tryz.ntmps83;go_wp2_with (refine U5 b1 hs ?_);refine(H1.o _).mono ?_;rintro r w1 ⟨rfl,t1⟩;go_wp2_with fail;go_ret;exact⟨rfl,ht.Y t1⟩
 | true=>
  go_enter Tryz.func83,Tryz.ntmps83;go_wp2_with (refine U5 b1 hs ?_);refine(H1.o _).mono ?_;rintro r w1 ⟨rfl,t1⟩;have b3:=b1.z7 t1 (by simp);have c1:=(b2.z7 t1 (by simp)).cell 1;simp only[Tv,Rc,jy]at c1;have f1:=(b2.z7 t1 (by simp)).frozen 1;go_wp2_with (refine Jx b3 hs ?_);refine(H2.o _).mono ?_;rintro r w2 ⟨rfl,t2⟩;go_wp2_with fail;go_ret;exact⟨by simp,(ht.Y t1).Y t2⟩
theorem zT (x:Q4)(g:Nat)(ws:List Nat)(hw:Wf ws)(w:World)(hb:j4 w g 69 ((ws.map y6).toArray)):Calls Tryz.prog 85 #[.agg #[.int .i64 x.a,.int .i64 x.b,.int .i64 x.c,.int .i64 x.d],.pointer (some ⟨g,0,none⟩)] w fun r w'=>r= .returned (.bool (Z1 ws x.a))∧z6 [] w w':=by
 have hs:=m8 hw;have H1:=O (fun W=>Ee ws hw x.a W);unfold T5 at H1;clear hw;generalize Z1 ws x.a=m1 at*;generalize (ws.map y6).toArray=cs at*;obtain⟨a,b,c,d⟩:=x;have ht:=(z8 [] w).alloc (.cells #[.int .i64 a,.int .i64 b,.int .i64 c,.int .i64 d] 83);have b1:=hb.z7 ht (by simp);have b2:=j4.new w 83 #[.int .i64 a,.int .i64 b,.int .i64 c,.int .i64 d];clear hb;go_enter Tryz.func85,Tryz.ntmps85;go_wp2_with (refine U5 b1 hs ?_);refine(H1.o _).mono ?_;rintro r w1 ⟨rfl,t1⟩;go_wp2_with fail;go_ret;exact⟨rfl,ht.Y t1⟩
theorem gG (F:FuncId)(g0:Nat)(good:Q5→Bool)(v:Value)(l:List Q5)(w:World)(hv:o5 w v l)(hF: ∀args W,(callFunc F args).run Tryz.prog W= .ok (.enter F args) W)
  (Nc: ∀W (x:Q5),z6 [] w W→Calls Tryz.prog F #[.agg #[.int .i64 x.a,.int .i64 x.b,.int .i64 x.c,.int .i64 x.d,.int .i64 x.e],.pointer (some ⟨g0,0,none⟩)] W fun r w'=>r= .returned (.bool (good x))∧z6 [] W w'):
  Calls Tryz.prog 80 #[v,.func (.func F) #[] #[.pointer (some ⟨g0,0,none⟩)]] w fun r w'=>r= .returned (.bool (l.all good))∧z6 [] w w':=by
 obtain⟨A,cap,rfl⟩:=hv.form;obtain⟨Ad,Cs⟩:=hv.cap;have Z7:nZ w good l (l.all good) (.int .i64 0) w:=⟨0,by omega,rfl,z8 _ _,O rfl⟩;generalize l.all good=n9 at*;have HC:=O Nc;clear Nc;go_enter Tryz.func80,Tryz.ntmps80;go_wp2_with fail;go_loopw [9] (fun ti wr=>nZ w good l n9 ti wr) (fun ti _=>l.length - (intOf ti).toNat)
 case atStart=>exact Z7
 case round=>
  clear Z7;obtain⟨k,hk,rfl,ht,HX⟩:=hrel;by_cases Z:k<l.length
  ·have j1:(k:Int)< (l.length:Int):=by omega
   obtain⟨b,off,rfl,hb⟩:=hv.addr Z;obtain⟨ca,cb,cc,cd,ce⟩:=o5.at_ (hv.q8 ht) Z;have Pm:b<wr.heap.size:=by have:=ht.size;omega
   have N5:Hid (n9=(good l[k]&&(l.drop (k+1)).all good)):=O (HX.o.trans (Eg Z));have Ze:=O (HC.o (wr.alloc (.cells #[.int .i64 l[k].a,.int .i64 l[k].b,.int .i64 l[k].c,.int .i64 l[k].d,.int .i64 l[k].e] 79)) l[k] (ht.alloc _));have V0:=O (ht.alloc (.cells #[.int .i64 l[k].a,.int .i64 l[k].b,.int .i64 l[k].c,.int .i64 l[k].d,.int .i64 l[k].e] 79));clear HX hv;generalize hg:good l[k]=gb at*;clear hg;generalize l[k].a=xa at*;generalize l[k].b=xb at*;generalize l[k].c=xc at*;generalize l[k].d=xd at*;generalize l[k].e=xe at*
   cases gb with
   | false=>
    have y5:Hid (n9=false):=N5;clear N5;go_wp2_with fail
    refine Ze.o.mono ?_
    rintro r w2 ⟨rfl,V4⟩;go_wp2_with fail;go_ret;exact⟨v9 (by rw[y5.o]),V0.o.Y V4⟩
   | true=>
    have My:Hid (n9=(l.drop (k+1)).all good):=N5;clear N5;go_wp2_with fail
    refine Ze.o.mono ?_
    rintro r w2 ⟨rfl,V4⟩;go_wp2_with fail;go_roundw
    case rel=>exact⟨k+1,by omega,by go_num,V0.o.Y V4,My⟩
    case measure=>simp[intOf];omega
  ·have j1: ¬(k:Int)< (l.length:Int):=by omega
   have y5:Hid (n9=true):=O (by rw[HX.o,Hz (by omega)];rfl);clear HX;go_wp2_with fail;go_ret;exact⟨v9 (by rw[y5.o]),ht⟩
theorem gH (F:FuncId)(g0:Nat)(good:Q5→Bool)(v:Value)(l:List Q5)(w:World)(hv:o5 w v l)(hF: ∀args W,(callFunc F args).run Tryz.prog W= .ok (.enter F args) W)
  (Nc: ∀W (x:Q5),z6 [] w W→Calls Tryz.prog F #[.agg #[.int .i64 x.a,.int .i64 x.b,.int .i64 x.c,.int .i64 x.d,.int .i64 x.e],.pointer (some ⟨g0,0,none⟩)] W fun r w'=>r= .returned (.bool (good x))∧z6 [] W w'):
  Calls Tryz.prog 82 #[v,.func (.func F) #[] #[.pointer (some ⟨g0,0,none⟩)]] w fun r w'=>r= .returned (.bool (l.all good))∧z6 [] w w':=by
 obtain⟨A,cap,rfl⟩:=hv.form;obtain⟨Ad,Cs⟩:=hv.cap;have Z7:oA w good l (l.all good) (.int .i64 0) w:=⟨0,by omega,rfl,z8 _ _,O rfl⟩;generalize l.all good=n9 at*;have HC:=O Nc;clear Nc;go_enter Tryz.func82,Tryz.ntmps82;go_wp2_with fail;go_loopw [9] (fun ti wr=>oA w good l n9 ti wr) (fun ti _=>l.length - (intOf ti).toNat)
 case atStart=>exact Z7
 case round=>
  clear Z7;obtain⟨k,hk,rfl,ht,HX⟩:=hrel;by_cases Z:k<l.length
  ·have j1:(k:Int)< (l.length:Int):=by omega
   obtain⟨b,off,rfl,hb⟩:=hv.addr Z;obtain⟨ca,cb,cc,cd,ce⟩:=o5.at_ (hv.q8 ht) Z;have Pm:b<wr.heap.size:=by have:=ht.size;omega
   have N5:Hid (n9=(good l[k]&&(l.drop (k+1)).all good)):=O (HX.o.trans (Eg Z));have Ze:=O (HC.o (wr.alloc (.cells #[.int .i64 l[k].a,.int .i64 l[k].b,.int .i64 l[k].c,.int .i64 l[k].d,.int .i64 l[k].e] 81)) l[k] (ht.alloc _));have V0:=O (ht.alloc (.cells #[.int .i64 l[k].a,.int .i64 l[k].b,.int .i64 l[k].c,.int .i64 l[k].d,.int .i64 l[k].e] 81));clear HX hv;generalize hg:good l[k]=gb at*;clear hg;generalize l[k].a=xa at*;generalize l[k].b=xb at*;generalize l[k].c=xc at*;generalize l[k].d=xd at*;generalize l[k].e=xe at*
   cases gb with
   | false=>
    have y5:Hid (n9=false):=N5;clear N5;go_wp2_with fail
    refine Ze.o.mono ?_
    rintro r w2 ⟨rfl,V4⟩;go_wp2_with fail;go_ret;exact⟨v9 (by rw[y5.o]),V0.o.Y V4⟩
   | true=>
    have My:Hid (n9=(l.drop (k+1)).all good):=N5;clear N5;go_wp2_with fail
    refine Ze.o.mono ?_
    rintro r w2 ⟨rfl,V4⟩;go_wp2_with fail;go_roundw
    case rel=>exact⟨k+1,by omega,by go_num,V0.o.Y V4,My⟩
    case measure=>simp[intOf];omega
  ·have j1: ¬(k:Int)< (l.length:Int):=by omega
   have y5:Hid (n9=true):=O (by rw[HX.o,Hz (by omega)];rfl);clear HX;go_wp2_with fail;go_ret;exact⟨v9 (by rw[y5.o]),ht⟩
theorem jA (F:FuncId)(g0:Nat)(good:Q4→Bool)(v:Value)(l:List Q4)(w:World)(hv:T9 w v l)(hF: ∀args W,(callFunc F args).run Tryz.prog W= .ok (.enter F args) W)
  (Nc: ∀W (x:Q4),z6 [] w W→Calls Tryz.prog F #[.agg #[.int .i64 x.a,.int .i64 x.b,.int .i64 x.c,.int .i64 x.d],.pointer (some ⟨g0,0,none⟩)] W fun r w'=>r= .returned (.bool (good x))∧z6 [] W w'):
  Calls Tryz.prog 84 #[v,.func (.func F) #[] #[.pointer (some ⟨g0,0,none⟩)]] w fun r w'=>r= .returned (.bool (l.all good))∧z6 [] w w':=by
 obtain⟨A,cap,rfl⟩:=hv.form;obtain⟨Ad,Cs⟩:=hv.cap;have Z7:jm w good l (l.all good) (.int .i64 0) w:=⟨0,by omega,rfl,z8 _ _,O rfl⟩;generalize l.all good=n9 at*;have HC:=O Nc;clear Nc;go_enter Tryz.func84,Tryz.ntmps84;go_wp2_with fail;go_loopw [9] (fun ti wr=>jm w good l n9 ti wr) (fun ti _=>l.length - (intOf ti).toNat)
 case atStart=>exact Z7
 case round=>
  clear Z7;obtain⟨k,hk,rfl,ht,HX⟩:=hrel;by_cases Z:k<l.length
  ·have j1:(k:Int)< (l.length:Int):=by omega
   obtain⟨b,off,rfl,hb⟩:=hv.addr Z;obtain⟨ca,cb,cc,cd⟩:=T9.at_ (hv.q8 ht) Z;have Pm:b<wr.heap.size:=by have:=ht.size;omega
   have N5:Hid (n9=(good l[k]&&(l.drop (k+1)).all good)):=O (HX.o.trans (Eg Z));have Ze:=O (HC.o (wr.alloc (.cells #[.int .i64 l[k].a,.int .i64 l[k].b,.int .i64 l[k].c,.int .i64 l[k].d] 83)) l[k] (ht.alloc _));have V0:=O (ht.alloc (.cells #[.int .i64 l[k].a,.int .i64 l[k].b,.int .i64 l[k].c,.int .i64 l[k].d] 83));clear HX hv;generalize hg:good l[k]=gb at*;clear hg;generalize l[k].a=xa at*;generalize l[k].b=xb at*;generalize l[k].c=xc at*;generalize l[k].d=xd at*
   cases gb with
   | false=>
    have y5:Hid (n9=false):=N5;clear N5;go_wp2_with fail
    refine Ze.o.mono ?_
    rintro r w2 ⟨rfl,V4⟩;go_wp2_with fail;go_ret;exact⟨v9 (by rw[y5.o]),V0.o.Y V4⟩
   | true=>
    have My:Hid (n9=(l.drop (k+1)).all good):=N5;clear N5;go_wp2_with fail
    refine Ze.o.mono ?_
    rintro r w2 ⟨rfl,V4⟩;go_wp2_with fail;go_roundw
    case rel=>exact⟨k+1,by omega,by go_num,V0.o.Y V4,My⟩
    case measure=>simp[intOf];omega
  ·have j1: ¬(k:Int)< (l.length:Int):=by omega
   have y5:Hid (n9=true):=O (by rw[HX.o,Hz (by omega)];rfl);clear HX;go_wp2_with fail;go_ret;exact⟨v9 (by rw[y5.o]),ht⟩
structure Px where
 D:List Dx
 R:Rx
structure K3 (w:World)(VD VP VL VC:Value)(p:Px):Prop where
 d:C0 w VD p.D
 pr:o5 w VP p.R.P
 ld:o5 w VL p.R.L
 cp:T9 w VC p.R.C
structure P0 (p:Px):Prop where
 d:p.D.length≤100000
 ch: ∀x∈p.D,x.ch.length≤100000
 pr:p.R.P.length≤100000
 ld:p.R.L.length≤100000
 cp:p.R.C.length≤100000
theorem K3.q8 {w':World}{VD VP VL VC:Value}{p:Px}(h:K3 w VD VP VL VC p)(t:z6 [] w w'):K3 w' VD VP VL VC p:=⟨h.d.q8 t,h.pr.q8 t,h.ld.q8 t,h.cp.q8 t⟩
def y8 (p:Px)(n:Int):Bool:=(l5 p.D).contains n
noncomputable def J5 (p:Px):Bool:=p.D.all K4&&(V1 p.R&&(N8 R9 p.D&&(p.R.P.all (fun x=>y8 p x.a&&y8 p x.b)&&(p.R.L.all (fun x=>y8 p x.a&&y8 p x.b)&&p.R.C.all (fun x=>y8 p x.a)))))
theorem lQ {l:List Dx}(h:l.all K4=true): ∀d∈l,Jb d.st:=fun d hd=>by
 have:=(Z6.1 h) d hd;unfold K4 at this;rw[p9]at this;have h2:=U9 this.1;unfold Jb;omega
theorem Di (p:Px)(VD VP VL VC:Value)(w:World)(h:K3 w VD VP VL VC p)(hl:P0 p):Calls Tryz.prog 41 #[.agg #[VD,VP,VL,VC]] w fun r w'=>r= .returned (.bool (J5 p))∧z6 [] w w':=by
 have HS:Hid (J5 p=(p.D.all K4&&(V1 p.R&&(N8 R9 p.D&&(p.R.P.all (fun x=>y8 p x.a&&y8 p x.b)&&(p.R.L.all (fun x=>y8 p x.a&&y8 p x.b)&&p.R.C.all (fun x=>y8 p x.a))))))):=O rfl;have HE:=p7 (fun W t=>qB 75 K4 VD p.D W (h.d.q8 t) (fun _ _=>by kernel_rfl) (fun W x c hx _ hn=>gE x c W hn (hl.ch x hx)));have HR:=p7 (fun W t=>gB p.R VP VL VC W (h.pr.q8 t) (h.ld.q8 t) (h.cp.q8 t) hl.pr hl.ld hl.cp);have HI:=p7 (fun W t=>wD VD p.D W (h.d.q8 t) hl.d);have HM:=O (fun(hr: ∀d∈p.D,Jb d.st) (W:World) (t:z6 [] w W)=>Ih VD VP VL VC p.D W (h.d.q8 t) hr hl.d);have qf0:=O (fun(e:p.D.all K4=true)=>lQ e);have mn:=O (fun(hr: ∀d∈p.D,Jb d.st)=>Ca (l:=l5 p.D) (fun x hx=>by obtain⟨d,hd,rfl⟩:=F4.1 hx;exact hr d hd));have GH:=O (fun(hr: ∀d∈p.D,Jb d.st)=>Y4 (l:=l5 p.D) (fun x hx=>by obtain⟨d,hd,rfl⟩:=F4.1 hx;exact hr d hd))
 have DF:=O (fun(hr: ∀d∈p.D,Jb d.st) (W:World) (t:z6 [] w W) (g:Nat) (hb:j4 W g 69 (((D9 (l5 p.D)).map y6).toArray))=>gG 81 g (fun x=>y8 p x.a&&y8 p x.b) VP p.R.P W (h.pr.q8 t) (fun _ _=>by kernel_rfl) (fun W' x t'=>by
  have:=zV x g (D9 (l5 p.D)) (mn.o hr) W' (hb.z7 t' (by simp));rw[GH.o hr,GH.o hr]at this
  exact this))
 have XS:=O (fun(hr: ∀d∈p.D,Jb d.st) (W:World) (t:z6 [] w W) (g:Nat) (hb:j4 W g 69 (((D9 (l5 p.D)).map y6).toArray))=>gH 83 g (fun x=>y8 p x.a&&y8 p x.b) VL p.R.L W (h.ld.q8 t) (fun _ _=>by kernel_rfl) (fun W' x t'=>by
  have:=zU x g (D9 (l5 p.D)) (mn.o hr) W' (hb.z7 t' (by simp));rw[GH.o hr,GH.o hr]at this
  exact this))
 have HEC:=O (fun(hr: ∀d∈p.D,Jb d.st) (W:World) (t:z6 [] w W) (g:Nat) (hb:j4 W g 69 (((D9 (l5 p.D)).map y6).toArray))=>jA 85 g (fun x=>y8 p x.a) VC p.R.C W (h.cp.q8 t) (fun _ _=>by kernel_rfl) (fun W' x t'=>by
  have:=zT x g (D9 (l5 p.D)) (mn.o hr) W' (hb.z7 t' (by simp));rw[GH.o hr]at this
  exact this))
 obtain⟨AD,cD,rfl,-,-⟩:=h.d.form;obtain⟨AP,cP,rfl⟩:=h.pr.form;obtain⟨AL,cL,rfl⟩:=h.ld.form;obtain⟨AC,cC,rfl⟩:=h.cp.form;have b0:=j4.new w 29 #[.slice AD p.D.length cD,.slice AP p.R.P.length cP,.slice AL p.R.L.length cL,.slice AC p.R.C.length cC];have o6:z6 [] w (w.alloc (.cells #[.slice AD p.D.length cD,.slice AP p.R.P.length cP,.slice AL p.R.L.length cL,.slice AC p.R.C.length cC] 29)):=(z8 [] w).alloc _;have HC:Hid (∀W',z6 [] (w.alloc (.cells #[.slice AD p.D.length cD,.slice AP p.R.P.length cP,.slice AL p.R.L.length cL,.slice AC p.R.C.length cC] 29)) W'→W'.cell? ⟨w.heap.size,0,none⟩=some (.slice AD p.D.length cD)∧W'.cell? ⟨w.heap.size,1,none⟩=some (.slice AP p.R.P.length cP)∧W'.cell? ⟨w.heap.size,2,none⟩=some (.slice AL p.R.L.length cL)∧W'.cell? ⟨w.heap.size,3,none⟩=some (.slice AC p.R.C.length cC)):=O (fun W' t=>⟨((b0.z7 t (by simp)).cell 0).trans rfl,((b0.z7 t (by simp)).cell 1).trans rfl,((b0.z7 t (by simp)).cell 2).trans rfl,((b0.z7 t (by simp)).cell 3).trans rfl⟩);have hmf:=uH;clear b0 h hl;generalize J5 p=n9 at*;generalize bC:p.D.all K4=q0 at*;generalize Vr:V1 p.R=q1 at*;generalize Ba:N8 R9 p.D=q2 at*;generalize qY:p.R.P.all (fun x=>y8 p x.a&&y8 p x.b)=q3 at*;generalize i_:p.R.L.all (fun x=>y8 p x.a&&y8 p x.b)=q4 at*;generalize hq5:p.R.C.all (fun x=>y8 p x.a)=q5 at*;have HQ0:=O bC;clear bC Vr Ba qY i_ hq5
 cases q0 with
 | false=>
  have y5:Hid (n9=false):=HS;clear HS;go_enter Tryz.func41,Tryz.ntmps41;go_wp2_with fail
  refine(HE.o _ o6).mono ?_
  rintro r w1 ⟨rfl,t1⟩;obtain⟨OC,Ik,OB,OA⟩:=HC.o _ t1;go_wp2_with fail;go_ret;exact⟨v9 (by rw[y5.o]),o6.Y t1⟩
 | true=>
  rw[Z4]at HS
  cases q1 with
  | false=>
   have y5:Hid (n9=false):=HS;clear HS;go_enter Tryz.func41,Tryz.ntmps41;go_wp2_with fail
   refine(HE.o _ o6).mono ?_
   rintro r w1 ⟨rfl,t1⟩;obtain⟨OC,Ik,OB,OA⟩:=HC.o _ t1;go_wp2_with fail
   refine(HR.o _ (o6.Y t1)).mono ?_
   rintro r w2 ⟨rfl,t2⟩;obtain⟨VX,VW,VV,VU⟩:=HC.o _ ((t1).Y t2);clear OC Ik OB OA;go_wp2_with fail;go_ret;exact⟨v9 (by rw[y5.o]),(o6.Y t1).Y t2⟩
  | true=>
   rw[Z4]at HS
   cases q2 with
   | false=>
    have y5:Hid (n9=false):=HS;clear HS;go_enter Tryz.func41,Tryz.ntmps41;go_wp2_with fail
    refine(HE.o _ o6).mono ?_
    rintro r w1 ⟨rfl,t1⟩;obtain⟨OC,Ik,OB,OA⟩:=HC.o _ t1;go_wp2_with fail
    refine(HR.o _ (o6.Y t1)).mono ?_
    rintro r w2 ⟨rfl,t2⟩;obtain⟨VX,VW,VV,VU⟩:=HC.o _ ((t1).Y t2);clear OC Ik OB OA;go_wp2_with fail
    refine(HI.o _ ((o6.Y t1).Y t2)).mono ?_
    rintro r w3 ⟨rfl,t3⟩;obtain⟨k30,k31,k32,k33⟩:=HC.o _ (((t1).Y t2).Y t3);clear VX VW VV VU;go_wp2_with fail;go_ret;exact⟨v9 (by rw[y5.o]),((o6.Y t1).Y t2).Y t3⟩
   | true=>
    rw[Z4]at HS
    cases q3 with
    | false=>
     have y5:Hid (n9=false):=HS;clear HS;go_enter Tryz.func41,Tryz.ntmps41;go_wp2_with fail
     refine(HE.o _ o6).mono ?_
     rintro r w1 ⟨rfl,t1⟩;obtain⟨OC,Ik,OB,OA⟩:=HC.o _ t1;go_wp2_with fail
     refine(HR.o _ (o6.Y t1)).mono ?_
     rintro r w2 ⟨rfl,t2⟩;obtain⟨VX,VW,VV,VU⟩:=HC.o _ ((t1).Y t2);clear OC Ik OB OA;go_wp2_with fail
     refine(HI.o _ ((o6.Y t1).Y t2)).mono ?_
     rintro r w3 ⟨rfl,t3⟩;obtain⟨k30,k31,k32,k33⟩:=HC.o _ (((t1).Y t2).Y t3);clear VX VW VV VU;go_wp2_with fail;have hr:=qf0.o (by trivial);have Cr:=m8 (mn.o hr);have I6:=V7 (D9 (l5 p.D));have DB:=O (HM.o hr);have GK:=O (DF.o hr);unfold T5 at DB;clear hr;generalize ((D9 (l5 p.D)).map y6).toArray=cs at*
     refine(DB.o _ (((o6.Y t1).Y t2).Y t3)).mono ?_
     rintro r w4 ⟨rfl,t4⟩;obtain⟨k40,k41,k42,k43⟩:=HC.o _ ((((t1).Y t2).Y t3).Y t4);have TA:=O ((((o6.Y t1).Y t2).Y t3).Y t4);have XC:=O ((((t1).Y t2).Y t3).Y t4);have VN:=TA.o.alloc (.cells (((l8.map y6).toArray)) 69);have VK:=XC.o.alloc (.cells (((l8.map y6).toArray)) 69);simp only[y6,List.map,l8]at VN VK;clear k30 k31 k32 k33;go_wp2_with (refine D0 (j4.new _ _ _) rfl Cr I6 ?_;intro w5 b5 t5;have ta:=VN.step t5 (fun m hm=> .inr (by rw[y7]at hm;have:=TA.o.size;omega));have tc:=VK.step t5 (fun m hm=> .inr (by rw[y7]at hm;have:=XC.o.size;omega));obtain⟨k50,k51,k52,k53⟩:=HC.o _ tc;clear k40 k41 k42 k43)
     refine(GK.o _ ta _ b5).mono ?_
     rintro r w6 ⟨rfl,t6⟩;obtain⟨k60,k61,k62,k63⟩:=HC.o _ (tc.Y t6);clear k50 k51 k52 k53;go_wp2_with fail;go_ret;exact⟨v9 (by rw[y5.o]),ta.Y t6⟩
    | true=>
     rw[Z4]at HS
     cases q4 with
     | false=>
      have y5:Hid (n9=false):=HS;clear HS;go_enter Tryz.func41,Tryz.ntmps41;go_wp2_with fail
      refine(HE.o _ o6).mono ?_
      rintro r w1 ⟨rfl,t1⟩;obtain⟨OC,Ik,OB,OA⟩:=HC.o _ t1;go_wp2_with fail
      refine(HR.o _ (o6.Y t1)).mono ?_
      rintro r w2 ⟨rfl,t2⟩;obtain⟨VX,VW,VV,VU⟩:=HC.o _ ((t1).Y t2);clear OC Ik OB OA;go_wp2_with fail
      refine(HI.o _ ((o6.Y t1).Y t2)).mono ?_
      rintro r w3 ⟨rfl,t3⟩;obtain⟨k30,k31,k32,k33⟩:=HC.o _ (((t1).Y t2).Y t3);clear VX VW VV VU;go_wp2_with fail;have hr:=qf0.o (by trivial);have Cr:=m8 (mn.o hr);have I6:=V7 (D9 (l5 p.D));have DB:=O (HM.o hr);have GK:=O (DF.o hr);have qf1:=O (XS.o hr);unfold T5 at DB;clear hr;generalize ((D9 (l5 p.D)).map y6).toArray=cs at*
      refine(DB.o _ (((o6.Y t1).Y t2).Y t3)).mono ?_
      rintro r w4 ⟨rfl,t4⟩;obtain⟨k40,k41,k42,k43⟩:=HC.o _ ((((t1).Y t2).Y t3).Y t4);have TA:=O ((((o6.Y t1).Y t2).Y t3).Y t4);have XC:=O ((((t1).Y t2).Y t3).Y t4);have VN:=TA.o.alloc (.cells (((l8.map y6).toArray)) 69);have VK:=XC.o.alloc (.cells (((l8.map y6).toArray)) 69);simp only[y6,List.map,l8]at VN VK;clear k30 k31 k32 k33;go_wp2_with (refine D0 (j4.new _ _ _) rfl Cr I6 ?_;intro w5 b5 t5;have ta:=VN.step t5 (fun m hm=> .inr (by rw[y7]at hm;have:=TA.o.size;omega));have tc:=VK.step t5 (fun m hm=> .inr (by rw[y7]at hm;have:=XC.o.size;omega));obtain⟨k50,k51,k52,k53⟩:=HC.o _ tc;clear k40 k41 k42 k43)
      refine(GK.o _ ta _ b5).mono ?_
      rintro r w6 ⟨rfl,t6⟩;obtain⟨k60,k61,k62,k63⟩:=HC.o _ (tc.Y t6);clear k50 k51 k52 k53;go_wp2_with fail
      refine(qf1.o _ (ta.Y t6) _ (b5.z7 t6 (by simp))).mono ?_
      rintro r w7 ⟨rfl,t7⟩;obtain⟨k70,k71,k72,k73⟩:=HC.o _ ((tc.Y t6).Y t7);clear k60 k61 k62 k63;go_wp2_with fail;go_ret;exact⟨v9 (by rw[y5.o]),(ta.Y t6).Y t7⟩
     | true=>
      rw[Z4]at HS;have y5:=HS;clear HS;go_enter Tryz.func41,Tryz.ntmps41;go_wp2_with fail
      refine(HE.o _ o6).mono ?_
      rintro r w1 ⟨rfl,t1⟩;obtain⟨OC,Ik,OB,OA⟩:=HC.o _ t1;go_wp2_with fail
      refine(HR.o _ (o6.Y t1)).mono ?_
      rintro r w2 ⟨rfl,t2⟩;obtain⟨VX,VW,VV,VU⟩:=HC.o _ ((t1).Y t2);clear OC Ik OB OA;go_wp2_with fail
      refine(HI.o _ ((o6.Y t1).Y t2)).mono ?_
      rintro r w3 ⟨rfl,t3⟩;obtain⟨k30,k31,k32,k33⟩:=HC.o _ (((t1).Y t2).Y t3);clear VX VW VV VU;go_wp2_with fail;have hr:=qf0.o (by trivial);have Cr:=m8 (mn.o hr);have I6:=V7 (D9 (l5 p.D));have DB:=O (HM.o hr);have GK:=O (DF.o hr);have qf1:=O (XS.o hr);have zi0:=O (HEC.o hr);unfold T5 at DB;clear hr;generalize ((D9 (l5 p.D)).map y6).toArray=cs at*
      refine(DB.o _ (((o6.Y t1).Y t2).Y t3)).mono ?_
      rintro r w4 ⟨rfl,t4⟩;obtain⟨k40,k41,k42,k43⟩:=HC.o _ ((((t1).Y t2).Y t3).Y t4);have TA:=O ((((o6.Y t1).Y t2).Y t3).Y t4);have XC:=O ((((t1).Y t2).Y t3).Y t4);have VN:=TA.o.alloc (.cells (((l8.map y6).toArray)) 69);have VK:=XC.o.alloc (.cells (((l8.map y6).toArray)) 69);simp only[y6,List.map,l8]at VN VK;clear k30 k31 k32 k33;go_wp2_with (refine D0 (j4.new _ _ _) rfl Cr I6 ?_;intro w5 b5 t5;have ta:=VN.step t5 (fun m hm=> .inr (by rw[y7]at hm;have:=TA.o.size;omega));have tc:=VK.step t5 (fun m hm=> .inr (by rw[y7]at hm;have:=XC.o.size;omega));obtain⟨k50,k51,k52,k53⟩:=HC.o _ tc;clear k40 k41 k42 k43)
      refine(GK.o _ ta _ b5).mono ?_
      rintro r w6 ⟨rfl,t6⟩;obtain⟨k60,k61,k62,k63⟩:=HC.o _ (tc.Y t6);clear k50 k51 k52 k53;go_wp2_with fail
      refine(qf1.o _ (ta.Y t6) _ (b5.z7 t6 (by simp))).mono ?_
      rintro r w7 ⟨rfl,t7⟩;obtain⟨k70,k71,k72,k73⟩:=HC.o _ ((tc.Y t6).Y t7);clear k60 k61 k62 k63;go_wp2_with fail
      refine(zi0.o _ ((ta.Y t6).Y t7) _ ((b5.z7 t6 (by simp)).z7 t7 (by simp))).mono ?_
      rintro r w8 ⟨rfl,t8⟩;go_wp2_with fail;go_ret;exact⟨v9 (by rw[y5.o]),((ta.Y t6).Y t7).Y t8⟩
end Go.Proofs.YtlhlmcohdkkjpaaGreatDoor
