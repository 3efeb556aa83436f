/- Package propagate: New. -/
import Derived.Test.YtlhlmcohdkkjpaaGreatDoorCc31
set_option linter.all false
set_option maxHeartbeats 16000000
set_option maxRecDepth 100000
namespace Go.Proofs.YtlhlmcohdkkjpaaGreatDoor
open Go.RowKit
variable{xs:List Int}{ms us:List Nat}{g sp qb tb n k nb c:Nat}{A:Option Addr}{p:Px}{w w2 w' w0:World}
theorem gw (h:J5 p=true)(hl:P0 p):wY p:=⟨aJ h,hl.pr,hl.ld,hl.cp⟩
theorem AE (h:J5 p=true):K9 p [] (J1 p.D) (L1 p):=by
 have hn:=Cg h;have e: ∀s c,Z5 p (L1 p) s c↔J1 p.D s c:=fun s c=>qm hn;exact⟨MC hn,fun s c hc=>(e s c).1 hc,fun S h0 hs s c hc=>(e s c).2 (h0 s c hc)⟩
def UB (w:World)(g:Nat)(ms:List Nat):Prop:=j4 w g 66 ((ms.map y6).toArray)
theorem UB.set (h:UB w g ms)(k m:Nat):UB (w.setCell ⟨g,k,none⟩ (.int .u64 (m:Nat))) g (ms.set k m):=by
 have:=j4.V8 h k (.int .u64 (m:Nat));unfold UB
 rwa [show((ms.set k m).map y6).toArray=(ms.map y6).toArray.setIfInBounds k (.int .u64 (m:Nat)) by simp[List.map_set,y6]]
theorem UB.lb (h:UB w g ms)(hn:ms.length≤512):LB w (.slice (some ⟨g,0,none⟩) ms.length ms.length) ms:=
 ⟨by simp,.inr ⟨g,ms.length,(ms.map y6).toArray,rfl,O2 _,h,a9 _,by unfold maxLen;omega,by simp,by rw[N2 (by simp)]⟩⟩
theorem MG (m:Nat):madeCells (Value.int .u64 0).cells m=((List.replicate m 0).map y6).toArray:=by
 apply Array.ext
 ·simp[madeCells]
 ·intro i h1 h2;simp[madeCells,Value.cells,y6];rw[Nat.mod_one];rfl
theorem MF (m:Nat)(hm:m≤1099511627776)(W:World):(Instr.makeSlice 230 (.int .i64 (m:Int)) (.int .i64 (m:Int))).run Tryz.prog W= .ok (.slice (some ⟨W.heap.size,0,none⟩) m m) (W.alloc (.cells (((List.replicate m 0).map y6).toArray) 66)):=by
 obtain⟨i0,CM,mJ,aX,Vp⟩:=info_parts (show(Tryz.prog.info? 66).map (fun i=>(i.zero,i.size,i.bytes))=some (some (.int .u64 0),1,8) by kernel_rfl);have hb:(i0.bytes:Int)*(m:Int)≤281474976710656:=by rw[Vp];omega
 have hr:=run_make (P:=Tryz.prog) W 230 66 i0 (.int .u64 0) Tryz.underlying230 CM mJ .i64 .i64 m m (by omega) (by omega) hb (by omega);simp only[X4]at hr;rw[hr,aX,Sc,MG]
structure CW (w2 wr:World)(sp g qb tb n:Nat)(us:List Nat)(xs:List Int):Prop where
 tc:z6 [sp,g,qb] w2 wr
 st:j4 wr sp 305 #[.pointer (some ⟨tb,0,none⟩),.slice (some ⟨g,0,none⟩) n n,.bool false]
 ub:UB wr g us
 ib:IB wr qb xs
theorem CW.q8 {wr:World}(h:CW w2 wr sp g qb tb n us xs)(t:z6 [] wr w'):CW w2 w' sp g qb tb n us xs:=
 ⟨h.tc.Y t,h.st.z7 t (by simp),j4.z7 h.ub t (by simp),j4.z7 h.ib t (by simp)⟩
theorem CW.za6 {wr:World}(h:CW w2 wr sp g qb tb n us xs)(k m:Nat)(X3:sp≠g∧sp≠qb∧g≠qb):CW w2 (wr.setCell ⟨g,k,none⟩ (.int .u64 (m:Nat))) sp g qb tb n (us.set k m) xs:=by
 have t:z6 [g] wr (wr.setCell ⟨g,k,none⟩ (.int .u64 (m:Nat))):=(z8 [g] wr).setCell (.inl (by simp)) _;exact⟨h.tc.step t (fun b hb=> .inl (by rw[y7]at hb;simp[hb])),h.st.z7 t (by simp[X3.1]),h.ub.set k m,j4.z7 h.ib t (by simp[W5 X3.2.2])⟩
theorem CW.za8 {wr:World}(h:CW w2 wr sp g qb tb n us xs)(k:Nat)(x:Int)(X3:sp≠g∧sp≠qb∧g≠qb):CW w2 (wr.setCell ⟨qb,k,none⟩ (.int .i64 x)) sp g qb tb n us (xs.set k x):=by
 obtain⟨h1,t⟩:=IB.set h.ib k x;exact⟨h.tc.step t (fun b hb=> .inl (by rw[y7]at hb;simp[hb])),h.st.z7 t (by simp[X3.2.1]),j4.z7 h.ub t (by simp[X3.2.2]),h1⟩
def NwK (w2 wr:World)(sp g qb tb:Nat)(p:Px)(k:Nat):Prop:=CW w2 wr sp g qb tb p.D.length ((L1 p).take k++List.replicate (p.D.length - k) 0) ((List.range k).map Int.ofNat++List.replicate (p.D.length - k) 0)
def qw5 (w2:World)(sp g qb tb:Nat)(p:Px)(ti:Value)(wr:World):Prop:= ∃k:Nat,k≤p.D.length∧ti= .int .i64 k∧Hid (NwK w2 wr sp g qb tb p k)
theorem AZ {α:Type}{l:List α}(hl:l.length=n)(hk:k<n)(z:α):(l.take k++List.replicate (n - k) z).set k (l[k]'(by omega))=l.take (k+1)++List.replicate (n - (k+1)) z:=by
 have h1:(l.take k).length=k:=by rw[Y8];omega
 rw[jj _ _ (by omega),h1,Wn];obtain⟨m,hm⟩: ∃m,n - k=m+1:=⟨n - k - 1,by omega⟩;rw[hm,jg,kD,show n - (k+1)=m by omega,Cw (by omega),List.append_assoc];rfl
theorem MD (hk:k<p.D.length):((L1 p).take k++List.replicate (p.D.length - k) 0).set k (C4 p.D[k].ch)=(L1 p).take (k+1)++List.replicate (p.D.length - (k+1)) 0:=by
 have hl:(L1 p).length=p.D.length:=by simp[L1]
 have:=AZ hl hk 0;rw[←this]
 congr 1
 simp[L1]
theorem lr (hk:k<n):((List.range k).map Int.ofNat++List.replicate (n - k) 0).set k (k:Int)=(List.range (k+1)).map Int.ofNat++List.replicate (n - (k+1)) 0:=by
 have h1:((List.range k).map Int.ofNat).length=k:=by simp
 rw[jj _ _ (by omega),h1,Wn];obtain⟨m,hm⟩: ∃m,n - k=m+1:=⟨n - k - 1,by omega⟩;rw[hm,jg,kD,show n - (k+1)=m by omega,List.range_succ,Yi];simp
def KC (p:Px)(w:World)(r:Ending)(w':World):Prop:=
 (J5 p=false∧r= .returned (.tuple #[.pointer none,.int .i64 2])∧z6 [] w w')∨
 (J5 p=true∧ ∃(w0:World) (sp tb g cap:Nat) (ms:List Nat) (cf:Bool) (vs vp vc vi vf:Value),r= .returned (.tuple #[.pointer (some ⟨sp,0,none⟩),.int .i64 0])∧z6 [] w w0∧xL w0 tb p vs vp vc vi vf∧Vk w0 w' sp tb g cap p ms cf∧K9 p [] (J1 p.D) ms∧OT p ms cf)
theorem CW.final {wr:World}{vs vp vc vi vf:Value}(J3:J5 p=true)(hl:P0 p)(tw:z6 [] w w2)(hT:Tg w2 tb p vs vp vc vi vf)(Ho:Y1 w2)(Vq:w2.heap.size≤sp)(hg:w2.heap.size≤g)(X3:sp≠g)(h:Gv sp tb g p.D.length p [] (J1 p.D) wr w')(t:z6 [] w2 wr)(Bo:g<wr.heap.size):
  KC p w (.returned (.tuple #[.pointer (some ⟨sp,0,none⟩),.int .i64 0])) w':=by
 obtain⟨ms,cf,h1,h2,h3,h4,h5⟩:=h;refine .inr ⟨J3,w2,sp,tb,g,p.D.length,ms,cf,vs,vp,vc,vi,vf,rfl,tw,⟨Ut J3,gw J3 hl,hT,Ho⟩,⟨t.step h5 (fun m hm=> ?_),Vq,hg,X3,W6 Bo h5.size,h3.Fv.len,h1,h2⟩,h3,h4⟩;simp only[m6,V6,Q1]at hm;rcases hm with rfl | rfl
 ·exact .inr Vq
 ·exact .inr hg
theorem LI (p:Px)(VD VP VL VC:Value)(w:World)(h:K3 w VD VP VL VC p)(hl:P0 p)(jO:Y1 w):Calls Tryz.prog 166 #[.agg #[VD,VP,VL,VC]] w (KC p w):=by
 have HV:=p7 (fun W t=>Di p VD VP VL VC W (h.q8 t) hl);have qr5:=O (fun(e:J5 p=true) (W:World) (t:z6 [] w W)=>wN VD VP VL VC p W (Ut e) (Lj e) hl (h.q8 t));have HD:=p7 (fun W t=>h.d.q8 t);have qQ:=O (fun(e:J5 p=true)=>Cg e);have HFW:=O (fun(e:J5 p=true)=>aJ e);have aA:=O hl;have H64:=p7 (fun W t=>jO.q8 t);obtain⟨AD,cD,rfl,-,-⟩:=h.d.form;obtain⟨AP,cP,rfl⟩:=h.pr.form;obtain⟨AL,cL,rfl⟩:=h.ld.form;obtain⟨AC,cC,rfl⟩:=h.cp.form;have b0:=j4.new w 29 #[.slice AD p.D.length cD,.slice AP p.R.P.length cP,.slice AL p.R.L.length cL,.slice AC p.R.C.length cC];have t0:=(z8 [] w).alloc (.cells #[.slice AD p.D.length cD,.slice AP p.R.P.length cP,.slice AL p.R.L.length cL,.slice AC p.R.C.length cC] 29);have HC:Hid (∀W',z6 [] (w.alloc (.cells #[.slice AD p.D.length cD,.slice AP p.R.P.length cP,.slice AL p.R.L.length cL,.slice AC p.R.C.length cC] 29)) W'→W'.cell? ⟨w.heap.size,0,none⟩=some (.slice AD p.D.length cD)∧W'.cell? ⟨w.heap.size,1,none⟩=some (.slice AP p.R.P.length cP)∧W'.cell? ⟨w.heap.size,2,none⟩=some (.slice AL p.R.L.length cL)∧W'.cell? ⟨w.heap.size,3,none⟩=some (.slice AC p.R.C.length cC)):=O (fun W' t=>⟨((b0.z7 t (by simp)).cell 0).trans rfl,((b0.z7 t (by simp)).cell 1).trans rfl,((b0.z7 t (by simp)).cell 2).trans rfl,((b0.z7 t (by simp)).cell 3).trans rfl⟩);have m9:=O t0;clear h hl jO b0 t0;go_enter Tryz.func166,Tryz.ntmps166;obtain⟨c0,c1,c2,c3⟩:=HC.o _ (z8 [] _);go_wp2_with fail;refine(HV.o _ m9.o).mono ?_;rintro r w1 ⟨rfl,t1⟩;have J6:=O (m9.o.Y t1);have HC1:=p7 (fun W' t=>HC.o W' (t1.Y t));clear c0 c1 c2 c3 t1 m9 HC
 cases J3:J5 p with
 | false=>
  have Y7:=O J3;clear J3;go_wp2_with fail;go_ret2;exact .inl ⟨Y7.o,rfl,J6.o⟩
 | true=>
  have Y7:=O J3;clear J3;obtain⟨c0,c1,c2,c3⟩:=HC1.o _ (z8 [] _);go_wp2_with fail;refine(qr5.o Y7.o _ J6.o).mono ?_;rintro r w2 ⟨tb,vs,vp,vc,vi,vf,rfl,hT,OG,t2⟩;have Vu:=O hT;have B4:=O (J6.o.Y t2);have DH:=p7 (fun W' t=>HC1.o W' (t2.Y t));have Q_:Hid (w.heap.size<w2.heap.size):=O (World.block_lt_of_cell? w2 _ (DH.o w2 (z8 _ _)).1);have CH:=Xe p.D.length (by have:=HFW.o Y7.o;omega);have Ja:=MF p.D.length (by have:=HFW.o Y7.o;omega);clear c0 c1 c2 c3 hT OG t2 HC1 HV qr5;obtain⟨zs,Vj⟩: ∃zs,zs=(((List.replicate p.D.length (0:Int)).map I).toArray):=⟨_,rfl⟩;rw[←Vj]at CH;obtain⟨us,e_⟩: ∃us,us=(((List.replicate p.D.length 0).map y6).toArray):=⟨_,rfl⟩;rw[←e_]at Ja;have I_:=O Vj;have HUS:=O e_;clear Vj e_;have bs:=j4.new w2 305 #[.pointer (some ⟨tb,0,none⟩),.slice none 0 0,.bool false];have ts:=(z8 [] w2).alloc (.cells #[.pointer (some ⟨tb,0,none⟩),.slice none 0 0,.bool false] 305);obtain⟨sp,Vq⟩: ∃sp,sp=w2.heap.size:=⟨_,rfl⟩;go_upto_region 4 with fail
  generalize w2.alloc _=w3 at bs ts⊢;rw[←Vq]at bs⊢;have Vm:=O Vq;clear Vq;obtain⟨c0,c1,c2,c3⟩:=DH.o _ ts;have gS:=O ts;have HBS:=O bs;obtain⟨s1,s2⟩:w3.cell? ⟨sp,1,none⟩=some (.slice none 0 0)∧w3.frozen? ⟨sp,1,none⟩=false:=⟨(bs.cell 1).trans rfl,bs.frozen 1⟩;have s3:=bs.lt;obtain⟨g,hg⟩: ∃g,g=w3.heap.size:=⟨_,rfl⟩;have s4:=bs.V8 1 (.slice (some ⟨g,0,none⟩) p.D.length p.D.length);have b4:=(s4.alloc (.cells us 66));have g4:=j4.new (w3.setCell ⟨sp,1,none⟩ (.slice (some ⟨g,0,none⟩) p.D.length p.D.length)) 66 us;have t4:=(((z8 [sp] w3).setCell (.inl (by simp)) (.slice (some ⟨g,0,none⟩) p.D.length p.D.length):z6 [sp] w3 (w3.setCell ⟨sp,1,none⟩ _))).alloc (.cells us 66);have z4:(w3.setCell ⟨sp,1,none⟩ (.slice (some ⟨g,0,none⟩) p.D.length p.D.length)).heap.size=w3.heap.size:=by simp[World.setCell]
  rw[z4]at g4;clear bs ts z4 s4;go_upto_region 5 with fail
  rw[←hg]at g4⊢;generalize (w3.setCell _ _).alloc _=w4 at b4 g4 t4⊢;have QQ:Hid (sp<g∧w2.heap.size≤g):=O ⟨by omega,by have:=gS.o.size;omega⟩;clear hg s1 s2 s3 c0 c1 c2 c3;have Il:=O (gS.o.step t4 (fun m hm=> .inr (by rw[y7]at hm;have:=Vm.o;omega)));have ma:=O g4;have ug:=O b4;clear t4 g4 b4 gS HBS;obtain⟨c0,c1,c2,c3⟩:=DH.o _ Il.o;obtain⟨qb,DO⟩: ∃qb,qb=w4.heap.size:=⟨_,rfl⟩;have b5:=ug.o.alloc (.cells zs 3);have g5:=ma.o.alloc (.cells zs 3);have q5:=j4.new w4 3 zs;have t5:=(z8 [] w4).alloc (.cells zs 3);go_upto_region 6 with fail
  rw[←DO]at q5⊢;generalize w4.alloc _=w5 at b5 g5 q5 t5⊢;have O_:Hid (g<qb∧sp<qb∧w2.heap.size≤qb):=O ⟨by rw[DO];exact ma.o.lt,by rw[DO];exact ug.o.lt,by have:=ma.o.lt;have:=QQ.o;omega⟩;have K8:=O (Il.o.Y t5);have HNG:Hid (sp≠g∧sp≠qb∧g≠qb):=O (by have:=O_.o;have:=QQ.o;omega)
  have S_:Hid (NwK w5 w5 sp g qb tb p 0):=O ⟨z8 _ _,b5,by
   unfold UB;rw[List.take_zero,Qy,Nat.sub_zero,←HUS.o]
   exact g5,by
   unfold IB;rw[List.range_zero,kG,Qy,Nat.sub_zero,←I_.o]
   exact q5⟩
  clear DO b5 g5 q5 t5 c0 c1 c2 c3 ug ma HUS I_ CH Ja us zs Il;obtain⟨c0,c1,c2,c3⟩:=DH.o _ K8.o;go_wp2_with fail;clear c0 c1 c2 c3;go_loopw [29] (fun ti wr=>qw5 w5 sp g qb tb p ti wr) (fun ti _=>p.D.length - (intOf ti).toNat)
  case atStart=>exact⟨0,by omega,rfl,S_⟩
  case round=>
   clear S_;obtain⟨k,hk,rfl,uw⟩:=hrel
   have Q8:=O (K8.o.step uw.o.tc (fun m hm=> .inr (by
    have:=Vm.o;have:=QQ.o;have:=O_.o;simp only[m6,V6,Q1]at hm
    omega)))
   by_cases Z:k<p.D.length
   ·have j1:(k:Int)< (p.D.length:Int):=by omega
    have hDW:=HD.o w (z8 _ _);obtain⟨b,off,c,rfl,hb,-,N0⟩:=hDW.at_ Z;obtain⟨c0,c1,B8⟩:=N0 wr (B4.o.Y Q8.o);obtain⟨A2,X2,rfl⟩:=B8.form;have HMA:=p7 (fun W t=>ME (.slice A2 p.D[k].ch.length X2) p.D[k].ch W (N0 W t).2.2 (fun c hc=>(qQ.o Y7.o).rg _ (k8 Z) c hc) (aA.o.ch _ (k8 Z)));have HMS:=O (MD Z);have Q7:=O Z;have HPS:=O (lr Z);have HN:=O (HFW.o Y7.o);have zj3:p.D.length≤512:=HN.o;have Sr:wrap64 ((k:Int)+1)=(k:Int)+1:=by unfold wrap64;omega
    generalize p.D[k].ch=ch at*;generalize p.D[k].st=st at*;obtain⟨nd,Yz⟩: ∃nd,nd=wr.heap.size:=⟨_,rfl⟩;have bx:=j4.new wr 75 #[.int .i64 st,.slice A2 ch.length X2];have tx:=(z8 [] wr).alloc (.cells #[.int .i64 st,.slice A2 ch.length X2] 75);have HND:Hid (nd≠sp∧nd≠g∧nd≠qb):=O ⟨fun e=>by have:=uw.o.st.lt;omega,fun e=>by have:=j4.lt uw.o.ub;omega,fun e=>by have:=j4.lt uw.o.ib;omega⟩;clear hDW B8 N0 hb hk;go_upto_region 9 with fail
    generalize wr.alloc _=w7 at bx tx⊢;rw[←Yz]at bx⊢;have xN:=O (Q8.o.Y tx);have HN7:=O (uw.o.q8 tx);have N6:=O bx;have HK:=p7 (fun W t=>show W.cell? ⟨sp,1,none⟩=some (.slice (some ⟨g,0,none⟩) p.D.length p.D.length)∧W.cell? ⟨nd,1,none⟩=some (.slice A2 ch.length X2)from⟨((HN7.o.st.z7 t (by simp)).cell 1).trans rfl,((bx.z7 t (by simp)).cell 1).trans rfl⟩)
    have HUX:=p7 (fun W t=>show∃xv,W.cell? ⟨g,k,none⟩=some xv from by
     have h:=(j4.z7 HN7.o.ub t (by simp)).cell k;have hl:k< ((((L1 p).take k++List.replicate (p.D.length - k) 0).map y6).toArray).size:=by simp[L1];omega
     exact⟨_,h.trans (Array.getElem?_eq_getElem hl)⟩)
    have xR:=O (fun(W:World) (h:IB W qb ((List.range k).map Int.ofNat++List.replicate (p.D.length - k) 0))=>show∃xv,W.cell? ⟨qb,k,none⟩=some xv from⟨_,IB.at_ h (by simp;omega)⟩);have hQ:=z8 [] w7;clear Yz bx tx c0 c1 Z uw Q8;refine n6 (fun W'=>z6 [] w7 W') 9 (by kernel_rfl) ?_;refine tk 0 hQ.drew ?_;refine tk 1 hQ.drew ?_;refine tk 2 hQ.drew ?_;refine tk 3 hQ.drew ?_ (hy:=by intro W m7;have e0:=(HK.o W m7).1;go_simp<;>rfl);refine tk 4 hQ.drew ?_;refine tk 5 hQ.drew ?_;refine tk 6 hQ.drew ?_ (hy:=by intro W m7;have e1:=(HK.o W m7).2;go_simp<;>rfl);refine tn 7 (fun K hK=> ?_);go_simp;refine(HMA.o _ (B4.o.Y (xN.o.Y hQ.drew))).mono ?_;rintro r w6 ⟨rfl,t6⟩;have hQ6:=hQ.drew.Y t6;go_wp2_with fail;refine YU hK hQ6 ?_;clear hK K;refine tn 8 (fun K hK=> ?_);go_simp;refine YU hK hQ6 ?_;clear hK K;have HN6:=O (HN7.o.q8 hQ6);obtain⟨xv,s1⟩:=HUX.o w6 hQ6;have s2:=j4.frozen HN6.o.ub k;refine tl (fun K hK=> ?_);go_simp;refine hK.o _ _ ?_;clear hK K;(try simp only[nz]);have H9:=O (HN6.o.za6 k (C4 ch) HNG.o);go_upto_region 10 with fail
    clear s1 s2;generalize w6.setCell _ _=w8 at H9⊢;obtain⟨yv,s1⟩: ∃yv,w8.cell? ⟨qb,k,none⟩=some yv:=xR.o w8 H9.o.ib;have s2:=j4.frozen H9.o.ib k
    have HIE:Hid (NwK w5 (w8.setCell ⟨qb,k,none⟩ (.int .i64 (k:Int))) sp g qb tb p (k+1)):=O (by
     have h:=H9.o.za8 k (k:Int) HNG.o;rw[HMS.o,HPS.o]at h
     exact h)
    clear H9;go_wp2_with fail;(try rw[Sr]);exact⟨⟨k+1,Q7.o,by go_num,HIE⟩,by simp[intOf];omega⟩
   ·obtain rfl:k=p.D.length:=by omega
    have j1: ¬(p.D.length:Int)< (p.D.length:Int):=by omega
    have wU:(L1 p).length=p.D.length:=by simp[L1]
    have Qs:=O (AE Y7.o);have PW:=uw.o;unfold NwK at PW;rw[N2 (by omega),Wn,List.replicate_zero,tG,List.replicate_zero,tG]at PW
    have Xw:Hid (LB wr (.slice (some ⟨g,0,none⟩) (L1 p).length p.D.length) (L1 p)):=O (by
     have h:=UB.lb PW.ub (by rw[wU];exact HFW.o Y7.o);rw[wU]at h⊢
     exact h)
    have HQU:Hid (Th wr (.slice (some ⟨qb,0,none⟩) p.D.length p.D.length) (List.range p.D.length)):=O (by
     have h:=j4.cell PW.ib;refine⟨some ⟨qb,0,none⟩,p.D.length,by rw[List.length_range],by rw[List.length_range];exact a9 _,by have:=HFW.o Y7.o;unfold maxLen;omega,by simp,fun _=>⟨qb,0,rfl,j4.lt PW.ib,fun j u hu=> ?_⟩⟩;rw[O3,h j,←hu];simp
     rfl)
    have Q9:Hid (j4 wr sp 305 #[.pointer (some ⟨tb,0,none⟩),.slice (some ⟨g,0,none⟩) (L1 p).length p.D.length,.bool false]):=O (by rw[wU];exact PW.st)
    have HSE:=p7 (fun W t=>Sf sp tb g p.D.length p vs vp vc vi vf (.slice (some ⟨qb,0,none⟩) p.D.length p.D.length) [] (J1 p.D) (L1 p) (List.range p.D.length) false w2 W (Ut Y7.o) (gw Y7.o aA.o) (Q8.o.Y t) Vu.o (H64.o w2 B4.o) (by have:=Vm.o;omega) QQ.o.2 (by have:=QQ.o;omega) (W6 (j4.lt PW.ub) t.size) (Q9.o.z7 t (by simp)) (Xw.o.q8 t) Qs.o (Reads.q8 HQU.o t) (fun b hb=>by
      have h1:=Gp _ b hb;simp only[m5,m6,V6,Q1]at h1⊢;have:=O_.o
      omega) (fun k hk=>Gj.1 hk) (fun _=>⟨fun k hk hnq _=>absurd (Gj.2 hk) hnq,fun k hk _=>Gj.2 hk⟩) (fun e=>by cases e))
    have aB:=O (fun(W W':World) (t:z6 [] wr W) (h:Gv sp tb g p.D.length p [] (J1 p.D) W W')=>CW.final Y7.o aA.o B4.o Vu.o (H64.o w2 B4.o) (by have:=Vm.o;omega) QQ.o.2 (by have:=QQ.o;omega) h (Q8.o.Y t) (W6 (j4.lt PW.ub) t.size));clear PW uw wU Z hk;go_wp2_with fail;refine(HSE.o _ (z8 _ _)).mono ?_;rintro r w7 ⟨rfl,hse⟩;have HP:=O (aB.o _ _ (z8 _ _) hse);clear hse;go_wp2_with fail;go_ret2;exact HP.o
def mS (f:Nat→Nat)(sp:Nat):Array Value:=((List.range 512).map (fun i=>Value.int .u64 (f i:Nat))++ [Value.pointer (some ⟨sp,0,none⟩),Value.slice none 0 0]).toArray
theorem BN (f:Nat→Nat)(sp:Nat):Tryz.prog.built 250 [(0,.agg (N9 f)),(1,.pointer (some ⟨sp,0,none⟩))]=some (mS f sp):=by kernel_rfl
theorem jl (f:Nat→Nat)(sp:Nat){s:Nat}(hs:s<512):(mS f sp)[s]? =some (.int .u64 (f s:Nat)):=by
 unfold mS;rw[Tv,Ty (by simpa using hs),Jq,cT hs];rfl
theorem aG (f:Nat→Nat)(sp k:Nat):(mS f sp)[512+k]? = [Value.pointer (some ⟨sp,0,none⟩),.slice none 0 0][k]? :=by
 unfold mS;rw[Tv,List.getElem?_append_right (by simp)];simp
theorem pf (f:Nat→Nat)(sp:Nat):513< (mS f sp).size:=by simp[mS]
structure XE (w0 w:World)(nb sp tb g cap:Nat)(p:Px)(ms:List Nat)(cf:Bool):Prop where
 st:Vk w0 w sp tb g cap p ms cf
 inv:K9 p [] (J1 p.D) ms
 sb:OT p ms cf
 bk:j4 w nb 250 (mS (fun s=>Rr p (s:Int)) sp)
 nw:w0.heap.size≤nb
theorem XE.soO {cap:Nat}{cf:Bool}(h:XE w0 w nb sp tb g cap p ms cf)(hp:0<p.D.length):wX w0 w nb sp tb g cap p ms cf [] (.slice none 0 0):=
 ⟨⟨h.st,h.inv,h.sb,by rw[h.st.len];exact hp,h.bk.lt,⟨h.bk.lt,fun s hs=>(h.bk.cell s).trans (jl _ _ hs)⟩,(h.bk.cell 512).trans (aG _ _ 0),(h.bk.cell 513).trans (aG _ _ 1),(qN.nil w).rows,fun x hx=>(by cases hx),by simp⟩,qN.nil w,fun b hb=>(by cases hb),⟨_,h.bk,pf _ _⟩,h.nw⟩
def qk3 (p:Px)(w:World)(r:Ending)(w':World):Prop:=
 (J5 p=false∧r= .returned (.tuple #[.pointer none,.int .i64 2])∧z6 [] w w')∨
 (J5 p=true∧ ∃(w0:World) (nb sp tb g cap:Nat) (ms:List Nat) (cf:Bool) (vs vp vc vi vf:Value),r= .returned (.tuple #[.pointer (some ⟨nb,0,none⟩),.int .i64 0])∧z6 [] w w0∧z6 [] w0 w'∧xL w0 tb p vs vp vc vi vf∧XE w0 w' nb sp tb g cap p ms cf)
theorem LY (p:Px)(VD VP VL VC:Value)(w:World)(h:K3 w VD VP VL VC p)(hl:P0 p)(jO:Y1 w):Calls Tryz.prog 133 #[.agg #[VD,VP,VL,VC]] w (qk3 p w):=by
 have HN:=p7 (fun W t=>LI p VD VP VL VC W (h.q8 t) hl (jO.q8 t));have HDO:=O (fun(e:J5 p=true) (W:World) (t:z6 [] w W)=>wK VD VP VL VC p W (Ut e) (Cg e) (aJ e) (h.d.q8 t));obtain⟨AD,cD,rfl,-,-⟩:=h.d.form;obtain⟨AP,cP,rfl⟩:=h.pr.form;obtain⟨AL,cL,rfl⟩:=h.ld.form;obtain⟨AC,cC,rfl⟩:=h.cp.form;have b0:=j4.new w 29 #[.slice AD p.D.length cD,.slice AP p.R.P.length cP,.slice AL p.R.L.length cL,.slice AC p.R.C.length cC];have t0:=(z8 [] w).alloc (.cells #[.slice AD p.D.length cD,.slice AP p.R.P.length cP,.slice AL p.R.L.length cL,.slice AC p.R.C.length cC] 29);have HC:Hid (∀W',z6 [] (w.alloc (.cells #[.slice AD p.D.length cD,.slice AP p.R.P.length cP,.slice AL p.R.L.length cL,.slice AC p.R.C.length cC] 29)) W'→W'.cell? ⟨w.heap.size,0,none⟩=some (.slice AD p.D.length cD)∧W'.cell? ⟨w.heap.size,1,none⟩=some (.slice AP p.R.P.length cP)∧W'.cell? ⟨w.heap.size,2,none⟩=some (.slice AL p.R.L.length cL)∧W'.cell? ⟨w.heap.size,3,none⟩=some (.slice AC p.R.C.length cC)):=O (fun W' t=>⟨((b0.z7 t (by simp)).cell 0).trans rfl,((b0.z7 t (by simp)).cell 1).trans rfl,((b0.z7 t (by simp)).cell 2).trans rfl,((b0.z7 t (by simp)).cell 3).trans rfl⟩);have m9:=O t0;clear h hl jO b0 t0;go_enter Tryz.func133,Tryz.ntmps133;obtain⟨c0,c1,c2,c3⟩:=HC.o _ (z8 [] _);go_wp2_with fail;refine(HN.o _ m9.o).mono ?_;rintro r w1 (⟨J3,rfl,t1⟩ | ⟨J3,w0,sp,tb,g,cap,ms,cf,vs,vp,vc,vi,vf,rfl,t1,hu,hs,hi,hb⟩)
 ·have Y7:=O J3;have J6:=O (m9.o.Y t1);clear c0 c1 c2 c3 t1 m9 HC J3;go_wp2_with fail;go_ret2;exact .inl ⟨Y7.o,rfl,J6.o⟩
 ·have Y7:=O J3;have HU:=O hu;have HS:=O hs;have HI:=O hi;have HB:=O hb;have J6:=O (m9.o.Y t1);have B4:=O (J6.o.Y hs.t0);clear c0 c1 c2 c3;obtain⟨c0,c1,c2,c3⟩:=HC.o _ (t1.Y hs.t0);clear hu hs hi hb J3 t1 HC HN;go_wp2_with fail;refine(HDO.o Y7.o _ B4.o).mono ?_;rintro r w2 ⟨rfl,t2⟩;have V3:=O t2;clear t2 c0 c1 c2 c3;go_wp2_with (refine wpList_buildTo rfl 250 _ rfl _ rfl _ (Eq.trans (congrArg (Program.built Tryz.prog 250) (by kernel_rfl)) (BN (fun s=>Rr p (s:Int)) sp)) ?_);go_ret2;have ta:=(z8 [] w2).alloc (.cells (mS (fun s=>Rr p (s:Int)) sp) 250);exact .inr ⟨Y7.o,w0,w2.heap.size,sp,tb,g,cap,ms,cf,vs,vp,vc,vi,vf,rfl,J6.o,HS.o.t0.Y (V3.o.Y ta),HU.o,⟨HS.o.q8 (V3.o.Y ta),HI.o,HB.o,j4.new _ _ _,j9 HS.o.t0.size V3.o.size⟩⟩
theorem Reads.cap {size:Nat}{xs:List Value}(h:Reads w size (.slice A n c) n xs):n≤c∧c≤maxLen:=by
 obtain⟨A',c',e,h1,h2,-⟩:=h;injection e with e1 e2 e3;subst e3;exact⟨h1,h2⟩
def OU (w:World)(sp tb:Nat):Prop:= ∃A c,c≤maxLen∧j4 w sp 305 #[.pointer (some ⟨tb,0,none⟩),.slice A 0 c,.bool false]
theorem OU.q8 (h:OU w sp tb)(t:z6 [] w w'):OU w' sp tb:=by
 obtain⟨A,c,h1,h2⟩:=h;exact⟨A,c,h1,h2.z7 t (by simp)⟩
theorem Ma (h:OU w sp tb):Calls Tryz.prog 244 #[.pointer (some ⟨sp,0,none⟩)] w fun r w'=>r= .returned (.bool false)∧w=w':=by
 obtain⟨A,c,-,h⟩:=h;have c0:=(h.cell 0).trans rfl;clear h;go_enter Tryz.func244,Tryz.ntmps244;go_wp2_with fail;go_ret;exact⟨rfl,rfl⟩
theorem jD (h:OU w sp tb):Calls Tryz.prog 216 #[.pointer (some ⟨sp,0,none⟩)] w fun r w'=>r= .returned (.bool false)∧w=w':=by
 have HM:=O (Ma h);obtain⟨A,c,-,h⟩:=h;have c2:=(h.cell 2).trans rfl;clear h;go_enter Tryz.func216,Tryz.ntmps216;go_wp2_with fail;refine HM.o.mono ?_;rintro r w1 ⟨rfl,rfl⟩;go_wp2_with fail;go_ret;exact⟨rfl,rfl⟩
theorem qz (h:OU w sp tb):Calls Tryz.prog 215 #[.pointer (some ⟨sp,0,none⟩)] w fun r w'=> ∃qI,r= .returned (.pointer (some ⟨qI,0,none⟩))∧OU w' qI tb∧z6 [] w w':=by
 have HM:=O (Ma h);obtain⟨A,c,hcm,h⟩:=h;have HC:=p7 (fun W t=>show W.cell? ⟨sp,0,none⟩=some (.pointer (some ⟨tb,0,none⟩))∧W.cell? ⟨sp,1,none⟩=some (.slice A 0 c)∧W.cell? ⟨sp,2,none⟩=some (.bool false)from⟨((h.z7 t (by simp)).cell 0).trans rfl,((h.z7 t (by simp)).cell 1).trans rfl,((h.z7 t (by simp)).cell 2).trans rfl⟩);have HRD:Hid (∀W,z6 [] w W→Reads W 1 (.slice A 0 c) 0 []):=O (fun W _=>⟨A,c,rfl,O2 _,hcm,rfl,fun h=>absurd h (by omega)⟩);obtain⟨c0,c1,c2⟩:=HC.o w (z8 _ _);clear h;go_enter Tryz.func215,Tryz.ntmps215;go_wp2_with fail;refine HM.o.mono ?_;rintro r w1 ⟨rfl,rfl⟩;go_wp2_with fail;clear c0 c1 c2;refine wp_region_held_drew (S:=fun W=>z6 [] w W) (by kernel_rfl) (z8 _ w).drew (fun hS=> ?_);refine kw 0 hS ?_;refine kw 1 hS ?_;refine kw 2 hS ?_;refine kw 3 hS ?_ (hy:=by intro W m7;obtain⟨e0,e1,e2⟩:=HC.o W m7;go_simp<;>rfl);refine kw 4 hS ?_;refine kw 5 hS ?_;refine kw 6 hS ?_;refine kw 7 hS ?_ (hy:=by intro W m7;obtain⟨e0,e1,e2⟩:=HC.o W m7;go_simp<;>rfl);refine kw 9 hS ?_;refine kw 10 hS ?_;refine kw 11 hS ?_;refine kw 12 hS ?_ (hy:=by intro W m7;obtain⟨e0,e1,e2⟩:=HC.o W m7;go_simp<;>rfl);refine s8 8 rfl (fun K hK=> ?_);refine l7 uU (Own.nil _ _ _) (HRD.o _ hS) (by simp) (by omega) (by unfold maxLen;omega) ?_;intro v4 w4 OJ gO hf4;simp only[O3,Qy]at OJ;have rA:=hS.Y (gO.ql2 (by simp[m5]));obtain⟨A4,c4,rfl⟩:=OJ.form;have W_:=O OJ.reads;clear gO hf4 OJ;refine zk6 hK rA ?_;clear hK K;refine s8 13 rfl (fun K hK=> ?_);go_simp;refine zk6 hK rA ?_;clear hK K;refine s8 14 rfl (fun K hK=> ?_);go_simp;refine zk6 hK (rA.alloc _) ?_;clear hK K;refine s8 15 rfl (fun K hK=> ?_);go_simp;refine zk6 hK (rA.alloc _) ?_;clear hK K;refine wpAnyH_done (by kernel_rfl) ?_ _;go_wp2_with fail;go_ret;exact⟨_,rfl,⟨A4,c4,(W_.o.cap).2,j4.new w4 _ _⟩,rA.alloc _⟩
theorem zl (h:OU w sp tb):Calls Tryz.prog 247 #[.pointer (some ⟨sp,0,none⟩)] w fun r w'=>r= .returned (.slice none 0 0)∧z6 [] w w':=by
 have HM:=O (Ma h);obtain⟨A,c,hcm,h⟩:=h;have c1:=(h.cell 1).trans rfl;have c2:=(h.cell 2).trans rfl;clear h;go_enter Tryz.func247,Tryz.ntmps247;go_wp2_with fail;refine HM.o.mono ?_;rintro r w1 ⟨rfl,rfl⟩;go_wp2_with fail;clear c1 c2;go_loopw [3,19] (fun tl ti wr=>tl= .slice none 0 0∧ti= .int .i64 0∧z6 [] w wr) (fun _ _ _=>0)
 case atStart=>exact⟨rfl,rfl,z8 _ _⟩
 case round=>
  obtain⟨rfl,rfl,ht⟩:=hrel;go_wp2_with fail;go_ret;exact⟨rfl,ht⟩
theorem pZ (h:OU w sp tb):Calls Tryz.prog 218 #[.pointer (some ⟨sp,0,none⟩)] w fun r w'=>r= .returned (.agg (U0 (fun _=>0)))∧z6 [] w w':=by
 have HFX:=p7 (fun W t=>zl (h.q8 t));have hz:=Pn;have Fw:z6 [] w ((w.alloc (.cells (U0 (fun _=>0)) 154)).alloc (.cells (U0 (fun _=>0)) 154)):=((z8 [] w).alloc _).alloc _;have b1:=(j4.new w 154 (U0 (fun _=>0))).alloc (.cells (U0 (fun _=>0)) 154);have b2:=j4.new (w.alloc (.cells (U0 (fun _=>0)) 154)) 154 (U0 (fun _=>0));simp only[World.size_alloc]at b2;clear h;go_enter Tryz.func218,Tryz.ntmps218;go_wp2_with fail;generalize El:(w.alloc _).alloc _=w1 at b1 b2 Fw⊢;clear El;obtain⟨g1,hg⟩: ∃g1,g1=w.heap.size:=⟨_,rfl⟩;rw[←hg]at b1 b2⊢;have bL:=O hg;have Ag:=O b1;have O5:=O b2;have V0:=O Fw;clear hg b1 b2 Fw hz;refine(HFX.o _ V0.o).mono ?_;rintro r w2 ⟨rfl,t2⟩;have B4:=O (V0.o.Y t2);have yN:=O (Ag.o.z7 t2 (by simp));have RU:=O (O5.o.z7 t2 (by simp));clear t2;go_wp2_with fail;go_loopw [9] (fun ti wr=>ti= .int .i64 0∧wr=w2) (fun _ _=>0)
 case atStart=>exact⟨rfl,rfl⟩
 case round=>
  obtain⟨rfl,rfl⟩:=hrel;have Q8:=B4;have Qj:=yN;have U3:=RU;go_wp2_with (first | (refine zA U3.o ?_) | (refine Sa Qj.o ?_;intro w7 b7 t7));refine bodyPost_ret (results_cell_row rfl _ w7 g1 154 (U0 (fun _=>0)) (0,0) _ rfl b7 Tryz.underlying154 rfl (by rw[S0];exact Ui)) rfl ⟨rfl,?_⟩;exact Q8.o.step t7 (fun m hm=> .inr (by rw[y7]at hm;have:=bL.o;omega))
def bN (v:Value):Nat:=match v with | .bool true=>1 | _=>0
structure XD (w:World)(nb sp tb:Nat)(p:Px):Prop where
 st:OU w sp tb
 sd:nh w nb p
 rU:w.cell? ⟨nb,512,none⟩=some (.pointer (some ⟨sp,0,none⟩))
 rT:w.cell? ⟨nb,513,none⟩=some (.slice none 0 0)
theorem XD.q8 (h:XD w nb sp tb p)(t:z6 [] w w'):XD w' nb sp tb p:=
 ⟨h.st.q8 t,h.sd.q8 t,(t.cell (p:=⟨nb,512,none⟩) h.sd.1 (by simp)).trans h.rU,(t.cell (p:=⟨nb,513,none⟩) h.sd.1 (by simp)).trans h.rT⟩
theorem iV (h:XD w nb sp tb p):Calls Tryz.prog 168 #[.pointer (some ⟨nb,0,none⟩)] w fun r w'=>r= .returned (.bool false)∧w=w':=by
 have c0:=h.rU;clear h;go_enter Tryz.func168,Tryz.ntmps168;go_wp2_with fail;go_ret;exact⟨rfl,rfl⟩
theorem pS (h:XD w nb sp tb p):Calls Tryz.prog 170 #[.pointer (some ⟨nb,0,none⟩),.slice A 0 c] w fun r w'=> ∃v,r= .returned (.tuple #[v,.bool false])∧z6 [] w w':=by
 have HCP:=O (qz h.st);have c0:=h.rU;have HLI:=p7 (fun W t=>(h.q8 t).rT);clear h;go_enter Tryz.func170,Tryz.ntmps170;go_wp2_with fail;refine HCP.o.mono ?_;rintro r w1 ⟨qI,rfl,hs,t1⟩;have J6:=O t1;have HS:=p7 (fun W t=>hs.q8 t);clear hs t1 c0;go_wp2_with fail;go_loopw [22] (fun ti wr=>ti= .int .i64 0∧z6 [] w1 wr) (fun _ _=>0)
 case atStart=>exact⟨rfl,z8 _ _⟩
 case round=>
  obtain⟨rfl,ht⟩:=hrel;have Q8:=O ht;clear ht;go_wp2_with fail;generalize wr=wa at*;go_loopw [9] (fun t9 wr=> ∃b:Bool,t9= .bool b∧z6 [] w1 wr) (fun t9 _=>bN t9)
  case atStart=>exact⟨true,rfl,Q8.o⟩
  case round=>
   obtain⟨b,rfl,ht⟩:=hrel;have L_:=O ht;clear ht
   cases b with
   | false=>
    go_wp2_with fail;go_ret2;exact⟨_,rfl,J6.o.Y L_.o⟩
   | true=>
    have PC:=O (jD (HS.o wr L_.o));have HFX:=O (pZ (HS.o wr L_.o));have hz:=Pn;go_wp2_with fail;refine PC.o.mono ?_;rintro r w2 ⟨rfl,rfl⟩;go_wp2_with fail;refine HFX.o.mono ?_;rintro r w3 ⟨rfl,t3⟩;go_upto_region 15 with(first | (refine Sa (f:=fun _=>0) (j4.new _ _ _) ?_;intro w5 b5 t5))
    have T35:z6 [] w3 w5:=((z8 [] w3).alloc (.cells (U0 (fun _=>0)) 154)).step t5 (fun m hm=> .inr (by rw[y7]at hm;omega));have TWR:=O (L_.o.Y (t3.Y T35));have c5:=HLI.o w5 (J6.o.Y TWR.o);clear t3 b5 t5 T35 hz;go_wp2_with fail;clear c5;go_loopw [9,42] (fun t9 ti wr=>t9= .bool false∧ti= .int .i64 0∧z6 [] w1 wr) (fun _ _ _=>0)
    case atStart=>exact⟨rfl,rfl,TWR.o⟩
    case round=>
     obtain⟨rfl,rfl,ht⟩:=hrel;go_wp2_with fail;exact⟨⟨false,rfl,ht⟩,by simp[bN]⟩
theorem LW (p:Px):Eo p []=true:=by
 unfold Eo Iw;rfl
theorem UA (h:p.D.length=0): ¬Hs p [] []:=by
 unfold Hs;intro hn;have hd:p.D= []:=cR.1 h;refine hn ⟨fun _ _=>False,⟨fun s c hc=>hc.elim,fun s c hc=>hc.elim,fun S h0 hs s c hc=> ?_⟩,fun s hs=> ?_,fun g hg=>(by cases hg)⟩
 ·obtain⟨x,hx,-⟩:=h0 s c hc;simp[Z0,hd]at hx
 ·rw[hd]at hs;cases hs
theorem iW {gv:Value}(hp:j8 p)(hn:Dz p.D)(h:XD w nb sp tb p)(hl:Q0 w gv []):Calls Tryz.prog 134 #[.pointer (some ⟨nb,0,none⟩),gv] w fun r w'=>r= .returned (.tuple #[.bool false,.int .i64 0])∧z6 [] w w':=by
 have HM:=O (iV h);have HV:=Si hp hn h.sd [] hl (by simp);rw[LW]at HV;have HV:=O HV;obtain⟨A,c,rfl⟩:=hl.form;have HA:=p7 (fun W t=>pS (A:=A) (c:=c) (h.q8 t));clear h hl;go_enter Tryz.func134,Tryz.ntmps134;go_wp2_with fail;refine HM.o.mono ?_;rintro r w1 ⟨rfl,rfl⟩;go_wp2_with fail;refine HV.o.mono ?_;rintro r w1 ⟨rfl,t1⟩;have J6:=O t1;clear t1;go_wp2_with fail;refine(HA.o _ J6.o).mono ?_;rintro r w2 ⟨v,rfl,t2⟩;go_wp2_with fail;go_ret2;exact⟨rfl,J6.o.Y t2⟩
theorem pW {VL:Value}(hp:j8 p)(hn:Dz p.D)(h0:p.D.length=0)(h:XD w nb sp tb p)(tw:z6 [] w0 w)(hL:C8 2 Cx.cells Cx.Fit w0 VL [[]]):Calls Tryz.prog 93 #[.pointer (some ⟨nb,0,none⟩),VL] w (zN w0 p [[]]):=by
 obtain⟨A,cl,rfl⟩:=hL.form;have Rm:=p7 (fun W t=>(hL.q8 tw).q8 t);have HF:=O (fun(W:World) (t:z6 [] w W) (gv:Value) (hl:Q0 W gv [])=>iW hp hn (h.q8 t) hl);have Q8:=O tw;have mi:Hid (Dt p [[]] 0):=O (Qc (LS:= [[]]) (k:=0) (by simp) (fun i hi=>by omega) (fun _=>UA h0));clear h hL tw;go_enter Tryz.func93,Tryz.ntmps93;go_wp2_with fail;go_loopw [11] (fun ti wr=>ti= .int .i64 0∧z6 [] w wr) (fun _ _=>0)
 case atStart=>exact⟨rfl,z8 _ _⟩
 case round=>
  obtain⟨rfl,ht⟩:=hrel;have Na:=Rm.o wr ht;obtain⟨b2,Hn,u,rfl,U3,cu,Yy⟩:=Na.at_ (k:=0) (by simp);obtain⟨Au,X2,rfl⟩:=Yy.form;simp only[Jp]at cu;have QN:=O (HF.o wr ht _ Yy);have HT:=O ht;clear Na U3 Yy ht;go_wp2_with fail;refine QN.o.mono ?_;rintro r w2 ⟨rfl,t2⟩;have B4:=O (Q8.o.Y (HT.o.Y t2));clear t2;go_wp2_with fail;go_ret;exact⟨0,rfl,mi.o,B4.o⟩
end Go.Proofs.YtlhlmcohdkkjpaaGreatDoor
