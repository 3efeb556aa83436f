/- Package nogood: Add. -/
import Derived.Test.YtlhlmcohdkkjpaaGreatDoorZT
set_option linter.all false
set_option maxHeartbeats 16000000
set_option maxRecDepth 100000
namespace Go.Proofs.YtlhlmcohdkkjpaaGreatDoor
open Go.RowKit
theorem NI:Gf Tryz.prog 33 32 1 24:=Gf.mk Tryz.underlying33 (z:= .slice none 0 0) (by kernel_rfl) rfl (by decide)
def qN (w:World)(lv:Value)(ls:List (List Cx)):Prop:= ∃K1:List Value,K1.length=ls.length∧Own w 32 1 lv ls.length K1∧ ∀(j:Nat) l u,ls[j]? =some l→K1[j]? =some u→Q0 w u l∧ ∀b∈rb u,Kd w b 53
theorem qN.nil (w:World):qN w (.slice none 0 0) []:=⟨[],rfl,Own.nil _ _ _,fun j l u h=>by cases h⟩
variable{L:Array Bool}{TC cs:Array Value}{cf:Bool}{ls LS:List (List Cx)}{l:List Cx}{ms F:List Nat}{K1 X':List Value}{nb sp tb g k a i j n m' k1 k2 k3 A B s cb pb sb na:Nat}{zc:Nat→Array Value}{G:Nat→Nat}{f:Nat→Option Nat}{ty:Nat→TypeId}{oi o:Oper}{p:Px}{α:Type}{T:TypeId}{lv qU u v' v:Value}{w w' w0 w1 W X6:World}
theorem qN.rows (h:qN w lv ls):C8 2 Cx.cells Cx.Fit w lv ls:=by
 obtain⟨K1,h1,h2,h3⟩:=h;exact⟨K1,h1,h2.reads,fun j l u hl hu=>(h3 j l u hl hu).1⟩
theorem qN.v7 {L:List Nat}(h:qN w lv ls)(t:z6 L w w')(hk: ∀b∈L,∃t,Kd w b t∧t≠32∧t≠53):qN w' lv ls:=by
 obtain⟨K1,h1,h2,h3⟩:=h;refine⟨K1,h1,h2.v7 t (fun b hb=>by obtain⟨t,k,n,-⟩:=hk b hb;exact⟨t,k,n⟩),fun j l u hl hu=> ?_⟩;obtain⟨g1,g2⟩:=h3 j l u hl hu
 have Iz: ∀b∈rb u,b∉L:=fun b hb hm=>by
  obtain⟨t,k,-,n⟩:=hk b hm;exact Kd.ne k (g2 b hb) n rfl
 exact⟨g1.z7 t Iz,fun b hb=>(g2 b hb).z7 t (Iz b hb)⟩
theorem qN.q8 (h:qN w lv ls)(t:z6 [] w w'):qN w' lv ls:=h.v7 t (fun b hb=>by cases hb)
theorem qN.kd (h:qN w lv ls): ∀b∈m5 lv,Kd w b 32:=by
 obtain⟨K1,h1,h2,h3⟩:=h;exact h2.kd
theorem qN.push (h1:K1.length=ls.length)(hk: ∀b∈m5 lv,Kd w b 32)(h3: ∀(j:Nat) l u,ls[j]? =some l→K1[j]? =some u→Q0 w u l∧ ∀b∈rb u,Kd w b 53)(hu:Q0 w u l)(f_: ∀b∈rb u,Kd w b 53)(t:z6 (m5 lv) w w')(ho:Own w' 32 1 qU (ls.length+1) (K1++ [u])):qN w' qU (ls++ [l]):=by
 have Iz: ∀u:Value,(∀b∈rb u,Kd w b 53)→ ∀b∈rb u,b∉m5 lv:=fun u hu b hb hm=>Kd.ne (hk b hm) (hu b hb) (by decide) rfl;refine⟨K1++ [u],by simp[h1],by simpa using ho,fun j l' u' hl hu'=> ?_⟩;by_cases hj:j<ls.length
 ·rw[Ty hj]at hl;rw[Ty (by omega)]at hu';obtain⟨g1,g2⟩:=h3 j l' u' hl hu';exact⟨g1.z7 t (Iz u' g2),fun b hb=>(g2 b hb).z7 t (Iz u' g2 b hb)⟩
 ·have qL:j=ls.length:=by
   have:=(U4.1 hl).1;simp at this;omega
  subst qL;rw[kI]at hl;rw[←h1,kI]at hu';injection hl with hl;injection hu' with hu';subst hl hu';exact⟨hu.z7 t (Iz u f_),fun b hb=>(f_ b hb).z7 t (Iz u f_ b hb)⟩
structure wX (w0 w:World)(nb sp tb g cap:Nat)(p:Px)(ms:List Nat)(cf:Bool)(ls:List (List Cx))(lv:Value):Prop where
 u:SoU w0 w nb sp tb g cap p ms cf ls lv
 ow:qN w lv ls
 fr: ∀b∈m5 lv,w0.heap.size≤b
 bk: ∃cs,j4 w nb 250 cs∧513<cs.size
 nw:w0.heap.size≤nb
theorem wX.q8 {cap:Nat}(h:wX w0 w nb sp tb g cap p ms cf ls lv)(t:z6 [] w w'):wX w0 w' nb sp tb g cap p ms cf ls lv:=
 ⟨h.u.q8 t,h.ow.q8 t,h.fr,by obtain⟨cs,h1,h2⟩:=h.bk;exact⟨cs,h1.z7 t (by simp),h2⟩,h.nw⟩
theorem Vk.qf9 {cap:Nat}{L:List Nat}(h:Vk w0 w sp tb g cap p ms cf)(t:z6 L w w')(h1:sp∉L)(h2:g∉L)(h3: ∀m∈L,w0.heap.size≤m):Vk w0 w' sp tb g cap p ms cf:=
 ⟨h.t0.step t (fun m hm=> .inr (h3 m hm)),h.Vq,h.hg,h.X3,W6 h.Bo t.size,h.len,h.st.z7 t h1,h.lb.z7 t (fun b hb=>by simp only[m5,m6,V6,Q1]at hb;subst hb;exact h2)⟩
theorem wX.add {w3 w4:World}{cap:Nat}(h:wX w0 w nb sp tb g cap p ms cf ls lv)(t3:z6 [] w w3)(h1:K1.length=ls.length)(h2:Own w 32 1 lv ls.length K1)(h3: ∀(j:Nat) l u,ls[j]? =some l→K1[j]? =some u→Q0 w u l∧ ∀b∈rb u,Kd w b 53)(hu:Q0 w3 u l)(f_: ∀b∈m5 u,Kd w3 b 53)(t:z6 (m5 lv) w3 w4)(ho:Own w4 32 1 qU (ls.length+1) (K1++ [u]))(hf:S2 w3 lv qU)(J3:Ml p l∧l.length≤100000)(hlen:ls.length<4096):w4.cell? ⟨nb,513,none⟩=some lv∧w4.frozen? ⟨nb,513,none⟩=false∧wX w0 (w4.setCell ⟨nb,513,none⟩ qU) nb sp tb g cap p ms cf (ls++ [l]) qU∧z6 (nb::m5 lv) w (w4.setCell ⟨nb,513,none⟩ qU):=by
 have I1:=h.ow.kd;obtain⟨cs,hb,Gb⟩:=h.bk;have nnb:nb∉m5 lv:=fun hm=>Kd.ne (I1 nb hm) hb.kd (by decide) rfl;have nsp:sp∉m5 lv:=fun hm=>Kd.ne (I1 sp hm) h.u.st.st.kd (by decide) rfl;have ng:g∉m5 lv:=fun hm=>Kd.ne (I1 g hm) (h.u.st.lb.kd g (by simp[m5])) (by decide) rfl;have zb3:sp≠nb:=fun e=>Kd.ne (e ▸ h.u.st.st.kd) hb.kd (by decide) rfl;have ngb:g≠nb:=fun e=>Kd.ne (e ▸ h.u.st.lb.kd g (by simp[m5])) hb.kd (by decide) rfl;have hu3:=h.q8 t3;have b4:=(hb.z7 t3 (by simp)).z7 t nnb;have tw:z6 [nb] w4 (w4.setCell ⟨nb,513,none⟩ qU):=(z8 [nb] w4).setCell (.inl (by simp)) qU;have t4:z6 (nb::m5 lv) w (w4.setCell ⟨nb,513,none⟩ qU):=((t3.mono (M:=nb::m5 lv) (by simp)).step t (fun m hm=> .inl (T8 _ hm))).step tw (fun m hm=> .inl (by rw[y7]at hm;subst hm;exact N3));have b5:=b4.V8 513 qU;have qW:=h.u.st.t0.size;have ho5:qN (w4.setCell ⟨nb,513,none⟩ qU) qU (ls++ [l]):=(qN.push h1 hu3.ow.kd (fun j l u e1 e2=>⟨(h3 j l u e1 e2).1.q8 t3,fun b hb=>((h3 j l u e1 e2).2 b hb).z7 t3 (by simp)⟩) hu (fun b hb=>f_ b (Gp _ b hb)) t ho).v7 tw (fun b hb=>by rw[y7]at hb;subst hb;exact⟨_,b4.kd,by decide,by decide⟩);have hc: ∀i,i≠513→(w4.setCell ⟨nb,513,none⟩ qU).cell? ⟨nb,i,none⟩=w.cell? ⟨nb,i,none⟩:=fun i hi=>(b5.cell i).trans ((rX (W5 hi)).trans (hb.cell i).symm);have h0:=h.u.st.t0.size;have RL:(w4.setCell ⟨nb,513,none⟩ qU).cell? ⟨nb,513,none⟩=some qU:=(b5.cell 513).trans (Array.getElem?_setIfInBounds_self_of_lt Gb);refine⟨(b4.cell 513).trans ((hb.cell 513).symm.trans h.u.rT),b4.frozen 513,⟨⟨h.u.st.qf9 t4 (by simp only[m6,not_or];exact⟨zb3,nsp⟩) (by simp only[m6,not_or];exact⟨ngb,ng⟩) (fun m hm=> ?_),h.u.inv,h.u.sb,h.u.pos,W6 h.u.lt t4.size,⟨W6 h.u.lt t4.size,fun s hs=>(hc s (by omega)).trans (h.u.sd.2 s hs)⟩,(hc 512 (by omega)).trans h.u.rU,RL,ho5.rows,fun x hx=> ?_,by rw[Ec];simp;omega⟩,ho5,fun b U3=> ?_,⟨_,b5,by simpa using Gb⟩,h.nw⟩,t4⟩
 ·rcases m6.1 hm with rfl | hm
  ·exact h.nw
  ·exact h.fr m hm
 ·rcases cQ.1 hx with hx | hx
  ·exact h.u.ok x hx
  ·rw[y7]at hx;subst hx;exact J3
 ·rcases hf b U3 with e | e
  ·exact h.fr b e
  ·exact j9 h0 (j9 t3.size e)
theorem MA {cap:Nat}{gv:Value}(hp:j8 p)(hn:Dz p.D)(h:wX w0 w nb sp tb g cap p ms cf ls lv)(l:List Cx)(hl:Q0 w gv l)(T3:l.length≤100000)(hv:Eo p l=true)(hlen:ls.length<4096):Calls Tryz.prog 135 #[.pointer (some ⟨nb,0,none⟩),gv] w fun r w'=> ∃qU,r= .returned (.int .i64 0)∧wX w0 w' nb sp tb g cap p ms cf (ls++ [l]) qU∧z6 (nb::m5 lv) w w':=by
 have HM:=O (Vf h.u);have HV:=Si hp hn h.u.sd l hl T3;rw[hv]at HV;have HV:=O HV;have Y7:=O (And.intro (gj hn hv) T3);have xO:=p7 (fun W t=>h.q8 t);have HLP:=p7 (fun W t=>hl.q8 t);obtain⟨A,cl,rfl⟩:=h.u.rows.form;have zj7:(ls.length:Int)<4096:=by omega
 have Q7: ¬(4096:Int)≤(ls.length:Int):=by omega
 clear h hl;go_enter Tryz.func135,Tryz.ntmps135;go_wp2_with fail;refine HM.o.mono ?_;rintro r w1 ⟨rfl,rfl⟩;go_wp2_with fail;refine HV.o.mono ?_;rintro r w1 ⟨rfl,t1⟩;have h1:=xO.o w1 t1;have J6:=O t1;have c1:=h1.u.rT;obtain⟨K1,g1,g2,g3⟩:=h1.ow;have Iy:=O g2;have HK:=p7 (fun W t=>(h1.q8 t).u.rT);have QS:=p7 (fun W t=>xp gv l W (HLP.o W (t1.Y t)) T3);have I9:=O (fun(W:World) (t:z6 [] w1 W) (u:Value) (hu:Q0 W u l) (f_: ∀b∈m5 u,Kd W b 53) (w4:World) (qU:Value) (ho:Own w4 32 1 qU (ls.length+1) (K1++ [u])) (t4:z6 (m5 (.slice A ls.length cl)) W w4) (hf:S2 W (.slice A ls.length cl) qU)=>h1.add t g1 g2 g3 hu f_ t4 ho hf Y7.o hlen);have hQ:=z8 [] w1;clear h1 g1 g2 g3 t1;go_wp2_with fail;clear c1;refine n6 (fun W'=>W'.cell? ⟨nb,513,none⟩=some (.slice A ls.length cl)) 11 (by kernel_rfl) ?_;refine tk 0 (HK.o _ hQ.drew) ?_;refine tk 1 (HK.o _ hQ.drew) ?_;refine tk 2 (HK.o _ hQ.drew) ?_;refine tk 3 (HK.o _ hQ.drew) ?_;refine tk 4 (HK.o _ hQ.drew) ?_;refine tk 5 (HK.o _ hQ.drew) ?_;refine tn 6 (fun K hK=> ?_);go_simp;refine(QS.o _ hQ.drew).mono ?_;rintro r w2 ⟨v2,rfl,xG,t2,U3,V9⟩;obtain⟨A2,c2,rfl⟩:=xG.form;have Xu:=hQ.drew.Y t2;go_wp2_with fail;refine YU hK (HK.o _ Xu) ?_;clear hK K;refine tn 7 (fun K hK=> ?_);go_simp;go_wp2_with fail;refine YU hK (HK.o _ (Xu.alloc _)) ?_;clear hK K;refine tn 8 (fun K hK=> ?_);refine l7 NI (Iy.o.q8 (Xu.alloc _)) (J0 _ 32 [.slice A2 l.length c2] 1 1 rfl (by decide)) (by simp[Value.oneCell']) (by omega) (by unfold maxLen;omega) ?_;intro v11 X6 r8 Q6 X9;obtain⟨Mq,Mo,rfl⟩:=r8.form;have M5:=O (I9.o _ (Xu.alloc _) _ (xG.q8 ((z8 [] w2).alloc _)) (fun b hb=>(V9 b hb).z7 ((z8 [] w2).alloc _) (by simp)) X6 _ r8 Q6 X9);have Ik:=M5.o.1;have f11:=M5.o.2.1;refine YU hK M5.o.1 ?_;clear hK K;refine tn 9 (fun K hK=> ?_);go_simp;refine YU hK M5.o.1 ?_;clear hK K;refine tn 10 (fun K hK=> ?_);go_simp;refine YU hK M5.o.1 ?_;clear hK K;refine tl (fun K hK=> ?_);go_simp;refine hK.o _ _ ?_;clear hK K;(try simp only[nz]);go_wp2_with fail;go_ret;exact⟨_,rfl,M5.o.2.2.1,by obtain⟨e1,e4,e2,e3⟩:=M5.o;exact(J6.o.mono (by simp)).trans e3⟩
def qx8 (w0:World)(nb sp tb g cap:Nat)(p:Px)(ms:List Nat)(cf:Bool)(LS:List (List Cx))(ti:Value)(wr:World):Prop:= ∃(k:Nat) (lv:Value),k≤LS.length∧ti= .int .i64 k∧Hid (wX w0 wr nb sp tb g cap p ms cf (LS.take (min k (LS.length - 1))) lv)∧Hid (∀i,i<k→sA p LS i)
theorem Qc (hk:k<LS.length)(h: ∀i,i<k→sA p LS i)(hb:Eo p LS[k]=true→ ¬Hs p (LS.take k) LS[k]):Dt p LS k:=⟨Nat.le_of_lt hk,h,fun _ hl=>by
 obtain⟨g,h1,h2,h3⟩:=hl;rw[j6 hk]at h1;injection h1 with h1;subst h1
 exact hb h2 h3⟩
theorem uL (hk:k<LS.length)(h: ∀i,i<k→sA p LS i)(h1:Eo p LS[k]=true)(h2:Hs p (LS.take k) LS[k]): ∀i,i<k+1→sA p LS i:=fun i hi=>by
 rcases Is.1 hi with h3 | h3
 ·exact h i h3
 ·subst h3;exact⟨_,j6 hk,h1,h2⟩
theorem lV (hk:k≤LS.length)(V9:LS.length≤k)(h: ∀i,i<k→sA p LS i):Dt p LS LS.length:=⟨a9 _,fun i hi=>h i (by omega),fun h=>absurd h (by omega)⟩
def zN (w0:World)(p:Px)(LS:List (List Cx))(r:Ending)(w':World):Prop:= ∃k:Nat,r= .returned (.int .i64 (k:Int))∧Dt p LS k∧z6 [] w0 w'
theorem wF {cap:Nat}{vs vp vc vi vf VL lv0:Value}(hu:xL w0 tb p vs vp vc vi vf)(hn:Dz p.D)(h:wX w0 w nb sp tb g cap p ms cf [] lv0)(LS:List (List Cx))(hL:C8 2 Cx.cells Cx.Fit w0 VL LS)(T3:LS.length≤4096)(Bo: ∀x∈LS,x.length≤100000):Calls Tryz.prog 93 #[.pointer (some ⟨nb,0,none⟩),VL] w (zN w0 p LS):=by
 obtain⟨A,cl,rfl⟩:=hL.form;have Rm:=p7 (fun W t=>hL.q8 t);have HFO:=O (fun(ls:List (List Cx)) (lv:Value) (W:World) (h:wX w0 W nb sp tb g cap p ms cf ls lv) (l:List Cx) (gv:Value) (hl:Q0 W gv l) (T3:l.length≤100000)=>pR hu hn h.u l hl T3);have M5:=O (fun(ls:List (List Cx)) (lv:Value) (W:World) (h:wX w0 W nb sp tb g cap p ms cf ls lv) (l:List Cx) (gv:Value) (hl:Q0 W gv l) (T3:l.length≤100000) (hv:Eo p l=true) (hlen:ls.length<4096)=>MA hu.hp hn h l hl T3 hv hlen);have Co:Hid (wX w0 w nb sp tb g cap p ms cf (LS.take (min 0 (LS.length - 1))) lv0):=O (by rw[Nat.zero_min,List.take_zero];exact h);clear h hL hu;go_enter Tryz.func93,Tryz.ntmps93;go_wp2_with fail;go_loopw [11] (fun ti wr=>qx8 w0 nb sp tb g cap p ms cf LS ti wr) (fun ti _=>LS.length - (intOf ti).toNat)
 case atStart=>exact⟨0,lv0,by omega,rfl,Co.o,O (fun i h=>by omega)⟩
 case round=>
  clear Co;obtain⟨k,lv,hk,rfl,xO,HX⟩:=hrel;by_cases Z:k<LS.length
  ·have j1:(k:Int)< (LS.length:Int):=by omega
   have qn9:min k (LS.length - 1)=k:=by omega
   rw[qn9]at xO;clear qn9;have Na:=Rm.o wr xO.o.u.st.t0;obtain⟨b2,Hn,u,rfl,U3,cu,Yy⟩:=Na.at_ Z;have dt:=Bo _ (k8 Z);have bK:=O Yy;obtain⟨Au,X2,rfl⟩:=Yy.form;have QN:=O (HFO.o _ _ wr xO.o _ _ Yy dt);clear Na U3 Yy
   cases mL:Eo p LS[k]with
   | false=>
    have mi:=O (Qc Z HX.o (fun e=>by rw[mL]at e;cases e));unfold Lg at QN;rw[mL]at QN;clear mL;generalize LS[k]=x at*;go_wp2_with fail;refine QN.o.mono ?_;rintro r w2 ⟨b,rfl,-,hb,t2⟩;obtain rfl:=hb (by first | rfl | trivial);have B4:=O (xO.o.u.st.t0.Y t2);clear t2 hb;go_wp2_with fail;go_ret;exact⟨k,rfl,mi.o,B4.o⟩
   | true=>
    have E4:=O (fun(e: ¬Hs p (LS.take k) LS[k])=>Qc Z HX.o (fun _=>e));have W7:=O (fun(e:Hs p (LS.take k) LS[k])=>uL Z HX.o mL e);have hlk:(LS.take k).length<4096:=by rw[Y8];omega
    have Su:=p7 (fun W t=>M5.o _ _ W (xO.o.q8 t) _ _ (bK.o.q8 t) dt mL hlk);have HTK:Hid (LS.take k++ [LS[k]]=LS.take (k+1)):=O (Cw Z).symm;unfold Lg at QN;rw[mL]at QN;clear mL bK HX hlk;generalize LS[k]=x at*;go_wp2_with fail;refine QN.o.mono ?_;rintro r w2 ⟨b,rfl,hb,-,t2⟩;have HB:=O (hb (by first | rfl | trivial));have B4:=O t2;clear t2 hb QN
    cases b with
    | false=>
     have mi:=O (E4.o (fun e=>by have:=HB.o.2 e;cases this));have Q8:=O (xO.o.u.st.t0.Y B4.o);go_wp2_with fail;go_ret;exact⟨k,rfl,mi.o,Q8.o⟩
    | true=>
     have Mv:=O (W7.o (HB.o.1 rfl));have HA3:=O (Su.o w2 B4.o);have Hw:=O (xO.o.q8 B4.o);clear Su W7 E4 HB xO HFO M5;by_cases hla:k<LS.length - 1
     ·have zd4:(k:Int)< (LS.length:Int) - 1:=by omega
      go_wp2_with fail;refine HA3.o.mono ?_;rintro r w3 ⟨lv3,rfl,vx,-⟩
      have bJ:Hid (wX w0 w3 nb sp tb g cap p ms cf (LS.take (min (k+1) (LS.length - 1))) lv3):=O (by
       rw[Nat.min_eq_left (by omega),←HTK.o]
       exact vx)
      clear vx;go_wp2_with fail;exact⟨⟨k+1,lv3,Z,by go_num,bJ,Mv⟩,by simp[intOf];omega⟩
     ·have zd4: ¬(k:Int)< (LS.length:Int) - 1:=by omega
      have bJ:Hid (wX w0 w2 nb sp tb g cap p ms cf (LS.take (min (k+1) (LS.length - 1))) lv):=O (by
       rw[Nat.min_eq_right (by omega),show LS.length - 1=k by omega]
       exact Hw.o)
      go_wp2_with fail;exact⟨⟨k+1,lv,Z,by go_num,bJ,Mv⟩,by simp[intOf];omega⟩
  ·have j1: ¬(k:Int)< (LS.length:Int):=by omega
   have mi:=O (lV hk (by omega) HX.o);have Q8:=O xO.o.u.st.t0;clear HX xO HFO M5;go_wp2_with fail;go_ret;exact⟨_,rfl,mi.o,Q8.o⟩
def Yv (f:Nat→Nat→α)(a i:Nat)(v:α):Nat→Nat→α:=fun b j=>if b=a∧j=i then v else f b j
theorem S3 (f:Nat→Nat→α)(a i:Nat)(v:α):Yv f a i v a i=v:=x9 ⟨rfl,rfl⟩
theorem Z9 (f:Nat→Nat→α){b:Nat}(v:α)(h: ¬(b=a∧j=i)):Yv f a i v b j=f b j:=z9 h
structure jU (To Te:Nat→TypeId)(c:Nat→Nat)(n:Nat)(w:World)(F:List Nat)(G C:Nat→Nat)(u:Nat→Nat→Value)(m:Nat→Nat→Nat)(X:Nat→Nat→List Value):Prop where
 VQ: ∀a,a<4→Own w (To a) 1 (.slice (some ⟨G a,0,none⟩) n (C a)) n ((List.range n).map (u a))
 row: ∀a i,a<4→i<n→Own w (Te a) (c a) (u a i) (m a i) (X a i)
 inj: ∀a b,a<4→b<4→G a=G b→a=b
 gF: ∀a,a<4→G a∈F
 rD: ∀a i,a<4→i<n→ ∀b∈m5 (u a i),b∉F
 XB: ∀a i b j,a<4→i<n→b<4→j<n→ ¬(a=b∧i=j)→ ∀x∈m5 (u a i),x∉m5 (u b j)
 lt: ∀b∈F,b<w.heap.size
section
variable {To Te:Nat→TypeId}{c:Nat→Nat}{n:Nat}{w w':World}{F:List Nat}{G C:Nat→Nat}{u:Nat→Nat→Value}{m:Nat→Nat→Nat}{X:Nat→Nat→List Value}
theorem jU.z7 (h:jU To Te c n w F G C u m X){L:List Nat}(t:z6 L w w')(h1: ∀a,a<4→G a∉L)(h2: ∀a i,a<4→i<n→ ∀b∈m5 (u a i),b∉L):jU To Te c n w' F G C u m X:=
 ⟨fun a ha=>(h.VQ a ha).z7 t (fun b hb=>by simp only[m5,m6,V6,Q1]at hb;subst hb;exact h1 a ha),fun a i ha hi=>(h.row a i ha hi).z7 t (h2 a i ha hi),h.inj,h.gF,h.rD,h.XB,fun b hb=>W6 (h.lt b hb) t.size⟩
theorem jU.q8 (h:jU To Te c n w F G C u m X)(t:z6 [] w w'):jU To Te c n w' F G C u m X:=h.z7 t (fun _ _=>by simp) (fun _ _ _ _ _ _=>by simp)
theorem jU.IZ (h:jU To Te c n w F G C u m X){t:Nat}(ht:t∈F)(hG: ∀a,a<4→G a≠t)(tt:z6 [t] w w'):jU To Te c n w' F G C u m X:=
 h.z7 tt (fun a ha=>by simp only[y7];exact hG a ha) (fun a i ha hi b hb=>by simp only[y7];exact fun e=>h.rD a i ha hi b hb (e ▸ ht))
theorem jU.congr (h:jU To Te c n w F G C u m X){m':Nat→Nat→Nat}{X':Nat→Nat→List Value}(e1: ∀a i,a<4→i<n→m a i=m' a i)(e2: ∀a i,a<4→i<n→X a i=X' a i):jU To Te c n w F G C u m' X':=
 ⟨h.VQ,fun a i ha hi=>by rw[←e1 a i ha hi,←e2 a i ha hi];exact h.row a i ha hi,h.inj,h.gF,h.rD,h.XB,h.lt⟩
theorem jU.cell (h:jU To Te c n w F G C u m X)(ha:a<4)(hi:i<n):w.cell? ⟨G a,i,none⟩=some (u a i):=
 Own.cN (h.VQ a ha) hi (by rw[Jq,cT hi];rfl)
theorem jU.frozen (h:jU To Te c n w F G C u m X)(ha:a<4)(i:Nat):w.frozen? ⟨G a,i,none⟩=false:=Own.aN (h.VQ a ha) i
theorem kT {f:Nat→α}{v:α}(hi:i<n):((List.range n).map f).set i v=(List.range n).map (fun j=>if j=i then v else f j):=by
 refine List.ext_getElem? (fun k=> ?_);rw[List.getElem?_set,Cy,List.length_range,Jq,Jq];by_cases hk:i=k
 ·subst hk;rw[x9 rfl,x9 hi,cT hi];simp
 ·rw[z9 hk];by_cases hkn:k<n
  ·rw[cT hkn];simp[W5 hk]
  ·rw[Ra (by simpa using hkn)];rfl
theorem jU.push (h:jU To Te c n w F G C u m X)(ha:a<4)(hi:i<n)(t:z6 (m5 (u a i)) w w')(ho:Own w' (Te a) (c a) v' m' X')(hf:S2 w (u a i) v'):
  jU To Te c n (w'.setCell ⟨G a,i,none⟩ v') F G C (Yv u a i v') (Yv m a i m') (Yv X a i X')∧z6 (G a::m5 (u a i)) w (w'.setCell ⟨G a,i,none⟩ v')∧w'.frozen? ⟨G a,i,none⟩=false∧w'.cell? ⟨G a,i,none⟩=some (u a i):=by
 have hG': ∀b,b<4→ ∀x∈m5 (Value.slice (some ⟨G b,0,none⟩) n (C b)),x∉m5 (u a i):=fun b hb x hx hm=>by
  simp only[m5,m6,V6,Q1]at hx;subst hx;exact h.rD a i ha hi _ hm (h.gF b hb)
 have RB: ∀b,b<4→Own w' (To b) 1 (.slice (some ⟨G b,0,none⟩) n (C b)) n ((List.range n).map (u b)):=fun b hb=>(h.VQ b hb).z7 t (hG' b hb);have tw:z6 [G a] w' (w'.setCell ⟨G a,i,none⟩ v'):=(z8 [G a] w').setCell (.inl (by simp)) v'
 have Qn: ∀x∈m5 v',x∉F:=fun x hx hF=>by
  rcases hf x hx with e | e
  ·exact h.rD a i ha hi x e hF
  ·exact absurd (h.lt x hF) (by omega)
 have hold: ∀b j,b<4→j<n→ ∀x∈m5 (u b j),x<w.heap.size:=fun b j hb hj=>(h.row b j hb hj).lt;refine⟨⟨fun b hb=> ?_,fun b j hb hj=> ?_,h.inj,h.gF,fun b j hb hj=> ?_,fun b j b' j' hb hj Pm hj' X3=> ?_,fun x hx=>W6 (h.lt x hx) (j9 t.size tw.size)⟩,(t.mono (M:=G a::m5 (u a i)) (fun x hx=>T8 _ hx)).step tw (fun x hx=> .inl (by rw[y7]at hx;subst hx;exact N3)),Own.aN (RB a ha) i,Own.cN (RB a ha) hi (by rw[Jq,cT hi];rfl)⟩
 ·by_cases hba:b=a
  ·subst hba;have h1:=(Own.ql6 (RB b hb) i v').1;rw[kT hi]at h1
   have e:(fun j=>if j=i then v' else u b j)=Yv u b i v' b:=by
    funext j
    by_cases hj:j=i
    ·subst hj;rw[x9 rfl,S3]
    ·rw[z9 hj,Z9 _ _ (fun e=>hj e.2)]
   rw[e]at h1;exact h1
  ·have e:Yv u a i v' b=u b:=by
    funext j
    exact Z9 _ _ (fun e=>hba e.1)
   rw[e];refine(RB b hb).z7 tw (fun x hx=> ?_);simp only[m5,m6,V6,Q1]at hx⊢;subst hx;exact fun e=>hba (h.inj b a hb ha e)
 ·by_cases vt:b=a∧j=i
  ·obtain⟨rfl,rfl⟩:=vt;rw[S3,S3,S3];refine ho.z7 tw (fun x hx=> ?_);rw[y7];exact fun e=>Qn x hx (e ▸ h.gF b hb)
  ·rw[Z9 _ _ vt,Z9 _ _ vt,Z9 _ _ vt];refine((h.row b j hb hj).z7 t (h.XB b j a i hb hj ha hi vt)).z7 tw (fun x hx=> ?_);rw[y7];exact fun e=>h.rD b j hb hj x hx (e ▸ h.gF a ha)
 ·by_cases vt:b=a∧j=i
  ·obtain⟨rfl,rfl⟩:=vt;rw[S3];exact Qn
  ·rw[Z9 _ _ vt];exact h.rD b j hb hj
 ·by_cases vt:b=a∧j=i
  ·obtain⟨rfl,rfl⟩:=vt;have yD: ¬(b'=b∧j'=j):=fun e=>X3 ⟨e.1.symm,e.2.symm⟩;rw[S3,Z9 _ _ yD];intro x hx CE;rcases hf x hx with e | e
   ·exact h.XB b j b' j' hb hj Pm hj' X3 x e CE
   ·exact absurd (hold b' j' Pm hj' x CE) (by omega)
  ·rw[Z9 _ _ vt];by_cases qo7:b'=a∧j'=i
   ·obtain⟨rfl,rfl⟩:=qo7;rw[S3];intro x hx CE;rcases hf x CE with e | e
    ·exact h.XB b j b' j' hb hj Pm hj' X3 x hx e
    ·exact absurd (hold b j hb hj x hx) (by omega)
   ·rw[Z9 _ _ qo7];exact h.XB b j b' j' hb hj Pm hj' X3
end
def Nw (p:Px)(k i:Nat):List Q5:=((p.R.P.take k).map (Cq p)).filter (fun x=>x.a==(i:Int) || x.b==(i:Int))
def Ye (p:Px)(k i:Nat):List Q4:=((p.R.C.take k).map (CS p)).filter (fun x=>x.a==(i:Int))
def Ya (p:Px)(k i:Nat):List Q5:=((p.R.L.take k).map (Cq p)).filter (fun x=>x.a==(i:Int))
def Yb (p:Px)(k i:Nat):List Q5:=((p.R.L.take k).map (Cq p)).filter (fun x=>x.b==(i:Int))
theorem Qd {β:Type}(l:List α)(f:α→β)(q:β→Bool)(hk:k<l.length):((l.take (k+1)).map f).filter q=((l.take k).map f).filter q++(if q (f l[k])=true then [f l[k]]else []):=by
 rw[Cw hk,Yi,cV]
 congr 1
 by_cases h:q (f l[k])=true
 ·rw[x9 h];simp[h]
 ·rw[z9 h];simp[h]
def Mp (p:Px)(k1 k2 k3:Nat)(a i:Nat):List Value:=
 if a=0 then(Nw p k1 i).flatMap Q5.cells else if a=1 then(Ye p k3 i).flatMap Q4.cells else if a=2 then(Ya p k2 i).flatMap Q5.cells else(Yb p k2 i).flatMap Q5.cells
def Kv (p:Px)(k1 k2 k3:Nat)(a i:Nat):Nat:=
 if a=0 then(Nw p k1 i).length else if a=1 then(Ye p k3 i).length else if a=2 then(Ya p k2 i).length else(Yb p k2 i).length
theorem NR (hk:k1<p.R.P.length)(hA:(Cq p p.R.P[k1]).a=A)(hB:(Cq p p.R.P[k1]).b=B)(hAB:A≠B)(a i:Nat):
  Yv (Yv (Kv p k1 k2 k3) 0 A (Kv p k1 k2 k3 0 A+1)) 0 B (Kv p k1 k2 k3 0 B+1) a i=Kv p (k1+1) k2 k3 a i∧Yv (Yv (Mp p k1 k2 k3) 0 A (Mp p k1 k2 k3 0 A++(Cq p p.R.P[k1]).cells)) 0 B (Mp p k1 k2 k3 0 B++(Cq p p.R.P[k1]).cells) a i=Mp p (k1+1) k2 k3 a i:=by
 by_cases ha:a=0
 ·subst ha;have e:=Qd p.R.P (Cq p) (fun x=>x.a==(i:Int) || x.b==(i:Int)) hk
  have e':Nw p (k1+1) i=Nw p k1 i++(if i=A∨i=B then [Cq p p.R.P[k1]]else []):=by
   unfold Nw;rw[e]
   congr 1
   refine ite_congr (propext ?_) (fun _=>rfl) (fun _=>rfl);simp only[S9,beq_iff_eq,hA,hB];constructor
   ·rintro(e | e)
    ·exact .inl (by omega)
    ·exact .inr (by omega)
   ·rintro(e | e)
    ·exact .inl (by omega)
    ·exact .inr (by omega)
  by_cases PN:i=B
  ·subst PN;rw[S3,S3];simp only[Mp,Kv,x9,e'];simp
  ·rw[Z9 _ _ (fun e=>PN e.2),Z9 _ _ (fun e=>PN e.2)];by_cases vy:i=A
   ·subst vy;rw[S3,S3];simp only[Mp,Kv,x9,e'];simp
   ·rw[Z9 _ _ (fun e=>vy e.2),Z9 _ _ (fun e=>vy e.2)];simp only[Mp,Kv,x9,e'];simp[vy,PN]
 ·rw[Z9 _ _ (fun e=>ha e.1),Z9 _ _ (fun e=>ha e.1),Z9 _ _ (fun e=>ha e.1),Z9 _ _ (fun e=>ha e.1)];simp only[Mp,Kv,z9 ha]
  first | trivial | exact⟨rfl,rfl⟩
theorem NS (hk:k2<p.R.L.length)(hA:(Cq p p.R.L[k2]).a=A)(hB:(Cq p p.R.L[k2]).b=B)(a i:Nat)(h4:a<4):
  Yv (Yv (Kv p k1 k2 k3) 2 A (Kv p k1 k2 k3 2 A+1)) 3 B (Kv p k1 k2 k3 3 B+1) a i=Kv p k1 (k2+1) k3 a i∧Yv (Yv (Mp p k1 k2 k3) 2 A (Mp p k1 k2 k3 2 A++(Cq p p.R.L[k2]).cells)) 3 B (Mp p k1 k2 k3 3 B++(Cq p p.R.L[k2]).cells) a i=Mp p k1 (k2+1) k3 a i:=by
 have e1:Ya p (k2+1) i=Ya p k2 i++(if i=A then [Cq p p.R.L[k2]]else []):=by
  unfold Ya;rw[Qd p.R.L (Cq p) _ hk]
  congr 1
  refine ite_congr (propext ?_) (fun _=>rfl) (fun _=>rfl);simp only[beq_iff_eq,hA];omega
 have e2:Yb p (k2+1) i=Yb p k2 i++(if i=B then [Cq p p.R.L[k2]]else []):=by
  unfold Yb;rw[Qd p.R.L (Cq p) _ hk]
  congr 1
  refine ite_congr (propext ?_) (fun _=>rfl) (fun _=>rfl);simp only[beq_iff_eq,hB];omega
 by_cases ha3:a=3
 ·subst ha3;by_cases PN:i=B
  ·subst PN;rw[S3,S3];simp[Mp,Kv,e2]
  ·rw[Z9 _ _ (fun e=>PN e.2),Z9 _ _ (fun e=>PN e.2),Z9 _ _ (fun e=>by omega),Z9 _ _ (fun e=>by omega)];simp[Mp,Kv,e2,PN]
 ·rw[Z9 _ _ (fun e=>ha3 e.1),Z9 _ _ (fun e=>ha3 e.1)];by_cases ha2:a=2
  ·subst ha2;by_cases vy:i=A
   ·subst vy;rw[S3,S3];simp[Mp,Kv,e1]
   ·rw[Z9 _ _ (fun e=>vy e.2),Z9 _ _ (fun e=>vy e.2)];simp[Mp,Kv,e1,vy]
  ·rw[Z9 _ _ (fun e=>ha2 e.1),Z9 _ _ (fun e=>ha2 e.1)];have:a=0∨a=1:=by omega
   rcases this with rfl | rfl
   ·exact⟨rfl,rfl⟩
   ·exact⟨rfl,rfl⟩
theorem UZ (hk:k3<p.R.C.length)(hA:(CS p p.R.C[k3]).a=A)(a i:Nat):
  Yv (Kv p k1 k2 k3) 1 A (Kv p k1 k2 k3 1 A+1) a i=Kv p k1 k2 (k3+1) a i∧Yv (Mp p k1 k2 k3) 1 A (Mp p k1 k2 k3 1 A++(CS p p.R.C[k3]).cells) a i=Mp p k1 k2 (k3+1) a i:=by
 have e1:Ye p (k3+1) i=Ye p k3 i++(if i=A then [CS p p.R.C[k3]]else []):=by
  unfold Ye;rw[Qd p.R.C (CS p) _ hk]
  congr 1
  refine ite_congr (propext ?_) (fun _=>rfl) (fun _=>rfl);simp only[beq_iff_eq,hA];omega
 by_cases ha:a=1
 ·subst ha;by_cases vy:i=A
  ·subst vy;rw[S3,S3];simp[Mp,Kv,e1]
  ·rw[Z9 _ _ (fun e=>vy e.2),Z9 _ _ (fun e=>vy e.2)];simp[Mp,Kv,e1,vy]
 ·rw[Z9 _ _ (fun e=>ha e.1),Z9 _ _ (fun e=>ha e.1)];simp only[Mp,Kv,z9 ha]
  first | trivial | exact⟨rfl,rfl⟩
variable {P:Program}{md:Region.Mode}{ops:Array Oper}{Q:Exit→Act→World→Prop}{S:World→Prop}{zs:List Nat}
def O7 (P:Program)(md:Region.Mode)(ops:Array Oper)(Q:Exit→Act→World→Prop)(S:World→Prop)(zs:List Nat):Nat→Array Bool→Act→World→Prop
 | 0,L,a,w=>Region.ready md ops L= []∧Q .normal a w
 | n+1,L,a,w=>(Region.ready md ops L= []→Q .normal a w)∧ ∀i∈Region.ready md ops L,wpOp P ops Q i (fun a' w'=>(zs.contains i=false→S w')∧O7 P md ops Q S zs n (L.setIfInBounds i true) a' w') a w
theorem O7.any: ∀(n:Nat) (L:Array Bool) (a:Act) (w:World),O7 P md ops Q S zs n L a w→wpAny P md ops Q n L a w
 | 0,_,_,_,h=>h
 | n+1,_,_,_,h=>⟨h.1,fun i hi=>wpOp_mono (fun a' w' h'=>O7.any n _ a' w' h'.2) (h.2 i hi)⟩
def JV (md:Region.Mode)(ops:Array Oper)(zs:List Nat)(i:Nat):Bool:=zs.all (fun z=>match ops[z]? with | some oz=>oz.after.any (fun e=>Region.binds md e&&e.on==i) | none=>false)
theorem O7.first (hi:ops[i]? =some oi)(DK:JV md ops zs i=true)(iH: ∀(j:Nat) (o:Oper) cs b,ops[j]? =some o→o.op≠ .select cs b)
  (hQ: ∀c a w,Q (.panic c) (a.put oi.dst v) w→Q (.panic c) a w): ∀(n:Nat) (L:Array Bool) (a:Act) (w:World),
   (∀j oj,ops[j]? =some oj→j≠i→L.getD j true=false→(∀e∈oj.after,Region.binds md e=true→e.on≠i)→oi.apart ops oj=true)→
   i∈Region.ready md ops L→YieldsIf P ops S oi v a→S w→O7 P md ops Q S zs n (L.setIfInBounds i true) (a.put oi.dst v) w→O7 P md ops Q S zs (n+1) L a w
 | 0,L,a,w,_,hr,hy,hS,H=>by
  refine⟨fun h=>(by rw[h]at hr;cases hr),fun j hj=> ?_⟩;by_cases bF:j=i
  ·subst bF;exact hy.wpOp hi hS ⟨fun _=>hS,H⟩
  ·have h1:=ready_mono hj bF;rw[H.1]at h1;cases h1
 | n+1,L,a,w,sM,hr,hy,hS,H=>by
  refine⟨fun h=>(by rw[h]at hr;cases hr),fun j hj=> ?_⟩;by_cases bF:j=i
  ·subst bF;exact hy.wpOp hi hS ⟨fun _=>hS,H⟩
  ·have o_:zs.contains j=false:=Bool.eq_false_iff.2 (fun e=>by
    have hm:j∈zs:=by simpa using e
    have h1:=Z6.1 DK j hm
    cases td:ops[j]? with
    | none=>rw[td]at h1;cases h1
    | some oj=>
     rw[td]at h1
     exact Cm td h1 hr hj)
   obtain⟨OD,oj,td,-⟩:=mem_ready.1 hj
   have Iz: ∀e∈oj.after,Region.binds md e=true→e.on≠i:=fun e he hb t_=>
    Cm (oj:=oj) td (Array.any_eq_true'.2 ⟨e,he,by rw[hb,t_];simp⟩) hr hj
   have h2:=wpOp_putIf td (sM j oj td bF OD Iz) (fun cs b=>iH i oi cs b hi) (fun cs b=>iH j oj cs b td) hQ hy (H.2 j (ready_mono hj bF));refine wpOp_mono (fun a' w' h3=>⟨fun _=>h3.2.1 o_,O7.first hi DK iH hQ n (L.setIfInBounds j true) a' w' (fun k ok hk hki qb6 qc0=> ?_) (ready_mono hr (W5 bF)) h3.1 (h3.2.1 o_) ?_⟩) h2
   ·refine sM k ok hk hki ?_ qc0;by_cases WM:j=k
    ·subst WM;exact OD
    ·rwa [getD_set_ne true WM]at qb6
   ·rw[Array.setIfInBounds_comm _ _ bF];exact h3.2.2
theorem O7.take {a:Act}(hi:ops[i]? =some oi)(DK:JV md ops zs i=true)
  (hs:Region.noSelect ops=true) (hf:Region.free md ops L i=true) (hr:(Region.ready md ops L).contains i=true) (hQ: ∀c a w,Q (.panic c) (a.put oi.dst v) w→Q (.panic c) a w) (hy:YieldsIf P ops S oi v a) (hS:S w)
  (h:O7 P md ops Q S zs n (L.setIfInBounds i true) (a.put oi.dst v) w):O7 P md ops Q S zs (n+1) L a w:=
 O7.first hi DK (Region.noSelect_spec hs) hQ n L a w (Region.free_spec hi hf) (by simpa using hr) hy hS h
theorem O7.one {a:Act}(hr:Region.ready md ops L= [i])(hi:ops[i]? =some o)(CJ:zs.contains i=true)
  (h: ∀K:Act→World→Prop,Shut (∀a w,O7 P md ops Q S zs n (L.setIfInBounds i true) a w→K a w)→if Region.wanted o (yielded ops a.tmps)=true then Oper.wp P o a w K Q else K (a.put o.dst undef) w):O7 P md ops Q S zs (n+1) L a w:=by
 refine⟨fun h0=>(by rw[hr]at h0;cases h0),fun j hj=> ?_⟩;rw[hr]at hj;obtain rfl:j=i:=by simpa using hj
 exact wpOp_step hi (fun K' hK=>h K' (fun a w hW=>hK a w ⟨fun hc=>(by rw[CJ]at hc;cases hc),hW⟩))
theorem O7.two {oj:Oper}{a:Act}(hr:Region.ready md ops L= [i,j])(hi:ops[i]? =some oi)(hj:ops[j]? =some oj)(CJ:zs.contains i=true)(o_:zs.contains j=true)
  (h1: ∀K:Act→World→Prop,Shut (∀a w,O7 P md ops Q S zs n (L.setIfInBounds i true) a w→K a w)→if Region.wanted oi (yielded ops a.tmps)=true then Oper.wp P oi a w K Q else K (a.put oi.dst undef) w)
  (h2: ∀K:Act→World→Prop,Shut (∀a w,O7 P md ops Q S zs n (L.setIfInBounds j true) a w→K a w)→if Region.wanted oj (yielded ops a.tmps)=true then Oper.wp P oj a w K Q else K (a.put oj.dst undef) w):O7 P md ops Q S zs (n+1) L a w:=by
 refine⟨fun h0=>(by rw[hr]at h0;cases h0),fun k hk=> ?_⟩;rw[hr]at hk;rcases m6.1 hk with rfl | hk
 ·exact wpOp_step hi (fun K' hK=>h1 K' (fun a w hW=>hK a w ⟨fun hc=>(by rw[CJ]at hc;cases hc),hW⟩))
 ·obtain rfl:k=j:=by simpa using hk
  exact wpOp_step hj (fun K' hK=>h2 K' (fun a w hW=>hK a w ⟨fun hc=>(by rw[o_]at hc;cases hc),hW⟩))
theorem O7.done {a:Act}(hr:Region.ready md ops L= [])(h:Q .normal a w):O7 P md ops Q S zs n L a w:=by
 cases n with
 | zero=>exact⟨hr,h⟩
 | succ n=>exact⟨fun _=>h,fun i hi=>by rw[hr]at hi;cases hi⟩
def dk (w1:World)(I:List Nat)(ty:Nat→TypeId)(zc:Nat→Array Value)(f:Nat→Option Nat)(w:World):Prop:=
 z6 [] w1 w∧(∀i∈I,∀g,f i=some g→w1.heap.size≤g∧j4 w g (ty i) (zc i))∧ ∀i∈I,∀j∈I,∀g,f i=some g→f j=some g→i=j
def fh (f:Nat→Option Nat)(i g:Nat):Nat→Option Nat:=fun j=>if j=i then some g else f j
theorem dk.step {I:List Nat}(h:dk w1 I ty zc f w)(hi:i∈I)(hf:f i=none):dk w1 I ty zc (fh f i w.heap.size) (w.alloc (.cells (zc i) (ty i))):=by
 obtain⟨h1,h2,h3⟩:=h;have Z: ∀j∈I,∀g,f j=some g→g<w.heap.size:=fun j hj g hg=>(h2 j hj g hg).2.lt;refine⟨h1.alloc _,fun j hj g hg=> ?_,fun j hj k hk g hg DY=> ?_⟩
 ·unfold fh at hg;by_cases e:j=i
  ·subst e;rw[x9 rfl]at hg;injection hg with hg;subst hg;exact⟨h1.size,j4.new _ _ _⟩
  ·rw[z9 e]at hg;exact⟨(h2 j hj g hg).1,(h2 j hj g hg).2.alloc _⟩
 ·unfold fh at hg DY;by_cases e:j=i
  ·by_cases e':k=i
   ·rw[e,e']
   ·rw[x9 e]at hg;rw[z9 e']at DY;injection hg with hg;have:=Z k hk g DY;omega
  ·rw[z9 e]at hg;by_cases e':k=i
   ·rw[x9 e']at DY;injection DY with DY;have:=Z j hj g hg;omega
   ·rw[z9 e']at DY;exact h3 j hj k hk g hg DY
theorem MB {I:List Nat}(hI:I.Nodup)(hi:i∈I)(hf:f i=none):(I.filter (fun j=>(f j).isNone)).length=(I.filter (fun j=>(fh f i g j).isNone)).length+1:=by
 induction I with
 | nil=>cases hi
 | cons k t ih=>
  obtain⟨hk,ht⟩:=List.nodup_cons.1 hI;by_cases e:k=i
  ·subst e;have e1:(fh f k g k).isNone=false:=by unfold fh;rw[x9 rfl];rfl
   have e2:t.filter (fun j=>(fh f k g j).isNone)=t.filter (fun j=>(f j).isNone):=List.filter_congr (fun j hj=>by
    unfold fh
    rw[z9 (fun e:j=k=>hk (e ▸ hj))])
   rw[cU (by rw[hf];rfl),jk (by rw[e1];simp),e2,Cz]
  ·have Xt:i∈t:=by
    rcases m6.1 hi with h | h
    ·exact absurd h.symm e
    ·exact h
   have e1:fh f i g k=f k:=z9 e;have h:=ih ht Xt;rw[Yk,Yk,e1];by_cases hn:(f k).isNone=true
   ·rw[x9 hn,x9 hn,Cz,Cz,h]
   ·rw[z9 hn,z9 hn,h]
theorem Yp {I:List Nat}(hI:I.Nodup){r:Nat}(Lf:(Nat→Option Nat)→Array Bool)(af:(Nat→Option Nat)→Act)
  (jq: ∀f,∀i∈I,∀g,(Lf f).setIfInBounds i true=Lf (fh f i g))
  (nN: ∀f,(∃i∈I,f i=none)→Region.ready md ops (Lf f)=I.filter (fun i=>(f i).isNone))
  (cH: ∀f w i,i∈I→f i=none→ ∀K:Act→World→Prop,K (af (fh f i w.heap.size)) (w.alloc (.cells (zc i) (ty i)))→wpOp P ops Q i K (af f) w)
  (Nj: ∀f w,(∀i∈I,f i≠none)→dk w1 I ty zc f w→wpAny P md ops Q r (Lf f) (af f) w):
  ∀(m:Nat) f w,(I.filter (fun i=>(f i).isNone)).length=m→dk w1 I ty zc f w→wpAny P md ops Q (m+r) (Lf f) (af f) w
 | 0,f,w,hm,h=>by
  rw[O3];refine Nj f w (fun i hi hn=> ?_) h;have:i∈I.filter (fun i=>(f i).isNone):=G4.2 ⟨hi,by rw[hn];rfl⟩;rw[cR.1 hm]at this;cases this
 | m+1,f,w,hm,h=>by
  have hex: ∃i∈I,f i=none:=by
   obtain⟨i,hi⟩: ∃i,i∈I.filter (fun i=>(f i).isNone):=List.exists_mem_of_length_pos (by omega);obtain⟨h1,h2⟩:=G4.1 hi;exact⟨i,h1,by simpa using h2⟩
  have hr:=nN f hex;rw[show m+1+r=(m+r)+1 by omega];refine wpAny_all hr (fun e=>by rw[e]at hm;cases hm) (fun i hi=> ?_);obtain⟨h1,h2⟩:=G4.1 hi;have h3:f i=none:=by simpa using h2
  refine cH f w i h1 h3 _ ?_;rw[jq f i h1 w.heap.size];refine Yp hI Lf af jq nN cH Nj m _ _ ?_ (h.step h1 h3);have:=MB hI (g:=w.heap.size) h1 h3;omega
theorem Wq {a:Act}(hr:Region.ready md ops L= [i])(hi:ops[i]? =some o)
  (h: ∀K:Act→World→Prop,Shut (∀a w,wpAny P md ops Q n (L.setIfInBounds i true) a w→K a w)→if Region.wanted o (yielded ops a.tmps)=true then Oper.wp P o a w K Q else K (a.put o.dst undef) w):wpAny P md ops Q (n+1) L a w:=
 wpAny_all hr (by simp) (fun j hj=>by
  obtain rfl:j=i:=by simpa using hj
  exact wpOp_step hi (fun K' hK=>h K' (fun a w hW=>hK a w hW)))
def so (n:Nat)(o:Option Nat):Value:=match o with | none=>undef | some g=> .slice (some ⟨g,0,none⟩) n n
def E_ (n:Nat)(a0:Act)(ds:List (Nat×Nat))(f:Nat→Option Nat):Act:=ds.foldl (fun a p=>a.put (some p.2) (so n (f p.1))) a0
theorem zS (n:Nat)(ds:List (Nat×Nat))(hI:(ds.map Prod.fst).Nodup)(ty:Nat→TypeId)(zc:Nat→Array Value)(r:Nat)(Lf:(Nat→Option Nat)→Array Bool){a0:Act}
  (hL:Lf (fun _=>none)=L) (h0:E_ n a0 ds (fun _=>none)=a0)
  (jq: ∀f,∀i∈ds.map Prod.fst,∀g,(Lf f).setIfInBounds i true=Lf (fh f i g))
  (nN: ∀f,(∃i∈ds.map Prod.fst,f i=none)→Region.ready md ops (Lf f)=(ds.map Prod.fst).filter (fun i=>(f i).isNone))
  (cH: ∀f w i,i∈ds.map Prod.fst→f i=none→ ∀K:Act→World→Prop,K (E_ n a0 ds (fh f i w.heap.size)) (w.alloc (.cells (zc i) (ty i)))→wpOp P ops Q i K (E_ n a0 ds f) w)
  (Nj: ∀f w,(∀i∈ds.map Prod.fst,f i≠none)→dk w1 (ds.map Prod.fst) ty zc f w→wpAny P md ops Q r (Lf f) (E_ n a0 ds f) w) (hw:z6 [] w1 w):wpAny P md ops Q (ds.length+r) L a0 w:=by
 have h:=Yp hI Lf (E_ n a0 ds) jq nN cH Nj ds.length (fun _=>none) w (by
  have e: ∀l:List Nat,(l.filter (fun _=>((none:Option Nat)).isNone)).length=l.length:=fun l=>by
   induction l with
   | nil=>rfl
   | cons a l ih=>rw[cU rfl,Cz,Cz,ih]
  rw[e,Cy]) ⟨hw,fun _ _ _ h=>(by cases h),fun _ _ _ _ _ h=>(by cases h)⟩
 rw[hL,h0]at h;exact h
theorem oZ {a:Act}{K:Act→World→Prop}{E:Prop}(t:TypeId)(parts:Array (Nat×Operand))(ho:o.op= .build t parts)(d:Option Tmp)(hd:o.dst=d)(cells:Array Value)
  (hf:P.built t (parts.map fun(i,x)=>(i,a.eval x)).toList=some cells) (h:K (a.put d (.agg cells)) w) (Cn:o.guard=none:=by rfl):if Region.wanted o (yielded ops a.tmps)=true then Oper.wp P o a w K Q else E:=by
 have hw:Region.wanted o (yielded ops a.tmps)=true:=by simp[Region.wanted,Cn]
 rw[x9 hw];subst hd;refine wp_build t parts ho (by rw[hf];rfl) ?_;rw[hf];exact h
def sl (n g:Nat):Value:= .slice (some ⟨g,0,none⟩) n n
def qp8 (a:Nat):TypeId:=if a=0 then 23 else if a=1 then 25 else 24
def rW (a:Nat):TypeId:=if a=0 then 79 else if a=1 then 83 else 81
def QC (a:Nat):Nat:=if a=1 then 4 else 5
def Br (n sb:Nat)(ix:Nat→Int)(Kq:Int)(G:Nat→Nat):Array Value:=(sl n sb::((List.range 512).map (fun i=>Value.int .i64 (ix i))++ [.int .i64 Kq,sl n (G 0),sl n (G 1),sl n (G 2),sl n (G 3)])).toArray
section
variable {n sb:Nat}{ix:Nat→Int}{Kq:Int}{G:Nat→Nat}
theorem JF:(Br n sb ix Kq G)[0]? =some (sl n sb):=by simp[Br]
theorem aF (hs:s<512):(Br n sb ix Kq G)[1+s]? =some (.int .i64 (ix s)):=by
 unfold Br;rw[Tv,Nat.add_comm,Rc,Ty (by simpa using hs),Jq,cT hs];rfl
theorem Dq (k:Nat):(Br n sb ix Kq G)[513+k]? = [Value.int .i64 Kq,sl n (G 0),sl n (G 1),sl n (G 2),sl n (G 3)][k]? :=by
 unfold Br;rw[Tv,show 513+k=(512+k)+1 by omega,Rc,List.getElem?_append_right (by simp)];simp
theorem KN (hs:s<512)(v:Int):(Br n sb ix Kq G).setIfInBounds (1+s) (.int .i64 v)=Br n sb (fun i=>if i=s then v else ix i) Kq G:=by
 unfold Br;rw[sY,Nat.add_comm,kE,List.set_append_left _ _ (by simpa using hs),kT hs]
 have e:(fun j=>if j=s then Value.int .i64 v else .int .i64 (ix j))=fun j=>Value.int .i64 (if j=s then v else ix j):=by
  funext j
  by_cases h:j=s
  ·rw[x9 h,x9 h]
  ·rw[z9 h,z9 h]
 rw[e]
theorem KM (v:Int):(Br n sb ix Kq G).setIfInBounds 513 (.int .i64 v)=Br n sb ix v G:=by
 unfold Br;rw[sY,show 513=512+1 by omega,kE,jj _ _ (by simp)];simp
theorem Se {ix':Nat→Int}(h: ∀i,i<512→ix i=ix' i):Br n sb ix Kq G=Br n sb ix' Kq G:=by
 have e:(List.range 512).map (fun i=>Value.int .i64 (ix i))=(List.range 512).map (fun i=>Value.int .i64 (ix' i)):=kH (fun i hi=>by rw[h i (Gj.1 hi)]);unfold Br;rw[e]
end
theorem wv (n sb:Nat)(G:Nat→Nat):Tryz.prog.built 331 [(0,sl n sb),(3,sl n (G 0)),(4,sl n (G 1)),(5,sl n (G 2)),(6,sl n (G 3))]=some (Br n sb (fun _=>0) 0 G):=by kernel_rfl
def O0 (n:Nat):Array Value:=(List.replicate n (Value.slice none 0 0)).toArray
theorem ru (m:Nat):madeCells (Value.slice none 0 0).cells m=O0 m:=by
 apply Array.ext
 ·simp[madeCells,O0]
 ·intro i h1 h2;simp[madeCells,Value.cells,O0];rw[Nat.mod_one];rfl
theorem Xd {e:TypeId}(hu:Tryz.prog.underlying T=some (.slice e))(hi:(Tryz.prog.info? e).map (fun i=>(i.zero,i.size,i.bytes))=some (some (.slice none 0 0),1,24))(m:Nat)(hm:m≤1099511627776)(W:World):(Instr.makeSlice T (.int .i64 (m:Int)) (.int .i64 (m:Int))).run Tryz.prog W= .ok (sl m W.heap.size) (W.alloc (.cells (O0 m) e)):=by
 obtain⟨i0,CM,mJ,aX,Vp⟩:=info_parts hi;have hb:(i0.bytes:Int)*(m:Int)≤281474976710656:=by rw[Vp];omega
 have hr:=run_make (P:=Tryz.prog) W T e i0 (.slice none 0 0) hu CM mJ .i64 .i64 m m (by omega) (by omega) hb (by omega);simp only[X4]at hr;rw[hr,aX,Sc,ru];rfl
theorem TD (m:Nat)(hm:m≤1099511627776)(W:World):(Instr.makeSlice 327 (.int .i64 (m:Int)) (.int .i64 (m:Int))).run Tryz.prog W= .ok (sl m W.heap.size) (W.alloc (.cells (O0 m) 23)):=Xd Tryz.underlying327 (by kernel_rfl) m hm W
theorem TF (m:Nat)(hm:m≤1099511627776)(W:World):(Instr.makeSlice 328 (.int .i64 (m:Int)) (.int .i64 (m:Int))).run Tryz.prog W= .ok (sl m W.heap.size) (W.alloc (.cells (O0 m) 25)):=Xd Tryz.underlying328 (by kernel_rfl) m hm W
theorem TE (m:Nat)(hm:m≤1099511627776)(W:World):(Instr.makeSlice 329 (.int .i64 (m:Int)) (.int .i64 (m:Int))).run Tryz.prog W= .ok (sl m W.heap.size) (W.alloc (.cells (O0 m) 24)):=Xd Tryz.underlying329 (by kernel_rfl) m hm W
structure Hx (w0 w:World)(pb tb sb n:Nat)(V TC:Array Value)(xs:List Int)(F:List Nat)(G:Nat→Nat)(u:Nat→Nat→Value)(m:Nat→Nat→Nat)(X:Nat→Nat→List Value):Prop where
 t0:z6 [] w0 w
 wS:j4 w pb 29 V
 Zu:j4 w tb 331 TC
 st:IB w sb xs
 Kn:jU qp8 rW QC n w F G (fun _=>n) u m X
 fF:pb∈F∧tb∈F∧sb∈F
 ne: ∀a,a<4→G a≠pb∧G a≠tb∧G a≠sb
 nb:pb≠tb∧pb≠sb∧tb≠sb
 new: ∀b∈F,w0.heap.size≤b
 iE: ∀a i,a<4→i<n→ ∀b∈m5 (u a i),w0.heap.size≤b
section
variable {w0 w w':World}{pb tb sb n:Nat}{V TC:Array Value}{xs:List Int}{F:List Nat}{G:Nat→Nat}{u:Nat→Nat→Value}{m:Nat→Nat→Nat}{X:Nat→Nat→List Value}
theorem Hx.q8 (h:Hx w0 w pb tb sb n V TC xs F G u m X)(t:z6 [] w w'):Hx w0 w' pb tb sb n V TC xs F G u m X:=
 ⟨h.t0.Y t,h.wS.z7 t (by simp),h.Zu.z7 t (by simp),j4.z7 h.st t (by simp),h.Kn.q8 t,h.fF,h.ne,h.nb,h.new,h.iE⟩
theorem Hx.congr (h:Hx w0 w pb tb sb n V TC xs F G u m X){m':Nat→Nat→Nat}{X':Nat→Nat→List Value}(e: ∀a i,a<4→i<n→m a i=m' a i∧X a i=X' a i):Hx w0 w pb tb sb n V TC xs F G u m' X':=
 ⟨h.t0,h.wS,h.Zu,h.st,h.Kn.congr (fun a i ha hi=>(e a i ha hi).1) (fun a i ha hi=>(e a i ha hi).2),h.fF,h.ne,h.nb,h.new,h.iE⟩
theorem Hx.more (h:Hx w0 w pb tb sb n V TC xs F G u m X)(o:Obj):Hx w0 (w.alloc o) pb tb sb n V TC xs (w.heap.size::F) G u m X:=by
 have t:=(z8 [] w).alloc o;have h':=h.q8 t;have hl: ∀a i,a<4→i<n→ ∀b∈m5 (u a i),b<w.heap.size:=fun a i ha hi=>(h.Kn.row a i ha hi).lt;refine⟨h'.t0,h'.wS,h'.Zu,h'.st,⟨h'.Kn.VQ,h'.Kn.row,h'.Kn.inj,fun a ha=>T8 _ (h'.Kn.gF a ha),fun a i ha hi b hb hm=> ?_,h'.Kn.XB,fun b hb=> ?_⟩,⟨T8 _ h.fF.1,T8 _ h.fF.2.1,T8 _ h.fF.2.2⟩,h.ne,h.nb,fun b hb=> ?_,h.iE⟩
 ·rcases m6.1 hm with e | e
  ·have:=hl a i ha hi b hb;omega
  ·exact h'.Kn.rD a i ha hi b hb e
 ·rcases m6.1 hb with rfl | e
  ·rw[World.size_alloc];omega
  ·exact h'.Kn.lt b e
 ·rcases m6.1 hb with rfl | e
  ·exact h.t0.size
  ·exact h.new b e
theorem Hx.less (h:Hx w0 w pb tb sb n V TC xs (cb::F) G u m X)(hF:pb∈F∧tb∈F∧sb∈F)(hG: ∀a,a<4→G a∈F):Hx w0 w pb tb sb n V TC xs F G u m X:=
 ⟨h.t0,h.wS,h.Zu,h.st,⟨h.Kn.VQ,h.Kn.row,h.Kn.inj,hG,fun a i ha hi b hb hm=>h.Kn.rD a i ha hi b hb (T8 _ hm),h.Kn.XB,fun b hb=>h.Kn.lt b (T8 _ hb)⟩,hF,h.ne,h.nb,fun b hb=>h.new b (T8 _ hb),h.iE⟩
theorem Hx.other (h:Hx w0 w pb tb sb n V TC xs F G u m X)(t:z6 [cb] w w')(hc:cb∈F)(h1:cb≠pb∧cb≠tb∧cb≠sb)(hG: ∀a,a<4→G a≠cb):Hx w0 w' pb tb sb n V TC xs F G u m X:=
 ⟨h.t0.step t (fun b hb=> .inr (by rw[y7]at hb;subst hb;exact h.new b hc)),h.wS.z7 t (by simp[W5 h1.1]),h.Zu.z7 t (by simp[W5 h1.2.1]),j4.z7 h.st t (by simp[W5 h1.2.2]),h.Kn.IZ hc hG t,h.fF,h.ne,h.nb,h.new,h.iE⟩
theorem Hx.za7 (h:Hx w0 w pb tb sb n V TC xs F G u m X)(k:Nat)(x:Int):Hx w0 (w.setCell ⟨sb,k,none⟩ (.int .i64 x)) pb tb sb n V TC (xs.set k x) F G u m X:=by
 obtain⟨s1,t⟩:=IB.set h.st k x;exact⟨h.t0.step t (fun b hb=> .inr (by rw[y7]at hb;subst hb;exact h.new b h.fF.2.2)),h.wS.z7 t (by simp[h.nb.2.1]),h.Zu.z7 t (by simp[h.nb.2.2]),s1,h.Kn.IZ h.fF.2.2 (fun a ha=>(h.ne a ha).2.2) t,h.fF,h.ne,h.nb,h.new,h.iE⟩
theorem Hx.ql5 (h:Hx w0 w pb tb sb n V TC xs F G u m X)(k:Nat)(x:Value):Hx w0 (w.setCell ⟨tb,k,none⟩ x) pb tb sb n V (TC.setIfInBounds k x) xs F G u m X:=by
 have s1:=h.Zu.V8 k x;have t:z6 [tb] w (w.setCell ⟨tb,k,none⟩ x):=(z8 [tb] w).setCell (.inl (by simp)) x;exact⟨h.t0.step t (fun b hb=> .inr (by rw[y7]at hb;subst hb;exact h.new b h.fF.2.1)),h.wS.z7 t (by simp[h.nb.1]),s1,j4.z7 h.st t (by simp[W5 h.nb.2.2]),h.Kn.IZ h.fF.2.1 (fun a ha=>(h.ne a ha).2.1) t,h.fF,h.ne,h.nb,h.new,h.iE⟩
theorem Hx.push (h:Hx w0 w pb tb sb n V TC xs F G u m X)(ha:a<4)(hi:i<n)(tW:z6 [] w W)(ho:Own X6 (rW a) (QC a) v' m' X')(t:z6 (m5 (u a i)) W X6)(hf:S2 W (u a i) v'):
  X6.cell? ⟨G a,i,none⟩=some (u a i)∧X6.frozen? ⟨G a,i,none⟩=false∧Hx w0 (X6.setCell ⟨G a,i,none⟩ v') pb tb sb n V TC xs F G (Yv u a i v') (Yv m a i m') (Yv X a i X')∧ ∀cb T cs,cb∈F→(∀a,a<4→G a≠cb)→j4 w cb T cs→j4 (X6.setCell ⟨G a,i,none⟩ v') cb T cs:=by
 have h':=h.q8 tW;obtain⟨f1,t2,fz,cz⟩:=h'.Kn.push ha hi t ho hf
 have Iz: ∀b∈F,b≠G a→b∉G a::m5 (u a i):=fun b hb X3 hm=>by
  rcases m6.1 hm with e | e
  ·exact X3 e
  ·exact h'.Kn.rD a i ha hi b e hb
 have hn:=h.ne a ha;refine⟨cz,fz,⟨h'.t0.step t2 (fun b hb=> .inr ?_),h'.wS.z7 t2 (Iz _ h.fF.1 (W5 hn.1)),h'.Zu.z7 t2 (Iz _ h.fF.2.1 (W5 hn.2.1)),j4.z7 h'.st t2 (Iz _ h.fF.2.2 (W5 hn.2.2)),f1,h.fF,h.ne,h.nb,h.new,fun b j hb hj x hx=> ?_⟩,fun cb T cs hc hG hb=>(hb.z7 tW (by simp)).z7 t2 (Iz cb hc (W5 (hG a ha)))⟩
 ·rcases m6.1 hb with rfl | e
  ·exact h.new _ (h.Kn.gF a ha)
  ·exact h.iE a i ha hi b e
 ·by_cases vt:b=a∧j=i
  ·obtain⟨rfl,rfl⟩:=vt;rw[S3]at hx;rcases hf x hx with e | e
   ·exact h.iE b j hb hj x e
   ·exact j9 h'.t0.size e
  ·rw[Z9 _ _ vt]at hx;exact h.iE b j hb hj x hx
end
def VZ (p:Px)(k:Nat)(s:Nat):Int:=if y8 p (s:Int)=true∧G8 p (s:Int)<k then(G8 p (s:Int):Int)+1 else 0
theorem MO (p:Px)(s:Nat):VZ p 0 s=0:=z9 (by omega)
theorem TN (p:Px)(s:Nat):VZ p p.D.length s=CA p (s:Int):=by
 unfold VZ CA;by_cases h:y8 p (s:Int)=true
 ·rw[x9 ⟨h,(X0 h).1⟩,x9 h]
 ·rw[z9 (fun e=>h e.1),z9 h]
theorem MP (hp:j8 p)(hk:k<p.D.length){s0:Nat}(h0:p.D[k].st=(s0:Int))(s:Nat):(if s=s0 then(k:Int)+1 else VZ p k s)=VZ p (k+1) s:=by
 have hsd:sd p k=(s0:Int):=by rw[Ff hk,h0]
 by_cases h:y8 p (s:Int)=true
 ·have hi:=hp.Wi hk h;unfold VZ;by_cases hs:s=s0
  ·have e:G8 p (s:Int)=k:=hi.2 (by rw[hsd,hs]);rw[x9 hs,x9 ⟨h,by omega⟩,e]
  ·have e:G8 p (s:Int)≠k:=fun e=>hs (by have:=hi.1 e;rw[hsd]at this;omega);rw[z9 hs];by_cases hl:G8 p (s:Int)<k
   ·rw[x9 ⟨h,hl⟩,x9 ⟨h,by omega⟩]
   ·rw[z9 (fun e=>hl e.2),z9 (fun e'=>e (by have:=e'.2;omega))]
 ·unfold VZ;have hs:s≠s0:=fun e=>h (by rw[e,←hsd];exact dD hk);rw[z9 hs,z9 (fun e=>h e.1),z9 (fun e=>h e.1)]
theorem eX (h:k≤1000000):Fits (k:Int):=by unfold Fits;omega
theorem oF (hl:p.D.length≤100000){x:Q5}(hx:x.Fit)(ha:y8 p x.a=true)(hb:y8 p x.b=true):(Cq p x).Fit:=by
 obtain⟨h1,h2,h3,h4,h5⟩:=hx;have:=(X0 ha).1;have:=(X0 hb).1;exact⟨eX (by omega),eX (by omega),h3,h4,h5⟩
theorem UL (hl:p.D.length≤100000){x:Q4}(hx:x.Fit)(ha:y8 p x.a=true):(CS p x).Fit:=by
 obtain⟨h1,h2,h3,h4⟩:=hx;have:=(X0 ha).1;exact⟨eX (by omega),h2,h3,h4⟩
theorem Hx.rows {V:Array Value}{xs:List Int}{u:Nat→Nat→Value}{m:Nat→Nat→Nat}{X:Nat→Nat→List Value}(h:Hx w0 w pb tb sb n V TC xs F G u m X){f:α→List Value}{fit:α→Prop}{g:Nat→List α}(ha:a<4)(hm: ∀i,m a i=(g i).length)(hX: ∀i,X a i=(g i).flatMap f)(hf: ∀i,∀x∈g i,fit x):C8 (QC a) f fit w (sl n (G a)) ((List.range n).map g):=by
 refine⟨(List.range n).map (u a),by simp,?_,fun j l v hl hv=> ?_⟩
 ·have:=(h.Kn.VQ a ha).reads;simpa[sl]using this
 ·have hj:j<n:=by
   have:=(U4.1 hl).1;simpa using this
  rw[Jq,cT hj]at hl hv;injection hl with hl;injection hv with hv;subst hl hv;have h1:=(h.Kn.row a j ha hj).reads;rw[hm,hX]at h1;exact⟨h1,hf j⟩
theorem Hx.DI {V:Array Value}{u:Nat→Nat→Value}{Kq:Int}(hp:j8 p)(hl:p.D.length≤100000)(fP: ∀x∈p.R.P,x.Fit)(fL: ∀x∈p.R.L,x.Fit)(fC: ∀x∈p.R.C,x.Fit)
  (e1:k1=p.R.P.length) (e2:k2=p.R.L.length) (e3:k3=p.R.C.length)
  (h:Hx w0 w pb tb sb p.D.length V (Br p.D.length sb (CA p∘Int.ofNat) Kq G) (l5 p.D) F G u (Kv p k1 k2 k3) (Mp p k1 k2 k3)):Tg w tb p (sl p.D.length sb) (sl p.D.length (G 0)) (sl p.D.length (G 1)) (sl p.D.length (G 2)) (sl p.D.length (G 3)):=by
 subst e1 e2 e3;have eP: ∀i,Nw p p.R.P.length i=y9 p i:=fun i=>by unfold Nw y9;rw[cO]
 have eC: ∀i,Ye p p.R.C.length i=s9 p i:=fun i=>by unfold Ye s9;rw[cO]
 have eI: ∀i,Ya p p.R.L.length i=a_ p i:=fun i=>by unfold Ya a_;rw[cO]
 have eF: ∀i,Yb p p.R.L.length i=s6 p i:=fun i=>by unfold Yb s6;rw[cO]
 have hc:=fun k=>h.Zu.cell k;refine⟨h.Zu.lt,(hc 0).trans JF,fun s hs=>(hc (1+s)).trans (aF hs),(hc 514).trans ((Dq 1).trans rfl),(hc 515).trans ((Dq 2).trans rfl),(hc 516).trans ((Dq 3).trans rfl),(hc 517).trans ((Dq 4).trans rfl),?_,?_,?_,?_,?_⟩
 ·have l_:(l5 p.D).length=p.D.length:=by simp[l5]
  have:=IB.bQ h.st (fun x hx=> ?_) (cap:=p.D.length) (by omega) (by unfold maxLen;omega)
  ·rw[l_]at this;exact this
  ·obtain⟨d,hd,rfl⟩:=F4.1 hx;obtain⟨j,hj,rfl⟩:=Bg hd;have:=hp.sr j hj;rw[Ff hj]at this;unfold Fits;omega
 ·refine h.rows (a:=0) (by omega) (g:=y9 p) (fun i=>by simp only[Kv,x9,eP]) (fun i=>by simp only[Mp,x9,eP]) (fun i x hx=> ?_);obtain⟨y,hy,rfl,-⟩:=Bm.1 hx;have:=hp.pr y hy;exact oF hl (fP y hy) this.1 this.2.1
 ·refine h.rows (a:=1) (by omega) (g:=s9 p) (fun i=>by simp[Kv,eC]) (fun i=>by simp[Mp,eC]) (fun i x hx=> ?_);obtain⟨y,hy,rfl,-⟩:=Lv.1 hx;exact UL hl (fC y hy) (hp.cp y hy).1
 ·refine h.rows (a:=2) (by omega) (g:=a_ p) (fun i=>by simp[Kv,eI]) (fun i=>by simp[Mp,eI]) (fun i x hx=> ?_);obtain⟨y,hy,rfl,-⟩:=Sj.1 hx;have:=hp.ld y hy;exact oF hl (fL y hy) this.1 this.2.1
 ·refine h.rows (a:=3) (by omega) (g:=s6 p) (fun i=>by simp[Kv,eF]) (fun i=>by simp[Mp,eF]) (fun i x hx=> ?_);obtain⟨y,hy,rfl,-⟩:=Hg.1 hx;have:=hp.ld y hy;exact oF hl (fL y hy) this.1 this.2.1
theorem Hx.start {V:Array Value}(hn:n≤100000)(t0:z6 [] w0 w)(hpb:j4 w pb 29 V)(OG:j4 w tb 331 TC)(hsb:IB w sb (List.replicate n 0))(hG: ∀a,a<4→j4 w (G a) (qp8 a) (O0 n)∧w0.heap.size≤G a)
  (ze0: ∀a b,a<4→b<4→G a=G b→a=b) (X3: ∀a,a<4→G a≠pb∧G a≠tb∧G a≠sb) (Nb:pb≠tb∧pb≠sb∧tb≠sb) (h0:w0.heap.size≤pb∧w0.heap.size≤tb∧w0.heap.size≤sb):Hx w0 w pb tb sb n V TC (List.replicate n 0) [pb,tb,sb,G 0,G 1,G 2,G 3] G (fun _ _=> .slice none 0 0) (fun _ _=>0) (fun _ _=> []):=by
 have hGF: ∀a,a<4→G a∈ [pb,tb,sb,G 0,G 1,G 2,G 3]:=fun a ha=>by
  have:a=0∨a=1∨a=2∨a=3:=by omega
  rcases this with rfl | rfl | rfl | rfl<;>simp
 have M9: ∀b∈ [pb,tb,sb,G 0,G 1,G 2,G 3],b<w.heap.size∧w0.heap.size≤b:=fun b hb=>by
  simp only[m6,V6,Q1]at hb;rcases hb with rfl | rfl | rfl | rfl | rfl | rfl | rfl
  ·exact⟨hpb.lt,h0.1⟩
  ·exact⟨OG.lt,h0.2.1⟩
  ·exact⟨j4.lt hsb,h0.2.2⟩
  ·exact⟨(hG 0 (by omega)).1.lt,(hG 0 (by omega)).2⟩
  ·exact⟨(hG 1 (by omega)).1.lt,(hG 1 (by omega)).2⟩
  ·exact⟨(hG 2 (by omega)).1.lt,(hG 2 (by omega)).2⟩
  ·exact⟨(hG 3 (by omega)).1.lt,(hG 3 (by omega)).2⟩
 refine⟨t0,hpb,OG,hsb,⟨fun a ha=> ?_,fun a i ha hi=> ?_,ze0,hGF,fun a i ha hi b hb=>(by cases hb),fun a i b j _ _ _ _ _ x hx=>(by cases hx),fun b hb=>(M9 b hb).1⟩,by simp,X3,Nb,fun b hb=>(M9 b hb).2,fun a i _ _ b hb=>(by cases hb)⟩
 ·refine⟨by simp,.inr ⟨G a,n,O0 n,rfl,O2 _,(hG a ha).1,by omega,by unfold maxLen;omega,by simp[O0],?_⟩⟩;simp[O0,List.map_const']
 ·exact Own.nil _ _ _
def H_ (tb j gb n i cb:Nat)(uv:Value)(cs:Array Value)(W:World):Prop:=W.cell? ⟨tb,j,none⟩=some (.slice (some ⟨gb,0,none⟩) n n)∧W.cell? ⟨gb,i,none⟩=some uv∧ ∀(k:Nat) (v:Value),cs[k]? =some v→W.cell? ⟨cb,k,none⟩=some v
def ExS (tb cb na nb A B:Nat)(cs:Array Value)(W:World):Prop:=W.cell? ⟨tb,1+na,none⟩=some (.int .i64 ((A:Int)+1))∧W.cell? ⟨tb,1+nb,none⟩=some (.int .i64 ((B:Int)+1))∧ ∀(k:Nat) (v:Value),cs[k]? =some v→W.cell? ⟨cb,k,none⟩=some v
section
variable {w0 w:World}{pb tb sb n:Nat}{V:Array Value}{ix:Nat→Int}{Kq:Int}{xs:List Int}{F:List Nat}{G:Nat→Nat}{u:Nat→Nat→Value}{m:Nat→Nat→Nat}{X:Nat→Nat→List Value}
theorem tS (ha:a<4):(Br n sb ix Kq G)[514+a]? =some (.slice (some ⟨G a,0,none⟩) n n):=by
 have:a=0∨a=1∨a=2∨a=3:=by omega
 rcases this with rfl | rfl | rfl | rfl
 ·exact(Dq 1).trans rfl
 ·exact(Dq 2).trans rfl
 ·exact(Dq 3).trans rfl
 ·exact(Dq 4).trans rfl
theorem Hx.puS (h:Hx w0 w pb tb sb n V (Br n sb ix Kq G) xs F G u m X)(ha:a<4)(hi:i<n)(hb:j4 w cb T cs)(t:z6 [] w W):H_ tb (514+a) (G a) n i cb (u a i) cs W:=
 ⟨((h.Zu.z7 t (by simp)).cell _).trans (tS ha),(h.q8 t).Kn.cell ha hi,fun k v hv=>((hb.z7 t (by simp)).cell k).trans hv⟩
theorem Hx.sF (h:Hx w0 w pb tb sb n V (Br n sb ix Kq G) xs F G u m X)(ha:a<4)(hi:i<n)(hb:j4 w cb T cs)(hc:cb∈F)(hG: ∀a,a<4→G a≠cb)(tW:z6 [] w W)(ho:Own X6 (rW a) (QC a) v' m' X')(t:z6 (m5 (u a i)) W X6)(hf:S2 W (u a i) v'):
  H_ tb (514+a) (G a) n i cb (u a i) cs X6∧X6.frozen? ⟨G a,i,none⟩=false∧Hx w0 (X6.setCell ⟨G a,i,none⟩ v') pb tb sb n V (Br n sb ix Kq G) xs F G (Yv u a i v') (Yv m a i m') (Yv X a i X')∧j4 (X6.setCell ⟨G a,i,none⟩ v') cb T cs:=by
 obtain⟨cz,fz,h1,h2⟩:=h.push ha hi tW ho t hf;have h':=h.q8 tW;have Iz: ∀b∈F,b∉m5 (u a i):=fun b hb hm=>h'.Kn.rD a i ha hi b hm hb;exact⟨⟨((h'.Zu.z7 t (Iz _ h.fF.2.1)).cell _).trans (tS ha),cz,fun k v hv=>(((hb.z7 tW (by simp)).z7 t (Iz _ hc)).cell k).trans hv⟩,fz,h1,h2 cb T cs hc hG hb⟩
theorem Hx.exS (h:Hx w0 w pb tb sb n V (Br n sb (CA p∘Int.ofNat) Kq G) xs F G u m X)(ha:y8 p (na:Int)=true)(hb:y8 p (nb:Int)=true)(v_:na<512)(PU:nb<512)(hc:j4 w cb T cs)(t:z6 [] w W):ExS tb cb na nb (G8 p (na:Int)) (G8 p (nb:Int)) cs W:=by
 have e: ∀s:Nat,y8 p (s:Int)=true→(CA p∘Int.ofNat) s=(G8 p (s:Int):Int)+1:=fun s hs=>x9 hs;refine⟨((h.Zu.z7 t (by simp)).cell _).trans ((aF v_).trans ?_),((h.Zu.z7 t (by simp)).cell _).trans ((aF PU).trans ?_),fun k v hv=>((hc.z7 t (by simp)).cell k).trans hv⟩
 ·rw[e na ha]
 ·rw[e nb hb]
end
theorem Uj (hp:j8 p){s:Int}(h:y8 p s=true): ∃n:Nat,s=(n:Int)∧n<512:=by
 obtain⟨h1,h2⟩:=X0 h;have:=hp.sr _ h1;rw[h2]at this;exact⟨s.toNat,by omega,by omega⟩
theorem dH (hl:P0 p)(k1 k2 k3 a i:Nat):Kv p k1 k2 k3 a i≤100000:=by
 have h1:(Nw p k1 i).length≤100000:=j9 (L3 _ _) (by rw[Cy,Y8];have:=hl.pr;omega);have h2:(Ye p k3 i).length≤100000:=j9 (L3 _ _) (by rw[Cy,Y8];have:=hl.cp;omega);have h3:(Ya p k2 i).length≤100000:=j9 (L3 _ _) (by rw[Cy,Y8];have:=hl.ld;omega);have h4:(Yb p k2 i).length≤100000:=j9 (L3 _ _) (by rw[Cy,Y8];have:=hl.ld;omega);unfold Kv;split
 ·exact h1
 ·split
  ·exact h2
  ·split
   ·exact h3
   ·exact h4
def d_ (tb cb na nb A B:Nat)(v:Value)(W:World):Prop:=W.cell? ⟨tb,1+na,none⟩=some (.int .i64 ((A:Int)+1))∧W.cell? ⟨tb,1+nb,none⟩=some (.int .i64 ((B:Int)+1))∧W.cell? ⟨cb,1,none⟩=some v
theorem ExS.eyS (h:ExS tb cb na nb A B cs W)(hv:cs[1]? =some v):d_ tb cb na nb A B v W:=⟨h.1,h.2.1,h.2.2 1 v hv⟩
theorem d_.rD {x:Value}(h:d_ tb cb na nb A B v W)(X3:cb≠tb)(h1:(W.setCell ⟨cb,0,none⟩ x).cell? ⟨cb,1,none⟩=some v):d_ tb cb na nb A B v (W.setCell ⟨cb,0,none⟩ x):=
 ⟨(World.cell?_setCell_far W _ _ _ X3).trans h.1,(World.cell?_setCell_far W _ _ _ X3).trans h.2.1,h1⟩
end Go.Proofs.YtlhlmcohdkkjpaaGreatDoor
