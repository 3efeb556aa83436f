/- Package propagate: settle: the rules, station by station, until there is nothing left to do. -/
import Derived.Test.YtlhlmcohdkkjpaaGreatDoorZQ
import Derived.Great.BuildSlice
import Derived.Deep.DeepCutAuto
import Derived.Deep.CutBlock
set_option linter.all false
set_option maxHeartbeats 16000000
set_option maxRecDepth 100000
namespace Go.Proofs.YtlhlmcohdkkjpaaGreatDoor
open Go.RowKit
variable{M0:Left}{gs:List (List Cx)}{ms q ws q' Mn:List Nat}{i b off m gq g k sp tb gx:Nat}{p:Px}{tq tq':Value}{w wc w2 w3 wB:World}
theorem XF.lt (hp:j8 p){j:Int}(h:XF p ms i j): ∃k:Nat,j=(k:Int)∧k<p.D.length:=by
 rcases h.2 with⟨x,hx,e⟩ | ⟨x,hx,e⟩ | ⟨x,hx,e⟩
 ·obtain⟨a,b,e1,e2,l1,l2,l3,l4,-⟩:=F1 hp hx;rcases l4 with h4 | h4
  ·exact⟨b,by omega,l2⟩
  ·exact⟨a,by omega,l1⟩
 ·obtain⟨b,e1,e2,l1,l2,-⟩:=Q2 hp hx;exact⟨b,by omega,l2⟩
 ·rcases e with e | ⟨-,y,hy,e⟩
  ·obtain⟨a,e1,e2,l1,l2,-⟩:=E3 hp hx;exact⟨a,by omega,l2⟩
  ·obtain⟨b,e1,e2,l1,l2,-⟩:=Q2 hp hy;exact⟨b,by omega,l2⟩
def Th (w:World)(v:Value)(q:List Nat):Prop:=Reads w 1 v q.length (q.map xY)
theorem Th.tail {cap:Nat}(h:Th w (.slice (some ⟨b,off,none⟩) (i::q).length cap) (i::q)):Th w (.slice (some ⟨b,off+1,none⟩) q.length q.length) q∧w.cell? ⟨b,off,none⟩=some (.int .i64 i)∧b<w.heap.size:=by
 obtain⟨A,c',e,h1,h2,h3,h4⟩:=h;injection e with e e1 e2;obtain⟨b',ql9,e3,hb,hc⟩:=h4 (by simp);rw[←e]at e3;injection e3 with e3;injection e3 with e3 e4;subst e3 e4;refine⟨⟨_,_,rfl,a9 _,?_,by simp,fun hn=>⟨b,off+1,rfl,hb,fun j u hu=> ?_⟩⟩,?_,hb⟩
 ·simp at h1;omega
 ·have:=hc (j+1) u (by simpa using hu)
  rwa [show off+(j+1)=off+1+j by omega]at this
 ·exact hc 0 _ (by simp[xY])
theorem KW (w:World)(A:Option Addr)(n cap:Nat)(h:n+1≤cap):(Instr.slice 30 (.slice A (n+1) cap) (some (.int .i64 1)) (some (.int .i64 ((n:Int)+1))) (some (.int .i64 ((n:Int)+1)))).run Tryz.prog w= .ok (sliced A 1 (n+1) (n+1) 1) w:=by
 rw[run_slice_lhm (P:=Tryz.prog) w 30 A (n+1) cap (by kernel_rfl) .i64 .i64 .i64 1 ((n:Int)+1) ((n:Int)+1) (by omega) (by omega) (by omega) (by omega)];have e:(sizeOf (Tryz.prog.elem 30)).run Tryz.prog w= .ok 1 w:=by kernel_rfl
 rw[e];rfl
theorem Th.qs1 {cap:Nat}(h:Th w (.slice (some ⟨b,off,none⟩) (q.length+1) cap) (i::q)):Th w (sliced (some ⟨b,off,none⟩) 1 (q.length+1) (q.length+1) 1) q∧ ∀x∈rb (sliced (some ⟨b,off,none⟩) 1 (q.length+1) (q.length+1) 1),x=b:=by
 obtain⟨h1,-,-⟩:=Th.tail h;unfold sliced
 cases q with
 | nil=>exact⟨⟨_,0,rfl,a9 _,O2 _,rfl,fun hn=>absurd hn (by simp)⟩,fun x hx=>by simp[rb]at hx⟩
 | cons j q=>
  have e: ¬((j::q).length+1=1):=by simp
  rw[z9 e];have e2:(some (⟨b,off,none⟩:Addr)).map (·.add (1*1))=some ⟨b,off+1,none⟩:=by simp[add_lit]
  rw[e2,Nat.add_sub_cancel];exact⟨h1,fun x hx=>by simpa[rb]using hx⟩
theorem K9.step (hp:j8 p)(hm:i<ms.length)(hi:i<p.D.length)(h:K9 p gs M0 (ms.set i m))(hg: ∀j,gq.testBit j=true→Rb p (ms.set i m) i j):K9 p gs M0 (ms.set i (J7 m gq)):=by
 have:=h.ql3 hp hi hg
 rwa [Z2 hm,List.set_set]at this
theorem qw3 (hp:j8 p)(hw:G5 p ms)(h: ∀j,g.testBit j=true↔Pb p ms i j):g<18446744073709551616:=Oe (fun j hj=>by have:=Rb.two hp hw ((h j).1 hj);omega)
theorem qy7 (hp:j8 p)(h: ∀j,g.testBit j=true↔Cb p ms i j):g<18446744073709551616:=Oe (fun j hj=>by
 obtain⟨y,hy,h1,h2,-⟩:=(h j).1 hj;have:=D4 hp hy
 omega)
theorem qx6 (hp:j8 p)(hw:G5 p ms)(h: ∀j,g.testBit j=true↔Lb p ms i j):g<18446744073709551616:=Oe (fun j hj=>by
 obtain⟨x,hx,h1,-⟩:=(h j).1 hj;have:=Hf (hw.bits x.a.toNat)
 omega)
def Qr (p:Px)(ms:List Nat)(i k m:Nat):Prop:=
 (k=0∧m=wd ms i)∨
 (k=1∧ ∃g1,(∀j,g1.testBit j=true↔Pb p ms i j)∧m=J7 (wd ms i) g1)∨
 (k=2∧ ∃g1 g2,(∀j,g1.testBit j=true↔Pb p ms i j)∧(∀j,g2.testBit j=true↔Cb p (ms.set i (J7 (wd ms i) g1)) i j)∧m=J7 (J7 (wd ms i) g1) g2)∨
 (k=3∧ ∃g1 g2 g3,(∀j,g1.testBit j=true↔Pb p ms i j)∧(∀j,g2.testBit j=true↔Cb p (ms.set i (J7 (wd ms i) g1)) i j)∧(∀j,g3.testBit j=true↔Lb p (ms.set i (J7 (J7 (wd ms i) g1) g2)) i j)∧m=J7 (J7 (J7 (wd ms i) g1) g2) g3)
theorem Qr.one (hi:i<ms.length)(h:Qr p ms i 0 m)(hg: ∀j,gq.testBit j=true↔Pb p (ms.set i m) i j):Qr p ms i 1 (J7 m gq):=by
 rcases h with⟨-,rfl⟩ | ⟨h,-⟩ | ⟨h,-⟩ | ⟨h,-⟩
 ·rw[Po hi]at hg;exact .inr (.inl ⟨rfl,gq,hg,rfl⟩)
 all_goals cases h
theorem Qr.two (h:Qr p ms i 1 m)(hg: ∀j,gq.testBit j=true↔Cb p (ms.set i m) i j):Qr p ms i 2 (J7 m gq):=by
 rcases h with⟨h,-⟩ | ⟨-,g1,h1,rfl⟩ | ⟨h,-⟩ | ⟨h,-⟩
 ·cases h
 ·exact .inr (.inr (.inl ⟨rfl,g1,gq,h1,hg,rfl⟩))
 all_goals cases h
theorem Qr.three (h:Qr p ms i 2 m)(hg: ∀j,gq.testBit j=true↔Lb p (ms.set i m) i j):Qr p ms i 3 (J7 m gq):=by
 rcases h with⟨h,-⟩ | ⟨h,-⟩ | ⟨-,g1,g2,h1,h2,rfl⟩ | ⟨h,-⟩
 ·cases h
 ·cases h
 ·exact .inr (.inr (.inr ⟨rfl,g1,g2,gq,h1,h2,hg,rfl⟩))
 ·cases h
theorem Qr.qv4 (hp:j8 p)(hw:G5 p ms)(hi:i<p.D.length)(h:Qr p ms i 3 m):Ez p (ms.set i m) i:=by
 rcases h with⟨h,-⟩ | ⟨h,-⟩ | ⟨h,-⟩ | ⟨-,g1,g2,g3,h1,h2,h3,rfl⟩
 ·cases h
 ·cases h
 ·cases h
 ·exact vQ hp hw hi h1 h2 h3
structure xM (wc:World)(g cap:Nat)(p:Px)(gs:List (List Cx))(M0:Left)(ms:List Nat)(i k m:Nat)(wr:World):Prop where
 st:Qr p ms i k m
 tc:z6 [g] wc wr
 lb:LB wr (.slice (some ⟨g,0,none⟩) ms.length cap) (ms.set i m)
 inv:K9 p gs M0 (ms.set i m)
 sub: ∀j,m.testBit j=true→(wd ms i).testBit j=true
 nz:0<k→wd ms i≠0
def qw0 (wc:World)(g cap:Nat)(p:Px)(gs:List (List Cx))(M0:Left)(ms:List Nat)(i:Nat)(ti:Value)(wr:World):Prop:= ∃k:Nat,k≤3∧ti= .int .i64 k∧ ∃m,xM wc g cap p gs M0 ms i k m wr
theorem pq {m':Nat}(h: ∀j,m.testBit j=true→m'.testBit j=true)(h0:m≠0):m'≠0:=fun e=>by
 obtain⟨j,hj⟩:=jc h0;have:=h j hj;rw[e,Ew]at this;cases this
theorem Dr (ms:List Nat)(i m:Nat):ms.length=(ms.set i m).length:=Nt.symm
theorem xM.next {wr:World}{cap:Nat}(hp:j8 p)(h:xM wc g cap p gs M0 ms i k m wr)(h0:m≠0)(hi:i<p.D.length)(hm:i<ms.length)(Z7:Qr p ms i (k+1) (J7 m gq))(hg: ∀j,gq.testBit j=true→Rb p (ms.set i m) i j)(t2:z6 [] wr w2)(h3:w3=w2.setCell ⟨g,i,none⟩ (.int .u64 (J7 m gq:Nat))):xM wc g cap p gs M0 ms i (k+1) (J7 m gq) w3:=by
 have hl:=h.lb.q8 t2;rw[Dr ms i m]at hl;obtain⟨p1,p2⟩:=hl.put i (J7 m gq);rw[List.set_set,Nt]at p1;subst h3;exact⟨Z7,(h.tc.Y t2).trans p2,p1,h.inv.step hp hm hi hg,fun j hj=>h.sub j (by rw[F8,p9]at hj;exact hj.1),fun _=>pq h.sub h0⟩
structure rE (wB:World)(sp tb g cap gx:Nat)(p:Px)(gs:List (List Cx))(M0:Left)(tq:Value)(wr:World)(ms q ws:List Nat)(cf:Bool):Prop where
 rd:Th wr tq q
 wR: ∀b∈rb tq,b∉ [sp,g,gx]
 lt: ∀k∈q,k<p.D.length
 wf:Wf ws
 nx:j4 wr gx 69 ((ws.map y6).toArray)
 nl: ∀k:Nat,Z1 ws k=true→k<p.D.length
 st:j4 wr sp 305 #[.pointer (some ⟨tb,0,none⟩),.slice (some ⟨g,0,none⟩) ms.length cap,.bool cf]
 lb:LB wr (.slice (some ⟨g,0,none⟩) ms.length cap) ms
 inv:K9 p gs M0 ms
 pe:cf=false→Ru p ms q (Z1 ws)∧Void p ms q
 go:cf=true→yO p ms
 tc:z6 [sp,g,gx] wB wr
def SeN (wB:World)(sp tb g cap gx:Nat)(p:Px)(gs:List (List Cx))(M0:Left)(tq:Value)(wr:World)(n:Nat):Prop:= ∃ms q ws cf,rE wB sp tb g cap gx p gs M0 tq wr ms q ws cf∧n=mW ms q.length (J2 ws 0).length
def Gv (sp tb g cap:Nat)(p:Px)(gs:List (List Cx))(M0:Left)(w w':World):Prop:= ∃Fj jP,j4 w' sp 305 #[.pointer (some ⟨tb,0,none⟩),.slice (some ⟨g,0,none⟩) Fj.length cap,.bool jP]∧LB w' (.slice (some ⟨g,0,none⟩) Fj.length cap) Fj∧K9 p gs M0 Fj∧OT p Fj jP∧z6 [sp,g] w w'
theorem rE.post {cap:Nat}{wr:World}{cf:Bool}(h:rE wB sp tb g cap gx p gs M0 tq wr ms q ws cf)(TB:z6 [] w wB)(Mi:w.heap.size≤gx)(Z7:OT p ms cf):Gv sp tb g cap p gs M0 w wr:=
 ⟨ms,cf,h.st,h.lb,h.inv,Z7,(TB.mono (by simp)).step h.tc (fun m hm=>by
  simp only[m6,V6,Q1]at hm⊢;rcases hm with h1 | h1 | h1
  ·exact .inl (.inl h1)
  ·exact .inl (.inr h1)
  ·exact .inr (by omega))⟩
theorem xM.done {cap:Nat}{wr:World}(hS:rE wB sp tb g cap gx p gs M0 tq wc ms q ws false)(h:xM wc g cap p gs M0 ms i 3 m wr)(h1:sp≠g)(h2:sp≠gx)(h3:g≠gx)(rd:Th wc tq' q')(wR: ∀b∈rb tq',b∉ [sp,g,gx])(lt: ∀k∈q',k<p.D.length)(aY:Wf Mn)(b2:j4 w2 gx 69 ((Mn.map y6).toArray))(t:z6 [gx] wr w2)(nl: ∀k:Nat,Z1 Mn k=true→k<p.D.length)(pe:Ru p (ms.set i m) q' (Z1 Mn)∧Void p (ms.set i m) q'):
  rE wB sp tb g cap gx p gs M0 tq' w2 (ms.set i m) q' Mn false where
 rd:=Reads.z7 (Reads.z7 rd h.tc (fun b hb U3=>wR b hb (by simp only[m6,V6,Q1]at U3⊢;exact .inr (.inl U3)))) t (fun b hb U3=>wR b hb (by simp only[m6,V6,Q1]at U3⊢;exact .inr (.inr U3)))
 wR:=wR
 lt:=lt
 wf:=aY
 nx:=b2
 nl:=nl
 st:=by
  have:=(hS.st.z7 h.tc (by simpa using h1)).z7 t (by simpa using h2)
  rwa [Dr ms i m]at this
 lb:=by
  have:=h.lb.z7 t (fun b hb=>by simp only[m5,m6,V6,Q1]at hb⊢;omega)
  rwa [Dr ms i m]at this
 inv:=h.inv
 pe:=fun _=>pe
 go:=fun e=>by cases e
 tc:=(hS.tc.step h.tc (fun m hm=> .inl (by simp only[m6,V6,Q1]at hm⊢;exact .inr (.inl hm)))).step t (fun m hm=> .inl (by simp only[m6,V6,Q1]at hm⊢;exact .inr (.inr hm)))
theorem xM.mark {cap:Nat}{wr:World}(hS:rE wB sp tb g cap gx p gs M0 tq wc ms q ws false)(h:xM wc g cap p gs M0 ms i k 0 wr)(hi:i<p.D.length)(hm:i<ms.length)(h1:sp≠g)(h2:sp≠gx)(h3:g≠gx)(rd:Th wc tq' q')(wR: ∀b∈rb tq',b∉ [sp,g,gx])(lt: ∀k∈q',k<p.D.length):
  rE wB sp tb g cap gx p gs M0 tq' (wr.setCell ⟨sp,2,none⟩ (.bool true)) (ms.set i 0) q' ws true:=
 have ts:z6 [sp] wr (wr.setCell ⟨sp,2,none⟩ (.bool true)):=(z8 [sp] wr).setCell (.inl (by simp)) _
 {
  rd:=Reads.z7 (Reads.z7 rd h.tc (fun b hb U3=>wR b hb (by simp only[m6,V6,Q1]at U3⊢;exact .inr (.inl U3)))) ts (fun b hb U3=>wR b hb (by simp only[m6,V6,Q1]at U3⊢;exact .inl U3))
  wR:=wR
  lt:=lt
  wf:=hS.wf
  nx:=(hS.nx.z7 h.tc (by simpa using W5 h3)).z7 ts (by simpa using W5 h2)
  nl:=hS.nl
  st:=by
   have:=(hS.st.z7 h.tc (by simpa using h1)).V8 2 (.bool true);rw[Dr ms i 0]at this;exact this
  lb:=by
   have:=h.lb.z7 ts (fun b hb=>by simp only[m5,m6,V6,Q1]at hb⊢;omega)
   rwa [Dr ms i 0]at this
  inv:=h.inv
  pe:=fun e=>by cases e
  go:=fun _=>⟨i,hi,Z2 hm⟩
  tc:=(hS.tc.step h.tc (fun m hm=> .inl (by simp only[m6,V6,Q1]at hm⊢;exact .inr (.inl hm)))).step ts (fun m hm=> .inl (by simp only[m6,V6,Q1]at hm⊢;exact .inl hm)) }
theorem rE.zb4 {cap:Nat}{wr:World}(h:rE wB sp tb g cap gx p gs M0 tq wr ms q ws true)(h2:sp≠gx)(h3:g≠gx)(aY:Wf Mn)(b2:j4 w2 gx 69 ((Mn.map y6).toArray))(t:z6 [gx] wr w2)(nl: ∀k:Nat,Z1 Mn k=true→k<p.D.length):
  rE wB sp tb g cap gx p gs M0 tq w2 ms q Mn true where
 rd:=Reads.z7 h.rd t (fun b hb U3=>h.wR b hb (by simp only[m6,V6,Q1]at U3⊢;exact .inr (.inr U3)))
 wR:=h.wR
 lt:=h.lt
 wf:=aY
 nx:=b2
 nl:=nl
 st:=h.st.z7 t (by simpa using h2)
 lb:=h.lb.z7 t (fun b hb=>by simp only[m5,m6,V6,Q1]at hb⊢;omega)
 inv:=h.inv
 pe:=fun e=>by cases e
 go:=h.go
 tc:=h.tc.step t (fun m hm=> .inl (by simp only[m6,V6,Q1]at hm⊢;exact .inr (.inr hm)))
theorem pg:J2 l8 0= []:=kQ (fun n _ _=>De n)
theorem rE.JI {cap:Nat}{wr:World}(h:rE wB sp tb g cap gx p gs M0 tq wr ms [] ws false)(h1:sp≠gx)(h2:g≠gx)(h3:g<wr.heap.size){gl cl:Nat}(hq:J2 ws 0=q)(ho:Own w2 3 1 (.slice (some ⟨gl,0,none⟩) q.length cl) q.length (q.map xY))(Bo:wr.heap.size≤gl)(t2:z6 [] wr w2)(b3:j4 w3 gx 69 ((l8.map y6).toArray))(t3:z6 [gx] w2 w3):
  rE wB sp tb g cap gx p gs M0 (.slice (some ⟨gl,0,none⟩) q.length cl) w3 ms q l8 false where
 rd:=Reads.z7 (Own.reads ho) t3 (fun b hb U3=>by
  have h4:=Gp _ b hb;have h5:=h.nx.lt;simp only[m5,m6,V6,Q1]at h4 U3
  omega)
 wR:=fun b hb U3=>by
  have h4:=Gp _ b hb;have h5:=h.nx.lt;have h6:=h.st.lt;simp only[m5,m6,V6,Q1]at h4 U3;omega
 lt:=fun k hk=>h.nl k (Ur (by rw[hq];exact hk)).2.2
 wf:=L5
 nx:=b3
 nl:=fun k hk=>by rw[De]at hk;cases hk
 st:=(h.st.z7 t2 (by simp)).z7 t3 (by simpa using h1)
 lb:=(h.lb.q8 t2).z7 t3 (fun b hb=>by simp only[m5,m6,V6,Q1]at hb⊢;omega)
 inv:=h.inv
 pe:=fun _=>by
  obtain⟨h4,h5⟩:=h.pe rfl;have:Z1 l8=fun _=>false:=funext De;rw[this];exact⟨h4.fill (fun k hk hm=>by rw[←hq];exact Xc hm),fun k hk e=>absurd (h5 k hk e) (by simp)⟩
 go:=fun e=>by cases e
 tc:=(h.tc.Y t2).step t3 (fun m hm=> .inl (by simp only[m6,V6,Q1]at hm⊢;exact .inr (.inr hm)))
theorem rE.rest {cap:Nat}{wr:World}(h:rE wB sp tb g cap gx p gs M0 tq wr ms [] ws false)(hq:J2 ws 0= []):OT p ms false:=
 pz (h.pe rfl).1 (h.pe rfl).2 (fun k hk=>by
  cases e:Z1 ws (k:Int)with
  | false=>rfl
  | true=>have:=Xc e;rw[hq]at this;cases this)
theorem jV: ∀w,(zeroValue 69).run Tryz.prog w= .ok (.agg ((l8.map y6).toArray)) w:=(zero_of_info (v:= .agg ((l8.map y6).toArray)) (n:=8) (by kernel_rfl)).1
theorem qr8: ∀w,(zeroValue 333).run Tryz.prog w= .ok (.agg #[.nilFunc,.nilFunc,.nilFunc]) w:=(zero_of_info (v:= .agg #[.nilFunc,.nilFunc,.nilFunc]) (n:=3) (by kernel_rfl)).1
def Sb:Array Value:=#[.func (.func 240) #[] #[],.func (.func 241) #[] #[],.func (.func 242) #[] #[]]
theorem qm6 (W:World):(Instr.index 333 (.agg #[.func (.func 240) #[] #[],.func (.func 241) #[] #[],.func (.func 242) #[] #[]]) (.int .i64 0)).run Tryz.prog W= .ok (.func (.func 240) #[] #[]) W:=by kernel_rfl
theorem qm5 (W:World):(Instr.index 333 (.agg #[.func (.func 240) #[] #[],.func (.func 241) #[] #[],.func (.func 242) #[] #[]]) (.int .i64 1)).run Tryz.prog W= .ok (.func (.func 241) #[] #[]) W:=by kernel_rfl
theorem qm4 (W:World):(Instr.index 333 (.agg #[.func (.func 240) #[] #[],.func (.func 241) #[] #[],.func (.func 242) #[] #[]]) (.int .i64 2)).run Tryz.prog W= .ok (.func (.func 242) #[] #[]) W:=by kernel_rfl
theorem wL:Tryz.prog.built 333 [(0,.func (.func 240) #[] #[]),(1,.func (.func 241) #[] #[]),(2,.func (.func 242) #[] #[])]=some #[.func (.func 240) #[] #[],.func (.func 241) #[] #[],.func (.func 242) #[] #[]]:=by kernel_rfl
theorem mE:Tryz.prog.built 69 []=some ((l8.map y6).toArray):=by kernel_rfl
theorem Sf (sp tb g cap:Nat)(p:Px)(vs vp vc vi vf qv:Value)(gs:List (List Cx))(M0:Left)(ms q:List Nat)(cf:Bool)(w0 w:World)(hp:j8 p)(R6:wY p)(t0:z6 [] w0 w)(hT:Tg w0 tb p vs vp vc vi vf)(Ho:Y1 w0)(Vq:w0.heap.size≤sp)(hg:w0.heap.size≤g)(X3:sp≠g)(Bo:g<w.heap.size)
  (hS:j4 w sp 305 #[.pointer (some ⟨tb,0,none⟩),.slice (some ⟨g,0,none⟩) ms.length cap,.bool cf]) (hL:LB w (.slice (some ⟨g,0,none⟩) ms.length cap) ms) (hinv:K9 p gs M0 ms) (hq:Th w qv q) (DO: ∀b∈rb qv,b∉ [sp,g]) (hqn: ∀k∈q,k<p.D.length) (hpe:cf=false→Ru p ms q (fun _=>false)∧Void p ms q) (mw:cf=true→yO p ms):
  Calls Tryz.prog 214 #[.pointer (some ⟨sp,0,none⟩),qv] w fun r w'=>r= .returned (.tuple #[])∧Gv sp tb g cap p gs M0 w w':=by
 obtain⟨A,cq,rfl,-⟩:=id hq;have hz:=jV;have Vp:=qr8;have qn3:=hS.lt;have TB:=((z8 [] w).alloc (.cells Sb 333)).alloc (.cells ((l8.map y6).toArray) 69);have BR:=(j4.new w 333 Sb).alloc (.cells ((l8.map y6).toArray) 69);have BX:=j4.new (w.alloc (.cells Sb 333)) 69 ((l8.map y6).toArray);simp only[World.size_alloc]at BX
 have Z_:Hid (rE ((w.alloc (.cells Sb 333)).alloc (.cells ((l8.map y6).toArray) 69)) sp tb g cap (w.heap.size+1) p gs M0 (.slice A q.length cq) ((w.alloc (.cells Sb 333)).alloc (.cells ((l8.map y6).toArray) 69)) ms q l8 cf):=O
  {
   rd:=Reads.q8 hq TB
   wR:=fun b hb U3=>by
    have h1:=DO b hb;have h2:=Reads.lt hq b hb;simp only[m6,V6,Q1]at h1 U3;omega
   lt:=hqn
   wf:=L5
   nx:=BX
   nl:=fun k hk=>by rw[De]at hk;cases hk
   st:=hS.z7 TB (by simp)
   lb:=hL.q8 TB
   inv:=hinv
   pe:=fun e=>by
    have:Z1 l8=fun _=>false:=funext De;rw[this];exact hpe e
   go:=mw
   tc:=z8 _ _ }
 have Vu:=O TB;have HBR:=O BR;have qQ:Hid (sp≠g∧sp<w.heap.size∧g<w.heap.size):=O ⟨X3,qn3,Bo⟩;have EQ:Hid (w.heap.size≤((w.alloc (.cells Sb 333)).alloc (.cells ((l8.map y6).toArray) 69)).heap.size):=O TB.size;have HZ:Hid (w0.heap.size≤w.heap.size):=O t0.size;clear hS hL hinv hq DO hqn hpe mw TB BR BX;unfold Sb at Z_ Vu HBR EQ;go_enter Tryz.func214,Tryz.ntmps214;go_step3;go_wp2_with (refine wpList_buildTo rfl 333 _ rfl _ rfl _ (by exact wL) ?_);go_step3;go_wp2_with fail;generalize ((w.alloc _).alloc _)=wB at*;obtain⟨gr,hgr⟩: ∃gr,gr=w.heap.size:=⟨_,rfl⟩;rw[←hgr]at Z_ HBR⊢;have DD:=O hgr;clear hgr Vp qn3 Bo X3;generalize hA:Value.slice A q.length cq=qv at*;clear hA
 have QJ:=O (fun(W:World) (t:z6 [sp,g,gr+1] wB W)=>(t0.Y Vu.o).step t (fun m hm=> .inr (by
  simp only[m6,V6,Q1]at hm;have:=HZ.o;have:=DD.o
  omega)))
 have HRL:=O (fun(W:World) (t:z6 [sp,g,gr+1] wB W)=>HBR.o.z7 t (by have:=qQ.o;have:=DD.o;simp;omega));go_loopw [1] (fun tq wr=> ∃n,SeN wB sp tb g cap (gr+1) p gs M0 tq wr n) (fun tq wr=>Nz (SeN wB sp tb g cap (gr+1) p gs M0 tq wr))
 case atStart=>exact⟨_,_,_,_,_,Z_.o,rfl⟩
 case round=>
  obtain⟨hP,-⟩:=Oy hrel;generalize hNe:Nz (SeN wB sp tb g cap (gr+1) p gs M0 u1 wr)=N at*;have qe8:=O hNe;clear hNe;clear hrel Z_;obtain⟨ms,q,ws,cf,hI,hN⟩:=hP;have c2:=(hI.st.cell 2).trans rfl
  cases cf with
  | true=>
   have HP:=O (hI.post Vu.o (by have:=DD.o;omega) (hI.go rfl));clear hI hN;go_wp2_with fail;rw[Exit.noGoto_normal];go_end0;exact⟨rfl,HP.o⟩
  | false=>
   obtain⟨A,cq,rfl,-⟩:=id hI.rd;have HI:=O hI;clear hI;go_upto_if 18 with fail
   go_cut [1] (fun tq wx=> ∃i q' qT,rE wB sp tb g cap (gr+1) p gs M0 tq wx ms (i::q') qT false∧N=mW ms (q'.length+1) (J2 qT 0).length)
   case first=>
    cases q with
    | cons i q'=>
     go_wp2_with fail;go_meet;exact⟨i,q',ws,HI.o,hN⟩
    | nil=>
     have hs:=m8 HI.o.wf;have Rm:=O (Ww ws HI.o.wf wr (Ho.q8 (QJ.o wr HI.o.tc)));have hnx:=HI.o.nx;unfold T5 at Rm;generalize hE:J2 ws 0=q2 at*;have HE:=O hE;have HWL:Hid (g<wr.heap.size):=O (by have:=HI.o.tc.size;have:=EQ.o;have:=qQ.o;omega);clear hE;go_wp2_with (refine U5 hnx hs ?_);refine Rm.o.mono ?_;rintro r w2 ⟨gl,cl,rfl,k1,k2,k3,ho,t2⟩;have qn6:=hnx.z7 t2 (by simp);have HO:=O ho;have HK1:=O k1;have B4:=O t2;clear ho t2 k1 k2 k3 hnx
     cases q2 with
     | nil=>
      go_wp2_with (first | (refine wpList_buildTo rfl 69 _ rfl _ rfl _ (by exact mE) ?_) | (refine D0 qn6 hs rfl (V7 l8) ?_;intro w3 b3 t3));have HI3:=O (HI.o.JI (by have:=qQ.o;have:=DD.o;omega) (by have:=qQ.o;have:=DD.o;omega) HWL.o HE.o HO.o HK1.o B4.o b3 t3);rw[Exit.noGoto_normal];go_end0;exact⟨rfl,HI3.o.post Vu.o (by have:=DD.o;omega) (HI.o.rest HE.o)⟩
     | cons i q'=>
      go_wp2_with (first | (refine wpList_buildTo rfl 69 _ rfl _ rfl _ (by exact mE) ?_) | (refine D0 qn6 hs rfl (V7 l8) ?_;intro w3 b3 t3));have HI3:=O (HI.o.JI (by have:=qQ.o;have:=DD.o;omega) (by have:=qQ.o;have:=DD.o;omega) HWL.o HE.o HO.o HK1.o B4.o b3 t3);go_meet;exact⟨i,q',l8,HI3.o,by rw[hN,pg];unfold mW;simp⟩
   case rest=>
    clear hN HI c2;obtain⟨i,q',qT,hI,hN⟩:=hcut;obtain⟨A,cq,e,h1,h2,-,h4⟩:=id hI.rd;obtain⟨b,off,rfl,hb,-⟩:=h4 (by simp);subst e;obtain⟨HQ,c0,-⟩:=Th.tail hI.rd;have M8:=hI.lt i N3;have vj:i<ms.length:=by rw[hI.inv.Fv.len];exact M8
    have c1:=(hI.st.cell 1).trans rfl;have c3:=hI.lb.at_ vj;rw[←Tl vj]at c3;have hBR:=HRL.o _ hI.tc;have r0:=(hBR.cell 0).trans rfl;have r1:=(hBR.cell 1).trans rfl;have r2:=(hBR.cell 2).trans rfl;have CM:(0:Int)≤(i:Int):=by omega
    have mz:(i:Int)< (ms.length:Int):=by omega
    have HQ:=O HQ;have HI:=O hI;have Qs:=O M8;have Zd:=O vj;have QM:=O hN;have OP:q'.length+1≤cq:=h1;have vz: ∀w,(Instr.slice 30 (.slice (some ⟨b,off,none⟩) (q'.length+1) cq) (some (.int .i64 1)) (some (.int .i64 ((q'.length:Int)+1))) (some (.int .i64 ((q'.length:Int)+1)))).run Tryz.prog w= .ok (sliced (some ⟨b,off,none⟩) 1 (q'.length+1) (q'.length+1) 1) w:=fun w=>KW w _ _ _ OP;have HQV:=O (Th.qs1 HI.o.rd)
    have EH:Hid (∀x∈rb (sliced (some ⟨b,off,none⟩) 1 (q'.length+1) (q'.length+1) 1),x∉ [sp,g,gr+1]):=O (fun x hx=>by
     rw[HQV.o.2 x hx]
     exact HI.o.wR b (by simp[rb]))
    clear hI M8 vj hN h1 OP h2 h4 hBR;generalize sliced (some ⟨b,off,none⟩) 1 (q'.length+1) (q'.length+1) 1=V at*;simp only[Cz]at*;go_wp2_with fail;clear c0 c1 c3 r0 r1 r2 vz;have HGW:Hid (g<wB.heap.size):=O (by have:=qQ.o;have:=EQ.o;omega);have Vm:Hid (sp≠g∧sp≠gr+1∧g≠gr+1):=O (by have:=qQ.o;have:=DD.o;omega);have nH:=O (fun(W:World) (t:z6 [g] wc W)=>HI.o.st.z7 t (by have:=Vm.o.1;simpa using this));have Q8:=O (fun(W:World) (t:z6 [g] wc W)=>QJ.o W (HI.o.tc.step t (fun m hm=> .inl (by simp only[m6,V6,Q1]at hm⊢;exact .inr (.inl hm)))));have CZ:=O (fun(W:World) (t:z6 [g] wc W) (m:Nat) (hL:LB W (.slice (some ⟨g,0,none⟩) ms.length cap) (ms.set i m)) (hw:G5 p (ms.set i m))=>vW sp tb p vs vp vc vi vf _ _ (ms.set i m) i W hp R6 hw Qs.o (hT.q8 (Q8.o W t)) (Ho.q8 (Q8.o W t)) (nH.o W t) hL);have xA:=O (fun(W:World) (t:z6 [g] wc W) (m:Nat) (hL:LB W (.slice (some ⟨g,0,none⟩) ms.length cap) (ms.set i m)) (hw:G5 p (ms.set i m))=>ww sp tb p vs vp vc vi vf _ _ (ms.set i m) i W hp R6 hw Qs.o (hT.q8 (Q8.o W t)) (Ho.q8 (Q8.o W t)) (nH.o W t) hL);have HLO:=O (fun(W:World) (t:z6 [g] wc W) (m:Nat) (hL:LB W (.slice (some ⟨g,0,none⟩) ms.length cap) (ms.set i m)) (hw:G5 p (ms.set i m))=>vY sp tb p vs vp vc vi vf _ _ (ms.set i m) i W hp R6 hw Qs.o (hT.q8 (Q8.o W t)) (Ho.q8 (Q8.o W t)) (nH.o W t) hL);go_loopw [42] (fun ti wr=>qw0 wc g cap p gs M0 ms i ti wr) (fun ti _=>3 - (intOf ti).toNat)
    case atStart=>exact⟨0,by omega,rfl,wd ms i,.inl ⟨rfl,rfl⟩,z8 _ _,by rw[Po Zd.o];exact HI.o.lb,by rw[Po Zd.o];exact HI.o.inv,fun j h=>h,fun h=>absurd h (by omega)⟩
    case round=>
     obtain⟨k,hk,rfl,m,ON⟩:=hrel;have c1:=((nH.o wr ON.tc).cell 1).trans rfl;have qc3:i< (ms.set i m).length:=by rw[Nt];exact Zd.o
     have PK:=(ON.inv.Fv.bits i).lt;rw[Z2 Zd.o]at PK
     have c3:wr.cell? ⟨g,i,none⟩=some (.int .u64 (m:Nat)):=by
      have hl:=ON.lb;rw[Dr ms i m]at hl;have h:=hl.at_ qc3;rw[←Tl qc3,Z2 Zd.o]at h;exact h
     have s2:=(nH.o wr ON.tc).cell 2;have s4:=(nH.o wr ON.tc).lt;have s5:=(nH.o wr ON.tc).frozen 2;have Jc:=O ON;clear ON qc3;by_cases PM:k<3
     ·by_cases Fe:m=0
      ·subst Fe;have CI:k=0∨k=1∨k=2:=by omega
       have x0:=qm6;have x1:=qm5;have x2:=qm4;rcases CI with rfl | rfl | rfl
       all_goals
        have EJ:=O (xM.mark HI.o Jc.o Qs.o Zd.o Vm.o.1 Vm.o.2.1 Vm.o.2.2 HQV.o.1 EH.o (fun k hk=>HI.o.lt k (T8 _ hk)));go_wp2_with fail;rw[Exit.noGoto_normal];go_end0;exact⟨rfl,EJ.o.post Vu.o (by have:=DD.o;omega) (EJ.o.go rfl)⟩
      ·have hmz:((m:Int)==0)=false:=by simpa using Fe
       have x0:=qm6;have x1:=qm5;have x2:=qm4;have qe2:=p7 (fun W t=>((nH.o W (Jc.o.tc.Y t)).cell 1).trans rfl);have mc:=p7 (fun W t=>(t.cell (p:=⟨g,i,none⟩) (W6 (W6 HGW.o HI.o.tc.size) Jc.o.tc.size) (by simp)).trans c3);have QO:=O PK
       have HFZ:=p7 (fun W t=>(show W.frozen? ⟨g,i,none⟩=false from by
        have hl:=Jc.o.lb.q8 t;rw[Dr ms i m]at hl
        exact Own.aN hl i))
       have HGZ:=p7 (fun W t=>(show g<W.heap.size from W6 (W6 (W6 HGW.o HI.o.tc.size) Jc.o.tc.size) t.size));have CI:k=0∨k=1∨k=2:=by omega
       clear hk PM s2 s4 s5;rcases CI with rfl | rfl | rfl
       ·go_wp2_with fail;have hS:=(z8 [] wr).drew;refine n6 (fun W=>z6 [] wr W) 13 (by kernel_rfl) ?_;refine tk 0 hS ?_;refine tk 1 hS ?_;refine tk 2 hS ?_;refine tk 3 hS ?_ (hy:=by intro W m7;have e:=qe2.o W m7;go_simp<;>rfl);refine tk 4 hS ?_;refine tk 5 hS ?_;refine tk 6 hS ?_ (hy:=by intro W m7;have e:=mc.o W m7;go_simp<;>rfl);refine tk 7 hS ?_;refine tk 8 hS ?_;refine tk 9 hS ?_;refine tn 10 (fun K hK=> ?_);go_simp;refine(CZ.o _ (Jc.o.tc.Y hS) m (Jc.o.lb.q8 hS) Jc.o.inv.Fv).mono ?_;rintro r w4 ⟨gq,rfl,jL,t4⟩;have En:=hS.Y t4;go_wp2_with fail;refine YU hK En ?_;clear hK K;have cj:=O (Uz QO.o (qw3 hp Jc.o.inv.Fv jL));refine tk 11 En ?_ (hy:=by intro W m7;have e:=cj.o;go_simp<;>rfl);refine tk 12 En ?_;have z1:=mc.o _ En;have z2:=HFZ.o _ En;have z3:=HGZ.o _ En;refine tl (fun K hK=> ?_);go_simp;refine hK.o _ _ ?_;clear hK K;(try simp only[nz]);have Sz:=O (xM.next hp Jc.o Fe Qs.o Zd.o (Qr.one Zd.o Jc.o.st jL) (fun j hj=> .inl ((jL j).1 hj)) En rfl);go_wp2_with fail;exact⟨⟨1,by omega,by go_num,_,Sz.o⟩,by simp[intOf]⟩
       ·go_wp2_with fail;have hS:=(z8 [] wr).drew;refine n6 (fun W=>z6 [] wr W) 13 (by kernel_rfl) ?_;refine tk 0 hS ?_;refine tk 1 hS ?_;refine tk 2 hS ?_;refine tk 3 hS ?_ (hy:=by intro W m7;have e:=qe2.o W m7;go_simp<;>rfl);refine tk 4 hS ?_;refine tk 5 hS ?_;refine tk 6 hS ?_ (hy:=by intro W m7;have e:=mc.o W m7;go_simp<;>rfl);refine tk 7 hS ?_;refine tk 8 hS ?_;refine tk 9 hS ?_;refine tn 10 (fun K hK=> ?_);go_simp;refine(xA.o _ (Jc.o.tc.Y hS) m (Jc.o.lb.q8 hS) Jc.o.inv.Fv).mono ?_;rintro r w4 ⟨gq,rfl,jL,t4⟩;have En:=hS.Y t4;go_wp2_with fail;refine YU hK En ?_;clear hK K;have cj:=O (Uz QO.o (qy7 hp jL));refine tk 11 En ?_ (hy:=by intro W m7;have e:=cj.o;go_simp<;>rfl);refine tk 12 En ?_;have z1:=mc.o _ En;have z2:=HFZ.o _ En;have z3:=HGZ.o _ En;refine tl (fun K hK=> ?_);go_simp;refine hK.o _ _ ?_;clear hK K;(try simp only[nz]);have Sz:=O (xM.next hp Jc.o Fe Qs.o Zd.o (Qr.two Jc.o.st jL) (fun j hj=> .inr (.inl ((jL j).1 hj))) En rfl);go_wp2_with fail;exact⟨⟨2,by omega,by go_num,_,Sz.o⟩,by simp[intOf]⟩
       ·go_wp2_with fail;have hS:=(z8 [] wr).drew;refine n6 (fun W=>z6 [] wr W) 13 (by kernel_rfl) ?_;refine tk 0 hS ?_;refine tk 1 hS ?_;refine tk 2 hS ?_;refine tk 3 hS ?_ (hy:=by intro W m7;have e:=qe2.o W m7;go_simp<;>rfl);refine tk 4 hS ?_;refine tk 5 hS ?_;refine tk 6 hS ?_ (hy:=by intro W m7;have e:=mc.o W m7;go_simp<;>rfl);refine tk 7 hS ?_;refine tk 8 hS ?_;refine tk 9 hS ?_;refine tn 10 (fun K hK=> ?_);go_simp;refine(HLO.o _ (Jc.o.tc.Y hS) m (Jc.o.lb.q8 hS) Jc.o.inv.Fv).mono ?_;rintro r w4 ⟨gq,rfl,jL,t4⟩;have En:=hS.Y t4;go_wp2_with fail;refine YU hK En ?_;clear hK K;have cj:=O (Uz QO.o (qx6 hp Jc.o.inv.Fv jL));refine tk 11 En ?_ (hy:=by intro W m7;have e:=cj.o;go_simp<;>rfl);refine tk 12 En ?_;have z1:=mc.o _ En;have z2:=HFZ.o _ En;have z3:=HGZ.o _ En;refine tl (fun K hK=> ?_);go_simp;refine hK.o _ _ ?_;clear hK K;(try simp only[nz]);have Sz:=O (xM.next hp Jc.o Fe Qs.o Zd.o (Qr.three Jc.o.st jL) (fun j hj=> .inr (.inr ((jL j).1 hj))) En rfl);go_wp2_with fail;exact⟨⟨3,by omega,by go_num,_,Sz.o⟩,by simp[intOf]⟩
     ·obtain rfl:k=3:=by omega
      have QS:=O (Jc.o.st.qv4 hp HI.o.inv.Fv Qs.o);have OW:=O (Jc.o.nz (by omega));have HPE:=O (HI.o.pe rfl);have DC:=O (fun(k:Nat) (hk:k∈q')=>HI.o.lt k (T8 _ hk))
      have OX:Hid (∀(Mn:List Nat) (m:Nat),(∀j,Z1 Mn j=true↔Z1 qT j=true∨XF p (ms.set i m) i j)→ ∀k:Nat,Z1 Mn k=true→k<p.D.length):=O (fun Mn m h k hk=>by
       rcases(h k).1 hk with h1 | h1
       ·exact HI.o.nl k h1
       ·obtain⟨k',e,Qi⟩:=h1.lt hp
        omega)
      by_cases Fe:m=0
      ·subst Fe;have EJ:=O (xM.mark HI.o Jc.o Qs.o Zd.o Vm.o.1 Vm.o.2.1 Vm.o.2.2 HQV.o.1 EH.o DC.o);have hb:((((0:Nat):Nat):Int) !=((wd ms i:Nat):Int))=true:=by have:=OW.o;simp;omega
       go_upto_region 18 with fail
       have m1:=(EJ.o.st.cell 1).trans rfl
       have m3:(wr.setCell ⟨sp,2,none⟩ (.bool true)).cell? ⟨g,i,none⟩=some (.int .u64 ((0:Nat):Nat)):=by
        have h:=EJ.o.lb.at_ (by rw[Nt];exact Zd.o);rw[←Tl (by rw[Nt];exact Zd.o),Z2 Zd.o]at h;exact h
       rw[←Dr ms i 0]at m1;clear c1 c3 s2 s4 s5;generalize wr.setCell ⟨sp,2,none⟩ (.bool true)=w6 at*;go_wp2_with fail;refine(Ws sp tb (gr+1) p vs vp vc vi vf _ _ (ms.set i 0) qT i w0 _ hp R6 EJ.o.inv.Fv Qs.o HI.o.wf (QJ.o _ EJ.o.tc) hT Ho (by have:=HZ.o;have:=DD.o;omega) EJ.o.nx EJ.o.st Vm.o.2.1 EJ.o.lb (by have:=Vm.o.2.2;simp[m5];omega)).mono ?_;rintro r w7 ⟨rfl,⟨Mn,aY,U3,Ja⟩,t7⟩;have HN7:=O (EJ.o.zb4 Vm.o.2.1 Vm.o.2.2 aY U3 t7 (OX.o Mn 0 Ja));go_wp2_with fail;exact⟨⟨_,_,_,_,_,HN7.o,rfl⟩,Wo (Qa ⟨_,_,_,_,HN7.o,rfl⟩) (by rw[qe8.o,QM.o];exact uB Zd.o (Nat.pos_of_ne_zero OW.o) (by have:=Wt Mn;omega))⟩
      have hmz:((m:Int)==0)=false:=by simpa using Fe
      by_cases mq:m=wd ms i
      ·have hb:(((m:Nat):Int) !=((wd ms i:Nat):Int))=false:=by rw[mq];simp
       have HD:=O (xM.done HI.o Jc.o Vm.o.1 Vm.o.2.1 Vm.o.2.2 HQV.o.1 EH.o DC.o HI.o.wf (HI.o.nx.z7 Jc.o.tc (by have:=Vm.o.2.2;simp;omega)) (z8 [gr+1] wr) HI.o.nl (by
        have h:=QS.o;have hv:=HPE.o.2.set HI.o.inv.Fv Qs.o Fe;rw[mq,Po Zd.o]at h hv⊢
        exact⟨HPE.o.1.same h,hv⟩))
       go_wp2_with fail;exact⟨⟨_,_,_,_,_,HD.o,rfl⟩,Wo (Qa ⟨_,_,_,_,HD.o,rfl⟩) (by rw[qe8.o,QM.o,mq,Po Zd.o];exact LH)⟩
      ·have hb:(((m:Nat):Int) !=((wd ms i:Nat):Int))=true:=by simp;omega
       have HMB:Hid (m<wd ms i):=O (Nat.lt_of_le_of_ne (Nat.le_of_testBit Jc.o.sub) mq);go_wp2_with fail;refine(Ws sp tb (gr+1) p vs vp vc vi vf _ _ (ms.set i m) qT i w0 _ hp R6 Jc.o.inv.Fv Qs.o HI.o.wf (Q8.o _ Jc.o.tc) hT Ho (by have:=HZ.o;have:=DD.o;omega) (HI.o.nx.z7 Jc.o.tc (by have:=Vm.o.2.2;simp;omega)) (nH.o _ Jc.o.tc) Vm.o.2.1 Jc.o.lb (by have:=Vm.o.2.2;simp[m5];omega)).mono ?_;rintro r w7 ⟨rfl,⟨Mn,aY,U3,Ja⟩,t7⟩;have HD:=O (xM.done HI.o Jc.o Vm.o.1 Vm.o.2.1 Vm.o.2.2 HQV.o.1 EH.o DC.o aY U3 t7 (OX.o Mn m Ja) ⟨HPE.o.1.change hp HI.o.inv.Fv Qs.o Jc.o.sub Fe QS.o (fun j hj=>(Ja j).2 (.inl hj)) (fun j hj=>(Ja j).2 (.inr hj)),HPE.o.2.set HI.o.inv.Fv Qs.o Fe⟩);go_wp2_with fail;exact⟨⟨_,_,_,_,_,HD.o,rfl⟩,Wo (Qa ⟨_,_,_,_,HD.o,rfl⟩) (by rw[qe8.o,QM.o];exact uB Zd.o HMB.o (by have:=Wt Mn;omega))⟩
end Go.Proofs.YtlhlmcohdkkjpaaGreatDoor
