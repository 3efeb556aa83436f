/- Layer 17: problem.Restrict: its errors. -/
import Derived.Test.YtlhlmcohdkkjpaaGreatDoorZE
set_option linter.all false
set_option maxHeartbeats 32000000
set_option maxRecDepth 100000
namespace Go.Proofs.YtlhlmcohdkkjpaaGreatDoor
open Go.RowKit
def Kd (W:World)(b:Nat)(t:TypeId):Prop:= ∃cs fr,W.heap[b]? =some (.cells cs t fr)
section
variable {W W':World}{b b' g n size:Nat}{t t' e:TypeId}{v:Value}{xs:List Value}{L:List Nat}
theorem Kd.ne (h:Kd W b t)(h':Kd W b' t')(X3:t≠t'):b≠b':=by
 rintro rfl;obtain⟨cs,fr,e⟩:=h;obtain⟨cs',M4,e'⟩:=h';rw[e]at e';injection e' with e';injection e' with _ ht;exact X3 ht
theorem Kd.z7 (h:Kd W b t)(ht:z6 L W W')(hb:b∉L):Kd W' b t:=by
 obtain⟨cs,fr,e⟩:=h;exact⟨cs,fr,(ht.block b (Mu.1 e).1 hb).trans e⟩
variable{cs:Array Value}
theorem j4.kd (h:j4 W g t cs):Kd W g t:=⟨_,_,h⟩
theorem Own.kd (h:Own W e size v n xs): ∀b∈m5 v,Kd W b e:=by
 rcases h.2 with⟨rfl,_⟩ | ⟨g',cap,cur,rfl,_,hh,_⟩
 ·intro b hb;cases hb
 ·intro b hb;have:b=g':=by simpa[m5]using hb
  subst this;exact⟨_,_,hh⟩
theorem Own.v7 (h:Own W e size v n xs)(ht:z6 L W W')(hk: ∀b∈L,∃t,Kd W b t∧t≠e):Own W' e size v n xs:=
 h.z7 ht (fun b hb hm=>by
  obtain⟨t,k,ne⟩:=hk b hm
  exact Kd.ne k (h.kd b hb) ne rfl)
end
variable{a:Act}{L:Array Bool}{ops:Array Oper}{cs:Array Value}{Q:Exit→Act→World→Prop}{ds:List Dx}{l:List Int}{K1:List Value}{g i n k:Nat}{o oi oz:Oper}{x y:Operand}{p:Px}{α:Type}{ty t:TypeId}{b c d v a0 a1 a2 a3:Value}{w W W' w':World}
theorem Am {rest:List Oper}{cs':Array Value}(hi:(Tryz.prog.info? ty).map (·.size)=some cs'.size)(hs:cs.size=cs'.size)(h1:cs'.all (·.oneCell')=true)(hb:j4 w g ty cs)
  (h: ∀w',j4 w' g ty cs'→z6 [g] w w'→wpList Tryz.prog ops Q rest (a.put o.dst undef) w') (Cn:o.guard=none:=by rfl) (ho:o.op= .store ty x y:=by rfl) (hx:a.eval x= .pointer (some ⟨g,0,none⟩):=by rfl) (hy:a.eval y= .agg cs':=by rfl):wpList Tryz.prog ops Q (o::rest) a w:=by
 have hk:=Hd hb cs';exact wpList_plain Cn fun _ hK=>wp_store_row ty x y ho g _ hx hy ty cs hb hi hs h1 (hK _ _ (h _ hk.1 hk.2))
theorem P3 {fn:Func}{p q:Tmp}{tmps:Array Value}{u:Value}{d:TypeDesc}(hb:j4 w g ty cs)(hd:(match d with | .struct _ | .array _ _=>true | _=>false)=true)(hu:Tryz.prog.underlying ty=some d)(hi:(Tryz.prog.info? ty).map (·.size)=some cs.size)(h:fn.results=#[.cell p ty,.tmp q])(hp:tmps.getD p undef= .pointer (some ⟨g,0,none⟩))(hq:tmps.getD q undef=u):(results fn tmps).run Tryz.prog w= .ok (.tuple #[.agg cs,u]) w:=by
 have j_:tmps[p]?.getD undef= .pointer (some ⟨g,0,none⟩):=by simpa using hp
 have hq':tmps[q]?.getD undef=u:=by simpa using hq
 have hl:=run_loadVar_row (P:=Tryz.prog) w g ty ty cs (0,0) d hb hu (by cases d<;>simp_all) hi;simp[results,h,j_,hq',asAddr,hl,Result.andThen]
theorem qd4 (h:cs.size=8): ∃x0 x1 x2 x3 x4 x5 x6 x7,cs=#[x0,x1,x2,x3,x4,x5,x6,x7]:=by
 obtain⟨l⟩:=cs
 match l,h with
 | [x0,x1,x2,x3,x4,x5,x6,x7],_=>exact⟨x0,x1,x2,x3,x4,x5,x6,x7,rfl⟩
theorem j4.F2 {a:Value}(h:j4 W g t #[a,b,c,d]):W.cell? ⟨g,0,none⟩=some a∧W.cell? ⟨g,1,none⟩=some b∧W.cell? ⟨g,2,none⟩=some c∧W.cell? ⟨g,3,none⟩=some d:=⟨(h.cell 0).trans rfl,(h.cell 1).trans rfl,(h.cell 2).trans rfl,(h.cell 3).trans rfl⟩
theorem j4.qd5 {a e f i j:Value}(h:j4 W g t #[a,b,c,d,e,f,i,j]):W.cell? ⟨g,0,none⟩=some a∧W.cell? ⟨g,1,none⟩=some b∧W.cell? ⟨g,2,none⟩=some c∧W.cell? ⟨g,3,none⟩=some d∧W.cell? ⟨g,4,none⟩=some e∧W.cell? ⟨g,5,none⟩=some f∧W.cell? ⟨g,6,none⟩=some i∧W.cell? ⟨g,7,none⟩=some j:=⟨(h.cell 0).trans rfl,(h.cell 1).trans rfl,(h.cell 2).trans rfl,(h.cell 3).trans rfl,(h.cell 4).trans rfl,(h.cell 5).trans rfl,(h.cell 6).trans rfl,(h.cell 7).trans rfl⟩
def Q3:Value:= .slice none 0 0
def c_ (p:Px)(l:List Int):Px:=⟨p.D.filter (fun d=>l.contains d.st),⟨p.R.P.filter (fun x=>l.contains x.a&&l.contains x.b),p.R.L.filter (fun x=>l.contains x.a&&l.contains x.b),p.R.C.filter (fun x=>l.contains x.a)⟩⟩
def W0 (p:Px)(l:List Int):Bool:=l.all (fun n=>y8 p n)
theorem R5 (h:Fa l=true): ∀x∈l,Jb x:=fun x hx=>by
 rw[Kc,p9]at h;have:=U9 ((Z6.1 h.1) x hx);unfold Jb;omega
theorem Lj (h:J5 p=true): ∀d∈p.D,Jb d.st:=by
 unfold J5 at h;rw[p9]at h;exact lQ h.1
theorem kR (h1: ∀x∈l,Jb x)(h2: ∀d∈p.D,Jb d.st):Ta (D9 l) (D9 (l5 p.D))=W0 p l:=by
 have h3: ∀x∈l5 p.D,Jb x:=fun x hx=>by
  obtain⟨d,hd,rfl⟩:=F4.1 hx;exact h2 d hd
 rw[Jr,Ju];unfold W0 y8;rw[Z6];constructor
 ·intro h x hx;have:=h x (by rw[Y4 h1];simpa using hx)
  rwa [Y4 h3]at this
 ·intro h n hn;rw[Y4 h1]at hn;rw[Y4 h3];exact h n (by simpa using hn)
theorem pP (p:Px)(VD VP VL VC VS:Value)(l:List Int)(w:World)(h:K3 w VD VP VL VC p)(hl:P0 p)(hS:e8 w VS l)(T3:l.length≤100000)(Wc:(J5 p&&Fa l)=false):Calls Tryz.prog 19 #[.agg #[VD,VP,VL,VC],VS] w fun r w'=>r= .returned (.tuple #[.agg #[Q3,Q3,Q3,Q3],.int .i64 2])∧z6 [] w w':=by
 have HV:=p7 (fun W t=>Di p VD VP VL VC W (h.q8 t) hl);have mP:=p7 (fun W t=>P6 VS l W (hS.q8 t) T3);obtain⟨AD,cD,rfl,-,-⟩:=h.d.form;obtain⟨AP,cP,rfl⟩:=h.pr.form;obtain⟨AL,cL,rfl⟩:=h.ld.form;obtain⟨AC,cC,rfl⟩:=h.cp.form;obtain⟨AS,cS,rfl⟩:=hS.form;have o6:z6 [] w ((w.alloc (.cells #[.slice AD p.D.length cD,.slice AP p.R.P.length cP,.slice AL p.R.L.length cL,.slice AC p.R.C.length cC] 29)).alloc (.cells #[.slice none 0 0,.slice none 0 0,.slice none 0 0,.slice none 0 0] 29)):=((z8 [] w).alloc _).alloc _;have b0:=(j4.new w 29 #[.slice AD p.D.length cD,.slice AP p.R.P.length cP,.slice AL p.R.L.length cL,.slice AC p.R.C.length cC]).alloc (.cells #[.slice none 0 0,.slice none 0 0,.slice none 0 0,.slice none 0 0] 29);have b1:=j4.new (w.alloc (.cells #[.slice AD p.D.length cD,.slice AP p.R.P.length cP,.slice AL p.R.L.length cL,.slice AC p.R.C.length cC] 29)) 29 #[.slice none 0 0,.slice none 0 0,.slice none 0 0,.slice none 0 0];simp only[World.size_alloc]at b1;clear h hl hS;generalize J5 p=q0 at*;generalize Fa l=q1 at*;unfold Q3
 cases q0 with
 | false=>
  go_enter Tryz.func19,Tryz.ntmps19;go_wp2_with fail
  refine(HV.o _ o6).mono ?_
  rintro r w1 ⟨rfl,t1⟩;have b2:=b1.z7 t1 (by simp);go_wp2_with (refine Am (ty:=29) (cs':=#[.slice none 0 0,.slice none 0 0,.slice none 0 0,.slice none 0 0]) (by kernel_rfl) rfl (by simp[Value.oneCell']) b2 ?_;intro w3 b3 t3);exact bodyPost_ret (P3 (d:=_) b3 rfl Tryz.underlying29 (by kernel_rfl) rfl rfl rfl) rfl ⟨rfl,(o6.Y t1).step t3 (fun m hm=> .inr (by rw[y7]at hm;omega))⟩
 | true=>
  rw[Z4]at Wc;subst Wc;go_enter Tryz.func19,Tryz.ntmps19;go_wp2_with fail
  refine(HV.o _ o6).mono ?_
  rintro r w1 ⟨rfl,t1⟩;go_wp2_with fail
  refine(mP.o _ (o6.Y t1)).mono ?_
  rintro r w2 ⟨rfl,t2⟩;have b2:=(b1.z7 t1 (by simp)).z7 t2 (by simp);go_wp2_with (refine Am (ty:=29) (cs':=#[.slice none 0 0,.slice none 0 0,.slice none 0 0,.slice none 0 0]) (by kernel_rfl) rfl (by simp[Value.oneCell']) b2 ?_;intro w3 b3 t3);exact bodyPost_ret (P3 (d:=_) b3 rfl Tryz.underlying29 (by kernel_rfl) rfl rfl rfl) rfl ⟨rfl,((o6.Y t1).Y t2).step t3 (fun m hm=> .inr (by rw[y7]at hm;omega))⟩
theorem Rh (p:Px)(VD VP VL VC VS:Value)(l:List Int)(w:World)(h:K3 w VD VP VL VC p)(hl:P0 p)(hS:e8 w VS l)(T3:l.length≤100000)(hp:J5 p=true)(hs:Fa l=true)(Iz:W0 p l=false):Calls Tryz.prog 19 #[.agg #[VD,VP,VL,VC],VS] w fun r w'=>r= .returned (.tuple #[.agg #[Q3,Q3,Q3,Q3],.int .i64 9])∧z6 [] w w':=by
 have HV:=p7 (fun W t=>Di p VD VP VL VC W (h.q8 t) hl);have mP:=p7 (fun W t=>P6 VS l W (hS.q8 t) T3);have M8:=R5 hs;have nF:=Lj hp;have DA:=p7 (fun W t=>Li VS l W (hS.q8 t) M8);have HM:=p7 (fun W t=>Ih VD VP VL VC p.D W (h.d.q8 t) nF hl.d);have iG:=Ca M8;have FB:=Ca (l:=l5 p.D) (fun x hx=>by obtain⟨d,hd,rfl⟩:=F4.1 hx;exact nF d hd);have Zn:=O (fun(W:World)=>Ok (D9 l) (D9 (l5 p.D)) iG FB W);rw[kR M8 nF,Iz]at Zn;rw[hp]at HV;rw[hs]at mP;have Cr:=m8 iG;have I6:=V7 (D9 l);have Xv:=O iG;obtain⟨AD,cD,rfl,-,-⟩:=h.d.form;obtain⟨AP,cP,rfl⟩:=h.pr.form;obtain⟨AL,cL,rfl⟩:=h.ld.form;obtain⟨AC,cC,rfl⟩:=h.cp.form;obtain⟨AS,cS,rfl⟩:=hS.form;have o6:z6 [] w ((w.alloc (.cells #[.slice AD p.D.length cD,.slice AP p.R.P.length cP,.slice AL p.R.L.length cL,.slice AC p.R.C.length cC] 29)).alloc (.cells #[.slice none 0 0,.slice none 0 0,.slice none 0 0,.slice none 0 0] 29)):=((z8 [] w).alloc _).alloc _;have b0:=(j4.new w 29 #[.slice AD p.D.length cD,.slice AP p.R.P.length cP,.slice AL p.R.L.length cL,.slice AC p.R.C.length cC]).alloc (.cells #[.slice none 0 0,.slice none 0 0,.slice none 0 0,.slice none 0 0] 29);have b1:=j4.new (w.alloc (.cells #[.slice AD p.D.length cD,.slice AP p.R.P.length cP,.slice AL p.R.L.length cL,.slice AC p.R.C.length cC] 29)) 29 #[.slice none 0 0,.slice none 0 0,.slice none 0 0,.slice none 0 0];simp only[World.size_alloc]at b1;unfold T5 at DA HM Zn;clear h hl hS hp hs Iz M8 nF iG FB;generalize ((D9 (l5 p.D)).map y6).toArray=cs2 at*;obtain⟨cs,Gb⟩: ∃cs,cs=((D9 l).map y6).toArray:=⟨_,rfl⟩;rw[←Gb]at DA Zn Cr I6;clear Gb Xv;generalize p.D.length=nD at*;generalize p.R.P.length=nP at*;generalize p.R.L.length=nL at*;generalize p.R.C.length=nC at*;unfold Q3;go_enter Tryz.func19,Tryz.ntmps19;go_wp2_with fail
 refine(HV.o _ o6).mono ?_
 rintro r w1 ⟨rfl,t1⟩;go_wp2_with fail
 refine(mP.o _ (o6.Y t1)).mono ?_
 rintro r w2 ⟨rfl,t2⟩;go_wp2_with fail
 refine(DA.o _ ((o6.Y t1).Y t2)).mono ?_
 rintro r w3 ⟨rfl,t3⟩;have V3:=O (((o6.Y t1).Y t2).Y t3);have D_:=((b0.z7 t1 (by simp)).z7 t2 (by simp)).z7 t3 (by simp);have C_:=((b1.z7 t1 (by simp)).z7 t2 (by simp)).z7 t3 (by simp);clear t1 t2 t3 b0 b1 o6;go_wp2_with (refine D0 (j4.new _ _ _) rfl Cr I6 ?_;intro w4 b4 t4);have bJ:=O D_.lt;have b04:=(D_.alloc (.cells ((l8.map y6).toArray) 69)).z7 t4 (by have:=bJ.o;simp;omega);have Il:=O ((V3.o.alloc (.cells ((l8.map y6).toArray) 69)).step t4 (fun m hm=> .inr (by rw[y7]at hm;have:=V3.o.size;omega)));have b14:=(C_.alloc (.cells ((l8.map y6).toArray) 69)).z7 t4 (by have:=C_.lt;simp;omega);obtain⟨x0,x1,x2,x3,x4,x5,x6,x7,rfl⟩:=qd4 Cr;clear D_ C_ t4 Cr I6 DA HV mP;obtain⟨g6,r_⟩: ∃g6,g6=w3.heap.size:=⟨_,rfl⟩;rw[←r_]at b4⊢;have HG6:=O r_;clear r_;have HK:Hid (∀W',z6 [] w4 W'→(W'.cell? ⟨w.heap.size,0,none⟩=some (.slice AD nD cD)∧W'.cell? ⟨w.heap.size,1,none⟩=some (.slice AP nP cP)∧W'.cell? ⟨w.heap.size,2,none⟩=some (.slice AL nL cL)∧W'.cell? ⟨w.heap.size,3,none⟩=some (.slice AC nC cC))∧W'.cell? ⟨g6,0,none⟩=some x0∧W'.cell? ⟨g6,1,none⟩=some x1∧W'.cell? ⟨g6,2,none⟩=some x2∧W'.cell? ⟨g6,3,none⟩=some x3∧W'.cell? ⟨g6,4,none⟩=some x4∧W'.cell? ⟨g6,5,none⟩=some x5∧W'.cell? ⟨g6,6,none⟩=some x6∧W'.cell? ⟨g6,7,none⟩=some x7):=O (fun W' t=>⟨(b04.z7 t (by simp)).F2,(b4.z7 t (by simp)).qd5⟩);have GM:=O b14;clear b04 b4 b14;have hQ:=z8 [] w4
 go_region_held3 (fun W'=>(W'.cell? ⟨w.heap.size,0,none⟩=some (.slice AD nD cD)∧W'.cell? ⟨w.heap.size,1,none⟩=some (.slice AP nP cP)∧W'.cell? ⟨w.heap.size,2,none⟩=some (.slice AL nL cL)∧W'.cell? ⟨w.heap.size,3,none⟩=some (.slice AC nC cC))∧W'.cell? ⟨g6,0,none⟩=some x0∧W'.cell? ⟨g6,1,none⟩=some x1∧W'.cell? ⟨g6,2,none⟩=some x2∧W'.cell? ⟨g6,3,none⟩=some x3∧W'.cell? ⟨g6,4,none⟩=some x4∧W'.cell? ⟨g6,5,none⟩=some x5∧W'.cell? ⟨g6,6,none⟩=some x6∧W'.cell? ⟨g6,7,none⟩=some x7) (first | exact HK.o _ hQ | exact HK.o _ hQ.drew) (first
  | (go_at_call 43;with_reducible refine(HM.o _ (Il.o.Y hQ.drew)).mono ?_;rintro r w5 ⟨rfl,DM⟩;(try dsimp only);replace hQ:=hQ.drew.Y DM;clear DM)
  | (go_at_call 23;with_reducible refine(Zn.o _).mono ?_;rintro r w6 ⟨rfl,vq⟩;(try dsimp only);replace hQ:=hQ.Y vq;clear vq))
 have Zy:=O (Il.o.Y hQ);have b15:=GM.o.z7 hQ (by simp);clear HK hQ;go_wp2_with (refine Am (ty:=29) (cs':=#[.slice none 0 0,.slice none 0 0,.slice none 0 0,.slice none 0 0]) (by kernel_rfl) rfl (by simp[Value.oneCell']) b15 ?_;intro w7 b7 t7);exact bodyPost_ret (P3 b7 rfl Tryz.underlying29 (by kernel_rfl) rfl rfl rfl) rfl ⟨rfl,Zy.o.step t7 (fun m hm=> .inr (by rw[y7]at hm;omega))⟩
def Ed (w:World)(v:Value)(l:List Int):Prop:=e8 w v l∧ ∀b∈rb v,Kd w b 3
theorem Ed.z7 {L:List Nat}(h:Ed W v l)(ht:z6 L W W')(hk: ∀b∈L,∃t,Kd W b t∧t≠3):Ed W' v l:=by
 have hn: ∀b∈rb v,b∉L:=fun b hb hm=>by
  obtain⟨t,k,ne⟩:=hk b hm;exact Kd.ne k (h.2 b hb) ne rfl
 exact⟨h.1.z7 ht hn,fun b hb=>(h.2 b hb).z7 ht (hn b hb)⟩
theorem Ed.q8 (h:Ed W v l)(ht:z6 [] W W'):Ed W' v l:=h.z7 ht (fun b hb=>by cases hb)
theorem Sl: ∀(l:List Int),∀u∈l.flatMap Ao,u.oneCell'=true:=fun l u hu=>by
 obtain⟨x,-,hx⟩:=List.mem_flatMap.1 hu;simp[Ao,I]at hx;subst hx;rfl
def BW (l:List Int)(w:World)(r:Ending)(w':World):Prop:= ∃v',r= .returned v'∧Ed w' v' l∧z6 [] w w'
theorem xn (v:Value)(l:List Int)(w:World)(hv:e8 w v l)(hl:l.length≤100000):Calls Tryz.prog 45 #[v] w (BW l w):=by
 obtain⟨A,cap,rfl⟩:=hv.form
 cases A with
 | none=>
  have Hk:l= []:=by
   cases l with
   | nil=>rfl
   | cons a t=>
    obtain⟨b,off,e,-⟩:=hv.addr (k:=0) (by simp);cases e
  subst Hk;have t_: ∀W,(binOp .eql 30 (.slice none 0 cap) (.slice none 0 0)).run Tryz.prog W= .ok (.bool true) W:=fun W=>run_eql_nil_slice W _ _ _ _ _ _ _ Tryz.underlying30;go_enter Tryz.func45,Tryz.ntmps45;go_wp2_with fail;go_ret;exact⟨_,rfl,⟨⟨Reads.nil _ _,by simp⟩,fun b hb=>by cases hb⟩,z8 _ _⟩
 | some a=>
  have hE:=Jz;have qb1:Own (w.alloc (.cells #[] 3)) 3 1 (.slice (some ⟨w.heap.size,0,none⟩) 0 0) 0 []:=⟨rfl,.inr ⟨w.heap.size,0,#[],rfl,O2 _,heap_alloc_new w _,a9 _,O2 _,rfl,rfl⟩⟩;have hr:Reads (w.alloc (.cells #[] 3)) 1 (.slice (some a) l.length cap) l.length (l.flatMap Ao):=(hv.q8 ((z8 [] w).alloc _)).1;have Rw:=O hv.2
  have t_: ∀W,(binOp .eql 30 (.slice (some a) l.length cap) (.slice none 0 0)).run Tryz.prog W= .ok (.bool false) W:=fun W=>by
   have:=run_equal_slice_nil (P:=Tryz.prog) 30 3 (some a) l.length cap Tryz.underlying30 (w:=W);simp[binOp,this,Result.andThen]
  go_enter Tryz.func45,Tryz.ntmps45;go_wp2_with (refine mH hE qb1 hr (Sl l) (by omega) (by unfold maxLen;omega) ?_;intro v' w' ho ht hf);simp only[O3,Qy]at ho;go_ret;refine⟨_,rfl,⟨⟨ho.reads,Rw.o⟩,fun b hb=>ho.kd b (Gp _ b hb)⟩,(((z8 [] w).alloc _).step ht (fun m hm=> .inr ?_))⟩;simp[m5]at hm;omega
def L4 (w:World)(v:Value)(ds:List Dx):Prop:= ∃K1:List Value,K1.length=ds.length∧Own w 75 2 v ds.length ((ds.zip K1).flatMap Gi)∧ ∀(j:Nat) d c,ds[j]? =some d→K1[j]? =some c→Fits d.st∧Ed w c d.ch
theorem L4.Ms (h:L4 w v ds):C0 w v ds:=by
 obtain⟨K1,h1,h2,h3⟩:=h;exact⟨K1,h1,h2.reads,fun j d c hd hc=>⟨(h3 j d c hd hc).1,(h3 j d c hd hc).2.1⟩⟩
theorem L4.nil (w:World):L4 w Q3 []:=⟨[],rfl,Own.nil _ _ _,fun j d c h=>by simp at h⟩
theorem L4.form (h:L4 w v ds): ∃A cap,v= .slice A ds.length cap:=by
 obtain⟨A,cap,e,-⟩:=h.Ms.form;exact⟨A,cap,e⟩
theorem L4.z7 {L:List Nat}(h:L4 w v ds)(t:z6 L w w')(hk: ∀b∈L,∃k,Kd w b k∧k≠3∧k≠75):L4 w' v ds:=by
 obtain⟨K1,h1,h2,h3⟩:=h;exact⟨K1,h1,h2.v7 t (fun b hb=>by obtain⟨k,q1,q2,q3⟩:=hk b hb;exact⟨k,q1,q3⟩),fun j d c hd hc=>⟨(h3 j d c hd hc).1,(h3 j d c hd hc).2.z7 t (fun b hb=>by obtain⟨k,q1,q2,q3⟩:=hk b hb;exact⟨k,q1,q2⟩)⟩⟩
theorem tJ {β:Type}{xs:List α}{ys:List β}(h:ys.length=xs.length)(a:α)(b:β):(xs++ [a]).zip (ys++ [b])=xs.zip ys++ [(a,b)]:=by
 rw[List.zip_append h.symm];rfl
theorem L4.push {v':Value}{d:Dx}(h1:K1.length=ds.length)(hk: ∀b∈m5 v,Kd w b 75)(h3: ∀(j:Nat) d c,ds[j]? =some d→K1[j]? =some c→Fits d.st∧Ed w c d.ch)(hf:Fits d.st)(hc:Ed w c d.ch)(t:z6 (m5 v) w w')(ho:Own w' 75 2 v' (ds.length+1) ((ds.zip K1).flatMap Gi++Gi (d,c))):L4 w' v' (ds++ [d]):=by
 have hk: ∀b∈m5 v,∃k,Kd w b k∧k≠3:=fun b hb=>⟨_,hk b hb,by decide⟩;refine⟨K1++ [c],by simp[h1],?_,fun j d' c' hd gR=> ?_⟩
 ·rw[tJ h1,Tz,Ec];simpa using ho
 ·by_cases hj:j<ds.length
  ·rw[Ty hj]at hd;rw[Ty (by omega)]at gR;exact⟨(h3 j d' c' hd gR).1,(h3 j d' c' hd gR).2.z7 t hk⟩
  ·have qL:j=ds.length:=by
    have:=(U4.1 hd).1;simp at this;omega
   subst qL;rw[kI]at hd;rw[←h1,kI]at gR;injection hd with hd;injection gR with gR;subst hd gR;exact⟨hf,hc.z7 t hk⟩
structure La (w:World)(g g6 g8:Nat)(cin Io:Array Value)(wr:World)(vD vP vL vC:Value)(ds:List Dx)(ps ls:List Q5)(cs:List Q4):Prop where
 lo:w.heap.size≤g8
 Fb:z6 [] w wr
 Sq:j4 wr g 29 cin
 n9:j4 wr (g+1) 29 #[Q3,Q3,Q3,Q3]
 ne:g≠g8∧g+1≠g8
 set:j4 wr g6 69 Io
 q:j4 wr g8 29 #[vD,vP,vL,vC]
 d:L4 wr vD ds
 pr:Own wr 79 5 vP ps.length (ps.flatMap Q5.cells)
 ld:Own wr 81 5 vL ls.length (ls.flatMap Q5.cells)
 cp:Own wr 83 4 vC cs.length (cs.flatMap Q4.cells)
 fd: ∀b∈m5 vD,w.heap.size≤b
 fp: ∀b∈m5 vP,w.heap.size≤b
 fl: ∀b∈m5 vL,w.heap.size≤b
 fc: ∀b∈m5 vC,w.heap.size≤b
section
variable {w wr w':World}{g g6 g8:Nat}{cin Io:Array Value}{vD vP vL vC v':Value}{ds:List Dx}{ps ls:List Q5}{cs:List Q4}{L:List Nat}
theorem La.q8 (h:La w g g6 g8 cin Io wr vD vP vL vC ds ps ls cs)(t:z6 [] wr w'):La w g g6 g8 cin Io w' vD vP vL vC ds ps ls cs:=
 ⟨h.lo,h.Fb.Y t,h.Sq.z7 t (by simp),h.n9.z7 t (by simp),h.ne,h.set.z7 t (by simp),h.q.z7 t (by simp),h.d.z7 t (fun b hb=>by cases hb),h.pr.q8 t,h.ld.q8 t,h.cp.q8 t,h.fd,h.fp,h.fl,h.fc⟩
theorem j4.v7 {cs:Array Value}{L:List Nat}(h:j4 W g t cs)(ht:z6 L W W')(hk: ∀b∈L,∃k,Kd W b k∧k≠t):j4 W' g t cs:=h.z7 ht (fun hm=>by
 obtain⟨k,q1,q2⟩:=hk _ hm
 exact Kd.ne q1 h.kd q2 rfl)
theorem La.GS (h:La w g g6 g8 cin Io wr vD vP vL vC ds ps ls cs)(x:Q5)(ho:Own w' 79 5 v' (ps.length+1) (ps.flatMap Q5.cells++Q5.cells x))(t:z6 (m5 vP) wr w')(f:S2 wr vP v'):La w g g6 g8 cin Io (w'.setCell ⟨g8,1,none⟩ v') vD v' vL vC ds (ps++ [x]) ls cs:=by
 have hk: ∀b∈m5 vP,Kd wr b 79:=h.pr.kd;have q':=h.q.v7 t (fun b hb=>⟨_,hk b hb,by decide⟩);have t2:z6 [g8] w' (w'.setCell ⟨g8,1,none⟩ v'):=(z8 _ _).setCell (.inl (by simp)) _;have V9: ∀b∈ [g8],Kd w' b 29:=fun b hb=>by rw[y7]at hb;subst hb;exact q'.kd
 refine⟨h.lo,(h.Fb.step t (fun m hm=> .inr (h.fp m hm))).step t2 (fun m hm=> .inr (by rw[y7]at hm;rw[hm];exact h.lo)),(h.Sq.v7 t (fun b hb=>⟨_,hk b hb,by decide⟩)).z7 t2 (by simpa using h.ne.1),(h.n9.v7 t (fun b hb=>⟨_,hk b hb,by decide⟩)).z7 t2 (by simpa using h.ne.2),h.ne,(h.set.v7 t (fun b hb=>⟨_,hk b hb,by decide⟩)).v7 t2 (fun b hb=>⟨_,V9 b hb,by decide⟩),?_,?_,?_,?_,?_,h.fd,fun b hb=> ?_,h.fl,h.fc⟩
 ·exact q'.V8 1 v'
 ·exact(h.d.z7 t (fun b hb=>⟨_,hk b hb,by decide,by decide⟩)).z7 t2 (fun b hb=>⟨_,V9 b hb,by decide,by decide⟩)
 ·rw[Ec,Tz];have:=ho.v7 t2 (fun b hb=>⟨_,V9 b hb,by decide⟩);simpa using this
 ·exact(h.ld.v7 t (fun b hb=>⟨_,hk b hb,by decide⟩)).v7 t2 (fun b hb=>⟨_,V9 b hb,by decide⟩)
 ·exact(h.cp.v7 t (fun b hb=>⟨_,hk b hb,by decide⟩)).v7 t2 (fun b hb=>⟨_,V9 b hb,by decide⟩)
 ·rcases f b hb with h1 | h1
  ·exact h.fp b h1
  ·have:=h.Fb.size;omega
theorem La.GU (h:La w g g6 g8 cin Io wr vD vP vL vC ds ps ls cs)(x:Q5)(ho:Own w' 81 5 v' (ls.length+1) (ls.flatMap Q5.cells++Q5.cells x))(t:z6 (m5 vL) wr w')(f:S2 wr vL v'):La w g g6 g8 cin Io (w'.setCell ⟨g8,2,none⟩ v') vD vP v' vC ds ps (ls++ [x]) cs:=by
 have hk: ∀b∈m5 vL,Kd wr b 81:=h.ld.kd;have q':=h.q.v7 t (fun b hb=>⟨_,hk b hb,by decide⟩);have t2:z6 [g8] w' (w'.setCell ⟨g8,2,none⟩ v'):=(z8 _ _).setCell (.inl (by simp)) _;have V9: ∀b∈ [g8],Kd w' b 29:=fun b hb=>by rw[y7]at hb;subst hb;exact q'.kd
 refine⟨h.lo,(h.Fb.step t (fun m hm=> .inr (h.fl m hm))).step t2 (fun m hm=> .inr (by rw[y7]at hm;rw[hm];exact h.lo)),(h.Sq.v7 t (fun b hb=>⟨_,hk b hb,by decide⟩)).z7 t2 (by simpa using h.ne.1),(h.n9.v7 t (fun b hb=>⟨_,hk b hb,by decide⟩)).z7 t2 (by simpa using h.ne.2),h.ne,(h.set.v7 t (fun b hb=>⟨_,hk b hb,by decide⟩)).v7 t2 (fun b hb=>⟨_,V9 b hb,by decide⟩),?_,?_,?_,?_,?_,h.fd,h.fp,fun b hb=> ?_,h.fc⟩
 ·exact q'.V8 2 v'
 ·exact(h.d.z7 t (fun b hb=>⟨_,hk b hb,by decide,by decide⟩)).z7 t2 (fun b hb=>⟨_,V9 b hb,by decide,by decide⟩)
 ·exact(h.pr.v7 t (fun b hb=>⟨_,hk b hb,by decide⟩)).v7 t2 (fun b hb=>⟨_,V9 b hb,by decide⟩)
 ·rw[Ec,Tz];have:=ho.v7 t2 (fun b hb=>⟨_,V9 b hb,by decide⟩);simpa using this
 ·exact(h.cp.v7 t (fun b hb=>⟨_,hk b hb,by decide⟩)).v7 t2 (fun b hb=>⟨_,V9 b hb,by decide⟩)
 ·rcases f b hb with h1 | h1
  ·exact h.fl b h1
  ·have:=h.Fb.size;omega
theorem La.GW (h:La w g g6 g8 cin Io wr vD vP vL vC ds ps ls cs)(x:Q4)(ho:Own w' 83 4 v' (cs.length+1) (cs.flatMap Q4.cells++Q4.cells x))(t:z6 (m5 vC) wr w')(f:S2 wr vC v'):La w g g6 g8 cin Io (w'.setCell ⟨g8,3,none⟩ v') vD vP vL v' ds ps ls (cs++ [x]):=by
 have hk: ∀b∈m5 vC,Kd wr b 83:=h.cp.kd;have q':=h.q.v7 t (fun b hb=>⟨_,hk b hb,by decide⟩);have t2:z6 [g8] w' (w'.setCell ⟨g8,3,none⟩ v'):=(z8 _ _).setCell (.inl (by simp)) _;have V9: ∀b∈ [g8],Kd w' b 29:=fun b hb=>by rw[y7]at hb;subst hb;exact q'.kd
 refine⟨h.lo,(h.Fb.step t (fun m hm=> .inr (h.fc m hm))).step t2 (fun m hm=> .inr (by rw[y7]at hm;rw[hm];exact h.lo)),(h.Sq.v7 t (fun b hb=>⟨_,hk b hb,by decide⟩)).z7 t2 (by simpa using h.ne.1),(h.n9.v7 t (fun b hb=>⟨_,hk b hb,by decide⟩)).z7 t2 (by simpa using h.ne.2),h.ne,(h.set.v7 t (fun b hb=>⟨_,hk b hb,by decide⟩)).v7 t2 (fun b hb=>⟨_,V9 b hb,by decide⟩),?_,?_,?_,?_,?_,h.fd,h.fp,h.fl,fun b hb=> ?_⟩
 ·exact q'.V8 3 v'
 ·exact(h.d.z7 t (fun b hb=>⟨_,hk b hb,by decide,by decide⟩)).z7 t2 (fun b hb=>⟨_,V9 b hb,by decide,by decide⟩)
 ·exact(h.pr.v7 t (fun b hb=>⟨_,hk b hb,by decide⟩)).v7 t2 (fun b hb=>⟨_,V9 b hb,by decide⟩)
 ·exact(h.ld.v7 t (fun b hb=>⟨_,hk b hb,by decide⟩)).v7 t2 (fun b hb=>⟨_,V9 b hb,by decide⟩)
 ·rw[Ec,Tz];have:=ho.v7 t2 (fun b hb=>⟨_,V9 b hb,by decide⟩);simpa using this
 ·rcases f b hb with h1 | h1
  ·exact h.fc b h1
  ·have:=h.Fb.size;omega
theorem La.GV (h:La w g g6 g8 cin Io wr vD vP vL vC ds ps ls cs){d:Dx}(h1:K1.length=ds.length)(hk: ∀b∈m5 vD,Kd wr b 75)(h3: ∀(j:Nat) d c,ds[j]? =some d→K1[j]? =some c→Fits d.st∧Ed wr c d.ch)(I7:Fits d.st)(hc:Ed wr c d.ch)(t:z6 (m5 vD) wr w')(f:S2 wr vD v')(ho:Own w' 75 2 v' (ds.length+1) ((ds.zip K1).flatMap Gi++Gi (d,c))):
  La w g g6 g8 cin Io (w'.setCell ⟨g8,0,none⟩ v') v' vP vL vC (ds++ [d]) ps ls cs:=by
 have q':=h.q.v7 t (fun b hb=>⟨_,hk b hb,by decide⟩);have t2:z6 [g8] w' (w'.setCell ⟨g8,0,none⟩ v'):=(z8 _ _).setCell (.inl (by simp)) _;have V9: ∀b∈ [g8],Kd w' b 29:=fun b hb=>by rw[y7]at hb;subst hb;exact q'.kd
 refine⟨h.lo,(h.Fb.step t (fun m hm=> .inr (h.fd m hm))).step t2 (fun m hm=> .inr (by rw[y7]at hm;rw[hm];exact h.lo)),(h.Sq.v7 t (fun b hb=>⟨_,hk b hb,by decide⟩)).z7 t2 (by simpa using h.ne.1),(h.n9.v7 t (fun b hb=>⟨_,hk b hb,by decide⟩)).z7 t2 (by simpa using h.ne.2),h.ne,(h.set.v7 t (fun b hb=>⟨_,hk b hb,by decide⟩)).v7 t2 (fun b hb=>⟨_,V9 b hb,by decide⟩),?_,?_,?_,?_,?_,fun b hb=> ?_,h.fp,h.fl,h.fc⟩
 ·exact q'.V8 0 v'
 ·exact(L4.push h1 hk h3 I7 hc t ho).z7 t2 (fun b hb=>⟨_,V9 b hb,by decide,by decide⟩)
 ·exact(h.pr.v7 t (fun b hb=>⟨_,hk b hb,by decide⟩)).v7 t2 (fun b hb=>⟨_,V9 b hb,by decide⟩)
 ·exact(h.ld.v7 t (fun b hb=>⟨_,hk b hb,by decide⟩)).v7 t2 (fun b hb=>⟨_,V9 b hb,by decide⟩)
 ·exact(h.cp.v7 t (fun b hb=>⟨_,hk b hb,by decide⟩)).v7 t2 (fun b hb=>⟨_,V9 b hb,by decide⟩)
 ·rcases f b hb with h1 | h1
  ·exact h.fd b h1
  ·have:=h.Fb.size;omega
theorem La.qa9 {VD VP VL VC:Value}{r:Nat}(h:La w g g6 g8 cin Io wr vD vP vL vC (p.D.filter (fun d=>l.contains d.st)) (p.R.P.filter (fun x=>l.contains x.a&&l.contains x.b)) (p.R.L.filter (fun x=>l.contains x.a&&l.contains x.b)) (p.R.C.filter (fun x=>l.contains x.a)))(hp:K3 w VD VP VL VC p)(hr:Kd w' r 29)(t:z6 [r] wr w')(Na:Kd wr r 29):K3 w' vD vP vL vC (c_ p l):=by
 have hk: ∀b∈ [r],Kd wr b 29:=fun b hb=>by rw[y7]at hb;subst hb;exact Na
 exact⟨(h.d.z7 t (fun b hb=>⟨_,hk b hb,by decide,by decide⟩)).Ms,⟨(h.pr.v7 t (fun b hb=>⟨_,hk b hb,by decide⟩)).reads,fun x hx=>hp.pr.2 x (G4.1 hx).1⟩,⟨(h.ld.v7 t (fun b hb=>⟨_,hk b hb,by decide⟩)).reads,fun x hx=>hp.ld.2 x (G4.1 hx).1⟩,⟨(h.cp.v7 t (fun b hb=>⟨_,hk b hb,by decide⟩)).reads,fun x hx=>hp.cp.2 x (G4.1 hx).1⟩⟩
end
variable {P:Program}{md:Region.Mode}{ops:Array Oper}{Q:Exit→Act→World→Prop}{S:World→Prop}{z:Nat}
def K6 (P:Program)(md:Region.Mode)(ops:Array Oper)(Q:Exit→Act→World→Prop)(S:World→Prop)(z:Nat):Nat→Array Bool→Act→World→Prop
 | 0,L,a,w=>Region.ready md ops L= []∧Q .normal a w
 | n+1,L,a,w=>(Region.ready md ops L= []→Q .normal a w)∧ ∀i∈Region.ready md ops L,wpOp P ops Q i (fun a' w'=>(i≠z→S w')∧K6 P md ops Q S z n (L.setIfInBounds i true) a' w') a w
theorem K6.any: ∀(n:Nat) (L:Array Bool) (a:Act) (w:World),K6 P md ops Q S z n L a w→wpAny P md ops Q n L a w
 | 0,_,_,_,h=>h
 | n+1,_,_,_,h=>⟨h.1,fun i hi=>wpOp_mono (fun a' w' h'=>K6.any n _ a' w' h'.2) (h.2 i hi)⟩
theorem Cm {j:Nat}{oj:Oper}(hj:ops[j]? =some oj)(hw:oj.after.any (fun e=>Region.binds md e&&e.on==i)=true)(hi:i∈Region.ready md ops L)(hr:j∈Region.ready md ops L):False:=by
 obtain⟨-,o,ho,M9⟩:=mem_ready.1 hr;rw[hj]at ho;injection ho with ho;subst ho;obtain⟨e,he,hb⟩:=Array.any_eq_true'.1 hw;rw[p9,beq_iff_eq]at hb;have h1:=M9 e he hb.1;rw[hb.2]at h1;have h0:=(mem_ready.1 hi).1;rcases Oh i L.size with h' | h'
 ·simp[h']at h0 h1;rw[h0]at h1;cases h1
 ·simp[FU h']at h1
theorem K6.first (hi:ops[i]? =some oi)(hz:ops[z]? =some oz)(DK:oz.after.any (fun e=>Region.binds md e&&e.on==i)=true)(CJ:i≠z)(iH: ∀(j:Nat) (o:Oper) cs b,ops[j]? =some o→o.op≠ .select cs b)
  (hQ: ∀c a w,Q (.panic c) (a.put oi.dst v) w→Q (.panic c) a w): ∀(n:Nat) (L:Array Bool) (a:Act) (w:World),
   (∀j oj,ops[j]? =some oj→j≠i→L.getD j true=false→(∀e∈oj.after,Region.binds md e=true→e.on≠i)→oi.apart ops oj=true)→
   i∈Region.ready md ops L→YieldsIf P ops S oi v a→S w→K6 P md ops Q S z n (L.setIfInBounds i true) (a.put oi.dst v) w→K6 P md ops Q S z (n+1) L a w
 | 0,L,a,w,_,hr,hy,hS,H=>by
  refine⟨fun h=>(by rw[h]at hr;cases hr),fun j hj=> ?_⟩;by_cases bF:j=i
  ·subst bF;exact hy.wpOp hi hS ⟨fun _=>hS,H⟩
  ·have h1:=ready_mono hj bF;rw[H.1]at h1;cases h1
 | n+1,L,a,w,sM,hr,hy,hS,H=>by
  refine⟨fun h=>(by rw[h]at hr;cases hr),fun j hj=> ?_⟩;by_cases bF:j=i
  ·subst bF;exact hy.wpOp hi hS ⟨fun _=>hS,H⟩
  ·have o_:j≠z:=fun e=>by
    subst e;exact Cm hz DK hr hj
   obtain⟨OD,oj,td,-⟩:=mem_ready.1 hj
   have Iz: ∀e∈oj.after,Region.binds md e=true→e.on≠i:=fun e he hb t_=>
    Cm (oj:=oj) td (Array.any_eq_true'.2 ⟨e,he,by rw[hb,t_];simp⟩) hr hj
   have h2:=wpOp_putIf td (sM j oj td bF OD Iz) (fun cs b=>iH i oi cs b hi) (fun cs b=>iH j oj cs b td) hQ hy (H.2 j (ready_mono hj bF));refine wpOp_mono (fun a' w' h3=>⟨fun _=>h3.2.1 o_,K6.first hi hz DK CJ iH hQ n (L.setIfInBounds j true) a' w' (fun k ok hk hki qb6 qc0=> ?_) (ready_mono hr (W5 bF)) h3.1 (h3.2.1 o_) ?_⟩) h2
   ·refine sM k ok hk hki ?_ qc0;by_cases WM:j=k
    ·subst WM;exact OD
    ·rwa [getD_set_ne true WM]at qb6
   ·rw[Array.setIfInBounds_comm _ _ bF];exact h3.2.2
theorem K6.take (hi:ops[i]? =some oi)(hz:ops[z]? =some oz)(DK:oz.after.any (fun e=>Region.binds md e&&e.on==i)=true)(CJ:(i==z)=false)
  (hs:Region.noSelect ops=true) (hf:Region.free md ops L i=true) (hr:(Region.ready md ops L).contains i=true) (hQ: ∀c a w,Q (.panic c) (a.put oi.dst v) w→Q (.panic c) a w) (hy:YieldsIf P ops S oi v a) (hS:S w)
  (h:K6 P md ops Q S z n (L.setIfInBounds i true) (a.put oi.dst v) w):K6 P md ops Q S z (n+1) L a w:=
 K6.first hi hz DK (by simpa using CJ) (Region.noSelect_spec hs) hQ n L a w (Region.free_spec hi hf) (by simpa using hr) hy hS h
theorem K6.one (hr:Region.ready md ops L= [i])(hi:ops[i]? =some o)(CJ:(i==z)=false)
  (h: ∀K:Act→World→Prop,Shut (∀a w,S w→K6 P md ops Q S z n (L.setIfInBounds i true) a w→K a w)→if Region.wanted o (yielded ops a.tmps)=true then Oper.wp P o a w K Q else K (a.put o.dst undef) w):K6 P md ops Q S z (n+1) L a w:=by
 refine⟨fun h0=>(by rw[hr]at h0;cases h0),fun j hj=> ?_⟩;rw[hr]at hj;obtain rfl:j=i:=by simpa using hj
 exact wpOp_step hi (fun K' hK=>h K' (fun a w hS hW=>hK a w ⟨fun _=>hS,hW⟩))
theorem K6.last (hr:Region.ready md ops L= [z])(hi:ops[z]? =some o)(hd:Region.ready md ops (L.setIfInBounds z true)= [])
  (h: ∀K:Act→World→Prop,Shut (∀a w,Q .normal a w→K a w)→if Region.wanted o (yielded ops a.tmps)=true then Oper.wp P o a w K Q else K (a.put o.dst undef) w):K6 P md ops Q S z (n+1) L a w:=by
 refine⟨fun h0=>(by rw[hr]at h0;cases h0),fun j hj=> ?_⟩;rw[hr]at hj;obtain rfl:j=z:=by simpa using hj
 refine wpOp_step hi (fun K' hK=>h K' (fun a w hq=>hK a w ⟨fun h=>absurd rfl h,?_⟩))
 cases n with
 | zero=>exact⟨hd,hq⟩
 | succ n=>exact⟨fun _=>hq,fun i hi=>by rw[hd]at hi;cases hi⟩
theorem tk (i:Nat){a':Act}(hS:S w)(h:K6 P md ops Q S z n (L.setIfInBounds i true) a' w)
  (hi:ops[i]? =some oi:=by rfl) (hz:ops[z]? =some oz:=by rfl) (DK:oz.after.any (fun e=>Region.binds md e&&e.on==i)=true:=by kernel_rfl) (CJ:(i==z)=false:=by kernel_rfl)
  (hs:Region.noSelect ops=true:=by kernel_rfl) (hf:Region.free md ops L i=true:=by kernel_rfl) (hr:(Region.ready md ops L).contains i=true:=by kernel_rfl)
  (hw:Region.wanted oi (yielded ops a.tmps)=true:=by rfl) (hy: ∀W,S W→(execOp a.eval oi).run P W= .ok (.value v) W:=by(intro W m7;go_simp<;>rfl))
  (hQ: ∀c a w,Q (.panic c) (a.put oi.dst v) w→Q (.panic c) a w:=by exact fun _ _ _ h=>h) (hn:a.put oi.dst v=a':=by(try simp only[nz]);rfl):K6 P md ops Q S z (n+1) L a w:=
 K6.take hi hz DK CJ hs hf hr hQ (Or.inl ⟨hw,hy⟩) hS (by rw[hn];exact h)
theorem tn (i:Nat)
  (h: ∀K:Act→World→Prop,Shut (∀a w,S w→K6 P md ops Q S z n (L.setIfInBounds i true) a w→K a w)→if Region.wanted o (yielded ops a.tmps)=true then Oper.wp P o a w K Q else K (a.put o.dst undef) w)
  (hr:Region.ready md ops L= [i]:=by kernel_rfl) (hi:ops[i]? =some o:=by rfl) (CJ:(i==z)=false:=by kernel_rfl):K6 P md ops Q S z (n+1) L a w:=K6.one hr hi CJ h
theorem tl 
  (h: ∀K:Act→World→Prop,Shut (∀a w,Q .normal a w→K a w)→if Region.wanted o (yielded ops a.tmps)=true then Oper.wp P o a w K Q else K (a.put o.dst undef) w)
  (hr:Region.ready md ops L= [z]:=by kernel_rfl) (hi:ops[z]? =some o:=by rfl) (hd:Region.ready md ops (L.setIfInBounds z true)= []:=by kernel_rfl):K6 P md ops Q S z (n+1) L a w:=K6.last hr hi hd h
theorem n6 {id:Nat}(S:World→Prop)(z:Nat)(hm:P.follows .mixedOrders=true)
  (h:K6 P .any ops Q S z ops.size (Array.replicate ops.size false) a w.drew):(Code.region id ops true).wp P Q a w:=
 wp_region_any hm (K6.any _ _ _ _ h)
theorem Ch:Gf Tryz.prog 22 75 2 32:=Gf.mk Tryz.underlying22 (z:= .agg #[.int .i64 0,.slice none 0 0]) (by kernel_rfl) rfl (by decide)
theorem Qg:Gf Tryz.prog 23 79 5 40:=Gf.mk Tryz.underlying23 (z:= .agg #[.int .i64 0,.int .i64 0,.int .i64 0,.int .i64 0,.int .i64 0]) (by kernel_rfl) rfl (by decide)
theorem Qh:Gf Tryz.prog 24 81 5 40:=Gf.mk Tryz.underlying24 (z:= .agg #[.int .i64 0,.int .i64 0,.int .i64 0,.int .i64 0,.int .i64 0]) (by kernel_rfl) rfl (by decide)
theorem eO:Gf Tryz.prog 25 83 4 32:=Gf.mk Tryz.underlying25 (z:= .agg #[.int .i64 0,.int .i64 0,.int .i64 0,.int .i64 0]) (by kernel_rfl) rfl (by decide)
theorem Qb:(Tryz.prog.info? 29).map (·.size)=some 4:=by kernel_rfl
theorem yw {rest:List Oper}(hb:j4 w g 29 #[a0,a1,a2,a3])
  (h:wpList Tryz.prog ops Q rest (a.put o.dst (.agg #[a0,a1,a2,a3])) w) (Cn:o.guard=none:=by rfl) (ho:o.op= .load 29 x:=by rfl) (hx:a.eval x= .pointer (some ⟨g,0,none⟩):=by rfl):wpList Tryz.prog ops Q (o::rest) a w:=
 wpList_load_row Cn 29 x ho g hx 29 #[a0,a1,a2,a3] (0,0) _ hb Tryz.underlying29 rfl Qb h
theorem jr {rest:List Oper}{b0 b1 b2 b3:Value}(hb:j4 w g 29 #[a0,a1,a2,a3])(h1:(#[b0,b1,b2,b3]:Array Value).all (·.oneCell')=true)
  (h: ∀w',j4 w' g 29 #[b0,b1,b2,b3]→z6 [g] w w'→wpList Tryz.prog ops Q rest (a.put o.dst undef) w') (Cn:o.guard=none:=by rfl) (ho:o.op= .store 29 x y:=by rfl) (hx:a.eval x= .pointer (some ⟨g,0,none⟩):=by rfl) (hy:a.eval y= .agg #[b0,b1,b2,b3]:=by rfl):wpList Tryz.prog ops Q (o::rest) a w:=
 Am (cs:=#[a0,a1,a2,a3]) (cs':=#[b0,b1,b2,b3]) (ty:=29) Qb rfl h1 hb h Cn ho hx hy
theorem Ic (n:Nat): ∀b∈m5 Q3,n≤b:=fun b hb=>by cases hb
def qH (q:Px)(w:World)(r:Ending)(w':World):Prop:= ∃vD vP vL vC,r= .returned (.tuple #[.agg #[vD,vP,vL,vC],.int .i64 0])∧K3 w' vD vP vL vC q∧z6 [] w w'
def jb (w:World)(g g6 g8:Nat)(cin Io:Array Value)(len:Nat)(F:Nat→List Dx×List Q5×List Q5×List Q4)(ti:Value)(wr:World):Prop:= ∃(k:Nat) (vD vP vL vC:Value),k≤len∧ti= .int .i64 (k:Int)∧La w g g6 g8 cin Io wr vD vP vL vC (F k).1 (F k).2.1 (F k).2.2.1 (F k).2.2.2
theorem J0 (W:World)(t:TypeId)(cs:List Value)(size n:Nat)(h:cs.length=n*size)(hn:n≤maxLen):Reads (W.alloc (.cells cs.toArray t)) size (.slice (some ⟨W.heap.size,0,none⟩) n n) n cs:=by
 refine⟨_,n,rfl,a9 _,hn,h,fun _=>⟨W.heap.size,0,rfl,(j4.new W t cs.toArray).lt,fun j u hu=> ?_⟩⟩;rw[O3,(j4.new W t cs.toArray).cell j];simpa using hu
theorem F9 (f:α→Bool)(l:List α)(hk:k<l.length):(l.take (k+1)).filter f=if f l[k]then(l.take k).filter f++ [l[k]]else(l.take k).filter f:=by
 rw[Cw hk,cV];by_cases h:f l[k]=true
 ·rw[x9 h,cU h];rfl
 ·rw[z9 h,jk h];simp
theorem Yq (p:Px)(VD VP VL VC VS:Value)(l:List Int)(w:World)(h:K3 w VD VP VL VC p)(hl:P0 p)(hS:e8 w VS l)(T3:l.length≤100000)(hp:J5 p=true)(hs:Fa l=true)(qm7:W0 p l=true):Calls Tryz.prog 19 #[.agg #[VD,VP,VL,VC],VS] w (qH (c_ p l) w):=by
 have HV:=p7 (fun W t=>Di p VD VP VL VC W (h.q8 t) hl);have mP:=p7 (fun W t=>P6 VS l W (hS.q8 t) T3);have M8:=R5 hs;have nF:=Lj hp;have DA:=p7 (fun W t=>Li VS l W (hS.q8 t) M8);have HM:=p7 (fun W t=>Ih VD VP VL VC p.D W (h.d.q8 t) nF hl.d);have iG:=Ca M8;have FB:=Ca (l:=l5 p.D) (fun x hx=>by obtain⟨d,hd,rfl⟩:=F4.1 hx;exact nF d hd);have Zn:=O (fun(W:World)=>Ok (D9 l) (D9 (l5 p.D)) iG FB W);rw[kR M8 nF,qm7]at Zn;rw[hp]at HV;rw[hs]at mP;have Cr:=m8 iG;have I6:=V7 (D9 l);have Xv:=O iG;obtain⟨AD,cD,rfl,-,hcD⟩:=h.d.form;have hlD:=hl.d;have hlP:=hl.pr;have hlL:=hl.ld;have hlC:=hl.cp;obtain⟨AP,cP,rfl⟩:=h.pr.form;obtain⟨AL,cL,rfl⟩:=h.ld.form;obtain⟨AC,cC,rfl⟩:=h.cp.form;obtain⟨AS,cS,rfl⟩:=hS.form;have o6:z6 [] w ((w.alloc (.cells #[.slice AD p.D.length cD,.slice AP p.R.P.length cP,.slice AL p.R.L.length cL,.slice AC p.R.C.length cC] 29)).alloc (.cells #[.slice none 0 0,.slice none 0 0,.slice none 0 0,.slice none 0 0] 29)):=((z8 [] w).alloc _).alloc _;have b0:=(j4.new w 29 #[.slice AD p.D.length cD,.slice AP p.R.P.length cP,.slice AL p.R.L.length cL,.slice AC p.R.C.length cC]).alloc (.cells #[.slice none 0 0,.slice none 0 0,.slice none 0 0,.slice none 0 0] 29);have b1:=j4.new (w.alloc (.cells #[.slice AD p.D.length cD,.slice AP p.R.P.length cP,.slice AL p.R.L.length cL,.slice AC p.R.C.length cC] 29)) 29 #[.slice none 0 0,.slice none 0 0,.slice none 0 0,.slice none 0 0];simp only[World.size_alloc]at b1;unfold T5 at DA HM Zn;have rI:=O hl;have Bb:=O h;have Zp:=O (fun(W:World) (n:Int)=>Ee (D9 l) iG n W);unfold T5 at Zp;have OY:=O (fun n=>Y4 M8 n);have HFD:=O (fun d hd=>Lj hp d hd);clear hl hS hp hs qm7 M8 nF iG FB;generalize ((D9 (l5 p.D)).map y6).toArray=cs2 at*;obtain⟨cs,Gb⟩: ∃cs,cs=((D9 l).map y6).toArray:=⟨_,rfl⟩;rw[←Gb]at DA Zn Cr I6 Zp;clear Gb Xv h;obtain⟨nD,hnD⟩: ∃n,n=p.D.length:=⟨_,rfl⟩;obtain⟨nP,hnP⟩: ∃n,n=p.R.P.length:=⟨_,rfl⟩;obtain⟨nL,WI⟩: ∃n,n=p.R.L.length:=⟨_,rfl⟩;obtain⟨nC,hnC⟩: ∃n,n=p.R.C.length:=⟨_,rfl⟩;rw[←hnD,←hnP,←WI,←hnC]at Bb HV HM b0 b1 o6⊢;have HND:=O hnD;have HNP:=O hnP;have OX:=O WI;have HNC:=O hnC;clear hnD hnP WI hnC;go_enter Tryz.func19,Tryz.ntmps19;go_wp2_with fail
 refine(HV.o _ o6).mono ?_
 rintro r w1 ⟨rfl,t1⟩;go_wp2_with fail
 refine(mP.o _ (o6.Y t1)).mono ?_
 rintro r w2 ⟨rfl,t2⟩;go_wp2_with fail
 refine(DA.o _ ((o6.Y t1).Y t2)).mono ?_
 rintro r w3 ⟨rfl,t3⟩;have V3:=O (((o6.Y t1).Y t2).Y t3);have D_:=((b0.z7 t1 (by simp)).z7 t2 (by simp)).z7 t3 (by simp);have C_:=((b1.z7 t1 (by simp)).z7 t2 (by simp)).z7 t3 (by simp);clear t1 t2 t3 b0 b1 o6;go_wp2_with (refine D0 (j4.new _ _ _) rfl Cr I6 ?_;intro w4 b4 t4);have bJ:=O D_.lt;have b04:=(D_.alloc (.cells ((l8.map y6).toArray) 69)).z7 t4 (by have:=bJ.o;simp;omega);have Il:=O ((V3.o.alloc (.cells ((l8.map y6).toArray) 69)).step t4 (fun m hm=> .inr (by rw[y7]at hm;have:=V3.o.size;omega)));have b14:=(C_.alloc (.cells ((l8.map y6).toArray) 69)).z7 t4 (by have:=C_.lt;simp;omega);obtain⟨x0,x1,x2,x3,x4,x5,x6,x7,rfl⟩:=qd4 Cr;clear D_ C_ t4 Cr I6 DA HV mP;obtain⟨g6,r_⟩: ∃g6,g6=w3.heap.size:=⟨_,rfl⟩;rw[←r_]at b4⊢;have HG6:=O r_;clear r_;have HK:Hid (∀W',z6 [] w4 W'→(W'.cell? ⟨w.heap.size,0,none⟩=some (.slice AD nD cD)∧W'.cell? ⟨w.heap.size,1,none⟩=some (.slice AP nP cP)∧W'.cell? ⟨w.heap.size,2,none⟩=some (.slice AL nL cL)∧W'.cell? ⟨w.heap.size,3,none⟩=some (.slice AC nC cC))∧W'.cell? ⟨g6,0,none⟩=some x0∧W'.cell? ⟨g6,1,none⟩=some x1∧W'.cell? ⟨g6,2,none⟩=some x2∧W'.cell? ⟨g6,3,none⟩=some x3∧W'.cell? ⟨g6,4,none⟩=some x4∧W'.cell? ⟨g6,5,none⟩=some x5∧W'.cell? ⟨g6,6,none⟩=some x6∧W'.cell? ⟨g6,7,none⟩=some x7):=O (fun W' t=>⟨(b04.z7 t (by simp)).F2,(b4.z7 t (by simp)).qd5⟩);have GM:=O b14;have qf4:=O b04;have ug:=O b4;clear b04 b4 b14;have hQ:=z8 [] w4
 go_region_held3 (fun W'=>(W'.cell? ⟨w.heap.size,0,none⟩=some (.slice AD nD cD)∧W'.cell? ⟨w.heap.size,1,none⟩=some (.slice AP nP cP)∧W'.cell? ⟨w.heap.size,2,none⟩=some (.slice AL nL cL)∧W'.cell? ⟨w.heap.size,3,none⟩=some (.slice AC nC cC))∧W'.cell? ⟨g6,0,none⟩=some x0∧W'.cell? ⟨g6,1,none⟩=some x1∧W'.cell? ⟨g6,2,none⟩=some x2∧W'.cell? ⟨g6,3,none⟩=some x3∧W'.cell? ⟨g6,4,none⟩=some x4∧W'.cell? ⟨g6,5,none⟩=some x5∧W'.cell? ⟨g6,6,none⟩=some x6∧W'.cell? ⟨g6,7,none⟩=some x7) (first | exact HK.o _ hQ | exact HK.o _ hQ.drew) (first
  | (go_at_call 43;with_reducible refine(HM.o _ (Il.o.Y hQ.drew)).mono ?_;rintro r w5 ⟨rfl,DM⟩;(try dsimp only);replace hQ:=hQ.drew.Y DM;clear DM)
  | (go_at_call 23;with_reducible refine(Zn.o _).mono ?_;rintro r w6 ⟨rfl,vq⟩;(try dsimp only);replace hQ:=hQ.Y vq;clear vq))
 have Zy:=O (Il.o.Y hQ);have b06:=(qf4.o.z7 hQ (by simp)).alloc (.cells #[Q3,Q3,Q3,Q3] 29);have b16:=(GM.o.z7 hQ (by simp)).alloc (.cells #[Q3,Q3,Q3,Q3] 29);have b66:=(ug.o.z7 hQ (by simp)).alloc (.cells #[Q3,Q3,Q3,Q3] 29);have b86:=j4.new w6 29 #[Q3,Q3,Q3,Q3];have th:=Zy.o.alloc (.cells #[Q3,Q3,Q3,Q3] 29)
 have Z7:La w w.heap.size g6 w6.heap.size #[.slice AD nD cD,.slice AP nP cP,.slice AL nL cL,.slice AC nC cC] #[x0,x1,x2,x3,x4,x5,x6,x7] (w6.alloc (.cells #[Q3,Q3,Q3,Q3] 29)) Q3 Q3 Q3 Q3 [] [] [] []:=by
  have hs:=Zy.o.size;have h1:=(qf4.o.z7 hQ (by simp)).lt;have h2:=(GM.o.z7 hQ (by simp)).lt;exact⟨hs,th,b06,b16,⟨by omega,by omega⟩,b66,b86,L4.nil _,Own.nil _ _ _,Own.nil _ _ _,Own.nil _ _ _,Ic _,Ic _,Ic _,Ic _⟩
 obtain⟨k0,k1,k2,k3⟩:=b06.F2;clear hQ HK HM Zn V3 bJ Il HG6 GM qf4 ug b06 b16 b66 b86 th;unfold Q3 at k0 k1 k2 k3 Z7;go_wp2_with fail;generalize w6.alloc _=w7 at Z7 k0 k1 k2 k3⊢;obtain⟨g8,hg8⟩: ∃g,g=w6.heap.size:=⟨_,rfl⟩;obtain⟨g,hg⟩: ∃g,g=w.heap.size:=⟨_,rfl⟩;rw[←hg8]at Z7⊢;rw[←hg]at Z7 k0 k1 k2 k3⊢;have HG:=O hg;clear hg8 hg;clear k0 k1 k2 k3;generalize nu:#[Value.slice AD nD cD,.slice AP nP cP,.slice AL nL cL,.slice AC nC cC]=cin at Z7;generalize YL:#[x0,x1,x2,x3,x4,x5,x6,x7]=Io at Z7;have Mw:=O nu;have ZE:=O YL;clear nu YL;have Q9:=O Z7;clear Z7;rw[ZE.o]at Zp;have Zi:Io.size=8:=by rw[←ZE.o];rfl
 go_loopw [40] (fun ti wr=>jb w g g6 g8 cin Io nD (fun k=>((p.D.take k).filter (fun d=>l.contains d.st),[],[],[])) ti wr) (fun ti _=>nD - (intOf ti).toNat)
 case atStart=>exact⟨0,Q3,Q3,Q3,Q3,by omega,rfl,Q9.o⟩
 case round=>
  clear Q9;obtain⟨k,vD,vP,vL,vC,hk,rfl,Z7⟩:=hrel;simp only at Z7;by_cases Z:k<nD
  ·have j1:(k:Int)< (nD:Int):=by omega
   have Q7:k<p.D.length:=by rw[←HND.o];exact Z
   have bM:=(Bb.o.q8 Z7.Fb).d;have e0:nD=p.D.length:=HND.o;rw[e0]at bM;obtain⟨b,off,c,rfl,hb,I7,N0⟩:=bM.at_ Q7;obtain⟨c0,c1,B8⟩:=N0 wr (z8 _ _);obtain⟨A2,X2,rfl⟩:=B8.form;have HS:=O (F9 (fun d=>l.contains d.st) p.D Q7);have QO:=OY.o p.D[k].st;have QS:Hid (p.D[k].ch.length≤100000):=O (rI.o.ch _ (k8 Q7));have Rw:=O I7;have jS:=O B8;clear bM N0 B8 I7 e0;have Fw:=(z8 [] wr).alloc (.cells #[.int .i64 p.D[k].st,.slice A2 p.D[k].ch.length X2] 75);have Rp:=Z7.q8 Fw;have bx:=j4.new wr 75 #[.int .i64 p.D[k].st,.slice A2 p.D[k].ch.length X2];have Jg:=Rp.set;have Ji:=O Rp;have zg7:=O Z7;have V0:=O Fw;have N6:=O bx;clear Z7 Rp Fw bx;have HH:=O (Zp.o (wr.alloc (.cells #[.int .i64 p.D[k].st,.slice A2 p.D[k].ch.length X2] 75)) p.D[k].st);rw[QO]at HH;clear QO;obtain⟨d,mN⟩: ∃d,d=p.D[k]:=⟨_,rfl⟩;rw[←mN]at HS Rw jS Ji V0 N6 HH c0 c1 Jg QS;have HDK:=O mN;clear mN
   cases hq:l.contains d.st with
   | false=>
    rw[hq]at HH HS;have Hw:Hid ((p.D.take (k+1)).filter (fun d=>l.contains d.st)=(p.D.take k).filter (fun d=>l.contains d.st)):=HS;go_wp2_with (refine U5 Jg Zi ?_)
    refine HH.o.mono ?_
    rintro r w9 ⟨rfl,t9⟩;go_wp2_with fail;go_roundw
    case rel=>exact⟨k+1,vD,vP,vL,vC,by omega,by go_num,by simp only[Hw.o];exact Ji.o.q8 t9⟩
    case measure=>simp[intOf];omega
   | true=>
    rw[hq]at HH HS;have Hw:Hid ((p.D.take (k+1)).filter (fun d=>l.contains d.st)=(p.D.take k).filter (fun d=>l.contains d.st)++ [d]):=HS;clear HS hq;have Xw:Hid (((p.D.take k).filter (fun d=>l.contains d.st)).length≤100000):=O (j9 (L3 _ _) (by rw[Y8];omega));generalize (p.D.take k).filter (fun d=>l.contains d.st)=ds at*;go_wp2_with (refine U5 Jg Zi ?_)
    refine HH.o.mono ?_
    rintro r w9 ⟨rfl,t9⟩;have jI:=Ji.o.q8 t9;have Zb:=N6.o.z7 t9 (by simp);obtain⟨K1,PH,hv2,hv3⟩:=jI.d;obtain⟨Av,cv,rfl⟩:=hv2.form;have QP:Hid (∀W',z6 [] w9 W'→W'.cell? ⟨g8,0,none⟩=some (.slice Av ds.length cv)∧W'.cell? ⟨wr.heap.size,0,none⟩=some (.int .i64 d.st)∧W'.cell? ⟨wr.heap.size,1,none⟩=some (.slice A2 d.ch.length X2)):=O (fun W' t=>⟨((jI.q.z7 t (by simp)).cell 0).trans rfl,((Zb.z7 t (by simp)).cell 0).trans rfl,((Zb.z7 t (by simp)).cell 1).trans rfl⟩)
    have zi4:Hid (∀W',z6 [] w9 W'→Calls Tryz.prog 45 #[.slice A2 d.ch.length X2] W' fun r w'=> ∃A3 c3,r= .returned (.slice A3 d.ch.length c3)∧Hid (Ed w' (.slice A3 d.ch.length c3) d.ch)∧z6 [] W' w'):=O (fun W' t=>(xn _ d.ch W' (((jS.o.q8 V0.o).q8 t9).q8 t) QS.o).mono (fun r w' h=>by
     obtain⟨v',h1,h2,h3⟩:=h;obtain⟨A3,c3,h4⟩:=h2.1.form;subst h4
     exact⟨A3,c3,h1,O h2,h3⟩))
    have hQ:=z8 [] w9;have zi7:=O Zb
    have zk5:Hid (wr.heap.size≠g8):=O (fun e=>by
     have h1:=j4.kd Zb;rw[e]at h1
     exact Kd.ne h1 (j4.kd jI.q) (by decide) rfl)
    have zh6:Hid (wr.heap.size∉m5 (.slice Av ds.length cv)):=O (fun hm=>by
     obtain⟨zk2,-,zc4,-⟩:=zg7.o.d;have:=zc4.lt _ hm
     omega)
    have Jh:=O jI;have HV1:=O PH;have HV2:=O hv2;have HV3:=O hv3;clear jI Zb PH hv2 hv3;go_wp2_with fail;refine n6 (fun W'=>W'.cell? ⟨g8,0,none⟩=some (.slice Av ds.length cv)∧W'.cell? ⟨wr.heap.size,0,none⟩=some (.int .i64 d.st)∧W'.cell? ⟨wr.heap.size,1,none⟩=some (.slice A2 d.ch.length X2)) 11 (by kernel_rfl) ?_;refine tk 0 (QP.o _ hQ.drew) ?_;refine tk 1 (QP.o _ hQ.drew) ?_;refine tk 2 (QP.o _ hQ.drew) ?_;refine tk 3 (QP.o _ hQ.drew) ?_;refine tk 4 (QP.o _ hQ.drew) ?_;refine tk 5 (QP.o _ hQ.drew) ?_;refine tn 6 (fun K hK=> ?_);go_simp
    refine(zi4.o _ hQ.drew).mono ?_
    rintro r ZO ⟨A3,c3,rfl,zd1,RG⟩
    replace hQ:=hQ.drew.Y RG
    clear RG;go_wp2_with fail;refine YU hK (QP.o _ hQ) ?_;clear hK K;refine tk 7 (QP.o _ hQ) ?_;refine tn 8 (fun K hK=> ?_);go_simp;go_wp2_with fail;refine YU hK (QP.o _ (hQ.alloc _)) ?_;clear hK K;refine tn 9 (fun K hK=> ?_);refine l7 Ch (HV2.o.q8 (hQ.alloc _)) (J0 ZO 75 [.int .i64 d.st,.slice A3 d.ch.length c3] 2 1 rfl (by decide)) (by simp[Value.oneCell']) (by have:=Xw.o;omega) (by have:=Xw.o;unfold maxLen;omega) ?_;intro v11 X6 r8 Q6 X9;obtain⟨Mq,Mo,rfl⟩:=r8.form;have xD:=j4.v7 (Jh.o.q.z7 (hQ.alloc _) (by simp)) Q6 (fun b hb=>⟨_,(HV2.o.q8 (hQ.alloc _)).kd b hb,by decide⟩);have Ik:=(xD.cell 0).trans rfl;have f11:=xD.frozen 0;have Ip:=(zi7.o.z7 (hQ.alloc _) (by simp)).z7 Q6 zh6.o;refine YU hK ⟨Ik,(Ip.cell 0).trans rfl,(Ip.cell 1).trans rfl⟩ ?_;clear hK K;refine tk 10 ⟨Ik,(Ip.cell 0).trans rfl,(Ip.cell 1).trans rfl⟩ ?_;refine tl (fun K hK=> ?_);go_simp;refine hK.o _ _ ?_;clear hK K;(try simp only[nz]);have zh4:=O r8;have yI:=O Q6;have yM:=O X9;have HQA:=O (hQ.alloc (.cells #[.int .i64 d.st,.slice A3 d.ch.length c3] 75));clear r8 Q6 X9 hQ Ik f11 xD Ip;go_wp2_with fail;go_roundw
    case rel=>
     refine⟨k+1,.slice Mq (ds.length+1) Mo,vP,vL,vC,by omega,by go_num,?_⟩;simp only[Hw.o];exact(Jh.o.q8 HQA.o).GV HV1.o (fun b hb=>(HV2.o.q8 HQA.o).kd b hb) (fun j d c h1 h2=>⟨(HV3.o j d c h1 h2).1,(HV3.o j d c h1 h2).2.q8 HQA.o⟩) Rw.o (zd1.o.q8 ((z8 [] _).alloc _)) yI.o yM.o zh4.o
    case measure=>simp[intOf];omega
  ·have j1: ¬(k:Int)< (nD:Int):=by omega
   have I1:p.D.take k=p.D:=N2 (by have e0:nD=p.D.length:=HND.o;omega);rw[I1]at Z7;clear I1;obtain⟨i0,i1,i2,i3⟩:=(Mw.o ▸ Z7.Sq:j4 wr g 29 #[.slice AD nD cD,.slice AP nP cP,.slice AL nL cL,.slice AC nC cC]).F2;have Q9:=O Z7;clear Z7;go_wp2_with fail;clear i0 i1 i2 i3;go_loopw [64] (fun ti wr=>jb w g g6 g8 cin Io nP (fun k=>((p.D.filter (fun d=>l.contains d.st)),(p.R.P.take k).filter (fun x=>l.contains x.a&&l.contains x.b),[],[])) ti wr) (fun ti _=>nP - (intOf ti).toNat)
   case atStart=>exact⟨0,vD,vP,vL,vC,by omega,rfl,Q9.o⟩
   case round=>
    clear Q9;obtain⟨k,vD,vP,vL,vC,hk,rfl,Z7⟩:=hrel;simp only at Z7;by_cases Z:k<nP
    ·have j1:(k:Int)< (nP:Int):=by omega
     have e0:nP=p.R.P.length:=HNP.o;have Q7:k<p.R.P.length:=by rw[←e0];exact Z
     have bM:=(Bb.o.q8 Z7.Fb).pr;rw[e0]at bM;obtain⟨b,off,rfl,hb⟩:=bM.addr Q7;obtain⟨ca,cb,cc,cd,ce⟩:=o5.at_ bM Q7;have HS:=O (F9 (fun x=>l.contains x.a&&l.contains x.b) p.R.P Q7);clear bM e0;have Fw:=(z8 [] wr).alloc (.cells #[.int .i64 p.R.P[k].a,.int .i64 p.R.P[k].b,.int .i64 p.R.P[k].c,.int .i64 p.R.P[k].d,.int .i64 p.R.P[k].e] 79);have Rp:=Z7.q8 Fw;have bx:=j4.new wr 79 #[.int .i64 p.R.P[k].a,.int .i64 p.R.P[k].b,.int .i64 p.R.P[k].c,.int .i64 p.R.P[k].d,.int .i64 p.R.P[k].e];have Jg:=Rp.set;have Ji:=O Rp;have V0:=O Fw;have N6:=O bx;clear Z7 Rp Fw bx;have Vn:=O (fun(W:World)=>Zp.o W p.R.P[k].a);simp only[OY.o]at Vn;have EN:=O (fun(W:World)=>Zp.o W p.R.P[k].b);simp only[OY.o]at EN;obtain⟨x,WB⟩: ∃x,x=p.R.P[k]:=⟨_,rfl⟩;rw[←WB]at HS Ji V0 N6 Vn EN Jg ca cb cc cd ce;clear WB;have Xw:Hid (((p.R.P.take k).filter (fun x=>l.contains x.a&&l.contains x.b)).length≤100000):=O (j9 (L3 _ _) (by rw[Y8];omega));generalize OH:(p.R.P.take k).filter (fun x=>l.contains x.a&&l.contains x.b)=qs at*;clear OH;obtain⟨xa,xb,xc,xd,xe⟩:=x;simp only at HS Ji V0 N6 Vn EN Jg ca cb cc cd ce;generalize hqa:l.contains xa=qa at*;clear hqa;generalize DO:l.contains xb=qb at*;clear DO
     cases qa with
     | false=>
      have Hw:Hid ((p.R.P.take (k+1)).filter (fun x=>l.contains x.a&&l.contains x.b)=qs):=HS;go_wp2_with (refine U5 Jg Zi ?_)
      refine(Vn.o _).mono ?_
      rintro r w9 ⟨rfl,t9⟩;go_wp2_with fail;go_roundw
      case rel=>exact⟨k+1,vD,vP,vL,vC,by omega,by go_num,by simp only[Hw.o];exact Ji.o.q8 t9⟩
      case measure=>simp[intOf];omega
     | true=>
      go_wp2_with (refine U5 Jg Zi ?_)
      refine(Vn.o _).mono ?_
      rintro r w8 ⟨rfl,t8⟩;have sU:=Jg.z7 t8 (by simp);have xb8:=((N6.o.z7 t8 (by simp)).cell 1).trans rfl
      cases qb with
      | false=>
       have Hw:Hid ((p.R.P.take (k+1)).filter (fun x=>l.contains x.a&&l.contains x.b)=qs):=HS;go_wp2_with (refine Jx sU Zi ?_)
       refine(EN.o _).mono ?_
       rintro r w9 ⟨rfl,t9⟩;go_wp2_with fail;go_roundw
       case rel=>exact⟨k+1,vD,vP,vL,vC,by omega,by go_num,by simp only[Hw.o];exact(Ji.o.q8 t8).q8 t9⟩
       case measure=>simp[intOf];omega
      | true=>
       have Hw:Hid ((p.R.P.take (k+1)).filter (fun x=>l.contains x.a&&l.contains x.b)=qs++ [⟨xa,xb,xc,xd,xe⟩]):=HS;go_wp2_with (refine Jx sU Zi ?_)
       refine(EN.o _).mono ?_
       rintro r w9 ⟨rfl,t9⟩;have jI:=(Ji.o.q8 t8).q8 t9;have Zb:=(N6.o.z7 t8 (by simp)).z7 t9 (by simp);have q9:=jI.q;have z1:=(q9.cell 1).trans rfl;have y0:=(Zb.cell 0).trans rfl;have y1:=(Zb.cell 1).trans rfl;have y2:=(Zb.cell 2).trans rfl;have y3:=(Zb.cell 3).trans rfl;have y4:=(Zb.cell 4).trans rfl;have DL:=jI.pr;obtain⟨Av,cv,e9⟩:=DL.form;rw[e9]at z1 DL;have Jh:=O jI;have uj:=O e9;clear jI Zb q9 e9;go_wp2_with (at_builtin;go_must (refine Ah Qg DL [Value.int .i64 xa,Value.int .i64 xb,Value.int .i64 xc,Value.int .i64 xd,Value.int .i64 xe] 1 1 (by have:=Xw.o;omega) (by have:=Xw.o;unfold maxLen;omega) ?_);intro v11 X6 r8 Q6 X9;obtain⟨Mq,Mo,rfl⟩:=r8.form;have xD:=j4.v7 Jh.o.q (uj.o ▸ Q6) (fun b hb=>⟨_,Jh.o.pr.kd b hb,by decide⟩);have Ik:=(xD.cell 1).trans rfl;have f11:=xD.frozen 1;rw[uj.o]at Ik;have GC:=O r8;have yI:=O Q6;have yM:=O X9;clear r8 Q6 X9 xD);go_roundw
       case rel=>exact⟨k+1,vD,_,vL,vC,by omega,by go_num,by simp only[Hw.o];exact Jh.o.GS ⟨xa,xb,xc,xd,xe⟩ GC.o (uj.o ▸ yI.o) (uj.o ▸ yM.o)⟩
       case measure=>simp[intOf];omega
    ·have j1: ¬(k:Int)< (nP:Int):=by omega
     have I1:p.R.P.take k=p.R.P:=N2 (by have e0:nP=p.R.P.length:=HNP.o;omega);rw[I1]at Z7;clear I1;obtain⟨i0,i1,i2,i3⟩:=(Mw.o ▸ Z7.Sq:j4 wr g 29 #[.slice AD nD cD,.slice AP nP cP,.slice AL nL cL,.slice AC nC cC]).F2;have Q9:=O Z7;clear Z7;go_wp2_with fail;clear i0 i1 i2 i3;go_loopw [91] (fun ti wr=>jb w g g6 g8 cin Io nL (fun k=>((p.D.filter (fun d=>l.contains d.st)),(p.R.P.filter (fun x=>l.contains x.a&&l.contains x.b)),(p.R.L.take k).filter (fun x=>l.contains x.a&&l.contains x.b),[])) ti wr) (fun ti _=>nL - (intOf ti).toNat)
     case atStart=>exact⟨0,vD,vP,vL,vC,by omega,rfl,Q9.o⟩
     case round=>
      clear Q9;obtain⟨k,vD,vP,vL,vC,hk,rfl,Z7⟩:=hrel;simp only at Z7;by_cases Z:k<nL
      ·have j1:(k:Int)< (nL:Int):=by omega
       have e0:nL=p.R.L.length:=OX.o;have Q7:k<p.R.L.length:=by rw[←e0];exact Z
       have bM:=(Bb.o.q8 Z7.Fb).ld;rw[e0]at bM;obtain⟨b,off,rfl,hb⟩:=bM.addr Q7;obtain⟨ca,cb,cc,cd,ce⟩:=o5.at_ bM Q7;have HS:=O (F9 (fun x=>l.contains x.a&&l.contains x.b) p.R.L Q7);clear bM e0;have Fw:=(z8 [] wr).alloc (.cells #[.int .i64 p.R.L[k].a,.int .i64 p.R.L[k].b,.int .i64 p.R.L[k].c,.int .i64 p.R.L[k].d,.int .i64 p.R.L[k].e] 81);have Rp:=Z7.q8 Fw;have bx:=j4.new wr 81 #[.int .i64 p.R.L[k].a,.int .i64 p.R.L[k].b,.int .i64 p.R.L[k].c,.int .i64 p.R.L[k].d,.int .i64 p.R.L[k].e];have Jg:=Rp.set;have Ji:=O Rp;have V0:=O Fw;have N6:=O bx;clear Z7 Rp Fw bx;have Vn:=O (fun(W:World)=>Zp.o W p.R.L[k].a);simp only[OY.o]at Vn;have EN:=O (fun(W:World)=>Zp.o W p.R.L[k].b);simp only[OY.o]at EN;obtain⟨x,WB⟩: ∃x,x=p.R.L[k]:=⟨_,rfl⟩;rw[←WB]at HS Ji V0 N6 Vn EN Jg ca cb cc cd ce;clear WB;have Xw:Hid (((p.R.L.take k).filter (fun x=>l.contains x.a&&l.contains x.b)).length≤100000):=O (j9 (L3 _ _) (by rw[Y8];omega));generalize OH:(p.R.L.take k).filter (fun x=>l.contains x.a&&l.contains x.b)=qs at*;clear OH;obtain⟨xa,xb,xc,xd,xe⟩:=x;simp only at HS Ji V0 N6 Vn EN Jg ca cb cc cd ce;generalize hqa:l.contains xa=qa at*;clear hqa;generalize DO:l.contains xb=qb at*;clear DO
       cases qa with
       | false=>
        have Hw:Hid ((p.R.L.take (k+1)).filter (fun x=>l.contains x.a&&l.contains x.b)=qs):=HS;go_wp2_with (refine U5 Jg Zi ?_)
        refine(Vn.o _).mono ?_
        rintro r w9 ⟨rfl,t9⟩;go_wp2_with fail;go_roundw
        case rel=>exact⟨k+1,vD,vP,vL,vC,by omega,by go_num,by simp only[Hw.o];exact Ji.o.q8 t9⟩
        case measure=>simp[intOf];omega
       | true=>
        go_wp2_with (refine U5 Jg Zi ?_)
        refine(Vn.o _).mono ?_
        rintro r w8 ⟨rfl,t8⟩;have sU:=Jg.z7 t8 (by simp);have xb8:=((N6.o.z7 t8 (by simp)).cell 1).trans rfl
        cases qb with
        | false=>
         have Hw:Hid ((p.R.L.take (k+1)).filter (fun x=>l.contains x.a&&l.contains x.b)=qs):=HS;go_wp2_with (refine Jx sU Zi ?_)
         refine(EN.o _).mono ?_
         rintro r w9 ⟨rfl,t9⟩;go_wp2_with fail;go_roundw
         case rel=>exact⟨k+1,vD,vP,vL,vC,by omega,by go_num,by simp only[Hw.o];exact(Ji.o.q8 t8).q8 t9⟩
         case measure=>simp[intOf];omega
        | true=>
         have Hw:Hid ((p.R.L.take (k+1)).filter (fun x=>l.contains x.a&&l.contains x.b)=qs++ [⟨xa,xb,xc,xd,xe⟩]):=HS;go_wp2_with (refine Jx sU Zi ?_)
         refine(EN.o _).mono ?_
         rintro r w9 ⟨rfl,t9⟩;have jI:=(Ji.o.q8 t8).q8 t9;have Zb:=(N6.o.z7 t8 (by simp)).z7 t9 (by simp);have q9:=jI.q;have z2:=(q9.cell 2).trans rfl;have y0:=(Zb.cell 0).trans rfl;have y1:=(Zb.cell 1).trans rfl;have y2:=(Zb.cell 2).trans rfl;have y3:=(Zb.cell 3).trans rfl;have y4:=(Zb.cell 4).trans rfl;have DL:=jI.ld;obtain⟨Av,cv,e9⟩:=DL.form;rw[e9]at z2 DL;have Jh:=O jI;have uj:=O e9;clear jI Zb q9 e9;go_wp2_with (at_builtin;go_must (refine Ah Qh DL [Value.int .i64 xa,Value.int .i64 xb,Value.int .i64 xc,Value.int .i64 xd,Value.int .i64 xe] 1 1 (by have:=Xw.o;omega) (by have:=Xw.o;unfold maxLen;omega) ?_);intro v11 X6 r8 Q6 X9;obtain⟨Mq,Mo,rfl⟩:=r8.form;have xD:=j4.v7 Jh.o.q (uj.o ▸ Q6) (fun b hb=>⟨_,Jh.o.ld.kd b hb,by decide⟩);have Ik:=(xD.cell 2).trans rfl;have f11:=xD.frozen 2;rw[uj.o]at Ik;have GC:=O r8;have yI:=O Q6;have yM:=O X9;clear r8 Q6 X9 xD);go_roundw
         case rel=>exact⟨k+1,vD,vP,_,vC,by omega,by go_num,by simp only[Hw.o];exact Jh.o.GU ⟨xa,xb,xc,xd,xe⟩ GC.o (uj.o ▸ yI.o) (uj.o ▸ yM.o)⟩
         case measure=>simp[intOf];omega
      ·have j1: ¬(k:Int)< (nL:Int):=by omega
       have I1:p.R.L.take k=p.R.L:=N2 (by have e0:nL=p.R.L.length:=OX.o;omega);rw[I1]at Z7;clear I1;obtain⟨i0,i1,i2,i3⟩:=(Mw.o ▸ Z7.Sq:j4 wr g 29 #[.slice AD nD cD,.slice AP nP cP,.slice AL nL cL,.slice AC nC cC]).F2;have Q9:=O Z7;clear Z7;go_wp2_with fail;clear i0 i1 i2 i3;go_loopw [118] (fun ti wr=>jb w g g6 g8 cin Io nC (fun k=>((p.D.filter (fun d=>l.contains d.st)),(p.R.P.filter (fun x=>l.contains x.a&&l.contains x.b)),(p.R.L.filter (fun x=>l.contains x.a&&l.contains x.b)),(p.R.C.take k).filter (fun x=>l.contains x.a))) ti wr) (fun ti _=>nC - (intOf ti).toNat)
       case atStart=>exact⟨0,vD,vP,vL,vC,by omega,rfl,Q9.o⟩
       case round=>
        clear Q9;obtain⟨k,vD,vP,vL,vC,hk,rfl,Z7⟩:=hrel;simp only at Z7;by_cases Z:k<nC
        ·have j1:(k:Int)< (nC:Int):=by omega
         have e0:nC=p.R.C.length:=HNC.o;have Q7:k<p.R.C.length:=by rw[←e0];exact Z
         have bM:=(Bb.o.q8 Z7.Fb).cp;rw[e0]at bM;obtain⟨b,off,rfl,hb⟩:=bM.addr Q7;obtain⟨ca,cb,cc,cd⟩:=T9.at_ bM Q7;have HS:=O (F9 (fun x=>l.contains x.a) p.R.C Q7);clear bM e0;have Fw:=(z8 [] wr).alloc (.cells #[.int .i64 p.R.C[k].a,.int .i64 p.R.C[k].b,.int .i64 p.R.C[k].c,.int .i64 p.R.C[k].d] 83);have Rp:=Z7.q8 Fw;have bx:=j4.new wr 83 #[.int .i64 p.R.C[k].a,.int .i64 p.R.C[k].b,.int .i64 p.R.C[k].c,.int .i64 p.R.C[k].d];have Jg:=Rp.set;have Ji:=O Rp;have V0:=O Fw;have N6:=O bx;clear Z7 Rp Fw bx;have Vn:=O (fun(W:World)=>Zp.o W p.R.C[k].a);simp only[OY.o]at Vn;obtain⟨x,WB⟩: ∃x,x=p.R.C[k]:=⟨_,rfl⟩;rw[←WB]at HS Ji V0 N6 Vn Jg ca cb cc cd;clear WB;have Xw:Hid (((p.R.C.take k).filter (fun x=>l.contains x.a)).length≤100000):=O (j9 (L3 _ _) (by rw[Y8];omega));generalize OH:(p.R.C.take k).filter (fun x=>l.contains x.a)=qs at*;clear OH;obtain⟨xa,xb,xc,xd⟩:=x;simp only at HS Ji V0 N6 Vn Jg ca cb cc cd;generalize hqa:l.contains xa=qa at*;clear hqa
         cases qa with
         | false=>
          have Hw:Hid ((p.R.C.take (k+1)).filter (fun x=>l.contains x.a)=qs):=HS;go_wp2_with (refine U5 Jg Zi ?_)
          refine(Vn.o _).mono ?_
          rintro r w9 ⟨rfl,t9⟩;go_wp2_with fail;go_roundw
          case rel=>exact⟨k+1,vD,vP,vL,vC,by omega,by go_num,by simp only[Hw.o];exact Ji.o.q8 t9⟩
          case measure=>simp[intOf];omega
         | true=>
          have Hw:Hid ((p.R.C.take (k+1)).filter (fun x=>l.contains x.a)=qs++ [⟨xa,xb,xc,xd⟩]):=HS;go_wp2_with (refine U5 Jg Zi ?_)
          refine(Vn.o _).mono ?_
          rintro r w9 ⟨rfl,t9⟩;have jI:=Ji.o.q8 t9;have Zb:=N6.o.z7 t9 (by simp);have q9:=jI.q;have z3:=(q9.cell 3).trans rfl;have y0:=(Zb.cell 0).trans rfl;have y1:=(Zb.cell 1).trans rfl;have y2:=(Zb.cell 2).trans rfl;have y3:=(Zb.cell 3).trans rfl;have DL:=jI.cp;obtain⟨Av,cv,e9⟩:=DL.form;rw[e9]at z3 DL;have Jh:=O jI;have uj:=O e9;clear jI Zb q9 e9;go_wp2_with (at_builtin;go_must (refine Ah eO DL [Value.int .i64 xa,Value.int .i64 xb,Value.int .i64 xc,Value.int .i64 xd] 1 1 (by have:=Xw.o;omega) (by have:=Xw.o;unfold maxLen;omega) ?_);intro v11 X6 r8 Q6 X9;obtain⟨Mq,Mo,rfl⟩:=r8.form;have xD:=j4.v7 Jh.o.q (uj.o ▸ Q6) (fun b hb=>⟨_,Jh.o.cp.kd b hb,by decide⟩);have Ik:=(xD.cell 3).trans rfl;have f11:=xD.frozen 3;rw[uj.o]at Ik;have GC:=O r8;have yI:=O Q6;have yM:=O X9;clear r8 Q6 X9 xD);go_roundw
          case rel=>exact⟨k+1,vD,vP,vL,_,by omega,by go_num,by simp only[Hw.o];exact Jh.o.GW ⟨xa,xb,xc,xd⟩ GC.o (uj.o ▸ yI.o) (uj.o ▸ yM.o)⟩
          case measure=>simp[intOf];omega
        ·have j1: ¬(k:Int)< (nC:Int):=by omega
         have I1:p.R.C.take k=p.R.C:=N2 (by have e0:nC=p.R.C.length:=HNC.o;omega);rw[I1]at Z7;clear I1;have q9:=Z7.q;have r9:=Z7.n9;have Jh:=O Z7;obtain⟨A0,c0,e0⟩:=Z7.d.form;obtain⟨A1,c1,e1⟩:=Z7.pr.form;obtain⟨A2,c2,e2⟩:=Z7.ld.form;obtain⟨A3,c3,e3⟩:=Z7.cp.form;have I6:(#[vD,vP,vL,vC]:Array Value).all (·.oneCell')=true:=by rw[e0,e1,e2,e3];simp[Value.oneCell']
         clear Z7 e0 e1 e2 e3;go_wp2_with (first | (refine yw q9 ?_) | (refine jr r9 I6 ?_;intro ZO Ss t10));refine bodyPost_ret (P3 Ss rfl Tryz.underlying29 Qb rfl rfl rfl) rfl ⟨vD,vP,vL,vC,rfl,?_,Jh.o.Fb.step t10 (fun m hm=> .inr (by rw[y7]at hm;have:=HG.o;omega))⟩;exact Jh.o.qa9 Bb.o Ss.kd t10 r9.kd
def Jm:List Int→List Int→Bool
 | x::xs,y::ys=>if x=y then Jm xs ys else decide (x<y)
 | _,_=>false
theorem qo {xs ys:List Int}(h1:k<xs.length)(h2:k<ys.length):Jm (xs.drop k) (ys.drop k)=if xs[k]=ys[k]then Jm (xs.drop (k+1)) (ys.drop (k+1))else decide (xs[k]<ys[k]):=by
 rw[Rd h1,Rd h2];rfl
def ZD (w:World)(xs ys:List Int)(n9:Bool)(ti:Value)(wr:World):Prop:= ∃k:Nat,k≤xs.length∧ti= .int .i64 (k:Int)∧z6 [] w wr∧Hid (n9=Jm (xs.drop k) (ys.drop k))
theorem Wx (v u:Value)(xs ys:List Int)(w:World)(hv:e8 w v xs)(hu:e8 w u ys)(hl:ys.length=xs.length)(hm:xs.length≤100000):Calls Tryz.prog 51 #[v,u] w fun r w'=>r= .returned (.bool (Jm xs ys))∧z6 [] w w':=by
 obtain⟨A,cap,rfl⟩:=hv.form;obtain⟨B,X2,rfl⟩:=hu.form;have Z7:ZD w xs ys (Jm xs ys) (.int .i64 0) w:=⟨0,by omega,rfl,z8 _ _,O rfl⟩;have HV:=O (fun W (t:z6 [] w W)=>hv.q8 t);have HU:=O (fun W (t:z6 [] w W)=>hu.q8 t);clear hv hu;generalize Jm xs ys=n9 at*;go_enter Tryz.func51,Tryz.ntmps51;go_wp2_with fail;go_loopw [5] (fun ti wr=>ZD w xs ys n9 ti wr) (fun ti _=>xs.length - (intOf ti).toNat)
 case atStart=>exact Z7
 case round=>
  clear Z7;obtain⟨k,hk,rfl,ht,HX⟩:=hrel;by_cases Z:k<xs.length
  ·have j1:(k:Int)< (xs.length:Int):=by omega
   have Q7:k<ys.length:=by omega
   have Dw:(k:Int)< (ys.length:Int):=by omega
   have hv:=HV.o wr ht;have hu:=HU.o wr ht;obtain⟨b,off,rfl,hb⟩:=hv.addr Z;obtain⟨b2,Hn,rfl,U3⟩:=hu.addr Q7;have c0:=e8.at_ hv Z;have c1:=e8.at_ hu Q7;have N5:=O (HX.o.trans (qo Z Q7));clear HX hv hu;generalize xs[k]=x at*;generalize ys[k]=y at*;by_cases he:x=y
   ·rw[x9 he]at N5;subst he;go_wp2_with fail;go_quiet (fail);go_wp2_with fail;go_roundw
    case rel=>exact⟨k+1,by omega,by go_num,ht.drewN _,N5⟩
    case measure=>simp[intOf];omega
   ·rw[z9 he]at N5;have qM:(x !=y)=true:=by simpa using he
    generalize hdq:decide (x<y)=q at*;go_wp2_with fail;go_quiet (fail);go_wp2_with fail;go_quiet (fail);go_wp2_with fail;go_ret;exact⟨v9 (by rw[N5.o]),(ht.drewN _).drewN _⟩
  ·have j1: ¬(k:Int)< (xs.length:Int):=by omega
   have y5:Hid (n9=false):=O (by rw[HX.o,Hz (by omega)];rfl);clear HX;go_wp2_with fail;go_ret;exact⟨v9 (by rw[y5.o]),ht⟩
theorem eJ (W:World)(t:TypeId)(cs:List Int)(n:Nat)(h:cs.length=n)(hn:n≤maxLen)(hf: ∀x∈cs,Fits x):e8 (W.alloc (.cells ((cs.map I).toArray) t)) (.slice (some ⟨W.heap.size,0,none⟩) n n) cs:=by
 have h1:=J0 W t (cs.map I) 1 n (by simp[h]) hn;subst h;refine⟨?_,hf⟩;rw[Xh];exact h1
theorem fI (a b c d e:Int)(w:World)(hf: ∀x∈ [a,b,c,d,e],Fits x):Calls Tryz.prog 52 #[.agg #[.int .i64 a,.int .i64 b,.int .i64 c,.int .i64 d,.int .i64 e]] w fun r w'=> ∃Az cz,r= .returned (.slice Az 5 cz)∧Hid (e8 w' (.slice Az 5 cz) [a,b,c,d,e])∧z6 [] w w':=by
 have ht:=((z8 [] w).alloc (.cells #[.int .i64 a,.int .i64 b,.int .i64 c,.int .i64 d,.int .i64 e] 79)).alloc (.cells (([a,b,c,d,e].map I).toArray) 3);have hn:=eJ (w.alloc (.cells #[.int .i64 a,.int .i64 b,.int .i64 c,.int .i64 d,.int .i64 e] 79)) 3 [a,b,c,d,e] 5 rfl (by decide) hf;simp only[List.map,I]at ht hn;clear hf;go_enter Tryz.func52,Tryz.ntmps52;go_wp2_with fail;go_ret;exact⟨_,_,rfl,O (by simpa using hn),ht⟩
theorem fQ (a b c d e:Int)(w:World)(hf: ∀x∈ [a,b,c,d,e],Fits x):Calls Tryz.prog 53 #[.agg #[.int .i64 a,.int .i64 b,.int .i64 c,.int .i64 d,.int .i64 e]] w fun r w'=> ∃Az cz,r= .returned (.slice Az 5 cz)∧Hid (e8 w' (.slice Az 5 cz) [a,b,c,d,e])∧z6 [] w w':=by
 have ht:=((z8 [] w).alloc (.cells #[.int .i64 a,.int .i64 b,.int .i64 c,.int .i64 d,.int .i64 e] 81)).alloc (.cells (([a,b,c,d,e].map I).toArray) 3);have hn:=eJ (w.alloc (.cells #[.int .i64 a,.int .i64 b,.int .i64 c,.int .i64 d,.int .i64 e] 81)) 3 [a,b,c,d,e] 5 rfl (by decide) hf;simp only[List.map,I]at ht hn;clear hf;go_enter Tryz.func53,Tryz.ntmps53;go_wp2_with fail;go_ret;exact⟨_,_,rfl,O (by simpa using hn),ht⟩
theorem mD (a b c d:Int)(w:World)(hf: ∀x∈ [a,b,c,d],Fits x):Calls Tryz.prog 54 #[.agg #[.int .i64 a,.int .i64 b,.int .i64 c,.int .i64 d]] w fun r w'=> ∃Az cz,r= .returned (.slice Az 4 cz)∧Hid (e8 w' (.slice Az 4 cz) [a,b,c,d])∧z6 [] w w':=by
 have ht:=((z8 [] w).alloc (.cells #[.int .i64 a,.int .i64 b,.int .i64 c,.int .i64 d] 83)).alloc (.cells (([a,b,c,d].map I).toArray) 3);have hn:=eJ (w.alloc (.cells #[.int .i64 a,.int .i64 b,.int .i64 c,.int .i64 d] 83)) 3 [a,b,c,d] 4 rfl (by decide) hf;simp only[List.map,I]at ht hn;clear hf;go_enter Tryz.func54,Tryz.ntmps54;go_wp2_with fail;go_ret;exact⟨_,_,rfl,O (by simpa using hn),ht⟩
theorem Jv (lo hi:Int)(w:World):Calls Tryz.prog 50 #[.int .i64 lo,.int .i64 hi] w fun r w'=>r= .returned (.bool (Da lo hi))∧w=w':=by
 unfold Da;by_cases h1:2≤lo
 ·by_cases h2:lo≤hi
  ·by_cases h3:hi≤51
   ·rw[b_ ⟨h1,h2,h3⟩];go_enter Tryz.func50,Tryz.ntmps50;go_wp2_with fail;go_ret;exact⟨rfl,rfl⟩
   ·rw[v8 (fun h=>h3 h.2.2)];go_enter Tryz.func50,Tryz.ntmps50;go_wp2_with fail;go_ret;exact⟨rfl,rfl⟩
  ·rw[v8 (fun h=>h2 h.2.1)];go_enter Tryz.func50,Tryz.ntmps50;go_wp2_with fail;go_ret;exact⟨rfl,rfl⟩
 ·rw[v8 (fun h=>h1 h.1)];go_enter Tryz.func50,Tryz.ntmps50;go_wp2_with fail;go_ret;exact⟨rfl,rfl⟩
theorem oJ (x y:Int)(zs:List Int):decide (Kr (j7 x y::zs)<0)=if x=y then decide (Kr zs<0)else decide (x<y):=by
 have e: ∀z (l:List Int),Kr (z::l)=if z=0 then Kr l else z:=fun z l=>rfl
 rw[e];unfold j7;rcases Int.lt_trichotomy x y with h | h | h
 ·have h2: ¬x=y:=by omega
  simp[h,h2]
 ·subst h;simp
 ·have h1: ¬x<y:=by omega
  have h2: ¬x=y:=by omega
  simp[h,h1,h2]
theorem rm (x y:Q5):Jm [x.a,x.b,x.c,x.d,x.e] [y.a,y.b,y.c,y.d,y.e]=decide (U6 x y<0):=by
 unfold U6;simp only[oJ,Jm];simp[Kr]
theorem rn (x y:Q5):Jm [x.a,x.b,x.c,x.d,x.e] [y.a,y.b,y.c,y.d,y.e]=decide (U7 x y<0):=by
 unfold U7;simp only[oJ,Jm];simp[Kr]
theorem MK (x y:Q4):Jm [x.a,x.b,x.c,x.d] [y.a,y.b,y.c,y.d]=decide (F3 x y<0):=by
 unfold F3;simp only[oJ,Jm];simp[Kr]
end Go.Proofs.YtlhlmcohdkkjpaaGreatDoor
