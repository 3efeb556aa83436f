/- Frames and rows of memory: which blocks a call may touch; slices that read as lists. No program in sight. -/
import Derived.Test.YtlhlmcohdkkjpaaGreatDoorAl
import Derived.WalkSpells
import Derived.WalkLawsBesides
import Derived.Deep.AppendLies
import Derived.BigQuiet
import Derived.Deep.RegionHeld3
import Derived.Deep.RegionLaw
set_option linter.all false
namespace Go.Proofs.YtlhlmcohdkkjpaaGreatDoor
open Go.RowKit
structure z6 (L:List Nat)(w w':World):Prop where
 os:w'.os=w.os
 tape:w'.tape=w.tape
 output:w'.output=w.output
 size:w.heap.size≤w'.heap.size
 block: ∀k,k<w.heap.size→k∉L→w'.heap[k]? =w.heap[k]?
def m5:Value→List Nat
 | .slice (some a) _ _=> [a.block]
 | .pointer (some a)=> [a.block]
 | .map (some r)=> [r]
 | _=> []
def rb:Value→List Nat
 | .slice (some a) (_+1) _=> [a.block]
 | _=> []
theorem Gp (v:Value): ∀g∈rb v,g∈m5 v:=by
 intro g hg
 match v,hg with
 | .slice (some a) (_+1) _,hg=>exact hg
namespace z6
variable {L M:List Nat}{w w1 w2 w':World}
theorem refl (L:List Nat)(w:World):z6 L w w:=⟨rfl,rfl,rfl,a9 _,fun _ _ _=>rfl⟩
theorem step (h:z6 L w w1)(k:z6 M w1 w2)(hM: ∀m∈M,m∈L∨w.heap.size≤m):z6 L w w2:=
 ⟨k.os.trans h.os,k.tape.trans h.tape,k.output.trans h.output,j9 h.size k.size,fun i hi hn=>
  (k.block i (W6 hi h.size) (fun hm=>by rcases hM i hm with h1 | h1;exact hn h1;omega)).trans (h.block i hi hn)⟩
theorem trans (h:z6 L w w1)(k:z6 L w1 w2):z6 L w w2:=h.step k (fun _ hm=> .inl hm)
theorem Y (h:z6 L w w1)(k:z6 [] w1 w2):z6 L w w2:=h.step k (fun _ hm=>by cases hm)
theorem mono (h:z6 L w w')(hL: ∀m∈L,m∈M):z6 M w w':=⟨h.os,h.tape,h.output,h.size,fun k hk hn=>h.block k hk (fun hm=>hn (hL k hm))⟩
theorem ql2 (h:z6 L w w')(hL: ∀m∈L,w.heap.size≤m):z6 [] w w':=⟨h.os,h.tape,h.output,h.size,fun k hk _=>h.block k hk (fun hm=>by have:=hL k hm;omega)⟩
theorem drew (h:z6 L w w'):z6 L w w'.drew:=⟨h.os,h.tape,h.output,h.size,h.block⟩
theorem drewN (h:z6 L w w')(n:Nat):z6 L w (w'.drewN n):=⟨h.os,h.tape,h.output,h.size,h.block⟩
theorem alloc (h:z6 L w w')(o:Obj):z6 L w (w'.alloc o):=
 ⟨h.os,h.tape,h.output,j9 h.size (by simp),fun k hk hn=>(Below.heap_alloc _ _ _ (W6 hk h.size)).trans (h.block k hk hn)⟩
variable{p:Addr}
theorem setCell (h:z6 L w w')(hp:p.block∈L∨w.heap.size≤p.block)(u:Value):z6 L w (w'.setCell p u):=
 ⟨h.os,h.tape,h.output,by simpa[World.setCell]using h.size,fun k hk hn=>(Below.heap_setCell _ _ _ _ (fun e=>by subst e;rcases hp with hp | hp;exact hn hp;omega)).trans (h.block k hk hn)⟩
theorem dW {row:Option Nat}(h:w.grownBy w' row):z6 row.toList w w':=⟨h.os,h.tape,h.output,h.size,fun k hk hn=>h.block k hk (fun e=>hn (by subst e;simp))⟩
theorem uF (h:Below w.heap.size w w'):z6 [] w w':=⟨h.os,h.tape,h.output,h.size,fun k hk _=>h.block k hk⟩
theorem below {B:Nat}(h:z6 L w w')(hB:B≤w.heap.size)(hL: ∀m∈L,B≤m):Below B w w':=⟨h.os,h.tape,h.output,h.size,fun k hk=>h.block k (by omega) (fun hm=>by have:=hL k hm;omega)⟩
theorem tN (h:z6 [] w w'):Below w.heap.size w w':=h.below (a9 _) (fun _ hm=>by cases hm)
theorem cell (h:z6 L w w')(hp:p.block<w.heap.size)(hn:p.block∉L):w'.cell? p=w.cell? p:=World.cell?_of_block (w:=w) (h.block p.block hp hn)
theorem frozen (h:z6 L w w')(hp:p.block<w.heap.size)(hn:p.block∉L):w'.frozen? p=w.frozen? p:=World.frozen?_of_block (w:=w) (h.block p.block hp hn)
end z6
theorem add_lit (b off n:Nat):(⟨b,off,none⟩:Addr).add n=⟨b,off+n,none⟩:=by unfold Addr.add;split<;>simp_all
def j4 (w:World)(g:Nat)(t:TypeId)(cs:Array Value):Prop:=w.heap[g]? =some (.cells cs t (0,0))
section
variable {w w':World}{g:Nat}{t:TypeId}{cs:Array Value}{L:List Nat}
theorem j4.lt (h:j4 w g t cs):g<w.heap.size:=by
 rcases Oh g w.heap.size with Z | mj
 ·exact Z
 ·unfold j4 at h;rw[FU mj]at h;cases h
theorem j4.cell (h:j4 w g t cs)(i:Nat):w.cell? ⟨g,i,none⟩=cs[i]? :=cell_of_row w g i cs t (0,0) h
theorem j4.frozen (h:j4 w g t cs)(i:Nat):w.frozen? ⟨g,i,none⟩=false:=by
 unfold j4 at h;simp[World.frozen?,h]
theorem j4.new (w:World)(t:TypeId)(cs:Array Value):j4 (w.alloc (.cells cs t)) w.heap.size t cs:=heap_alloc_new w _
theorem j4.drew (h:j4 w g t cs):j4 w.drew g t cs:=h
theorem j4.drewN (h:j4 w g t cs)(n:Nat):j4 (w.drewN n) g t cs:=h
theorem j4.alloc (h:j4 w g t cs)(o:Obj):j4 (w.alloc o) g t cs:=(Below.heap_alloc w o g h.lt).trans h
theorem j4.V8 (h:j4 w g t cs)(i:Nat)(u:Value):j4 (w.setCell ⟨g,i,none⟩ u) g t (cs.setIfInBounds i u):=by
 unfold j4 at h⊢;simp[World.setCell,Array.getElem?_modify,h]
variable{p:Addr}
theorem j4.rD (h:j4 w g t cs)(hp:g≠p.block)(u:Value):j4 (w.setCell p u) g t cs:=(Below.heap_setCell w p u g hp).trans h
theorem j4.z7 (h:j4 w g t cs)(ht:z6 L w w')(hg:g∉L):j4 w' g t cs:=(ht.block g h.lt hg).trans h
theorem j4.ne_ {g':Nat}{t':TypeId}{cs':Array Value}(h:j4 w g t cs)(h':j4 w g' t' cs')(X3:t≠t'):g≠g':=by
 rintro rfl;unfold j4 at h h';rw[h]at h';injection h' with h';injection h' with _ ht;exact X3 ht
end
def Reads (w:World)(size:Nat)(v:Value)(n:Nat)(xs:List Value):Prop:=
 ∃A cap,v= .slice A n cap∧n≤cap∧cap≤maxLen∧xs.length=n*size∧(0<n→ ∃b off,A=some ⟨b,off,none⟩∧b<w.heap.size∧ ∀j u,xs[j]? =some u→w.cell? ⟨b,off+j,none⟩=some u)
section
variable {w w':World}{size n:Nat}{v:Value}{xs:List Value}{L:List Nat}
theorem Reads.nil (w:World)(size:Nat):Reads w size (.slice none 0 0) 0 []:=⟨none,0,rfl,a9 _,O2 _,by simp,fun h=>absurd h (by omega)⟩
theorem Reads.z7 (h:Reads w size v n xs)(ht:z6 L w w')(hv: ∀b∈rb v,b∉L):Reads w' size v n xs:=by
 obtain⟨A,cap,rfl,h1,h2,h3,h4⟩:=h;refine⟨A,cap,rfl,h1,h2,h3,fun hn=> ?_⟩;obtain⟨b,off,rfl,hb,hc⟩:=h4 hn;obtain⟨m,rfl⟩: ∃m,n=m+1:=⟨n - 1,by omega⟩;exact⟨b,off,rfl,W6 hb ht.size,fun j u hu=>(ht.cell (p:=⟨b,off+j,none⟩) hb (hv b (by simp[rb]))).trans (hc j u hu)⟩
theorem Reads.q8 (h:Reads w size v n xs)(ht:z6 [] w w'):Reads w' size v n xs:=h.z7 ht (fun _ _=>by simp)
theorem Reads.lt (h:Reads w size v n xs): ∀g∈rb v,g<w.heap.size:=by
 obtain⟨A,cap,rfl,h1,h2,h3,h4⟩:=h;intro g hg
 cases n with
 | zero=>cases A<;>simp[rb]at hg
 | succ n=>
  obtain⟨b,off,rfl,hb,hc⟩:=h4 (by omega);have:g=b:=by simpa[rb]using hg
  omega
variable{e:TypeId}
theorem Reads.JL {base:Nat}(h:w.ownsRow base e size v n xs)(hm:n≤maxLen):Reads w size v n xs:=by
 rcases h.2 with⟨rfl,rfl⟩ | ⟨g,cap,cur,rfl,hb,hg,hnc,hcm,Gb,zj0⟩
 ·have:xs= []:=List.eq_nil_of_length_eq_zero (by simpa using h.1);subst this;exact Reads.nil w size
 ·refine⟨some ⟨g,0,none⟩,cap,rfl,hnc,hcm,h.1,fun _=>⟨g,0,rfl,(Mu.1 hg).1,fun j u hu=> ?_⟩⟩;have:=h.cells (g:=g) rfl j u hu
  rwa [add_lit]at this
end
def Own (w:World)(e:TypeId)(size:Nat)(v:Value)(n:Nat)(xs:List Value):Prop:=w.ownsRow 0 e size v n xs
def S2 (w:World)(v v':Value):Prop:= ∀g∈m5 v',g∈m5 v∨w.heap.size≤g
theorem S2.refl (w:World)(v:Value):S2 w v v:=fun _ h=> .inl h
variable{a a':Act}{K F:Act→World→Prop}{L:Array Bool}{ops:Array Oper}{Q:Exit→Act→World→Prop}{xs news:List Value}{size bytes n m:Nat}{o:Oper}{s x:Operand}{P:Program}{md:Region.Mode}{t e:TypeId}{v v1 y:Value}{w w1:World}{S:World→Prop}
theorem S2.trans {v2:Value}(h:S2 w v v1)(h1:S2 w1 v1 v2)(hs:w.heap.size≤w1.heap.size):S2 w v v2:=fun g hg=>by
 rcases h1 g hg with h2 | h2
 ·exact h g h2
 ·exact .inr (by omega)
theorem z6.next {w2:World}(h:z6 (m5 v) w w1)(hf:S2 w v v1)(h1:z6 (m5 v1) w1 w2):z6 (m5 v) w w2:=h.step h1 hf
section
variable {w w':World}{e:TypeId}{size n:Nat}{v:Value}{xs:List Value}{L:List Nat}
theorem Own.nil (w:World)(e:TypeId)(size:Nat):Own w e size (.slice none 0 0) 0 []:=World.ownsRow_nil w 0 e size
theorem Own.len (h:Own w e size v n xs):xs.length=n*size:=h.1
theorem Own.z7 (h:Own w e size v n xs)(ht:z6 L w w')(hv: ∀b∈m5 v,b∉L):Own w' e size v n xs:=by
 refine⟨h.1,?_⟩;rcases h.2 with hn | ⟨g,cap,cur,rfl,hb,mu,rest⟩
 ·exact .inl hn
 ·exact .inr ⟨g,cap,cur,rfl,hb,by rw[ht.block g (Mu.1 mu).1 (hv g (by simp[m5]))];exact mu,rest⟩
theorem Own.q8 (h:Own w e size v n xs)(ht:z6 [] w w'):Own w' e size v n xs:=h.z7 ht (fun _ _=>by simp)
theorem Own.lt (h:Own w e size v n xs): ∀g∈m5 v,g<w.heap.size:=by
 rcases h.2 with⟨rfl,_⟩ | ⟨g',cap,cur,rfl,_,hh,_⟩
 ·intro g hg;cases hg
 ·intro g hg;have:g=g':=by simpa[m5]using hg
  subst this;exact(Mu.1 hh).1
theorem Own.form (h:Own w e size v n xs): ∃A cap,v= .slice A n cap:=by
 rcases h.2 with⟨rfl,rfl⟩ | ⟨g,cap,cur,rfl,_⟩
 ·exact⟨_,_,rfl⟩
 ·exact⟨_,_,rfl⟩
theorem Own.le (h:Own w e size v n xs):n≤maxLen:=by
 rcases h.2 with⟨rfl,rfl⟩ | ⟨g,cap,cur,rfl,_,_,h1,h2,_⟩
 ·simp[maxLen]
 ·omega
theorem Own.reads (h:Own w e size v n xs):Reads w size v n xs:=Reads.JL h h.le
theorem Own.zM (h:Own w e size v n xs):v.ownBlock.toList=m5 v:=by
 obtain⟨A,cap,rfl⟩:=h.form;cases A<;>rfl
theorem Own.tM (h:Own w e size v n xs)(hg:w.grownBy w' v.ownBlock):z6 (m5 v) w w':=by
 have:=z6.dW hg
 rwa [h.zM]at this
theorem Own.yf {e1:TypeId}{qs3 n1:Nat}{xs1:List Value}{v':Value}(h:Own w e size v n xs)(h':Own w1 e1 qs3 v' n1 xs1)(hf:v'.ownBlock=v.ownBlock∨ ∃g,v'.ownBlock=some g∧w.heap.size≤g):S2 w v v':=by
 intro g hg;rw[←h'.zM]at hg;rcases hf with hf | ⟨g',hf,hl⟩
 ·rw[hf,h.zM]at hg;exact .inl hg
 ·rw[hf]at hg;have:g=g':=by simpa using hg
  subst this;exact .inr hl
end
def Gf (P:Program)(t e:TypeId)(size bytes:Nat):Prop:=
 P.underlying t=some (.slice e)∧ ∃i z,P.info? e=some i∧i.zero=some z∧i.size=size∧i.bytes=bytes∧z.cells.size=size∧0<size
theorem Gf.mk {z:Value}(ht:P.underlying t=some (.slice e))(hi:(P.info? e).map (fun i=>(i.zero,i.size,i.bytes))=some (some z,size,bytes))(hz:z.cells.size=size)(hs:0<size):Gf P t e size bytes:=by
 obtain⟨i0,CM,mJ,aX,Vp⟩:=info_parts hi;exact⟨ht,i0,z,CM,mJ,aX,Vp,hz,hs⟩
section
variable {P:Program}{w:World}
theorem Ah {rest:List Oper}(he:Gf P t e size bytes)
  (Je:Own w e size v n xs) (news:List Value) (m c:Nat) (hb:(n+m)*bytes≤140737488355328) (CP:n+m≤maxLen)
  (h: ∀v' w',Own w' e size v' (n+m) (xs++news)→z6 (m5 v) w w'→S2 w v v'→wpList P ops Q rest (a.put o.dst v') w')
  (Cn:o.guard=none:=by rfl) (ho:o.op= .call { callee:= .builtin .append,args:=#[s,x],argTypes:=#[t,t] }:=by rfl)
  (hs:a.eval s=v:=by rfl) (hx:a.eval x= .slice (some ⟨w.heap.size,0,none⟩) m c:=by rfl) (hl:news.length=m*size:=by rfl) (h1: ∀u∈news,u.oneCell'=true:=by simp[Value.oneCell']):
  wpList P ops Q (o::rest) a (w.alloc (.cells news.toArray e)):=by
 obtain⟨ht,i,z,hi,hz,Cr,hby,Vj,Qm⟩:=he;have qc7:(w.alloc (.cells news.toArray e)).heap[w.heap.size]? =some (.cells news.toArray e (0,0)):=heap_alloc_new w _;refine wpList_append_own_at (P:=P) _ Cn s x t ho 0 e i z size bytes ht hi hz Cr hby Vj Qm v n xs hs (World.ownsRow.alloc Je _) ⟨w.heap.size,0,none⟩ m c news hx hl ?_ h1 CP hb (O2 _) ?_
 ·intro j u hu;exact World.news_of_block qc7 j u (by simpa using hu)
 ·intro v' w' h2 h3 _ h5;refine h v' w' h2 (Je.tM ?_) (Je.yf h2 ?_)
  ·have:=h3.size;simp at this;exact⟨h3.os,h3.tape,h3.output,by omega,fun k hk X3=>(h3.block k (by simp;omega) X3).trans (Below.heap_alloc w _ k hk)⟩
  ·rcases h5 with h5 | h5
   ·exact .inl h5
   ·exact .inr ⟨_,h5,by simp⟩
theorem Vi (t ty e:TypeId)(i:TypeInfo)(size:Nat)(ht:P.underlying t=some (.slice e))(hi:P.info? e=some i)
  (v:Value) (n:Nat) (xs:List Value) (Je:Own w e size v n xs) (A:Option Addr) (c:Nat):(Builtin.append_ #[t,t] ty #[v,.slice A 0 c]).run P w= .ok v w:=by
 rcases Je.2 with⟨rfl,rfl⟩ | ⟨g,cap,cur,rfl,_,_,hnc,_⟩
 ·cases A<;>simp[Builtin.append_,run_underlying ht,sizeOf,typeInfo,hi,Builtin.lenOf,Builtin.firstCells,loadCells,loadCellsFrom]
 ·cases A<;>simp[Builtin.append_,run_underlying ht,sizeOf,typeInfo,hi,Builtin.lenOf,Builtin.firstCells,hnc,storeCells,loadCells,loadCellsFrom]
theorem Xp {ty:TypeId}(he:Gf P t e size bytes)(v:Value)(n:Nat)(xs:List Value)(Je:Own w e size v n xs)
  (y:Value) (m:Nat) (news:List Value) (hr:Reads w size y m news) (h1: ∀u∈news,u.oneCell'=true) (hb:(n+m)*bytes≤140737488355328) (CP:n+m≤maxLen):
  ∃v' w',(Builtin.append_ #[t,t] ty #[v,y]).run P w= .ok v' w'∧Own w' e size v' (n+m) (xs++news)∧z6 (m5 v) w w'∧S2 w v v':=by
 obtain⟨ht,i,z,hi,hz,Cr,hby,Vj,Qm⟩:=he;obtain⟨A,cap,rfl,hmc,hcm,hlen,zD⟩:=hr;rcases Tu m with rfl | hm
 ·have hn:news= []:=List.eq_nil_of_length_eq_zero (by simpa using hlen);subst hn;exact⟨v,w,Vi t ty e i size ht hi v n xs Je A cap,by simpa using Je,z6.refl _ _,S2.refl _ _⟩
 ·obtain⟨b,off,rfl,Z,hc⟩:=zD hm;obtain⟨v',w',Bt,h2,h3,_,h5⟩:=run_append_own_at (P:=P) w 0 t ty e i z size bytes ht hi hz Cr hby Vj Qm v n xs Je ⟨b,off,none⟩ m cap news hlen (fun j u hu=>by rw[add_lit];exact hc j u hu) h1 CP hb (O2 _);exact⟨v',w',Bt,h2,Je.tM h3,Je.yf h2 (by rcases h5 with h5 | h5;exact .inl h5;exact .inr ⟨_,h5,a9 _⟩)⟩
theorem Vc (he:Gf P t e size bytes)(s x:Operand)
  (ho:o.op= .call { callee:= .builtin .append,args:=#[s,x],argTypes:=#[t,t] })
  (v:Value) (n:Nat) (xs:List Value) (hs:a.eval s=v) (Je:Own w e size v n xs) (y:Value) (m:Nat) (news:List Value)
  (hx:a.eval x=y) (hr:Reads w size y m news) (h1: ∀u∈news,u.oneCell'=true) (hb:(n+m)*bytes≤140737488355328) (CP:n+m≤maxLen)
  (h: ∀v' w',Own w' e size v' (n+m) (xs++news)→z6 (m5 v) w w'→S2 w v v'→K (a.put o.dst v') w'):o.wp P a w K Q:=by
 obtain⟨v',w',Bt,h2,h3,h4⟩:=Xp (ty:=o.type) he v n xs Je y m news hr h1 hb CP;unfold Oper.wp execOp;simp only[ho,resolve,invoke,builtin,Sem.run_bind,Sem.run_pure,Result.andThen_ok,List.map_toArray,Bw,kG,hs,hx,Bt];exact h v' w' h2 h3 h4
theorem mH {rest:List Oper}(he:Gf P t e size bytes)
  (Je:Own w e size v n xs) (hr:Reads w size y m news) (h1: ∀u∈news,u.oneCell'=true) (hb:(n+m)*bytes≤140737488355328) (CP:n+m≤maxLen)
  (h: ∀v' w',Own w' e size v' (n+m) (xs++news)→z6 (m5 v) w w'→S2 w v v'→wpList P ops Q rest (a.put o.dst v') w')
  (Cn:o.guard=none:=by rfl) (ho:o.op= .call { callee:= .builtin .append,args:=#[s,x],argTypes:=#[t,t] }:=by rfl)
  (hs:a.eval s=v:=by rfl) (hx:a.eval x=y:=by rfl):
  wpList P ops Q (o::rest) a w:=
 wpList_plain Cn fun _ hK=>Vc he s x ho v n xs hs Je y m news hx hr h1 hb CP fun v' w' h2 h3 h4=>hK _ _ (h v' w' h2 h3 h4)
theorem l7 {E:Prop}(he:Gf P t e size bytes)
  (Je:Own w e size v n xs) (hr:Reads w size y m news) (h1: ∀u∈news,u.oneCell'=true) (hb:(n+m)*bytes≤140737488355328) (CP:n+m≤maxLen)
  (h: ∀v' w',Own w' e size v' (n+m) (xs++news)→z6 (m5 v) w w'→S2 w v v'→K (a.put o.dst v') w')
  (Cn:o.guard=none:=by rfl) (ho:o.op= .call { callee:= .builtin .append,args:=#[s,x],argTypes:=#[t,t] }:=by rfl)
  (hs:a.eval s=v:=by rfl) (hx:a.eval x=y:=by rfl):
  if Region.wanted o (yielded ops a.tmps)=true then Oper.wp P o a w K Q else E:=by
 have hw:Region.wanted o (yielded ops a.tmps)=true:=by simp[Region.wanted,Cn]
 rw[x9 hw];exact Vc he s x ho v n xs hs Je y m news hx hr h1 hb CP h
end
theorem nz:(∀(a:Act) (i:Tmp) (v:Value),a.put (some i) v= { a with tmps:=a.tmps.setIfInBounds i v })∧(∀(a:Act) (v:Value),a.put none v=a)∧(∀(l:List Value) (i:Nat) (v:Value),l.toArray.setIfInBounds i v=(l.set i v).toArray)∧(∀(x:Value) (l:List Value) (v:Value),(x::l).set 0 v=v::l)∧(∀(x:Value) (l:List Value) (n:Nat) (v:Value),(x::l).set (n+1) v=x::l.set n v)∧
 (∀(l:List Oper) (i:Nat) (h:i<l.toArray.size),l.toArray[i]=l[i]'(by simpa using h))∧(∀(x:Oper) (l:List Oper) (i:Nat) (h:i+1< (x::l).length),(x::l)[i+1]=l[i]'(by simpa using h))∧(∀(x:Oper) (l:List Oper) (h:0< (x::l).length),(x::l)[0]=x):=
 ⟨fun _ _ _=>rfl,fun _ _=>rfl,fun l i v=>sY ..,fun _ _ _=>rfl,fun _ _ _ _=>rfl,fun _ _ _=>List.getElem_toArray ..,fun _ _ _ _=>rfl,fun _ _ _=>rfl⟩
theorem s8 {fuel:Nat}{listed:Array Bool}(r:Nat)(ho:ops[r]? =some o)
  (h: ∀K':Act→World→Prop,Shut (∀a w,S w→(S w→wpAnyH P md ops Q S fuel (listed.setIfInBounds r true) a w)→K' a w)→if Region.wanted o (yielded ops a.tmps)=true then Oper.wp P o a w K' Q else K' (a.put o.dst undef) w)
  (hr:Region.ready md ops listed= [r]:=by kernel_rfl):wpAnyH P md ops Q S (fuel+1) listed a w:=wpAnyH_ready hr (by simp) (AllReadyH.cons ho h AllReadyH.nil)
theorem kw (i:Nat)(hS:S w)(h:wpAnyH P md ops Q S n (L.setIfInBounds i true) a' w)
  (hi:ops[i]? =some o:=by rfl) (hs:Region.noSelect ops=true:=by kernel_rfl) (hf:Region.free md ops L i=true:=by kernel_rfl) (hr:(Region.ready md ops L).contains i=true:=by kernel_rfl)
  (hw:Region.wanted o (yielded ops a.tmps)=true:=by rfl) (hy: ∀W,S W→(execOp a.eval o).run P W= .ok (.value v) W:=by(intro W m7;go_simp<;>rfl))
  (hQ: ∀c a w,Q (.panic c) (a.put o.dst v) w→Q (.panic c) a w:=by exact fun _ _ _ h=>h) (hn:a.put o.dst v=a':=by(try simp only[nz]);rfl):wpAnyH P md ops Q S (n+1) L a w:=wpAnyH_take hi hs hf hr hQ (Or.inl ⟨hw,hy⟩) hS (by rw[hn];exact h)
theorem ku (i:Nat)(hS:S w)(h:wpAnyH P md ops Q S n (L.setIfInBounds i true) a' w)
  (hi:ops[i]? =some o:=by rfl) (hs:Region.noSelect ops=true:=by kernel_rfl) (hf:Region.free md ops L i=true:=by kernel_rfl) (hr:(Region.ready md ops L).contains i=true:=by kernel_rfl)
  (hw:Region.wanted o (yielded ops a.tmps)=false:=by rfl) (hQ: ∀c a w,Q (.panic c) (a.put o.dst undef) w→Q (.panic c) a w:=by exact fun _ _ _ h=>h) (hn:a.put o.dst undef=a':=by(try simp only[nz]);rfl):wpAnyH P md ops Q S (n+1) L a w:=wpAnyH_take hi hs hf hr hQ (Or.inr ⟨hw,rfl⟩) hS (by rw[hn];exact h)
theorem zk6 (hK:Shut (∀a w,S w→(S w→F a w)→K a w))(hS:S w)(h:F a' w)(hn:a=a':=by(try simp only[nz]);rfl):K a w:=hK.o a w hS (fun _=>by rw[hn];exact h)
theorem YU (hK:Shut (∀a w,S w→F a w→K a w))(hS:S w)(h:F a' w)(hn:a=a':=by(try simp only[nz]);rfl):K a w:=hK.o a w hS (by rw[hn];exact h)
theorem p7{w:World}{p:World→Prop}(h: ∀W,z6 [] w W→p W):Go.RowKit.Hid (∀W,z6 [] w W→p W):=h
def z8:=@z6.refl
end Go.Proofs.YtlhlmcohdkkjpaaGreatDoor
