/- An abstract interpreter of the model's code, twentieth part: scopes, results, marks; what is asked of statements. -/
import Derived.Test.YtlhlmcohdkkjpaaGreatDoorEvC
import Derived.RangeFuncNested
set_option linter.all false
namespace Go.Proofs.YtlhlmcohdkkjpaaGreatDoor.Ev
open Go
section scopes
variable {F:Fence}{n:Nat}{P:Program}
variable{a:Act}{c body:Code}{Q:Exit→Act→World→Prop}{b:Frame}{cs:List Frame}{k:List Item}{w:World}
theorem vN :step P (lone (b.atR a (.code (.scope c)::k)) cs w)= .next (lone (b.atR a (.code c:: .inScope c::k)) cs w):=
 step_lone_go (by simp[stepG,stepG.exec,Frame.atR])
theorem iQ :step P (lone (b.atR a (.inScope c::k)) cs w)= .next (lone (b.atR a k) cs w):=
 step_lone_go (by simp[stepG,stepG.exec,Frame.atR])
def aH (F:Fence)(n:Nat)(P:Program)(body:Code)(Q:Exit→Act→World→Prop):Nat→Code→Act→World→Prop
 | 0,_,_,_=>False
 | m+1,rest,a,w=>rest.wpIn F n P (fun e a w=>match e with
   | .goto l=>match findLabel body l with
    | some r=>aH F n P body Q m r a w
    | none=>Q (.goto l) a w
   | e=>Q e a w) a w
theorem zR (m:Nat)(h:aH F n P body Q m body a w):(Code.scope body).wpIn F n P Q a w:=by
 intro b k cs hro hb hr
 have key: ∀m rest a w,aH F n P body Q m rest a w→ ∃e a' w',Q e a' w'∧ArrivesIn (Machine.fenced P F) P (lone (b.atR a (.code rest:: .inScope body::k)) cs w) b k cs e a' w':=by
  intro m
  induction m with
  | zero=>intro rest a w h;exact h.elim
  | succ m ih=>
   intro rest a w h;obtain⟨e,a1,w1,hq,bR⟩:=h b (.inScope body::k) cs hro hb hr
   cases e with
   | normal=>exact⟨.normal,a1,w1,hq,StepsIn.trans bR (.one (fenced_calm (fr:=b.atR a1 (.inScope body::k)) hb hr rfl) iQ)⟩
   | exit id=>exact⟨.exit id,a1,w1,hq,fun k' hk=>bR.1 k' (by simpa[exitTo]using hk),fun h1 h2=>bR.2 h1 (by simpa[exitTo]using h2)⟩
   | goto l=>
    cases hf:findLabel body l with
    | none=>
     simp only[hf]at hq;exact⟨.goto l,a1,w1,hq,fun k' hk=>bR.1 k' (by simpa[gotoIn,hf]using hk),fun h1 h2=>bR.2 h1 (by simpa[gotoIn,hf]using h2)⟩
    | some r=>
     simp only[hf]at hq;obtain⟨e2,a2,w2,Ba,qu5⟩:=ih r a1 w1 hq;exact⟨e2,a2,w2,Ba,.of_steps (bR.1 _ (by simp[gotoIn,hf])) qu5⟩
   | ret=>exact⟨.ret,a1,w1,hq,bR⟩
   | panic ch=>exact⟨.panic ch,a1,w1,hq,bR⟩
   | outgrown=>exact⟨.outgrown,a1,w1,hq,bR⟩
 obtain⟨e,a',w',hq,bR⟩:=key m body a w h;exact⟨e,a',w',hq,.of_steps (.one (fenced_calm (fr:=b.atR a (.code (.scope body)::k)) hb hr rfl) vN) bR⟩
end scopes
theorem UJ (H:Tr v5)(b nx:Nat):Dm H.get (H.put none b).get nx nx:=
 ⟨a9 _,fun k hk=>by
  by_cases e:k=b
  ·subst e;rw[Tr.V2]at hk;exact absurd rfl hk
  ·rw[Tr.a8 _ _ e]at hk;exact .inl hk⟩
variable{A:Act}{ps:Array Tmp}{c assign body:Code}{η o7:Env}{ex:Ex}{Q:Exit→Act→World→Prop}{F:xC}{fn:Func}{h hp:Hp}{ds D8:List Nat}{nx m n nt Iu L6 l j5:Nat}{pe:Option Code}{ro P7:Option Nat}{P:Program}{H H1 H2 H':Tr v5}{tm G0:Tr V}{v:V}{w:World}
theorem Y6.zb7 {w':World}(p:Ek η h w H.get nx nx){b:Nat}{B:Nat×Nat}{o:v5}(hb:H.get b=some o)(hB:η.m5 b=some B)
  (Np: ∀k,k≠B.1→w'.heap[k]? =w.heap[k]?) (hos:w'.os=w.os) (sJ:w'.tape=w.tape) (yA:w'.output=w.output) (cI:w.heap.size≤w'.heap.size):
  Y6 η h w H.get (H.put none b).get nx nx η w':=by
 have vh:=p.ext b o hb
 have wT:Mz h H.get (H.put none b).get nx nx=fun k=>if k=b then none else h k:=by
  funext k
  by_cases e:k=b
  ·subst e;rw[Y2 (.inl (by rw[hb];simp)),Tr.V2];simp
  ·by_cases hk:H.get k≠none
   ·rw[Y2 (.inl hk),Tr.a8 _ _ e];simp only[e,if_false]
    cases ho:H.get k with
    | none=>exact absurd ho hk
    | some o2=>exact(p.ext k o2 ho).symm
   ·rw[M7 (by intro hc;rcases hc with hc | hc;exact hk hc;omega)];simp[e]
 have Wa: ∀k,(if k=b then none else h k)≠none→k≠b∧h k≠none:=fun k hk=>by
  by_cases e:k=b
  ·simp[e]at hk
  ·exact⟨e,by simpa only[e,if_false]using hk⟩
 refine⟨.refl η,fun _ _=>⟨rfl,rfl,rfl⟩,?_,?_,⟨hos,sJ,yA,cI,fun k _ hn=>Np k (fun e=>hn ⟨b,B,by rw[vh];simp,hB,e.symm⟩)⟩⟩
 ·rw[wT];refine⟨fun k o2 hk=> ?_,fun k k' K K' hk Qi hK rC e=>p.rh.inj k k' K K' (Wa k hk).2 (Wa k' Qi).2 hK rC e⟩;obtain⟨e,V9⟩:=Wa k (by rw[hk];simp);simp only[e,if_false]at hk;obtain⟨K,co2,h1,h2,h3⟩:=p.rh.live k o2 hk;exact⟨K,co2,h1,by rw[Np _ (fun e2=>e (p.rh.inj k b K B V9 (by rw[vh];simp) h1 hB e2))];exact h2,h3⟩
 ·rw[wT];rintro k ⟨j,J,hj,hJ,rfl⟩;exact .inl ⟨j,J,(Wa j hj).2,hJ,rfl⟩
def dB (A:Array Value):ResultVar→Sem Value
 | .tmp t=>pure (A.getD t Go.undef)
 | .cell a t=>do loadVar t (←asAddr (A.getD a Go.undef))
theorem qj (fn:Func)(A:Array Value):results fn A=(do
  let vs←fn.results.mapM (dB A)
  pure (if h:vs.size=1 then vs[0]else .tuple vs)):=by
 unfold results
 congr 1
theorem SF {r:ResultVar}{g:Bool}{l:List At}(h:mU P tm H r=some (g,l)){A:Array Value}(ext: ∀b o,H.get b=some o→hp b=some o)(rh:RH η hp w)(ra:RA η tm A):
  ∃cv,comp η g l=some cv∧(dB A r).run P w= .ok cv w:=by
 cases r with
 | tmp t=>
  simp only[mU]at h;split at h
  ·rename_i g' l' hv;cases h;exact⟨_,ra t _ hv,by simp[dB]⟩
  ·cases h
 | cell a t=>
  simp only[mU]at h;split at h
  ·rename_i q hv;split at h
   ·rename_i g' l' hl;cases h;have hq:=l6.1 (ra a _ hv);obtain⟨cv,h1,h2⟩:=lW hl ext rh hq;refine⟨cv,h1,?_⟩;cases q<;>simp only[Gr]at hl<;>try(cases hl;done)
    obtain⟨B,hB,he⟩:=Ci hq;simp only[dB];rw[he]at h2⊢;simp only[Instr.loadAt,Instr.sureAddr,Sem.run_bind,Sem.run_pure,Result.andThen_ok]at h2;simp only[Sem.run_bind,asAddr,Sem.run_pure,Result.andThen_ok,h2]
   ·cases h
  ·cases h
theorem KY {A:Array Value}(ext: ∀b o,H.get b=some o→hp b=some o)(rh:RH η hp w)(ra:RA η tm A): ∀(l:List ResultVar) (cs:List (Bool×List At)),Jj P tm H l=some cs→
  ∃vs,comps η cs=some vs∧(l.mapM (dB A)).run P w= .ok vs w:=by
 intro l
 induction l with
 | nil=>intro cs h;simp[Jj]at h;subst h;exact⟨[],rfl,by simp⟩
 | cons r l ih=>
  intro cs h;simp only[Jj]at h
  cases hc:mU P tm H r with
  | none=>simp[hc]at h
  | some c=>cases hl:Jj P tm H l with
   | none=>simp[hc,hl]at h
   | some cs'=>
    obtain⟨g,m⟩:=c;simp[hc,hl]at h;subst h;obtain⟨cv,h1,h2⟩:=SF hc ext rh ra;obtain⟨vs,h3,h4⟩:=ih cs' hl;refine⟨cv::vs,by simp[comps,h1,h3],?_⟩;rw[List.mapM_cons];simp only[Sem.run_bind,h2,Result.andThen_ok,h4,Sem.run_pure]
theorem qu {cs:List (Bool×List At)}(h:Jj P tm H fn.results.toList=some cs){A:Array Value}(ext: ∀b o,H.get b=some o→hp b=some o)(rh:RH η hp w)(ra:RA η tm A):
  ∃cv,(xW cs).j2 η=some cv∧(results fn A).run P w= .ok cv w:=by
 obtain⟨vs,h1,h2⟩:=KY ext rh ra _ _ h
 have hm:(results fn A).run P w= .ok (if h:(⟨vs⟩:Array Value).size=1 then(⟨vs⟩:Array Value)[0]else .tuple ⟨vs⟩) w:=by
  rw[qj,Array.mapM_eq_mapM_toList];simp only[map_eq_pure_bind,bind_assoc,pure_bind,Sem.run_bind,h2,Result.andThen_ok,Sem.run_pure]
 refine⟨_,?_,hm⟩
 match cs,h1 with
 | [],h1=>simp[comps]at h1;subst h1;rfl
 | [(g,l)],h1=>
  simp only[comps]at h1
  cases hc:comp η g l with
  | none=>simp[hc]at h1
  | some v=>simp[hc]at h1;subst h1;simp[xW,V.j2,hc]
 | a::b::r,h1=>
  have hlen:1<vs.length:=by
   obtain⟨g,l⟩:=a;obtain⟨g',l'⟩:=b;simp only[comps]at h1
   cases hc:comp η g l with
   | none=>simp[hc]at h1
   | some v=>cases gR:comp η g' l' with
    | none=>simp[hc,gR]at h1
    | some v'=>cases hr:comps η r with
     | none=>simp[hc,gR,hr]at h1
     | some vs'=>simp[hc,gR,hr]at h1;subst h1;simp
  have X3: ¬((⟨vs⟩:Array Value).size=1):=by show¬(vs.length=1);omega
  rw[dif_neg X3];simp only[xW,V.j2,h1]
def CQ:Ex→Exit
 | .normal=> .normal
 | .exit i=> .exit i
 | .goto l=> .goto l
 | .ret=> .ret
def DR (η:Env):List Nat→List Deferred→Prop
 | [],[]=>True
 | d::ds,x::xs=>(∃D,η.m5 d=some D∧x= { target:= .collected D.1,args:=#[] })∧DR η ds xs
 | _,_=>False
theorem DR.mono (hle:η.le o7): ∀ {ds:List Nat} {xs:List Deferred},DR η ds xs→DR o7 ds xs
 | [],[],_=>trivial
 | [],_::_,h=>h.elim
 | _::_,[],h=>h.elim
 | _::_,_::_,⟨⟨D,h1,h2⟩,h⟩=>⟨⟨D,(hle.m5 _ _ h1).1,h2⟩,h.mono hle⟩
def RO (η:Env):Option Nat→Option Nat→Prop
 | none,none=>True
 | some l,some L=> ∃β,η.m5 l=some (L,β)
 | _,_=>False
theorem RO.mono (hle:η.le o7): ∀ {ro P7:Option Nat},RO η ro P7→RO o7 ro P7
 | none,none,_=>trivial
 | none,some _,h=>h.elim
 | some _,none,h=>h.elim
 | some _,some _,⟨β,h⟩=>⟨β,(hle.m5 _ _ h).1⟩
def WpC (m:Nat)(F:Fence)(n:Nat)(P:Program)(c:Code)(Q:Exit→Act→World→Prop)(A:Act)(w:World):Prop:=
 match c with
 | .loop b=>Code.roundsIn F n P b Q m A w
 | c=>c.wpIn F n P Q A w
theorem WpC.wp {F:Fence}(h:WpC m F n P c Q A w):c.wpIn F n P Q A w:=by
 cases c<;>first | exact h | exact wpIn_loop_rounds m h
structure Ctx (P:Program)(nt:Nat)(η:Env)(h:Hp)(w:World)(H:Tr v5)(nx j5:Nat)(tm:Tr V)(ds:List Nat)(ro:Option Nat)(A:Act)(P7:Option Nat):Prop where
 pre:Ek η h w H.get nx j5
 ra:RA η tm A.tmps
 sz:A.tmps.size=nt
 dr:DR η ds A.defers
 gl:η.Bn P
 ro:RO η ro P7
def Ends (η:Env)(h:Hp)(w:World)(H H':Tr v5)(nx j5:Nat)(G0:Tr V)(D8:List Nat)(nt:Nat)(Q:Act→World→Prop):Prop:=
 ∀o7 w' A',Y6 η h w H.get H'.get nx j5 o7 w'→RA o7 G0 A'.tmps→A'.tmps.size=nt→DR o7 D8 A'.defers→Q A' w'
def KG (P:Program)(m:Nat)(c:Code)(nt:Nat)(ro:Option Nat)(tm:Tr V)(H:Tr v5)(nx:Nat)(ds:List Nat)(ex:Ex)(G0:Tr V)(H':Tr v5)(j5:Nat)(D8:List Nat):Prop:=
 Dm H.get H'.get nx j5∧ ∀η h w A P7 n Q,Ctx P nt η h w H nx j5 tm ds ro A P7→Ends η h w H H' nx j5 G0 D8 nt (Q (CQ ex))→WpC m (fe P7) n P c Q A w
def fj (P:Program)(m:Nat)(b r:Code)(nt:Nat)(ro:Option Nat)(tm:Tr V)(H:Tr v5)(nx:Nat)(ds:List Nat)(ex:Ex)(G0:Tr V)(H':Tr v5)(j5:Nat)(D8:List Nat):Prop:=
 Dm H.get H'.get nx j5∧ ∀η h w A P7 n Q,Ctx P nt η h w H nx j5 tm ds ro A P7→Ends η h w H H' nx j5 G0 D8 nt (Q (CQ ex))→aH (fe P7) n P b Q m r A w
structure kN (P:Program)(F:xC)(m:Nat):Prop where
 ops:kM P F
 code: ∀c nt ro tm H nx ds ex G0 H' j5 D8,F.code c nt ro tm H nx ds=some (ex,G0,H',j5,D8)→KG P m c nt ro tm H nx ds ex G0 H' j5 D8
 scope: ∀b r nt ro tm H nx ds ex G0 H' j5 D8,F.scope b r nt ro tm H nx ds=some (ex,G0,H',j5,D8)→fj P m b r nt ro tm H nx ds ex G0 H' j5 D8
theorem Ctx.next (c:Ctx P nt η h w H nx Iu tm ds ro A P7)
  {H1:Tr v5} {L6:Nat} {O4:Env} {w1:World} (d:Dm H.get H1.get nx L6) (s:Y6 η h w H.get H1.get nx L6 O4 w1) {Yw:Tr V} {bG:List Nat} {A1:Act} (ra:RA O4 Yw A1.tmps) (sz:A1.tmps.size=nt) (dr:DR O4 bG A1.defers):
  Ctx P nt O4 (Mz h H.get H1.get nx L6) w1 H1 L6 Iu Yw bG ro A1 P7:=
 ⟨c.pre.next d s,ra,sz,dr,Ki c.gl s.le,c.ro.mono s.le⟩
theorem Ctx.less (c:Ctx P nt η h w H nx Iu tm ds ro A P7)(hle:L6≤Iu):
  Ctx P nt η h w H nx L6 tm ds ro A P7:=⟨c.pre.less hle,c.ra,c.sz,c.dr,c.gl,c.ro⟩
theorem Ends.next {Q:Act→World→Prop}(e:Ends η h w H H2 nx Iu G0 D8 nt Q){O4:Env}{w1:World}
  (d1:Dm H.get H1.get nx L6) (d2:Dm H1.get H2.get L6 Iu) (s:Y6 η h w H.get H1.get nx L6 O4 w1):Ends O4 (Mz h H.get H1.get nx L6) w1 H1 H2 L6 Iu G0 D8 nt Q:=
 fun o7 w' A' s' ra sz dr=>e o7 w' A' (Y6.trans d1 d2 s s') ra sz dr
theorem Xk {st:LoopState}(h:Es H l st pe=some H')(nx:Nat):Dm H.get H'.get nx nx:=by
 unfold Es at h;split at h
 ·rename_i hb;cases h;exact Wk hb _ _
 ·cases h
theorem Oo (p:Ek η h w H.get nx j5){st:LoopState}{df:Nat}
  (hl:H.get l=some (.loop st pe tm nt ps assign body df)) {L:Nat×Nat} (hL:η.m5 l=some L):
  ∃f A D,w.heap[L.1]? =some (.loop ⟨st,pe,f,A,ps,assign,body,D⟩)∧RA η tm A∧A.size=nt∧ ∃β,η.m5 df=some (D,β):=by
 obtain⟨B,co,hB,hw,f,A,D,rfl,h1,h2,h3⟩:=p.rh.live l _ (p.ext l _ hl);obtain rfl:L=B:=Z3 (hL.symm.trans hB);exact⟨f,A,D,hw,h1,h2,h3⟩
theorem Xf (p:Ek η h w H.get nx nx){DJ:LoopState}{ZR:Option Code}(hs:Es H l DJ ZR=some H'){L:Nat×Nat}(hL:η.m5 l=some L):
  ∃r:Loop,w.heap[L.1]? =some (.loop r)∧(setObj L.1 (.loop { r with state:=DJ,pending:=ZR })).run P w= .ok () { w with heap:=w.heap.setIfInBounds L.1 (.loop { r with state:=DJ,pending:=ZR }) }∧
   Y6 η h w H.get H'.get nx nx η { w with heap:=w.heap.setIfInBounds L.1 (.loop { r with state:=DJ,pending:=ZR }) }:=by
 unfold Es at hs;split at hs
 ·rename_i st pe tm nt ps assign body df hl;cases hs;obtain⟨f,A,D,hw,h1,h2,h3⟩:=Oo p hl hL;have Z:L.1<w.heap.size:=(Mu.1 hw).1;refine⟨_,hw,by simp[setObj,Sem.run,hw],(Y6.set (w':= { w with heap:=w.heap.setIfInBounds L.1 (.loop ⟨DJ,ZR,f,A,ps,assign,body,D⟩) }) p hl hL (mf:= .loop ⟨DJ,ZR,f,A,ps,assign,body,D⟩) (o':= .loop DJ ZR tm nt ps assign body df) ?_ ?_ rfl rfl rfl (by simp) ⟨f,A,D,rfl,h1,h2,h3⟩).2⟩
  ·simp[Z]
  ·intro j hj;simp[rX (W5 hj)]
 ·cases hs
theorem pG (hF:kN P F m)
  (he:Fy F l nt ro tm ds (some (v,H2,Iu))=some (ex,G0,H',j5,D8)):
  Dm H2.get H'.get Iu j5∧ ∀η h w A P7 n Q L,Ctx P nt η h w H2 Iu j5 tm ds ro A P7→η.m5 l=some L→Ends η h w H2 H' Iu j5 G0 D8 nt (Q (CQ ex))→
   ∃jump w4,(Instr.endLoop L.1).run P w= .ok jump w4∧(match jump with | none=>Q .normal A w4 | some c=>c.wpIn (fe P7) n P Q A w4):=by
 unfold Fy at he;simp only at he;split at he
 ·rename_i st pe tmL ntL ps assign body df hl
  have key: ∀H3,Es H2 l .exhausted pe=some H3→(match pe with | none=>some (Ex.normal,tm,H3,Iu,ds) | some c=>F.code c nt ro tm H3 Iu ds)=some (ex,G0,H',j5,D8)→st≠ .busy→
    Dm H2.get H'.get Iu j5∧ ∀η h w A P7 n Q L,Ctx P nt η h w H2 Iu j5 tm ds ro A P7→η.m5 l=some L→Ends η h w H2 H' Iu j5 G0 D8 nt (Q (CQ ex))→
     ∃jump w4,(Instr.endLoop L.1).run P w= .ok jump w4∧(match jump with | none=>Q .normal A w4 | some c=>c.wpIn (fe P7) n P Q A w4):=by
   intro H3 h3 Np Z7;have d1:=Xk h3 Iu
   have run: ∀ {η:Env} {h:Hp} {w:World} {L:Nat×Nat},Ek η h w H2.get Iu Iu→η.m5 l=some L→ ∃w4,(Instr.endLoop L.1).run P w= .ok pe w4∧Y6 η h w H2.get H3.get Iu Iu η w4:=by
    intro η h w L p hL;obtain⟨f,A,D,hw,_,_,_⟩:=Oo p hl hL;obtain⟨r,hr,qb7,mZ⟩:=Xf (P:=P) p h3 hL;rw[hw]at hr;cases hr;refine⟨_,?_,mZ⟩;have hg:(Instr.getLoop L.1).run P w= .ok ⟨st,pe,f,A,ps,assign,body,D⟩ w:=by simp[Instr.getLoop,getObj,Sem.run,hw]
    have hb: ¬((st==LoopState.busy)=true):=by simpa using Z7
    simp only[Instr.endLoop,Sem.run_bind,hg,Result.andThen_ok,z9 hb,qb7,Sem.run_pure]
   cases pe with
   | none=>
    cases Np;refine⟨d1,fun η h w A P7 n Q L c hL hQ=> ?_⟩;obtain⟨w4,h1,h2⟩:=run c.pre hL;exact⟨none,w4,h1,hQ η w4 A h2 c.ra c.sz c.dr⟩
   | some cd=>
    obtain⟨d2,h5⟩:=hF.code _ _ _ _ _ _ _ _ _ _ _ _ Np;refine⟨d1.trans d2,fun η h w A P7 n Q L c hL hQ=> ?_⟩;obtain⟨w4,h1,h2⟩:=run (c.pre.less d2.le) hL;refine⟨some cd,w4,h1,(h5 η _ w4 A P7 n Q (c.next d1 h2 c.ra c.sz c.dr) (hQ.next d1 d2 h2)).wp⟩
  split at he
  ·cases he
  ·rename_i Nb;split at he
   ·rename_i H3 h3;refine key H3 h3 ?_ (fun e=>Nb e);cases pe<;>exact he
   ·cases he
 ·cases he
theorem LG : ∀(ps:List Tmp) (vs:List V) (cs:List Value) (tm G0:Tr V) (A:Array Value),bZ nt ps vs tm=some G0→VL η vs cs→RA η tm A→A.size=nt→
  ps.length=cs.length∧RA η G0 ((ps.zip cs).foldl (fun t (p:Tmp×Value)=>t.setIfInBounds p.1 p.2) A)∧((ps.zip cs).foldl (fun t (p:Tmp×Value)=>t.setIfInBounds p.1 p.2) A).size=nt:=by
 intro ps
 induction ps with
 | nil=>
  intro vs cs tm G0 A h hv ra hn
  cases vs with
  | nil=>
   cases cs with
   | nil=>simp[bZ]at h;subst h;exact⟨rfl,ra,hn⟩
   | cons _ _=>exact hv.elim
  | cons _ _=>simp[bZ]at h
 | cons p ps ih=>
  intro vs cs tm G0 A h hv ra hn
  cases vs with
  | nil=>simp[bZ]at h
  | cons v vs=>
   cases cs with
   | nil=>exact hv.elim
   | cons c cs=>
    simp only[bZ]at h;split at h
    ·rename_i Z;have hp:p<A.size:=by rw[hn];exact Ce Z
     obtain⟨h1,h2,h3⟩:=ih vs cs _ G0 (A.setIfInBounds p c) h hv.2 (ra.put hp hv.1) (by simp[hn]);exact⟨by simp[h1],h2,h3⟩
    ·cases h
theorem pF (hF:kN P F m){args:List V}(he:Wv F l args H nx=some (v,H',j5)):oX P l args H nx v H' j5:=by
 unfold Wv at he;split at he
 ·rename_i st0 pe0 tm nt ps assign body df hl;split at he
  ·rename_i tm0 hps;split at he
   ·rename_i Yw H1 L6 ze8;split at he
    ·rename_i pe1 tmL ntL psL qp7 YR dfL hl1;split at he
     ·rename_i H2 h2;obtain⟨d1,hA⟩:=hF.code _ _ _ _ _ _ _ _ _ _ _ _ ze8;have d2:=Xk h2 L6
      -- the end of the round,whichever it is
      have key: ∀(ex:Ex) (tm3:Tr V) (H3:Tr v5) (gT:Nat) (DJ:LoopState) (jump:Option Code) (H4:Tr v5),F.code body nt (some l) Yw H2 L6 []=some (ex,tm3,H3,gT,[])→Es H3 l DJ jump=some H4→
        (DJ=if jump.isNone then .ready else .done)→(∀(R:Ending→World→Prop) L A w,(∃v w',(Instr.endRound L jump).run P w= .ok v w'∧R (.returned v) w')→roundPost P L R (CQ ex) A w)→
        oX P l args H nx (.one (.bool jump.isNone)) H4 gT:=by
       intro ex tm3 H3 gT DJ jump H4 Nr h4 qn2 IE;obtain⟨d3,hB⟩:=hF.code _ _ _ _ _ _ _ _ _ _ _ _ Nr;have d4:=Xk h4 gT;refine⟨((d1.trans d2).trans d3).trans d4,fun η h w X8 L p Yx hg hL=> ?_⟩;obtain⟨f,A,D,hw,Hu,Cr,_⟩:=Oo p hl hL;obtain⟨hlen,zc8,qn1⟩:=LG ps.toList args X8 tm tm0 A hps Yx Hu Cr;refine⟨f,(ps.toList.zip X8).foldl (fun t (p:Tmp×Value)=>t.setIfInBounds p.1 p.2) A,assign,body,?_,fun n=> ?_⟩
       ·have DY:(Instr.getLoop L.1).run P w= .ok ⟨st0,pe0,f,A,ps,assign,body,D⟩ w:=by simp[Instr.getLoop,getObj,Sem.run,hw]
        have hs: ¬((⟨X8⟩:Array Value).size≠ps.size):=by
         intro hc;apply hc;show X8.length=ps.size;rw[←hlen];simp
        have hz:(ps.zip ⟨X8⟩).foldl (fun tmps (x:Tmp×Value)=>tmps.setIfInBounds x.1 x.2) A=(ps.toList.zip X8).foldl (fun t (p:Tmp×Value)=>t.setIfInBounds p.1 p.2) A:=by
         rw[←Array.foldl_toList];simp
        simp only[Instr.yield,Sem.run_bind,DY,Result.andThen_ok,z9 hs,Sem.run_pure];rw[←hz]
       ·refine roundIn_of_wpIn (F:=fe none) trivial ?_;have hro:RO η (some l) (some L.1):=⟨L.2,hL⟩;have Jn:L6≤gT:=d3.le;refine(hA η h w ⟨_,[]⟩ (some L.1) n _ ⟨p.less Jn,zc8,qn1,trivial,hg,hro⟩ (fun O4 w1 A1 s1 Fh Km Iv=> ?_)).wp;have p1:=p.next d1 s1;have hL1:O4.m5 l=some L:=(s1.le.m5 l L hL).1;obtain⟨f1,A1',D1,gN,_,_,_⟩:=Oo p1 hl1 hL1;obtain⟨r1,hr1,qt7,qt6⟩:=Xf (P:=P) (p1.less Jn) h2 hL1;rw[gN]at hr1;cases hr1;refine⟨{ w1 with heap:=w1.heap.setIfInBounds L.1 (.loop ⟨.busy,pe1,f1,A1',psL,qp7,YR,D1⟩) },?_,?_⟩
        ·have WQ:(Instr.getLoop L.1).run P w1= .ok ⟨.ready,pe1,f1,A1',psL,qp7,YR,D1⟩ w1:=by simp[Instr.getLoop,getObj,Sem.run,gN]
         simp only[Instr.beginRound,Sem.run_bind,WQ,Result.andThen_ok,qt7,Sem.run_pure]
        ·have s12:=Y6.trans d1 d2 s1 qt6;have p2:Ek O4 (Mz h H.get H2.get nx L6) _ H2.get L6 gT:=p.next (d1.trans d2) s12;have ze4:A1.defers= []:=by cases hd:A1.defers with | nil=>rfl | cons _ _=>rw[hd]at Iv;exact Iv.elim
         refine(hB O4 _ _ A1 (some L.1) n _ ⟨p2,Fh,Km,by rw[ze4];trivial,Ki hg s1.le,⟨L.2,hL1⟩⟩ (fun η3 w3 A3 s3 ra3 sz3 dr3=> ?_)).wp;have s13:=Y6.trans (d1.trans d2) d3 s12 s3;have p3:Ek η3 (Mz h H.get H3.get nx gT) w3 H3.get gT gT:=p.next ((d1.trans d2).trans d3) s13;have hL3:η3.m5 l=some L:=(s3.le.m5 l L hL1).1;obtain⟨r3,hr3,YE,qt5⟩:=Xf (P:=P) p3 h4 hL3;refine IE _ _ _ _ ⟨.bool jump.isNone,_,?_,.bool jump.isNone,η3,rfl,l6.2 rfl,Y6.trans ((d1.trans d2).trans d3) d4 s13 qt5⟩;have hg3:(Instr.getLoop L.1).run P w3= .ok r3 w3:=by simp[Instr.getLoop,getObj,Sem.run,hr3]
         rw[qn2]at YE;simp only[Instr.endRound,Sem.run_bind,hg3,Result.andThen_ok,YE,Sem.run_pure];rw[qn2]
      split at he
      ·rename_i tm3 H3 gT Nr;split at he
       ·rename_i H4 h4;cases he;exact key .normal _ _ _ _ none _ Nr h4 rfl (fun R L A w h=>h)
       ·cases he
      ·rename_i tm3 H3 gT Nr;split at he
       ·rename_i H4 h4;cases he;exact key .ret _ _ _ _ (some .ret) _ Nr h4 rfl (fun R L A w h=>h)
       ·cases he
      ·rename_i id tm3 H3 gT Nr;split at he
       ·rename_i H4 h4;cases he;exact key (.exit id) _ _ _ _ (some (.exit id)) _ Nr h4 rfl (fun R L A w h=>h)
       ·cases he
      ·rename_i t tm3 H3 gT Nr;split at he
       ·rename_i H4 h4;cases he;exact key (.goto t) _ _ _ _ (some (.goto t)) _ Nr h4 rfl (fun R L A w h=>h)
       ·cases he
      ·cases he
     ·cases he
    ·cases he
   ·cases he
  ·cases he
 ·cases he
theorem mA {R:Ending→World→Prop}{tmps:Array Value}: ∀(ds:List Nat) (H H':Tr v5) (xs:List Deferred),Ld ds H=some H'→
  Dm H.get H'.get nx nx∧ ∀η h w,Ek η h w H.get nx nx→DR η ds xs→(∀w',Y6 η h w H.get H'.get nx nx η w'→ ∃v,(results fn tmps).run P w'= .ok v w'∧R (.returned v) w')→LeavesInM (fe none) n P fn tmps R xs .returning w:=by
 intro ds
 induction ds with
 | nil=>
  intro H H' xs h;simp[Ld]at h;subst h;refine⟨Dm.refl _ _,fun η h w p dr hR=> ?_⟩
  cases xs with
  | nil=>exact hR w (Y6.refl p.ext p.rh)
  | cons _ _=>exact dr.elim
 | cons d ds ih=>
  intro H H' xs h;simp only[Ld]at h;split at h
  ·rename_i hd;have d1:=UJ H d nx
   cases xs with
   | nil=>
    obtain⟨d2,_⟩:=ih (H.put none d) H' [] h;exact⟨d1.trans d2,fun η h w p dr hR=>dr.elim⟩
   | cons x xs=>
    obtain⟨d2,nA⟩:=ih (H.put none d) H' xs h;refine⟨d1.trans d2,fun η h w p dr hR=> ?_⟩;obtain⟨⟨D,hD,rfl⟩,dr⟩:=dr;obtain⟨B,co,hB,hw,hrel⟩:=p.rh.live d _ (p.ext d _ hd);obtain rfl:D=B:=Z3 (hD.symm.trans hB);have hco:co= .deferred (some []):=hrel;subst hco;have YJ:=Y6.zb7 (w':= { w with heap:=w.heap.setIfInBounds D.1 (.deferred none) }) p hd hD (fun k hk=>by simp[rX (W5 hk)]) rfl rfl rfl (by simp);refine⟨by simp,.inl ⟨D.1,_,rfl,?_,nA η _ _ (p.next d1 YJ) dr (fun w' s'=>hR w' (Y6.trans d1 d2 YJ s'))⟩⟩;simp[Instr.takeDeferred,getObj,setObj,Sem.run,hw]
  ·cases h
theorem MM (he:sG P fn tm H nx ds=some (v,H',j5)):
  j5=nx∧Dm H.get H'.get nx nx∧ ∀(η:Env) (h:Hp) (w:World) (A:Act) (n:Nat) (R:Ending→World→Prop),Ek η h w H.get nx nx→RA η tm A.tmps→DR η ds A.defers→(∀cv w',v.j2 η=some cv→Y6 η h w H.get H'.get nx nx η w'→R (.returned cv) w')→
   LeavesInM (fe none) n P fn A.tmps R A.defers .returning w:=by
 unfold sG at he;split at he
 ·rename_i H1 hd;split at he
  ·rename_i cs Gb;cases he;refine⟨rfl,(mA (P:=P) (fn:=fn) (nx:=nx) (R:=fun _ _=>True) (n:=0) (tmps:=#[]) ds H H' [] hd).1,fun η h w A n R p ra dr hR=> ?_⟩;obtain⟨d1,h1⟩:=mA (P:=P) (fn:=fn) (nx:=nx) (R:=R) (n:=n) (tmps:=A.tmps) ds H H' A.defers hd;refine h1 η h w p dr (fun w' s'=> ?_);have p':=p.next d1 s';obtain⟨cv,h2,h3⟩:=qu Gb p'.ext p'.rh ra;exact⟨cv,h3,hR cv w' h2 s'⟩
  ·cases he
 ·cases he
theorem RX : ∀(args:List V) (X8:List Value),VL η args X8→ ∀(i:Nat) (pre rest:List Value),pre.length=i→RA η (xU i args) ⟨pre++X8++rest⟩:=by
 intro args
 induction args with
 | nil=>intro X8 h i pre rest hp t v hv;simp[xU,Tr.E5]at hv
 | cons a args ih=>
  intro X8 h i pre rest hp
  cases X8 with
  | nil=>exact h.elim
  | cons c X8=>
   intro t v hv;simp only[xU,Tr.F7]at hv;by_cases e:t=i
   ·rw[x9 e]at hv;cases hv;subst e;rw[h.1];simp[←hp]
   ·rw[z9 e]at hv;have:=ih X8 h.2 (i+1) (pre++ [c]) rest (by simp[hp]) t v hv;simpa using this
theorem Lt {K:Act→World→Prop}(X3:ex≠ .normal):Exit.then K Q (CQ ex)=Q (CQ ex):=by
 cases ex<;>first | exact absurd rfl X3 | rfl
theorem Qf {c:Operand}{b:Bool}(h:dF P tm c=some b)(ra:RA η tm A.tmps)(hg:η.Bn P):A.eval c= .bool b:=by
 unfold dF at h;split at h
 ·rename_i b' hb;cases h;have:=o8 ra hg hb;simp only[At.j2]at this;exact(Z3 this).symm
 ·cases h
theorem tZ (hN:Bj P)(hF:kN P F m){g:Operand}{bG:List Nat}{f:FuncId}{Jf:List (Nat×Nat)}
  (WO:B9 P tm g=some (.one (.fn f [] Jf))) (he:Fy F l nt ro tm bG (F.call f (.one (.yld l)::Yd Jf) H1 L6)=some (ex,G0,H',j5,D8)):
  Dm H1.get H'.get L6 j5∧ ∀(w:World) (A:Act) (P7:Option Nat) (n:Nat) (Q:Exit→Act→World→Prop),
   (∀fn,∃(O4:Env) (h1:Hp) (w1:World) (L:Nat×Nat) (mark:List Deferred),(Instr.enterLoop fn A.tmps ps assign body P7).run P w= .ok (L.1,mark) w1∧Ctx P nt O4 h1 w1 H1 L6 j5 tm bG ro ⟨A.tmps,mark++A.defers⟩ P7∧O4.m5 l=some L∧
    Ends O4 h1 w1 H1 H' L6 j5 G0 D8 nt (Q (CQ ex)))→(Code.rangeFunc g ps assign body).wpIn (fe P7) n P Q A w:=by
 cases hc:F.call f (.one (.yld l)::Yd Jf) H1 L6 with
 | none=>rw[hc]at he;simp[Fy]at he
 | some r=>
  obtain⟨v,H2,Iu⟩:=r;rw[hc]at he;obtain⟨⟨fnn,xH,mg⟩,d2,IK⟩:=hF.ops.call _ _ _ _ _ _ _ hc;obtain⟨d3,qi5⟩:=pG hF he;refine⟨d2.trans d3,fun w A P7 n Q M9=> ?_⟩;refine wpIn_rangeFunc (fun fn _=> ?_);obtain⟨O4,h1,w1,L,mark,qi2,c,hL,hQ⟩:=M9 fn;have ra:RA O4 tm A.tmps:=c.ra;obtain⟨⟨fs,cs⟩,⟨g1,g2⟩,g3⟩:=Un (o8 (A:=A) ra c.gl WO);simp[Fl]at g1;subst g1;simp only at g2 g3;refine⟨L.1,mark,w1,{ target:= .fn (.func f) ⟨cs⟩,args:=#[.func (.yield L.1) #[] #[]] },w1,f,⟨.func (.yield L.1) #[] #[]::cs⟩,w1,qi2,?_,fun _ _=>trivial,?_,fun h=>by simp[fe]at h,?_⟩
  ·simp only[resolve,g3,Deferred.ofValue,Sem.run_pure];simp[Act.eval]
  ·have e:(#[.func (.yield L.1) #[] #[]]:Array Value)++(⟨cs⟩:Array Value)=⟨.func (.yield L.1) #[] #[]::cs⟩:=by apply Ky;simp
   simp only[invoke,Vd hN xH mg,e]
  ·refine eT ((IK O4 h1 w1 (.func (.yield L.1) #[] #[]::cs) (c.pre.less d3.le) ⟨by rw[l6];simp[At.j2,hL],vB Jf cs g2⟩ c.gl).mono ?_);rintro e w3 ⟨cv,η3,rfl,_,s3⟩;have c3:=c.next d2 s3 (Yw:=tm) (bG:=bG) (A1:=⟨A.tmps,mark++A.defers⟩) (c.ra.mono s3.le) c.sz (c.dr.mono s3.le);exact qi5 η3 _ w3 _ P7 n Q L c3 (s3.le.m5 l L hL).1 (hQ.next d2 d3 s3)
theorem vO (hN:Bj P)(Qo:P.follows .mixedOrders=true)(hF:kN P F m)
  (he:Y9 F P c nt ro tm H nx ds=some (ex,G0,H',j5,D8)):KG P (m+1) c nt ro tm H nx ds ex G0 H' j5 D8:=by
 cases c with
 | skip=>
  simp only[Y9]at he;cases he;exact⟨Dm.refl _ _,fun η h w A P7 n Q c hQ=>wpIn_skip (hQ η w A (Y6.refl c.pre.ext c.pre.rh) c.ra c.sz c.dr)⟩
 | exit id=>
  simp only[Y9]at he;cases he;exact⟨Dm.refl _ _,fun η h w A P7 n Q c hQ=>wpIn_exit (hQ η w A (Y6.refl c.pre.ext c.pre.rh) c.ra c.sz c.dr)⟩
 | ret=>
  simp only[Y9]at he;cases he;exact⟨Dm.refl _ _,fun η h w A P7 n Q c hQ=>wpIn_ret (hQ η w A (Y6.refl c.pre.ext c.pre.rh) c.ra c.sz c.dr)⟩
 | label l=>
  simp only[Y9]at he;cases he;exact⟨Dm.refl _ _,fun η h w A P7 n Q c hQ=>wpIn_label (hQ η w A (Y6.refl c.pre.ext c.pre.rh) c.ra c.sz c.dr)⟩
 | goto l=>
  simp only[Y9]at he;cases he;exact⟨Dm.refl _ _,fun η h w A P7 n Q c hQ=>wpIn_goto (hQ η w A (Y6.refl c.pre.ext c.pre.rh) c.ra c.sz c.dr)⟩
 | refuse why=>simp[Y9]at he
 | region id ops draw=>
  simp only[Y9]at he
  cases draw with
  | true=>
   simp only at he;split at he
   ·rename_i Yw H1 L6 hd;cases he;obtain⟨d,h1⟩:=lX hN Qo hF.ops hd;refine⟨d,fun η h w A P7 n Q c hQ=> ?_⟩;exact h1 η h w A P7 n id Q c.pre c.ra c.sz c.gl (fun o7 w' A' s ra sz my=>hQ o7 w' A' s ra sz (by rw[my];exact c.dr.mono s.le))
   ·cases he
  | false=>
   simp only at he;split at he
   ·rename_i Yw H1 L6 hd;cases he;obtain⟨d,h1⟩:=NA hN hF.ops _ _ _ _ _ _ _ hd;refine⟨d,fun η h w A P7 n Q c hQ=> ?_⟩;exact wpIn_region_list (h1 η h w A P7 n Q c.pre c.ra c.sz c.gl (fun o7 w' A' s ra sz my=>hQ o7 w' A' s ra sz (by rw[my];exact c.dr.mono s.le)))
   ·cases he
 | cond x a b=>
  simp only[Y9]at he;split at he
  ·rename_i hx;obtain⟨d,h1⟩:=hF.code _ _ _ _ _ _ _ _ _ _ _ _ he;exact⟨d,fun η h w A P7 n Q c hQ=>wpIn_cond_true (Qf hx c.ra c.gl) (h1 η h w A P7 n Q c hQ).wp⟩
  ·rename_i hx;obtain⟨d,h1⟩:=hF.code _ _ _ _ _ _ _ _ _ _ _ _ he;exact⟨d,fun η h w A P7 n Q c hQ=>wpIn_cond_false (Qf hx c.ra c.gl) (h1 η h w A P7 n Q c hQ).wp⟩
  ·cases he
 | seq a b=>
  simp only[Y9]at he;split at he
  ·rename_i Yw H1 L6 bG h1;obtain⟨d1,g1⟩:=hF.code _ _ _ _ _ _ _ _ _ _ _ _ h1;obtain⟨d2,g2⟩:=hF.code _ _ _ _ _ _ _ _ _ _ _ _ he;refine⟨d1.trans d2,fun η h w A P7 n Q c hQ=> ?_⟩;refine wpIn_seq (g1 η h w A P7 n _ (c.less d2.le) (fun O4 w1 A1 s1 Fh Km Iv=> ?_)).wp;exact(g2 O4 _ w1 A1 P7 n Q (c.next d1 s1 Fh Km Iv) (hQ.next d1 d2 s1)).wp
  ·rename_i X3;obtain⟨d1,g1⟩:=hF.code _ _ _ _ _ _ _ _ _ _ _ _ he;have yD:ex≠ .normal:=fun e=>by subst e;exact X3 _ _ _ _ he
   refine⟨d1,fun η h w A P7 n Q c hQ=>wpIn_seq (g1 η h w A P7 n _ c (fun O4 w1 A1 s1 Fh Km Iv=> ?_)).wp⟩;rw[Lt yD];exact hQ O4 w1 A1 s1 Fh Km Iv
 | block id b=>
  simp only[Y9]at he;split at he
  ·rename_i j Yw H1 L6 bG h1;obtain⟨d1,g1⟩:=hF.code _ _ _ _ _ _ _ _ _ _ _ _ h1;split at he
   ·rename_i hj;cases he;refine⟨d1,fun η h w A P7 n Q c hQ=>wpIn_block (g1 η h w A P7 n _ c (fun O4 w1 A1 s1 Fh Km Iv=> ?_)).wp⟩;show Exit.inBlock id Q (.exit j) A1 w1;simp only[Exit.inBlock,Y0 hj,if_true];exact hQ O4 w1 A1 s1 Fh Km Iv
   ·rename_i hj;cases he;have X3: ¬(j=id):=fun e=>by subst e;simp at hj
    refine⟨d1,fun η h w A P7 n Q c hQ=>wpIn_block (g1 η h w A P7 n _ c (fun O4 w1 A1 s1 Fh Km Iv=> ?_)).wp⟩;show Exit.inBlock id Q (.exit j) A1 w1;simp only[Exit.inBlock,X3,if_false];exact hQ O4 w1 A1 s1 Fh Km Iv
  ·rename_i X3;obtain⟨d1,g1⟩:=hF.code _ _ _ _ _ _ _ _ _ _ _ _ he;refine⟨d1,fun η h w A P7 n Q c hQ=>wpIn_block (g1 η h w A P7 n _ c (fun O4 w1 A1 s1 Fh Km Iv=> ?_)).wp⟩;have:=hQ O4 w1 A1 s1 Fh Km Iv
   cases ex with
   | exit j=>exact absurd he (X3 _ _ _ _ _)
   | _=>exact this
 | loop b=>
  simp only[Y9]at he;split at he
  ·rename_i Yw H1 L6 bG h1;obtain⟨d1,g1⟩:=hF.code _ _ _ _ _ _ _ _ _ _ _ _ h1;obtain⟨d2,g2⟩:=hF.code _ _ _ _ _ _ _ _ _ _ _ _ he;refine⟨d1.trans d2,fun η h w A P7 n Q c hQ=> ?_⟩;refine(g1 η h w A P7 n (Exit.then (Code.roundsIn (fe P7) n P b Q m) Q) (c.less d2.le) (fun O4 w1 A1 s1 Fh Km Iv=> ?_)).wp;exact g2 O4 _ w1 A1 P7 n Q (c.next d1 s1 Fh Km Iv) (hQ.next d1 d2 s1)
  ·rename_i X3;obtain⟨d1,g1⟩:=hF.code _ _ _ _ _ _ _ _ _ _ _ _ he;have yD:ex≠ .normal:=fun e=>by subst e;exact X3 _ _ _ _ he
   refine⟨d1,fun η h w A P7 n Q c hQ=> ?_⟩;refine(g1 η h w A P7 n (Exit.then (Code.roundsIn (fe P7) n P b Q m) Q) c (fun O4 w1 A1 s1 Fh Km Iv=> ?_)).wp;rw[Lt yD];exact hQ O4 w1 A1 s1 Fh Km Iv
 | scope b=>
  simp only[Y9]at he;obtain⟨d,h1⟩:=hF.scope _ _ _ _ _ _ _ _ _ _ _ _ _ he;exact⟨d,fun η h w A P7 n Q c hQ=>zR m (h1 η h w A P7 n Q c hQ)⟩
 | rangeFunc g ps assign body=>
  simp only[Y9]at he;split at he
  ·rename_i f Jf WO;split at he
   ·-- outermost
    obtain⟨d,h1⟩:=tZ (ps:=ps) (assign:=assign) (body:=body) hN hF WO he;have da:=D2 H .dfr nx;have db:=D2 (H.put (some .dfr) nx) (.loop .ready none tm nt ps assign body nx) (nx+1);refine⟨(da.trans db).trans d,fun η h w A P7 n Q c hQ=>h1 w A P7 n Q (fun fn=> ?_)⟩;have ze5:P7=none:=by cases P7 with | none=>rfl | some _=>exact c.ro.elim
    subst ze5;have hle:=d.le;have hsa:=(Y6.alloc (w':=w.alloc (.deferred (some []))) (c.pre.less (by omega)) (.deferred (some [])) .dfr 0 ⟨rfl,rfl,rfl,rfl⟩ rfl).2;have pa:=c.pre.next da hsa;obtain⟨Nb,_,_⟩:=pa.fresh (nx+1) (a9 _) (by omega);have di:=Env.Oa Nb ((w.alloc (.deferred (some []))).heap.size,0) 0
    have hsb:=(Y6.alloc (w':=(w.alloc (.deferred (some []))).alloc (.loop ⟨.ready,none,fn,A.tmps,ps,assign,body,w.heap.size⟩)) (pa.less (by omega)) (.loop ⟨.ready,none,fn,A.tmps,ps,assign,body,w.heap.size⟩) (.loop .ready none tm nt ps assign body nx) 0 ⟨rfl,rfl,rfl,rfl⟩
     ⟨fn,A.tmps,w.heap.size,rfl,(c.ra.mono hsa.le).mono di,c.sz,0,(di.m5 nx _ (Env.J9 _ _ _ _)).1⟩).2
    have hs:=Y6.trans da db hsa hsb;refine⟨_,_,_,((w.alloc (.deferred (some []))).heap.size,0),[{ target:= .collected w.heap.size,args:=#[] }],?_,c.next (da.trans db) hs (c.ra.mono hs.le) c.sz ?_,Env.J9 _ _ _ _,hQ.next (da.trans db) d hs⟩
    ·rw[run_enterLoop_outer];simp
    ·exact⟨⟨(w.heap.size,0),(di.m5 nx _ (Env.J9 _ _ _ _)).1,rfl⟩,c.dr.mono hs.le⟩
   ·-- within a round
    rename_i l0;split at he
    ·rename_i st0 pe0 tm0 nt0 ps0 as0 bo0 df Hk;obtain⟨d,h1⟩:=tZ (ps:=ps) (assign:=assign) (body:=body) hN hF WO he;have da:=D2 H (.loop .ready none tm nt ps assign body df) nx;refine⟨da.trans d,fun η h w A P7 n Q c hQ=>h1 w A P7 n Q (fun fn=> ?_)⟩
     obtain⟨L0,rfl,β0,zc1⟩: ∃L0,P7=some L0∧ ∃β,η.m5 l0=some (L0,β):=by
      cases hcr:P7 with
      | none=>have:=c.ro;rw[hcr]at this;exact this.elim
      | some L0=>have:=c.ro;rw[hcr]at this;exact⟨L0,rfl,this⟩
     obtain⟨f0,A0,D,El,_,_,βd,my⟩:=Oo c.pre Hk zc1;obtain⟨Nb,_,_⟩:=c.pre.fresh nx (a9 _) (by have:=d.le;omega);have di:=Env.Oa Nb (w.heap.size,0) 0
     have hs:=(Y6.alloc (w':=w.alloc (.loop ⟨.ready,none,fn,A.tmps,ps,assign,body,D⟩)) (c.pre.less (by have:=d.le;omega)) (.loop ⟨.ready,none,fn,A.tmps,ps,assign,body,D⟩) (.loop .ready none tm nt ps assign body df) 0 ⟨rfl,rfl,rfl,rfl⟩
      ⟨fn,A.tmps,D,rfl,c.ra.mono di,c.sz,βd,(di.m5 df _ my).1⟩).2
     refine⟨_,_,_,(w.heap.size,0),[],?_,c.next da hs (c.ra.mono hs.le) c.sz (c.dr.mono hs.le),Env.J9 _ _ _ _,hQ.next da d hs⟩;rw[run_enterLoop_inner El]
    ·cases he
  ·cases he
theorem pE (hF:kN P F m){b r:Code}
  (he:Wu F b r nt ro tm H nx ds=some (ex,G0,H',j5,D8)):fj P (m+1) b r nt ro tm H nx ds ex G0 H' j5 D8:=by
 unfold Wu at he;split at he
 ·rename_i l Yw H1 L6 bG h1;obtain⟨d1,g1⟩:=hF.code _ _ _ _ _ _ _ _ _ _ _ _ h1;split at he
  ·rename_i r2 hf;obtain⟨d2,g2⟩:=hF.scope _ _ _ _ _ _ _ _ _ _ _ _ _ he;refine⟨d1.trans d2,fun η h w A P7 n Q c hQ=>(g1 η h w A P7 n _ (c.less d2.le) (fun O4 w1 A1 s1 Fh Km Iv=> ?_)).wp⟩;simp only[CQ,hf];exact g2 O4 _ w1 A1 P7 n Q (c.next d1 s1 Fh Km Iv) (hQ.next d1 d2 s1)
  ·rename_i hf;cases he;refine⟨d1,fun η h w A P7 n Q c hQ=>(g1 η h w A P7 n _ c (fun O4 w1 A1 s1 Fh Km Iv=> ?_)).wp⟩;simp only[CQ,hf];exact hQ O4 w1 A1 s1 Fh Km Iv
 ·rename_i X3;obtain⟨d1,g1⟩:=hF.code _ _ _ _ _ _ _ _ _ _ _ _ he;refine⟨d1,fun η h w A P7 n Q c hQ=>(g1 η h w A P7 n _ c (fun O4 w1 A1 s1 Fh Km Iv=> ?_)).wp⟩;have:=hQ O4 w1 A1 s1 Fh Km Iv
  cases ex with
  | goto l=>exact absurd he (X3 _ _ _ _ _)
  | _=>exact this
def GP (k:IntKind)(n:Int):Int:=
 match n with
 | .ofNat m=>match k with
  | .i64=>match Nat.blt m 9223372036854775808 with | true=> .ofNat m | false=>k.wrap (.ofNat m)
  | .u64=>match Nat.blt m 18446744073709551616 with | true=> .ofNat m | false=>k.wrap (.ofNat m)
  | _=>k.wrap (.ofNat m)
 | .negSucc m=>k.wrap (.negSucc m)
theorem kj (a b:Nat):Nat.blt a b=decide (a<b):=by
 rw[Jr];simp[Nat.blt,Nat.ble_eq];omega
theorem KI (k:IntKind)(n:Int):GP k n=k.wrap n:=by
 unfold GP;split
 ·rename_i m;split
  ·split
   ·rename_i h;have:=Ce h;exact(IntWalk.i64_in _ ⟨by show(-9223372036854775808:Int)≤(m:Int);omega,by show(m:Int)≤_;omega⟩).symm
   ·rfl
  ·split
   ·rename_i h;have:=Ce h;show(m:Int)=IntKind.u64.wrap (m:Int);unfold IntKind.wrap;simp[IntKind.signed,IntKind.bits];omega
   ·rfl
  ·rfl
 ·rfl
noncomputable section
theorem NC {t:TypeId}{k k':IntKind}{a b:Int}:iI P H t (.int k a) (.int k' b)=none:=by
 unfold iI;split<;>first | rfl | (rename_i h1 h2;cases h1) | (rename_i h1;cases h1)
end
noncomputable section
end
end Go.Proofs.YtlhlmcohdkkjpaaGreatDoor.Ev
