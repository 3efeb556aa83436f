/- An abstract interpreter of the model's code, eighth part: variables that are made and written. -/
import Derived.Test.YtlhlmcohdkkjpaaGreatDoorEvA
set_option linter.all false
namespace Go.Proofs.YtlhlmcohdkkjpaaGreatDoor.Ev
open Go
noncomputable section
theorem nQ: ∀(l:List At) (t:Tr At) (i j:Nat),(wr t i l).get j=if i≤j∧j<i+l.length then l[j - i]? else t.get j:=by
 intro l
 induction l with
 | nil=>intro t i j;simp[wr];omega
 | cons a l ih=>
  intro t i j;simp only[wr,ih,Tr.F7,Cz];by_cases h1:j=i
  ·subst h1;rw[z9 (by omega),x9 rfl,x9 (by omega)];simp
  ·by_cases h2:i+1≤j∧j<i+1+l.length
   ·rw[x9 h2,x9 (by omega)];have:j - i=(j - (i+1))+1:=by omega
    rw[this,Rc]
   ·rw[z9 h2,z9 h1,z9 (by omega)]
variable{o':v5}{C:Array Value}{a:At}{η:Env}{h:Hp}{l:List At}{vs:List Value}{n o β nx b c E j5:Nat}{B:Nat×Nat}{P:Program}{H H':Tr v5}{α:Type}{t:TypeId}{v:V}{w w':World}
theorem Cells.wr {t:Tr At}{C':Array Value}(hC:Cells η β n t C)(hl:c9 η l=some vs){n':Nat}(hn:n'≤n∨n'≤o+l.length∧o≤n)
  (M8: ∀(j:Nat) (v:Value),vs[j]? =some v→C'[β+o+j]? =some v) (yA: ∀j,j<β+o∨β+o+l.length≤j→C'[j]? =C[j]?):Cells η β n' (Ev.wr t o l) C':=by
 intro i hi;rw[nQ];have hlen:=s7 _ _ hl;by_cases h:o≤i∧i<o+l.length
 ·rw[x9 h];obtain⟨v,h1,h2⟩:=mC l vs hl (i - o) l[i - o] (by simp);refine⟨l[i - o],v,by simp,h2,?_⟩;rw[←M8 (i - o) v h1];congr 1;omega
 ·rw[z9 h];obtain⟨a,v,h1,h2,h3⟩:=hC i (by omega);exact⟨a,v,h1,h2,by rw[yA (β+i) (by omega)];exact h3⟩
theorem Cells.new (hl:c9 η l=some vs)(hC: ∀(j:Nat) (v:Value),vs[j]? =some v→C[j]? =some v)(hn:n≤l.length):Cells η 0 n (Ev.wr .nil 0 l) C:=
 Cells.wr (C:=C) (n:=0) (fun i hi=>by omega) hl (.inr ⟨by omega,by omega⟩) (fun j v hj=>by simpa using hC j v hj) (fun _ _=>rfl)
theorem Y6.drop (p:Ek η h w H.get nx nx)(b:Nat):
  Dm H.get (H.put none b).get nx nx∧Y6 η h w H.get (H.put none b).get nx nx η w:=by
 have Ro: ∀k,Mz h H.get (H.put none b).get nx nx k≠none→Mz h H.get (H.put none b).get nx nx k=h k:=fun k hk=>by
  by_cases M8:H.get k≠none∨(nx≤k∧k<nx)
  ·rw[Y2 M8]at hk⊢;by_cases e:k=b
   ·subst e;rw[Tr.V2]at hk;exact absurd rfl hk
   ·rw[Tr.a8 _ _ e]at hk⊢
    cases ho:H.get k with
    | none=>exact absurd ho hk
    | some o=>exact(p.ext k o ho).symm
  ·rw[M7 M8]
 refine⟨⟨a9 _,fun k hk=> ?_⟩,.refl η,fun _ _=>⟨rfl,rfl,rfl⟩,⟨fun k o hk=> ?_,fun k k' K K' hk Qi=> ?_⟩,?_,.refl _ _ _⟩
 ·by_cases e:k=b
  ·subst e;rw[Tr.V2]at hk;exact absurd rfl hk
  ·rw[Tr.a8 _ _ e]at hk;exact .inl hk
 ·exact p.rh.live k o (by rw[←Ro k (by rw[hk];simp)];exact hk)
 ·exact p.rh.inj k k' K K' (by rw[←Ro k hk];exact hk) (by rw[←Ro k' Qi];exact Qi)
 ·rintro k ⟨j,J,hj,hJ,rfl⟩;exact .inl ⟨j,J,by rw[←Ro j hj];exact hj,hJ,rfl⟩
theorem Y6.move (p:Ek η h w H.get nx (nx+1)){B':Nat×Nat}{o:v5}{mf:Obj}(hb:H.get b=some o)(hB:η.m5 b=some B)(WX:B'.1=B.1)
  (hw:w'.heap[B.1]? =some mf) (Np: ∀k,k≠B.1→w'.heap[k]? =w.heap[k]?) (hos:w'.os=w.os) (sJ:w'.tape=w.tape) (yA:w'.output=w.output) (cI:w.heap.size≤w'.heap.size)
  (hr:o'.Rel (η.set nx B' c) nx B' mf):
  Dm H.get ((H.put none b).put (some o') nx).get nx (nx+1)∧Y6 η h w H.get ((H.put none b).put (some o') nx).get nx (nx+1) (η.set nx B' c) w':=by
 obtain⟨Nb,_,_⟩:=p.fresh nx (a9 _) (by omega);have hle:=Env.Oa Nb B' c;have vh:=p.ext b o hb;have hbn:b≠nx:=fun e=>by rw[e,p.rh.fresh Nb]at vh;cases vh
 have wT:Mz h H.get ((H.put none b).put (some o') nx).get nx (nx+1)=fun k=>if k=nx then some o' else if k=b then none else h k:=by
  funext k
  by_cases e:k=nx
  ·subst e;rw[Y2 (.inr (by omega)),Tr.V2];simp
  ·by_cases hk:H.get k≠none
   ·rw[Y2 (.inl hk),Tr.a8 _ _ e];simp only[e,if_false];by_cases e2:k=b
    ·subst e2;rw[Tr.V2];simp
    ·rw[Tr.a8 _ _ e2];simp only[e2,if_false]
     cases ho:H.get k with
     | none=>exact absurd ho hk
     | some o2=>exact(p.ext k o2 ho).symm
   ·have e2:k≠b:=fun e2=>by subst e2;rw[hb]at hk;simp at hk
    rw[M7 (by intro hc;rcases hc with hc | hc;exact hk hc;omega)];simp[e,e2]
 refine⟨⟨by omega,fun k hk=> ?_⟩,hle,fun k hk=> ?_,?_,?_,?_⟩
 ·by_cases e:k=nx
  ·exact .inr (by omega)
  ·rw[Tr.a8 _ _ e]at hk;by_cases e2:k=b
   ·subst e2;exact .inl (by rw[hb];simp)
   ·rw[Tr.a8 _ _ e2]at hk;exact .inl hk
 ·exact⟨Env.L7 (by omega) _ _,rfl,rfl⟩
 ·rw[wT];refine⟨fun k o2 hk=> ?_,fun k k' K K' hk Qi hK rC e=> ?_⟩
  ·by_cases e:k=nx
   ·subst e;simp at hk;subst hk;exact⟨B',mf,Env.J9 _ _ _ _,by rw[WX];exact hw,hr⟩
   ·simp only[e,if_false]at hk;by_cases e2:k=b
    ·subst e2;simp at hk
    ·simp only[e2,if_false]at hk;obtain⟨K,co2,h1,h2,h3⟩:=p.rh.live k o2 hk;exact⟨K,co2,(hle.m5 k K h1).1,by rw[Np _ (fun e3=>e2 (p.rh.inj k b K B (by rw[hk];simp) (by rw[vh];simp) h1 hB e3))];exact h2,h3.mono hle h1⟩
  ·by_cases e1:k=nx
   ·by_cases e2:k'=nx
    ·rw[e1,e2]
    ·subst e1;simp only[e2,if_false]at Qi;rw[Env.J9]at hK;cases hK;rw[Env.L7 e2]at rC;by_cases e3:k'=b
     ·subst e3;simp at Qi
     ·simp only[e3,if_false]at Qi;exact absurd (p.rh.inj k' b K' B Qi (by rw[vh];simp) rC hB (by rw[←e,WX])) e3
   ·simp only[e1,if_false]at hk;rw[Env.L7 e1]at hK;by_cases e0:k=b
    ·subst e0;simp at hk
    ·simp only[e0,if_false]at hk;by_cases e2:k'=nx
     ·subst e2;rw[Env.J9]at rC;cases rC;exact absurd (p.rh.inj k b K B hk (by rw[vh];simp) hK hB (by rw[e,WX])) e0
     ·simp only[e2,if_false]at Qi;rw[Env.L7 e2]at rC;by_cases e3:k'=b
      ·subst e3;simp at Qi
      ·simp only[e3,if_false]at Qi;exact p.rh.inj k k' K K' hk Qi hK rC e
 ·rw[wT];rintro k ⟨j,J,hj,hJ,rfl⟩;by_cases e:j=nx
  ·subst e;rw[Env.J9]at hJ;cases hJ;exact .inl ⟨b,B,by rw[vh];simp,hB,WX.symm⟩
  ·simp only[e,if_false]at hj;rw[Env.L7 e]at hJ;by_cases e2:j=b
   ·subst e2;simp at hj
   ·simp only[e2,if_false]at hj;exact .inl ⟨j,J,hj,hJ,rfl⟩
 ·exact⟨hos,sJ,yA,cI,fun k _ hn=>Np k (fun e=>hn ⟨b,B,by rw[vh];simp,hB,e.symm⟩)⟩
def Yld (r:Result Next)(cv:Value)(w':World):Prop:=r= .ok (.value cv) w'∨(r= .ok .skip w'∧cv=Go.undef)
def fu (P:Program)(o:Oper)(tm:Tr V)(H:Tr v5)(nx:Nat)(v:V)(H':Tr v5)(j5:Nat):Prop:=
 Dm H.get H'.get nx j5∧ ∀(η:Env) (h:Hp) (w:World) (A:Act),Ek η h w H.get nx j5→RA η tm A.tmps→η.Bn P→
  ∃cv w' o7,Yld ((execOp A.eval o).run P w) cv w'∧v.j2 o7=some cv∧Y6 η h w H.get H'.get nx j5 o7 w'
def mk (E:Nat)(l:List At):v5:= .cells E l.length (wr .nil 0 l)
theorem D2 (H:Tr v5)(o:v5)(nx:Nat):Dm H.get (H.put (some o) nx).get nx (nx+1):=
 ⟨by omega,fun b hb=>by
  by_cases e:b=nx
  ·exact .inr (by omega)
  ·rw[Tr.a8 _ _ e]at hb;exact .inl hb⟩
theorem qh3 (hl:c9 η l=some vs)(b k:Nat):(mk E l).Rel η b (k,0) (.cells ⟨vs⟩ E (0,0)):=
 ⟨⟨vs⟩,rfl,rfl,s7 _ _ hl,Cells.new hl (fun j v hj=>by simpa using hj) (a9 _)⟩
theorem nJ (p:Ek η h w H.get nx (nx+1))(hl:c9 η l=some vs):
  ∃o7,(At.ptr nx 0).j2 o7=some (.pointer (some ⟨w.heap.size,0,none⟩))∧o7.m5 nx=some (w.heap.size,0)∧Y6 η h w H.get (H.put (some (mk E l)) nx).get nx (nx+1) o7 (w.alloc (.cells ⟨vs⟩ E)):=by
 obtain⟨Nb,_,_⟩:=p.fresh nx (a9 _) (by omega);have hs:=Y6.alloc p (.cells ⟨vs⟩ E) (mk E l) 0 ⟨rfl,rfl,rfl,rfl⟩ (qh3 (Ly (Env.Oa Nb _ _) _ _ hl) _ _);exact⟨_,by simp[At.j2,Env.J9,Hl],Env.J9 _ _ _ _,hs.2⟩
def aP (P:Program)(H:Tr v5)(nx:Nat)(t:TypeId):Option (V×Tr v5×Nat):=
 match Nn P t with
 | some (_,z)=>some (.one (.ptr nx 0),H.put (some (mk t z)) nx,nx+1)
 | none=>none
def jz (H:Tr v5)(nx:Nat)(t:TypeId)(v:V):Option (V×Tr v5×Nat):=
 match v with
 | .c _ l=>some (.one (.ptr nx 0),H.put (some (mk t l)) nx,nx+1)
 | _=>none
theorem xy (he:aP P H nx t=some (v,H',j5)):
  Dm H.get H'.get nx j5∧ ∀ {η:Env} {h:Hp} {w:World},Ek η h w H.get nx j5→ ∃cv w' o7,(Instr.alloc t true (.tuple #[])).run P w= .ok cv w'∧v.j2 o7=some cv∧Y6 η h w H.get H'.get nx j5 o7 w':=by
 unfold aP at he;split at he
 ·rename_i g z hz;cases he;refine⟨D2 _ _ _,fun p=> ?_⟩;rename_i η h w;obtain⟨zv,aX,Vp⟩:=Oj hz η w;obtain⟨zs,hz3,hz4⟩:=Aw (g:=g) aX;obtain⟨o7,h1,_,h2⟩:=nJ (E:=t) p hz3;refine⟨_,_,o7,?_,l6.2 h1,h2⟩;simp[Instr.alloc,Vp,newVar,newRow,hz4]
 ·cases he
theorem NG {x:V}(he:jz H nx t x=some (v,H',j5)):
  Dm H.get H'.get nx j5∧ ∀ {η:Env} {h:Hp} {w:World} {cx:Value},Ek η h w H.get nx j5→x.j2 η=some cx→ ∃cv w' o7,(Instr.box t cx).run P w= .ok cv w'∧v.j2 o7=some cv∧Y6 η h w H.get H'.get nx j5 o7 w':=by
 unfold jz at he;split at he
 ·rename_i g l;cases he;refine⟨D2 _ _ _,fun p hx=> ?_⟩;obtain⟨xs,hx3,hx4⟩:=Aw hx;obtain⟨o7,h1,_,h2⟩:=nJ (E:=t) p hx3;refine⟨_,_,o7,?_,l6.2 h1,h2⟩;simp[Instr.box,newVar,newRow,hx4]
 ·cases he
def put (o:v5)(i:Nat)(l:List At):Option v5:=
 match o with
 | .cells E n t=>match Nat.ble (i+l.length) n with | true=>some (.cells E n (wr t i l)) | false=>none
 | .lcells E n s t=>match Nat.ble (i+l.length) n with | true=>some (.lcells E n s (wr t i l)) | false=>none
 | _=>none
theorem Wk {o:v5}(hb:H.get b=some o)(o':v5)(nx:Nat):Dm H.get (H.put (some o') b).get nx nx:=
 ⟨a9 _,fun k hk=>by
  by_cases e:k=b
  ·subst e;exact .inl (by rw[hb];simp)
  ·rw[Tr.a8 _ _ e]at hk;exact .inl hk⟩
theorem mB : ∀(l:List At) (vs:List Value),c9 η l=some vs→ ∀v∈vs,v.oneCell'=true:=by
 intro l
 induction l with
 | nil=>intro vs h v hv;simp[c9]at h;subst h;cases hv
 | cons a l ih=>
  intro vs h v hv;simp only[c9]at h
  cases ha:a.j2 η with
  | none=>simp[ha]at h
  | some u=>cases hl:c9 η l with
   | none=>simp[ha,hl]at h
   | some ws=>
    simp[ha,hl]at h;subst h;rcases m6.1 hv with rfl | hv
    ·exact At.uY ha
    ·exact ih ws hl v hv
theorem JM (C vs:List α)(k:Nat)(hk:k≤C.length)(j:Nat)(v:α)(hj:vs[j]? =some v):(C.take k++vs++C.drop (k+vs.length))[k+j]? =some v:=by
 have Z:j<vs.length:=(U4.1 hj).1;have e:min k C.length=k:=by omega
 simp only[Yj,Ec,Y8,e];rw[x9 (by omega),z9 (by omega)];rw[show k+j - k=j by omega];exact hj
theorem gh (C vs:List α)(k:Nat)(hk:k+vs.length≤C.length)(j:Nat)(hj:j<k∨k+vs.length≤j):(C.take k++vs++C.drop (k+vs.length))[j]? =C[j]? :=by
 have e:min k C.length=k:=by omega
 simp only[Yj,Ec,Y8,e,Tw,tC];rcases hj with hj | hj
 ·rw[x9 (by omega),x9 hj,x9 hj]
 ·rw[z9 (by omega)];congr 1;omega
theorem yW {i:Nat}{o:v5}(hb:H.get b=some o)(hp:put o i l=some o')(p:Ek η h w H.get nx nx)(hl:c9 η l=some vs):
  ∃B w',η.m5 b=some B∧(storeCells (Hl B i) vs).run P w= .ok () w'∧Y6 η h w H.get (H.put (some o') b).get nx nx η w':=by
 obtain⟨B,co,hB,hw,hrel⟩:=p.rh.live b o (p.ext b o hb);have hlen:=s7 _ _ hl
 have key: ∀(C:Array Value) (E:Nat),w.heap[B.1]? =some (.cells C E (0,0))→B.2+i+vs.length≤C.size→
   (∀C':Array Value,C'.size=C.size→(∀j v,vs[j]? =some v→C'[B.2+i+j]? =some v)→(∀j,j<B.2+i∨B.2+i+l.length≤j→C'[j]? =C[j]?)→o'.Rel η b B (.cells C' E (0,0)))→
   ∃B w',η.m5 b=some B∧(storeCells (Hl B i) vs).run P w= .ok () w'∧Y6 η h w H.get (H.put (some o') b).get nx nx η w':=by
  intro C E hC I7 hR;have Bt:=run_storeCells_at (P:=P) B.1 (B.2+i) E vs 0 C w hC (by omega) (mB l vs hl);refine⟨B,_,hB,Bt,?_⟩;have qu3:B.2+i+vs.length≤C.toList.length:=by simpa using I7
  refine(Y6.set p hb hB (setRow_heap w B.1 C _ E _ hC) (fun k hk=>setRow_other w B.1 k _ hk) rfl rfl rfl (by simp[World.setRow]) (hR _ ?_ ?_ ?_)).2
  ·simp;omega
  ·intro j v hj;have:=JM C.toList vs (B.2+i) (by omega) j v hj;simpa using this
  ·intro j hj;have:=gh C.toList vs (B.2+i) qu3 j (by omega);simpa using this
 unfold put at hp;split at hp
 ·rename_i E n t;split at hp
  ·rename_i hle;cases hp;have hle:=G9 hle;obtain⟨C,rfl,hβ,hs,hC⟩:=hrel;refine key C E hw (by omega) (fun C' h1 h2 h3=>⟨C',rfl,hβ,by omega,?_⟩);rw[hβ]at h2 h3;exact hC.wr hl (.inl (a9 _)) h2 h3
  ·cases hp
 ·rename_i E n s t;split at hp
  ·rename_i hle;cases hp;have hle:=G9 hle;obtain⟨C,rfl,h1,h2,h3,hC⟩:=hrel;refine key C E hw (by omega) (fun C' g1 g2 g3=>⟨C',rfl,by omega,h2,h3,hC.wr hl (.inl (a9 _)) g2 g3⟩)
  ·cases hp
 ·cases hp
def Ul (P:Program)(H:Tr v5)(nx:Nat)(t:TypeId)(a:At)(x:V):Option (V×Tr v5×Nat):=
 match a,x with
 | .ptr b i,.c _ l=>match P.info? t,H.get b with
  | some ti,some o=>match Nat.beq l.length ti.size,put o i l with
   | true,some o'=>some (V.undef,H.put (some o') b,nx)
   | _,_=>none
  | _,_=>none
 | _,_=>none
theorem zi {x:V}(he:Ul P H nx t a x=some (v,H',j5)):
  v=V.undef∧Dm H.get H'.get nx j5∧ ∀ {η:Env} {h:Hp} {w:World} {ca cx:Value},Ek η h w H.get nx j5→a.j2 η=some ca→x.j2 η=some cx→ ∃w',(Instr.storeAt t ca cx).run P w= .ok () w'∧Y6 η h w H.get H'.get nx j5 η w':=by
 unfold Ul at he;split at he
 ·rename_i b i g l;split at he
  ·rename_i ti o hti hb;split at he
   ·rename_i o' hlen Nh;cases he;refine⟨rfl,Wk hb _ _,fun p ha hx=> ?_⟩;obtain⟨xs,hx3,hx4⟩:=Aw hx;obtain⟨B,w',hB,Bt,hs⟩:=yW (P:=P) hb Nh p hx3;obtain⟨B',Sy,rfl⟩:=Ci ha;obtain rfl:B=B':=Z3 (hB.symm.trans Sy);refine⟨w',?_,hs⟩;have hl:=s7 _ _ hx3;have Cr:(⟨xs⟩:Array Value).size=ti.size:=by show xs.length=_;rw[hl];exact Y0 hlen
    simp only[Instr.storeAt,Instr.sureAddr,storeVar,Sem.run_bind,Sem.run_pure,Result.andThen_ok,X5 hti,hx4,Cr,ne_eq,not_true,if_false];exact Bt
   ·cases he
  ·cases he
 ·cases he
end
noncomputable section
def mV (z:List At):Nat→List At
 | 0=> []
 | n+1=>z++mV z n
def Bd (z:List Value):Nat→List Value
 | 0=> []
 | n+1=>z++Bd z n
variable{η:Env}{z:List At}{s y nx j5:Nat}{P:Program}{H H':Tr v5}{t:TypeId}{i:TypeInfo}{v:V}
theorem Ke {zs:List Value}(h:c9 η z=some zs): ∀n,c9 η (mV z n)=some (Bd zs n)
 | 0=>rfl
 | n+1=>Mg _ _ _ _ h (Ke h n)
theorem Ft (z:List Value): ∀n,(Bd z n).length=n*z.length
 | 0=>by simp[Bd]
 | n+1=>by simp[Bd,Ft z n,Nat.succ_mul];omega
theorem kW (z:List Value)(hz:0<z.length): ∀n i,i<n*z.length→(Bd z n)[i]? =z[i % z.length]?
 | 0,i,h=>by simp at h
 | n+1,i,h=>by
  simp only[Bd,Yj];by_cases hi:i<z.length
  ·rw[x9 hi,Nat.mod_eq_of_lt hi]
  ·rw[z9 hi,kW z hz n (i - z.length) (by rw[Nat.succ_mul]at h;omega)]
   congr 1
   rw[Nat.mod_eq_sub_mod (a:=i) (by omega)]
theorem Oi (z:Array Value)(n:Nat)(hz:0<z.size):(Array.range (n*z.size)).map (fun i=>z[i % z.size]!)=⟨Bd z.toList n⟩:=by
 apply Ky;apply List.ext_getElem?;intro i;have hz':0<z.toList.length:=by simpa using hz
 by_cases hi:i<n*z.size
 ·have hm:i % z.size<z.size:=Nat.mod_lt _ hz;have h2:=kW z.toList hz' n i (by simpa using hi);rw[h2];simp[hi,hm]
 ·rw[Ra (by simp;omega),Ra (by rw[Ft];simp;omega)]
def pos (n:Nat):Bool:=Nat.blt 0 n
structure SlT (P:Program)(t:TypeId)(e:TypeId)(i:TypeInfo)(z:List At):Prop where
 ff:P.underlying t=some (.slice e)
 Vy:P.info? e=some i
 zero: ∃g,Nn P e=some (g,z)
 size:z.length=i.size
 pos:0<i.size
def slT (P:Program)(t:TypeId):Option (TypeId×Nat×Nat×List At):=
 match P.underlying t with
 | some (.slice e)=>match P.info? e,Nn P e with
  | some i,some (_,z)=>match Nat.beq z.length i.size,Nat.blt 0 i.size with
   | true,true=>some (e,i.size,i.bytes,z)
   | _,_=>none
  | _,_=>none
 | _=>none
theorem nI {t e:Nat}(h:slT P t=some (e,s,y,z)): ∃i,SlT P t e i z∧i.size=s∧i.bytes=y:=by
 unfold slT at h;split at h
 ·rename_i e' hu;split at h
  ·rename_i i g z' hi hz;split at h
   ·rename_i h1 h2;cases h;exact⟨i,⟨hu,hi,⟨g,hz⟩,Y0 h1,Ce h2⟩,rfl,rfl⟩
   ·cases h
  ·cases h
 ·cases h
theorem SlT.zeroV {t e:Nat}(h:SlT P t e i z)(η:Env)(w:World): ∃zv zs,(zeroValue e).run P w= .ok zv w∧c9 η z=some zs∧zv.cells=⟨zs⟩∧zs.length=i.size∧i.zero=some zv:=by
 obtain⟨g,hz⟩:=h.zero;obtain⟨zv,h1,h2⟩:=Oj hz η w;obtain⟨zs,h3,h4⟩:=Aw (g:=g) h1;refine⟨zv,zs,h2,h3,h4,by rw[s7 _ _ h3];exact h.size,?_⟩;unfold Nn at hz;rw[h.Vy]at hz
 cases ZY:i.zero with
 | none=>simp[ZY]at hz
 | some zz=>
  simp only[ZY]at hz;have:=Kl η hz;rw[h1]at this;cases this;rfl
def Me (P:Program)(H:Tr v5)(nx:Nat)(t:TypeId)(len:Nat)(ps:List (Nat×V)):Option (V×Tr v5×Nat):=
 match slT P t with
 | some (e,s,_,z)=>match Nat.ble (len*s) (2^24),Yc (fun i=>some (i*s,s)) (mV z len) ps with
  | true,some l=>match Nat.beq l.length (len*s)with
   | true=>some (.one (.sl nx 0 len len),H.put (some (mk e l)) nx,nx+1)
   | false=>none
  | _,_=>none
 | none=>none
theorem Zs {len:Nat}{ps:List (Nat×V)}(he:Me P H nx t len ps=some (v,H',j5)):
  Dm H.get H'.get nx j5∧ ∀ {η:Env} {h:Hp} {w:World} {gY:Array (Nat×Value)},Ek η h w H.get nx j5→PL η ps gY.toList→ ∃cv w' o7,(Instr.buildSlice t len gY).run P w= .ok cv w'∧v.j2 o7=some cv∧Y6 η h w H.get H'.get nx j5 o7 w':=by
 unfold Me at he;split at he
 ·rename_i e s y z vz;obtain⟨i,ht,rfl,rfl⟩:=nI vz;split at he
  ·rename_i l hle IJ;split at he
   ·rename_i hlen;cases he;refine⟨D2 _ _ _,fun p hp=> ?_⟩;rename_i η h w gY;obtain⟨zv,zs,h1,h2,h3,h4,_⟩:=ht.zeroV η w;obtain⟨ls,h5,h6⟩:=eK ps gY.toList _ l _ IJ (Ke h2 len) hp;obtain⟨o7,h7,h8,h9⟩:=nJ (E:=e) p h5;refine⟨.slice (some ⟨w.heap.size,0,none⟩) len len,_,o7,?_,by rw[Dh h8];rfl,h9⟩;have hle:=G9 hle;have hgt: ¬(len*i.size>2^24):=by omega
    have hzp:0< (⟨zs⟩:Array Value).size:=by show 0<zs.length;rw[h4];exact ht.pos
    have dC: ∀zz:Array Value,zz=⟨zs⟩→(Array.range (len*i.size)).map (fun i=>zz[i % zz.size]!)=⟨Bd zs len⟩:=by
     intro zz ZY;subst ZY;have:=Oi ⟨zs⟩ len hzp;rw[show(⟨zs⟩:Array Value).size=i.size from h4]at this;rw[show(⟨zs⟩:Array Value).size=i.size from h4];exact this
    simp only[Instr.buildSlice,Sem.run_bind,n5 ht.ff,Result.andThen_ok,X5 ht.Vy,z9 hgt];by_cases h0:len*i.size=0
    ·have Hk:len=0:=by rcases Nat.mul_eq_zero.1 h0 with h | h;exact h;have:=ht.pos;omega
     subst Hk;have h6':Instr.fill (fun k=>some (k*i.size,i.size)) #[] gY.toList=some ⟨ls⟩:=h6;have hr0: ∀f:Nat→Value,(Array.range 0).map f=#[]:=fun f=>by apply Ky;simp
     simp[hr0,h6',newRow]
    ·simp only[z9 h0,Sem.run_bind,h1,Result.andThen_ok,Sem.run_pure,dC zv.cells h3,h6];simp[newRow]
   ·cases he
  ·cases he
 ·cases he
def Pc (P:Program)(H:Tr v5)(nx:Nat)(t:TypeId)(len cap:At):Option (V×Tr v5×Nat):=
 match slT P t,Mj len,Mj cap with
 | some (e,s,y,z),some l,some c=>match Nat.ble l c,Nat.ble (c*y) (2^47),Nat.ble c (2^47)with
  | true,true,true=>some (.one (.sl nx 0 l c),H.put (some (.cells e (c*s) (wr .nil 0 (mV z c)))) nx,nx+1)
  | _,_,_=>none
 | _,_,_=>none
theorem gI {len cap:At}(he:Pc P H nx t len cap=some (v,H',j5)):
  Dm H.get H'.get nx j5∧ ∀ {η:Env} {h:Hp} {w:World} {cl cc:Value},Ek η h w H.get nx j5→len.j2 η=some cl→cap.j2 η=some cc→ ∃cv w' o7,(Instr.makeSlice t cl cc).run P w= .ok cv w'∧v.j2 o7=some cv∧Y6 η h w H.get H'.get nx j5 o7 w':=by
 unfold Pc at he;split at he
 ·rename_i e s y z l c vz hl hc;obtain⟨i,ht,rfl,rfl⟩:=nI vz;split at he
  ·rename_i h1 h2 h3;cases he;refine⟨D2 _ _ _,fun p Nc xI=> ?_⟩;rename_i η h w cl cc;obtain⟨kl,rfl⟩:=P5 hl Nc;obtain⟨kc,rfl⟩:=P5 hc xI;have h1:=G9 h1;have h2:=G9 h2;have h3:=G9 h3;obtain⟨zv,zs,z1,z2,z3,z4,_⟩:=ht.zeroV η w;have h_:=Ke z2 c;have hlen:(mV z c).length=c*i.size:=by rw[←s7 _ _ h_,Ft,z4]
   obtain⟨o7,h7,h8,h9⟩:=nJ (E:=e) p h_;have DS:mk e (mV z c)= .cells e (c*i.size) (wr .nil 0 (mV z c)):=by unfold mk;rw[hlen]
   rw[DS]at h9;refine⟨.slice (some ⟨w.heap.size,0,none⟩) l c,_,o7,?_,by rw[Dh h8];rfl,h9⟩;have wl:IntKind.i64.wrap (l:Int)=(l:Int):=IntWalk.i64_in _ (by omega);have wc:IntKind.i64.wrap (c:Int)=(c:Int):=IntWalk.i64_in _ (by omega)
   have hb:(i.bytes:Int)*(c:Int)≤2^47:=by
    have:((c*i.bytes:Nat):Int)≤((2^47:Nat):Int):=Int.ofNat_le.2 h2;rw[Nat.mul_comm]at this;simpa using this
   have t1: ¬((c:Int)<0):=by omega
   have t3: ¬((l:Int)<0):=by omega
   have t4: ¬((l:Int)>(c:Int)):=by omega
   have dC:(Array.range (c*i.size)).map (fun k=>zv.cells[k % zv.cells.size]!)=⟨Bd zs c⟩:=by
    rw[z3];have hzp:0< (⟨zs⟩:Array Value).size:=by show 0<zs.length;rw[z4];exact ht.pos
    have:=Oi ⟨zs⟩ c hzp;rw[show(⟨zs⟩:Array Value).size=i.size from z4]at this;rw[show(⟨zs⟩:Array Value).size=i.size from z4];exact this
   by_cases h0:c*i.size=0
   ·have Hk:c=0:=by rcases Nat.mul_eq_zero.1 h0 with h | h;exact h;have:=ht.pos;omega
    subst Hk;have Hk:l=0:=by omega
    subst Hk;have w0:IntKind.i64.wrap 0=0:=by decide
    have hr0: ∀f:Nat→Value,(Array.range 0).map f=#[]:=fun f=>by apply Ky;simp
    simp[Instr.makeSlice,n5 ht.ff,Er ht.Vy,asInt,asIntOf,askRoom,X5 ht.Vy,newRow,w0,hr0,Bd]
   ·simp[Instr.makeSlice,n5 ht.ff,Er ht.Vy,asInt,asIntOf,wl,wc,t4,askRoom,X5 ht.Vy,h0,z1,newRow,dC];intro Wc;exact absurd Wc (by omega)
  ·cases he
 ·cases he
end
noncomputable section
def dG:List UInt8→List At
 | []=> []
 | b::l=> .int .u8 (Int.ofNat b.toNat)::dG l
def src (P:Program)(H:Tr v5)(tx:TypeId)(s:Nat)(x:At):Option (Nat×List At):=
 match P.underlying tx,x with
 | some (.slice _),.nils=>some (0,[])
 | some (.slice _),.emp _=>some (0,[])
 | some (.slice _),.sl b o n _=>match n with
  | 0=>some (0,[])
  | n+1=>match row H b o ((n+1)*s)with | some l=>some (n+1,l) | none=>none
 | some (.slice _),.slx b o n _=>match n with
  | 0=>some (0,[])
  | n+1=>match row H b o ((n+1)*s)with | some l=>some (n+1,l) | none=>none
 | some .string,.str l=>match Nat.beq s 1 with | true=>some (l.length,dG l) | false=>none
 | _,_=>none
def qa2 (P:Program)(H:Tr v5)(tx:TypeId)(s y:Nat)(z:List At)(x:At):Option (Nat×List At):=
 match P.underlying tx with
 | some (.int _)=>match Mj x with
  | some k=>match Nat.ble (k*y) (2^47),Nat.ble k (2^47)with
   | true,true=>some (k,mV z k)
   | _,_=>none
  | none=>none
 | _=>src P H tx s x
theorem Pe (η:Env): ∀l:List UInt8,c9 η (dG l)=some (l.map fun b=>Value.int .u8 b.toNat)
 | []=>rfl
 | b::l=>by simp[dG,c9,At.j2,Pe η l]
variable{C:Array Value}{x:At}{η:Env}{h:Hp}{l z:List At}{n s nx:Nat}{P:Program}{H:Tr v5}{T:Tr At}{tx t e ty:TypeId}{i:TypeInfo}{cx:Value}{w w':World}
theorem qg4 (hs:src P H tx s x=some (n,l))(ext: ∀b o,H.get b=some o→h b=some o)(rh:RH η h w)(hx:x.j2 η=some cx):
  ((∃e,P.underlying tx=some (.slice e))∨P.underlying tx=some .string)∧(∀w',(Builtin.lenOf cx).run P w'= .ok n w')∧l.length=n*s∧ ∃vs,c9 η l=some vs∧
   ∀k,k≤n→ ∀w',Quiet w w'→(Builtin.firstCells s k cx).run P w'= .ok ⟨vs.take (k*s)⟩ w':=by
 have key: ∀(b o m:Nat) (c:Nat) (l:List At) (B0:Nat×Nat),η.m5 b=some B0→row H b o (m*s)=some l→l.length=m*s∧ ∃vs,c9 η l=some vs∧
   ∀k,k≤m→ ∀w',Quiet w w'→(Builtin.firstCells s k (.slice (some (Hl B0 o)) m c)).run P w'= .ok ⟨vs.take (k*s)⟩ w':=by
  intro b o m c l B0 WY hr;obtain⟨B,vs,C,E,Z8,Fc,hlen,C6⟩:=yV ext rh hr;obtain rfl:B0=B:=Z3 (WY.symm.trans Z8.m5);refine⟨hlen,vs,Fc,fun k hk w' hq=> ?_⟩;have Yx:=s7 _ _ Fc;have hks:k*s≤m*s:=Dd _ hk;have PR: ∀a,w'.cell? a=w.cell? a:=fun a=>by simp[World.cell?,hq.1]
  have:=run_firstCells_some (P:=P) w' s k (Hl B0 o) m c (vs.take (k*s)) (by simp;omega) (fun j v hj=>by
   rw[PR];refine C6 j v ?_;rw[Tw]at hj;split at hj
   ·exact hj
   ·cases hj)
  simpa using this
 unfold src at hs;split at hs
 ·rename_i e hu;cases hs;simp only[At.j2]at hx;cases hx;exact⟨.inl ⟨_,hu⟩,fun w'=>by simp[Builtin.lenOf],by simp,[],rfl,fun k hk w' _=>by simp[Builtin.firstCells]⟩
 ·rename_i e i hu;cases hs;obtain⟨a,c,_,rfl⟩:=Hb hx;refine⟨.inl ⟨_,hu⟩,fun w'=>by simp[Builtin.lenOf],by simp,[],rfl,fun k hk w' _=> ?_⟩;obtain rfl:k=0:=by omega
  simp[Builtin.firstCells,loadCells,loadCellsFrom]
 ·rename_i e b o n' c hu;obtain⟨B,hB,rfl⟩:=Cf hx;split at hs
  ·cases hs;refine⟨.inl ⟨_,hu⟩,fun w'=>by simp[Builtin.lenOf],by simp,[],rfl,fun k hk w' _=> ?_⟩;obtain rfl:k=0:=by omega
   simp[Builtin.firstCells,loadCells,loadCellsFrom]
  ·rename_i m;split at hs
   ·rename_i l' hr;cases hs;obtain⟨h1,h2⟩:=key b o (m+1) c _ B hB hr;exact⟨.inl ⟨_,hu⟩,fun w'=>by simp[Builtin.lenOf],h1,h2⟩
   ·cases hs
 ·rename_i e b o n' c hu;obtain⟨B,hB,rfl⟩:=E1 hx;split at hs
  ·cases hs;refine⟨.inl ⟨_,hu⟩,fun w'=>by simp[Builtin.lenOf],by simp,[],rfl,fun k hk w' _=> ?_⟩;obtain rfl:k=0:=by omega
   simp[Builtin.firstCells,loadCells,loadCellsFrom]
  ·rename_i m;split at hs
   ·rename_i l' hr;cases hs;obtain⟨h1,h2⟩:=key b o (m+1) (η.cap b - c) _ B hB hr;exact⟨.inl ⟨_,hu⟩,fun w'=>by simp[Builtin.lenOf],h1,h2⟩
   ·cases hs
 ·rename_i ls hu;split at hs
  ·rename_i bA;cases hs;obtain rfl:s=1:=Y0 bA;simp only[At.j2]at hx;cases hx;have hbl:(dG ls).length=ls.length:=by rw[←s7 _ _ (Pe η ls)];simp
   refine⟨.inr hu,fun w'=>by simp[Builtin.lenOf,ByteArray.size],by omega,_,Pe η ls,fun k hk w' _=> ?_⟩;simp only[Builtin.firstCells,Sem.run_pure]
   congr 1
   apply Ky;simp[ByteArray.extract,ByteArray.copySlice,List.map_take]
  ·cases hs
 ·cases hs
theorem Ib (ht:SlT P t e i z)(hs:qa2 P H tx i.size i.bytes z x=some (n,l))(ext: ∀b o,H.get b=some o→h b=some o)(rh:RH η h w)(hx:x.j2 η=some cx):
  l.length=n*i.size∧ ∃zv vs,i.zero=some zv∧c9 η l=some vs∧
   ((((∃e,P.underlying tx=some (.slice e))∨P.underlying tx=some .string)∧(∀w',(Builtin.lenOf cx).run P w'= .ok n w')∧ ∀w',Quiet w w'→(Builtin.firstCells i.size n cx).run P w'= .ok ⟨vs⟩ w')∨
 (∃k kd,P.underlying tx=some (.int k)∧cx= .int kd (n:Int)∧zv.cells.size=i.size∧0<i.size∧vs=Bd zv.cells.toList n∧n*i.bytes≤2^47∧n≤2^47)):=by
 obtain⟨zv,zs,z1,z2,z3,z4,z5⟩:=ht.zeroV η w;unfold qa2 at hs;split at hs
 ·rename_i k hk;split at hs
  ·rename_i m hm;split at hs
   ·rename_i h1 h2;cases hs;obtain⟨kd,rfl⟩:=P5 hm hx;have h_:=Ke z2 n;refine⟨by rw[←s7 _ _ h_,Ft,z4],zv,Bd zs n,z5,h_,.inr ⟨k,kd,hk,rfl,by rw[z3];exact z4,ht.pos,by rw[z3],G9 h1,G9 h2⟩⟩
   ·cases hs
  ·cases hs
 ·obtain⟨htx,hlen,T3,vs,Fc,hf⟩:=qg4 hs ext rh hx;refine⟨T3,zv,vs,z5,Fc,.inl ⟨htx,hlen,fun w' hq=> ?_⟩⟩;have:=hf n (a9 _) w' hq;rw[N2 (Nat.le_of_eq ((s7 _ _ Fc).trans T3))]at this;exact this
theorem pI (ht:P.underlying t=some (.slice e))(hi:P.info? e=some i)(hx:(∃e,P.underlying tx=some (.slice e))∨P.underlying tx=some .string)
  {base:Option Addr} {n m c:Nat} {cx:Value} {vs:Array Value} (hlen:(Builtin.lenOf cx).run P w= .ok m w) (hf:(Builtin.firstCells i.size m cx).run P w= .ok vs w) (Ct:n+m≤c)
  (Z7:match base with | some a=>(storeCells (a.add (n*i.size)) vs.toList).run P w= .ok () w' | none=>w'=w):
  (Builtin.append_ #[t,tx] ty #[.slice base n c,cx]).run P w= .ok (.slice base (n+m) c) w':=by
 cases base with
 | none=>
  subst Z7;rcases hx with⟨e',hx⟩ | hx<;>simp[Builtin.append_,n5 ht,X5 hi,n5 hx,hlen,Ct,hf]
 | some a=>
  rcases hx with⟨e',hx⟩ | hx<;>simp[Builtin.append_,n5 ht,X5 hi,n5 hx,hlen,Ct,hf,Z7]
theorem pJ {z:Value}(ht:P.underlying t=some (.slice e))(hi:P.info? e=some i)(hz:i.zero=some z)(hx:(∃e,P.underlying tx=some (.slice e))∨P.underlying tx=some .string)
  {base:Option Addr} {n m c:Nat} {cx:Value} {us vs:Array Value} (hlen: ∀w',(Builtin.lenOf cx).run P w'= .ok m w') (hf:(Builtin.firstCells i.size m cx).run P w.drew= .ok vs w.drew) (hu:(Builtin.firstCells i.size n (.slice base n c)).run P w.drew= .ok us w.drew)
  (Iz:c<n+m) (CP:((n+m:Nat):Int)≤9223372036854775807) (I7:(n+m)*i.bytes≤140737488355328):
  (Builtin.append_ #[t,tx] ty #[.slice base n c,cx]).run P w=
   .ok (.slice (some ⟨w.heap.size,0,none⟩) (n+m) (grownCap w (n+m) c e)) (w.drew.alloc (.cells (us++vs++Builtin.zeroCells z.cells (grownCap w (n+m) c e - (n+m))) e)):=by
 have hn: ¬(n+m≤c):=by omega
 have qc8: ¬(9223372036854775807< ((n:Int)+(m:Int))):=by omega
 have FK: ¬(281474976710656<Builtin.nextslicecap (n+m) c*i.bytes):=by have:=growslice_fits Iz I7;omega
 have aW: ∀w',(zeroValue e).run P w'= .ok z w':=fun w'=>by simp[zeroValue,Er hi,hz]
 have hl:=hlen w;rcases hx with⟨e',hx⟩ | hx<;>simp[Builtin.append_,n5 ht,X5 hi,Er hi,n5 hx,hl,hn,qc8,FK,Question.forced,hf,hu,aW,newRow,grownCap]
def zQ (P:Program)(tx:TypeId)(i:TypeInfo)(zv:Value)(w:World)(n:Nat)(cx:Value)(vs:List Value):Prop:=
 (((∃e,P.underlying tx=some (.slice e))∨P.underlying tx=some .string)∧(∀w',(Builtin.lenOf cx).run P w'= .ok n w')∧ ∀w',Quiet w w'→(Builtin.firstCells i.size n cx).run P w'= .ok ⟨vs⟩ w')∨
 (∃k kd,P.underlying tx=some (.int k)∧cx= .int kd (n:Int)∧zv.cells.size=i.size∧0<i.size∧vs=Bd zv.cells.toList n∧n*i.bytes≤2^47∧n≤2^47)
theorem Kb {z:Value}(ht:P.underlying t=some (.slice e))(hi:P.info? e=some i)(hz:i.zero=some z)
  {base:Option Addr} {n m c:Nat} {cx:Value} {vs:List Value} (hs:zQ P tx i z w m cx vs) (Ct:n+m≤c)
  (Z7:match base with | some a=>(storeCells (a.add (n*i.size)) vs).run P w= .ok () w' | none=>w'=w):
  (Builtin.append_ #[t,tx] ty #[.slice base n c,cx]).run P w= .ok (.slice base (n+m) c) w':=by
 rcases hs with⟨hx,hl,hf⟩ | ⟨k,kd,hx,rfl,Vj,Qm,rfl,hb,hm⟩
 ·exact pI ht hi hx (hl w) (hf w ⟨rfl,rfl,rfl,rfl⟩) Ct Z7
 ·have hw:IntKind.i64.wrap (m:Int)=(m:Int):=IntWalk.i64_in _ (by omega);have h1: ¬((m:Int)<0):=by omega
  have h2: ¬((m:Int)*(i.bytes:Int)>2^48):=by
   have:((m*i.bytes:Nat):Int)≤((2^47:Nat):Int):=Int.ofNat_le.2 hb;have e2:((m*i.bytes:Nat):Int)=(m:Int)*(i.bytes:Int):=by simp
   rw[←e2];omega
  have aW:(zeroValue e).run P w= .ok z w:=by simp[zeroValue,Er hi,hz]
  have qo8:(if m*i.size=0 then(pure #[]:Sem (Array Value))else do pure (Builtin.zeroCells (←zeroValue e).cells m)).run P w= .ok ⟨Bd z.cells.toList m⟩ w:=by
   by_cases h0:m*i.size=0
   ·have:m=0:=by rcases Nat.mul_eq_zero.1 h0 with h | h;exact h;omega
    subst this;simp[Bd]
   ·have:=Oi z.cells m (by omega);simp only[z9 h0,Sem.run_bind,aW,Result.andThen_ok,Sem.run_pure,Builtin.zeroCells,this]
  cases base with
  | none=>
   subst Z7;simp only[Builtin.append_,Sem.run_bind,n5 ht,Result.andThen_ok,X5 hi,n5 hx,Tv,jy,Rc,Sem.run_pure,asInt,asIntOf,hw,z9 h1,Er hi,z9 h2,if_true,X4,Ct,Bool.not_true,Uc,if_false,qo8]
  | some a=>
   simp only[Builtin.append_,Sem.run_bind,n5 ht,Result.andThen_ok,X5 hi,n5 hx,Tv,jy,Rc,Sem.run_pure,asInt,asIntOf,hw,z9 h1,Er hi,z9 h2,if_true,X4,Ct,Bool.not_true,Uc,if_false,qo8,Z7]
theorem NT {z:Value}(ht:P.underlying t=some (.slice e))(hi:P.info? e=some i)(hz:i.zero=some z)
  {base:Option Addr} {n m c:Nat} {cx:Value} {us:Array Value} {vs:List Value} (hs:zQ P tx i z w m cx vs) (hu:(Builtin.firstCells i.size n (.slice base n c)).run P w.drew= .ok us w.drew)
  (Iz:c<n+m) (CP:((n+m:Nat):Int)≤9223372036854775807) (I7:(n+m)*i.bytes≤140737488355328):
  (Builtin.append_ #[t,tx] ty #[.slice base n c,cx]).run P w=
   .ok (.slice (some ⟨w.heap.size,0,none⟩) (n+m) (grownCap w (n+m) c e)) (w.drew.alloc (.cells (us++⟨vs⟩++Builtin.zeroCells z.cells (grownCap w (n+m) c e - (n+m))) e)):=by
 rcases hs with⟨hx,hl,hf⟩ | ⟨k,kd,hx,rfl,Vj,Qm,rfl,hb,hm⟩
 ·exact pJ ht hi hz hx hl (hf w.drew ⟨rfl,rfl,rfl,rfl⟩) hu Iz CP I7
 ·have hw:IntKind.i64.wrap (m:Int)=(m:Int):=IntWalk.i64_in _ (by omega);have h1: ¬((m:Int)<0):=by omega
  have h2: ¬((m:Int)*(i.bytes:Int)>2^48):=by
   have:((m*i.bytes:Nat):Int)≤((2^47:Nat):Int):=Int.ofNat_le.2 hb;have e2:((m*i.bytes:Nat):Int)=(m:Int)*(i.bytes:Int):=by simp
   rw[←e2];omega
  have aW: ∀w',(zeroValue e).run P w'= .ok z w':=fun w'=>by simp[zeroValue,Er hi,hz]
  have hn: ¬(n+m≤c):=by omega
  have qc8: ¬(9223372036854775807< ((n:Int)+(m:Int))):=by omega
  have FK: ¬(281474976710656<Builtin.nextslicecap (n+m) c*i.bytes):=by have:=growslice_fits Iz I7;omega
  have h2': ¬(281474976710656< (m:Int)*(i.bytes:Int)):=by omega
  by_cases h0:m*i.size=0
  ·have Fe:m=0:=by rcases Nat.mul_eq_zero.1 h0 with h | h;exact h;omega
   subst Fe;have w0:IntKind.i64.wrap 0=0:=by decide
   have qu6: ¬(9223372036854775807< (n:Int)):=by omega
   simp[Builtin.append_,n5 ht,X5 hi,Er hi,n5 hx,asInt,asIntOf,qu6,Question.forced,hu,aW,newRow,grownCap,Bd,w0];simp only[Jp]at FK hn;simp[FK,hn]
  ·have Vp:Builtin.zeroCells z.cells m=⟨Bd z.cells.toList m⟩:=Oi z.cells m (by omega);simp[Builtin.append_,n5 ht,X5 hi,Er hi,n5 hx,asInt,asIntOf,hw,hn,qc8,FK,h2',Question.forced,hu,aW,newRow,grownCap,Vp];rw[z9 h1,z9 h0]
theorem grownCap_ge (w:World)(RD Fb:Nat)(e:TypeId):RD≤grownCap w RD Fb e:=by
 show RD≤RD+_;exact Nat.le_add_right _ _
theorem TU (p:Ek η h w H.get nx (nx+1)){e:Nat}{zs:Array Value}(K:Nat)(hK:n≤K)(hKm:K≤maxLen)(hs:0<s)(Vj:zs.size=s)(cI:C.size=n*s)
  (hC: ∀o7,η.le o7→Cells o7 0 (n*s) T C):
  ∃o7,o7.m5 nx=some (w.heap.size,0)∧o7.cap nx=K∧
   Y6 η h w H.get (H.put (some (.lcells e (n*s) s T)) nx).get nx (nx+1) o7 (w.drew.alloc (.cells (C++Builtin.zeroCells zs (K - n)) e)):=by
 obtain⟨Nb,_,_⟩:=p.fresh nx (a9 _) (by omega);have hle:=Env.Oa Nb (w.heap.size,0) K;refine⟨η.set nx (w.heap.size,0) K,Env.J9 _ _ _ _,Env.Ef _ _ _ _,?_⟩;refine(Y6.alloc (w':=w.drew.alloc (.cells (C++Builtin.zeroCells zs (K - n)) e)) p (.cells (C++Builtin.zeroCells zs (K - n)) e) (.lcells e (n*s) s T) K ⟨rfl,rfl,rfl,rfl⟩ ?_).2;refine⟨_,rfl,?_,?_,⟨hs,by rw[Env.Ef];exact hKm⟩,fun i hi=> ?_⟩
 ·rw[Env.Ef,Array.size_append,size_zeroCells,cI,Vj,←Yf];simp;congr 1;omega
 ·rw[Env.Ef];exact Dd _ hK
 ·obtain⟨a,v,h1,h2,h3⟩:=hC _ hle i hi;refine⟨a,v,h1,h2,?_⟩;rw[Array.getElem?_append,x9 (by simp;omega)];simpa using h3
end
noncomputable section
def QW (T:Tr At)(m o k:Nat):Option (Tr At):=
 match Nat.ble (o+k) m with
 | true=>match o with
  | 0=>some T
  | o'+1=>match rd T (o'+1) k with | some l=>some (wr .nil 0 l) | none=>none
 | false=>none
def sub (ob:v5)(o k:Nat):Option (Tr At):=
 match ob with
 | .cells _ m T=>QW T m o k
 | .lcells _ m _ T=>QW T m o k
 | _=>none
variable{C:Array Value}{x:At}{η:Env}{h:Hp}{z l:List At}{vs:List Value}{b k o E n c s β y nx j5:Nat}{B:Nat×Nat}{P:Program}{H H':Tr v5}{T:Tr At}{t tx e:TypeId}{i:TypeInfo}{v:V}{cx:Value}{w:World}
theorem JG (ext: ∀b o,H.get b=some o→h b=some o)(rh:RH η h w){ob:v5}{T0:Tr At}(hb:H.get b=some ob)(hs:sub ob o k=some T0):
  ∃B C E,Row η w b B C E∧Cells η (B.2+o) k T0 C∧B.2+o+k≤C.size:=by
 obtain⟨B,co,hB,hw,hrel⟩:=rh.live b ob (ext b ob hb)
 have key: ∀(C:Array Value) (m:Nat) (T:Tr At),Cells η B.2 m T C→B.2+m≤C.size→QW T m o k=some T0→Cells η (B.2+o) k T0 C∧B.2+o+k≤C.size:=by
  intro C m T hC hm wV;unfold QW at wV;split at wV
  ·rename_i hle;have hle:=G9 hle;split at wV
   ·cases wV;refine⟨fun i hi=> ?_,by omega⟩;obtain⟨a,v,h1,h2,h3⟩:=hC i (by omega);exact⟨a,v,h1,h2,by simpa using h3⟩
   ·split at wV
    ·rename_i l hl;cases wV;obtain⟨vs,h4,h5,h6⟩:=tY hC k _ l hle hl;refine⟨fun i hi=> ?_,by omega⟩;rw[nQ,x9 (by omega)];obtain⟨v,h7,h8⟩:=mC l vs h4 i l[i] (by simp);exact⟨l[i],v,by simp,h8,h6 i v h7⟩
    ·cases wV
  ·cases wV
 unfold sub at hs
 cases ob with
 | cells E m T=>
  obtain⟨C,rfl,hβ,Cr,hC⟩:=hrel;obtain⟨h1,h2⟩:=key C m T (by rw[hβ];exact hC) (by omega) hs;exact⟨B,C,E,⟨hB,hw⟩,h1,h2⟩
 | lcells E m s T=>
  obtain⟨C,rfl,g1,g2,g3,hC⟩:=hrel;obtain⟨h1,h2⟩:=key C m T hC (by omega) hs;exact⟨B,C,E,⟨hB,hw⟩,h1,h2⟩
 | _=>cases hs
theorem fH (r:Row η w b B C E)(hle:B.2+o+n*s≤C.size):
  ∀w',Quiet w w'→(Builtin.firstCells s n (.slice (some (Hl B o)) n c)).run P w'= .ok ⟨(C.toList.drop (B.2+o)).take (n*s)⟩ w':=by
 intro w' hq;have PR: ∀a,w'.cell? a=w.cell? a:=fun a=>by simp[World.cell?,hq.1]
 have:=run_firstCells_some (P:=P) w' s n (Hl B o) n c ((C.toList.drop (B.2+o)).take (n*s)) (by simp;omega) (fun j v hj=>by
  rw[PR,Aj,r.cell];rw[Tw]at hj;split at hj
  ·rw[tC]at hj;simp only[iM]at hj;rw[←hj];congr 1;omega
  ·cases hj)
 simpa using this
theorem Cells.part (hC:Cells η β k T C)(X:List Value):Cells η 0 k T ⟨(C.toList.drop β).take k++X⟩:=fun i hi=>by
 obtain⟨a,v,h1,h2,h3⟩:=hC i hi;refine⟨a,v,h1,h2,?_⟩;have Z:β+i<C.size:=(Mu.1 h3).1
 have:((C.toList.drop β).take k++X)[i]? =some v:=by
  rw[Yj,x9 (by simp;omega),Tw,x9 hi,tC];simpa using h3
 simpa using this
def we (n y:Nat):Bool:=Nat.ble (n*y) (2^47)&&Nat.ble n (2^47)
def eN (P:Program)(H:Tr v5)(nx:Nat)(t tx:TypeId)(s x:At):Option (V×Tr v5×Nat):=
 match slT P t with
 | some (e,sz,y,z)=>match qa2 P H tx sz y z x with
  | some (m,l)=>match s with
   | .nils=>match m with
    | 0=>some (.one .nils,H,nx)
    | m+1=>match we (m+1) y with
     | true=>some (.one (.slx nx 0 (m+1) 0),H.put (some (.lcells e ((m+1)*sz) sz (wr .nil 0 l))) nx,nx+1)
     | false=>none
   | .emp i=>match m with
    | 0=>some (.one (.emp i),H,nx)
    | _=>none
   | .sl b o n c=>match m with
    | 0=>match Nat.ble n c with | true=>some (.one (.sl b o n c),H,nx) | false=>none
    | m+1=>match H.get b with
     | some ob=>match Nat.ble (n+(m+1)) c with
      | true=>match put ob (o+n*sz) l with
       | some wm=>some (.one (.sl b o (n+(m+1)) c),H.put (some wm) b,nx)
       | none=>none
      | false=>match sub ob o (n*sz),we (n+(m+1)) y with
       | some T,true=>some (.one (.slx nx 0 (n+(m+1)) 0),H.put (some (.lcells e ((n+(m+1))*sz) sz (wr T (n*sz) l))) nx,nx+1)
       | _,_=>none
     | none=>none
   | .slx b o n e'=>match m with
    | 0=>match known H b o e' sz with
     | some k=>match Nat.ble n k with | true=>some (.one (.slx b o n e'),H,nx) | false=>none
     | none=>none
    | m+1=>match H.get b with
     | some (.lcells E mm s' T0)=>match Nat.beq E e,Nat.beq s' sz,Nat.beq o (e'*sz),sub (.lcells E mm s' T0) o (n*sz),we (n+(m+1)) y with
      | true,true,true,some T,true=>some (.one (.slx nx 0 (n+(m+1)) 0),(H.put none b).put (some (.lcells e ((n+(m+1))*sz) sz (wr T (n*sz) l))) nx,nx+1)
      | _,_,_,_,_=>none
     | _=>none
   | _=>none
  | none=>none
 | none=>none
theorem qh4 (h:we n y=true):n*y≤140737488355328∧((n:Nat):Int)≤9223372036854775807:=by
 unfold we at h;rw[p9]at h;have h1:=G9 h.1;have h2:=G9 h.2;exact⟨by omega,by omega⟩
theorem tT {e:Nat}(hB:η.m5 b=some B):(V.one (.slx b o n e)).j2 η=some (.slice (some (Hl B o)) n (η.cap b - e)):=by
 rw[l6];simp[At.j2,hB]
theorem eV (ht:SlT P t e i z)(p:Ek η h w H.get nx (nx+1)){m:Nat}{base:Option Addr}{us:List Value}{zv0:Value}(mJ:i.zero=some zv0)
  (hs:zQ P tx i zv0 w m cx vs) (T3:l.length=m*i.size) (Fc:c9 η l=some vs)
  (hu:(Builtin.firstCells i.size n (.slice base n c)).run P w.drew= .ok ⟨us⟩ w.drew) (hul:us.length=n*i.size) (Iz:c<n+m) (R6:we (n+m) i.bytes=true) {T:Tr At} (hT: ∀X,Cells η 0 (n*i.size) T ⟨us++X⟩) (ty:TypeId):
  ∃cv w' o7,(Builtin.append_ #[t,tx] ty #[.slice base n c,cx]).run P w= .ok cv w'∧(V.one (.slx nx 0 (n+m) 0)).j2 o7=some cv∧
   Y6 η h w H.get (H.put (some (.lcells e ((n+m)*i.size) i.size (wr T (n*i.size) l))) nx).get nx (nx+1) o7 w':=by
 obtain⟨hl1,hl2⟩:=qh4 R6;obtain⟨zv,zs,z1,z2,z3,z4,z5⟩:=ht.zeroV η w;rw[mJ]at z5;cases z5;have Bt:=NT (ty:=ty) ht.ff ht.Vy mJ hs hu Iz hl2 hl1;have Yx:=s7 _ _ Fc;have Cr:(us++vs).length=(n+m)*i.size:=by rw[Ec,hul,Yx,T3,Yf]
 obtain⟨o7,h1,h2,h3⟩:=TU (e:=e) (C:=⟨us++vs⟩) (zs:=⟨zs⟩) (T:=wr T (n*i.size) l) p (grownCap w (n+m) c e) (grownCap_ge _ _ _ _) (grownCap_le_maxLen _ _ _ _ (by unfold maxLen;omega)) ht.pos z4 Cr (fun o7 hle=>by
  refine Cells.wr (C:=⟨us++vs⟩) (n:=n*i.size) ((hT vs).mono hle) (Ly hle _ _ Fc) (.inr ⟨by rw[T3,←Yf];exact a9 _,a9 _⟩) (fun j v hj=> ?_) (fun _ _=>rfl);have:(us++vs)[n*i.size+j]? =some v:=by rw[Yj,z9 (by omega),hul];simpa using hj
  simpa using this)
 refine⟨_,_,o7,Bt,by rw[tT h1,h2];rfl,?_⟩
 have e1:(⟨us⟩:Array Value)++(⟨vs⟩:Array Value)++Builtin.zeroCells zv0.cells (grownCap w (n+m) c e - (n+m))=(⟨us++vs⟩:Array Value)++Builtin.zeroCells ⟨zs⟩ (grownCap w (n+m) c e - (n+m)):=by
  rw[z3];apply Ky;simp
 rw[e1];exact h3
theorem vs0 (hl:l.length=0*s)(hv:c9 η l=some vs):vs= []:=by
 have:=s7 _ _ hv;rw[hl]at this;simpa using this
theorem fG (w:World):Quiet w w.drew:=⟨rfl,rfl,rfl,rfl⟩
theorem wJ {s:At}(he:eN P H nx t tx s x=some (v,H',j5)):
  Dm H.get H'.get nx j5∧ ∀ {η:Env} {h:Hp} {w:World} {cs cx:Value} (ty:TypeId),Ek η h w H.get nx j5→s.j2 η=some cs→x.j2 η=some cx→
   ∃cv w' o7,(Builtin.append_ #[t,tx] ty #[cs,cx]).run P w= .ok cv w'∧v.j2 o7=some cv∧Y6 η h w H.get H'.get nx j5 o7 w':=by
 unfold eN at he;split at he
 ·rename_i e sz y z vz;obtain⟨i,ht,rfl,rfl⟩:=nI vz;split at he
  ·rename_i m l rQ;split at he
   ·-- nil
    split at he
    ·cases he;refine⟨Dm.refl _ _,fun ty p hs hx=> ?_⟩;obtain⟨T3,zv,vs,aW,Fc,qW⟩:=Ib ht rQ p.ext p.rh hx;simp only[At.j2]at hs;cases hs;exact⟨_,_,_,Kb (w':=_) ht.ff ht.Vy aW qW (by omega) rfl,by rfl,Y6.refl p.ext p.rh⟩
    ·rename_i m;split at he
     ·rename_i R6;cases he;refine⟨D2 _ _ _,fun ty p hs hx=> ?_⟩;rename_i η h w cs cx;obtain⟨T3,zv,vs,aW,Fc,qW⟩:=Ib ht rQ p.ext p.rh hx;simp only[At.j2]at hs;cases hs;have Yx:=s7 _ _ Fc;have:=eV (T:= .nil) (us:= []) (n:=0) (c:=0) (base:=none) ht p aW qW T3 Fc (by simp[Builtin.firstCells]) (by simp) (by omega) (by simpa using R6) (fun X i hi=>by simp at hi) ty;simpa using this
     ·cases he
   ·-- an empty slice
    split at he
    ·cases he;refine⟨Dm.refl _ _,fun ty p hs hx=> ?_⟩;rename_i η h w cs cx;obtain⟨T3,zv,vs,aW,Fc,qW⟩:=Ib ht rQ p.ext p.rh hx;obtain⟨a,c,hem,rfl⟩:=Hb hs;exact⟨_,w,η,Kb (w':=w) ht.ff ht.Vy aW qW (by omega) (by rw[vs0 T3 Fc];simp[storeCells]),l6.2 hs,Y6.refl p.ext p.rh⟩
    ·cases he
   ·-- a slice of known capacity
    rename_i b o n c;split at he
    ·split at he
     ·rename_i hnc;cases he;refine⟨Dm.refl _ _,fun ty p hs hx=> ?_⟩;rename_i η h w cs cx;obtain⟨T3,zv,vs,aW,Fc,qW⟩:=Ib ht rQ p.ext p.rh hx;obtain⟨B,hB,rfl⟩:=Cf hs;exact⟨_,w,η,Kb (w':=w) ht.ff ht.Vy aW qW (by have:=G9 hnc;omega) (by rw[vs0 T3 Fc];simp[storeCells]),l6.2 hs,Y6.refl p.ext p.rh⟩
     ·cases he
    ·rename_i m;split at he
     ·rename_i ob hb;split at he
      ·rename_i Ct;have Ct:=G9 Ct;split at he
       ·rename_i wm Nh;cases he;refine⟨Wk hb _ _,fun ty p hs hx=> ?_⟩;rename_i η h w cs cx;obtain⟨T3,zv,vs,aW,Fc,qW⟩:=Ib ht rQ p.ext p.rh hx;obtain⟨B,hB,rfl⟩:=Cf hs;have Yx:=s7 _ _ Fc;obtain⟨B',w',Sy,Bt,Z7⟩:=yW (P:=P) hb Nh p Fc;obtain rfl:B=B':=Z3 (hB.symm.trans Sy);refine⟨_,w',η,Kb (w':=w') ht.ff ht.Vy aW qW Ct ?_,Dh hB,Z7⟩;simp only[Aj];exact Bt
       ·cases he
      ·rename_i Ct
       have Ct:c<n+(m+1):=by
        rcases Oh c (n+(m+1))with h | h
        ·exact h
        ·rw[Nat.ble_eq_true_of_le h]at Ct;cases Ct
       split at he
       ·rename_i T Ro R6;cases he;refine⟨D2 _ _ _,fun ty p hs hx=> ?_⟩;rename_i η h w cs cx;obtain⟨T3,zv,vs,aW,Fc,qW⟩:=Ib ht rQ p.ext p.rh hx;obtain⟨B,hB,rfl⟩:=Cf hs;have Yx:=s7 _ _ Fc;obtain⟨B',C,E,Z8,hC,hle⟩:=JG p.ext p.rh hb Ro;obtain rfl:B=B':=Z3 (hB.symm.trans Z8.m5);exact eV ht p aW qW T3 Fc (fH Z8 hle w.drew (fG w)) (by simp;omega) Ct R6 (fun X=>hC.part X) ty
       ·cases he
     ·cases he
   ·-- a slice of unknown capacity
    rename_i b o n e';split at he
    ·split at he
     ·rename_i k hk;split at he
      ·rename_i hnk;cases he;refine⟨Dm.refl _ _,fun ty p hs hx=> ?_⟩;rename_i η h w cs cx;obtain⟨T3,zv,vs,aW,Fc,qW⟩:=Ib ht rQ p.ext p.rh hx;obtain⟨B,hB,rfl⟩:=E1 hs;have Ku:=(eE p.ext p.rh hk).1;have V9:=G9 hnk;exact⟨_,w,η,Kb (w':=w) ht.ff ht.Vy aW qW (by omega) (by rw[vs0 T3 Fc];simp[storeCells]),l6.2 hs,Y6.refl p.ext p.rh⟩
      ·cases he
     ·cases he
    ·rename_i m;split at he
     ·rename_i E mm s' T0 hb;split at he
      ·rename_i T hE CG ho Ro R6;cases he;have hE:E=e:=Y0 hE;have CG:s'=i.size:=Y0 CG;have ho:o=e'*i.size:=Y0 ho;subst hE;subst CG;refine⟨⟨by omega,fun k hk=> ?_⟩,fun ty p hs hx=> ?_⟩
       ·by_cases e1:k=nx
        ·exact .inr (by omega)
        ·rw[Tr.a8 _ _ e1]at hk;by_cases e2:k=b
         ·subst e2;rw[Tr.V2]at hk;exact absurd rfl hk
         ·rw[Tr.a8 _ _ e2]at hk;exact .inl hk
       rename_i η h w cs cx;obtain⟨T3,zv,vs,aW,Fc,qW⟩:=Ib ht rQ p.ext p.rh hx;obtain⟨B,hB,rfl⟩:=E1 hs;have Yx:=s7 _ _ Fc;obtain⟨B',C,E',Z8,hC,hle⟩:=JG p.ext p.rh hb Ro;obtain rfl:B=B':=Z3 (hB.symm.trans Z8.m5);obtain⟨B2,co,hB2,hw,C2,rfl,g1,g2,g3,g4⟩:=p.rh.live b _ (p.ext b _ hb);obtain rfl:B=B2:=Z3 (hB.symm.trans hB2)
       have hCC:C2=C∧E=E':=by
        have:=hw.symm.trans Z8.heap;injection this with this;injection this with h1 h2;exact⟨h1,h2⟩
       obtain⟨rfl,rfl⟩:=hCC;by_cases Ct:n+(m+1)≤η.cap b - e'
       ·-- in place
        have yF:e'+(n+(m+1))≤η.cap b:=by omega
        have Gb:(e'+(n+(m+1)))*i.size≤η.cap b*i.size:=Dd _ yF;rw[Yf,Yf]at Gb;have hvm:vs.length=(m+1)*i.size:=Yx.trans T3;have I7:B.2+(o+n*i.size)+0+vs.length≤C2.size:=by omega
        have Bt:=run_storeCells_at (P:=P) B.1 (B.2+(o+n*i.size)) E vs 0 C2 w Z8.heap I7 (mB l vs Fc);have Cr:B.2+(o+n*i.size)+vs.length≤C2.toList.length:=by simpa using I7
        refine⟨_,_,η.set nx (B.1,B.2+o) (η.cap b - e'),Kb ht.ff ht.Vy aW qW Ct (by simp only[Aj];exact Bt),?_,?_⟩
        ·rw[tT (Env.J9 _ _ _ _),Env.Ef];rfl
        ·obtain⟨Nb,_,_⟩:=p.fresh nx (a9 _) (by omega);have RJ:=Env.Oa Nb (B.1,B.2+o) (η.cap b - e');refine(Y6.move (B':=(B.1,B.2+o)) p hb hB rfl (setRow_heap w B.1 C2 _ E _ Z8.heap) (fun k hk=>setRow_other w B.1 k _ hk) rfl rfl rfl (by simp[World.setRow]) ?_).2;refine⟨_,rfl,?_,?_,⟨ht.pos,by rw[Env.Ef];have:=g3.2;omega⟩,?_⟩
         ·rw[Env.Ef];have:(η.cap b - e')*i.size=η.cap b*i.size - e'*i.size:=Nat.sub_mul _ _ _;simp only[List.size_toArray,Ec,Y8,List.length_drop,Array.length_toList];omega
         ·rw[Env.Ef];exact Dd _ Ct
         ·refine Cells.wr (C:=C2) (n:=n*i.size) (hC.mono RJ) (Ly RJ _ _ Fc) (.inr ⟨by rw[T3,←Yf];exact a9 _,a9 _⟩) (fun j v hj=> ?_) (fun j hj=> ?_)
          ·have:=JM C2.toList vs (B.2+(o+n*i.size)+0) (by omega) j v hj;rw[←this];simp only[Tv]
           congr 1
           omega
          ·have:=gh C2.toList vs (B.2+(o+n*i.size)+0) (by omega) j (by omega);simpa using this
       ·-- a new row
        obtain⟨cv,w',o7,h1,h2,h3⟩:=eV (c:=η.cap b - e') ht p aW qW T3 Fc (fH Z8 hle w.drew (fG w)) (by simp;omega) (by omega) R6 (fun X=>hC.part X) ty;refine⟨cv,w',o7,h1,h2,?_⟩;have d1:=D2 H (.lcells E ((n+(m+1))*i.size) i.size (wr T (n*i.size) l)) nx;have p1:=p.next d1 h3;obtain⟨d2,s2⟩:=Y6.drop p1 b
        have X3:b≠nx:=fun e1=>by
         have:=p.ext b _ hb;rw[e1,p.rh.fresh (p.fresh nx (a9 _) (by omega)).1]at this;cases this
        have ze1:((H.put (some (.lcells E ((n+(m+1))*i.size) i.size (wr T (n*i.size) l))) nx).put none b).get=((H.put none b).put (some (.lcells E ((n+(m+1))*i.size) i.size (wr T (n*i.size) l))) nx).get:=by
         funext k
         simp only[Tr.F7];by_cases e1:k=b
         ·subst e1;simp[X3]
         ·simp[e1]
        rw[←ze1];exact Y6.trans d1 d2 h3 s2
      ·cases he
     ·cases he
   ·cases he
  ·cases he
 ·cases he
end
noncomputable section
def IQ (H:Tr v5)(d:At)(l:List At):Option (Tr v5):=
 match l with
 | []=>match d with
  | .sl _ _ _ _ | .slx _ _ _ _ | .emp _ | .nils=>some H
  | _=>none
 | _::_=>match d with
  | .sl b o _ _=>match H.get b with
   | some ob=>match put ob o l with | some wm=>some (H.put (some wm) b) | none=>none
   | none=>none
  | .slx b o _ _=>match H.get b with
   | some ob=>match put ob o l with | some wm=>some (H.put (some wm) b) | none=>none
   | none=>none
  | _=>none
def IA:At→Option Nat
 | .sl _ _ n _=>some n
 | .slx _ _ n _=>some n
 | .emp _=>some 0
 | .nils=>some 0
 | _=>none
variable{a d x:At}{η:Env}{l:List At}{es:List uk}{ms:List MapEntry}{n nx j5:Nat}{P:Program}{H H':Tr v5}{t tx:TypeId}{v:V}{ck cv:Value}
theorem ML (h:IA a=some n){v:Value}(hv:a.j2 η=some v): ∃base c,v= .slice base n c:=by
 unfold IA at h;split at h<;>cases h
 ·obtain⟨B,_,rfl⟩:=Cf hv;exact⟨_,_,rfl⟩
 ·obtain⟨B,_,rfl⟩:=E1 hv;exact⟨_,_,rfl⟩
 ·obtain⟨a,c,_,rfl⟩:=Hb hv;exact⟨_,_,rfl⟩
 ·simp only[At.j2]at hv;cases hv;exact⟨_,_,rfl⟩
theorem MY (hf:IQ H d l=some H'):
  Dm H.get H'.get nx nx∧ ∀ {η:Env} {h:Hp} {w:World} {base:Option Addr} {n c:Nat} {vs:List Value},Ek η h w H.get nx nx→d.j2 η=some (.slice base n c)→c9 η l=some vs→
   ∃w',(match base with | some a=>(storeCells a vs).run P w= .ok () w' | none=>w'=w)∧Y6 η h w H.get H'.get nx nx η w':=by
 have main: ∀(b o:Nat) (a:At) (t:List At),(∃ob wm,H.get b=some ob∧put ob o (a::t)=some wm∧H'=H.put (some wm) b)→
   Dm H.get H'.get nx nx∧ ∀ {η:Env} {h:Hp} {w:World} {B:Nat×Nat} {vs:List Value},Ek η h w H.get nx nx→η.m5 b=some B→c9 η (a::t)=some vs→
    ∃w',(storeCells (Hl B o) vs).run P w= .ok () w'∧Y6 η h w H.get H'.get nx nx η w':=by
  rintro b o a t ⟨ob,wm,hb,Nh,rfl⟩;refine⟨Wk hb _ _,fun p hB Fc=> ?_⟩;obtain⟨B',w',Sy,Bt,Z7⟩:=yW (P:=P) hb Nh p Fc;rw[hB]at Sy;cases Sy;exact⟨w',Bt,Z7⟩
 unfold IQ at hf;split at hf
 ·have:H'=H:=by split at hf<;>first | (cases hf;rfl) | cases hf
  subst this;refine⟨Dm.refl _ _,fun p hd Fc=> ?_⟩;rename_i η h w base n c vs;simp[c9]at Fc;subst Fc;exact⟨w,by cases base<;>simp[storeCells],Y6.refl p.ext p.rh⟩
 ·rename_i a t;split at hf
  ·rename_i b o n' c';split at hf
   ·rename_i ob hb;split at hf
    ·rename_i wm Nh;cases hf;obtain⟨h1,h2⟩:=main b o a t ⟨ob,wm,hb,Nh,rfl⟩;refine⟨h1,fun p hd Fc=> ?_⟩;obtain⟨B,hB,he⟩:=Cf hd;cases he;exact h2 p hB Fc
    ·cases hf
   ·cases hf
  ·rename_i b o n' c';split at hf
   ·rename_i ob hb;split at hf
    ·rename_i wm Nh;cases hf;obtain⟨h1,h2⟩:=main b o a t ⟨ob,wm,hb,Nh,rfl⟩;refine⟨h1,fun p hd Fc=> ?_⟩;obtain⟨B,hB,he⟩:=E1 hd;cases he;exact h2 p hB Fc
    ·cases hf
   ·cases hf
  ·cases hf
def zG (P:Program)(H:Tr v5)(nx:Nat)(t tx:TypeId)(d x:At):Option (V×Tr v5×Nat):=none
theorem BE (he:zG P H nx t tx d x=some (v,H',j5)):
  Dm H.get H'.get nx j5∧ ∀ {η:Env} {h:Hp} {w:World} {cd cx:Value} (ty:TypeId),Ek η h w H.get nx j5→d.j2 η=some cd→x.j2 η=some cx→
   ∃cv w',(Builtin.copy_ #[t,tx] ty #[cd,cx]).run P w= .ok cv w'∧v.j2 η=some cv∧Y6 η h w H.get H'.get nx j5 η w':=by unfold zG at he;cases he
def oR (P:Program)(H:Tr v5)(nx:Nat)(t:TypeId)(d:At):Option (V×Tr v5×Nat):=
 match slT P t,IA d with
 | some (_,_,_,z),some n=>match IQ H d (mV z n)with
  | some H'=>some (V.undef,H',nx)
  | none=>none
 | _,_=>none
theorem xj (he:oR P H nx t d=some (v,H',j5)):
  Dm H.get H'.get nx j5∧ ∀ {η:Env} {h:Hp} {w:World} {cd:Value} (ty:TypeId),Ek η h w H.get nx j5→d.j2 η=some cd→
   ∃cv w',(Builtin.clear_ #[t] ty #[cd]).run P w= .ok cv w'∧v.j2 η=some cv∧Y6 η h w H.get H'.get nx j5 η w':=by
 unfold oR at he;split at he
 ·rename_i e sz y z n vz hlen;obtain⟨i,ht,rfl,rfl⟩:=nI vz;split at he
  ·rename_i H2 IJ;cases he;obtain⟨h1,h2⟩:=MY (P:=P) (nx:=nx) IJ;refine⟨h1,fun ty p hd=> ?_⟩;rename_i η h w cd;obtain⟨base,c,rfl⟩:=ML hlen hd;obtain⟨zv,zs,z1,z2,z3,z4,_⟩:=ht.zeroV η w;obtain⟨w',h3,h4⟩:=h2 p hd (Ke z2 n);refine⟨.tuple #[],w',?_,rfl,h4⟩;have hzp:0< (⟨zs⟩:Array Value).size:=by show 0<zs.length;rw[z4];exact ht.pos
   have hzc:Builtin.zeroCells zv.cells n=⟨Bd zs n⟩:=by rw[z3];exact Oi ⟨zs⟩ n hzp
   cases base with
   | none=>subst h3;simp[Builtin.clear_,n5 ht.ff]
   | some a=>
    cases n with
    | zero=>simp[Bd,storeCells]at h3;subst h3;simp[Builtin.clear_,n5 ht.ff]
    | succ n=>simp[Builtin.clear_,n5 ht.ff,z1,hzc,h3]
  ·cases he
 ·cases he
def Xi (P:Program)(H:Tr v5)(nx:Nat)(t:TypeId)(r:Option At):Option (V×Tr v5×Nat):=
 match P.underlying t,r with
 | some (.map _ _),none=>some (.one (.map nx),H.put (some (.map [] 0)) nx,nx+1)
 | some (.map _ _),some (.int _ _)=>some (.one (.map nx),H.put (some (.map [] 0)) nx,nx+1)
 | _,_=>none
theorem qD {r:Option At}(he:Xi P H nx t r=some (v,H',j5)):
  Dm H.get H'.get nx j5∧ ∀ {η:Env} {h:Hp} {w:World} {cr:Option Value},Ek η h w H.get nx j5→Zg η r cr→
   ∃cv w' o7,(Instr.makeMap t cr).run P w= .ok cv w'∧v.j2 o7=some cv∧Y6 η h w H.get H'.get nx j5 o7 w':=by
 have main: ∀ {η:Env} {h:Hp} {w:World},Ek η h w H.get nx (nx+1)→ ∃o7,(V.one (.map nx)).j2 o7=some (.map (some w.heap.size))∧Y6 η h w H.get (H.put (some (.map [] 0)) nx).get nx (nx+1) o7 (w.alloc (.map #[] 0)):=by
  intro η h w p;have hs:=Y6.alloc (w':=w.alloc (.map #[] 0)) p (.map #[] 0) (.map [] 0) 0 ⟨rfl,rfl,rfl,rfl⟩ ⟨#[],rfl,.nil⟩;exact⟨_,by rw[l6];simp[At.j2,Env.J9],hs.2⟩
 unfold Xi at he;split at he
 ·rename_i kt et hu;cases he;refine⟨D2 _ _ _,fun p hr=> ?_⟩;rename_i η h w cr
  cases cr with
  | some _=>exact hr.elim
  | none=>
   obtain⟨o7,h1,h2⟩:=main p;exact⟨_,_,o7,by simp[Instr.makeMap],h1,h2⟩
 ·rename_i kt et k n hu;cases he;refine⟨D2 _ _ _,fun p hr=> ?_⟩;rename_i η h w cr
  cases cr with
  | none=>exact hr.elim
  | some c=>
   simp only[Zg,At.j2]at hr;cases hr;obtain⟨o7,h1,h2⟩:=main p;exact⟨_,_,o7,by simp[Instr.makeMap,n5 hu,asInt,asIntOf],h1,h2⟩
 ·cases he
def oO (P:Program)(H:Tr v5)(nx:Nat)(t:TypeId)(x:At):Option (V×Tr v5×Nat):=
 match P.underlying t,x with
 | some (.map _ _),.map b=>match H.get b with
  | some (.map _ _)=>some (.one (.ptr nx 0),H.put (some (.mit b)) nx,nx+1)
  | _=>none
 | _,_=>none
theorem xq (he:oO P H nx t x=some (v,H',j5)):
  Dm H.get H'.get nx j5∧ ∀ {η:Env} {h:Hp} {w:World} {cx:Value},Ek η h w H.get nx j5→x.j2 η=some cx→
   ∃cv w' o7,(Instr.range t cx).run P w= .ok cv w'∧v.j2 o7=some cv∧Y6 η h w H.get H'.get nx j5 o7 w':=by
 unfold oO at he;split at he
 ·rename_i kt et b hu;split at he
  ·rename_i es clock hb;cases he;refine⟨D2 _ _ _,fun p hx=> ?_⟩;rename_i η h w cx;obtain⟨B,hB,rfl⟩:=Ha hx;obtain⟨B',co,Sy,hw,ms,rfl,bE⟩:=p.rh.live b _ (p.ext b _ hb);obtain rfl:B=B':=Z3 (hB.symm.trans Sy);obtain⟨Nb,_,_⟩:=p.fresh nx (a9 _) (by omega);have hs:=Y6.alloc (w':=w.alloc (.mapIter (some B.1) clock #[] clock)) p (.mapIter (some B.1) clock #[] clock) (.mit b) 0 ⟨rfl,rfl,rfl,rfl⟩ ⟨rfl,B,clock,clock,((Env.Oa Nb _ _).m5 b B hB).1,rfl⟩;refine⟨.pointer (some ⟨w.heap.size,0,none⟩),_,_,?_,by rw[l6];simp[At.j2,Env.J9,Hl],hs.2⟩;simp[Instr.range,n5 hu,getObj,Sem.run,hw]
  ·cases he
 ·cases he
def xV:List uk→Nat→(Bool×List At)→(Bool×List At)→List uk
 | [],_,_,_=> []
 | (_,_,n)::l,0,k,v=>(k,v,n)::l
 | e::l,i+1,k,v=>e::xV l i k v
theorem Ht.set (h:Ht η es ms){k v:Bool×List At}(hk:comp η k.1 k.2=some ck)(hv:comp η v.1 v.2=some cv):
  ∀i,Ht η (xV es i k v) (ms.modify i fun e=> { e with key:=ck,val:=cv }):=by
 induction h with
 | nil=>intro i;cases i<;>simp[xV]<;>exact .nil
 | cons Qi hv' h ih=>
  intro i
  cases i with
  | zero=>simp only[xV,List.modify_zero_cons];exact .cons hk hv h
  | succ i=>simp only[xV,List.modify_succ_cons];exact .cons Qi hv' (ih i)
theorem Ht.snoc (h:Ht η es ms){k v:Bool×List At}(hk:comp η k.1 k.2=some ck)(hv:comp η v.1 v.2=some cv)(n:Nat):
  Ht η (es++ [(k,v,n)]) (ms++ [⟨ck,cv,n⟩]):=by
 induction h with
 | nil=>exact .cons hk hv .nil
 | cons Qi hv' _ ih=>exact .cons Qi hv' ih
def Ii (P:Program)(H:Tr v5)(nx:Nat)(t:TypeId)(m:At)(k x:V):Option (V×Tr v5×Nat):=
 match P.underlying t,m,k,x with
 | some (.map kt _),.map b,.c gk lk,.c gx lx=>match H.get b with
  | some (.map es clock)=>match nS P kt (.c gk lk) es false with
   | some (some i)=>match es[i]?,comp Env.Vx gk lk with
    | some (k0,_,_),some kv=>match comp Env.Vx k0.1 k0.2 with
     | some k0v=>match Fk P (Instr.keyThatStays k0v kv)with
      | some k1v=>match iN k1v with
       | some k1=>some (V.undef,H.put (some (.map (xV es i k1 (gx,lx)) clock)) b,nx)
       | none=>none
      | none=>none
     | none=>none
    | _,_=>none
   | some none=>some (V.undef,H.put (some (.map (es++ [((gk,lk),(gx,lx),clock)]) (clock+1))) b,nx)
   | none=>none
  | _=>none
 | _,_,_,_=>none
theorem Pg {m:At}{k x:V}(he:Ii P H nx t m k x=some (v,H',j5)):
  v=V.undef∧Dm H.get H'.get nx j5∧ ∀ {η:Env} {h:Hp} {w:World} {cm ck cx:Value},Ek η h w H.get nx j5→m.j2 η=some cm→k.j2 η=some ck→x.j2 η=some cx→
   ∃w',(Instr.mapUpdate t cm ck cx).run P w= .ok () w'∧Y6 η h w H.get H'.get nx j5 η w':=by
 unfold Ii at he;split at he
 ·rename_i kt et b gk lk gx lx hu;split at he
  ·rename_i es clock hb
   have gen: ∀ {η:Env} {h:Hp} {w:World} {B:Nat×Nat} {ms Fj:Array MapEntry} {es':List uk} {c':Nat},Ek η h w H.get nx nx→η.m5 b=some B→w.heap[B.1]? =some (.map ms clock)→Ht η es' Fj.toList→
     (setObj B.1 (.map Fj c')).run P w= .ok () { w with heap:=w.heap.setIfInBounds B.1 (.map Fj c') }∧Y6 η h w H.get (H.put (some (.map es' c')) b).get nx nx η { w with heap:=w.heap.setIfInBounds B.1 (.map Fj c') }:=by
    intro η h w B ms Fj es' c' p hB hw hE;have Z:B.1<w.heap.size:=(Mu.1 hw).1;refine⟨by simp[setObj,Sem.run,hw],(Y6.set (w':= { w with heap:=w.heap.setIfInBounds B.1 (.map Fj c') }) p hb hB (mf:= .map Fj c') (o':= .map es' c') ?_ ?_ rfl rfl rfl (by simp) ⟨Fj,rfl,hE⟩).2⟩
    ·simp[Z]
    ·intro j hj;simp[rX (W5 hj)]
   split at he
   ·rename_i i hf;split at he
    ·rename_i k0 v0 n0 kv hi WL;split at he
     ·rename_i k0v Em;split at he
      ·rename_i k1v uo;split at he
       ·rename_i k1 Ku;cases he;refine⟨rfl,Wk hb _ _,fun p hm hk hx=> ?_⟩;rename_i η h w cm ck cx;obtain⟨B,hB,rfl⟩:=Ha hm;obtain⟨B',co,Sy,hw,ms,rfl,bE⟩:=p.rh.live b _ (p.ext b _ hb);obtain rfl:B=B':=Z3 (hB.symm.trans Sy);obtain⟨h1,e,h2,h3⟩:=Qe hf (w:=w) bE hk;obtain⟨ck0,cv0,h4,h5,h6⟩:=bE.get i k0 v0 n0 hi;rw[h2]at h4;cases h4;have hkk:=Dg (Env.Pp η) WL;have Qi:comp η gk lk=some ck:=hk;rw[Qi]at hkk;cases hkk;have qo3:=Dg (Env.Pp η) Em;rw[h5]at qo3;cases qo3;have hs:=Jw uo w
        obtain⟨g1,g2⟩:=gen (Fj:=ms.modify i fun e=> { e with key:=k1v,val:=cx }) (es':=xV es i k1 (gx,lx)) (c':=clock) p hB hw (by
         rw[Array.toList_modify];exact bE.set (k:=k1) (v:=(gx,lx)) (Kl η Ku) hx i)
        refine⟨_,?_,g2⟩;have mj:=h2;simp only[iM]at mj;have mw:(getObj B.1).run P w= .ok (.map ms clock) w:=by simp[getObj,Sem.run,hw]
        simp only[Instr.mapUpdate,Sem.run_bind,n5 hu,Result.andThen_ok,mw,h1,h3,mj,dJ,Option.getD_some,hs];exact g1
       ·cases he
      ·cases he
     ·cases he
    ·cases he
   ·rename_i hf;cases he;refine⟨rfl,Wk hb _ _,fun p hm hk hx=> ?_⟩;rename_i η h w cm ck cx;obtain⟨B,hB,rfl⟩:=Ha hm;obtain⟨B',co,Sy,hw,ms,rfl,bE⟩:=p.rh.live b _ (p.ext b _ hb);obtain rfl:B=B':=Z3 (hB.symm.trans Sy);obtain⟨h1,h3⟩:=Qe hf (w:=w) bE hk
    obtain⟨g1,g2⟩:=gen (Fj:=ms.push ⟨ck,cx,clock⟩) (es':=es++ [((gk,lk),(gx,lx),clock)]) (c':=clock+1) p hB hw (by
     rw[Array.toList_push];exact bE.snoc (k:=(gk,lk)) (v:=(gx,lx)) hk hx clock)
    refine⟨_,?_,g2⟩;have mw:(getObj B.1).run P w= .ok (.map ms clock) w:=by simp[getObj,Sem.run,hw]
    simp only[Instr.mapUpdate,Sem.run_bind,n5 hu,Result.andThen_ok,mw,h1,h3];exact g1
   ·cases he
  ·cases he
 ·cases he
def IU (P:Program)(H:Tr v5)(nx:Nat)(s t:TypeId)(l:List UInt8):Option (V×Tr v5×Nat):=none
theorem MZ {s:TypeId}{l:List UInt8}(he:IU P H nx s t l=some (v,H',j5)):
  Dm H.get H'.get nx j5∧ ∀ {η:Env} {h:Hp} {w:World},Ek η h w H.get nx j5→ ∃cv w' o7,(convert s t (.string ⟨⟨l⟩⟩)).run P w= .ok cv w'∧v.j2 o7=some cv∧Y6 η h w H.get H'.get nx j5 o7 w':=by unfold IU at he;cases he
end
noncomputable section
def IW (P:Program)(H:Tr v5)(nx:Nat)(t:TypeId)(x:At)(lo hi mx:Option At):Option (V×Tr v5×Nat):=
 match P.underlying t with
 | some (.slice e)=>match P.info? e,x with
  | some i,.slx b o n e'=>match known H b o e' i.size with
   | some k=>match mx with
    | some _=>none
    | none=>match bnds n k lo hi none with
     | some (l,h,_)=>match Nat.beq l h with
      | true=>some (.one (.emp nx),H,nx+1)
      | false=>none
     | none=>none
   | none=>none
  | _,_=>none
 | _=>none
def WZ (P:Program)(o:Oper)(tm:Tr V)(H:Tr v5)(nx:Nat):Option (V×Tr v5×Nat):=
 match o.op with
 | .alloc t=>aP P H nx t
 | .box t x=>match B9 P tm x with | some v=>jz H nx t v | none=>none
 | .buildSlice t len ps=>match Ln P tm ps.toList with | some l=>Me P H nx t len l | none=>none
 | .store t a x=>match B9 P tm a,B9 P tm x with
  | some (.c false [p]),some v=>Ul P H nx t p v
  | _,_=>none
 | .makeSlice t l c=>match B9 P tm l,B9 P tm c with
  | some (.c false [a]),some (.c false [b])=>Pc P H nx t a b
  | _,_=>none
 | .makeMap t r=>match Qx P tm r with | some a=>Xi P H nx t a | none=>none
 | .mapUpdate t m k x=>match B9 P tm m,B9 P tm k,B9 P tm x with
  | some (.c false [a]),some u,some v=>Ii P H nx t a u v
  | _,_,_=>none
 | .insert t m k x=>match B9 P tm m,B9 P tm k,B9 P tm x with
  | some (.c false [a]),some u,some v=>Ii P H nx t a u v
  | _,_,_=>none
 | .range t x=>match B9 P tm x with | some (.c false [a])=>oO P H nx t a | _=>none
 | .convert s t x=>match B9 P tm x with | some (.c false [.str l])=>IU P H nx s t l | _=>none
 | .slice t x lo hi mx=>match B9 P tm x with
  | some (.c false [a])=>match Qx P tm lo,Qx P tm hi,Qx P tm mx with
   | some l,some h,some m=>IW P H nx t a l h m
   | _,_,_=>none
  | _=>none
 | .call c=>match c.callee with
  | .builtin .append=>match c.args.toList,c.argTypes.toList with
   | [s,x],[t,tx]=>match B9 P tm s,B9 P tm x with
    | some (.c false [a]),some (.c false [b])=>eN P H nx t tx a b
    | _,_=>none
   | _,_=>none
  | .builtin .copy=>match c.args.toList,c.argTypes.toList with
   | [s,x],[t,tx]=>match B9 P tm s,B9 P tm x with
    | some (.c false [a]),some (.c false [b])=>zG P H nx t tx a b
    | _,_=>none
   | _,_=>none
  | .builtin .clear=>match c.args.toList,c.argTypes.toList with
   | [s],[t]=>match B9 P tm s with
    | some (.c false [a])=>oR P H nx t a
    | _=>none
   | _,_=>none
  | _=>none
 | _=>none
def vm (P:Program)(o:Oper)(tm:Tr V)(H:Tr v5)(nx:Nat):Option (V×Tr v5×Nat):=
 match Qk P o tm H with
 | some v=>some (v,H,nx)
 | none=>WZ P o tm H nx
def G7 (ops:Array Oper)(o:Oper)(tm:Tr V):Option Bool:=
 match o.guard with
 | none=>some true
 | some (j,want)=>match ops[j]? with
  | some oj=>match oj.dst with
   | some d=>match tm.get d with
    | some (.c false [.bool b])=>some (b==want)
    | some (.tup _)=>some false
    | _=>none
   | none=>some false
  | none=>some false
def Ql (nt:Nat)(tm:Tr V)(dst:Option Tmp)(v:V):Option (Tr V):=
 match dst with
 | none=>some tm
 | some d=>match Nat.blt d nt with | true=>some (tm.put (some v) d) | false=>none
inductive Ex where
 | normal
 | exit (id:Nat)
 | goto (l:Nat)
 | ret
 deriving Inhabited
abbrev Res:=Option (Ex×Tr V×Tr v5×Nat×List Nat)
structure xC where
 code:Code→Nat→Option Nat→Tr V→Tr v5→Nat→List Nat→Res
 call:FuncId→List V→Tr v5→Nat→Option (V×Tr v5×Nat)
 round:Nat→List V→Tr v5→Nat→Option (V×Tr v5×Nat)
 scope:Code→Code→Nat→Option Nat→Tr V→Tr v5→Nat→List Nat→Res
inductive qq0 where
 | fn (f:FuncId) (args:List V)
 | yld (l:Nat) (args:List V)
def Yd:List (Nat×Nat)→List V
 | []=> []
 | (b,o)::l=> .one (.ptr b o)::Yd l
def Re:List XU→Option (List V)
 | []=>some []
 | .val v::l=>match Zk v,Re l with
  | some a,some ys=>some (a::ys)
  | _,_=>none
 | .ptr b o::l=>match Re l with
  | some ys=>some (.one (.ptr b o)::ys)
  | none=>none
def cy (P:Program)(c:Call)(tm:Tr V):Option qq0:=
 match c.callee with
 | .value g=>match B9 P tm g,bU P tm c.args.toList with
  | some (.c false [.fn f first Jf]),some vs=>match Re first with | some us=>some (.fn f (us++(vs++Yd Jf))) | none=>none
  | some (.c false [.yld l]),some vs=>some (.yld l vs)
  | _,_=>none
 | _=>none
def evB (F:xC)(P:Program)(o:Oper)(tm:Tr V)(H:Tr v5)(nx:Nat):Option (V×Tr v5×Nat):=
 match o.op with
 | .call c=>match cy P c tm with
  | some (.fn f args)=>F.call f args H nx
  | some (.yld l args)=>F.round l args H nx
  | none=>none
 | _=>none
def Oc:Op→Bool
 | .call { callee:= .value _,.. }=>true
 | _=>false
def kA (F:xC)(P:Program)(ops:Array Oper)(nt:Nat):List Oper→Tr V→Tr v5→Nat→Option (Tr V×Tr v5×Nat)
 | [],tm,H,nx=>some (tm,H,nx)
 | o::l,tm,H,nx=>match G7 ops o tm with
  | some true=>match(match Oc o.op with | true=>evB F P o tm H nx | false=>vm P o tm H nx)with
   | some (v,H',j5)=>match Ql nt tm o.dst v with
    | some G0=>kA F P ops nt l G0 H' j5
    | none=>none
   | none=>none
  | some false=>match Ql nt tm o.dst V.undef with
   | some G0=>kA F P ops nt l G0 H nx
   | none=>none
  | none=>none
def xU:Nat→List V→Tr V
 | _,[]=> .nil
 | i,v::l=>(xU (i+1) l).put (some v) i
def mU (P:Program)(tm:Tr V)(H:Tr v5):ResultVar→Option (Bool×List At)
 | .tmp t=>match tm.get t with
  | some (.c g l)=>some (g,l)
  | _=>none
 | .cell a t=>match tm.get a with
  | some (.c false [p])=>match Gr P H t p with | some (.c g l)=>some (g,l) | _=>none
  | _=>none
def Jj (P:Program)(tm:Tr V)(H:Tr v5):List ResultVar→Option (List (Bool×List At))
 | []=>some []
 | r::l=>match mU P tm H r,Jj P tm H l with
  | some c,some cs=>some (c::cs)
  | _,_=>none
def xW:List (Bool×List At)→V
 | [(g,l)]=> .c g l
 | l=> .tup l
end
end Go.Proofs.YtlhlmcohdkkjpaaGreatDoor.Ev
