/- An abstract interpreter of the model's code, fourteenth part: statements and calls. The text of the interpreter. -/
import Derived.Test.YtlhlmcohdkkjpaaGreatDoorEvB
import Derived.RangeFuncLeaves
set_option linter.all false
namespace Go.Proofs.YtlhlmcohdkkjpaaGreatDoor.Ev
open Go
noncomputable section
def UO:At→List Nat
 | .ptr b _=> [b]
 | .sl b _ _ _=> [b]
 | .slx b _ _ _=> [b]
 | .map b=> [b]
 | _=> []
def kg:List At→List Nat
 | []=> []
 | a::l=>UO a++kg l
def P4 (P:Program)(tm:Tr V)(x:Operand):List Nat:=
 match B9 P tm x with
 | some (.c _ l)=>kg l
 | _=> []
def vE (P:Program)(tm:Tr V):List Operand→List Nat
 | []=> []
 | x::l=>P4 P tm x++vE P tm l
def N1 (P:Program)(o:Oper)(tm:Tr V):List Nat:=
 match o.op with
 | .load _ a=>P4 P tm a
 | .store _ a _=>P4 P tm a
 | .binOp .eql _ x y _=>P4 P tm x++P4 P tm y
 | .binOp .neq _ x y _=>P4 P tm x++P4 P tm y
 | .slice _ x _ _ _=>P4 P tm x
 | .convert _ _ x=>P4 P tm x
 | .lookup _ m _ _=>P4 P tm m
 | .mapUpdate _ m _ _=>P4 P tm m
 | .insert _ m _ _=>P4 P tm m
 | .call c=>vE P tm c.args.toList
 | _=> []
def T7 (H:Tr v5):List Nat→Tr v5
 | []=> .nil
 | b::l=>match H.get b with
  | some o=>(T7 H l).put (some o) b
  | none=>T7 H l
def Wh (H G:Tr v5):List Nat→Tr v5
 | []=>H
 | b::l=>(Wh H G l).put (G.get b) b
def Y3 (H:Tr v5):List Nat→Tr v5
 | []=>H
 | b::l=>(Y3 H l).put none b
def rng:Nat→Nat→List Nat
 | _,0=> []
 | a,n+1=>a::rng (a+1) n
structure Sp where
 idx:Nat
 tm:Tr V
 v:V
 H:Tr v5
 nx:Nat
 H':Tr v5
 j5:Nat
 G:Tr v5
 G':Tr v5
 Mx:List Nat
 iF:List Nat
 QB:Bool
def Zj (acc:List Nat):List Edge→Nat
 | []=>0
 | e::l=>match Region.binds .any e&&Nat.blt e.on acc.length with
  | true=>Nat.lor (Nat.lor (2^e.on) (acc.getD e.on 0)) (Zj acc l)
  | false=>Zj acc l
def Mt:List Oper→List Nat→List Nat
 | [],acc=>acc
 | o::l,acc=>Mt l (acc++ [Zj acc o.after.toList])
def Rt (A:List Nat)(i j:Nat):Bool:=(A.getD i 0).testBit j
def K0 (A:List Nat)(i:Nat):List Sp→List Nat
 | []=> []
 | r::l=>match Rt A i r.idx with
  | true=>K0 A i l
  | false=>r.iF++K0 A i l
def ju (n:Nat):List Nat→Bool
 | []=>true
 | b::l=>match Nat.blt b n with | true=>ju n l | false=>false
def atB:At→At→Bool
 | .bool a,.bool b=>a==b
 | .int j a,.int k b=>(j==k)&&(a==b)
 | .str a,.str b=>a==b
 | .ptr a b,.ptr c d=>Nat.beq a c&&Nat.beq b d
 | .nilp,.nilp=>true
 | .sl a b c d,.sl a' b' c' d'=>Nat.beq a a'&&Nat.beq b b'&&Nat.beq c c'&&Nat.beq d d'
 | .slx a b c d,.slx a' b' c' d'=>Nat.beq a a'&&Nat.beq b b'&&Nat.beq c c'&&Nat.beq d d'
 | .nils,.nils=>true
 | .map a,.map b=>Nat.beq a b
 | .nilm,.nilm=>true
 | .nilf,.nilf=>true
 | .nili,.nili=>true
 | .opq a,.opq b=>Nat.beq a b
 | .emp a,.emp b=>Nat.beq a b
 | .yld a,.yld b=>Nat.beq a b
 | .fn f [] a,.fn g [] b=>Nat.beq f g&&(a==b)
 | _,_=>false
def ql8:Option At→Option At→Bool
 | none,none=>true
 | some a,some b=>atB a b
 | _,_=>false
def fo:Tr At→Tr At→Bool
 | .nil,.nil=>true
 | .node v c0 c1 c2 c3 c4 c5 c6 c7,.node v' d0 d1 d2 d3 d4 d5 d6 d7=>match ql8 v v' with
  | true=>fo c0 d0&&fo c1 d1&&fo c2 d2&&fo c3 d3&&fo c4 d4&&fo c5 d5&&fo c6 d6&&fo c7 d7
  | false=>false
 | _,_=>false
def FT:List At→List At→Bool
 | [],[]=>true
 | a::l,b::m=>match atB a b with | true=>FT l m | false=>false
 | _,_=>false
def jx:List uk→List uk→Bool
 | [],[]=>true
 | ((g,k),(g',v),n)::l,((g2,k2),(g2',v2),n2)::m=>match(g==g2)&&((g'==g2')&&(Nat.beq n n2&&(FT k k2&&FT v v2)))with | true=>jx l m | false=>false
 | _,_=>false
def xX:Option v5→Option v5→Bool
 | none,none=>true
 | some (.cells E n t),some (.cells E' n' t')=>Nat.beq E E'&&Nat.beq n n'&&fo t t'
 | some (.lcells E n s t),some (.lcells E' n' s' t')=>Nat.beq E E'&&Nat.beq n n'&&Nat.beq s s'&&fo t t'
 | some (.scells E n t),some (.scells E' n' t')=>Nat.beq E E'&&Nat.beq n n'&&fo t t'
 | some (.map es c),some (.map es' c')=>Nat.beq c c'&&jx es es'
 | _,_=>false
def changed (G G':Tr v5):List Nat→List Nat
 | []=> []
 | b::l=>match xX (G.get b) (G'.get b)with
  | true=>changed G G' l
  | false=>b::changed G G' l
def n8 (tm:Tr V):List Tmp→Tr V
 | []=> .nil
 | t::l=>match tm.get t with
  | some v=>(n8 tm l).put (some v) t
  | none=>n8 tm l
def Tf (F:xC)(P:Program)(A:List Nat)(i:Nat)(rs:List Sp)(o:Oper)(tm:Tr V)(H:Tr v5)(nx:Nat):Option (V×Sp):=
 match Oc o.op with
 | true=>match ju nx (K0 A i rs)with
  | true=>match evB F P o tm (Y3 H (K0 A i rs)) nx with
   | some (v,H1,j5)=>some (v,⟨i,tm,v,H,nx,Wh H1 H (K0 A i rs),j5,Y3 H (K0 A i rs),H1,[],[],true⟩)
   | none=>none
  | false=>none
 | false=>match Qk P o tm (T7 H (N1 P o tm))with
  | some v=>some (v,⟨i,tm,v,H,nx,H,nx,T7 H (N1 P o tm),T7 H (N1 P o tm),N1 P o tm,[],false⟩)
  | none=>match WZ P o tm (T7 H (N1 P o tm)) nx with
   | some (v,G',j5)=>some (v,⟨i,tm,v,H,nx,Wh H G' (changed (T7 H (N1 P o tm)) G' (N1 P o tm)++rng nx (j5 - nx)),j5,T7 H (N1 P o tm),G',N1 P o tm,changed (T7 H (N1 P o tm)) G' (N1 P o tm)++rng nx (j5 - nx),false⟩)
   | none=>none
def mh (F:xC)(P:Program)(ops:Array Oper)(nt:Nat)(A:List Nat):Nat→List Oper→List Sp→Tr V→Tr v5→Nat→Option (Tr V×Tr v5×Nat×List Sp)
 | _,[],_,tm,H,nx=>some (tm,H,nx,[])
 | i,o::l,rs,tm,H,nx=>match G7 ops o (n8 tm (o.looksAt ops))with
  | some true=>match Tf F P A i rs o (n8 tm (o.looksAt ops)) H nx with
   | some (v,s)=>match Ql nt tm o.dst v with
    | some G0=>match mh F P ops nt A (i+1) l (s::rs) G0 s.H' s.j5 with
     | some (PF,H2,Iu,ss)=>some (PF,H2,Iu,s::ss)
     | none=>none
    | none=>none
   | none=>none
  | some false=>match Ql nt tm o.dst V.undef with
   | some G0=>match mh F P ops nt A (i+1) l (⟨i,n8 tm (o.looksAt ops),V.undef,H,nx,H,nx,.nil,.nil,[],[],false⟩::rs) G0 H nx with
    | some (PF,H2,Iu,ss)=>some (PF,H2,Iu,⟨i,n8 tm (o.looksAt ops),V.undef,H,nx,H,nx,.nil,.nil,[],[],false⟩::ss)
    | none=>none
   | none=>none
  | none=>none
def kC (b:Nat):List Nat→Bool
 | []=>false
 | x::l=>match Nat.beq b x with | true=>true | false=>kC b l
def iJ:List Nat→List Nat→Bool
 | [],_=>true
 | b::l,m=>match kC b m with | true=>false | false=>iJ l m
def Ny (G:Tr v5):List Nat→Bool
 | []=>true
 | b::l=>match G.get b with | none=>Ny G l | some _=>false
def Ob (s:Sp):List Nat→Bool
 | []=>true
 | b::l=>match Nat.blt b s.nx with
  | true=>match s.G.get b with
   | none=>Ob s l
   | some _=>match xX (s.G.get b) (s.G'.get b)with | true=>Ob s l | false=>false
  | false=>false
def O6 (r s:Sp):Bool:=
 match r.QB,s.QB with
 | false,false=>iJ r.iF s.Mx&&iJ s.iF r.Mx
 | false,true=>Ny s.G r.iF&&Ob s r.Mx
 | true,false=>Ny r.G s.iF&&Ob r s.Mx
 | true,true=>false
def Gq (A:List Nat)(r:Sp):List Sp→Bool
 | []=>true
 | s::l=>match Rt A s.idx r.idx || O6 r s with | true=>Gq A r l | false=>false
def Gs (A:List Nat):List Sp→Bool
 | []=>true
 | r::l=>match Gq A r l with | true=>Gs A l | false=>false
def Fo (A:List Nat)(i:Nat)(t:Tmp):Nat→List Oper→Bool
 | _,[]=>true
 | j,o::l=>match o.dst with
  | some d=>match Nat.beq d t with
   | true=>match Nat.beq i j || Rt A i j || Rt A j i with | true=>Fo A i t (j+1) l | false=>false
   | false=>Fo A i t (j+1) l
  | none=>Fo A i t (j+1) l
def Ug (ops:Array Oper)(o:Oper):List Tmp:=o.dst.toList++o.looksAt ops
def aE (ops:Array Oper)(A:List Nat)(i:Nat):List Tmp→Bool
 | []=>true
 | t::l=>match Fo A i t 0 ops.toList with | true=>aE ops A i l | false=>false
def dA (ops:Array Oper)(A:List Nat):Nat→List Oper→Bool
 | _,[]=>true
 | i,o::l=>match aE ops A i (Ug ops o)with | true=>dA ops A (i+1) l | false=>false
def nT (i:Nat):List Edge→Bool
 | []=>true
 | e::l=>match !Region.binds .any e || Nat.blt e.on i with | true=>nT i l | false=>false
def Um:Nat→List Oper→Bool
 | _,[]=>true
 | i,o::l=>match nT i o.after.toList with | true=>Um (i+1) l | false=>false
def dE (F:xC)(P:Program)(ops:Array Oper)(nt:Nat)(tm:Tr V)(H:Tr v5)(nx:Nat):Option (Tr V×Tr v5×Nat):=
 match Um 0 ops.toList&&dA ops (Mt ops.toList []) 0 ops.toList,mh F P ops nt (Mt ops.toList []) 0 ops.toList [] tm H nx with
 | true,some (G0,H',j5,ss)=>match Gs (Mt ops.toList []) ss with
  | true=>some (G0,H',j5)
  | false=>none
 | _,_=>none
def dF (P:Program)(tm:Tr V)(c:Operand):Option Bool:=
 match B9 P tm c with
 | some (.c false [.bool b])=>some b
 | _=>none
def Es (H:Tr v5)(l:Nat)(st:LoopState)(pe:Option Code):Option (Tr v5):=
 match H.get l with
 | some (.loop _ _ tm nt ps assign body df)=>some (H.put (some (.loop st pe tm nt ps assign body df)) l)
 | _=>none
def Fy (F:xC)(l nt:Nat)(ro:Option Nat)(tm:Tr V)(ds:List Nat):Option (V×Tr v5×Nat)→Res
 | some (_,H,nx)=>match H.get l with
  | some (.loop st pe _ _ _ _ _ _)=>match st with
   | .busy=>none
   | _=>match Es H l .exhausted pe with
    | some H'=>match pe with
     | none=>some (.normal,tm,H',nx,ds)
     | some c=>F.code c nt ro tm H' nx ds
    | none=>none
  | _=>none
 | none=>none
def Y9 (F:xC)(P:Program)(c:Code)(nt:Nat)(ro:Option Nat)(tm:Tr V)(H:Tr v5)(nx:Nat)(ds:List Nat):Res:=
 match c with
 | .skip=>some (.normal,tm,H,nx,ds)
 | .region _ ops draw=>match(match draw with | true=>dE F P ops nt tm H nx | false=>kA F P ops nt ops.toList tm H nx)with
  | some (G0,H',j5)=>some (.normal,G0,H',j5,ds)
  | none=>none
 | .seq a b=>match F.code a nt ro tm H nx ds with
  | some (.normal,G0,H',j5,D8)=>F.code b nt ro G0 H' j5 D8
  | r=>r
 | .cond x a b=>match dF P tm x with
  | some true=>F.code a nt ro tm H nx ds
  | some false=>F.code b nt ro tm H nx ds
  | none=>none
 | .block id b=>match F.code b nt ro tm H nx ds with
  | some (.exit j,G0,H',j5,D8)=>match Nat.beq j id with
   | true=>some (.normal,G0,H',j5,D8)
   | false=>some (.exit j,G0,H',j5,D8)
  | r=>r
 | .loop b=>match F.code b nt ro tm H nx ds with
  | some (.normal,G0,H',j5,D8)=>F.code (.loop b) nt ro G0 H' j5 D8
  | r=>r
 | .exit id=>some (.exit id,tm,H,nx,ds)
 | .ret=>some (.ret,tm,H,nx,ds)
 | .label _=>some (.normal,tm,H,nx,ds)
 | .goto l=>some (.goto l,tm,H,nx,ds)
 | .scope b=>F.scope b b nt ro tm H nx ds
 | .rangeFunc g ps assign body=>match B9 P tm g with
  | some (.c false [.fn f [] Jf])=>match ro with
   | none=>Fy F (nx+1) nt ro tm (nx::ds) (F.call f (.one (.yld (nx+1))::Yd Jf) ((H.put (some .dfr) nx).put (some (.loop .ready none tm nt ps assign body nx)) (nx+1)) (nx+2))
   | some l0=>match H.get l0 with
    | some (.loop _ _ _ _ _ _ _ df)=>Fy F nx nt ro tm ds (F.call f (.one (.yld nx)::Yd Jf) (H.put (some (.loop .ready none tm nt ps assign body df)) nx) (nx+1))
    | _=>none
  | _=>none
 | _=>none
def Wu (F:xC)(body rest:Code)(nt:Nat)(ro:Option Nat)(tm:Tr V)(H:Tr v5)(nx:Nat)(ds:List Nat):Res:=
 match F.code rest nt ro tm H nx ds with
 | some (.goto l,G0,H',j5,D8)=>match findLabel body l with
  | some r=>F.scope body r nt ro G0 H' j5 D8
  | none=>some (.goto l,G0,H',j5,D8)
 | r=>r
def bZ (nt:Nat):List Tmp→List V→Tr V→Option (Tr V)
 | [],[],tm=>some tm
 | p::ps,v::vs,tm=>match Nat.blt p nt with | true=>bZ nt ps vs (tm.put (some v) p) | false=>none
 | _,_,_=>none
def Wv (F:xC)(l:Nat)(args:List V)(H:Tr v5)(nx:Nat):Option (V×Tr v5×Nat):=
 match H.get l with
 | some (.loop _ _ tm nt ps assign body _)=>match bZ nt ps.toList args tm with
  | some G0=>match F.code assign nt (some l) G0 H nx []with
   | some (.normal,Yw,H1,L6,[])=>match H1.get l with
    | some (.loop .ready pe _ _ _ _ _ _)=>match Es H1 l .busy pe with
     | some H2=>match F.code body nt (some l) Yw H2 L6 []with
      | some (.normal,_,H3,gT,[])=>match Es H3 l .ready none with
       | some H4=>some (.one (.bool true),H4,gT)
       | none=>none
      | some (.ret,_,H3,gT,[])=>match Es H3 l .done (some .ret)with
       | some H4=>some (.one (.bool false),H4,gT)
       | none=>none
      | some (.exit id,_,H3,gT,[])=>match Es H3 l .done (some (.exit id))with
       | some H4=>some (.one (.bool false),H4,gT)
       | none=>none
      | some (.goto t,_,H3,gT,[])=>match Es H3 l .done (some (.goto t))with
       | some H4=>some (.one (.bool false),H4,gT)
       | none=>none
      | _=>none
     | none=>none
    | _=>none
   | _=>none
  | none=>none
 | _=>none
def Ld:List Nat→Tr v5→Option (Tr v5)
 | [],H=>some H
 | d::ds,H=>match H.get d with
  | some .dfr=>Ld ds (H.put none d)
  | _=>none
def sG (P:Program)(fn:Func)(tm:Tr V)(H:Tr v5)(nx:Nat)(ds:List Nat):Option (V×Tr v5×Nat):=
 match Ld ds H with
 | some H'=>match Jj P tm H' fn.results.toList with
  | some cs=>some (xW cs,H',nx)
  | none=>none
 | none=>none
end
variable{ops:Array Oper}{η o7:Env}{F:xC}{f:FuncId}{A:List Nat}{ss:List Sp}{nx j5 n nt i j:Nat}{L:Nat→Prop}{o:Oper}{P:Program}{s r:Sp}{H H' G G':Tr v5}{tm G0:Tr V}{α β:Type}{v:V}{w:World}{x y:α}
theorem Y6.emp {h:Hp}(p:Ek η h w H.get nx (nx+1))(a:Addr)(c:Nat):
  Y6 η h w H.get H.get nx (nx+1) ⟨η.m5,η.cap,η.jH,fun k=>if k=nx then some (a,c)else η.em k⟩ w:=by
 obtain⟨Nb,_,hem⟩:=p.fresh nx (a9 _) (by omega)
 have hle:η.le ⟨η.m5,η.cap,η.jH,fun k=>if k=nx then some (a,c)else η.em k⟩:=
  ⟨fun _ _ h=>⟨h,rfl⟩,fun _ _ h=>h,fun i v hi=>by
   have:i≠nx:=fun e=>by rw[e,hem]at hi;cases hi
   simp[this,hi]⟩
 have YI:h nx=none:=p.rh.fresh Nb
 have wT:Mz h H.get H.get nx (nx+1)=h:=by
  funext b
  by_cases hb:H.get b≠none∨(nx≤b∧b<nx+1)
  ·rw[Y2 hb]
   cases ho:H.get b with
   | some o=>exact(p.ext b o ho).symm
   | none=>
    rcases hb with hb | hb
    ·exact absurd ho hb
    ·obtain rfl:b=nx:=by omega
     exact YI.symm
  ·rw[M7 hb]
 refine⟨hle,fun b hb=>⟨rfl,rfl,?_⟩,?_,?_,.refl _ _ _⟩
 ·have:b≠nx:=by omega
  simp[this]
 ·rw[wT];exact⟨fun b o hb=>by obtain⟨B,co,h1,h2,h3⟩:=p.rh.live b o hb;exact⟨B,co,h1,h2,h3.mono hle h1⟩,p.rh.inj⟩
 ·rw[wT];intro k hk;exact .inl hk
theorem ND {t:TypeId}{x:At}{lo hi mx:Option At}(he:IW P H nx t x lo hi mx=some (v,H',j5)):
  Dm H.get H'.get nx j5∧ ∀ {η:Env} {h:Hp} {w:World} {cx:Value} {xK CU ED:Option Value},Ek η h w H.get nx j5→x.j2 η=some cx→Zg η lo xK→Zg η hi CU→Zg η mx ED→
   ∃cv o7,(Instr.sliceAt t cx xK CU ED).run P w= .ok cv w∧v.j2 o7=some cv∧Y6 η h w H.get H'.get nx j5 o7 w:=by
 unfold IW at he;split at he
 ·rename_i e hu;split at he
  ·rename_i i b o n e' Xt;split at he
   ·rename_i k hk;split at he
    ·cases he
    ·split at he
     ·rename_i l h0 m hb;split at he
      ·rename_i hlh;cases he;refine⟨⟨by omega,fun b hb=> .inl hb⟩,fun p hx h1 h2 h3=> ?_⟩;rename_i η h w cx xK CU ED;obtain⟨hle,hs⟩:=eE p.ext p.rh hk;obtain⟨B,hB,rfl⟩:=E1 hx;obtain⟨Pm,hm⟩:=mF hb hle;obtain rfl:l=h0:=Y0 hlh;refine⟨.slice (some (if η.cap b - e'=l then Hl B o else Hl B (o+l*i.size))) 0 (η.cap b - e' - l),_,?_,?_,Y6.emp p (if η.cap b - e'=l then Hl B o else Hl B (o+l*i.size)) (η.cap b - e' - l)⟩
       ·simp only[Instr.sliceAt,Sem.run_bind,n5 hu,Result.andThen_ok,Instr.slice,Uo h1 h2 h3 Pm,X5 Xt,Sem.run_pure,dJ,Aj];by_cases e:η.cap b - e'=l<;>simp[e]
       ·rw[l6];simp[At.j2]
      ·cases he
     ·cases he
   ·cases he
  ·cases he
 ·cases he
theorem GQ {s:Sem Unit}{w':World}(h:s.run P w= .ok () w'):(do s;pure Next.skip:Sem Next).run P w= .ok .skip w':=by
 simp[h]
theorem SZ (f:α→β)(l:Array α)(h:l.toList= [x]):l.map f=#[f x]:=by apply Ky;simp[h]
theorem ga (f:α→β)(l:Array α)(h:l.toList= [x,y]):l.map f=#[f x,f y]:=by apply Ky;simp[h]
theorem UY (l:Array α)(h:l.toList= [x]):l=#[x]:=by apply Ky;simp[h]
theorem fw (l:Array α)(h:l.toList= [x,y]):l=#[x,y]:=by apply Ky;simp[h]
theorem qi8 (he:WZ P o tm H nx=some (v,H',j5)):fu P o tm H nx v H' j5:=by
 obtain⟨dst,op,type,pos,after,guard⟩:=o;cases op<;>simp only[WZ]at he<;>try(cases he;done)
 case alloc t=>
  obtain⟨d,h1⟩:=xy he;refine⟨d,fun η h w A p ra hg=> ?_⟩;obtain⟨cv,w',o7,h2,h3,h4⟩:=h1 p;exact⟨cv,w',o7,.inl (Bv h2),h3,h4⟩
 case box t x=>
  split at he
  ·rename_i u hx;obtain⟨d,h1⟩:=NG (P:=P) he;refine⟨d,fun η h w A p ra hg=> ?_⟩;obtain⟨cv,w',o7,h2,h3,h4⟩:=h1 p (S5 ra hg hx);exact⟨cv,w',o7,.inl (Bv h2),h3,h4⟩
  ·cases he
 case buildSlice t len ps=>
  split at he
  ·rename_i l hl;obtain⟨d,h1⟩:=Zs he;refine⟨d,fun η h w A p ra hg=> ?_⟩;have j_:=fT ra hg _ _ hl;obtain⟨cv,w',o7,h2,h3,h4⟩:=h1 (gY:=ps.map fun(i,x)=>(i,A.eval x)) p (by simpa using j_);exact⟨cv,w',o7,.inl (Bv h2),h3,h4⟩
  ·cases he
 case insert t m k x=>
  split at he
  ·rename_i a u y hm hk hx;obtain⟨rfl,d,h1⟩:=Pg he;refine⟨d,fun η h w A p ra hg=> ?_⟩;obtain⟨w',h2,h4⟩:=h1 p (o8 ra hg hm) (S5 ra hg hk) (S5 ra hg hx);exact⟨Go.undef,w',η,.inr ⟨GQ h2,rfl⟩,rfl,h4⟩
  ·cases he
 case store t a x=>
  split at he
  ·rename_i q y ha hx;obtain⟨rfl,d,h1⟩:=zi he;refine⟨d,fun η h w A p ra hg=> ?_⟩;obtain⟨w',h2,h4⟩:=h1 p (o8 ra hg ha) (S5 ra hg hx);exact⟨Go.undef,w',η,.inr ⟨GQ h2,rfl⟩,rfl,h4⟩
  ·cases he
 case makeMap t r=>
  split at he
  ·rename_i a ha;obtain⟨d,h1⟩:=qD he;refine⟨d,fun η h w A p ra hg=> ?_⟩;obtain⟨cv,w',o7,h2,h3,h4⟩:=h1 p (Gz ra hg ha);exact⟨cv,w',o7,.inl (Bv h2),h3,h4⟩
  ·cases he
 case convert s t x=>
  split at he
  ·rename_i l hx;obtain⟨d,h1⟩:=MZ he;refine⟨d,fun η h w A p ra hg=> ?_⟩;obtain⟨cv,w',o7,h2,h3,h4⟩:=h1 p;have CE:=o8 ra hg hx;simp only[At.j2]at CE;have CE:=Z3 CE;exact⟨cv,w',o7,.inl (Bv (by rw[←CE];exact h2)),h3,h4⟩
  ·cases he
 case makeSlice t l c=>
  split at he
  ·rename_i a b ha hb;obtain⟨d,h1⟩:=gI he;refine⟨d,fun η h w A p ra hg=> ?_⟩;obtain⟨cv,w',o7,h2,h3,h4⟩:=h1 p (o8 ra hg ha) (o8 ra hg hb);exact⟨cv,w',o7,.inl (Bv h2),h3,h4⟩
  ·cases he
 case slice t x lo hi mx=>
  split at he
  ·rename_i a hx;split at he
   ·rename_i l h' m h1 h2 h3;obtain⟨d,g⟩:=ND he;refine⟨d,fun η h w A p ra hg=> ?_⟩;obtain⟨cv,o7,g2,g3,g4⟩:=g p (o8 ra hg hx) (Gz ra hg h1) (Gz ra hg h2) (Gz ra hg h3);exact⟨cv,w,o7,.inl (Bv g2),g3,g4⟩
   ·cases he
  ·cases he
 case mapUpdate t m k x=>
  split at he
  ·rename_i a u y hm hk hx;obtain⟨rfl,d,h1⟩:=Pg he;refine⟨d,fun η h w A p ra hg=> ?_⟩;obtain⟨w',h2,h4⟩:=h1 p (o8 ra hg hm) (S5 ra hg hk) (S5 ra hg hx);exact⟨Go.undef,w',η,.inr ⟨GQ h2,rfl⟩,rfl,h4⟩
  ·cases he
 case range t x=>
  split at he
  ·rename_i a ha;obtain⟨d,h1⟩:=xq he;refine⟨d,fun η h w A p ra hg=> ?_⟩;obtain⟨cv,w',o7,h2,h3,h4⟩:=h1 p (o8 ra hg ha);exact⟨cv,w',o7,.inl (Bv h2),h3,h4⟩
  ·cases he
 case call c=>
  obtain⟨callee,args,ts⟩:=c;simp only at he;cases callee<;>(try simp only at he)<;>try(cases he;done)
  rename_i b;cases b<;>(try simp only at he)<;>try(cases he;done)
  case append=>
   split at he
   ·rename_i s x t tx Cu jK;split at he
    ·rename_i a b ha hb;obtain⟨d,h1⟩:=wJ he;refine⟨d,fun η h w A p ra hg=> ?_⟩;obtain⟨cv,w',o7,h2,h3,h4⟩:=h1 type p (o8 ra hg ha) (o8 ra hg hb);refine⟨cv,w',o7,.inl ?_,h3,h4⟩;rw[Bl];simp[builtin,ga _ _ Cu,fw _ jK,h2]
    ·cases he
   ·cases he
  case clear=>
   split at he
   ·rename_i s t Cu jK;split at he
    ·rename_i a ha;obtain⟨d,h1⟩:=xj he;refine⟨d,fun η h w A p ra hg=> ?_⟩;obtain⟨cv,w',h2,h3,h4⟩:=h1 type p (o8 ra hg ha);refine⟨cv,w',η,.inl ?_,h3,h4⟩;rw[Bl];simp[builtin,SZ _ _ Cu,UY _ jK,h2]
    ·cases he
   ·cases he
  case copy=>
   split at he
   ·rename_i s x t tx Cu jK;split at he
    ·rename_i a b ha hb;obtain⟨d,h1⟩:=BE he;refine⟨d,fun η h w A p ra hg=> ?_⟩;obtain⟨cv,w',h2,h3,h4⟩:=h1 type p (o8 ra hg ha) (o8 ra hg hb);refine⟨cv,w',η,.inl ?_,h3,h4⟩;rw[Bl];simp[builtin,ga _ _ Cu,fw _ jK,h2]
    ·cases he
   ·cases he
theorem qi9 (he:vm P o tm H nx=some (v,H',j5)):fu P o tm H nx v H' j5:=by
 unfold vm at he;split at he
 ·rename_i u hr;cases he;refine⟨Dm.refl _ _,fun η h w A p ra hg=> ?_⟩;obtain⟨cv,h1,h2⟩:=qj0 hr η h w A p.ext p.rh ra hg;exact⟨cv,w,η,.inl h2,h1,Y6.refl p.ext p.rh⟩
 ·exact qi8 he
theorem As {r:Bool}(h:G7 ops o tm=some r){A:Array Value}(ra:RA η tm A):Region.wanted o (yielded ops A)=r:=by
 unfold G7 at h;unfold Region.wanted;split at h
 ·rename_i hg;cases h;simp[hg]
 ·rename_i j want hg;simp only[hg];unfold yielded;split at h
  ·rename_i oj hj;split at h
   ·rename_i d hd;simp only[hj,Option.bind_some,hd];split at h
    ·rename_i b hb;have Hu:=ra d _ hb;simp[V.j2,comp,c9,At.j2]at Hu
     cases hA:A[d]? with
     | none=>simp[hA,Go.undef]at Hu
     | some u=>simp[hA]at Hu;subst Hu;cases h;cases b<;>cases want<;>rfl
    ·rename_i l hb;have Hu:=ra d _ hb;simp only[V.j2]at Hu;split at Hu
     ·cases hA:A[d]? with
      | none=>cases h;simp
      | some u=>simp[qd7,hA]at Hu;subst Hu;cases h;simp
     ·cases Hu
    ·cases h
   ·rename_i hd;cases h;simp[hj,hd]
  ·rename_i hj;cases h;simp[hj]
def fe (ro:Option Nat):Fence:=⟨fun _=>True,none,false,ro⟩
theorem eT {args:Array Value}{R:Ending→World→Prop}{ro:Option Nat}(h:Calls P f args w R):CallsIn (fe ro) n P f args w R:=by
 have:=(callsIn_wide (n:=n)).2 h;exact this
def Vb (η:Env)(h:Hp)(w:World)(H H':Hp)(nx j5:Nat)(v:V):Ending→World→Prop:=fun e w'=> ∃cv o7,e= .returned cv∧v.j2 o7=some cv∧Y6 η h w H H' nx j5 o7 w'
def Bj (P : Program) : Prop := ∀ (f : FuncId) (fn : Func), P.funcs[f]? = some fn → (fn.name == "runtime.NumGoroutine") = false
def Lh (P:Program)(f:FuncId)(args:List V)(H:Tr v5)(nx:Nat)(v:V)(H':Tr v5)(j5:Nat):Prop:=
 (∃fn,P.funcs[f]? =some fn∧fn.body.isSome=true)∧Dm H.get H'.get nx j5∧
 ∀(η:Env) (h:Hp) (w:World) (X8:List Value),Ek η h w H.get nx j5→VL η args X8→η.Bn P→Calls P f ⟨X8⟩ w (Vb η h w H.get H'.get nx j5 v)
def oX (P:Program)(l:Nat)(args:List V)(H:Tr v5)(nx:Nat)(v:V)(H':Tr v5)(j5:Nat):Prop:=
 Dm H.get H'.get nx j5∧
 ∀(η:Env) (h:Hp) (w:World) (X8:List Value) (L:Nat×Nat),Ek η h w H.get nx j5→VL η args X8→η.Bn P→η.m5 l=some L→
  ∃f tmps assign body,(Instr.yield L.1 ⟨X8⟩).run P w= .ok (.round L.1 f tmps assign body) w∧ ∀n,RoundIn (fe none) n P L.1 f tmps assign body w (Vb η h w H.get H'.get nx j5 v)
theorem VL.append : ∀ {l m:List V} {cl cm:List Value},VL η l cl→VL η m cm→VL η (l++m) (cl++cm):=by
 intro l
 induction l with
 | nil=>intro m cl cm h h';cases cl with | nil=>exact h' | cons _ _=>exact h.elim
 | cons v l ih=>intro m cl cm h h';cases cl with | nil=>exact h.elim | cons c cl=>exact⟨h.1,ih h.2 h'⟩
theorem VL.mono (hle:η.le o7): ∀ {l:List V} {cl:List Value},VL η l cl→VL o7 l cl:=by
 intro l
 induction l with
 | nil=>intro cl h;cases cl with | nil=>trivial | cons _ _=>exact h.elim
 | cons v l ih=>intro cl h;cases cl with | nil=>exact h.elim | cons c cl=>exact⟨V.E9 hle h.1,ih h.2⟩
theorem VL.length : ∀ {l:List V} {cl:List Value},VL η l cl→cl.length=l.length:=by
 intro l
 induction l with
 | nil=>intro cl h;cases cl with | nil=>rfl | cons _ _=>exact h.elim
 | cons v l ih=>intro cl h;cases cl with | nil=>exact h.elim | cons c cl=>simp[ih h.2]
theorem vB : ∀(l:List (Nat×Nat)) (vs:List Value),Nf η l=some vs→VL η (Yd l) vs:=by
 intro l
 induction l with
 | nil=>intro vs h;simp[Nf]at h;subst h;trivial
 | cons p l ih=>
  obtain⟨b,o⟩:=p;intro vs h;simp only[Nf]at h
  cases hb:η.m5 b with
  | none=>simp[hb]at h
  | some B=>cases hl:Nf η l with
   | none=>simp[hb,hl]at h
   | some ws=>simp[hb,hl]at h;subst h;exact⟨by rw[l6];simp[At.j2,hb],ih ws hl⟩
theorem NW : ∀(l:List XU) (us:List V) (fs:List Value),Re l=some us→Fl η l=some fs→VL η us fs:=by
 intro l
 induction l with
 | nil=>intro us fs h h';simp[Re]at h;simp[Fl]at h';subst h;subst h';trivial
 | cons p l ih=>
  intro us fs h h'
  cases p with
  | val v=>
   simp only[Re]at h;simp only[Fl]at h'
   cases ha:Zk v with
   | none=>simp[ha]at h
   | some a=>cases hl:Re l with
    | none=>simp[ha,hl]at h
    | some ys=>cases hf:Fl η l with
     | none=>simp[hf]at h'
     | some ws=>simp[ha,hl]at h;simp[hf]at h';subst h;subst h';exact⟨Xo η ha,ih ys ws hl hf⟩
  | ptr b o=>
   simp only[Re]at h;simp only[Fl]at h'
   cases hb:η.m5 b with
   | none=>simp[hb]at h'
   | some B=>cases hl:Re l with
    | none=>simp[hl]at h
    | some ys=>cases hf:Fl η l with
     | none=>simp[hb,hf]at h'
     | some ws=>simp[hl]at h;simp[hb,hf]at h';subst h;subst h';exact⟨by rw[l6];simp[At.j2,hb],ih ys ws hl hf⟩
theorem Vd (hN:Bj P){fn:Func}(hf:P.funcs[f]? =some fn)(hb:fn.body.isSome=true)(args:Array Value)(w:World):(callFunc f args).run P w= .ok (.enter f args) w:=by
 have h1:=hN f fn hf;have h2:fn.body≠none:=by intro hbb;rw[hbb]at hb;cases hb
 have OP : ¬ (fn.name = "runtime.NumGoroutine") := by simpa using h1
 simp[callFunc,program,Sem.run,hf,OP,h2]
theorem oC (hN:Bj P){c:Call}{who:qq0}(hw:cy P c tm=some who){A:Act}(ra:RA η tm A.tmps)(hg:η.Bn P)
  {dst:Option Tmp} {type:TypeId} {pos:String} {after:Array Edge} {guard:Option (Nat×Bool)} (w:World):
  match who with
  | .fn f args=>(∃fn,P.funcs[f]? =some fn∧fn.body.isSome=true)→ ∃X8,VL η args X8∧(execOp A.eval ⟨dst,.call c,type,pos,after,guard⟩).run P w= .ok (.enter f ⟨X8⟩) w
  | .yld l args=> ∃X8 L,VL η args X8∧η.m5 l=some L∧(execOp A.eval ⟨dst,.call c,type,pos,after,guard⟩).run P w=(Instr.yield L.1 ⟨X8⟩).run P w:=by
 unfold cy at hw;obtain⟨callee,Wl,ts⟩:=c
 cases callee with
 | value g=>
  simp only at hw;split at hw
  ·rename_i f first Jf vs WO Fc
   split at hw
   ·rename_i us e_;cases hw;rintro⟨fn,hf,hb⟩;obtain⟨⟨fs,cs⟩,⟨h1,h2⟩,h3⟩:=Un (o8 ra hg WO);simp only at h1 h2 h3;refine⟨fs++(Wl.toList.map A.eval++cs),(NW first us fs e_ h1).append ((aO ra hg _ _ Fc).append (vB Jf cs h2)),?_⟩;have Bt:=Vd hN hf hb;have e1:(⟨fs⟩:Array Value)++Wl.map A.eval++(⟨cs⟩:Array Value)=⟨fs++(Wl.toList.map A.eval++cs)⟩:=by apply Ky;simp
    simp only[execOp,resolve,Sem.run_bind,h3,Deferred.ofValue,Sem.run_pure,Result.andThen_ok,invoke,Bt,e1]
   ·cases hw
  ·rename_i l vs WO Fc;cases hw;have h0:=o8 ra hg WO;simp only[At.j2]at h0
   cases hb:η.m5 l with
   | none=>simp[hb]at h0
   | some L=>
    simp[hb]at h0;refine⟨Wl.toList.map A.eval,L,aO ra hg _ _ Fc,hb,?_⟩;have e1:(#[]:Array Value)++Wl.map A.eval=⟨Wl.toList.map A.eval⟩:=by apply Ky;simp
    simp only[execOp,resolve,Sem.run_bind,←h0,Deferred.ofValue,Sem.run_pure,Result.andThen_ok,invoke,e1]
  ·cases hw
 | _=>cases hw
structure kM (P:Program)(F:xC):Prop where
 call: ∀f args H nx v H' j5,F.call f args H nx=some (v,H',j5)→Lh P f args H nx v H' j5
 round: ∀l args H nx v H' j5,F.round l args H nx=some (v,H',j5)→oX P l args H nx v H' j5
def Ti (P:Program)(o:Oper)(tm:Tr V)(H:Tr v5)(nx:Nat)(v:V)(H':Tr v5)(j5:Nat):Prop:=
 Dm H.get H'.get nx j5∧ ∀(η:Env) (h:Hp) (w:World) (A:Act) (ro:Option Nat) (n:Nat) (K:Act→World→Prop) (Q:Exit→Act→World→Prop),Ek η h w H.get nx j5→RA η tm A.tmps→η.Bn P→
  (∀cv w' o7,v.j2 o7=some cv→Y6 η h w H.get H'.get nx j5 o7 w'→K (A.put o.dst cv) w')→o.wpIn (fe ro) n P A w K Q
theorem wH {r:V×Tr v5×Nat}(he:vm P o tm H nx=some r): ∀c,o.op≠ .defer c:=by
 intro c e;simp[vm,Qk,WZ,e]at he
theorem Dj (he:vm P o tm H nx=some (v,H',j5)):Ti P o tm H nx v H' j5:=by
 obtain⟨d,h1⟩:=qi9 he;refine⟨d,fun η h w A ro n K Q p ra hg hk=> ?_⟩;obtain⟨cv,w',o7,hy,hv,hs⟩:=h1 η h w A p ra hg;have hK:=hk cv w' o7 hv hs;refine⟨fun _ _=>trivial,?_⟩;rw[Oper.semAt_eq _ _ _ (wH he)];rcases hy with hy | ⟨hy,rfl⟩
 ·rw[hy];exact hK
 ·rw[hy];exact hK
theorem dS (hN:Bj P)(hF:kM P F)(he:evB F P o tm H nx=some (v,H',j5)):Ti P o tm H nx v H' j5:=by
 obtain⟨dst,op,type,pos,after,guard⟩:=o;unfold evB at he;cases op<;>simp only at he<;>try(cases he;done)
 rename_i c;split at he
 ·rename_i f args hw;obtain⟨xH,d,hc⟩:=hF.call _ _ _ _ _ _ _ he;refine⟨d,fun η h w A ro n K Q p ra hg hk=>⟨fun _ _=>trivial,?_⟩⟩;have FA:=oC hN hw ra hg (dst:=dst) (type:=type) (pos:=pos) (after:=after) (guard:=guard) w;obtain⟨X8,Yx,Bt⟩:=FA xH;rw[Oper.semAt_eq _ _ _ (fun c e=>by cases e),Bt];refine⟨fun hd=>by simp[fe]at hd,eT ((hc η h w X8 p Yx hg).mono ?_)⟩;rintro e w' ⟨cv,o7,rfl,hv,hs⟩;exact hk cv w' o7 hv hs
 ·rename_i l args hw;obtain⟨d,hc⟩:=hF.round _ _ _ _ _ _ _ he;refine⟨d,fun η h w A ro n K Q p ra hg hk=>⟨fun _ _=>trivial,?_⟩⟩;have FA:=oC hN hw ra hg (dst:=dst) (type:=type) (pos:=pos) (after:=after) (guard:=guard) w;obtain⟨X8,L,Yx,hL,Bt⟩:=FA;obtain⟨f,tmps,assign,body,hy,hr⟩:=hc η h w X8 L p Yx hg hL;rw[Oper.semAt_eq _ _ _ (fun c e=>by cases e),Bt,hy];refine⟨fun hd=>by simp[fe]at hd,RoundIn.mono (show RoundIn (fe ro) (n - 1) P L.1 f tmps assign body w _ from hr (n - 1)) ?_⟩;rintro e w' ⟨cv,o7,rfl,hv,hs⟩;exact hk cv w' o7 hv hs
 ·cases he
theorem RA.Ql {A:Act}(ra:RA η tm A.tmps)(hn:A.tmps.size=nt){dst:Option Tmp}{cv:Value}(hp:Ql nt tm dst v=some G0)(hv:v.j2 η=some cv):
  RA η G0 (A.put dst cv).tmps∧(A.put dst cv).tmps.size=nt∧(A.put dst cv).defers=A.defers:=by
 unfold Ev.Ql at hp
 cases dst with
 | none=>cases hp;exact⟨ra,hn,rfl⟩
 | some d=>
  simp only at hp;split at hp
  ·rename_i Z;cases hp;exact⟨ra.put (by rw[hn];exact Ce Z) hv,by simp[Act.put,hn],rfl⟩
  ·cases hp
theorem Ki (h:η.Bn P)(hl:η.le o7):o7.Bn P:=fun g hg=>(hl.m5 g _ (h g hg)).1
theorem NA (hN:Bj P)(hF:kM P F): ∀(l:List Oper) (tm:Tr V) (H:Tr v5) (nx:Nat) (G0:Tr V) (H':Tr v5) (j5:Nat),kA F P ops nt l tm H nx=some (G0,H',j5)→
  Dm H.get H'.get nx j5∧ ∀(η:Env) (h:Hp) (w:World) (A:Act) (ro:Option Nat) (n:Nat) (Q:Exit→Act→World→Prop),Ek η h w H.get nx j5→RA η tm A.tmps→A.tmps.size=nt→η.Bn P→
   (∀o7 w' A',Y6 η h w H.get H'.get nx j5 o7 w'→RA o7 G0 A'.tmps→A'.tmps.size=nt→A'.defers=A.defers→Q .normal A' w')→wpListIn (fe ro) n P ops Q l A w:=by
 intro l
 induction l with
 | nil=>
  intro tm H nx G0 H' j5 he;simp only[kA]at he;cases he;exact⟨Dm.refl _ _,fun η h w A ro n Q p ra hn hg hQ=>hQ η w A (Y6.refl p.ext p.rh) ra hn rfl⟩
 | cons o l ih=>
  intro tm H nx G0 H' j5 he;simp only[kA]at he;split at he
  ·rename_i Cn;split at he
   ·rename_i v H1 L6 PJ;split at he
    ·rename_i Yw Nh
     have J3:Ti P o tm H nx v H1 L6:=by
      cases hc:Oc o.op with
      | true=>rw[hc]at PJ;exact dS hN hF PJ
      | false=>rw[hc]at PJ;exact Dj PJ
     obtain⟨d1,h1⟩:=J3;obtain⟨d2,h2⟩:=ih Yw H1 L6 G0 H' j5 he;refine⟨d1.trans d2,fun η h w A ro n Q p ra hn hg hQ=> ?_⟩;unfold wpListIn;rw[As Cn ra,x9 rfl];refine h1 η h w A ro n _ Q (p.less d2.le) ra hg (fun cv w' o7 hv hs=> ?_);obtain⟨Fh,gP,Za⟩:=(ra.mono hs.le).Ql hn Nh hv;refine h2 o7 _ w' _ ro n Q (p.next d1 hs) Fh gP (Ki hg hs.le) (fun NY w2 A2 xF ZP Pk qZ=> ?_);exact hQ NY w2 A2 (Y6.trans d1 d2 hs xF) ZP Pk (qZ.trans Za)
    ·cases he
   ·cases he
  ·rename_i Cn;split at he
   ·rename_i Yw Nh;obtain⟨d2,h2⟩:=ih Yw H nx G0 H' j5 he;refine⟨d2,fun η h w A ro n Q p ra hn hg hQ=> ?_⟩;unfold wpListIn;rw[As Cn ra,z9 (by simp)];refine⟨fun _ _=>trivial,?_⟩;obtain⟨Fh,gP,Za⟩:=ra.Ql hn Nh (cv:=Go.undef) rfl;exact h2 η h w _ ro n Q p Fh gP hg (fun NY w2 A2 xF ZP Pk qZ=>hQ NY w2 A2 xF ZP Pk (qZ.trans Za))
   ·cases he
  ·cases he
section agree
variable {K X:Type}{n:Nat}{s:Nat→K→X}{M:Nat→K→Prop}{OS:Nat→Nat→Prop}
def Gm (n:Nat)(s:Nat→K→X)(M:Nat→K→Prop)(L:Nat→Prop)(x:K→X):Prop:=
 ∀k,∃m,m≤n∧x k=s m k∧(∀i,i<m→M i k→L i)∧(∀i,m≤i→i<n→M i k→ ¬L i)
theorem stay (hs: ∀i k,i<n→ ¬M i k→s (i+1) k=s i k)(k:K): ∀(d a:Nat),a+d≤n→(∀i,a≤i→i<a+d→ ¬M i k)→s (a+d) k=s a k
 | 0,_,_,_=>rfl
 | d+1,a,h,hn=>by
  have:=stay hs k d a (by omega) (fun i h1 h2=>hn i h1 (by omega));rw[←this];exact hs (a+d) k (by omega) (hn (a+d) (by omega) (by omega))
theorem Gm.start:Gm n s M (fun _=>False) (s 0):=fun k=>⟨0,O2 _,rfl,fun i h=>by omega,fun _ _ _ _ h=>h⟩
theorem Gm.look (hs: ∀i k,i<n→ ¬M i k→s (i+1) k=s i k)(Z: ∀i j,OS i j→j<i){x:K→X}(ag:Gm n s M L x)(hi:i<n)(hL: ¬L i)(WC: ∀j,OS i j→L j)
  (DZ: ∀j,OS j i→ ¬L j) {k:K} (ho: ∀j,j<n→j≠i→M j k→OS i j∨OS j i):x k=s i k:=by
 obtain⟨m,hm,hx,h1,h2⟩:=ag k;rw[hx];rcases Oh i m with h | h
 ·obtain⟨d,rfl⟩: ∃d,m=i+d:=⟨m - i,by omega⟩;refine stay hs k d i hm (fun j p_ qL hM=> ?_);have WW:=h1 j qL hM;by_cases e:j=i
  ·subst e;exact hL WW
  ·rcases ho j (by omega) e hM with h | h
   ·have:=Z _ _ h;omega
   ·exact DZ j h WW
 ·obtain⟨d,rfl⟩: ∃d,i=m+d:=⟨i - m,by omega⟩;refine(stay hs k d m (by omega) (fun j p_ qL hM=> ?_)).symm;have WW:=h2 j p_ (by omega) hM;rcases ho j (by omega) (by omega) hM with h | h
  ·exact WW (WC j h)
  ·have:=Z _ _ h;omega
theorem Gm.step (Z: ∀i j,OS i j→j<i){x x':K→X}(ag:Gm n s M L x)(hi:i<n)(WC: ∀j,OS i j→L j)(DZ: ∀j,OS j i→ ¬L j)
  (ho: ∀k,M i k→ ∀j,j<n→j≠i→M j k→OS i j∨OS j i) (h1: ∀k,M i k→x' k=s (i+1) k) (h2: ∀k,¬M i k→x' k=x k):Gm n s M (fun j=>L j∨j=i) x':=by
 intro k;by_cases hM:M i k
 ·refine⟨i+1,hi,h1 k hM,fun j hj mb=> ?_,fun j p_ qL mb=> ?_⟩
  ·by_cases e:j=i
   ·exact .inr e
   ·rcases ho k hM j (by omega) e mb with h | h
    ·exact .inl (WC j h)
    ·have:=Z _ _ h;omega
  ·rintro(h | h)
   ·rcases ho k hM j qL (by omega) mb with h' | h'
    ·have:=Z _ _ h';omega
    ·exact DZ j h' h
   ·omega
 ·obtain⟨m,hm,hx,g1,g2⟩:=ag k;refine⟨m,hm,(h2 k hM).trans hx,fun j hj mb=> .inl (g1 j hj mb),fun j p_ qL mb=> ?_⟩;rintro(h | h)
  ·exact g2 j p_ qL mb h
  ·subst h;exact hM mb
theorem Gm.done (hs: ∀i k,i<n→ ¬M i k→s (i+1) k=s i k){x:K→X}(ag:Gm n s M L x)(hL: ∀i,i<n→L i):x=s n:=by
 funext k
 obtain⟨m,hm,hx,_,h2⟩:=ag k;rw[hx];obtain⟨d,rfl⟩: ∃d,n=m+d:=⟨n - m,by omega⟩;exact(stay hs k d m (a9 _) (fun j p_ qL hM=>h2 j p_ qL hM (hL j qL))).symm
end agree
theorem Yu: ∀(l:List Oper) (acc:List Nat) (i:Nat),i<acc.length→(Mt l acc)[i]? =acc[i]? :=by
 intro l
 induction l with
 | nil=>intro acc i h;rfl
 | cons o l ih=>
  intro acc i h;simp only[Mt];rw[ih _ i (by simp;omega),Yj,x9 h]
theorem wg {acc:List Nat}(h: ∀i,i<acc.length→A[i]? =acc[i]?): ∀(l:List Edge) (j:Nat),(Zj acc l).testBit j=true→ ∃e∈l,Region.binds .any e=true∧e.on<acc.length∧(e.on=j∨(A.getD e.on 0).testBit j=true):=by
 intro l
 induction l with
 | nil=>intro j hj;simp[Zj]at hj
 | cons e l ih=>
  intro j hj;simp only[Zj]at hj;split at hj
  ·rename_i hb;rw[p9]at hb;have Z:=Ce hb.2;have e1:Nat.lor (Nat.lor (2^e.on) (acc.getD e.on 0)) (Zj acc l)=(2^e.on ||| acc.getD e.on 0) ||| Zj acc l:=rfl;rw[e1,Og,Og,S9,S9]at hj;rcases hj with(hj | hj) | hj
   ·rw[Gu]at hj;exact⟨e,by simp,hb.1,Z,.inl (by simpa using hj)⟩
   ·refine⟨e,by simp,hb.1,Z,.inr ?_⟩;have:A.getD e.on 0=acc.getD e.on 0:=by rw[Bz,Bz,h _ Z]
    rw[this];exact hj
   ·obtain⟨e',he',h'⟩:=ih j hj;exact⟨e',by simp[he'],h'⟩
  ·obtain⟨e',he',h'⟩:=ih j hj;exact⟨e',by simp[he'],h'⟩
theorem BS: ∀(l:List Oper) (acc:List Nat) (k:Nat) (o:Oper),l[k]? =some o→ ∀j,((Mt l acc).getD (acc.length+k) 0).testBit j=true→
  ∃e∈o.after,Region.binds .any e=true∧e.on<acc.length+k∧(e.on=j∨((Mt l acc).getD e.on 0).testBit j=true):=by
 intro l
 induction l with
 | nil=>intro acc k o h;simp at h
 | cons p l ih=>
  intro acc k o h j hj
  cases k with
  | zero=>
   simp at h;subst h;simp only[Mt,Jp]at hj⊢;have qb8:=Yu l (acc++ [Zj acc p.after.toList]) acc.length (by simp);rw[Bz,qb8]at hj;simp at hj;obtain⟨e,he,hb,Z,h'⟩:=wg (A:=Mt l (acc++ [Zj acc p.after.toList])) (fun i hi=>by rw[Yu _ _ i (by simp;omega),Yj,x9 hi]) p.after.toList j hj;exact⟨e,by simpa using he,hb,Z,h'⟩
  | succ k=>
   simp only[Mt]at hj⊢;have:=ih (acc++ [Zj acc p.after.toList]) k o (by simpa using h) j (by rw[show(acc++ [Zj acc p.after.toList]).length+k=acc.length+(k+1) by simp;omega];exact hj);obtain⟨e,he,hb,Z,h'⟩:=this;exact⟨e,he,hb,by simp at Z;omega,h'⟩
theorem BU: ∀(l:List Oper) (acc:List Nat),(Mt l acc).length=acc.length+l.length:=by
 intro l
 induction l with
 | nil=>intro acc;simp[Mt]
 | cons o l ih=>intro acc;simp only[Mt,ih];simp;omega
def bO (ops:Array Oper)(i j:Nat):Prop:=Rt (Mt ops.toList []) i j=true
theorem bO.qd0 (h:bO ops i j): ∃o,ops[i]? =some o∧ ∃e∈o.after,Region.binds .any e=true∧e.on<i∧(e.on=j∨bO ops e.on j):=by
 unfold bO Rt at h
 cases ho:ops[i]? with
 | none=>
  have mj:ops.size≤i:=by
   rcases Oh i ops.size with h' | h'
   ·simp[h']at ho
   ·exact h'
  rw[Bz,Ra (by rw[BU];simp;omega)]at h;simp at h
 | some o=>
  obtain⟨e,he,hb,Z,h'⟩:=BS ops.toList [] i o (by simpa using ho) j (by simpa using h);exact⟨o,rfl,e,he,hb,by simpa using Z,h'⟩
theorem bO.lt : ∀ {i j:Nat},bO ops i j→j<i:=by
 intro i
 induction i using Nat.strongRecOn with
 | _ i ih=>
  intro j h;obtain⟨o,_,e,_,_,Z,h'⟩:=h.qd0;rcases h' with rfl | h'
  ·exact Z
  ·have:=ih e.on Z h';omega
def oB (ops:Array Oper)(L:Nat→Prop):Prop:= ∀i o,ops[i]? =some o→L i→ ∀e∈o.after,Region.binds .any e=true→L e.on
theorem bO.closed (hc:oB ops L): ∀ {i j:Nat},bO ops i j→L i→L j:=by
 intro i
 induction i using Nat.strongRecOn with
 | _ i ih=>
  intro j h hL;obtain⟨o,ho,e,he,hb,Z,h'⟩:=h.qd0;have:=hc i o ho hL e he hb;rcases h' with rfl | h'
  ·exact this
  ·exact ih e.on Z h' this
theorem bO.ready (hc:oB ops L)(ho:ops[i]? =some o)(hr: ∀e∈o.after,Region.binds .any e=true→L e.on)(h:bO ops i j):L j:=by
 obtain⟨o',OK,e,he,hb,Z,h'⟩:=h.qd0;rw[ho]at OK;cases OK;have:=hr e he hb;rcases h' with rfl | h'
 ·exact this
 ·exact h'.closed hc this
theorem lY {b:Nat}: ∀ {l:List Nat},kC b l=true↔b∈l
 | []=>by simp[kC]
 | x::l=>by
  simp only[kC]
  cases h:Nat.beq b x with
  | true=>simp[Y0 h]
  | false=>
   have:b≠x:=fun e=>by rw[e]at h;simp at h
   simp[this,lY (l:=l)]
theorem oT {m:List Nat}: ∀ {l:List Nat},iJ l m=true→ ∀b∈l,b∉m
 | [],_,b,hb=>by cases hb
 | x::l,h,b,hb=>by
  simp only[iJ]at h;split at h
  ·cases h
  ·rename_i hx;rcases m6.1 hb with rfl | hb
   ·intro hc;rw[lY.2 hc]at hx;cases hx
   ·exact oT h b hb
theorem lD : ∀ {l:List Nat},Ny G l=true→ ∀b∈l,G.get b=none
 | [],_,b,hb=>by cases hb
 | x::l,h,b,hb=>by
  simp only[Ny]at h;split at h
  ·rename_i hx;rcases m6.1 hb with rfl | hb
   ·exact hx
   ·exact lD h b hb
  ·cases h
theorem nU {a b:At}(h:atB a b=true):a=b:=by
 unfold atB at h
 split at h<;>first
  | (simp only[p9,Nat.beq_eq,beq_iff_eq]at h;simp_all;done)
  | cases h
  | rfl
theorem yT: ∀ {t u:Tr At},fo t u=true→t=u:=by
 intro t
 induction t with
 | nil=>intro u h;cases u with | nil=>rfl | node _ _ _ _ _ _ _ _ _=>cases h
 | node v c0 c1 c2 c3 c4 c5 c6 c7 ih0 ih1 ih2 ih3 ih4 ih5 ih6 ih7=>
  intro u h
  cases u with
  | nil=>cases h
  | node v' d0 d1 d2 d3 d4 d5 d6 d7=>
   simp only[fo]at h;split at h
   ·rename_i hv;simp only[p9]at h;obtain⟨⟨⟨⟨⟨⟨⟨h0,h1⟩,h2⟩,h3⟩,h4⟩,h5⟩,h6⟩,h7⟩:=h
    have e1:v=v':=by
     cases v<;>cases v'<;>simp only[ql8]at hv<;>first | rfl | cases hv | rw[nU hv]
    rw[e1,ih0 h0,ih1 h1,ih2 h2,ih3 h3,ih4 h4,ih5 h5,ih6 h6,ih7 h7]
   ·cases h
theorem oW: ∀ {l m:List At},FT l m=true→l=m
 | [],[],_=>rfl
 | a::l,b::m,h=>by
  simp only[FT]at h;split at h
  ·rename_i jN;rw[nU jN,oW h]
  ·cases h
 | [],_::_,h=>by cases h
 | _::_,[],h=>by cases h
theorem uT: ∀ {l m:List uk},jx l m=true→l=m
 | [],[],_=>rfl
 | ((g,k),(g',v),n)::l,((g2,k2),(g2',v2),n2)::m,h=>by
  simp only[jx]at h;split at h
  ·rename_i jN;simp only[p9,beq_iff_eq]at jN;obtain⟨rfl,rfl,h3,h4,h5⟩:=jN;rw[Y0 h3,oW h4,oW h5,uT h]
  ·cases h
 | [],_::_,h=>by cases h
 | _::_,[],h=>by cases h
theorem Uf {a b:Option v5}(h:xX a b=true):a=b:=by
 unfold xX at h;split at h
 ·rfl
 ·simp only[p9]at h;obtain⟨⟨h1,h2⟩,h3⟩:=h;rw[Y0 h1,Y0 h2,yT h3]
 ·simp only[p9]at h;obtain⟨⟨⟨h1,h2⟩,h4⟩,h3⟩:=h;rw[Y0 h1,Y0 h2,Y0 h4,yT h3]
 ·simp only[p9]at h;obtain⟨⟨h1,h2⟩,h3⟩:=h;rw[Y0 h1,Y0 h2,yT h3]
 ·simp only[p9]at h;rw[Y0 h.1,uT h.2]
 ·cases h
theorem Xg : ∀ {l:List Nat},Ob s l=true→ ∀b∈l,b<s.nx∧(s.G.get b=none∨s.G.get b=s.G'.get b)
 | [],_,b,hb=>by cases hb
 | x::l,h,b,hb=>by
  simp only[Ob]at h;split at h
  ·rename_i Z;split at h
   ·rename_i hx;rcases m6.1 hb with rfl | hb
    ·exact⟨Ce Z,.inl hx⟩
    ·exact Xg h b hb
   ·split at h
    ·rename_i ho;rcases m6.1 hb with rfl | hb
     ·exact⟨Ce Z,.inr (Uf ho)⟩
     ·exact Xg h b hb
    ·cases h
  ·cases h
theorem Dp (H G:Tr v5): ∀(l:List Nat) (b:Nat),(Wh H G l).get b=(if b∈l then G.get b else H.get b)
 | [],b=>by simp[Wh]
 | x::l,b=>by
  simp only[Wh,Tr.F7,Dp H G l b,m6];by_cases e:b=x
  ·subst e;simp
  ·simp[e]
theorem Kj (H:Tr v5): ∀(l:List Nat) (b:Nat),(Y3 H l).get b=(if b∈l then none else H.get b)
 | [],b=>by simp[Y3]
 | x::l,b=>by
  simp only[Y3,Tr.F7,Kj H l b,m6];by_cases e:b=x
  ·subst e;simp
  ·simp[e]
theorem L9 (H:Tr v5): ∀(l:List Nat) (b:Nat),(T7 H l).get b=(if b∈l then H.get b else none)
 | [],b=>by simp[T7,Tr.E5]
 | x::l,b=>by
  simp only[T7];split
  ·rename_i o ho;simp only[Tr.F7,L9 H l b,m6];by_cases e:b=x
   ·subst e;simp[ho]
   ·simp[e]
  ·rename_i ho;simp only[L9 H l b,m6];by_cases e:b=x
   ·subst e;simp[ho]
   ·simp[e]
theorem Dn (tm:Tr V): ∀(l:List Tmp) (b:Nat),(n8 tm l).get b=(if b∈l then tm.get b else none)
 | [],b=>by simp[n8,Tr.E5]
 | x::l,b=>by
  simp only[n8];split
  ·rename_i o ho;simp only[Tr.F7,Dn tm l b,m6];by_cases e:b=x
   ·subst e;simp[ho]
   ·simp[e]
  ·rename_i ho;simp only[Dn tm l b,m6];by_cases e:b=x
   ·subst e;simp[ho]
   ·simp[e]
theorem Uh: ∀ {n a b:Nat},b∈rng a n↔a≤b∧b<a+n
 | 0,a,b=>by simp[rng]
 | n+1,a,b=>by simp only[rng,m6,Uh (n:=n)];omega
theorem Ox : ∀ {l:List Nat} {b:Nat},b∈l→b∉changed G G' l→G.get b=G'.get b
 | [],b,hb,_=>by cases hb
 | x::l,b,hb,hn=>by
  simp only[changed]at hn;split at hn
  ·rename_i ho;rcases m6.1 hb with rfl | hb
   ·exact Uf ho
   ·exact Ox hb hn
  ·rcases m6.1 hb with rfl | hb
   ·exact absurd (by simp) hn
   ·exact Ox hb (fun hc=>hn (by simp[hc]))
theorem Pd : ∀ {l:List Nat} {b:Nat},b∈changed G G' l→b∈l
 | [],b,hb=>by cases hb
 | x::l,b,hb=>by
  simp only[changed]at hb;split at hb
  ·simp[Pd hb]
  ·rcases m6.1 hb with rfl | hb
   ·simp
   ·simp[Pd hb]
theorem vI : ∀ {l:List Nat},ju n l=true→ ∀b∈l,b<n
 | [],_,b,hb=>by cases hb
 | x::l,h,b,hb=>by
  simp only[ju]at h;split at h
  ·rename_i hx;rcases m6.1 hb with rfl | hb
   ·exact Ce hx
   ·exact vI h b hb
  ·cases h
abbrev G_:=Tr V×Tr v5×Nat
def Mb (a b:G_)(k:Nat):Prop:=b.2.1.get k≠a.2.1.get k∨(a.2.2≤k∧k<b.2.2)
structure CV (P:Program)(ops:Array Oper)(nt:Nat)(o:Oper)(s:Sp)(a b:G_):Prop where
 put:Ql nt a.1 o.dst s.v=some b.1
 done:(G7 ops o (n8 a.1 (o.looksAt ops))=some true∧Ti P o (n8 a.1 (o.looksAt ops)) s.G a.2.2 s.v s.G' b.2.2)∨
  (G7 ops o (n8 a.1 (o.looksAt ops))=some false∧s.v=V.undef∧s.G= .nil∧s.G'= .nil∧a.2=b.2)
 sub: ∀k ob,s.G.get k=some ob→a.2.1.get k=some ob
 m1: ∀k,(s.G.get k≠none∨(a.2.2≤k∧k<b.2.2))→b.2.1.get k=s.G'.get k
 m2: ∀k,¬(s.G.get k≠none∨(a.2.2≤k∧k<b.2.2))→b.2.1.get k=a.2.1.get k
 nx:s.nx=a.2.2
 le:a.2.2≤b.2.2
 small:s.QB=false→(∀k,s.G.get k≠none→k∈s.Mx)∧(∀k,Mb a b k→k∈s.iF)
theorem UH (hN:Bj P)(hF:kM P F){rs:List Sp}
  (hg:G7 ops o (n8 tm (o.looksAt ops))=some true) (he:Tf F P A i rs o (n8 tm (o.looksAt ops)) H nx=some (v,s)) (hp:Ql nt tm o.dst v=some G0):
  s.idx=i∧CV P ops nt o s (tm,H,nx) (G0,s.H',s.j5):=by
 unfold Tf at he;split at he
 ·split at he
  ·rename_i Z;split at he
   ·rename_i v' H1 j5 hb;cases he;have J3:=dS hN hF hb;have bE:=vI Z;refine⟨rfl,hp,.inl ⟨hg,J3⟩,?_,?_,?_,rfl,J3.1.le,fun h=>by cases h⟩
    ·intro k ob hk;simp only[Kj]at hk;split at hk
     ·cases hk
     ·exact hk
    ·intro k hk;simp only[Dp,Kj]at hk⊢;rw[z9];intro hc;rcases hk with hk | hk
     ·rw[x9 hc]at hk;exact hk rfl
     ·have:=bE k hc;omega
    ·intro k hk;simp only[Dp,Kj]at hk⊢;split
     ·rfl
     ·rename_i hc;rw[z9 hc]at hk;have e1:H.get k=none:=Bh fun h=>hk (.inl h);rw[e1];refine Bh fun h=>hk ?_;have:=J3.1.EA k h;simp only[Kj,z9 hc]at this;exact this
   ·cases he
  ·cases he
 ·split at he
  ·rename_i v' hr;cases he;have J3:Ti P o (n8 tm (o.looksAt ops)) (T7 H (N1 P o (n8 tm (o.looksAt ops)))) nx v (T7 H (N1 P o (n8 tm (o.looksAt ops)))) nx:=Dj (by unfold vm;rw[hr]);refine⟨rfl,hp,.inl ⟨hg,J3⟩,?_,?_,fun k _=>rfl,rfl,a9 _,fun _=>⟨?_,?_⟩⟩
   ·intro k ob hk;simp only[L9]at hk;split at hk
    ·exact hk
    ·cases hk
   ·intro k hk;simp only[L9]at hk⊢;rcases hk with hk | hk
    ·split at hk
     ·rw[x9 (by assumption)]
     ·exact absurd rfl hk
    ·omega
   ·intro k hk;simp only[L9]at hk;split at hk
    ·assumption
    ·exact absurd rfl hk
   ·rintro k (hk | hk)
    ·exact absurd rfl hk
    ·simp only at hk;omega
  ·rename_i hr;split at he
   ·rename_i v' G' j5 hw;cases he;have J3:Ti P o (n8 tm (o.looksAt ops)) (T7 H (N1 P o (n8 tm (o.looksAt ops)))) nx v G' j5:=Dj (by unfold vm;rw[hr];exact hw);have hle:=J3.1.le
    have Ro: ∀k ob,(T7 H (N1 P o (n8 tm (o.looksAt ops)))).get k=some ob→H.get k=some ob:=by
     intro k ob hk;simp only[L9]at hk;split at hk
     ·exact hk
     ·cases hk
    refine⟨rfl,hp,.inl ⟨hg,J3⟩,Ro,?_,?_,rfl,hle,fun _=>⟨?_,?_⟩⟩
    ·intro k hk;simp only[Dp,cQ,Uh];by_cases hc:k∈changed (T7 H (N1 P o (n8 tm (o.looksAt ops)))) G' (N1 P o (n8 tm (o.looksAt ops)))∨nx≤k∧k<nx+(j5 - nx)
     ·rw[x9 hc]
     ·rw[z9 hc];rcases hk with hk | hk
      ·have M8:k∈N1 P o (n8 tm (o.looksAt ops)):=by
        simp only[L9]at hk;split at hk
        ·assumption
        ·exact absurd rfl hk
       have:=Ox M8 (fun h=>hc (.inl h));rw[←this,L9,x9 M8]
      ·exact absurd (.inr ⟨hk.1,by simp only at hk;omega⟩) hc
    ·intro k hk;simp only[Dp,cQ,Uh];by_cases hc:k∈changed (T7 H (N1 P o (n8 tm (o.looksAt ops)))) G' (N1 P o (n8 tm (o.looksAt ops)))∨nx≤k∧k<nx+(j5 - nx)
     ·rw[x9 hc];rcases hc with hc | hc
      ·have M8:=Pd hc;have e1:(T7 H (N1 P o (n8 tm (o.looksAt ops)))).get k=none:=Bh fun h=>hk (.inl h);have e2:G'.get k=none:=Bh fun h=>hk (J3.1.EA k h);rw[L9,x9 M8]at e1;rw[e1,e2]
      ·exact absurd (.inr ⟨hc.1,by simp only;omega⟩) hk
     ·rw[z9 hc]
    ·intro k hk;simp only[L9]at hk;split at hk
     ·assumption
     ·exact absurd rfl hk
    ·rintro k (hk | hk)
     ·simp only[Dp,cQ,Uh]at hk⊢;refine Bh fun hc=> ?_;rw[z9 hc]at hk;exact hk rfl
     ·simp only[cQ,Uh];exact .inr ⟨hk.1,by simp only at hk;omega⟩
   ·cases he
theorem qj1 (hN:Bj P)(hF:kM P F): ∀(l:List Oper) (i:Nat) (rs:List Sp) (tm:Tr V) (H:Tr v5) (nx:Nat) (G0:Tr V) (H':Tr v5) (j5:Nat) (ss:List Sp),
  mh F P ops nt A i l rs tm H nx=some (G0,H',j5,ss)→
  ∃st:Nat→G_,st 0=(tm,H,nx)∧st l.length=(G0,H',j5)∧ ∀k o,l[k]? =some o→ ∃s,ss[k]? =some s∧s.idx=i+k∧CV P ops nt o s (st k) (st (k+1)):=by
 intro l
 induction l with
 | nil=>
  intro i rs tm H nx G0 H' j5 ss he;simp only[mh]at he;cases he;exact⟨fun _=>(tm,H,nx),rfl,rfl,fun k o hk=>by simp at hk⟩
 | cons o l ih=>
  intro i rs tm H nx G0 H' j5 ss he;simp only[mh]at he;split at he
  ·rename_i hg;split at he
   ·rename_i v s h1;split at he
    ·rename_i Yw hp;split at he
     ·rename_i PF H2 Iu ss' h2;cases he;obtain⟨FF,J3⟩:=UH hN hF hg h1 hp;obtain⟨st,e0,e1,Z7⟩:=ih _ _ _ _ _ _ _ _ _ h2;refine⟨fun k=>match k with | 0=>(tm,H,nx) | k+1=>st k,rfl,e1,fun k o' hk=> ?_⟩
      cases k with
      | zero=>
       simp at hk;subst hk;refine⟨s,rfl,FF,?_⟩;show CV P ops nt o s (tm,H,nx) (st 0);rw[e0];exact J3
      | succ k=>
       obtain⟨s',h3,h4,h5⟩:=Z7 k o' (by simpa using hk);exact⟨s',by simpa using h3,by omega,h5⟩
     ·cases he
    ·cases he
   ·cases he
  ·rename_i hg;split at he
   ·rename_i Yw hp;split at he
    ·rename_i PF H2 Iu ss' h2;cases he;obtain⟨st,e0,e1,Z7⟩:=ih _ _ _ _ _ _ _ _ _ h2;refine⟨fun k=>match k with | 0=>(tm,H,nx) | k+1=>st k,rfl,e1,fun k o' hk=> ?_⟩
     cases k with
     | zero=>
      simp at hk;subst hk;refine⟨_,rfl,rfl,?_⟩;show CV P ops nt o _ (tm,H,nx) (st 0);rw[e0];refine⟨hp,.inr ⟨hg,rfl,rfl,rfl,rfl⟩,fun k ob hk=>by simp[Tr.E5]at hk,fun k hk=> ?_,fun k _=>rfl,rfl,a9 _,fun _=>⟨fun k hk=>by simp[Tr.E5]at hk,?_⟩⟩
      ·rcases hk with hk | hk
       ·simp[Tr.E5]at hk
       ·simp only at hk;omega
      ·rintro k (hk | hk)
       ·exact absurd rfl hk
       ·simp only at hk;omega
     | succ k=>
      obtain⟨s',h3,h4,h5⟩:=Z7 k o' (by simpa using hk);exact⟨s',by simpa using h3,by omega,h5⟩
    ·cases he
   ·cases he
  ·cases he
theorem lA : ∀ {l:List Sp},Gq A r l=true→ ∀s∈l,Rt A s.idx r.idx=true∨O6 r s=true
 | [],_,s,hs=>by cases hs
 | x::l,h,s,hs=>by
  simp only[Gq]at h;split at h
  ·rename_i hx;rw[S9]at hx;rcases m6.1 hs with rfl | hs
   ·exact hx
   ·exact lA h s hs
  ·cases h
theorem Xm : ∀ {l:List Sp},Gs A l=true→ ∀(j k:Nat) (r s:Sp),j<k→l[j]? =some r→l[k]? =some s→Rt A s.idx r.idx=true∨O6 r s=true
 | [],_,j,k,r,s,_,hr,_=>by simp at hr
 | x::l,h,j,k,r,s,WM,hr,hs=>by
  simp only[Gs]at h;split at h
  ·rename_i hx
   cases k with
   | zero=>omega
   | succ k=>
    cases j with
    | zero=>simp at hr;subst hr;exact lA hx s (Mk (by simpa using hs))
    | succ j=>exact Xm h j k r s (by omega) (by simpa using hr) (by simpa using hs)
  ·cases h
theorem jo {o':Oper}{a b c d:G_}(hr:CV P ops nt o r a b)(hs:CV P ops nt o' s c d)(h:O6 r s=true):
  (∀k,Mb a b k→s.G.get k=none)∧(∀k,Mb c d k→r.G.get k=none):=by
 have key: ∀ {o o':Oper} {r s:Sp} {a b c d:G_},CV P ops nt o r a b→CV P ops nt o' s c d→r.QB=false→Ny s.G r.iF=true→Ob s r.Mx=true→
   (∀k,Mb a b k→s.G.get k=none)∧(∀k,Mb c d k→r.G.get k=none):=by
  intro o o' r s a b c d hr hs hb h1 h2;obtain⟨g1,g2⟩:=hr.small hb;refine⟨fun k hk=>lD h1 k (g2 k hk),fun k hk=> ?_⟩;refine Bh fun hc=> ?_;obtain⟨k1,k2⟩:=Xg h2 k (g1 k hc);rw[hs.nx]at k1;rcases hk with hk | hk
  ·apply hk;by_cases hG:s.G.get k≠none∨(c.2.2≤k∧k<d.2.2)
   ·rw[hs.m1 k hG];rcases k2 with k2 | k2
    ·rcases hG with hG | hG
     ·exact absurd k2 hG
     ·omega
    ·rcases hG with hG | hG
     ·cases OO:s.G.get k with
      | none=>exact absurd OO hG
      | some ob=>rw[←k2,OO];exact(hs.sub k ob OO).symm
     ·omega
   ·exact hs.m2 k hG
  ·omega
 unfold O6 at h;split at h
 ·rename_i h1 h2;rw[p9]at h;obtain⟨a1,a2⟩:=hr.small h1;obtain⟨b1,b2⟩:=hs.small h2;exact⟨fun k hk=>Bh fun hc=>oT h.1 k (a2 k hk) (b1 k hc),fun k hk=>Bh fun hc=>oT h.2 k (b2 k hk) (a1 k hc)⟩
 ·rename_i h1 h2;rw[p9]at h;exact key hr hs h1 h.1 h.2
 ·rename_i h1 h2;rw[p9]at h;obtain⟨x,y⟩:=key hs hr h2 h.1 h.2;exact⟨y,x⟩
 ·cases h
theorem eY {t:Tmp}: ∀ {l:List Oper} {j0:Nat},Fo A i t j0 l=true→ ∀k o,l[k]? =some o→o.dst=some t→i=j0+k∨Rt A i (j0+k)=true∨Rt A (j0+k) i=true
 | [],_,_,k,o,hk,_=>by simp at hk
 | x::l,j0,h,k,o,hk,hd=>by
  simp only[Fo]at h
  have tail:Fo A i t (j0+1) l=true→ ∀k',k=k'+1→i=j0+k∨Rt A i (j0+k)=true∨Rt A (j0+k) i=true:=by
   intro h' k' e;subst e;have:=eY h' k' o (by simpa using hk) hd
   rwa [show j0+1+k'=j0+(k'+1) by omega]at this
  split at h
  ·rename_i d hxd;split at h
   ·rename_i hdt;split at h
    ·rename_i WH
     cases k with
     | zero=>
      rw[S9,S9]at WH;rcases WH with(WH | WH) | WH
      ·exact .inl (Y0 WH)
      ·exact .inr (.inl WH)
      ·exact .inr (.inr WH)
     | succ k=>exact tail h k rfl
    ·cases h
   ·rename_i hdt
    cases k with
    | zero=>simp at hk;subst hk;rw[hxd]at hd;cases hd;simp at hdt
    | succ k=>exact tail h k rfl
  ·rename_i hxd
   cases k with
   | zero=>simp at hk;subst hk;rw[hxd]at hd;cases hd
   | succ k=>exact tail h k rfl
theorem eZ : ∀ {l:List Tmp},aE ops A i l=true→ ∀t∈l,Fo A i t 0 ops.toList=true
 | [],_,t,ht=>by cases ht
 | x::l,h,t,ht=>by
  simp only[aE]at h;split at h
  ·rename_i hx;rcases m6.1 ht with rfl | ht
   ·exact hx
   ·exact eZ h t ht
  ·cases h
theorem kP : ∀ {l:List Oper} {i:Nat},dA ops A i l=true→ ∀k o,l[k]? =some o→ ∀t∈Ug ops o,Fo A (i+k) t 0 ops.toList=true
 | [],_,_,k,o,hk,_,_=>by simp at hk
 | x::l,i,h,k,o,hk,t,ht=>by
  simp only[dA]at h;split at h
  ·rename_i hx
   cases k with
   | zero=>simp at hk;subst hk;exact eZ hx t ht
   | succ k=>
    have:=kP h k o (by simpa using hk) t ht
    rwa [show i+1+k=i+(k+1) by omega]at this
  ·cases h
theorem lZ : ∀ {l:List Edge},nT i l=true→ ∀e∈l,Region.binds .any e=true→e.on<i
 | [],_,e,he,_=>by cases he
 | x::l,h,e,he,hb=>by
  simp only[nT]at h;split at h
  ·rename_i hx;rcases m6.1 he with rfl | he
   ·rw[hb]at hx;simp at hx;exact hx
   ·exact lZ h e he hb
  ·cases h
theorem fU: ∀ {l:List Oper} {i:Nat},Um i l=true→ ∀k o,l[k]? =some o→ ∀e∈o.after,Region.binds .any e=true→e.on<i+k
 | [],_,_,k,o,hk,_,_,_=>by simp at hk
 | x::l,i,h,k,o,hk,e,he,hb=>by
  simp only[Um]at h;split at h
  ·rename_i hx
   cases k with
   | zero=>simp at hk;subst hk;exact lZ hx e (by simpa using he) hb
   | succ k=>
    have:=fU h k o (by simpa using hk) e he hb;omega
  ·cases h
def left:List Bool→Nat
 | []=>0
 | b::l=>(if b then 0 else 1)+left l
theorem Oq: ∀(l:List Bool) (i:Nat),l[i]? =some false→left (l.set i true)+1=left l
 | [],i,h=>by simp at h
 | b::l,0,h=>by simp at h;subst h;simp[left];omega
 | b::l,i+1,h=>by have:=Oq l i (by simpa using h);simp only[kE,left];omega
theorem lL: ∀(l:List Bool),left l=0→ ∀i,i<l.length→l[i]? =some true
 | [],_,i,hi=>by simp at hi
 | b::l,h,i,hi=>by
  simp only[left]at h
  cases b with
  | false=>simp at h
  | true=>
   cases i with
   | zero=>rfl
   | succ i=>simpa using lL l (by simpa using h) i (by simpa using hi)
theorem Pf: ∀n,left (List.replicate n false)=n
 | 0=>rfl
 | n+1=>by simp only[jg,left,Pf n];simp;omega
theorem gu {st:Nat→G_}(Z7: ∀k o,ops.toList[k]? =some o→ ∃s,ss[k]? =some s∧s.idx=0+k∧CV P ops nt o s (st k) (st (k+1))):
  ∀d k,k+d≤ops.size→(st k).2.2≤(st (k+d)).2.2
 | 0,_,_=>a9 _
 | d+1,k,h=>by
  have h1:=gu Z7 d k (by omega);obtain⟨s,_,_,hs⟩:=Z7 (k+d) ops[k+d] (by simp);exact j9 h1 hs.le
theorem uV {st:Nat→G_}(Z7: ∀k o,ops.toList[k]? =some o→ ∃s,ss[k]? =some s∧s.idx=0+k∧CV P ops nt o s (st k) (st (k+1))):
  ∀k,k≤ops.size→Dm (st 0).2.1.get (st k).2.1.get (st 0).2.2 (st k).2.2
 | 0,_=>Dm.refl _ _
 | k+1,h=>by
  have h1:=uV Z7 k (by omega);obtain⟨s,_,_,hs⟩:=Z7 k ops[k] (by simp);refine h1.trans ⟨hs.le,fun b hb=> ?_⟩;by_cases hG:s.G.get b≠none∨((st k).2.2≤b∧b< (st (k+1)).2.2)
  ·rcases hG with hG | hG
   ·cases hGb:s.G.get b with
    | none=>exact absurd hGb hG
    | some ob=>exact .inl (by rw[hs.sub b ob hGb];simp)
   ·exact .inr hG
  ·rw[hs.m2 b hG]at hb;exact .inl hb
theorem lX (hN:Bj P)(Qo:P.follows .mixedOrders=true)(hF:kM P F)
  (he:dE F P ops nt tm H nx=some (G0,H',j5)):
  Dm H.get H'.get nx j5∧ ∀(η:Env) (h:Hp) (w:World) (A:Act) (ro:Option Nat) (n id:Nat) (Q:Exit→Act→World→Prop),Ek η h w H.get nx j5→RA η tm A.tmps→A.tmps.size=nt→η.Bn P→
   (∀o7 w' A',Y6 η h w H.get H'.get nx j5 o7 w'→RA o7 G0 A'.tmps→A'.tmps.size=nt→A'.defers=A.defers→Q .normal A' w')→(Code.region id ops true).wpIn (fe ro) n P Q A w:=by
 unfold dE at he;split at he
 case h_2=>cases he
 rename_i G0 H' j5 ss YD hev;split at he
 case h_2=>cases he
 rename_i nG;cases he;rw[p9]at YD;obtain⟨qi3,qt4⟩:=YD;obtain⟨st,e0,e1,Z7⟩:=qj1 hN hF _ _ _ _ _ _ _ _ _ _ hev;simp only[Array.length_toList]at e1;have hdm:=uV Z7;have Jn:=gu Z7;have hD:Dm H.get H'.get nx j5:=by have:=hdm ops.size (a9 _);rw[e0,e1]at this;exact this
 refine⟨hD,fun fk h0 w0 A0 ro n id Q p0 ra0 vw hg0 hQ=> ?_⟩
 -- facts on the operations
 have PJ: ∀i o,ops[i]? =some o→ ∃s,ss[i]? =some s∧s.idx=i∧CV P ops nt o s (st i) (st (i+1)):=fun i o ho=>by
  obtain⟨s,h1,h2,h3⟩:=Z7 i o (by simpa using ho);exact⟨s,h1,by omega,h3⟩
 have OM: ∀i,i<ops.size→ ∃o s,ops[i]? =some o∧ss[i]? =some s∧s.idx=i∧CV P ops nt o s (st i) (st (i+1)):=fun i hi=>by
  obtain⟨s,h1,h2,h3⟩:=PJ i ops[i] (by simp);exact⟨ops[i],s,by simp,h1,h2,h3⟩
 -- two operations that are not ordered
 have IF: ∀i j,i<ops.size→j<ops.size→i≠j→ ¬bO ops i j→ ¬bO ops j i→ ∀s,ss[j]? =some s→ ∀k,Mb (st i) (st (i+1)) k→s.G.get k=none:=by
  intro i j hi hj X3 n1 n2 s hs k hk;obtain⟨oi,si,h1,h2,h3,h4⟩:=OM i hi;obtain⟨oj,sj,g1,g2,g3,g4⟩:=OM j hj;rw[hs]at g2;cases g2;rcases Oh i j with Z | mj
  ·rcases Xm nG i j si s Z h2 hs with hb | hb
   ·rw[h3,g3]at hb;exact absurd hb n2
   ·exact(jo h4 g4 hb).1 k hk
  ·rcases Xm nG j i s si (by omega) hs h2 with hb | hb
   ·rw[h3,g3]at hb;exact absurd hb n1
   ·exact(jo g4 h4 hb).2 k hk
 have Qn: ∀i,i<ops.size→ ∀s,ss[i]? =some s→ ∀k,Mb (st i) (st (i+1)) k→s.G.get k=none→(st i).2.2≤k∧k< (st (i+1)).2.2:=by
  intro i hi s hs k hM hG;obtain⟨o,s',h1,h2,h3,h4⟩:=OM i hi;rw[hs]at h2;cases h2;refine Bh fun hc=> ?_;rcases hM with hM | hM
  ·exact hM (h4.m2 k (by rintro(hx | hx);exact hx hG;exact hc hx))
  ·exact hc hM
 have zc9: ∀i,i<ops.size→ ∀k,Mb (st i) (st (i+1)) k→ ∀j,j<ops.size→j≠i→Mb (st j) (st (j+1)) k→bO ops i j∨bO ops j i:=by
  intro i hi k hMi j hj X3 mb;refine Bh fun hc=> ?_;have n1: ¬bO ops i j:=fun h=>hc (.inl h);have n2: ¬bO ops j i:=fun h=>hc (.inr h);obtain⟨oi,si,h1,h2,h3,h4⟩:=OM i hi;obtain⟨oj,sj,g1,g2,g3,g4⟩:=OM j hj;have a1:=Qn i hi si h2 k hMi (IF j i hj hi X3 n2 n1 si h2 k mb);have a2:=Qn j hj sj g2 k mb (IF i j hi hj (W5 X3) n1 n2 sj g2 k hMi);rcases Oh i j with Z | mj
  ·obtain⟨d,rfl⟩: ∃d,j=(i+1)+d:=⟨j - (i+1),by omega⟩;have:=Jn d (i+1) (by omega);omega
  ·obtain⟨d,rfl⟩: ∃d,i=(j+1)+d:=⟨i - (j+1),by omega⟩;have:=Jn d (j+1) (by omega);omega
 have YG: ∀i o,ops[i]? =some o→ ∀t,t∈Ug ops o→ ∀j,j<ops.size→j≠i→(∃o',ops[j]? =some o'∧o'.dst=some t)→bO ops i j∨bO ops j i:=by
  rintro i o ho t ht j hj X3 ⟨o',OK,hd'⟩;have hw:=kP qt4 i o (by simpa using ho) t ht;rcases eY hw j o' (by simpa using OK) hd' with h | h | h
  ·omega
  ·exact .inl (by simpa[bO]using h)
  ·exact .inr (by simpa[bO]using h)
 -- the canonical heaps
 obtain⟨hs,hhs⟩: ∃hs:Nat→Hp,hs=fun i=>Mz h0 H.get (st i).2.1.get nx (st i).2.2:=⟨_,rfl⟩
 have zd9: ∀i,i≤ops.size→ ∀k,(st i).2.1.get k≠none→hs i k=(st i).2.1.get k:=fun i hi k hk=>by
  rw[hhs];have:=(hdm i hi).EA k hk;rw[e0]at this;exact Y2 this
 have uo: ∀i k,i<ops.size→ ¬Mb (st i) (st (i+1)) k→hs (i+1) k=hs i k:=fun i k hi hM=>by
  have ID:(st (i+1)).2.1.get k=(st i).2.1.get k:=Bh fun h=>hM (.inl h);have hnn: ¬((st i).2.2≤k∧k< (st (i+1)).2.2):=fun h=>hM (.inr h);have hle:=Jn 1 i (by omega);rw[hhs];by_cases M8:H.get k≠none∨(nx≤k∧k< (st i).2.2)
  ·show Mz h0 H.get (st (i+1)).2.1.get nx (st (i+1)).2.2 k=Mz h0 H.get (st i).2.1.get nx (st i).2.2 k;rw[Y2 M8,Y2 (by rcases M8 with M8 | M8;exact .inl M8;exact .inr ⟨M8.1,by omega⟩),ID]
  ·show Mz h0 H.get (st (i+1)).2.1.get nx (st (i+1)).2.2 k=Mz h0 H.get (st i).2.1.get nx (st i).2.2 k
   rw[M7 M8,M7 (by
    rintro(hx | hx)
    ·exact M8 (.inl hx)
    ·by_cases Z:k< (st i).2.2
     ·exact M8 (.inr ⟨hx.1,Z⟩)
     ·exact hnn ⟨by omega,hx.2⟩)]
 have JP: ∀i (t:Nat),i<ops.size→ ¬(∃o,ops[i]? =some o∧o.dst=some t)→(st (i+1)).1.get t=(st i).1.get t:=fun i t hi hM=>by
  obtain⟨o,s,h1,_,_,h4⟩:=OM i hi;have hp:=h4.put;unfold Ql at hp;split at hp
  ·exact congrArg (fun x=>x.get t) (Z3 hp).symm
  ·rename_i d hd;split at hp
   ·have hp:=Z3 hp;rw[←hp,Tr.a8];intro e;subst e;exact hM ⟨o,h1,hd⟩
   ·cases hp
 -- from every state that the region may be in
 have main: ∀(fuel:Nat) (listed:Array Bool) (A:Act) (w:World),listed.size=ops.size→left listed.toList=fuel→
   (∃(η:Env) (h:Hp) (τ:Nat→Option V),
    Gm ops.size hs (fun i=>Mb (st i) (st (i+1))) (fun i=>listed.getD i false=true) h∧
    Gm ops.size (fun i t=>(st i).1.get t) (fun i t=> ∃o,ops[i]? =some o∧o.dst=some t) (fun i=>listed.getD i false=true) τ∧
    RH η h w∧(∀t v,τ t=some v→v.j2 η=some (A.tmps.getD t Go.undef))∧A.tmps.size=nt∧A.defers=A0.defers∧
    fk.le η∧(∀b,¬(nx≤b∧b<j5)→η.m5 b=fk.m5 b∧η.jH b=fk.jH b∧η.em b=fk.em b)∧
    (∀i,i<ops.size→ ¬(listed.getD i false=true)→ ∀b,(st i).2.2≤b→b< (st (i+1)).2.2→η.m5 b=none∧η.jH b=none∧η.em b=none)∧
    (∀k,QH η h k→QH fk h0 k∨w0.heap.size≤k)∧Fr fk h0 w0 w∧oB ops (fun i=>listed.getD i false=true))→
   wpAnyIn (fe ro) n P .any ops Q fuel listed A w:=by
  have Ni: ∀(listed:Array Bool) (A:Act) (w:World),(∀i,i<ops.size→listed.getD i false=true)→
   (∃(η:Env) (h:Hp) (τ:Nat→Option V),
    Gm ops.size hs (fun i=>Mb (st i) (st (i+1))) (fun i=>listed.getD i false=true) h∧
    Gm ops.size (fun i t=>(st i).1.get t) (fun i t=> ∃o,ops[i]? =some o∧o.dst=some t) (fun i=>listed.getD i false=true) τ∧
    RH η h w∧(∀t v,τ t=some v→v.j2 η=some (A.tmps.getD t Go.undef))∧A.tmps.size=nt∧A.defers=A0.defers∧
    fk.le η∧(∀b,¬(nx≤b∧b<j5)→η.m5 b=fk.m5 b∧η.jH b=fk.jH b∧η.em b=fk.em b)∧
    (∀i,i<ops.size→ ¬(listed.getD i false=true)→ ∀b,(st i).2.2≤b→b< (st (i+1)).2.2→η.m5 b=none∧η.jH b=none∧η.em b=none)∧
    (∀k,QH η h k→QH fk h0 k∨w0.heap.size≤k)∧Fr fk h0 w0 w∧oB ops (fun i=>listed.getD i false=true))→Q .normal A w:=by
   rintro listed A w M9 ⟨η,h,τ,ag,agT,rh,hτ,Cr,my,hle,hnm,_,Wa,PQ,_⟩
   have eh:h=Mz h0 H.get H'.get nx j5:=by
    have:=ag.done uo M9;rw[hhs]at this;simp only[e1]at this;exact this
   have eτ:τ=G0.get:=by
    have:=agT.done JP M9;simp only[e1]at this;exact this
   subst eh;subst eτ;exact hQ η w A ⟨hle,hnm,rh,Wa,PQ⟩ hτ Cr my
  intro fuel
  induction fuel with
  | zero=>
   intro listed A w Cr hl hinv
   have M9: ∀i,i<ops.size→listed.getD i false=true:=fun i hi=>by
    have:=lL listed.toList hl i (by simpa[Cr]using hi);simp only[iM]at this;simp[this]
   refine⟨?_,Ni listed A w M9 hinv⟩;unfold Region.ready;rw[List.filter_eq_nil_iff];intro i hi;have Z:=Gj.1 hi;have:=M9 i Z;have j1:i<listed.size:=by omega
   simp[j1]at this;simp[j1,this]
  | succ fuel ih=>
   intro listed A w Cr hl hinv;refine⟨fun hr=> ?_,fun i hi=> ?_⟩
   ·-- none is left that may come up:all have come up
    have M9: ∀i,i<ops.size→listed.getD i false=true:=by
     intro i
     induction i using Nat.strongRecOn with
     | _ i ihi=>
      intro Z;refine Bh fun hc=> ?_
      have qo0:i∈Region.ready .any ops listed:=by
       rw[mem_ready];have j1:i<listed.size:=by omega
       refine⟨by simp[j1]at hc⊢;exact hc,ops[i],by simp,fun e he hb=> ?_⟩;have:=fU qi3 i ops[i] (by simp) e he hb;exact ihi e.on (by omega) (by omega)
      rw[hr]at qo0;cases qo0
    exact Ni listed A w M9 hinv
   ·obtain⟨OD,o,ho,M9⟩:=mem_ready.1 hi;have Xt:i<ops.size:=(Mu.1 ho).1;have mz:i<listed.size:=by omega
    have WI: ¬(listed.getD i false=true):=by simp[mz]at OD⊢;exact OD
    obtain⟨s,bA,xF,vx⟩:=PJ i o ho;obtain⟨η,h,τ,ag,agT,rh,hτ,qn0,my,hle,hnm,nO,Wa,PQ,Nc⟩:=hinv;have WC: ∀j,bO ops i j→listed.getD j false=true:=fun j hj=>hj.ready Nc ho M9;have DZ: ∀j,bO ops j i→ ¬(listed.getD j false=true):=fun j hj hL=>WI (hj.closed Nc hL);have RI: ∀i j,bO ops i j→j<i:=fun i j h=>h.lt
    -- the temporaries that it looks at
    have Hu:RA η (n8 (st i).1 (o.looksAt ops)) A.tmps:=by
     intro t v hv;rw[Dn]at hv;split at hv
     ·rename_i ht;have:=agT.look JP RI Xt WI WC DZ (k:=t) (fun j hj X3 hM=>YG i o ho t (by unfold Ug;simp[ht]) j hj X3 hM);exact hτ t v (this.trans hv)
     ·cases hv
    -- the blocks that it sees
    have qo5: ∀b ob,s.G.get b=some ob→h b=some ob:=by
     intro b ob hb;have X3:(st i).2.1.get b≠none:=by rw[vx.sub b ob hb];simp
     have:=ag.look uo RI Xt WI WC DZ (k:=b) (fun j hj yD hM=>Bh fun hc=>by
      have:=IF j i hj Xt yD (fun h=>hc (.inr h)) (fun h=>hc (.inl h)) s bA b hM
      rw[hb]at this;cases this)
     rw[this,zd9 i (by omega) b X3,vx.sub b ob hb]
    have qb8:Ek η h w s.G.get (st i).2.2 (st (i+1)).2.2:=⟨qo5,rh,fun b h1 h2=>nO i Xt WI b h1 h2⟩;have Bo:η.Bn P:=Ki hg0 hle
    -- what holds behind it
    have after: ∀(cv:Value) (w':World) (o7:Env),s.v.j2 o7=some cv→Y6 η h w s.G.get s.G'.get (st i).2.2 (st (i+1)).2.2 o7 w'→
      wpAnyIn (fe ro) n P .any ops Q fuel (listed.setIfInBounds i true) (A.put o.dst cv) w':=by
     intro cv w' o7 hv mZ
     have hL': ∀j,((listed.setIfInBounds i true).getD j false=true)↔(listed.getD j false=true∨j=i):=by
      intro j;by_cases e:j=i
      ·subst e;simp[mz]
      ·simp[rX (W5 e),e]
     have hLe:(fun j=>(listed.setIfInBounds i true).getD j false=true)=(fun j=>listed.getD j false=true∨j=i):=funext fun j=>propext (hL' j)
     have dC: ∀j,j<ops.size→j≠i→ ∀b,(st j).2.2≤b→b< (st (j+1)).2.2→ ¬((st i).2.2≤b∧b< (st (i+1)).2.2):=by
      intro j hj X3 b h1 h2 h3;rcases Oh i j with Z | mj
      ·obtain⟨d,rfl⟩: ∃d,j=(i+1)+d:=⟨j - (i+1),by omega⟩;have:=Jn d (i+1) (by omega);omega
      ·obtain⟨d,rfl⟩: ∃d,i=(j+1)+d:=⟨i - (j+1),by omega⟩;have:=Jn d (j+1) (by omega);omega
     refine ih _ _ _ (by simpa using Cr) ?_ ⟨o7,Mz h s.G.get s.G'.get (st i).2.2 (st (i+1)).2.2,fun t=>if o.dst=some t then some s.v else τ t,?_,?_,mZ.rh,?_,?_,?_,hle.trans mZ.le,?_,?_,?_,?_,?_⟩
     ·have:=Oq listed.toList i (by simp[mz]at OD⊢;exact OD);simp only[Array.toList_setIfInBounds];omega
     ·rw[hLe];refine ag.step RI Xt WC DZ (zc9 i Xt) (fun k hM=> ?_) (fun k hM=> ?_)
      ·by_cases hG:s.G.get k≠none∨((st i).2.2≤k∧k< (st (i+1)).2.2)
       ·rw[Y2 hG,←vx.m1 k hG,hhs];refine(Y2 ?_).symm;rcases hG with hG | hG
        ·cases OO:s.G.get k with
         | none=>exact absurd OO hG
         | some ob=>
          have:=(hdm i (by omega)).EA k (by rw[vx.sub k ob OO];simp);rw[e0]at this;rcases this with h1 | h1
          ·exact .inl h1
          ·exact .inr ⟨h1.1,by have:=vx.le;simp only at h1;omega⟩
        ·have:=Jn i 0 (by omega);rw[e0]at this;exact .inr ⟨by simp only[O3]at this;omega,hG.2⟩
       ·exfalso;rcases hM with hM | hM
        ·exact hM (vx.m2 k hG)
        ·exact hG (.inr hM)
      ·by_cases hG:s.G.get k≠none∨((st i).2.2≤k∧k< (st (i+1)).2.2)
       ·rw[Y2 hG,←vx.m1 k hG];have ID:(st (i+1)).2.1.get k=(st i).2.1.get k:=Bh fun hc=>hM (.inl hc);rcases hG with hG | hG
        ·cases OO:s.G.get k with
         | none=>exact absurd OO hG
         | some ob=>rw[ID,vx.sub k ob OO,qo5 k ob OO]
        ·exact absurd (.inr hG) hM
       ·rw[M7 hG]
     ·rw[hLe];refine agT.step RI Xt WC DZ (fun t hM j hj X3 mb=> ?_) (fun t hM=> ?_) (fun t hM=> ?_)
      ·obtain⟨o',OK,hd'⟩:=hM;rw[ho]at OK;cases OK;exact YG i o ho t (by unfold Ug;simp[hd']) j hj X3 mb
      ·obtain⟨o',OK,hd'⟩:=hM;rw[ho]at OK;cases OK;have hp:=vx.put;unfold Ql at hp;simp only[hd']at hp⊢;split at hp
       ·have hp:=Z3 hp;rw[←hp,Tr.V2];simp
       ·cases hp
      ·have: ¬(o.dst=some t):=fun hd=>hM ⟨o,ho,hd⟩;simp[this]
     ·intro t v EZ;simp only at EZ;have hp:=vx.put;unfold Ql at hp;by_cases hd:o.dst=some t
      ·rw[x9 hd]at EZ;cases EZ;simp only[hd]at hp;split at hp
       ·rename_i Z;have:=Ce Z;rw[hv];simp[Act.put,hd,qn0,this]
       ·cases hp
      ·rw[z9 hd]at EZ;rw[V.E9 mZ.le (hτ t v EZ)]
       cases mN:o.dst with
       | none=>rfl
       | some d=>
        have X3:d≠t:=fun e=>hd (by rw[mN,e]);simp[Act.put,rX X3]
     ·cases mN:o.dst<;>simp[Act.put,qn0]
     ·cases mN:o.dst<;>simp[Act.put,my]
     ·intro b hb
      have h1:=mZ.names b (by
       intro hc;have a1:=Jn i 0 (by omega);have a2:=Jn (ops.size - (i+1)) (i+1) (by omega);rw[show i+1+(ops.size - (i+1))=ops.size by omega,e1]at a2;rw[e0]at a1;simp only[O3]at a1 a2
       exact hb ⟨by omega,by omega⟩)
      have h2:=hnm b hb;exact⟨h1.1.trans h2.1,h1.2.1.trans h2.2.1,h1.2.2.trans h2.2.2⟩
     ·intro j hj hnj b h1 h2;have qn7: ¬(listed.getD j false=true∨j=i):=fun hc=>hnj ((hL' j).2 hc);have X3:j≠i:=fun e=>qn7 (.inr e);have h3:=mZ.names b (dC j hj X3 b h1 h2);have h4:=nO j hj (fun hc=>qn7 (.inl hc)) b h1 h2;exact⟨h3.1.trans h4.1,h3.2.1.trans h4.2.1,h3.2.2.trans h4.2.2⟩
     ·intro k hk;rcases mZ.ZX k hk with h1 | h1
      ·exact Wa k h1
      ·exact .inr (j9 PQ.size h1)
     ·exact PQ.trans mZ.fr Wa
     ·rw[hLe];intro j oj hj WW e he hb;rcases WW with WW | rfl
      ·exact .inl (Nc j oj hj WW e he hb)
      ·rw[ho]at hj;cases hj;exact .inl (M9 e he hb)
    unfold wpOpIn;rw[ho];simp only;rcases vx.done with⟨Cn,J3⟩ | ⟨Cn,qJ,hG,hG',zc7⟩
    ·rw[As Cn Hu,x9 rfl];exact J3.2 η h w A ro n _ Q qb8 Hu Bo after
    ·rw[As Cn Hu,z9 (by simp)];refine⟨fun _ _=>trivial,after Go.undef w η (by rw[qJ];rfl) ?_⟩;rw[hG,hG',←zc7];exact Y6.refl (fun b o hb=>by simp[Tr.E5]at hb) rh
 refine wpIn_region_any Qo (main ops.size _ A0 _ (by simp) (by simp[Pf]) ?_);refine⟨fk,h0,tm.get,?_,?_,⟨fun b o hb=>p0.rh.live b o hb,p0.rh.inj⟩,ra0,vw,rfl,.refl _,fun _ _=>⟨rfl,rfl,rfl⟩,?_,fun k hk=> .inl hk,⟨rfl,rfl,rfl,a9 _,fun _ _ _=>rfl⟩,?_⟩
 ·have hL0:(fun i=>(Array.replicate ops.size false).getD i false=true)=(fun _=>False):=by
   funext i;by_cases hi:i<ops.size<;>simp[hi]
  rw[hL0];have:hs 0=h0:=by rw[hhs];simp only[e0];exact dR p0.ext
  rw[←this];exact Gm.start
 ·have hL0:(fun i=>(Array.replicate ops.size false).getD i false=true)=(fun _=>False):=by
   funext i;by_cases hi:i<ops.size<;>simp[hi]
  rw[hL0];have:(fun t=>(st 0).1.get t)=tm.get:=by rw[e0]
  rw[←this];exact Gm.start
 ·intro i hi _ b h1 h2;have a1:=Jn i 0 (by omega);have a2:=Jn (ops.size - (i+1)) (i+1) (by omega);rw[show i+1+(ops.size - (i+1))=ops.size by omega,e1]at a2;rw[e0]at a1;simp only[O3]at a1 a2;exact p0.fresh b (by omega) (by omega)
 ·intro i o ho hL;have hi:i<ops.size:=(Mu.1 ho).1;simp[hi]at hL
end Go.Proofs.YtlhlmcohdkkjpaaGreatDoor.Ev
