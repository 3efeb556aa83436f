/- An abstract interpreter of the model's code, first part: tries, abstract values, what they stand for. No program in sight. -/
import Derived.Test.YtlhlmcohdkkjpaaGreatDoorAl
import Derived.OrdersIn
import Derived.RangeFuncIn
import Derived.LoopNIn
set_option linter.all false
namespace Go.Proofs.YtlhlmcohdkkjpaaGreatDoor.Ev
open Go
inductive I8 where
 | i0
 | i1
 | i2
 | i3
 | i4
 | i5
 | i6
 | i7
 deriving DecidableEq
def i8:Nat→I8
 | 0=> .i0 | 1=> .i1 | 2=> .i2 | 3=> .i3 | 4=> .i4 | 5=> .i5 | 6=> .i6 | _=> .i7
variable{A:Act}{after:Array Edge}{C:Array Value}{g ok:Bool}{ms:List MapEntry}{b k j β n nx L6 Iu j5 m E o f c e y:Nat}{B:Nat×Nat}{guard:Option (Nat×Bool)}{dst:Option Tmp}{P:Program}{α:Type}{d:TypeDesc}{t s type:TypeId}{i:TypeInfo}{cv cx:Value}{w w1 w2 w':World}
theorem zC {a:Nat}(ha:a<8)(hb:b<8)(h:i8 a=i8 b):a=b:=by
 rcases(show a=0∨a=1∨a=2∨a=3∨a=4∨a=5∨a=6∨a=7 by omega)with rfl | rfl | rfl | rfl | rfl | rfl | rfl | rfl<;>
 rcases(show b=0∨b=1∨b=2∨b=3∨b=4∨b=5∨b=6∨b=7 by omega)with rfl | rfl | rfl | rfl | rfl | rfl | rfl | rfl<;>first | rfl | cases h
inductive Tr (α:Type) where
 | nil
 | node (v:Option α) (c0 c1 c2 c3 c4 c5 c6 c7:Tr α)
noncomputable def cB (f:Nat):Nat→List I8:=
 Nat.rec (motive:=fun _=>Nat→List I8) (fun _=> []) (fun _ ih k=>Nat.rec (motive:=fun _=>List I8) [] (fun k' _=>i8 (Nat.mod k' 8)::ih (Nat.div k' 8)) k) f
noncomputable def path (k:Nat):List I8:=cB (Nat.succ k) k
--EV-HOT
abbrev Tr.GT (α:Type):Type:=Tr α→Option α
abbrev Tr.PT (α:Type):Type:=Tr α→Tr α
noncomputable def Tr.top (v:Option α)(_x0 _x1 _x2 _x3 _x4 _x5 _x6 _x7:Tr α)(_y0 _y1 _y2 _y3 _y4 _y5 _y6 _y7:Option α):Option α:=v
noncomputable def Tr.qi6 (t:Tr α):Option α:=Tr.rec (motive:=fun _=>Option α) none Tr.top t
noncomputable def Tr.pick (ih:Tr.GT α)(d:I8)(_v:Option α)(c0 c1 c2 c3 c4 c5 c6 c7:Tr α)(_y0 _y1 _y2 _y3 _y4 _y5 _y6 _y7:Option α):Option α:=ih (I8.rec (motive:=fun _=>Tr α) c0 c1 c2 c3 c4 c5 c6 c7 d)
noncomputable def Tr.TV (d:I8)(_p:List I8)(ih:Tr.GT α)(t:Tr α):Option α:=Tr.rec (motive:=fun _=>Option α) none (Tr.pick ih d) t
noncomputable def Tr.bT (p:List I8):Tr α→Option α:=List.rec (motive:=fun _=>Tr.GT α) Tr.qi6 Tr.TV p
noncomputable def Tr.get (t:Tr α)(k:Nat):Option α:=Tr.bT (path k) t
abbrev Tr.ST (α:Type):Type:=Option α→Tr α→Tr α→Tr α→Tr α→Tr α→Tr α→Tr α→Tr α→Tr α→Tr α
noncomputable def Tr.qz8 (v:Option α)(y c0 c1 c2 c3 c4 c5 c6 c7:Tr α):Tr α:= .node v y c1 c2 c3 c4 c5 c6 c7
noncomputable def Tr.qz7 (v:Option α)(y c0 c1 c2 c3 c4 c5 c6 c7:Tr α):Tr α:= .node v c0 y c2 c3 c4 c5 c6 c7
noncomputable def Tr.qz6 (v:Option α)(y c0 c1 c2 c3 c4 c5 c6 c7:Tr α):Tr α:= .node v c0 c1 y c3 c4 c5 c6 c7
noncomputable def Tr.qz5 (v:Option α)(y c0 c1 c2 c3 c4 c5 c6 c7:Tr α):Tr α:= .node v c0 c1 c2 y c4 c5 c6 c7
noncomputable def Tr.qz4 (v:Option α)(y c0 c1 c2 c3 c4 c5 c6 c7:Tr α):Tr α:= .node v c0 c1 c2 c3 y c5 c6 c7
noncomputable def Tr.qz3 (v:Option α)(y c0 c1 c2 c3 c4 c5 c6 c7:Tr α):Tr α:= .node v c0 c1 c2 c3 c4 y c6 c7
noncomputable def Tr.qz2 (v:Option α)(y c0 c1 c2 c3 c4 c5 c6 c7:Tr α):Tr α:= .node v c0 c1 c2 c3 c4 c5 y c7
noncomputable def Tr.qz1 (v:Option α)(y c0 c1 c2 c3 c4 c5 c6 c7:Tr α):Tr α:= .node v c0 c1 c2 c3 c4 c5 c6 y
noncomputable def Tr.ET (d:I8):Option α→Tr α→Tr α→Tr α→Tr α→Tr α→Tr α→Tr α→Tr α→Tr α→Tr α:=
 I8.rec (motive:=fun _=>Tr.ST α) Tr.qz8 Tr.qz7 Tr.qz6 Tr.qz5 Tr.qz4 Tr.qz3 Tr.qz2 Tr.qz1 d
noncomputable def Tr.over (x:Option α)(_v:Option α)(c0 c1 c2 c3 c4 c5 c6 c7:Tr α)(_y0 _y1 _y2 _y3 _y4 _y5 _y6 _y7:Tr α):Tr α:= .node x c0 c1 c2 c3 c4 c5 c6 c7
noncomputable def Tr.qg8 (x:Option α)(t:Tr α):Tr α:=Tr.rec (motive:=fun _=>Tr α) (.node x .nil .nil .nil .nil .nil .nil .nil .nil) (Tr.over x) t
noncomputable def Tr.qs8 (d:I8)(ih:Tr.PT α)(v:Option α)(c0 c1 c2 c3 c4 c5 c6 c7:Tr α)(_y0 _y1 _y2 _y3 _y4 _y5 _y6 _y7:Tr α):Tr α:=Tr.ET d v (ih (I8.rec (motive:=fun _=>Tr α) c0 c1 c2 c3 c4 c5 c6 c7 d)) c0 c1 c2 c3 c4 c5 c6 c7
noncomputable def Tr.SI (d:I8)(_p:List I8)(ih:Tr.PT α)(t:Tr α):Tr α:=
 Tr.rec (motive:=fun _=>Tr α) (Tr.ET d none (ih .nil) .nil .nil .nil .nil .nil .nil .nil .nil) (Tr.qs8 d ih) t
noncomputable def Tr.QZ (x:Option α)(p:List I8):Tr α→Tr α:=List.rec (motive:=fun _=>Tr.PT α) (Tr.qg8 x) Tr.SI p
noncomputable def Tr.put (t:Tr α)(x:Option α)(k:Nat):Tr α:=Tr.QZ x (path k) t
--EV-END
section tries
variable {α:Type}
theorem sq: ∀(f k j:Nat),k<f→ ∀g,j<g→cB f k=cB g j→k=j:=by
 intro f
 induction f with
 | zero=>intro k j h;omega
 | succ f ih=>
  intro k j hk g hj h
  cases g with
  | zero=>omega
  | succ g=>
   cases k with
   | zero=>
    cases j with
    | zero=>rfl
    | succ j=>exact absurd h (by show([]:List I8)≠i8 (j % 8)::cB g (j / 8);simp)
   | succ k=>
    cases j with
    | zero=>exact absurd h (by show i8 (k % 8)::cB f (k / 8)≠([]:List I8);simp)
    | succ j=>
     have h':i8 (k % 8)::cB f (k / 8)=i8 (j % 8)::cB g (j / 8):=h;injection h' with h1 h2;have e1:=zC (Nat.mod_lt _ (by decide)) (Nat.mod_lt _ (by decide)) h1;have e2:=ih (k / 8) (j / 8) (by omega) g (by omega) h2;omega
theorem LJ (h:path k=path j):k=j:=sq _ _ _ (Nat.lt_succ_self k) _ (Nat.lt_succ_self j) h
theorem Tr.E5 (k:Nat):(Tr.nil:Tr α).get k=none:=by
 unfold Tr.get;cases path k<;>rfl
theorem Tr.Jy (p:List I8):Tr.bT p (Tr.nil:Tr α)=none:=by cases p<;>rfl
theorem Tr.lT (d e:I8)(v:Option α)(c0 c1 c2 c3 c4 c5 c6 c7 y:Tr α)(p:List I8):
  Tr.bT (e::p) (Tr.ET d v y c0 c1 c2 c3 c4 c5 c6 c7)=if e=d then Tr.bT p y else Tr.bT (e::p) (.node v c0 c1 c2 c3 c4 c5 c6 c7):=by
 cases d<;>cases e<;>rfl
theorem Tr.AK (x:Option α): ∀(q p:List I8) (t:Tr α),Tr.bT p (Tr.QZ x q t)=if p=q then x else Tr.bT p t:=by
 intro q
 induction q with
 | nil=>
  intro p t
  cases t with
  | nil=>cases p with
   | nil=>rfl
   | cons e p=>rw[z9 (by simp),Tr.Jy];show Tr.bT p (I8.rec (motive:=fun _=>Tr α) .nil .nil .nil .nil .nil .nil .nil .nil e)=none;cases e<;>exact Tr.Jy p
  | node v c0 c1 c2 c3 c4 c5 c6 c7=>cases p with
   | nil=>rfl
   | cons e p=>rw[z9 (by simp)];rfl
 | cons d q ih=>
  intro p t
  cases t with
  | nil=>
   show Tr.bT p (Tr.ET d none (Tr.QZ x q .nil) .nil .nil .nil .nil .nil .nil .nil .nil)=_
   cases p with
   | nil=>cases d<;>rfl
   | cons e p=>
    rw[Tr.lT];by_cases h:e=d
    ·subst h;rw[x9 rfl,ih];by_cases hp:p=q
     ·subst hp;simp
     ·rw[z9 hp,z9 (by simpa using hp),Tr.Jy,Tr.Jy]
    ·rw[z9 h,z9 (by simp[h]),Tr.Jy];show Tr.bT p (I8.rec (motive:=fun _=>Tr α) .nil .nil .nil .nil .nil .nil .nil .nil e)=none;cases e<;>exact Tr.Jy p
  | node v c0 c1 c2 c3 c4 c5 c6 c7=>
   show Tr.bT p (Tr.ET d v (Tr.QZ x q (I8.rec (motive:=fun _=>Tr α) c0 c1 c2 c3 c4 c5 c6 c7 d)) c0 c1 c2 c3 c4 c5 c6 c7)=_
   cases p with
   | nil=>cases d<;>rfl
   | cons e p=>
    rw[Tr.lT];by_cases h:e=d
    ·subst h;rw[x9 rfl,ih];by_cases hp:p=q
     ·subst hp;simp
     ·rw[z9 hp,z9 (by simpa using hp)];rfl
    ·rw[z9 h,z9 (by simp[h])]
theorem Tr.F7 (x:Option α)(t:Tr α)(k j:Nat):(t.put x k).get j=if j=k then x else t.get j:=by
 unfold Tr.get Tr.put;rw[Tr.AK];by_cases h:j=k
 ·subst h;simp
 ·rw[z9 h,z9 (fun e=>h (LJ e))]
theorem Tr.V2 (t:Tr α)(x:Option α)(k:Nat):(t.put x k).get k=x:=by rw[Tr.F7,x9 rfl]
theorem Tr.a8 (t:Tr α)(x:Option α)(h:j≠k):(t.put x k).get j=t.get j:=by rw[Tr.F7,z9 h]
end tries
inductive XU where
 | val (v:Value)
 | ptr (b o:Nat)
 deriving Inhabited
inductive At where
 | bool (b:Bool)
 | int (k:IntKind) (n:Int)
 | str (l:List UInt8)
 | ptr (b o:Nat)
 | nilp
 | sl (b o n c:Nat)
 | slx (b o n e:Nat)
 | nils
 | map (b:Nat)
 | nilm
 | fn (f:FuncId) (first:List XU) (Jf:List (Nat×Nat))
 | yld (l:Nat)
 | nilf
 | nili
 | opq (i:Nat)
 | emp (i:Nat)
 deriving Inhabited
inductive V where
 | c (g:Bool) (l:List At)
 | tup (l:List (Bool×List At))
 deriving Inhabited
abbrev V.one (a:At):V:= .c false [a]
abbrev V.undef:V:= .tup []
structure Env where
 m5:Nat→Option (Nat×Nat)
 cap:Nat→Nat
 jH:Nat→Option Value
 em:Nat→Option (Addr×Nat)
structure Env.le (η o7:Env):Prop where
 m5: ∀b B,η.m5 b=some B→o7.m5 b=some B∧o7.cap b=η.cap b
 jH: ∀i v,η.jH i=some v→o7.jH i=some v
 em: ∀i v,η.em i=some v→o7.em i=some v
theorem Env.le.refl (η:Env):η.le η:=⟨fun _ _ h=>⟨h,rfl⟩,fun _ _ h=>h,fun _ _ h=>h⟩
variable{a x:At}{η o7 O4:Env}{l:List At}{lo hi mx:Option At}{tm:Tr V}{v:V}
theorem Env.le.trans {ql0:Env}(h:η.le o7)(h':o7.le ql0):η.le ql0:=
 ⟨fun b B hb=>⟨(h'.m5 b B (h.m5 b B hb).1).1,((h'.m5 b B (h.m5 b B hb).1).2).trans (h.m5 b B hb).2⟩,fun i v hi=>h'.jH i v (h.jH i v hi),fun i v hi=>h'.em i v (h.em i v hi)⟩
def Hl (B:Nat×Nat)(o:Nat):Addr:=⟨B.1,B.2+o,none⟩
def Nf (η:Env):List (Nat×Nat)→Option (List Value)
 | []=>some []
 | (b,o)::l=>match η.m5 b,Nf η l with
  | some B,some vs=>some (.pointer (some (Hl B o))::vs)
  | _,_=>none
def Fl (η:Env):List XU→Option (List Value)
 | []=>some []
 | .val v::l=>match Fl η l with | some vs=>some (v::vs) | none=>none
 | .ptr b o::l=>match η.m5 b,Fl η l with
  | some B,some vs=>some (.pointer (some (Hl B o))::vs)
  | _,_=>none
def At.j2 (η:Env):At→Option Value
 | .bool b=>some (.bool b)
 | .int k n=>some (.int k n)
 | .str l=>some (.string ⟨⟨l⟩⟩)
 | .ptr b o=>match η.m5 b with | some B=>some (.pointer (some (Hl B o))) | none=>none
 | .nilp=>some (.pointer none)
 | .sl b o n c=>match η.m5 b with | some B=>some (.slice (some (Hl B o)) n c) | none=>none
 | .slx b o n e=>match η.m5 b with | some B=>some (.slice (some (Hl B o)) n (η.cap b - e)) | none=>none
 | .nils=>some (.slice none 0 0)
 | .map b=>match η.m5 b with | some B=>some (.map (some B.1)) | none=>none
 | .nilm=>some (.map none)
 | .fn f first Jf=>match Fl η first,Nf η Jf with | some us,some vs=>some (.func (.func f) ⟨us⟩ ⟨vs⟩) | _,_=>none
 | .yld l=>match η.m5 l with | some B=>some (.func (.yield B.1) #[] #[]) | none=>none
 | .nilf=>some .nilFunc
 | .nili=>some .nilIface
 | .opq i=>match η.jH i with | some v=>(match v.oneCell' with | true=>some v | false=>none) | none=>none
 | .emp i=>match η.em i with | some (a,c)=>some (.slice (some a) 0 c) | none=>none
def c9 (η:Env):List At→Option (List Value)
 | []=>some []
 | a::l=>match a.j2 η,c9 η l with
  | some v,some vs=>some (v::vs)
  | _,_=>none
def comp (η:Env)(g:Bool)(l:List At):Option Value:=
 match g,c9 η l with
 | true,some vs=>some (.agg ⟨vs⟩)
 | false,some [v]=>some v
 | _,_=>none
def comps (η:Env):List (Bool×List At)→Option (List Value)
 | []=>some []
 | (g,l)::r=>match comp η g l,comps η r with
  | some v,some vs=>some (v::vs)
  | _,_=>none
def V.j2 (η:Env):V→Option Value
 | .c g l=>comp η g l
 | .tup l=>match comps η l with | some vs=>some (.tuple ⟨vs⟩) | none=>none
theorem ll (h:η.le o7): ∀(l:List (Nat×Nat)) (vs:List Value),Nf η l=some vs→Nf o7 l=some vs:=by
 intro l
 induction l with
 | nil=>intro vs hv;exact hv
 | cons p l ih=>
  obtain⟨b,o⟩:=p;intro vs hv;simp only[Nf]at hv⊢
  cases hb:η.m5 b with
  | none=>simp[hb]at hv
  | some B=>
   cases hl:Nf η l with
   | none=>simp[hb,hl]at hv
   | some ws=>rw[(h.m5 b B hb).1,ih ws hl];simpa[hb,hl]using hv
theorem AN (h:η.le o7): ∀(l:List XU) (vs:List Value),Fl η l=some vs→Fl o7 l=some vs:=by
 intro l
 induction l with
 | nil=>intro vs hv;exact hv
 | cons p l ih=>
  intro vs hv
  cases p with
  | val v=>
   simp only[Fl]at hv⊢
   cases hl:Fl η l with
   | none=>simp[hl]at hv
   | some ws=>rw[ih ws hl];simpa[hl]using hv
  | ptr b o=>
   simp only[Fl]at hv⊢
   cases hb:η.m5 b with
   | none=>simp[hb]at hv
   | some B=>
    cases hl:Fl η l with
    | none=>simp[hb,hl]at hv
    | some ws=>rw[(h.m5 b B hb).1,ih ws hl];simpa[hb,hl]using hv
theorem At.E9 (h:η.le o7){v:Value}(ha:a.j2 η=some v):a.j2 o7=some v:=by
 cases a<;>simp only[At.j2]at ha⊢ <;>try exact ha
 case ptr b o=>cases hb:η.m5 b with
  | none=>simp[hb]at ha
  | some B=>rw[(h.m5 b B hb).1];simpa[hb]using ha
 case sl b o n c=>cases hb:η.m5 b with
  | none=>simp[hb]at ha
  | some B=>rw[(h.m5 b B hb).1];simpa[hb]using ha
 case slx b o n e=>cases hb:η.m5 b with
  | none=>simp[hb]at ha
  | some B=>rw[(h.m5 b B hb).1,(h.m5 b B hb).2];simpa[hb]using ha
 case map b=>cases hb:η.m5 b with
  | none=>simp[hb]at ha
  | some B=>rw[(h.m5 b B hb).1];simpa[hb]using ha
 case fn f first Jf=>cases hl:Nf η Jf with
  | none=>simp[hl]at ha
  | some ws=>cases hl':Fl η first with
   | none=>simp[hl,hl']at ha
   | some us=>rw[ll h _ _ hl,AN h _ _ hl'];simpa[hl,hl']using ha
 case yld l=>cases hb:η.m5 l with
  | none=>simp[hb]at ha
  | some B=>rw[(h.m5 l B hb).1];simpa[hb]using ha
 case opq i=>cases hb:η.jH i with
  | none=>simp[hb]at ha
  | some u=>rw[h.jH i u hb];rw[hb]at ha;exact ha
 case emp i=>cases hb:η.em i with
  | none=>simp[hb]at ha
  | some B=>rw[h.em i B hb];simpa[hb]using ha
theorem At.uY {v:Value}(ha:a.j2 η=some v):v.oneCell'=true:=by
 cases a<;>simp only[At.j2]at ha
 case opq i=>
  split at ha
  ·rename_i u hu
   cases ho:u.oneCell' with
   | true=>simp[ho]at ha;subst ha;exact ho
   | false=>simp[ho]at ha
  ·cases ha
 all_goals first
  | (cases ha;rfl)
  | (split at ha<;>cases ha<;>rfl)
theorem Ly (h:η.le o7): ∀(l:List At) (vs:List Value),c9 η l=some vs→c9 o7 l=some vs:=by
 intro l
 induction l with
 | nil=>intro vs hv;exact hv
 | cons a l ih=>
  intro vs hv;simp only[c9]at hv⊢
  cases ha:a.j2 η with
  | none=>simp[ha]at hv
  | some v=>cases hl:c9 η l with
   | none=>simp[ha,hl]at hv
   | some ws=>rw[At.E9 h ha,ih ws hl];simpa[ha,hl]using hv
theorem Dg (h:η.le o7){v:Value}(hv:comp η g l=some v):comp o7 g l=some v:=by
 unfold comp at hv⊢
 cases hl:c9 η l with
 | none=>cases g<;>simp[hl]at hv
 | some ws=>rw[Ly h _ _ hl];rw[hl]at hv;exact hv
theorem xm (h:η.le o7): ∀(l:List (Bool×List At)) (vs:List Value),comps η l=some vs→comps o7 l=some vs:=by
 intro l
 induction l with
 | nil=>intro vs hv;exact hv
 | cons p l ih=>
  obtain⟨g,m⟩:=p;intro vs hv;simp only[comps]at hv⊢
  cases ha:comp η g m with
  | none=>simp[ha]at hv
  | some v=>cases hl:comps η l with
   | none=>simp[ha,hl]at hv
   | some ws=>rw[Dg h ha,ih ws hl];simpa[ha,hl]using hv
theorem V.E9 (h:η.le o7){a:V}{v:Value}(ha:a.j2 η=some v):a.j2 o7=some v:=by
 cases a with
 | c g l=>exact Dg h ha
 | tup l=>
  simp only[V.j2]at ha⊢
  cases hl:comps η l with
  | none=>simp[hl]at ha
  | some ws=>rw[xm h _ _ hl];rw[hl]at ha;exact ha
def Env.Vx:Env:=⟨fun _=> .none,fun _=>0,fun _=> .none,fun _=> .none⟩
theorem Env.Pp (η:Env):Env.Vx.le η:=⟨fun _ _ h=>by simp[Env.Vx]at h,fun _ _ h=>by simp[Env.Vx]at h,fun _ _ h=>by simp[Env.Vx]at h⟩
def cW:Value→Option At
 | .bool b=>some (.bool b)
 | .int k n=>some (.int k n)
 | .string s=>some (.str s.data.toList)
 | .pointer none=>some .nilp
 | .slice none n c=>bif Nat.beq n 0&&Nat.beq c 0 then some .nils else none
 | .map none=>some .nilm
 | .nilFunc=>some .nilf
 | .nilIface=>some .nili
 | .func (.func f) a c=>match a.toList,c.toList with | [],[]=>some (.fn f [] []) | _,_=>none
 | _=>none
def Wp:List Value→Option (List At)
 | []=>some []
 | v::l=>match cW v,Wp l with
  | some a,some ys=>some (a::ys)
  | _,_=>none
def iN:Value→Option (Bool×List At)
 | .agg cs=>match Wp cs.toList with | some l=>some (true,l) | none=>none
 | v=>match cW v with | some a=>some (false,[a]) | none=>none
def kL:List Value→Option (List (Bool×List At))
 | []=>some []
 | v::l=>match iN v,kL l with
  | some a,some ys=>some (a::ys)
  | _,_=>none
def Zk:Value→Option V
 | .tuple vs=>match kL vs.toList with | some l=>some (.tup l) | none=>none
 | v=>match iN v with | some (g,l)=>some (.c g l) | none=>none
theorem fZ (η:Env){v:Value}(h:cW v=some a):a.j2 η=some v:=by
 cases v<;>simp only[cW]at h<;>try(cases h;done)
 case bool b=>cases h;rfl
 case int k n=>cases h;rfl
 case string s=>cases h;rfl
 case nilFunc=>cases h;rfl
 case nilIface=>cases h;rfl
 case pointer p=>cases p with
  | none=>cases h;rfl
  | some _=>simp at h
 case slice p n c=>cases p with
  | some _=>simp at h
  | none=>
   simp only[Bool.cond_eq_ite]at h;split at h
   ·rename_i hb;simp at hb;cases h;simp[At.j2,hb]
   ·cases h
 case map p=>cases p with
  | none=>cases h;rfl
  | some _=>simp at h
 case func fn a c=>
  cases fn<;>simp only at h<;>try(cases h;done)
  case func f=>
   split at h
   ·rename_i h1 h2;cases h;simp only[At.j2,Nf,Fl];have e1:a=#[]:=by simpa using h1
    have e2:c=#[]:=by simpa using h2
    rw[e1,e2]
   ·cases h
theorem wQ (η:Env): ∀(l:List Value) (as:List At),Wp l=some as→c9 η as=some l:=by
 intro l
 induction l with
 | nil=>intro as h;cases h;rfl
 | cons v l ih=>
  intro as h;simp only[Wp]at h
  cases ha:cW v with
  | none=>simp[ha]at h
  | some a=>cases hl:Wp l with
   | none=>simp[ha,hl]at h
   | some bs=>simp[ha,hl]at h;subst h;simp[c9,fZ η ha,ih _ hl]
theorem Kl (η:Env){v:Value}(h:iN v=some (g,l)):comp η g l=some v:=by
 by_cases hv: ∃cs,v= .agg cs
 ·obtain⟨cs,rfl⟩:=hv;simp only[iN]at h
  cases ha:Wp cs.toList with
  | none=>simp[ha]at h
  | some as=>simp[ha]at h;obtain⟨rfl,rfl⟩:=h;simp[comp,wQ η _ _ ha]
 ·have:iN v=match cW v with | some a=>some (false,[a]) | none=>none:=by
   cases v<;>first | rfl | exact absurd ⟨_,rfl⟩ hv
  rw[this]at h
  cases ha:cW v with
  | none=>simp[ha]at h
  | some a=>simp[ha]at h;obtain⟨rfl,rfl⟩:=h;simp[comp,c9,fZ η ha]
theorem wy (η:Env): ∀(l:List Value) (as:List (Bool×List At)),kL l=some as→comps η as=some l:=by
 intro l
 induction l with
 | nil=>intro as h;cases h;rfl
 | cons v l ih=>
  intro as h;simp only[kL]at h
  cases ha:iN v with
  | none=>simp[ha]at h
  | some a=>obtain⟨g,m⟩:=a;cases hl:kL l with
   | none=>simp[ha,hl]at h
   | some bs=>simp[ha,hl]at h;subst h;simp[comps,Kl η ha,ih _ hl]
theorem Xo (η:Env){v:Value}{a:V}(h:Zk v=some a):a.j2 η=some v:=by
 by_cases hv: ∃cs,v= .tuple cs
 ·obtain⟨cs,rfl⟩:=hv;simp only[Zk]at h
  cases ha:kL cs.toList with
  | none=>simp[ha]at h
  | some as=>simp[ha]at h;subst h;simp[V.j2,wy η _ _ ha]
 ·have:Zk v=match iN v with | some (g,l)=>some (.c g l) | none=>none:=by
   cases v<;>first | rfl | exact absurd ⟨_,rfl⟩ hv
  rw[this]at h
  cases ha:iN v with
  | none=>simp[ha]at h
  | some p=>obtain⟨g,l⟩:=p;simp[ha]at h;subst h;exact Kl η ha
def Fk (P:Program):Sem α→Option α
 | .pure a=>some a
 | .program k=>Fk P (k P)
 | .mark _ k=>Fk P k
 | _=>none
theorem Jw {s:Sem α}{x:α}(h:Fk P s=some x)(w:World):s.run P w= .ok x w:=by
 induction s with
 | pure a=>simp[Fk]at h;subst h;rfl
 | program k ih=>exact ih P h
 | mark m k ih=>exact ih h
 | _=>simp[Fk]at h
def RA (η:Env)(tm:Tr V)(A:Array Value):Prop:=
 ∀t v,tm.get t=some v→v.j2 η=some (A.getD t Go.undef)
theorem RA.mono {A:Array Value}(h:RA η tm A)(hl:η.le o7):RA o7 tm A:=fun t v hv=>V.E9 hl (h t v hv)
theorem RA.put {A:Array Value}(h:RA η tm A){d:Nat}(hd:d<A.size)(hv:v.j2 η=some cv):
  RA η (tm.put (some v) d) (A.setIfInBounds d cv):=by
 intro t u hu;rw[Tr.F7]at hu;by_cases e:t=d
 ·subst e;rw[x9 rfl]at hu;cases hu;simp[hd,hv]
 ·rw[z9 e]at hu;have:=h t u hu;simp only[qd7]at this⊢;rw[rX (W5 e)];exact this
noncomputable def B9 (P:Program)(tm:Tr V):Operand→Option V
 | .tmp t=>tm.get t
 | .const v=>Zk v
 | .global g=>bif Nat.blt g P.globals.size then some (.one (.ptr g 0))else none
 | .func f=>some (.one (.fn f [] []))
def Env.Bn (η:Env)(P:Program):Prop:= ∀g,g<P.globals.size→η.m5 g=some (g,0)
abbrev uk:=(Bool×List At)×(Bool×List At)×Nat
inductive v5 where
 | cells (E n:Nat) (t:Tr At)
 | lcells (E n s:Nat) (t:Tr At)
 | scells (E n:Nat) (t:Tr At)
 | map (es:List uk) (clock:Nat)
 | loop (st:LoopState) (pe:Option Code) (tm:Tr V) (nt:Nat) (ps:Array Tmp) (assign body:Code) (df:Nat)
 | dfr
 | mit (m:Nat)
 deriving Inhabited
def Cells (η:Env)(β n:Nat)(t:Tr At)(C:Array Value):Prop:=
 ∀i,i<n→ ∃a v,t.get i=some a∧a.j2 η=some v∧C[β+i]? =some v
inductive Ht (η:Env):List uk→List MapEntry→Prop where
 | nil:Ht η [] []
 | cons {k v:Bool×List At} {born:Nat} {ck cv:Value} {es:List uk} {ms:List MapEntry} (hk:comp η k.1 k.2=some ck) (hv:comp η v.1 v.2=some cv)
   (h:Ht η es ms):Ht η ((k,v,born)::es) (⟨ck,cv,born⟩::ms)
def v5.Rel (η:Env)(b:Nat)(B:Nat×Nat)(co:Obj):v5→Prop
 | .cells E n t=> ∃C,co= .cells C E (0,0)∧B.2=0∧C.size=n∧Cells η 0 n t C
 | .lcells E n s t=> ∃C,co= .cells C E (0,0)∧B.2+η.cap b*s=C.size∧n≤η.cap b*s∧(0<s∧η.cap b≤maxLen)∧Cells η B.2 n t C
 | .scells E n t=> ∃C z,co= .cells C E z∧B.2+η.cap b=C.size∧(n≤η.cap b∧η.cap b≤maxLen)∧Cells η B.2 n t C
 | .map es clock=> ∃ms,co= .map ms clock∧Ht η es ms.toList
 | .loop st pe tm nt ps assign body df=> ∃f A D,co= .loop ⟨st,pe,f,A,ps,assign,body,D⟩∧RA η tm A∧A.size=nt∧ ∃β,η.m5 df=some (D,β)
 | .dfr=>co= .deferred (some [])
 | .mit m=>B.2=0∧ ∃M since stepped,η.m5 m=some M∧co= .mapIter (some M.1) since #[] stepped
theorem Cells.mono (hl:η.le o7){t:Tr At}(h:Cells η β n t C):Cells o7 β n t C:=fun i hi=>by
 obtain⟨a,v,h1,h2,h3⟩:=h i hi;exact⟨a,v,h1,At.E9 hl h2,h3⟩
variable{es:List uk}{H:Tr v5}
theorem Ht.mono (hl:η.le o7)(h:Ht η es ms):Ht o7 es ms:=by
 induction h with
 | nil=>exact .nil
 | cons hk hv _ ih=>exact .cons (Dg hl hk) (Dg hl hv) ih
theorem v5.Rel.mono (hl:η.le o7){co:Obj}{o:v5}(hb:η.m5 b=some B)(h:o.Rel η b B co):o.Rel o7 b B co:=by
 cases o with
 | cells E n t=>obtain⟨C,h1,h2,h3,h4⟩:=h;exact⟨C,h1,h2,h3,h4.mono hl⟩
 | lcells E n s t=>obtain⟨C,h1,h2,h3,h4,h5⟩:=h;have:=(hl.m5 b B hb).2;exact⟨C,h1,by rw[this];exact h2,by rw[this];exact h3,⟨h4.1,by rw[this];exact h4.2⟩,h5.mono hl⟩
 | scells E n t=>obtain⟨C,z,h1,h2,h3,h5⟩:=h;have:=(hl.m5 b B hb).2;exact⟨C,z,h1,by rw[this];exact h2,by rw[this];exact h3,h5.mono hl⟩
 | map es clock=>obtain⟨ms,h1,h2⟩:=h;exact⟨ms,h1,h2.mono hl⟩
 | loop st pe tm nt ps assign body df=>obtain⟨f,A,D,h1,h2,h3,β,h4⟩:=h;exact⟨f,A,D,h1,h2.mono hl,h3,β,(hl.m5 df _ h4).1⟩
 | dfr=>exact h
 | mit m=>obtain⟨h0,M,s,t,h1,h2⟩:=h;exact⟨h0,M,s,t,(hl.m5 m _ h1).1,h2⟩
abbrev Hp:=Nat→Option v5
structure RH (η:Env)(h:Hp)(w:World):Prop where
 live: ∀b o,h b=some o→ ∃B co,η.m5 b=some B∧w.heap[B.1]? =some co∧o.Rel η b B co
 inj: ∀b b' B B',h b≠none→h b'≠none→η.m5 b=some B→η.m5 b'=some B'→B.1=B'.1→b=b'
def QH (η:Env)(h:Hp)(k:Nat):Prop:= ∃b B,h b≠none∧η.m5 b=some B∧B.1=k
structure Fr (η:Env)(h:Hp)(w w':World):Prop where
 os:w'.os=w.os
 tape:w'.tape=w.tape
 output:w'.output=w.output
 size:w.heap.size≤w'.heap.size
 xZ: ∀k,k<w.heap.size→ ¬QH η h k→w'.heap[k]? =w.heap[k]?
noncomputable def Mz (h H H':Hp)(nx j5:Nat):Hp:=fun b=>by
 classical exact if H b≠none∨(nx≤b∧b<j5)then H' b else h b
structure Dm (H H':Hp)(nx j5:Nat):Prop where
 le:nx≤j5
 EA: ∀b,H' b≠none→H b≠none∨(nx≤b∧b<j5)
structure Ek (η:Env)(h:Hp)(w:World)(H:Hp)(nx j5:Nat):Prop where
 ext: ∀b o,H b=some o→h b=some o
 rh:RH η h w
 fresh: ∀b,nx≤b→b<j5→η.m5 b=none∧η.jH b=none∧η.em b=none
structure Y6 (η:Env)(h:Hp)(w:World)(H H':Hp)(nx j5:Nat)(o7:Env)(w':World):Prop where
 le:η.le o7
 names: ∀b,¬(nx≤b∧b<j5)→o7.m5 b=η.m5 b∧o7.jH b=η.jH b∧o7.em b=η.em b
 rh:RH o7 (Mz h H H' nx j5) w'
 ZX: ∀k,QH o7 (Mz h H H' nx j5) k→QH η h k∨w.heap.size≤k
 fr:Fr η h w w'
theorem Dm.refl (H:Hp)(nx:Nat):Dm H H nx nx:=⟨a9 _,fun _ h=> .inl h⟩
variable{H1 H2 h H' hp:Hp}
theorem Dm.trans {H:Hp}(h:Dm H H1 nx L6)(k:Dm H1 H2 L6 Iu):Dm H H2 nx Iu:=
 ⟨j9 h.le k.le,fun b hb=>by
  rcases k.EA b hb with h1 | h1
  ·rcases h.EA b h1 with h2 | h2
   ·exact .inl h2
   ·exact .inr ⟨h2.1,by have:=k.le;omega⟩
  ·exact .inr ⟨by have:=h.le;omega,h1.2⟩⟩
theorem Y2 {H:Hp}(hb:H b≠none∨(nx≤b∧b<j5)):Mz h H H' nx j5 b=H' b:=by unfold Mz;exact x9 hb
theorem M7 {H:Hp}(hb: ¬(H b≠none∨(nx≤b∧b<j5))):Mz h H H' nx j5 b=h b:=by unfold Mz;exact z9 hb
theorem dR {H:Hp}(ext: ∀b o,H b=some o→h b=some o):Mz h H H nx nx=h:=by
 funext b
 by_cases hb:H b≠none∨(nx≤b∧b<nx)
 ·rw[Y2 hb];rcases hb with hb | hb
  ·cases ho:H b with
   | none=>exact absurd ho hb
   | some o=>exact(ext b o ho).symm
  ·omega
 ·rw[M7 hb]
theorem SO {H:Hp}(d:Dm H H' nx j5): ∀b o,H' b=some o→Mz h H H' nx j5 b=some o:=fun b o ho=>by
 rw[Y2 (d.EA b (by rw[ho];simp)),ho]
theorem sv {H:Hp}(d:Dm H H1 nx L6)(d':Dm H1 H2 L6 Iu):
  Mz (Mz h H H1 nx L6) H1 H2 L6 Iu=Mz h H H2 nx Iu:=by
 funext b
 have hle:=d.le;have RJ:=d'.le;by_cases h1:H1 b≠none∨(L6≤b∧b<Iu)
 ·rw[Y2 h1,Y2];rcases h1 with h1 | h1
  ·rcases d.EA b h1 with h2 | h2
   ·exact .inl h2
   ·exact .inr (by omega)
  ·exact .inr (by omega)
 ·rw[M7 h1];by_cases h2:H b≠none∨(nx≤b∧b<L6)
  ·rw[Y2 h2,Y2 (by rcases h2 with h2 | h2;exact .inl h2;exact .inr (by omega))];have e1:H1 b=none:=Bh fun hc=>h1 (.inl hc);have e2:H2 b=none:=Bh fun hc=>h1 (d'.EA b hc);rw[e1,e2]
  ·rw[M7 h2,M7];intro hc;rcases hc with hc | hc
   ·exact h2 (.inl hc)
   ·by_cases hb:b<L6
    ·exact h2 (.inr ⟨hc.1,hb⟩)
    ·exact h1 (.inr (by omega))
theorem Ek.next {H:Hp}(p:Ek η h w H nx Iu)(d:Dm H H1 nx L6)(s:Y6 η h w H H1 nx L6 O4 w1):
  Ek O4 (Mz h H H1 nx L6) w1 H1 L6 Iu:=
 ⟨SO d,s.rh,fun b h1 h2=>by
  have:=s.names b (by omega);have hf:=p.fresh b (by have:=d.le;omega) h2
  rw[this.1,this.2.1,this.2.2];exact hf⟩
theorem Ek.less {H:Hp}(p:Ek η h w H nx Iu)(hle:L6≤Iu):Ek η h w H nx L6:=
 ⟨p.ext,p.rh,fun b h1 h2=>p.fresh b h1 (by omega)⟩
theorem Fr.refl (η:Env)(h:Hp)(w:World):Fr η h w w:=⟨rfl,rfl,rfl,a9 _,fun _ _ _=>rfl⟩
theorem Y6.refl {H:Hp}(ext: ∀b o,H b=some o→h b=some o)(rh:RH η h w):Y6 η h w H H nx nx η w:=
 ⟨.refl η,fun _ _=>⟨rfl,rfl,rfl⟩,by rw[dR ext];exact rh,fun k hk=>by rw[dR ext]at hk;exact .inl hk,.refl _ _ _⟩
theorem Fr.trans {h1:Hp}(f:Fr η h w w1)(g:Fr O4 h1 w1 w2)(ZX: ∀k,QH O4 h1 k→QH η h k∨w.heap.size≤k):Fr η h w w2:=
 ⟨g.os.trans f.os,g.tape.trans f.tape,g.output.trans f.output,j9 f.size g.size,fun k hk hn=>
  (g.xZ k (W6 hk f.size) (fun hi=>by rcases ZX k hi with h2 | h2;exact hn h2;omega)).trans (f.xZ k hk hn)⟩
theorem Y6.trans {H:Hp}{NY:Env}(d:Dm H H1 nx L6)(d':Dm H1 H2 L6 Iu)
  (s:Y6 η h w H H1 nx L6 O4 w1) (t:Y6 O4 (Mz h H H1 nx L6) w1 H1 H2 L6 Iu NY w2):Y6 η h w H H2 nx Iu NY w2:=by
 have e:=sv (h:=h) d d';refine⟨s.le.trans t.le,fun b hb=> ?_,?_,fun k hk=> ?_,s.fr.trans t.fr s.ZX⟩
 ·have h1:=s.names b (by have:=d'.le;omega);have h2:=t.names b (by have:=d.le;omega);exact⟨h2.1.trans h1.1,h2.2.1.trans h1.2.1,h2.2.2.trans h1.2.2⟩
 ·rw[←e];exact t.rh
 ·rw[←e]at hk;rcases t.ZX k hk with h1 | h1
  ·exact s.ZX k h1
  ·exact .inr (j9 s.fr.size h1)
def Quiet (w w':World):Prop:=w'.heap=w.heap∧w'.os=w.os∧w'.output=w.output∧w'.tape=w.tape
theorem RH.quiet (r:RH η h w)(q:Quiet w w'):RH η h w':=⟨fun b o hb=>by rw[q.1];exact r.live b o hb,r.inj⟩
theorem RH.fresh (r:RH η h w)(hb:η.m5 b=none):h b=none:=by
 cases ho:h b with
 | none=>rfl
 | some o=>obtain⟨B,co,h1,_⟩:=r.live b o ho;rw[hb]at h1;cases h1
theorem BV (w:World)(o:Obj):(w.alloc o).heap[w.heap.size]? =some o:=by show(w.heap.push o)[w.heap.size]? =some o;simp
theorem alloc_old (w:World)(o:Obj)(k:Nat)(h:k<w.heap.size):(w.alloc o).heap[k]? =w.heap[k]? :=by
 have:k≠w.heap.size:=by omega
 show(w.heap.push o)[k]? =_;simp[Array.getElem?_push,this]
def Env.set (η:Env)(b:Nat)(B:Nat×Nat)(c:Nat):Env:=⟨fun k=>if k=b then some B else η.m5 k,fun k=>if k=b then c else η.cap k,η.jH,η.em⟩
theorem Env.Oa (hb:η.m5 b=none)(B:Nat×Nat)(c:Nat):η.le (η.set b B c):=
 ⟨fun k K hk=>by
  have:k≠b:=fun e=>by rw[e,hb]at hk;cases hk
  simp[Env.set,this,hk],fun _ _ h=>h,fun _ _ h=>h⟩
theorem Env.J9 (η:Env)(b:Nat)(B:Nat×Nat)(c:Nat):(η.set b B c).m5 b=some B:=by simp[Env.set]
theorem Env.Ef (η:Env)(b:Nat)(B:Nat×Nat)(c:Nat):(η.set b B c).cap b=c:=by simp[Env.set]
theorem Env.L7 (h:k≠b)(B:Nat×Nat)(c:Nat):(η.set b B c).m5 k=η.m5 k:=by simp[Env.set,h]
theorem Y6.alloc (p:Ek η h w H.get nx (nx+1))(co:Obj)(o:v5)(c:Nat)
  (hq:Quiet (w.alloc co) w') (hr:o.Rel (η.set nx (w.heap.size,0) c) nx (w.heap.size,0) co):
  Dm H.get (H.put (some o) nx).get nx (nx+1)∧Y6 η h w H.get (H.put (some o) nx).get nx (nx+1) (η.set nx (w.heap.size,0) c) w':=by
 obtain⟨Nb,_,_⟩:=p.fresh nx (a9 _) (by omega);have hle:=Env.Oa Nb (w.heap.size,0) c;have Qn:(w.alloc co).heap[w.heap.size]? =some co:=BV w co;have hold: ∀k,k<w.heap.size→(w.alloc co).heap[k]? =w.heap[k]? :=fun k hk=>alloc_old w co k hk
 have YI:H.get nx=none:=by
  cases ho:H.get nx with
  | none=>rfl
  | some o'=>have:=p.ext nx o' ho;rw[p.rh.fresh Nb]at this;cases this
 have wT:Mz h H.get (H.put (some o) nx).get nx (nx+1)=fun b=>if b=nx then some o else h b:=by
  funext b
  by_cases e:b=nx
  ·subst e;rw[Y2 (.inr (by omega)),Tr.V2];simp
  ·by_cases hb:H.get b≠none
   ·rw[Y2 (.inl hb),Tr.a8 _ _ e];simp only[e,if_false]
    cases ho:H.get b with
    | none=>exact absurd ho hb
    | some o'=>exact(p.ext b o' ho).symm
   ·rw[M7 (by intro hc;rcases hc with hc | hc;exact hb hc;omega)];simp[e]
 have Z: ∀b B o',h b=some o'→η.m5 b=some B→B.1<w.heap.size:=fun b B o' ho hB=>by
  obtain⟨B',mf,h1,h2,_⟩:=p.rh.live b o' ho;rw[hB]at h1;cases h1;exact(Mu.1 h2).1
 refine⟨⟨by omega,fun b hb=> ?_⟩,hle,fun b hb=> ?_,?_,?_,?_⟩
 ·by_cases e:b=nx
  ·exact .inr (by omega)
  ·rw[Tr.a8 _ _ e]at hb;exact .inl hb
 ·exact⟨Env.L7 (by omega) _ _,rfl,rfl⟩
 ·rw[wT];refine RH.quiet ⟨fun b o' hb=> ?_,fun b b' B B' hb Pm hB Sy e=> ?_⟩ hq
  ·by_cases e:b=nx
   ·subst e;simp at hb;subst hb;exact⟨_,co,Env.J9 _ _ _ _,Qn,hr⟩
   ·simp only[e,if_false]at hb;obtain⟨B,mf,h1,h2,h3⟩:=p.rh.live b o' hb;exact⟨B,mf,(hle.m5 b B h1).1,by rw[hold _ (Z b B o' hb h1)];exact h2,h3.mono hle h1⟩
  ·by_cases e1:b=nx
   ·by_cases e2:b'=nx
    ·rw[e1,e2]
    ·subst e1;simp only[e2,if_false]at Pm;rw[Env.J9]at hB;cases hB;rw[Env.L7 e2]at Sy
     cases ho:h b' with
     | none=>exact absurd ho Pm
     | some o'=>have:=Z b' B' o' ho Sy;simp at e;omega
   ·simp only[e1,if_false]at hb;rw[Env.L7 e1]at hB;by_cases e2:b'=nx
    ·subst e2;rw[Env.J9]at Sy;cases Sy
     cases ho:h b with
     | none=>exact absurd ho hb
     | some o'=>have:=Z b B o' ho hB;simp at e;omega
    ·simp only[e2,if_false]at Pm;rw[Env.L7 e2]at Sy;exact p.rh.inj b b' B B' hb Pm hB Sy e
 ·rw[wT];rintro k ⟨b,B,hb,hB,rfl⟩;by_cases e:b=nx
  ·subst e;rw[Env.J9]at hB;cases hB;exact .inr (a9 _)
  ·simp only[e,if_false]at hb;rw[Env.L7 e]at hB;exact .inl ⟨b,B,hb,hB,rfl⟩
 ·refine⟨hq.2.1,hq.2.2.2,hq.2.2.1,by rw[hq.1];simp,fun k hk _=>by rw[hq.1];exact hold k hk⟩
theorem Y6.set (p:Ek η h w H.get nx nx){o o':v5}{mf:Obj}(hb:H.get b=some o)(hB:η.m5 b=some B)
  (hw:w'.heap[B.1]? =some mf) (Np: ∀k,k≠B.1→w'.heap[k]? =w.heap[k]?) (hos:w'.os=w.os) (sJ:w'.tape=w.tape) (yA:w'.output=w.output) (cI:w.heap.size≤w'.heap.size)
  (hr:o'.Rel η b B mf):Dm H.get (H.put (some o') b).get nx nx∧Y6 η h w H.get (H.put (some o') b).get nx nx η w':=by
 have vh:=p.ext b o hb
 have wT:Mz h H.get (H.put (some o') b).get nx nx=fun k=>if k=b then some o' else h k:=by
  funext k
  by_cases e:k=b
  ·subst e;rw[Y2 (.inl (by rw[hb];simp)),Tr.V2];simp
  ·by_cases hk:H.get k≠none
   ·rw[Y2 (.inl hk),Tr.a8 _ _ e];simp only[e,if_false]
    cases ho:H.get k with
    | none=>exact absurd ho hk
    | some o2=>exact(p.ext k o2 ho).symm
   ·rw[M7 (by intro hc;rcases hc with hc | hc;exact hk hc;omega)];simp[e]
 have Wa: ∀k,(if k=b then some o' else h k)≠none→h k≠none:=fun k hk=>by
  by_cases e:k=b
  ·subst e;rw[vh];simp
  ·simpa only[e,if_false]using hk
 refine⟨⟨a9 _,fun k hk=> ?_⟩,.refl η,fun _ _=>⟨rfl,rfl,rfl⟩,?_,?_,?_⟩
 ·by_cases e:k=b
  ·subst e;exact .inl (by rw[hb];simp)
  ·rw[Tr.a8 _ _ e]at hk;exact .inl hk
 ·rw[wT];refine⟨fun k o2 hk=> ?_,fun k k' K K' hk Qi hK rC e=>p.rh.inj k k' K K' (Wa k hk) (Wa k' Qi) hK rC e⟩;by_cases e:k=b
  ·subst e;simp at hk;subst hk;exact⟨B,mf,hB,hw,hr⟩
  ·simp only[e,if_false]at hk;obtain⟨K,co2,h1,h2,h3⟩:=p.rh.live k o2 hk;refine⟨K,co2,h1,?_,h3⟩;rw[Np _ (fun e2=>e (p.rh.inj k b K B (by rw[hk];simp) (by rw[vh];simp) h1 hB e2))];exact h2
 ·rw[wT];rintro k ⟨j,J,hj,hJ,rfl⟩;exact .inl ⟨j,J,Wa j hj,hJ,rfl⟩
 ·exact⟨hos,sJ,yA,cI,fun k _ hn=>Np k (fun e=>hn ⟨b,B,by rw[vh];simp,hB,e.symm⟩)⟩
noncomputable section
def rd (t:Tr At):Nat→Nat→Option (List At)
 | _,0=>some []
 | i,n+1=>match t.get i with
  | some a=>match rd t (i+1) n with | some l=>some (a::l) | none=>none
  | none=>none
def wr (t:Tr At):Nat→List At→Tr At
 | _,[]=>t
 | i,a::l=>wr (t.put (some a) i) (i+1) l
def row (H:Tr v5)(b o n:Nat):Option (List At):=
 match H.get b with
 | some (.cells _ m t)=>bif Nat.ble (o+n) m then rd t o n else none
 | some (.lcells _ m _ t)=>bif Nat.ble (o+n) m then rd t o n else none
 | some (.scells _ m t)=>bif Nat.ble (o+n) m then rd t o n else none
 | _=>none
theorem s7 : ∀(l:List At) (vs:List Value),c9 η l=some vs→vs.length=l.length:=by
 intro l
 induction l with
 | nil=>intro vs h;simp[c9]at h;subst h;rfl
 | cons a l ih=>
  intro vs h;simp only[c9]at h
  cases ha:a.j2 η with
  | none=>simp[ha]at h
  | some v=>cases hl:c9 η l with
   | none=>simp[ha,hl]at h
   | some ws=>simp[ha,hl]at h;subst h;simp[ih ws hl]
theorem tY {t:Tr At}(hC:Cells η β m t C): ∀(n i:Nat) (l:List At),i+n≤m→rd t i n=some l→
  ∃vs,c9 η l=some vs∧l.length=n∧ ∀j v,vs[j]? =some v→C[β+i+j]? =some v:=by
 intro n
 induction n with
 | zero=>intro i l hi h;simp[rd]at h;subst h;exact⟨[],rfl,rfl,fun j v hj=>by simp at hj⟩
 | succ n ih=>
  intro i l hi h;simp only[rd]at h;obtain⟨a,v,h1,h2,h3⟩:=hC i (by omega);rw[h1]at h
  cases hr:rd t (i+1) n with
  | none=>simp[hr]at h
  | some l'=>
   simp[hr]at h;subst h;obtain⟨vs,h4,h5,h6⟩:=ih (i+1) l' (by omega) hr;refine⟨v::vs,by simp[c9,h2,h4],by simp[h5],fun j u hj=> ?_⟩
   cases j with
   | zero=>simp at hj;subst hj;exact h3
   | succ j=>have:=h6 j u (by simpa using hj);rw[←this];congr 1;omega
structure Row (η:Env)(w:World)(b:Nat)(B:Nat×Nat)(C:Array Value)(E:Nat):Prop where
 m5:η.m5 b=some B
 heap:w.heap[B.1]? =some (.cells C E (0,0))
theorem Row.cell (r:Row η w b B C E)(o:Nat):w.cell? (Hl B o)=C[B.2+o]? :=by
 simp[World.cell?,Hl,r.heap]
theorem Row.frozen (r:Row η w b B C E)(o:Nat):w.frozen? (Hl B o)=false:=by
 simp[World.frozen?,Hl,r.heap]
theorem Aj (B:Nat×Nat)(o j:Nat):(Hl B o).add j=Hl B (o+j):=by
 unfold Hl Addr.add;split
 ·subst_vars;rfl
 ·simp[Nat.add_assoc]
structure FW (η:Env)(w:World)(b:Nat)(B:Nat×Nat)(C:Array Value)(E:Nat):Prop where
 m5:η.m5 b=some B
 heap: ∃z,w.heap[B.1]? =some (.cells C E z)
theorem FW.cell (r:FW η w b B C E)(o:Nat):w.cell? (Hl B o)=C[B.2+o]? :=by
 obtain⟨z,hz⟩:=r.heap;simp[World.cell?,Hl,hz]
theorem yV (ext: ∀b o,H.get b=some o→h b=some o)(rh:RH η h w)(hr:row H b o n=some l):
  ∃B vs C E,FW η w b B C E∧c9 η l=some vs∧l.length=n∧ ∀j v,vs[j]? =some v→w.cell? ((Hl B o).add j)=some v:=by
 unfold row at hr
 have key: ∀(B:Nat×Nat) (C:Array Value) (E m:Nat) (t:Tr At),FW η w b B C E→Cells η B.2 m t C→(bif Nat.ble (o+n) m then rd t o n else none)=some l→
   ∃B vs C E,FW η w b B C E∧c9 η l=some vs∧l.length=n∧ ∀j v,vs[j]? =some v→w.cell? ((Hl B o).add j)=some v:=by
  intro B C E m t Z8 hC wV
  cases hb:Nat.ble (o+n) m with
  | false=>simp[hb]at wV
  | true=>
   simp[hb]at wV;obtain⟨vs,h4,h5,h6⟩:=tY hC n o l (G9 hb) wV;refine⟨B,vs,C,E,Z8,h4,h5,fun j v hj=> ?_⟩;rw[Aj,Z8.cell,←h6 j v hj];congr 1;omega
 cases ho:H.get b with
 | none=>simp[ho]at hr
 | some ob=>
  obtain⟨B,co,h1,h2,h3⟩:=rh.live b ob (ext b ob ho)
  cases ob with
  | cells E m t=>
   obtain⟨C,rfl,hβ,hs,hC⟩:=h3;simp only[ho]at hr;exact key B C E m t ⟨h1,_,h2⟩ (by rw[hβ];exact hC) hr
  | lcells E m s t=>
   obtain⟨C,rfl,_,_,_,hC⟩:=h3;simp only[ho]at hr;exact key B C E m t ⟨h1,_,h2⟩ hC hr
  | scells E m t=>
   obtain⟨C,z,rfl,_,_,hC⟩:=h3;simp only[ho]at hr;exact key B C E m t ⟨h1,z,h2⟩ hC hr
  | _=>simp[ho]at hr
def qp9:TypeDesc→Bool
 | .struct _ | .array _ _=>true
 | _=>false
def Xx (P:Program)(t:TypeId):Option (Bool×Nat):=
 match P.underlying t,P.info? t with
 | some d,some i=>some (qp9 d,i.size)
 | _,_=>none
theorem n5 (h:P.underlying t=some d)(w:World):(underlying t).run P w= .ok d w:=run_underlying h w
theorem Er (h:P.info? t=some i)(w:World):(typeInfo t).run P w= .ok i w:=by
 simp[typeInfo,program,Sem.run,h]
theorem X5 (h:P.info? t=some i)(w:World):(sizeOf t).run P w= .ok i.size w:=by
 simp[sizeOf,Er h]
theorem SC (h:P.underlying t=some d)(w:World):(isAgg t).run P w= .ok (qp9 d) w:=by
 simp only[isAgg,Sem.run_bind,n5 h,Result.andThen_ok];cases d<;>rfl
theorem KJ (h:Xx P t=some (g,n))(w:World):(isAgg t).run P w= .ok g w∧(sizeOf t).run P w= .ok n w:=by
 unfold Xx at h
 cases hu:P.underlying t with
 | none=>simp[hu]at h
 | some d=>cases hi:P.info? t with
  | none=>simp[hu,hi]at h
  | some i=>simp[hu,hi]at h;obtain⟨rfl,rfl⟩:=h;exact⟨SC hu w,X5 hi w⟩
theorem S5 (ra:RA η tm A.tmps)(hg:η.Bn P){x:Operand}(h:B9 P tm x=some v):v.j2 η=some (A.eval x):=by
 cases x with
 | tmp t=>exact ra t v h
 | const c=>exact Xo η h
 | global g=>
  simp only[B9]at h
  cases hb:Nat.blt g P.globals.size with
  | false=>simp[hb]at h
  | true=>
   simp[hb]at h;subst h;have Z:g<P.globals.size:=G9 hb;simp[V.j2,comp,c9,At.j2,hg g Z,Act.eval,Hl]
 | func f=>simp only[B9]at h;cases h;simp[V.j2,comp,c9,At.j2,Nf,Fl,Act.eval]
theorem l6 {v:Value}:(V.one a).j2 η=some v↔a.j2 η=some v:=by
 simp only[V.j2,comp,c9];cases ha:a.j2 η<;>simp
theorem o8 (ra:RA η tm A.tmps)(hg:η.Bn P){x:Operand}(h:B9 P tm x=some (.one a)):a.j2 η=some (A.eval x):=
 l6.1 (S5 ra hg h)
def mT (P:Program)(tm:Tr V)(x:Operand):Value:=
 match B9 P tm x with
 | some v=>match v.j2 Env.Vx with | some cv=>cv | none=>Go.undef
 | none=>Go.undef
def Ts (P:Program)(tm:Tr V)(x:Operand):Bool:=
 match B9 P tm x with
 | some v=>match v.j2 Env.Vx with | some _=>true | none=>false
 | none=>false
def jZ (P:Program)(tm:Tr V):List Operand→Bool
 | []=>true
 | x::l=>match Ts P tm x with | true=>jZ P tm l | false=>false
def eG:Op→Bool
 | .select .. =>true
 | _=>false
def P2 (P:Program)(o:Oper)(tm:Tr V):Option V:=
 match eG o.op,jZ P tm o.op.operands.toList with
 | false,true=>match Fk P (execOp (mT P tm) o)with
  | some (.value v)=>Zk v
  | _=>none
 | _,_=>none
theorem AU : ∀(l:List Operand),jZ P tm l=true→ ∀x∈l,Ts P tm x=true:=by
 intro l
 induction l with
 | nil=>intro _ x hx;cases hx
 | cons y l ih=>
  intro h x hx;simp only[jZ]at h
  cases hy:Ts P tm y with
  | false=>simp[hy]at h
  | true=>
   simp only[hy]at h;rcases m6.1 hx with rfl | hx
   ·exact hy
   ·exact ih h x hx
theorem zn (ra:RA η tm A.tmps)(hg:η.Bn P){x:Operand}(h:Ts P tm x=true):A.eval x=mT P tm x:=by
 unfold Ts at h;unfold mT
 cases hv:B9 P tm x with
 | none=>simp[hv]at h
 | some v=>
  simp only[hv]at h⊢
  cases hc:v.j2 Env.Vx with
  | none=>simp[hc]at h
  | some cv=>
   have h1:=S5 ra hg hv;rw[V.E9 (Env.Pp η) hc]at h1;exact(Z3 h1).symm
theorem B3 {o:Oper}(h:P2 P o tm=some v)(ra:RA η tm A.tmps)(hg:η.Bn P)(w:World):
  ∃cv,v.j2 η=some cv∧(execOp A.eval o).run P w= .ok (.value cv) w:=by
 unfold P2 at h;split at h
 ·rename_i iH hfl;split at h
  ·rename_i cv Bt;refine⟨cv,Xo η h,?_⟩
   have he:execOp A.eval o=execOp (mT P tm) o:=execOp_congr o (fun cs b e=>by rw[e]at iH;simp[eG]at iH)
    (fun x hx=>zn ra hg (AU _ hfl x (by simpa using hx)))
   rw[he];exact Jw Bt w
  ·cases h
 ·cases h
def KB (P:Program)(o:Oper)(tm:Tr V)(H:Tr v5)(v:V):Prop:=
 ∀(η:Env) (h:Hp) (w:World) (A:Act),(∀b o,H.get b=some o→h b=some o)→RH η h w→RA η tm A.tmps→η.Bn P→
  ∃cv,v.j2 η=some cv∧(execOp A.eval o).run P w= .ok (.value cv) w
theorem Bv {s:Sem Value}{v:Value}(h:s.run P w= .ok v w'):(do pure (Next.value (←s)):Sem Next).run P w= .ok (.value v) w':=by
 simp[h]
def Gr (P:Program)(H:Tr v5)(t:TypeId)(a:At):Option V:=
 match a with
 | .ptr b o=>match Xx P t with
  | some (true,n)=>match row H b o n with | some l=>some (.c true l) | none=>none
  | some (false,_)=>match row H b o 1 with | some l=>some (.c false l) | none=>none
  | none=>none
 | _=>none
theorem lW (h:Gr P H t a=some v)(ext: ∀b o,H.get b=some o→hp b=some o)(rh:RH η hp w)
  {ca:Value} (ha:a.j2 η=some ca): ∃cv,v.j2 η=some cv∧(Instr.loadAt t ca).run P w= .ok cv w:=by
 unfold Gr at h;cases a<;>simp only at h<;>try(cases h;done)
 rename_i b o
 cases ht:Xx P t with
 | none=>simp[ht]at h
 | some p=>
  obtain⟨g,n⟩:=p;have hty:=KJ ht w
  cases g with
  | true=>
   simp only[ht]at h
   cases hr:row H b o n with
   | none=>simp[hr]at h
   | some l=>
    simp[hr]at h;subst h;obtain⟨B,vs,C,E,Z8,Fc,hlen,C6⟩:=yV ext rh hr;simp only[At.j2,Z8.m5]at ha;cases ha;refine⟨.agg ⟨vs⟩,by simp[V.j2,comp,Fc],?_⟩;have hl:=run_loadCells_list (P:=P) (w:=w) (Hl B o) vs C6;rw[s7 _ _ Fc,hlen]at hl;simp only[Instr.loadAt,Instr.sureAddr,loadVar,Sem.run_bind,Sem.run_pure,Result.andThen_ok,hty.1,hty.2,if_true,hl]
  | false=>
   simp only[ht]at h
   cases hr:row H b o 1 with
   | none=>simp[hr]at h
   | some l=>
    simp[hr]at h;subst h;obtain⟨B,vs,C,E,Z8,Fc,hlen,C6⟩:=yV ext rh hr;simp only[At.j2,Z8.m5]at ha;cases ha;have Yx:=s7 _ _ Fc;rw[hlen]at Yx
    match vs,Yx with
    | [u],_=>
     have hc:=C6 0 u rfl;rw[Aj,Jp]at hc;refine⟨u,by simp[V.j2,comp,Fc],?_⟩;simp only[Instr.loadAt,Instr.sureAddr,loadVar,Sem.run_bind,Sem.run_pure,Result.andThen_ok,hty.1,Uc,if_false];simp[load,Sem.run,hc]
end
noncomputable section
def Ej (P:Program)(s:TypeId)(a:At)(f:Nat):Option V:=
 match a with
 | .ptr b o=>match P.underlying s with
  | some (.struct fs)=>match fs.toList[f]? with
   | some fd=>match P.info? fd.type with
    | some i=>bif Nat.beq i.size 0 then none else some (.one (.ptr b (o+fd.offset)))
    | none=>none
   | none=>none
  | _=>none
 | _=>none
theorem gK (h:Ej P s a f=some v){ca:Value}(ha:a.j2 η=some ca):
  ∃cv,v.j2 η=some cv∧(Instr.fieldAt s ca f).run P w= .ok cv w:=by
 unfold Ej at h;cases a<;>simp only at h<;>try(cases h;done)
 rename_i b o;split at h
 ·rename_i fs hu;split at h
  ·rename_i fd hf;split at h
   ·rename_i i hi
    cases hz:Nat.beq i.size 0 with
    | true=>simp[hz]at h
    | false=>
     simp[hz]at h;subst h;simp only[At.j2]at ha
     cases hb:η.m5 b with
     | none=>simp[hb]at ha
     | some B=>
      simp[hb]at ha;subst ha;have X3: ¬i.size=0:=fun e=>by rw[e]at hz;simp at hz
      have hf':fs[f]? =some fd:=by rw[←iM];exact hf
      refine⟨.pointer (some (Hl B (o+fd.offset))),by simp[V.j2,comp,c9,At.j2,hb],?_⟩;simp only[Instr.fieldAt,Sem.run_bind,n5 hu,Result.andThen_ok,hf',Instr.sureAddr,Sem.run_pure,fieldPlace,X5 hi,z9 X3,Aj]
   ·cases h
  ·cases h
 ·cases h
def E2 (P:Program)(t:TypeId)(x i:At):Option V:=
 match i with
 | .int _ n=>match n with
  | .ofNat k=>match P.underlying t,x with
   | some (.slice e),.sl b o l _=>match P.info? e with
    | some ie=>bif Nat.blt k l then some (.one (.ptr b (o+k*ie.size)))else none
    | none=>none
   | some (.slice e),.slx b o l _=>match P.info? e with
    | some ie=>bif Nat.blt k l then some (.one (.ptr b (o+k*ie.size)))else none
    | none=>none
   | some (.array l e),.ptr b o=>match P.info? e with
    | some ie=>bif Nat.blt k l then some (.one (.ptr b (o+k*ie.size)))else none
    | none=>none
   | _,_=>none
  | _=>none
 | _=>none
theorem Ce {a:Nat}(h:Nat.blt a b=true):a<b:=G9 h
theorem gJ {i:At}(h:E2 P t x i=some v){ci:Value}(hx:x.j2 η=some cx)(hi:i.j2 η=some ci):
  ∃cv,v.j2 η=some cv∧(Instr.indexAt t cx ci).run P w= .ok cv w:=by
 unfold E2 at h;cases i<;>simp only at h<;>try(cases h;done)
 rename_i kd n;simp only[At.j2]at hi;cases hi
 cases n with
 | negSucc m=>simp at h
 | ofNat k=>
  simp only at h
  have fin: ∀(B:Nat×Nat) (b o l e:Nat) (ie:TypeInfo),η.m5 b=some B→P.info? e=some ie→(bif Nat.blt k l then some (V.one (.ptr b (o+k*ie.size)))else none)=some v→
    (v.j2 η=some (.pointer (some ((Hl B o).add (k*ie.size))))∧k<l):=by
   intro B b o l e ie hb he wV
   cases Z:Nat.blt k l with
   | false=>simp[Z]at wV
   | true=>simp[Z]at wV;subst wV;exact⟨by rw[Aj];simp[V.j2,comp,c9,At.j2,hb],Ce Z⟩
  split at h
  ·rename_i e b o l c hu;split at h
   ·rename_i ie he;simp only[At.j2]at hx
    cases hb:η.m5 b with
    | none=>simp[hb]at hx
    | some B=>
     simp[hb]at hx;subst hx;obtain⟨hv,Z⟩:=fin B b o l e ie hb he h;refine⟨_,hv,?_⟩;have h1:(0:Int)≤Int.ofNat k∧Int.ofNat k< (l:Int):=⟨Int.natCast_nonneg k,by exact Int.ofNat_lt.2 Z⟩;simp[Instr.indexAt,asIntOf,n5 hu,X5 he,Z]
   ·cases h
  ·rename_i e b o l c hu;split at h
   ·rename_i ie he;simp only[At.j2]at hx
    cases hb:η.m5 b with
    | none=>simp[hb]at hx
    | some B=>
     simp[hb]at hx;subst hx;obtain⟨hv,Z⟩:=fin B b o l e ie hb he h;refine⟨_,hv,?_⟩;simp[Instr.indexAt,asIntOf,n5 hu,X5 he,Z]
   ·cases h
  ·rename_i l e b o hu;split at h
   ·rename_i ie he;simp only[At.j2]at hx
    cases hb:η.m5 b with
    | none=>simp[hb]at hx
    | some B=>
     simp[hb]at hx;subst hx;obtain⟨hv,Z⟩:=fin B b o l e ie hb he h;refine⟨_,hv,?_⟩;simp[Instr.indexAt,asIntOf,n5 hu,X5 he,Z,Instr.sureAddr]
   ·cases h
  ·cases h
def oQ (P:Program)(t:TypeId)(v:V)(f:Nat):Option V:=none
theorem xf : ∀(l:List At) (vs:List Value) (k:Nat),c9 η l=some vs→c9 η (l.drop k)=some (vs.drop k):=by
 intro l
 induction l with
 | nil=>intro vs k h;simp[c9]at h;subst h;simp[c9]
 | cons a l ih=>
  intro vs k h;simp only[c9]at h
  cases ha:a.j2 η with
  | none=>simp[ha]at h
  | some v=>cases hl:c9 η l with
   | none=>simp[ha,hl]at h
   | some ws=>
    simp[ha,hl]at h;subst h
    cases k with
    | zero=>simp[c9,ha,hl]
    | succ k=>simpa using ih ws k hl
theorem xh : ∀(l:List At) (vs:List Value) (k:Nat),c9 η l=some vs→c9 η (l.take k)=some (vs.take k):=by
 intro l
 induction l with
 | nil=>intro vs k h;simp[c9]at h;subst h;simp[c9]
 | cons a l ih=>
  intro vs k h;simp only[c9]at h
  cases ha:a.j2 η with
  | none=>simp[ha]at h
  | some v=>cases hl:c9 η l with
   | none=>simp[ha,hl]at h
   | some ws=>
    simp[ha,hl]at h;subst h
    cases k with
    | zero=>simp[c9]
    | succ k=>simp[c9,ha,ih ws k hl]
theorem Mg : ∀(l m:List At) (vs us:List Value),c9 η l=some vs→c9 η m=some us→c9 η (l++m)=some (vs++us):=by
 intro l
 induction l with
 | nil=>intro m vs us h h';simp[c9]at h;subst h;simpa using h'
 | cons a l ih=>
  intro m vs us h h';simp only[c9]at h
  cases ha:a.j2 η with
  | none=>simp[ha]at h
  | some v=>cases hl:c9 η l with
   | none=>simp[ha,hl]at h
   | some ws=>simp[ha,hl]at h;subst h;simp[c9,ha,ih m ws us hl h']
theorem mC : ∀(l:List At) (vs:List Value),c9 η l=some vs→ ∀(j:Nat) (a:At),l[j]? =some a→ ∃v,vs[j]? =some v∧a.j2 η=some v:=by
 intro l
 induction l with
 | nil=>intro vs h j a hj;simp at hj
 | cons b l ih=>
  intro vs h j a hj;simp only[c9]at h
  cases hb:b.j2 η with
  | none=>simp[hb]at h
  | some v=>cases hl:c9 η l with
   | none=>simp[hb,hl]at h
   | some ws=>
    simp[hb,hl]at h;subst h
    cases j with
    | zero=>simp at hj;subst hj;exact⟨v,rfl,hb⟩
    | succ j=>simpa using ih ws hl j a (by simpa using hj)
theorem NV (h:(V.c true l).j2 η=some cv): ∃vs,c9 η l=some vs∧cv= .agg ⟨vs⟩:=by
 simp only[V.j2,comp]at h
 cases hl:c9 η l with
 | none=>simp[hl]at h
 | some vs=>simp[hl]at h;exact⟨vs,rfl,h.symm⟩
theorem xw {x:V}(h:oQ P t x f=some v)(hx:x.j2 η=some cx):
  ∃cv,v.j2 η=some cv∧(Instr.field t cx f).run P w= .ok cv w:=by unfold oQ at h;cases h
def Kk (v:V)(i:Nat):Option V:=
 match v with
 | .tup l=>match l[i]? with | some (g,m)=>some (.c g m) | none=>none
 | _=>none
theorem BJ : ∀(l:List (Bool×List At)) (vs:List Value),comps η l=some vs→ ∀(j:Nat) (a:Bool×List At),l[j]? =some a→ ∃v,vs[j]? =some v∧comp η a.1 a.2=some v:=by
 intro l
 induction l with
 | nil=>intro vs h j a hj;simp at hj
 | cons b l ih=>
  obtain⟨g,m⟩:=b;intro vs h j a hj;simp only[comps]at h
  cases hb:comp η g m with
  | none=>simp[hb]at h
  | some v=>cases hl:comps η l with
   | none=>simp[hb,hl]at h
   | some ws=>
    simp[hb,hl]at h;subst h
    cases j with
    | zero=>simp at hj;subst hj;exact⟨v,rfl,hb⟩
    | succ j=>simpa using ih ws hl j a (by simpa using hj)
theorem qF {x:V}{i:Nat}(h:Kk x i=some v)(hx:x.j2 η=some cx):
  ∃cv,v.j2 η=some cv∧(Instr.extract cx i).run P w= .ok cv w:=by
 unfold Kk at h;split at h
 ·rename_i l;simp only[V.j2]at hx
  cases hl:comps η l with
  | none=>simp[hl]at hx
  | some vs=>
   simp[hl]at hx;subst hx;split at h
   ·rename_i g m hj;cases h;obtain⟨u,h1,h2⟩:=BJ l vs hl i (g,m) hj;exact⟨u,h2,by simp[Instr.extract,h1]⟩
   ·cases h
 ·cases h
def Wm:List V→Option (List (Nat×Nat))
 | []=>some []
 | .c false [.ptr b o]::l=>match Wm l with | some r=>some ((b,o)::r) | none=>none
 | _=>none
def bU (P:Program)(tm:Tr V):List Operand→Option (List V)
 | []=>some []
 | x::l=>match B9 P tm x with
  | some v=>match bU P tm l with | some r=>some (v::r) | none=>none
  | none=>none
def VL (η:Env):List V→List Value→Prop
 | [],[]=>True
 | v::l,c::m=>v.j2 η=some c∧VL η l m
 | _,_=>False
theorem aO (ra:RA η tm A.tmps)(hg:η.Bn P): ∀(l:List Operand) (vs:List V),bU P tm l=some vs→VL η vs (l.map A.eval):=by
 intro l
 induction l with
 | nil=>intro vs h;simp[bU]at h;subst h;trivial
 | cons x l ih=>
  intro vs h;simp only[bU]at h
  cases hx:B9 P tm x with
  | none=>simp[hx]at h
  | some v=>cases hl:bU P tm l with
   | none=>simp[hx,hl]at h
   | some r=>simp[hx,hl]at h;subst h;exact⟨S5 ra hg hx,ih r hl⟩
theorem BL : ∀(vs:List V) (l:List (Nat×Nat)) (cs:List Value),Wm vs=some l→VL η vs cs→Nf η l=some cs:=by
 intro vs
 induction vs with
 | nil=>
  intro l cs h hv
  cases cs with
  | nil=>simp[Wm]at h;subst h;rfl
  | cons _ _=>exact hv.elim
 | cons v vs ih=>
  intro l cs h hv
  cases cs with
  | nil=>exact hv.elim
  | cons c cs=>
   obtain⟨h1,h2⟩:=hv;unfold Wm at h;split at h
   ·rename_i e;cases e
   ·rename_i b o l' e;cases e
    cases hr:Wm vs with
    | none=>simp[hr]at h
    | some r=>
     simp[hr]at h;subst h;have h3:=l6.1 h1;simp only[At.j2]at h3
     cases hb:η.m5 b with
     | none=>simp[hb]at h3
     | some B=>simp[hb]at h3;simp[Nf,hb,ih r cs hr h2,h3]
   ·cases h
def jY:List V→Option (List XU)
 | []=>some []
 | v::l=>match jY l with
  | some r=>match v with
   | .c false [.ptr b o]=>some (.ptr b o::r)
   | _=>match v.j2 Env.Vx with
    | some c=>some (.val c::r)
    | none=>none
  | none=>none
theorem MU : ∀(vs:List V) (l:List XU) (cs:List Value),jY vs=some l→VL η vs cs→Fl η l=some cs:=by
 intro vs
 induction vs with
 | nil=>
  intro l cs h hv
  cases cs with
  | nil=>simp[jY]at h;subst h;rfl
  | cons _ _=>exact hv.elim
 | cons v vs ih=>
  intro l cs h hv
  cases cs with
  | nil=>exact hv.elim
  | cons c cs=>
   obtain⟨h1,h2⟩:=hv;simp only[jY]at h
   cases hr:jY vs with
   | none=>simp[hr]at h
   | some r=>
    simp only[hr]at h;have h3:=ih r cs hr h2;split at h
    ·rename_i b o;cases h;have h4:=l6.1 h1;simp only[At.j2]at h4
     cases hb:η.m5 b with
     | none=>simp[hb]at h4
     | some B=>simp[hb]at h4;simp[Fl,hb,h3,h4]
    ·split at h
     ·rename_i c' hc;cases h;have:=V.E9 (Env.Pp η) hc;rw[h1]at this;cases this;simp[Fl,h3]
     ·cases h
def Sn (P:Program)(tm:Tr V)(fn:Fn)(first captured:Array Operand):Option V:=
 match fn with
 | .func f=>match bU P tm first.toList,bU P tm captured.toList with
  | some us,some vs=>match jY us,Wm vs with | some l0,some l=>some (.one (.fn f l0 l)) | _,_=>none
  | _,_=>none
 | _=>none
theorem jB (ra:RA η tm A.tmps)(hg:η.Bn P){fn:Fn}{first captured:Array Operand}(h:Sn P tm fn first captured=some v)(w:World):
  ∃cv,v.j2 η=some cv∧(Instr.makeFunc fn (first.map A.eval) (captured.map A.eval)).run P w= .ok cv w:=by
 unfold Sn at h;split at h
 ·rename_i f;split at h
  ·rename_i us vs e_ Fc;split at h
   ·rename_i l0 l Hk hl;cases h;have h1:=BL vs l _ hl (aO ra hg _ _ Fc);have h2:=MU us l0 _ Hk (aO ra hg _ _ e_);refine⟨.func (.func f) ⟨first.toList.map A.eval⟩ ⟨captured.toList.map A.eval⟩,by rw[l6];simp only[At.j2,h1,h2],?_⟩;have e2:captured.map A.eval=⟨captured.toList.map A.eval⟩:=by apply Ky;simp
    have e1:first.map A.eval=⟨first.toList.map A.eval⟩:=by apply Ky;simp
    rw[e1,e2];simp[Instr.makeFunc]
   ·cases h
  ·cases h
 ·cases h
def isRow:Option v5→Bool
 | some (.cells _ _ _) | some (.lcells _ _ _ _)=>true
 | _=>false
def iI (P:Program)(H:Tr v5)(t:TypeId)(a b:At):Option Bool:=
 match P.underlying t,a,b with
 | some (.pointer e),.ptr x o,.ptr y o'=>match P.info? e with
  | some i=>match Nat.beq i.size 0,isRow (H.get x),isRow (H.get y)with
   | false,true,true=>bif Nat.beq x y then some (Nat.beq o o')else some false
   | _,_,_=>none
  | none=>none
 | some (.pointer _),.ptr _ _,.nilp=>some false
 | some (.pointer _),.nilp,.ptr _ _=>some false
 | some (.slice _),.sl _ _ _ _,.nils=>some false
 | some (.slice _),.slx _ _ _ _,.nils=>some false
 | some (.slice _),.emp _,.nils=>some false
 | some (.slice _),.nils,.sl _ _ _ _=>some false
 | some (.slice _),.nils,.slx _ _ _ _=>some false
 | some (.slice _),.nils,.emp _=>some false
 | some (.map _ _),.map _,.nilm=>some false
 | some (.map _ _),.nilm,.map _=>some false
 | some (.func _ _ _),.fn _ _ _,.nilf=>some false
 | some (.func _ _ _),.nilf,.fn _ _ _=>some false
 | _,_,_=>none
theorem uN (ext: ∀b o,H.get b=some o→h b=some o)(rh:RH η h w)(hr:isRow (H.get b)=true):
  h b≠none∧ ∃B C E,Row η w b B C E:=by
 cases ho:H.get b with
 | none=>simp[ho,isRow]at hr
 | some ob=>
  have hb:=ext b ob ho;obtain⟨B,co,h1,h2,h3⟩:=rh.live b ob hb;refine⟨by rw[hb];simp,?_⟩
  cases ob with
  | cells E m t=>obtain⟨C,rfl,_⟩:=h3;exact⟨B,C,E,h1,h2⟩
  | lcells E m s t=>obtain⟨C,rfl,_⟩:=h3;exact⟨B,C,E,h1,h2⟩
  | _=>simp[ho,isRow]at hr
theorem Cf {v:Value}(h:(At.sl b o n c).j2 η=some v): ∃B,η.m5 b=some B∧v= .slice (some (Hl B o)) n c:=by
 simp only[At.j2]at h
 cases hb:η.m5 b with
 | none=>simp[hb]at h
 | some B=>simp[hb]at h;exact⟨B,rfl,h.symm⟩
theorem E1 {v:Value}(h:(At.slx b o n e).j2 η=some v): ∃B,η.m5 b=some B∧v= .slice (some (Hl B o)) n (η.cap b - e):=by
 simp only[At.j2]at h
 cases hb:η.m5 b with
 | none=>simp[hb]at h
 | some B=>simp[hb]at h;exact⟨B,rfl,h.symm⟩
theorem Ci {v:Value}(h:(At.ptr b o).j2 η=some v): ∃B,η.m5 b=some B∧v= .pointer (some (Hl B o)):=by
 simp only[At.j2]at h
 cases hb:η.m5 b with
 | none=>simp[hb]at h
 | some B=>simp[hb]at h;exact⟨B,rfl,h.symm⟩
theorem Hb {i:Nat}{v:Value}(h:(At.emp i).j2 η=some v): ∃a c,η.em i=some (a,c)∧v= .slice (some a) 0 c:=by
 simp only[At.j2]at h
 cases hb:η.em i with
 | none=>simp[hb]at h
 | some B=>obtain⟨a,c⟩:=B;simp[hb]at h;exact⟨a,c,rfl,h.symm⟩
theorem Ha {v:Value}(h:(At.map b).j2 η=some v): ∃B,η.m5 b=some B∧v= .map (some B.1):=by
 simp only[At.j2]at h
 cases hb:η.m5 b with
 | none=>simp[hb]at h
 | some B=>simp[hb]at h;exact⟨B,rfl,h.symm⟩
theorem Un {f:FuncId}{l0:List XU}{l:List (Nat×Nat)}{v:Value}(h:(At.fn f l0 l).j2 η=some v): ∃uv:List Value×List Value,(Fl η l0=some uv.1∧Nf η l=some uv.2)∧v= .func (.func f) ⟨uv.1⟩ ⟨uv.2⟩:=by
 simp only[At.j2]at h
 cases hb:Nf η l with
 | none=>simp[hb]at h
 | some B=>cases Pm:Fl η l0 with
  | none=>simp[hb,Pm]at h
  | some U=>simp[hb,Pm]at h;exact⟨(U,B),⟨rfl,rfl⟩,h.symm⟩
theorem pH (rh:RH η h w)(P:Program){x o':Nat}{B':Nat×Nat}{C':Array Value}{E':Nat}(hx:h x≠none)(hy:h y≠none)
  (rx:Row η w x B C E) (ry:Row η w y B' C' E'):(sameAddr (Hl B o) (Hl B' o')).run P w= .ok (if x=y then Nat.beq o o' else false) w:=by
 by_cases e:x=y
 ·subst e;have:B=B':=Z3 (rx.m5.symm.trans ry.m5);subst this;simp only[sameAddr,Hl,beq_self_eq_true,if_true,Sem.run_pure]
  congr 1
  rw[Jr];simp
 ·have X3:B.1≠B'.1:=fun hc=>e (rh.inj x y B B' hx hy rx.m5 ry.m5 hc);have f1:=rx.frozen o;have f2:=ry.frozen o';have s1:w.shape? B.1=some (E,C.size):=by simp[World.shape?,rx.heap]
  have s2:w.shape? B'.1=some (E',C'.size):=by simp[World.shape?,ry.heap]
  have f3:w.frozen? { block:=B.1,off:=C.size }=false:=by simp[World.frozen?,rx.heap]
  have f4:w.frozen? { block:=B'.1,off:=C'.size }=false:=by simp[World.frozen?,ry.heap]
  simp only[Hl]at f1 f2;simp[sameAddr,Hl,X3,frozen,Sem.run,f1,f2,noView,viewAt,shape,s1,s2,mayBeOne,stringish,f3,f4,e]
theorem UG {b:At}{r:Bool}(h:iI P H t a b=some r)(ext: ∀b o,H.get b=some o→hp b=some o)(rh:RH η hp w)
    {ca cb:Value} (ha:a.j2 η=some ca) (hb:b.j2 η=some cb):(Op.equal t ca cb).run P w= .ok r w∧(∀x y op,(eqGuard op t x y ca cb).run P w= .ok () w)∧(binOp .eql t ca cb=do pure (.bool (←Op.equal t ca cb)))∧(binOp .neq t ca cb=do pure (.bool (!(←Op.equal t ca cb)))):=by
  have hd:(∀d,(Op.equalIn (d+1) t ca cb).run P w= .ok r w)→(Op.equal t ca cb).run P w= .ok r w:=fun hk=>hk 9999;unfold iI at h;split at h
  · rename_i e x o y o' hu
    obtain⟨B,hB,rfl⟩:=Ci ha;obtain⟨B',Sy,rfl⟩:=Ci hb;refine⟨?_,fun _ _ op=>by cases op<;>rfl,rfl,rfl⟩;split at h
    · rename_i i hi
      split at h
      · rename_i hz hrx hry
        obtain⟨hx,Bx,C,E,rx⟩:=uN ext rh hrx;obtain⟨hy,By,C',E',ry⟩:=uN ext rh hry;obtain rfl:B=Bx:=Z3 (hB.symm.trans rx.m5);obtain rfl:B'=By:=Z3 (Sy.symm.trans ry.m5);have X3: ¬i.size=0:=fun e=>by rw[e]at hz;simp at hz
        have hs:=pH rh P (o:=o) (o':=o') hx hy rx ry
        have hr:r=(if x=y then Nat.beq o o' else false):=by
          by_cases e:x=y
          · subst e;simp at h;simp[←h]
          · have:Nat.beq x y=false:=by cases hb:Nat.beq x y with | false=>rfl | true=>exact absurd (Y0 hb) e
            simp[this]at h;simp[e,h]
        refine hd fun d=> ?_;rw[hr,←hs];simp only[Op.equalIn,Sem.run_bind,n5 hu,Result.andThen_ok,X5 hi,ne_eq,X3,not_false_eq_true,if_true]
      · cases h
    · cases h
  all_goals first
    | (cases h;done)
    | (rename_i hu
       first
       | (obtain⟨B,hB,rfl⟩:=Ci ha;cases hb)
       | (obtain⟨B,hB,rfl⟩:=Ci hb;cases ha)
       | (obtain⟨B,hB,rfl⟩:=Cf ha;cases hb)
       | (obtain⟨B,hB,rfl⟩:=Cf hb;cases ha)
       | (obtain⟨B,hB,rfl⟩:=E1 ha;cases hb)
       | (obtain⟨B,hB,rfl⟩:=E1 hb;cases ha)
       | (obtain⟨B,c,hB,rfl⟩:=Hb ha;cases hb)
       | (obtain⟨B,c,hB,rfl⟩:=Hb hb;cases ha)
       | (obtain⟨B,hB,rfl⟩:=Ha ha;cases hb)
       | (obtain⟨B,hB,rfl⟩:=Ha hb;cases ha)
       | (obtain⟨B,hB,rfl⟩:=Un ha;cases hb)
       | (obtain⟨B,hB,rfl⟩:=Un hb;cases ha)
       cases h
       exact⟨hd fun d=>by simp[Op.equalIn,n5 hu],fun _ _ op=>by cases op<;>rfl,rfl,rfl⟩)
end
noncomputable section
def Mj:At→Option Nat
 | .int _ (.ofNat k)=>some k
 | _=>none
def bnds (len cap:Nat)(lo hi mx:Option At):Option (Nat×Nat×Nat):=
 match(match mx with | some a=>Mj a | none=>some cap)with
 | none=>none
 | some m=>match Nat.ble m cap with
  | false=>none
  | true=>match(match hi with | some a=>Mj a | none=>match mx with | some _=>none | none=>some len)with
   | none=>none
   | some h=>match(match hi with | some _=>Nat.ble h m | none=>true),(match lo with | some a=>Mj a | none=>some 0)with
    | true,some l=>match(match lo with | some _=>Nat.ble l h | none=>true)with | true=>some (l,h,m) | false=>none
    | _,_=>none
def Zg (η:Env):Option At→Option Value→Prop
 | none,none=>True
 | some a,some v=>a.j2 η=some v
 | _,_=>False
theorem P5 {v:Value}(h:Mj a=some k)(hv:a.j2 η=some v): ∃kd,v= .int kd (k:Int):=by
 unfold Mj at h;split at h
 ·cases h;simp only[At.j2]at hv;cases hv;exact⟨_,rfl⟩
 ·cases h
theorem E6 {kd:IntKind}{code:BoundsCode}(h:k≤y):(Instr.sliceBound (.int kd (k:Int)) y code).run P w= .ok k w:=by
 have:(0:Int)≤(k:Int)∧(k:Int)≤(y:Int):=⟨Int.natCast_nonneg k,by exact Int.ofNat_le.2 h⟩;simp[Instr.sliceBound,asIntOf,h]
theorem Uo {s:Bool}{len cap:Nat}{xK CU ED:Option Value}(h1:Zg η lo xK)(h2:Zg η hi CU)(h3:Zg η mx ED){l h:Nat}
  (hb:bnds len cap lo hi mx=some (l,h,m)):(Instr.sliceBounds s len cap xK CU ED).run P w= .ok (l,h,m) w:=by
 unfold bnds at hb;split at hb
 ·cases hb
 ·rename_i m0 hm;split at hb
  ·cases hb
  ·rename_i hmc;have hmc:=G9 hmc;split at hb
   ·cases hb
   ·rename_i h0 hh;split at hb
    ·rename_i l0 hhm hl;split at hb
     ·rename_i hlh;cases hb
      cases mx with
      | none=>
       cases ED with
       | some _=>exact h3.elim
       | none=>
        simp at hm;subst hm
        cases hi with
        | none=>
         cases CU with
         | some _=>exact h2.elim
         | none=>
          simp at hh;subst hh
          cases lo with
          | none=>cases xK with
           | some _=>exact h1.elim
           | none=>simp at hl;subst hl;simp[Instr.sliceBounds]
          | some a=>cases xK with
           | none=>exact h1.elim
           | some v=>
            obtain⟨kd,rfl⟩:=P5 hl h1;simp[Instr.sliceBounds,E6 (G9 hlh)]
        | some a2=>cases CU with
         | none=>exact h2.elim
         | some v2=>
          obtain⟨kd2,rfl⟩:=P5 hh h2;simp at hhm
          cases lo with
          | none=>cases xK with
           | some _=>exact h1.elim
           | none=>simp at hl;subst hl;simp[Instr.sliceBounds,E6 hhm]
          | some a=>cases xK with
           | none=>exact h1.elim
           | some v=>
            obtain⟨kd,rfl⟩:=P5 hl h1;simp[Instr.sliceBounds,E6 hhm,E6 (G9 hlh)]
      | some a3=>
       cases ED with
       | none=>exact h3.elim
       | some v3=>
        obtain⟨kd3,rfl⟩:=P5 hm h3
        cases hi with
        | none=>simp at hh
        | some a2=>cases CU with
         | none=>exact h2.elim
         | some v2=>
          obtain⟨kd2,rfl⟩:=P5 hh h2;simp at hhm
          cases lo with
          | none=>cases xK with
           | some _=>exact h1.elim
           | none=>simp at hl;subst hl;simp[Instr.sliceBounds,E6 hhm,E6 hmc]
          | some a=>cases xK with
           | none=>exact h1.elim
           | some v=>
            obtain⟨kd,rfl⟩:=P5 hl h1;simp[Instr.sliceBounds,E6 hhm,E6 hmc,E6 (G9 hlh)]
     ·cases hb
    ·cases hb
def known (H:Tr v5)(b o e s:Nat):Option Nat:=
 match H.get b with
 | some (.lcells _ m s' _)=>match Nat.beq s s',Nat.beq o (e*s)with
  | true,true=>some (m / s - e)
  | _,_=>none
 | some (.scells _ m _)=>match Nat.beq s 1,Nat.beq o e with
  | true,true=>some (m - e)
  | _,_=>none
 | _=>none
theorem eE (ext: ∀b o,H.get b=some o→h b=some o)(rh:RH η h w){s:Nat}(hk:known H b o e s=some k):k≤η.cap b - e∧0<s:=by
 unfold known at hk;split at hk
 ·rename_i E m s' t ho;split at hk
  ·rename_i h1 h2;cases hk;obtain⟨B,co,hB,hw,C,rfl,hc,hn,⟨hs,_⟩,_⟩:=rh.live b _ (ext b _ ho);have CG:s=s':=Y0 h1;subst CG
   have:m / s≤η.cap b:=by
    have h3:m / s≤(η.cap b*s) / s:=Nat.div_le_div_right hn
    rwa [Nat.mul_div_cancel _ hs]at h3
   exact⟨by omega,hs⟩
  ·cases hk
 ·rename_i E m t ho;split at hk
  ·rename_i h1 h2;cases hk;obtain⟨B,co,hB,hw,C,z,rfl,hc,⟨hn,_⟩,_⟩:=rh.live b _ (ext b _ ho);have CG:s=1:=Y0 h1;exact⟨by omega,by omega⟩
  ·cases hk
 ·cases hk
def oN (P:Program)(H:Tr v5)(t:TypeId)(x:At)(lo hi mx:Option At):Option V:=
 match P.underlying t with
 | some (.slice e)=>match P.info? e,x with
  | some i,.sl b o n c=>match bnds n c lo hi mx with
   | some (l,h,m)=>some (.one (.sl b (bif Nat.beq m l then o else o+l*i.size) (h - l) (m - l)))
   | none=>none
  | some i,.slx b o n e'=>match known H b o e' i.size with
   | some k=>match mx with
    | some _=>match bnds n k lo hi mx with
     | some (l,h,m)=>some (.one (.sl b (bif Nat.beq m l then o else o+l*i.size) (h - l) (m - l)))
     | none=>none
    | none=>match bnds n k lo hi none with
     | some (l,h,_)=>match Nat.beq l 0 || Nat.blt l k with
      | true=>some (.one (.slx b (o+l*i.size) (h - l) (e'+l)))
      | false=>none
     | none=>none
   | none=>none
  | _,_=>none
 | some (.array n e)=>match P.info? e,x with
  | some i,.ptr b o=>match bnds n n lo hi mx with
   | some (l,h,m)=>some (.one (.sl b (bif Nat.beq m l then o else o+l*i.size) (h - l) (m - l)))
   | none=>none
  | _,_=>none
 | _=>none
theorem oU (m l:Nat)(x y:α):(bif Nat.beq m l then x else y)=if m=l then x else y:=by
 by_cases e:m=l
 ·subst e;simp
 ·have:Nat.beq m l=false:=by cases hb:Nat.beq m l with | false=>rfl | true=>exact absurd (Y0 hb) e
  simp[this,e]
theorem mF {len k':Nat}{l h:Nat}(hb:bnds len k lo hi none=some (l,h,m))(hle:k≤k'):bnds len k' lo hi none=some (l,h,k')∧m=k:=by
 unfold bnds at hb⊢;simp only[Nat.ble_self_eq_true]at hb⊢
 cases hi with
 | none=>
  cases lo with
  | none=>simp at hb⊢;obtain⟨rfl,rfl,rfl⟩:=hb;simp
  | some a=>
   cases hn:Mj a with
   | none=>simp[hn]at hb
   | some l0=>
    cases hl:Nat.ble l0 len with
    | false=>simp[hn,hl]at hb
    | true=>simp[hn,hl]at hb⊢;obtain⟨rfl,rfl,rfl⟩:=hb;simp
 | some a2=>
  cases Pk:Mj a2 with
  | none=>simp[Pk]at hb
  | some h0=>
   cases hh:Nat.ble h0 k with
   | false=>simp[Pk,hh]at hb
   | true=>
    have hh':Nat.ble h0 k'=true:=Nat.ble_eq_true_of_le (j9 (G9 hh) hle)
    cases lo with
    | none=>simp[Pk,hh,hh']at hb⊢;obtain⟨rfl,rfl,rfl⟩:=hb;simp
    | some a=>
     cases hn:Mj a with
     | none=>simp[hn,Pk,hh]at hb
     | some l0=>
      cases hl:Nat.ble l0 h0 with
      | false=>simp[hn,Pk,hh,hl]at hb
      | true=>simp[hn,Pk,hh,hh',hl]at hb⊢;obtain⟨rfl,rfl,rfl⟩:=hb;simp
theorem Dh (hB:η.m5 b=some B):(V.one (.sl b o n c)).j2 η=some (.slice (some (Hl B o)) n c):=by
 rw[l6];simp[At.j2,hB]
theorem zo (hv:oN P H t x lo hi mx=some v)(ext: ∀b o,H.get b=some o→hp b=some o)(rh:RH η hp w)
  {cx:Value} {xK CU ED:Option Value} (hx:x.j2 η=some cx) (h1:Zg η lo xK) (h2:Zg η hi CU) (h3:Zg η mx ED):
  ∃cv,v.j2 η=some cv∧(Instr.sliceAt t cx xK CU ED).run P w= .ok cv w:=by
 unfold oN at hv;split at hv
 ·rename_i e hu;split at hv
  ·rename_i i b o n c Xt;obtain⟨B,hB,rfl⟩:=Cf hx;split at hv
   ·rename_i l h m hb;cases hv;refine⟨_,Dh hB,?_⟩;simp only[Instr.sliceAt,Sem.run_bind,n5 hu,Result.andThen_ok,Instr.slice,Uo h1 h2 h3 hb,X5 Xt,Sem.run_pure,oU,dJ,Aj];by_cases e:m=l<;>simp[e]
   ·cases hv
  ·rename_i i b o n e' Xt;obtain⟨B,hB,rfl⟩:=E1 hx;split at hv
   ·rename_i k hk;obtain⟨hle,hs⟩:=eE ext rh hk;split at hv
    ·rename_i a3;split at hv
     ·rename_i l h m hb;cases hv
      have Pm:bnds n (η.cap b - e') lo hi (some a3)=some (l,h,m):=by
       unfold bnds at hb⊢
       cases hm:Mj a3 with
       | none=>simp[hm]at hb
       | some m0=>
        cases DS:Nat.ble m0 k with
        | false=>simp[hm,DS]at hb
        | true=>
         have zd3:Nat.ble m0 (η.cap b - e')=true:=Nat.ble_eq_true_of_le (j9 (G9 DS) hle);simp only[hm,DS]at hb;simp only[hm,zd3];exact hb
      refine⟨_,Dh hB,?_⟩;simp only[Instr.sliceAt,Sem.run_bind,n5 hu,Result.andThen_ok,Instr.slice,Uo h1 h2 h3 Pm,X5 Xt,Sem.run_pure,oU,dJ,Aj];by_cases e:m=l<;>simp[e]
     ·cases hv
    ·split at hv
     ·rename_i l h m hb;split at hv
      ·rename_i hc;cases hv;obtain⟨Pm,hm⟩:=mF hb hle
       have hcv:(V.one (.slx b (o+l*i.size) (h - l) (e'+l))).j2 η=some (.slice (some (Hl B (o+l*i.size))) (h - l) (η.cap b - e' - l)):=by
        rw[l6];simp[At.j2,hB,Nat.sub_sub]
       refine⟨_,hcv,?_⟩;simp only[Instr.sliceAt,Sem.run_bind,n5 hu,Result.andThen_ok,Instr.slice,Uo h1 h2 h3 Pm,X5 Xt,Sem.run_pure,dJ,Aj];by_cases e:η.cap b - e'=l
       ·have Hk:l=0:=by
         rw[S9]at hc;rcases hc with hc | hc
         ·exact Y0 hc
         ·have:=Ce hc;omega
        rw[x9 e,Hk];simp
       ·rw[z9 e]
      ·cases hv
     ·cases hv
   ·cases hv
  ·cases hv
 ·rename_i n e hu;split at hv
  ·rename_i i b o Xt;obtain⟨B,hB,rfl⟩:=Ci hx;split at hv
   ·rename_i l h m hb;cases hv;refine⟨_,Dh hB,?_⟩;simp only[Instr.sliceAt,Sem.run_bind,n5 hu,Result.andThen_ok,Instr.sureAddr,Uo h1 h2 h3 hb,X5 Xt,Sem.run_pure,oU,Aj];by_cases e:m=l<;>simp[e]
   ·cases hv
  ·cases hv
 ·cases hv
def IV (P:Program)(H:Tr v5)(t:TypeId)(x:At):Option V:=
 match P.underlying t,x with
 | some (.slice _),.sl _ _ n _=>some (.one (.int .i64 (Int.ofNat n)))
 | some (.slice _),.slx _ _ n _=>some (.one (.int .i64 (Int.ofNat n)))
 | some (.slice _),.emp _=>some (.one (.int .i64 (Int.ofNat 0)))
 | some (.map _ _),.map b=>match H.get b with
  | some (.map es _)=>some (.one (.int .i64 (Int.ofNat es.length)))
  | _=>none
 | _,_=>none
theorem Ht.length (h:Ht η es ms):ms.length=es.length:=by
 induction h with
 | nil=>rfl
 | cons _ _ _ ih=>simp[ih]
theorem NB (hv:IV P H t x=some v)(ext: ∀b o,H.get b=some o→hp b=some o)(rh:RH η hp w)
  {cx:Value} (hx:x.j2 η=some cx) (ts:Array TypeId) (ty:TypeId) (jK:ts[0]? =some t): ∃cv,v.j2 η=some cv∧(Builtin.len_ ts ty #[cx]).run P w= .ok cv w:=by
 unfold IV at hv;split at hv
 ·rename_i e b o n c hu;obtain⟨B,hB,rfl⟩:=Cf hx;cases hv;exact⟨_,l6.2 rfl,by simp[Builtin.len_,jK,n5 hu,goInt]⟩
 ·rename_i e b o n c hu;obtain⟨B,hB,rfl⟩:=E1 hx;cases hv;exact⟨_,l6.2 rfl,by simp[Builtin.len_,jK,n5 hu,goInt]⟩
 ·rename_i e i hu;obtain⟨B,c,hB,rfl⟩:=Hb hx;cases hv;exact⟨_,l6.2 rfl,by simp[Builtin.len_,jK,n5 hu,goInt]⟩
 ·rename_i kt et b hu;obtain⟨B,hB,rfl⟩:=Ha hx;split at hv
  ·rename_i es clock ho;cases hv;obtain⟨B',co,Sy,hw,ms,rfl,bE⟩:=rh.live b _ (ext b _ ho);obtain rfl:B=B':=Z3 (hB.symm.trans Sy);refine⟨_,l6.2 rfl,?_⟩;have hl:=bE.length;simp[Builtin.len_,jK,n5 hu,goInt,getObj,Sem.run,hw];have:ms.size=es.length:=by simpa using hl
   rw[this]
  ·cases hv
 ·cases hv
def IX (P:Program)(t:TypeId)(x:At):Option V:=none
theorem NF (hv:IX P t x=some v)
  {cx:Value} (hx:x.j2 η=some cx) (ts:Array TypeId) (ty:TypeId) (jK:ts[0]? =some t): ∃cv,v.j2 η=some cv∧(Builtin.cap_ ts ty #[cx]).run P w= .ok cv w:=by unfold IX at hv;cases hv
def qm1 (l:List At)(off:Nat)(xs:List At):List At:=l.take off++xs++l.drop (off+xs.length)
def Yc (place:Nat→Option (Nat×Nat))(cells:List At):List (Nat×V)→Option (List At)
 | []=>some cells
 | (i,.c _ xs)::rest=>match place i with
  | some (off,size)=>match Nat.beq xs.length size,Nat.ble (off+xs.length) cells.length with
   | true,true=>Yc place (qm1 cells off xs) rest
   | _,_=>none
  | none=>none
 | _=>none
def PL (η:Env):List (Nat×V)→List (Nat×Value)→Prop
 | [],[]=>True
 | (i,v)::l,(j,c)::m=>i=j∧v.j2 η=some c∧PL η l m
 | _,_=>False
theorem foldl_set (off:Nat): ∀(xs:List Value) (k:Nat) (cs:Array Value),off+k+xs.length≤cs.size→
  ((xs.zipIdx k).foldl (fun cs (p:Value×Nat)=>cs.setIfInBounds (off+p.2) p.1) cs).toList=cs.toList.take (off+k)++xs++cs.toList.drop (off+k+xs.length):=by
 intro xs
 induction xs with
 | nil=>intro k cs h;simp
 | cons x xs ih=>
  intro k cs h;simp only[Cz]at h;simp only[List.zipIdx_cons,tD];rw[ih (k+1) (cs.setIfInBounds (off+k) x) (by simp;omega)];apply List.ext_getElem?;intro j;simp only[Array.toList_setIfInBounds,Yj,Ec,Y8,Tw,tC,Nt,Array.length_toList,Cz];by_cases h1:j<off+k
  ·have e1:min (off+(k+1)) cs.size=off+k+1:=by omega
   have e2:min (off+k) cs.size=off+k:=by omega
   simp only[e1,e2];rw[x9 (by omega),x9 (by omega),x9 (by omega),x9 (by omega),x9 (by omega),x9 h1,List.getElem?_set_ne (by omega)]
  ·have e1:min (off+(k+1)) cs.size=off+k+1:=by omega
   have e2:min (off+k) cs.size=off+k:=by omega
   simp only[e1,e2];by_cases h2:j=off+k
   ·subst h2;rw[x9 (by omega),x9 (by omega),x9 (by omega),x9 (by omega),z9 (by omega),List.getElem?_set_self (by simp;omega)];simp
   ·by_cases h3:j<off+k+1+xs.length
    ·rw[x9 (by omega),z9 (by omega),x9 (by omega),z9 (by omega)];have:j - (off+k)=(j - (off+k+1))+1:=by omega
     rw[this,Rc]
    ·rw[z9 (by omega),z9 (by omega),List.getElem?_set_ne (by omega)]
     congr 1;omega
theorem Aw (h:(V.c g l).j2 η=some cv): ∃vs,c9 η l=some vs∧cv.cells=⟨vs⟩:=by
 cases g with
 | true=>obtain⟨vs,h1,rfl⟩:=NV h;exact⟨vs,h1,rfl⟩
 | false=>
  simp only[V.j2,comp]at h
  cases hl:c9 η l with
  | none=>simp[hl]at h
  | some vs=>
   match vs,hl with
   | [u],hl=>
    simp[hl]at h;subst h;refine⟨[u],rfl,?_⟩
    have: ∀cs,u≠ .agg cs:=by
     intro cs e;subst e
     cases l with
     | nil=>simp[c9]at hl
     | cons a l=>
      simp only[c9]at hl
      cases ha:a.j2 η with
      | none=>simp[ha]at hl
      | some v=>cases hl':c9 η l with
       | none=>simp[ha,hl']at hl
       | some ws=>simp[ha,hl']at hl;obtain⟨rfl,_⟩:=hl;have:=At.uY ha;cases this
    cases u<;>first | rfl | exact absurd rfl (this _)
   | [],hl=>simp[hl]at h
   | _::_::_,hl=>simp[hl]at h
end
noncomputable section
theorem eK {place:Nat→Option (Nat×Nat)}: ∀(ps:List (Nat×V)) (gY:List (Nat×Value)) (cells l:List At) (cs:List Value),Yc place cells ps=some l→c9 η cells=some cs→PL η ps gY→
  ∃ls,c9 η l=some ls∧Instr.fill place ⟨cs⟩ gY=some ⟨ls⟩:=by
 intro ps
 induction ps with
 | nil=>
  intro gY cells l cs h hc hp
  cases gY with
  | nil=>simp[Yc]at h;subst h;exact⟨cs,hc,rfl⟩
  | cons _ _=>exact hp.elim
 | cons p ps ih=>
  intro gY cells l cs h hc hp
  cases gY with
  | nil=>exact hp.elim
  | cons cp gY=>
   obtain⟨i,v⟩:=p;obtain⟨j,c⟩:=cp;obtain⟨rfl,hv,hp⟩:=hp
   cases v with
   | tup _=>simp[Yc]at h
   | c g xs=>
    simp only[Yc]at h
    cases hpl:place i with
    | none=>simp[hpl]at h
    | some os=>
     obtain⟨off,size⟩:=os;simp only[hpl]at h;split at h
     ·rename_i h1 h2;obtain⟨xv,hx,C6⟩:=Aw hv;have hl1:=s7 _ _ hx;have hl2:=s7 _ _ hc;have h1:=Y0 h1;have h2:=G9 h2
      have qb7:c9 η (qm1 cells off xs)=some (cs.take off++xv++cs.drop (off+xs.length)):=
       Mg _ _ _ _ (Mg _ _ _ _ (xh _ _ off hc) hx) (xf _ _ _ hc)
      obtain⟨ls,h3,h4⟩:=ih gY _ l _ h qb7 hp;refine⟨ls,h3,?_⟩;simp only[Instr.fill,hpl,C6];have e1:(⟨xv⟩:Array Value).size=size:=by show xv.length=size;omega
      have e2: ¬(off+(⟨xv⟩:Array Value).size>(⟨cs⟩:Array Value).size):=by show¬(off+xv.length>cs.length);omega
      rw[z9 (by simp only[e1,ne_eq,not_true,decide_false,Yl,E0];rw[e1]at e2;exact e2)];rw[←h4]
      congr 1
      have hf:=foldl_set off xv 0 ⟨cs⟩ (by show off+0+xv.length≤cs.length;omega);apply Ky
      have e3:(Array.foldl (fun cs (x:Value×Nat)=>cs.setIfInBounds (off+x.2) x.1) (⟨cs⟩:Array Value) (⟨xv⟩:Array Value).zipIdx)=((xv.zipIdx 0).foldl (fun cs (p:Value×Nat)=>cs.setIfInBounds (off+p.2) p.1) (⟨cs⟩:Array Value)):=by
       rw[←Array.foldl_toList];simp
      have e4:=congrArg Array.toList e3;rw[hf]at e4;simp only[Jp,hl1]at e4;simpa[hl1]using e4
     ·cases h
def ql7 (fields:Array Field):Sem (Array (Nat×Nat)):=fields.mapM fun f=>do pure (f.offset,←sizeOf f.type)
def Nn (P:Program)(t:TypeId):Option (Bool×List At):=
 match P.info? t with
 | some i=>match i.zero with | some z=>iN z | none=>none
 | none=>none
theorem Oj (h:Nn P t=some (g,l))(η:Env)(w:World): ∃z,comp η g l=some z∧(zeroValue t).run P w= .ok z w:=by
 unfold Nn at h;split at h
 ·rename_i i hi;split at h
  ·rename_i z hz;exact⟨z,Kl η h,by simp[zeroValue,Er hi,hz]⟩
  ·cases h
 ·cases h
def Ln (P:Program)(tm:Tr V):List (Nat×Operand)→Option (List (Nat×V))
 | []=>some []
 | (i,x)::l=>match B9 P tm x with
  | some v=>match Ln P tm l with | some r=>some ((i,v)::r) | none=>none
  | none=>none
theorem fT (ra:RA η tm A.tmps)(hg:η.Bn P): ∀(l:List (Nat×Operand)) (vs:List (Nat×V)),Ln P tm l=some vs→PL η vs (l.map fun(i,x)=>(i,A.eval x)):=by
 intro l
 induction l with
 | nil=>intro vs h;simp[Ln]at h;subst h;trivial
 | cons p l ih=>
  obtain⟨i,x⟩:=p;intro vs h;simp only[Ln]at h
  cases hx:B9 P tm x with
  | none=>simp[hx]at h
  | some v=>cases hl:Ln P tm l with
   | none=>simp[hx,hl]at h
   | some r=>simp[hx,hl]at h;subst h;exact⟨rfl,S5 ra hg hx,ih r hl⟩
def oS (P:Program)(t:TypeId)(ps:List (Nat×V)):Option V:=
 match Nn P t,P.underlying t with
 | some (_,z),some (.struct fs)=>match Fk P (ql7 fs)with
  | some pl=>match Yc (pl[·]?) z ps with | some l=>some (.c true l) | none=>none
  | none=>none
 | some (_,z),some (.array _ e)=>match P.info? e with
  | some i=>match Yc (fun k=>some (k*i.size,i.size)) z ps with | some l=>some (.c true l) | none=>none
  | none=>none
 | _,_=>none
theorem xg {ps:List (Nat×V)}(h:oS P t ps=some v){gY:Array (Nat×Value)}(hp:PL η ps gY.toList):
  ∃cv,v.j2 η=some cv∧(Instr.build t gY).run P w= .ok cv w:=by
 unfold oS at h;split at h
 ·rename_i g z fs hz hu;obtain⟨zv,aX,Vp⟩:=Oj hz η w;obtain⟨zs,hz3,hz4⟩:=Aw (g:=g) aX;split at h
  ·rename_i pl hpl;split at h
   ·rename_i l hl;cases h;obtain⟨ls,h1,h2⟩:=eK ps gY.toList z l zs hl hz3 hp;refine⟨.agg ⟨ls⟩,by simp[V.j2,comp,h1],?_⟩;have qn5:=Jw hpl w;simp only[ql7]at qn5;simp only[Instr.build,Sem.run_bind,Vp,Result.andThen_ok,n5 hu,qn5,hz4,h2,Sem.run_pure]
   ·cases h
  ·cases h
 ·rename_i g z n e hz hu;obtain⟨zv,aX,Vp⟩:=Oj hz η w;obtain⟨zs,hz3,hz4⟩:=Aw (g:=g) aX;split at h
  ·rename_i i hi;split at h
   ·rename_i l hl;cases h;obtain⟨ls,h1,h2⟩:=eK ps gY.toList z l zs hl hz3 hp;refine⟨.agg ⟨ls⟩,by simp[V.j2,comp,h1],?_⟩;simp only[Instr.build,Sem.run_bind,Vp,Result.andThen_ok,n5 hu,X5 hi,hz4,h2,Sem.run_pure]
   ·cases h
  ·cases h
 ·cases h
theorem kU (P:Program){β:Type}(s:Sem α)(f:α→Sem β):Fk P (s>>=f)=(Fk P s).bind (fun x=>Fk P (f x)):=by
 show Fk P (s.bind f)=_
 induction s with
 | pure a=>rfl
 | program k ih=>exact ih P
 | mark m k ih=>exact ih
 | _=>rfl
def Wj:List uk→Option (List MapEntry)
 | []=>some []
 | (k,_,born)::l=>match comp Env.Vx k.1 k.2,Wj l with
  | some kv,some r=>some (⟨kv,.nilFunc,born⟩::r)
  | _,_=>none
inductive cX:List MapEntry→List MapEntry→Prop where
 | nil:cX [] []
 | cons {k u v:Value} {n:Nat} {l m:List MapEntry} (h:cX l m):cX (⟨k,u,n⟩::l) (⟨k,v,n⟩::m)
theorem AR : ∀ {es:List uk} {ms mI:List MapEntry},Ht η es ms→Wj es=some mI→cX mI ms:=by
 intro es ms mI h
 induction h generalizing mI with
 | nil=>intro h;simp[Wj]at h;subst h;exact .nil
 | cons hk hv _ ih=>
  rename_i k v born ck cv es' Fj _;intro h;simp only[Wj]at h
  cases WL:comp Env.Vx k.1 k.2 with
  | none=>simp[WL]at h
  | some kv=>cases hl:Wj es' with
   | none=>simp[WL,hl]at h
   | some r=>
    simp[WL,hl]at h;subst h;have:=Dg (Env.Pp η) WL;rw[hk]at this;cases this;exact .cons (ih hl)
def Qu (ms:List MapEntry)(i:Nat):Option (Nat×Value)→Option (Nat×Value)
 | none=>none
 | some (j,v)=>some (j,((ms[j - i]?).map (·.val)).getD v)
theorem qA (kind:TypeDesc)(k:Value): ∀ {mI ms:List MapEntry},cX mI ms→ ∀i r0,Instr.findNow kind k mI i=r0→
  (r0=none→Instr.findNow kind k ms i=none)∧(∀x,r0=some x→Instr.findNow kind k ms i=some (Qu ms i x)∧ ∀j v,x=some (j,v)→i≤j∧j - i<ms.length):=by
 intro mI ms h
 induction h with
 | nil=>intro i r0 h0;subst h0;simp[Instr.findNow,Qu]
 | cons hs ih=>
  rename_i kk u v n l m;intro i r0 h0;subst h0;simp only[Instr.findNow]
  cases hn:Instr.sameNow kind k kk with
  | none=>simp
  | some b=>
   cases b with
   | true=>simp[Qu]
   | false=>
    obtain⟨h1,h2⟩:=ih (i+1) _ rfl;refine⟨h1,fun x hx=> ?_⟩;obtain⟨h3,h4⟩:=h2 x hx;simp only[h3]
    cases x with
    | none=>simp[Qu]
    | some p=>
     obtain⟨j,pv⟩:=p;obtain⟨h5,h6⟩:=h4 j pv rfl;have e:j - i=(j - (i+1))+1:=by omega
     refine⟨by simp only[Qu,e,Rc],fun j' v' he=> ?_⟩;cases he;exact⟨by omega,by simp;omega⟩
theorem Zr (P:Program)(kt:TypeId)(k:Value): ∀ {mI ms:List MapEntry},cX mI ms→ ∀i x,Fk P (Instr.findAsking kt k mI i)=some x→
  Fk P (Instr.findAsking kt k ms i)=some (Qu ms i x)∧ ∀j v,x=some (j,v)→i≤j∧j - i<ms.length:=by
 intro mI ms h
 induction h with
 | nil=>intro i x h0;simp[Instr.findAsking,Fk,pure]at h0;subst h0;exact⟨rfl,fun j v e=>by cases e⟩
 | cons hs ih=>
  rename_i kk u v n l m;intro i x h0;simp only[Instr.findAsking,kU]at h0⊢
  cases hq:Fk P (Op.equal kt k kk)with
  | none=>simp[hq]at h0
  | some b=>
   simp only[hq,Option.bind_some]at h0⊢
   cases b with
   | true=>
    simp[Fk,pure]at h0;subst h0;exact⟨by simp[Fk,pure,Qu],fun j v' e=>by cases e;exact⟨a9 _,by simp⟩⟩
   | false=>
    simp only[Uc,if_false]at h0⊢;obtain⟨h3,h4⟩:=ih (i+1) x h0;rw[h3]
    cases x with
    | none=>exact⟨rfl,fun j v e=>by cases e⟩
    | some p=>
     obtain⟨j,pv⟩:=p;obtain⟨h5,h6⟩:=h4 j pv rfl;have e:j - i=(j - (i+1))+1:=by omega
     refine⟨by simp only[Qu,e,Rc],fun j' v' he=> ?_⟩;cases he;exact⟨by omega,by simp;omega⟩
theorem Vh (P:Program)(kt:TypeId)(k:Value){mI:List MapEntry}(hs:cX mI ms){x:Option (Nat×Value)}(h:Fk P (Instr.findKey kt k mI)=some x):
  Fk P (Instr.findKey kt k ms)=some (Qu ms 0 x)∧ ∀j v,x=some (j,v)→j<ms.length:=by
 unfold Instr.findKey at h⊢;simp only[kU]at h⊢
 cases hu:Fk P (underlying kt)with
 | none=>simp[hu]at h
 | some d=>
  simp only[hu,Option.bind_some]at h⊢;obtain⟨h1,h2⟩:=qA d k hs 0 _ rfl
  cases hf:Instr.findNow d k mI 0 with
  | none=>
   simp only[hf]at h;rw[h1 hf];obtain⟨h3,h4⟩:=Zr P kt k hs 0 x h;exact⟨h3,fun j v e=>by have:=(h4 j v e).2;simpa using this⟩
  | some y=>
   simp only[hf]at h;simp[Fk,pure]at h;subst h;obtain⟨h3,h4⟩:=h2 y hf;rw[h3];exact⟨rfl,fun j v e=>by have:=(h4 j v e).2;simpa using this⟩
theorem Ht.get (h:Ht η es ms): ∀(i:Nat) (k v:Bool×List At) (n:Nat),es[i]? =some (k,v,n)→ ∃ck cv,ms[i]? =some ⟨ck,cv,n⟩∧comp η k.1 k.2=some ck∧comp η v.1 v.2=some cv:=by
 induction h with
 | nil=>intro i k v n hi;simp at hi
 | cons hk hv _ ih=>
  intro i k v n hi
  cases i with
  | zero=>simp at hi;obtain⟨rfl,rfl,rfl⟩:=hi;exact⟨_,_,rfl,hk,hv⟩
  | succ i=>simpa using ih i k v n (by simpa using hi)
def nS (P:Program)(kt:TypeId)(k:V)(es:List uk)(empty:Bool):Option (Option Nat):=
 match k.j2 Env.Vx,Wj es with
 | some kv,some mI=>match Fk P (Instr.checkKey empty 10000 kt kv)with
  | some _=>match Fk P (Instr.findKey kt kv mI)with
   | some (some (i,_))=>some (some i)
   | some none=>some none
   | none=>none
  | none=>none
 | _,_=>none
theorem Qe {kt:TypeId}{k:V}{empty:Bool}{r:Option Nat}(h:nS P kt k es empty=some r)(bE:Ht η es ms){ck:Value}(hk:k.j2 η=some ck):
    (Instr.checkKey empty 10000 kt ck).run P w= .ok () w∧
    (match r with
     | some i=> ∃e,ms[i]? =some e∧(Instr.findKey kt ck ms).run P w= .ok (some (i,e.val)) w
     | none=>(Instr.findKey kt ck ms).run P w= .ok none w):=by
  unfold nS at h;split at h
  · rename_i kv mI WL hfl
    have:=V.E9 (Env.Pp η) WL;rw[hk]at this;cases this;split at h
    · rename_i u hck
      refine⟨Jw (x:=()) hck w,?_⟩;have hs:=AR bE hfl;split at h
      · rename_i i v hf
        cases h;obtain⟨h1,h2⟩:=Vh P kt ck hs hf;have Z:=h2 i v rfl;refine⟨ms[i],by simp[Z],?_⟩;have:=Jw h1 w;simpa[Qu,Z]using this
      · rename_i hf
        cases h;obtain⟨h1,_⟩:=Vh P kt ck hs hf;exact Jw h1 w
      · cases h
    · cases h
  · cases h
def okV (ok:Bool)(v:Bool×List At)(b:Bool):V:=bif ok then .tup [v,(false,[.bool b])]else .c v.1 v.2
theorem uE {b:Bool}{v:Bool×List At}(h:comp η v.1 v.2=some cv):(okV ok v b).j2 η=some (if ok then .tuple #[cv,.bool b]else cv):=by
 cases ok with
 | true=>
  have h2:comp η false [.bool b]=some (.bool b):=rfl;simp[okV,V.j2,comps,h,h2]
 | false=>simp[okV,V.j2,h]
def eM (P:Program)(H:Tr v5)(t:TypeId)(m:At)(k:V)(ok:Bool):Option V:=
 match P.underlying t,m with
 | some (.map kt et),.map b=>match H.get b with
  | some (.map es _)=>match nS P kt k es es.isEmpty with
   | some (some i)=>match es[i]? with | some (_,v,_)=>some (okV ok v true) | none=>none
   | some none=>match Nn P et with | some z=>some (okV ok z false) | none=>none
   | none=>none
  | _=>none
 | _,_=>none
theorem Ht.empty {ms:Array MapEntry}(h:Ht η es ms.toList):ms.isEmpty=es.isEmpty:=by
 have:=h.length;rw[Jr];simp only[Array.isEmpty_iff,List.isEmpty_iff];rw[←cR,←this];simp
theorem wI {m:At}{k:V}(hv:eM P H t m k ok=some v)(ext: ∀b o,H.get b=some o→hp b=some o)(rh:RH η hp w)
  {cm ck:Value} (hm:m.j2 η=some cm) (hk:k.j2 η=some ck): ∃cv,v.j2 η=some cv∧(Instr.lookup t cm ck ok).run P w= .ok cv w:=by
 unfold eM at hv;split at hv
 ·rename_i kt et b hu;obtain⟨B,hB,rfl⟩:=Ha hm;split at hv
  ·rename_i es clock ho;obtain⟨B',co,Sy,hw,ms,rfl,bE⟩:=rh.live b _ (ext b _ ho);obtain rfl:B=B':=Z3 (hB.symm.trans Sy);have hg:(getObj B.1).run P w= .ok (.map ms clock) w:=by simp[getObj,Sem.run,hw]
   split at hv
   ·rename_i i hf;obtain⟨h1,e,h2,h3⟩:=Qe hf (w:=w) bE hk;split at hv
    ·rename_i kk vv n hi;cases hv;obtain⟨ck',cv',h4,h5,h6⟩:=bE.get i kk vv n hi;rw[h2]at h4;cases h4;refine⟨_,uE h6,?_⟩;rw[←bE.empty]at h1;simp[Instr.lookup,n5 hu,hg,h1,h3]
    ·cases hv
   ·rename_i hf;obtain⟨h1,h3⟩:=Qe hf (w:=w) bE hk;split at hv
    ·rename_i z hz;cases hv;obtain⟨zv,aX,Vp⟩:=Oj (g:=z.1) (l:=z.2) hz η w;refine⟨_,uE aX,?_⟩;rw[←bE.empty]at h1;simp[Instr.lookup,n5 hu,hg,h1,h3,Vp]
    ·cases hv
   ·cases hv
  ·cases hv
 ·cases hv
end
noncomputable section
def Qx (P:Program)(tm:Tr V):Option Operand→Option (Option At)
 | none=>some none
 | some x=>match B9 P tm x with | some (.c false [a])=>some (some a) | _=>none
theorem Gz (ra:RA η tm A.tmps)(hg:η.Bn P){x:Option Operand}{a:Option At}(h:Qx P tm x=some a):Zg η a (x.map A.eval):=by
 cases x with
 | none=>simp[Qx]at h;subst h;trivial
 | some x=>
  simp only[Qx]at h;split at h
  ·rename_i b hb;cases h;exact o8 ra hg hb
  ·cases h
def kB (P:Program)(o:Oper)(tm:Tr V)(H:Tr v5)(neg:Bool)(t:TypeId)(x y:Operand):Option V:=
 match B9 P tm x,B9 P tm y with
 | some (.c false [a]),some (.c false [b])=>match iI P H t a b with
  | some r=>some (.one (.bool (Bool.xor neg r)))
  | none=>P2 P o tm
 | _,_=>P2 P o tm
def zF (H:Tr v5)(x:At)(isString:Bool):Option V:=
 match x,isString with
 | .ptr i 0,false=>match H.get i with
  | some (.mit m)=>match H.get m with
   | some (.map [] _)=>some (.tup [(false,[.bool false])])
   | _=>none
  | _=>none
 | _,_=>none
theorem BC {isS:Bool}(hv:zF H x isS=some v)(ext: ∀b o,H.get b=some o→hp b=some o)(rh:RH η hp w)
  {cx:Value} (hx:x.j2 η=some cx) (ty:TypeId): ∃cv,v.j2 η=some cv∧(Instr.next cx isS ty).run P w= .ok cv w:=by
 unfold zF at hv;split at hv
 ·rename_i i;obtain⟨B,hB,rfl⟩:=Ci hx;split at hv
  ·rename_i m hi;split at hv
   ·rename_i clock hm;cases hv;obtain⟨B',co,Sy,hw,h0,M,since,st,hM,rfl⟩:=rh.live i _ (ext i _ hi);obtain rfl:B=B':=Z3 (hB.symm.trans Sy);obtain⟨M',mf,hM',hw',ms,rfl,bE⟩:=rh.live m _ (ext m _ hm);obtain rfl:M=M':=Z3 (hM.symm.trans hM')
    have zd2:ms=#[]:=by
     have:=bE.length;simpa using this
    subst zd2;refine⟨.tuple #[.bool false],rfl,?_⟩;have e:Hl B 0=⟨B.1,0,none⟩:=by simp[Hl,h0]
    rw[e];simp[Instr.next,getObj,Sem.run,hw,hw',choose,Question.forced]
   ·cases hv
  ·cases hv
 ·cases hv
def IY (P:Program)(H:Tr v5)(s t:TypeId)(x:At):Option V:=none
theorem NH (he:IY P H s t x=some v)(ext: ∀b o,H.get b=some o→h b=some o)(rh:RH η h w)(hx:x.j2 η=some cx):
  ∃cv,v.j2 η=some cv∧(convert s t cx).run P w= .ok cv w:=by unfold IY at he;cases he
def Qk (P:Program)(o:Oper)(tm:Tr V)(H:Tr v5):Option V:=
 match o.op with
 | .move x=>B9 P tm x
 | .assign x=>B9 P tm x
 | .pick c a b=>match B9 P tm c with
  | some (.c false [.bool t])=>match t with | true=>B9 P tm a | false=>B9 P tm b
  | _=>none
 | .load t a=>match B9 P tm a with | some (.c false [x])=>Gr P H t x | _=>none
 | .nilCheck x=>match B9 P tm x with
  | some (.c false [.ptr b n])=>some (.one (.ptr b n))
  | some (.c false [.fn f l0 l])=>some (.one (.fn f l0 l))
  | _=>none
 | .binOp .eql t x y _=>kB P o tm H false t x y
 | .binOp .neq t x y _=>kB P o tm H true t x y
 | .makeFunc fn first captured=>Sn P tm fn first captured
 | .slice t x lo hi mx=>match B9 P tm x with
  | some (.c false [a])=>match Qx P tm lo,Qx P tm hi,Qx P tm mx with
   | some l,some h,some m=>match oN P H t a l h m with
    | some v=>some v
    | none=>P2 P o tm
   | _,_,_=>none
  | _=>none
 | .fieldAddr s x f=>match B9 P tm x with | some (.c false [a])=>Ej P s a f | _=>none
 | .field t x f=>match B9 P tm x with | some v=>oQ P t v f | none=>none
 | .indexAddr t x i=>match B9 P tm x,B9 P tm i with
  | some (.c false [a]),some (.c false [b])=>E2 P t a b
  | _,_=>none
 | .lookup t m k ok=>match B9 P tm m,B9 P tm k with
  | some (.c false [a]),some v=>match eM P H t a v ok with
   | some r=>some r
   | none=>P2 P o tm
  | _,_=>none
 | .extract x i=>match B9 P tm x with | some v=>Kk v i | none=>none
 | .next x s=>match B9 P tm x with | some (.c false [a])=>zF H a s | _=>none
 | .build t ps=>match Ln P tm ps.toList with | some l=>oS P t l | none=>none
 | .call c=>match c.callee with
  | .builtin .len=>match c.args.toList,c.argTypes.toList with
   | [x],t::_=>match B9 P tm x with
    | some (.c false [a])=>match IV P H t a with
     | some r=>some r
     | none=>P2 P o tm
    | _=>P2 P o tm
   | _,_=>none
  | .builtin .cap=>match c.args.toList,c.argTypes.toList with
   | [x],t::_=>match B9 P tm x with
    | some (.c false [a])=>match IX P t a with
     | some r=>some r
     | none=>P2 P o tm
    | _=>P2 P o tm
   | _,_=>none
  | .builtin .min=>P2 P o tm
  | .builtin .max=>P2 P o tm
  | _=>none
 | .binOp _ _ _ _ _=>P2 P o tm
 | .unOp _ _ _=>P2 P o tm
 | .convert s t x=>match B9 P tm x with
  | some (.c false [a])=>match IY P H s t a with
   | some r=>some r
   | none=>P2 P o tm
  | _=>P2 P o tm
 | .index _ _ _=>P2 P o tm
 | _=>none
theorem uS {yt:TypeId}{pos:String}{neg:Bool}{x y:Operand}
  (h:kB P ⟨dst,.binOp (if neg then .neq else .eql) t x y yt,type,pos,after,guard⟩ tm H neg t x y=some v):KB P ⟨dst,.binOp (if neg then .neq else .eql) t x y yt,type,pos,after,guard⟩ tm H v:=by
 intro η hp w A ext rh ra hg;unfold kB at h;split at h
 ·rename_i a b ha hb;split at h
  ·rename_i r hr;cases h;obtain⟨h1,h2,h3,h4⟩:=UG hr ext rh (o8 ra hg ha) (o8 ra hg hb);refine⟨.bool (Bool.xor neg r),l6.2 rfl,?_⟩
   cases neg with
   | false=>simp[execOp,h2,h3,h1]
   | true=>simp[execOp,h2,h4,h1]
  ·exact B3 h ra hg w
 ·exact B3 h ra hg w
theorem Bl {b:Builtin}{pos:String}{args:Array Operand}{ts:Array TypeId}(ρ:Operand→Value)(w:World):
  (execOp ρ ⟨dst,.call ⟨.builtin b,args,ts⟩,type,pos,after,guard⟩).run P w=(builtin b ts type (args.map fun | .const _=>true | _=>false) (args.map ρ)).run P w:=by
 simp only[execOp,resolve,Sem.run_bind,Sem.run_pure,Result.andThen_ok,invoke];rfl
theorem qj0 {o:Oper}(h:Qk P o tm H=some v):KB P o tm H v:=by
 obtain⟨dst,op,type,pos,after,guard⟩:=o;intro η hp w A ext rh ra hg;cases op<;>simp only[Qk]at h
 case move x=>exact⟨_,S5 ra hg h,by simp[execOp]⟩
 case assign x=>exact⟨_,S5 ra hg h,by simp[execOp]⟩
 case pick c a b=>
  split at h
  ·rename_i t hc;have h1:=o8 ra hg hc;simp only[At.j2]at h1;have h1:=Z3 h1
   cases t with
   | true=>exact⟨_,S5 ra hg h,by simp[execOp,←h1,asBool]⟩
   | false=>exact⟨_,S5 ra hg h,by simp[execOp,←h1,asBool]⟩
  ·cases h
 case load t a=>
  split at h
  ·rename_i x hx;obtain⟨cv,h1,h2⟩:=lW h ext rh (o8 ra hg hx);exact⟨cv,h1,Bv h2⟩
  ·cases h
 case nilCheck x=>
  split at h
  ·rename_i b n hx;cases h;obtain⟨B,hB,he⟩:=Ci (o8 ra hg hx);exact⟨_,l6.2 (o8 ra hg hx),by simp[execOp,he]⟩
  ·rename_i f l0 l hx;cases h;obtain⟨B,hB,he⟩:=Un (o8 ra hg hx);exact⟨_,l6.2 (o8 ra hg hx),by simp[execOp,he]⟩
  ·cases h
 case binOp op t x y yt=>
  cases op
  case eql=>exact uS (neg:=false) h η hp w A ext rh ra hg
  case neq=>exact uS (neg:=true) h η hp w A ext rh ra hg
  all_goals exact B3 h ra hg w
 case makeFunc fn first captured=>
  obtain⟨cv,h1,h2⟩:=jB ra hg h w;exact⟨cv,h1,Bv h2⟩
 case slice t x lo hi mx=>
  split at h
  ·rename_i a hx;split at h
   ·rename_i l h' m h1 h2 h3;split at h
    ·rename_i v' hv;cases h;obtain⟨cv,h4,h5⟩:=zo hv ext rh (o8 ra hg hx) (Gz ra hg h1) (Gz ra hg h2) (Gz ra hg h3);exact⟨cv,h4,Bv h5⟩
    ·exact B3 h ra hg w
   ·cases h
  ·cases h
 case fieldAddr s x f=>
  split at h
  ·rename_i a hx;obtain⟨cv,h1,h2⟩:=gK h (w:=w) (o8 ra hg hx);exact⟨cv,h1,Bv h2⟩
  ·cases h
 case field t x f=>
  split at h
  ·rename_i a hx;obtain⟨cv,h1,h2⟩:=xw h (w:=w) (S5 ra hg hx);exact⟨cv,h1,Bv h2⟩
  ·cases h
 case indexAddr t x i=>
  split at h
  ·rename_i a b hx hi;obtain⟨cv,h1,h2⟩:=gJ h (w:=w) (o8 ra hg hx) (o8 ra hg hi);exact⟨cv,h1,Bv h2⟩
  ·cases h
 case lookup t m k ok=>
  split at h
  ·rename_i a u hx hk;split at h
   ·rename_i r hr;cases h;obtain⟨cv,h1,h2⟩:=wI hr ext rh (o8 ra hg hx) (S5 ra hg hk);exact⟨cv,h1,Bv h2⟩
   ·exact B3 h ra hg w
  ·cases h
 case extract x i=>
  split at h
  ·rename_i a hx;obtain⟨cv,h1,h2⟩:=qF (P:=P) h (w:=w) (S5 ra hg hx);exact⟨cv,h1,Bv h2⟩
  ·cases h
 case next x isS=>
  split at h
  ·rename_i a hx;obtain⟨cv,h1,h2⟩:=BC (P:=P) h ext rh (o8 ra hg hx) type;exact⟨cv,h1,Bv h2⟩
  ·cases h
 case build t ps=>
  split at h
  ·rename_i l hl;have j_:=fT ra hg _ _ hl;obtain⟨cv,h1,h2⟩:=xg (P:=P) h (w:=w) (gY:=ps.map fun(i,x)=>(i,A.eval x)) (by simpa using j_);exact⟨cv,h1,Bv h2⟩
  ·cases h
 case call c=>
  obtain⟨callee,args,ts⟩:=c;simp only at h;cases callee<;>(try simp only at h)<;>try(cases h;done)
  rename_i b;cases b<;>(try simp only at h)<;>try(cases h;done)
  case cap=>
   split at h
   ·rename_i x t ts' Cu jK;split at h
    ·rename_i a hx;split at h
     ·rename_i r hr;cases h;obtain⟨cv,h1,h2⟩:=NF hr (w:=w) (o8 ra hg hx) ts type (by rw[←iM,jK];rfl);refine⟨cv,h1,?_⟩;rw[Bl];have:args.map A.eval=#[A.eval x]:=by apply Ky;simp[Cu]
      simp[builtin,this,h2]
     ·exact B3 h ra hg w
    ·exact B3 h ra hg w
   ·cases h
  case len=>
   split at h
   ·rename_i x t ts' Cu jK;split at h
    ·rename_i a hx;split at h
     ·rename_i r hr;cases h;obtain⟨cv,h1,h2⟩:=NB hr ext rh (o8 ra hg hx) ts type (by rw[←iM,jK];rfl);refine⟨cv,h1,?_⟩;rw[Bl];have:args.map A.eval=#[A.eval x]:=by apply Ky;simp[Cu]
      simp[builtin,this,h2]
     ·exact B3 h ra hg w
    ·exact B3 h ra hg w
   ·cases h
  all_goals exact B3 h ra hg w
 case convert s t x=>
  split at h
  ·rename_i a hx;split at h
   ·rename_i r hr;cases h;obtain⟨cv,h1,h2⟩:=NH hr ext rh (o8 ra hg hx);exact⟨cv,h1,Bv h2⟩
   ·exact B3 h ra hg w
  ·exact B3 h ra hg w
 all_goals first
  | (cases h;done)
  | exact B3 h ra hg w
end
end Go.Proofs.YtlhlmcohdkkjpaaGreatDoor.Ev
