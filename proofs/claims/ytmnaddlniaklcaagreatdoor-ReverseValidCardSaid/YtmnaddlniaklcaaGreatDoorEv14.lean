/- An abstract interpreter of the model's code, fourteenth part: statements and calls. The text of the interpreter. -/
import Derived.Test.YtmnaddlniaklcaaGreatDoorEv13
namespace Go.Proofs.YtmnaddlniaklcaaGreatDoor.Ev
open Go
noncomputable section

/-! ### Regions that draw their order -/
def blocksA : At → List Nat
  | .ptr b _ => [b]
  | .sl b _ _ _ => [b]
  | .slx b _ _ _ => [b]
  | .map b => [b]
  | _ => []
def blocksL : List At → List Nat
  | [] => []
  | a :: l => blocksA a ++ blocksL l
def blocksO (P : Program) (tm : Tr V) (x : Operand) : List Nat :=
  match evO P tm x with
  | some (.c _ l) => blocksL l
  | _ => []
def blocksOs (P : Program) (tm : Tr V) : List Operand → List Nat
  | [] => []
  | x :: l => blocksO P tm x ++ blocksOs P tm l
/-- The blocks that a small operation may look at. -/
def needs (P : Program) (o : Oper) (tm : Tr V) : List Nat :=
  match o.op with
  | .load _ a => blocksO P tm a
  | .store _ a _ => blocksO P tm a
  | .binOp .eql _ x y _ => blocksO P tm x ++ blocksO P tm y
  | .binOp .neq _ x y _ => blocksO P tm x ++ blocksO P tm y
  | .slice _ x _ _ _ => blocksO P tm x
  | .lookup _ m _ _ => blocksO P tm m
  | .mapUpdate _ m _ _ => blocksO P tm m
  | .insert _ m _ _ => blocksO P tm m
  | .call c => blocksOs P tm c.args.toList
  | _ => []
def restr (H : Tr AObj) : List Nat → Tr AObj
  | [] => .nil
  | b :: l => match H.get b with
    | some o => (restr H l).put (some o) b
    | none => restr H l
/-- H, with G's word at some blocks. -/
def mergeL (H G : Tr AObj) : List Nat → Tr AObj
  | [] => H
  | b :: l => (mergeL H G l).put (G.get b) b
def dropL (H : Tr AObj) : List Nat → Tr AObj
  | [] => H
  | b :: l => (dropL H l).put none b
def rng : Nat → Nat → List Nat
  | _, 0 => []
  | a, n + 1 => a :: rng (a + 1) n

/-- One operation of the region, as it was evaluated: on the part G of the heap H. -/
structure Sp where
  idx : Nat
  tm : Tr V
  v : V
  H : Tr AObj
  nx : Nat
  H' : Tr AObj
  nx' : Nat
  G : Tr AObj
  G' : Tr AObj
  see : List Nat
  mods : List Nat
  big : Bool

def anc1 (acc : List Nat) : List Edge → Nat
  | [] => 0
  | e :: l => match Region.binds .any e && Nat.blt e.on acc.length with
    | true => Nat.lor (Nat.lor (2 ^ e.on) (acc.getD e.on 0)) (anc1 acc l)
    | false => anc1 acc l
def ancs : List Oper → List Nat → List Nat
  | [], acc => acc
  | o :: l, acc => ancs l (acc ++ [anc1 acc o.after.toList])
def bitA (A : List Nat) (i j : Nat) : Bool := (A.getD i 0).testBit j

def freeMods (A : List Nat) (i : Nat) : List Sp → List Nat
  | [] => []
  | r :: l => match bitA A i r.idx with
    | true => freeMods A i l
    | false => r.mods ++ freeMods A i l
def allLt (n : Nat) : List Nat → Bool
  | [] => true
  | b :: l => match Nat.blt b n with | true => allLt n l | false => false

def atB : At → At → Bool
  | .bool a, .bool b => a == b
  | .int j a, .int k b => (j == k) && (a == b)
  | .str a, .str b => a == b
  | .ptr a b, .ptr c d => Nat.beq a c && Nat.beq b d
  | .nilp, .nilp => true
  | .sl a b c d, .sl a' b' c' d' => Nat.beq a a' && Nat.beq b b' && Nat.beq c c' && Nat.beq d d'
  | .slx a b c d, .slx a' b' c' d' => Nat.beq a a' && Nat.beq b b' && Nat.beq c c' && Nat.beq d d'
  | .nils, .nils => true
  | .map a, .map b => Nat.beq a b
  | .nilm, .nilm => true
  | .nilf, .nilf => true
  | .nili, .nili => true
  | .opq a, .opq b => Nat.beq a b
  | .emp a, .emp b => Nat.beq a b
  | .yld a, .yld b => Nat.beq a b
  | .fn f [] a, .fn g [] b => Nat.beq f g && (a == b)
  | _, _ => false
def optB : Option At → Option At → Bool
  | none, none => true
  | some a, some b => atB a b
  | _, _ => false
def trB : Tr At → Tr At → Bool
  | .nil, .nil => true
  | .node v c0 c1 c2 c3 c4 c5 c6 c7, .node v' d0 d1 d2 d3 d4 d5 d6 d7 => match optB v v' with
    | true => trB c0 d0 && trB c1 d1 && trB c2 d2 && trB c3 d3 && trB c4 d4 && trB c5 d5 && trB c6 d6 && trB c7 d7
    | false => false
  | _, _ => false
/-- The same block. -/
def objB : Option AObj → Option AObj → Bool
  | none, none => true
  | some (.cells E n t), some (.cells E' n' t') => Nat.beq E E' && Nat.beq n n' && trB t t'
  | some (.lcells E n s t), some (.lcells E' n' s' t') => Nat.beq E E' && Nat.beq n n' && Nat.beq s s' && trB t t'
  | _, _ => false

/-- The blocks that have changed. -/
def changed (G G' : Tr AObj) : List Nat → List Nat
  | [] => []
  | b :: l => match objB (G.get b) (G'.get b) with
    | true => changed G G' l
    | false => b :: changed G G' l

def restrT (tm : Tr V) : List Tmp → Tr V
  | [] => .nil
  | t :: l => match tm.get t with
    | some v => (restrT tm l).put (some v) t
    | none => restrT tm l

def evD1 (F : Fns) (P : Program) (A : List Nat) (i : Nat) (rs : List Sp) (o : Oper) (tm : Tr V) (H : Tr AObj) (nx : Nat) : Option (V × Sp) :=
  match isCall o.op with
  | true => match allLt nx (freeMods A i rs) with
    | true => match evB F P o tm (dropL H (freeMods A i rs)) nx with
      | some (v, H1, nx') => some (v, ⟨i, tm, v, H, nx, mergeL H1 H (freeMods A i rs), nx', dropL H (freeMods A i rs), H1, [], [], true⟩)
      | none => none
    | false => none
  | false => match evR P o tm (restr H (needs P o tm)) with
    | some v => some (v, ⟨i, tm, v, H, nx, H, nx, restr H (needs P o tm), restr H (needs P o tm), needs P o tm, [], false⟩)
    | none => match evW P o tm (restr H (needs P o tm)) nx with
      | some (v, G', nx') => some (v, ⟨i, tm, v, H, nx, mergeL H G' (changed (restr H (needs P o tm)) G' (needs P o tm) ++ rng nx (nx' - nx)), nx', restr H (needs P o tm), G', needs P o tm, changed (restr H (needs P o tm)) G' (needs P o tm) ++ rng nx (nx' - nx), false⟩)
      | none => none

def evD (F : Fns) (P : Program) (ops : Array Oper) (nt : Nat) (A : List Nat) : Nat → List Oper → List Sp → Tr V → Tr AObj → Nat → Option (Tr V × Tr AObj × Nat × List Sp)
  | _, [], _, tm, H, nx => some (tm, H, nx, [])
  | i, o :: l, rs, tm, H, nx => match evGuard ops o (restrT tm (o.looksAt ops)) with
    | some true => match evD1 F P A i rs o (restrT tm (o.looksAt ops)) H nx with
      | some (v, s) => match putA nt tm o.dst v with
        | some tm' => match evD F P ops nt A (i + 1) l (s :: rs) tm' s.H' s.nx' with
          | some (tm2, H2, nx2, ss) => some (tm2, H2, nx2, s :: ss)
          | none => none
        | none => none
      | none => none
    | some false => match putA nt tm o.dst V.undef with
      | some tm' => match evD F P ops nt A (i + 1) l (⟨i, restrT tm (o.looksAt ops), V.undef, H, nx, H, nx, .nil, .nil, [], [], false⟩ :: rs) tm' H nx with
        | some (tm2, H2, nx2, ss) => some (tm2, H2, nx2, ⟨i, restrT tm (o.looksAt ops), V.undef, H, nx, H, nx, .nil, .nil, [], [], false⟩ :: ss)
        | none => none
      | none => none
    | none => none

def elemN (b : Nat) : List Nat → Bool
  | [] => false
  | x :: l => match Nat.beq b x with | true => true | false => elemN b l
def disj : List Nat → List Nat → Bool
  | [], _ => true
  | b :: l, m => match elemN b m with | true => false | false => disj l m
def noneAt (G : Tr AObj) : List Nat → Bool
  | [] => true
  | b :: l => match G.get b with | none => noneAt G l | some _ => false
/-- The great operation s leaves these blocks as they are. -/
def keptAt (s : Sp) : List Nat → Bool
  | [] => true
  | b :: l => match Nat.blt b s.nx with
    | true => match s.G.get b with
      | none => keptAt s l
      | some _ => match objB (s.G.get b) (s.G'.get b) with | true => keptAt s l | false => false
    | false => false
def pairB (r s : Sp) : Bool :=
  match r.big, s.big with
  | false, false => disj r.mods s.see && disj s.mods r.see
  | false, true => noneAt s.G r.mods && keptAt s r.see
  | true, false => noneAt r.G s.mods && keptAt r s.see
  | true, true => false
def pairsB (A : List Nat) (r : Sp) : List Sp → Bool
  | [] => true
  | s :: l => match bitA A s.idx r.idx || pairB r s with | true => pairsB A r l | false => false
def chkAll (A : List Nat) : List Sp → Bool
  | [] => true
  | r :: l => match pairsB A r l with | true => chkAll A l | false => false

/-- The temporaries: an operation is ordered against every other that writes one of its own. -/
def writers (A : List Nat) (i : Nat) (t : Tmp) : Nat → List Oper → Bool
  | _, [] => true
  | j, o :: l => match o.dst with
    | some d => match Nat.beq d t with
      | true => match Nat.beq i j || bitA A i j || bitA A j i with | true => writers A i t (j + 1) l | false => false
      | false => writers A i t (j + 1) l
    | none => writers A i t (j + 1) l
def namesOf (ops : Array Oper) (o : Oper) : List Tmp := o.dst.toList ++ o.looksAt ops
def tmpsOk1 (ops : Array Oper) (A : List Nat) (i : Nat) : List Tmp → Bool
  | [] => true
  | t :: l => match writers A i t 0 ops.toList with | true => tmpsOk1 ops A i l | false => false
def tmpsOk (ops : Array Oper) (A : List Nat) : Nat → List Oper → Bool
  | _, [] => true
  | i, o :: l => match tmpsOk1 ops A i (namesOf ops o) with | true => tmpsOk ops A (i + 1) l | false => false

/-- What an operation waits for stands ahead of it. -/
def edges1 (i : Nat) : List Edge → Bool
  | [] => true
  | e :: l => match !Region.binds .any e || Nat.blt e.on i with | true => edges1 i l | false => false
def edgesOk : Nat → List Oper → Bool
  | _, [] => true
  | i, o :: l => match edges1 i o.after.toList with | true => edgesOk (i + 1) l | false => false

def evDraw (F : Fns) (P : Program) (ops : Array Oper) (nt : Nat) (tm : Tr V) (H : Tr AObj) (nx : Nat) : Option (Tr V × Tr AObj × Nat) :=
  match edgesOk 0 ops.toList && tmpsOk ops (ancs ops.toList []) 0 ops.toList, evD F P ops nt (ancs ops.toList []) 0 ops.toList [] tm H nx with
  | true, some (tm', H', nx', ss) => match chkAll (ancs ops.toList []) ss with
    | true => some (tm', H', nx')
    | false => none
  | _, _ => none

def evCond (P : Program) (tm : Tr V) (c : Operand) : Option Bool :=
  match evO P tm c with
  | some (.c false [.bool b]) => some b
  | _ => none

/-- The loop's record with another state. -/
def loopSt (H : Tr AObj) (l : Nat) (st : LoopState) (pe : Option Code) : Option (Tr AObj) :=
  match H.get l with
  | some (.loop _ _ tm nt ps assign body df) => some (H.put (some (.loop st pe tm nt ps assign body df)) l)
  | _ => none

/-- What is done behind the function that was ranged over. -/
def stepAfter (F : Fns) (l nt : Nat) (ro : Option Nat) (tm : Tr V) (ds : List Nat) : Option (V × Tr AObj × Nat) → Res
  | some (_, H, nx) => match H.get l with
    | some (.loop st pe _ _ _ _ _ _) => match st with
      | .busy => none
      | _ => match loopSt H l .exhausted pe with
        | some H' => match pe with
          | none => some (.normal, tm, H', nx, ds)
          | some c => F.code c nt ro tm H' nx ds
        | none => none
    | _ => none
  | none => none

def stepCode (F : Fns) (P : Program) (c : Code) (nt : Nat) (ro : Option Nat) (tm : Tr V) (H : Tr AObj) (nx : Nat) (ds : List Nat) : Res :=
  match c with
  | .skip => some (.normal, tm, H, nx, ds)
  | .region _ ops draw => match (match draw with | true => evDraw F P ops nt tm H nx | false => evOps F P ops nt ops.toList tm H nx) with
    | some (tm', H', nx') => some (.normal, tm', H', nx', ds)
    | none => none
  | .seq a b => match F.code a nt ro tm H nx ds with
    | some (.normal, tm', H', nx', ds') => F.code b nt ro tm' H' nx' ds'
    | r => r
  | .cond x a b => match evCond P tm x with
    | some true => F.code a nt ro tm H nx ds
    | some false => F.code b nt ro tm H nx ds
    | none => none
  | .block id b => match F.code b nt ro tm H nx ds with
    | some (.exit j, tm', H', nx', ds') => match Nat.beq j id with
      | true => some (.normal, tm', H', nx', ds')
      | false => some (.exit j, tm', H', nx', ds')
    | r => r
  | .loop b => match F.code b nt ro tm H nx ds with
    | some (.normal, tm', H', nx', ds') => F.code (.loop b) nt ro tm' H' nx' ds'
    | r => r
  | .exit id => some (.exit id, tm, H, nx, ds)
  | .ret => some (.ret, tm, H, nx, ds)
  | .label _ => some (.normal, tm, H, nx, ds)
  | .goto l => some (.goto l, tm, H, nx, ds)
  | .scope b => F.scope b b nt ro tm H nx ds
  | .rangeFunc g ps assign body => match evO P tm g with
    | some (.c false [.fn f [] caps]) => match ro with
      | none => stepAfter F (nx + 1) nt ro tm (nx :: ds) (F.call f (.one (.yld (nx + 1)) :: capsV caps) ((H.put (some .dfr) nx).put (some (.loop .ready none tm nt ps assign body nx)) (nx + 1)) (nx + 2))
      | some l0 => match H.get l0 with
        | some (.loop _ _ _ _ _ _ _ df) => stepAfter F nx nt ro tm ds (F.call f (.one (.yld nx) :: capsV caps) (H.put (some (.loop .ready none tm nt ps assign body df)) nx) (nx + 1))
        | _ => none
    | _ => none
  | _ => none

/-- Code that runs inside the scope of a body whose labels are seen. -/
def stepScope (F : Fns) (body rest : Code) (nt : Nat) (ro : Option Nat) (tm : Tr V) (H : Tr AObj) (nx : Nat) (ds : List Nat) : Res :=
  match F.code rest nt ro tm H nx ds with
  | some (.goto l, tm', H', nx', ds') => match findLabel body l with
    | some r => F.scope body r nt ro tm' H' nx' ds'
    | none => some (.goto l, tm', H', nx', ds')
  | r => r

def putPs (nt : Nat) : List Tmp → List V → Tr V → Option (Tr V)
  | [], [], tm => some tm
  | p :: ps, v :: vs, tm => match Nat.blt p nt with | true => putPs nt ps vs (tm.put (some v) p) | false => none
  | _, _, _ => none

def stepRound (F : Fns) (l : Nat) (args : List V) (H : Tr AObj) (nx : Nat) : Option (V × Tr AObj × Nat) :=
  match H.get l with
  | some (.loop _ _ tm nt ps assign body _) => match putPs nt ps.toList args tm with
    | some tm' => match F.code assign nt (some l) tm' H nx [] with
      | some (.normal, tm1, H1, nx1, []) => match H1.get l with
        | some (.loop .ready pe _ _ _ _ _ _) => match loopSt H1 l .busy pe with
          | some H2 => match F.code body nt (some l) tm1 H2 nx1 [] with
            | some (.normal, _, H3, nx3, []) => match loopSt H3 l .ready none with
              | some H4 => some (.one (.bool true), H4, nx3)
              | none => none
            | some (.ret, _, H3, nx3, []) => match loopSt H3 l .done (some .ret) with
              | some H4 => some (.one (.bool false), H4, nx3)
              | none => none
            | some (.exit id, _, H3, nx3, []) => match loopSt H3 l .done (some (.exit id)) with
              | some H4 => some (.one (.bool false), H4, nx3)
              | none => none
            | some (.goto t, _, H3, nx3, []) => match loopSt H3 l .done (some (.goto t)) with
              | some H4 => some (.one (.bool false), H4, nx3)
              | none => none
            | _ => none
          | none => none
        | _ => none
      | _ => none
    | none => none
  | _ => none

/-- The marks among the deferred calls are taken. -/
def dropDs : List Nat → Tr AObj → Option (Tr AObj)
  | [], H => some H
  | d :: ds, H => match H.get d with
    | some .dfr => dropDs ds (H.put none d)
    | _ => none

def leave (P : Program) (fn : Func) (tm : Tr V) (H : Tr AObj) (nx : Nat) (ds : List Nat) : Option (V × Tr AObj × Nat) :=
  match dropDs ds H with
  | some H' => match resCs P tm H' fn.results.toList with
    | some cs => some (resV cs, H', nx)
    | none => none
  | none => none

def stepCall (F : Fns) (P : Program) (f : FuncId) (args : List V) (H : Tr AObj) (nx : Nat) : Option (V × Tr AObj × Nat) :=
  match P.funcs[f]? with
  | some fn => match fn.body with
    | some c => match F.code c (args.length + (fn.ntmps - args.length)) none (tmOf 0 args) H nx [] with
      | some (.normal, tm, H', nx', ds) => leave P fn tm H' nx' ds
      | some (.ret, tm, H', nx', ds) => leave P fn tm H' nx' ds
      | _ => none
    | none => none
  | none => none

def ev (P : Program) : Nat → Fns
  | 0 => ⟨fun _ _ _ _ _ _ _ => none, fun _ _ _ _ => none, fun _ _ _ _ => none, fun _ _ _ _ _ _ _ _ => none⟩
  | n + 1 => ⟨fun c nt ro tm H nx ds => stepCode (ev P n) P c nt ro tm H nx ds, fun f args H nx => stepCall (ev P n) P f args H nx, fun l args H nx => stepRound (ev P n) l args H nx, fun b r nt ro tm H nx ds => stepScope (ev P n) b r nt ro tm H nx ds⟩

end
end Go.Proofs.YtmnaddlniaklcaaGreatDoor.Ev
