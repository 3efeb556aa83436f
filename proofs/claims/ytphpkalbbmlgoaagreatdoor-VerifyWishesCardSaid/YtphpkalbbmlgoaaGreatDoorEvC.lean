/- An abstract interpreter of the model's code, fourteenth part: statements and calls. The text of the interpreter. -/
import Derived.Test.YtphpkalbbmlgoaaGreatDoorEvB
import Derived.TacticsIn
import Derived.RangeFuncLeaves
namespace Go.Proofs.YtphpkalbbmlgoaaGreatDoor.Ev
open Go
noncomputable section

def blocksA : At → List Nat
  | .ptr b _ => [b]
  | .sl b _ _ _ => [b]
  | .slx b _ _ _ => [b]
  | .map b => [b]
  | _ => []

def blocksL : List At → List Nat
  | [] => []
  | a :: l => blocksA a ++ blocksL l

def blocksO (P : Program) (tm : Tr V) (x : Operand) : List Nat :=
  match evO P tm x with
  | some (.c _ l) => blocksL l
  | _ => []

def blocksOs (P : Program) (tm : Tr V) : List Operand → List Nat
  | [] => []
  | x :: l => blocksO P tm x ++ blocksOs P tm l

def needs (P : Program) (o : Oper) (tm : Tr V) : List Nat :=
  match o.op with
  | .load _ a => blocksO P tm a
  | .store _ a _ => blocksO P tm a
  | .binOp .eql _ x y _ => blocksO P tm x ++ blocksO P tm y
  | .binOp .neq _ x y _ => blocksO P tm x ++ blocksO P tm y
  | .slice _ x _ _ _ => blocksO P tm x
  | .convert _ _ x => blocksO P tm x
  | .lookup _ m _ _ => blocksO P tm m
  | .mapUpdate _ m _ _ => blocksO P tm m
  | .insert _ m _ _ => blocksO P tm m
  | .call c => blocksOs P tm c.args.toList
  | _ => []

def restr (H : Tr AObj) : List Nat → Tr AObj
  | [] => .nil
  | b :: l => match H.get b with
    | some o => (restr H l).put (some o) b
    | none => restr H l

def mergeL (H G : Tr AObj) : List Nat → Tr AObj
  | [] => H
  | b :: l => (mergeL H G l).put (G.get b) b

def dropL (H : Tr AObj) : List Nat → Tr AObj
  | [] => H
  | b :: l => (dropL H l).put none b

def rng : Nat → Nat → List Nat
  | _, 0 => []
  | a, n + 1 => a :: rng (a + 1) n

structure Sp where
  idx : Nat
  tm : Tr V
  v : V
  H : Tr AObj
  nx : Nat
  H' : Tr AObj
  nx' : Nat
  G : Tr AObj
  G' : Tr AObj
  see : List Nat
  mods : List Nat
  big : Bool

def anc1 (acc : List Nat) : List Edge → Nat
  | [] => 0
  | e :: l => match Region.binds .any e && Nat.blt e.on acc.length with
    | true => Nat.lor (Nat.lor (2 ^ e.on) (acc.getD e.on 0)) (anc1 acc l)
    | false => anc1 acc l

def ancs : List Oper → List Nat → List Nat
  | [], acc => acc
  | o :: l, acc => ancs l (acc ++ [anc1 acc o.after.toList])

def bitA (A : List Nat) (i j : Nat) : Bool := (A.getD i 0).testBit j

def freeMods (A : List Nat) (i : Nat) : List Sp → List Nat
  | [] => []
  | r :: l => match bitA A i r.idx with
    | true => freeMods A i l
    | false => r.mods ++ freeMods A i l

def allLt (n : Nat) : List Nat → Bool
  | [] => true
  | b :: l => match Nat.blt b n with | true => allLt n l | false => false

def atB : At → At → Bool
  | .bool a, .bool b => a == b
  | .int j a, .int k b => (j == k) && (a == b)
  | .str a, .str b => a == b
  | .ptr a b, .ptr c d => Nat.beq a c && Nat.beq b d
  | .nilp, .nilp => true
  | .sl a b c d, .sl a' b' c' d' => Nat.beq a a' && Nat.beq b b' && Nat.beq c c' && Nat.beq d d'
  | .slx a b c d, .slx a' b' c' d' => Nat.beq a a' && Nat.beq b b' && Nat.beq c c' && Nat.beq d d'
  | .nils, .nils => true
  | .map a, .map b => Nat.beq a b
  | .nilm, .nilm => true
  | .nilf, .nilf => true
  | .nili, .nili => true
  | .opq a, .opq b => Nat.beq a b
  | .emp a, .emp b => Nat.beq a b
  | .yld a, .yld b => Nat.beq a b
  | .fn f [] a, .fn g [] b => Nat.beq f g && (a == b)
  | _, _ => false

def optB : Option At → Option At → Bool
  | none, none => true
  | some a, some b => atB a b
  | _, _ => false

def trB : Tr At → Tr At → Bool
  | .nil, .nil => true
  | .node v c0 c1 c2 c3 c4 c5 c6 c7, .node v' d0 d1 d2 d3 d4 d5 d6 d7 => match optB v v' with
    | true => trB c0 d0 && trB c1 d1 && trB c2 d2 && trB c3 d3 && trB c4 d4 && trB c5 d5 && trB c6 d6 && trB c7 d7
    | false => false
  | _, _ => false

def atLB : List At → List At → Bool
  | [], [] => true
  | a :: l, b :: m => match atB a b with | true => atLB l m | false => false
  | _, _ => false

def entsB : List Ent → List Ent → Bool
  | [], [] => true
  | ((g, k), (g', v), n) :: l, ((g2, k2), (g2', v2), n2) :: m => match (g == g2) && ((g' == g2') && (Nat.beq n n2 && (atLB k k2 && atLB v v2))) with | true => entsB l m | false => false
  | _, _ => false

def objB : Option AObj → Option AObj → Bool
  | none, none => true
  | some (.cells E n t), some (.cells E' n' t') => Nat.beq E E' && Nat.beq n n' && trB t t'
  | some (.lcells E n s t), some (.lcells E' n' s' t') => Nat.beq E E' && Nat.beq n n' && Nat.beq s s' && trB t t'
  | some (.scells E n t), some (.scells E' n' t') => Nat.beq E E' && Nat.beq n n' && trB t t'
  | some (.map es c), some (.map es' c') => Nat.beq c c' && entsB es es'
  | _, _ => false

def changed (G G' : Tr AObj) : List Nat → List Nat
  | [] => []
  | b :: l => match objB (G.get b) (G'.get b) with
    | true => changed G G' l
    | false => b :: changed G G' l

def restrT (tm : Tr V) : List Tmp → Tr V
  | [] => .nil
  | t :: l => match tm.get t with
    | some v => (restrT tm l).put (some v) t
    | none => restrT tm l

def evD1 (F : Fns) (P : Program) (A : List Nat) (i : Nat) (rs : List Sp) (o : Oper) (tm : Tr V) (H : Tr AObj) (nx : Nat) : Option (V × Sp) :=
  match isCall o.op with
  | true => match allLt nx (freeMods A i rs) with
    | true => match evB F P o tm (dropL H (freeMods A i rs)) nx with
      | some (v, H1, nx') => some (v, ⟨i, tm, v, H, nx, mergeL H1 H (freeMods A i rs), nx', dropL H (freeMods A i rs), H1, [], [], true⟩)
      | none => none
    | false => none
  | false => match evR P o tm (restr H (needs P o tm)) with
    | some v => some (v, ⟨i, tm, v, H, nx, H, nx, restr H (needs P o tm), restr H (needs P o tm), needs P o tm, [], false⟩)
    | none => match evW P o tm (restr H (needs P o tm)) nx with
      | some (v, G', nx') => some (v, ⟨i, tm, v, H, nx, mergeL H G' (changed (restr H (needs P o tm)) G' (needs P o tm) ++ rng nx (nx' - nx)), nx', restr H (needs P o tm), G', needs P o tm, changed (restr H (needs P o tm)) G' (needs P o tm) ++ rng nx (nx' - nx), false⟩)
      | none => none

def evD (F : Fns) (P : Program) (ops : Array Oper) (nt : Nat) (A : List Nat) : Nat → List Oper → List Sp → Tr V → Tr AObj → Nat → Option (Tr V × Tr AObj × Nat × List Sp)
  | _, [], _, tm, H, nx => some (tm, H, nx, [])
  | i, o :: l, rs, tm, H, nx => match evGuard ops o (restrT tm (o.looksAt ops)) with
    | some true => match evD1 F P A i rs o (restrT tm (o.looksAt ops)) H nx with
      | some (v, s) => match putA nt tm o.dst v with
        | some tm' => match evD F P ops nt A (i + 1) l (s :: rs) tm' s.H' s.nx' with
          | some (tm2, H2, nx2, ss) => some (tm2, H2, nx2, s :: ss)
          | none => none
        | none => none
      | none => none
    | some false => match putA nt tm o.dst V.undef with
      | some tm' => match evD F P ops nt A (i + 1) l (⟨i, restrT tm (o.looksAt ops), V.undef, H, nx, H, nx, .nil, .nil, [], [], false⟩ :: rs) tm' H nx with
        | some (tm2, H2, nx2, ss) => some (tm2, H2, nx2, ⟨i, restrT tm (o.looksAt ops), V.undef, H, nx, H, nx, .nil, .nil, [], [], false⟩ :: ss)
        | none => none
      | none => none
    | none => none

def elemN (b : Nat) : List Nat → Bool
  | [] => false
  | x :: l => match Nat.beq b x with | true => true | false => elemN b l

def disj : List Nat → List Nat → Bool
  | [], _ => true
  | b :: l, m => match elemN b m with | true => false | false => disj l m

def noneAt (G : Tr AObj) : List Nat → Bool
  | [] => true
  | b :: l => match G.get b with | none => noneAt G l | some _ => false

def keptAt (s : Sp) : List Nat → Bool
  | [] => true
  | b :: l => match Nat.blt b s.nx with
    | true => match s.G.get b with
      | none => keptAt s l
      | some _ => match objB (s.G.get b) (s.G'.get b) with | true => keptAt s l | false => false
    | false => false

def pairB (r s : Sp) : Bool :=
  match r.big, s.big with
  | false, false => disj r.mods s.see && disj s.mods r.see
  | false, true => noneAt s.G r.mods && keptAt s r.see
  | true, false => noneAt r.G s.mods && keptAt r s.see
  | true, true => false

def pairsB (A : List Nat) (r : Sp) : List Sp → Bool
  | [] => true
  | s :: l => match bitA A s.idx r.idx || pairB r s with | true => pairsB A r l | false => false

def chkAll (A : List Nat) : List Sp → Bool
  | [] => true
  | r :: l => match pairsB A r l with | true => chkAll A l | false => false

def writers (A : List Nat) (i : Nat) (t : Tmp) : Nat → List Oper → Bool
  | _, [] => true
  | j, o :: l => match o.dst with
    | some d => match Nat.beq d t with
      | true => match Nat.beq i j || bitA A i j || bitA A j i with | true => writers A i t (j + 1) l | false => false
      | false => writers A i t (j + 1) l
    | none => writers A i t (j + 1) l

def namesOf (ops : Array Oper) (o : Oper) : List Tmp := o.dst.toList ++ o.looksAt ops

def tmpsOk1 (ops : Array Oper) (A : List Nat) (i : Nat) : List Tmp → Bool
  | [] => true
  | t :: l => match writers A i t 0 ops.toList with | true => tmpsOk1 ops A i l | false => false

def tmpsOk (ops : Array Oper) (A : List Nat) : Nat → List Oper → Bool
  | _, [] => true
  | i, o :: l => match tmpsOk1 ops A i (namesOf ops o) with | true => tmpsOk ops A (i + 1) l | false => false

def edges1 (i : Nat) : List Edge → Bool
  | [] => true
  | e :: l => match !Region.binds .any e || Nat.blt e.on i with | true => edges1 i l | false => false

def edgesOk : Nat → List Oper → Bool
  | _, [] => true
  | i, o :: l => match edges1 i o.after.toList with | true => edgesOk (i + 1) l | false => false

def evDraw (F : Fns) (P : Program) (ops : Array Oper) (nt : Nat) (tm : Tr V) (H : Tr AObj) (nx : Nat) : Option (Tr V × Tr AObj × Nat) :=
  match edgesOk 0 ops.toList && tmpsOk ops (ancs ops.toList []) 0 ops.toList, evD F P ops nt (ancs ops.toList []) 0 ops.toList [] tm H nx with
  | true, some (tm', H', nx', ss) => match chkAll (ancs ops.toList []) ss with
    | true => some (tm', H', nx')
    | false => none
  | _, _ => none

def evCond (P : Program) (tm : Tr V) (c : Operand) : Option Bool :=
  match evO P tm c with
  | some (.c false [.bool b]) => some b
  | _ => none

def loopSt (H : Tr AObj) (l : Nat) (st : LoopState) (pe : Option Code) : Option (Tr AObj) :=
  match H.get l with
  | some (.loop _ _ tm nt ps assign body df) => some (H.put (some (.loop st pe tm nt ps assign body df)) l)
  | _ => none

def stepAfter (F : Fns) (l nt : Nat) (ro : Option Nat) (tm : Tr V) (ds : List Nat) : Option (V × Tr AObj × Nat) → Res
  | some (_, H, nx) => match H.get l with
    | some (.loop st pe _ _ _ _ _ _) => match st with
      | .busy => none
      | _ => match loopSt H l .exhausted pe with
        | some H' => match pe with
          | none => some (.normal, tm, H', nx, ds)
          | some c => F.code c nt ro tm H' nx ds
        | none => none
    | _ => none
  | none => none

def stepCode (F : Fns) (P : Program) (c : Code) (nt : Nat) (ro : Option Nat) (tm : Tr V) (H : Tr AObj) (nx : Nat) (ds : List Nat) : Res :=
  match c with
  | .skip => some (.normal, tm, H, nx, ds)
  | .region _ ops draw => match (match draw with | true => evDraw F P ops nt tm H nx | false => evOps F P ops nt ops.toList tm H nx) with
    | some (tm', H', nx') => some (.normal, tm', H', nx', ds)
    | none => none
  | .seq a b => match F.code a nt ro tm H nx ds with
    | some (.normal, tm', H', nx', ds') => F.code b nt ro tm' H' nx' ds'
    | r => r
  | .cond x a b => match evCond P tm x with
    | some true => F.code a nt ro tm H nx ds
    | some false => F.code b nt ro tm H nx ds
    | none => none
  | .block id b => match F.code b nt ro tm H nx ds with
    | some (.exit j, tm', H', nx', ds') => match Nat.beq j id with
      | true => some (.normal, tm', H', nx', ds')
      | false => some (.exit j, tm', H', nx', ds')
    | r => r
  | .loop b => match F.code b nt ro tm H nx ds with
    | some (.normal, tm', H', nx', ds') => F.code (.loop b) nt ro tm' H' nx' ds'
    | r => r
  | .exit id => some (.exit id, tm, H, nx, ds)
  | .ret => some (.ret, tm, H, nx, ds)
  | .label _ => some (.normal, tm, H, nx, ds)
  | .goto l => some (.goto l, tm, H, nx, ds)
  | .scope b => F.scope b b nt ro tm H nx ds
  | .rangeFunc g ps assign body => match evO P tm g with
    | some (.c false [.fn f [] caps]) => match ro with
      | none => stepAfter F (nx + 1) nt ro tm (nx :: ds) (F.call f (.one (.yld (nx + 1)) :: capsV caps) ((H.put (some .dfr) nx).put (some (.loop .ready none tm nt ps assign body nx)) (nx + 1)) (nx + 2))
      | some l0 => match H.get l0 with
        | some (.loop _ _ _ _ _ _ _ df) => stepAfter F nx nt ro tm ds (F.call f (.one (.yld nx) :: capsV caps) (H.put (some (.loop .ready none tm nt ps assign body df)) nx) (nx + 1))
        | _ => none
    | _ => none
  | _ => none

def stepScope (F : Fns) (body rest : Code) (nt : Nat) (ro : Option Nat) (tm : Tr V) (H : Tr AObj) (nx : Nat) (ds : List Nat) : Res :=
  match F.code rest nt ro tm H nx ds with
  | some (.goto l, tm', H', nx', ds') => match findLabel body l with
    | some r => F.scope body r nt ro tm' H' nx' ds'
    | none => some (.goto l, tm', H', nx', ds')
  | r => r

def putPs (nt : Nat) : List Tmp → List V → Tr V → Option (Tr V)
  | [], [], tm => some tm
  | p :: ps, v :: vs, tm => match Nat.blt p nt with | true => putPs nt ps vs (tm.put (some v) p) | false => none
  | _, _, _ => none

def stepRound (F : Fns) (l : Nat) (args : List V) (H : Tr AObj) (nx : Nat) : Option (V × Tr AObj × Nat) :=
  match H.get l with
  | some (.loop _ _ tm nt ps assign body _) => match putPs nt ps.toList args tm with
    | some tm' => match F.code assign nt (some l) tm' H nx [] with
      | some (.normal, tm1, H1, nx1, []) => match H1.get l with
        | some (.loop .ready pe _ _ _ _ _ _) => match loopSt H1 l .busy pe with
          | some H2 => match F.code body nt (some l) tm1 H2 nx1 [] with
            | some (.normal, _, H3, nx3, []) => match loopSt H3 l .ready none with
              | some H4 => some (.one (.bool true), H4, nx3)
              | none => none
            | some (.ret, _, H3, nx3, []) => match loopSt H3 l .done (some .ret) with
              | some H4 => some (.one (.bool false), H4, nx3)
              | none => none
            | some (.exit id, _, H3, nx3, []) => match loopSt H3 l .done (some (.exit id)) with
              | some H4 => some (.one (.bool false), H4, nx3)
              | none => none
            | some (.goto t, _, H3, nx3, []) => match loopSt H3 l .done (some (.goto t)) with
              | some H4 => some (.one (.bool false), H4, nx3)
              | none => none
            | _ => none
          | none => none
        | _ => none
      | _ => none
    | none => none
  | _ => none

def dropDs : List Nat → Tr AObj → Option (Tr AObj)
  | [], H => some H
  | d :: ds, H => match H.get d with
    | some .dfr => dropDs ds (H.put none d)
    | _ => none

def leave (P : Program) (fn : Func) (tm : Tr V) (H : Tr AObj) (nx : Nat) (ds : List Nat) : Option (V × Tr AObj × Nat) :=
  match dropDs ds H with
  | some H' => match resCs P tm H' fn.results.toList with
    | some cs => some (resV cs, H', nx)
    | none => none
  | none => none

end
end Go.Proofs.YtphpkalbbmlgoaaGreatDoor.Ev

namespace Go.Proofs.YtphpkalbbmlgoaaGreatDoor.Ev
open Go

theorem Stp.emp {η : Env} {h : Hp} {w : World} {H : Tr AObj} {nx : Nat} (p : Pre η h w H.get nx (nx + 1)) (a : Addr) (c : Nat) :
    Stp η h w H.get H.get nx (nx + 1) ⟨η.blk, η.cap, η.unk, fun k => if k = nx then some (a, c) else η.em k⟩ w := by
  obtain ⟨hnb, _, hem⟩ := p.fresh nx (Nat.le_refl _) (by omega)
  have hle : η.le ⟨η.blk, η.cap, η.unk, fun k => if k = nx then some (a, c) else η.em k⟩ :=
    ⟨fun _ _ h => ⟨h, rfl⟩, fun _ _ h => h, fun i v hi => by
      have : i ≠ nx := fun e => by rw [e, hem] at hi; cases hi
      simp [this, hi]⟩
  have hnone : h nx = none := p.rh.fresh hnb
  have hov : ovr h H.get H.get nx (nx + 1) = h := by
    funext b
    by_cases hb : H.get b ≠ none ∨ (nx ≤ b ∧ b < nx + 1)
    · rw [ovr_in hb]
      cases ho : H.get b with
      | some o => exact (p.ext b o ho).symm
      | none =>
        rcases hb with hb | hb
        · exact absurd ho hb
        · obtain rfl : b = nx := by omega
          exact hnone.symm
    · rw [ovr_out hb]
  refine ⟨hle, fun b hb => ⟨rfl, rfl, ?_⟩, ?_, ?_, .refl _ _ _⟩
  · have : b ≠ nx := by omega
    simp [this]
  · rw [hov]; exact ⟨fun b o hb => by obtain ⟨B, co, h1, h2, h3⟩ := p.rh.live b o hb; exact ⟨B, co, h1, h2, h3.mono hle h1⟩, p.rh.inj⟩
  · rw [hov]; intro k hk; exact .inl hk

theorem evEmp_ok {P : Program} {H : Tr AObj} {nx : Nat} {t : TypeId} {x : At} {lo hi mx : Option At} {v : V} {H' : Tr AObj} {nx' : Nat} (he : evEmp P H nx t x lo hi mx = some (v, H', nx')) :
    Dm H.get H'.get nx nx' ∧ ∀ {η : Env} {h : Hp} {w : World} {cx : Value} {clo chi cmx : Option Value}, Pre η h w H.get nx nx' → x.conc η = some cx → optC η lo clo → optC η hi chi → optC η mx cmx →
      ∃ cv η', (Instr.sliceAt t cx clo chi cmx).run P w = .ok cv w ∧ v.conc η' = some cv ∧ Stp η h w H.get H'.get nx nx' η' w := by
  unfold evEmp at he
  split at he
  · rename_i e hu
    split at he
    · rename_i i b o n e' hi'
      split at he
      · rename_i k hk
        split at he
        · cases he
        · split at he
          · rename_i l h0 m hb
            split at he
            · rename_i hlh
              cases he
              refine ⟨⟨by omega, fun b hb => .inl hb⟩, fun p hx h1 h2 h3 => ?_⟩
              rename_i η h w cx clo chi cmx
              obtain ⟨hle, hs⟩ := known_ok p.ext p.rh hk
              obtain ⟨B, hB, rfl⟩ := conc_slx hx
              obtain ⟨hb', hm⟩ := bnds_more hb hle
              obtain rfl : l = h0 := Nat.eq_of_beq_eq_true hlh
              refine ⟨.slice (some (if η.cap b - e' = l then adr B o else adr B (o + l * i.size))) 0 (η.cap b - e' - l), _, ?_, ?_, Stp.emp p (if η.cap b - e' = l then adr B o else adr B (o + l * i.size)) (η.cap b - e' - l)⟩
              · simp only [Instr.sliceAt, Sem.run_bind, run_und hu, Result.andThen_ok, Instr.slice, bnds_ok h1 h2 h3 hb', run_size hi', Sem.run_pure, Option.map_some, adr_add]
                by_cases e : η.cap b - e' = l <;> simp [e]
              · rw [one_conc]; simp [At.conc]
            · cases he
          · cases he
      · cases he
    · cases he
  · cases he

theorem run_u {P : Program} {s : Sem Unit} {w w' : World} (h : s.run P w = .ok () w') : (do s; pure Next.skip : Sem Next).run P w = .ok .skip w' := by
  simp [h]

theorem map_one {α β : Type} (f : α → β) (l : Array α) {x : α} (h : l.toList = [x]) : l.map f = #[f x] := by apply Array.ext'; simp [h]

theorem map_two {α β : Type} (f : α → β) (l : Array α) {x y : α} (h : l.toList = [x, y]) : l.map f = #[f x, f y] := by apply Array.ext'; simp [h]

theorem arr_one {α : Type} (l : Array α) {x : α} (h : l.toList = [x]) : l = #[x] := by apply Array.ext'; simp [h]

theorem arr_two {α : Type} (l : Array α) {x y : α} (h : l.toList = [x, y]) : l = #[x, y] := by apply Array.ext'; simp [h]

theorem evW_ok {P : Program} {o : Oper} {tm : Tr V} {H : Tr AObj} {nx : Nat} {v : V} {H' : Tr AObj} {nx' : Nat} (he : evW P o tm H nx = some (v, H', nx')) : Writes1 P o tm H nx v H' nx' := by
  obtain ⟨dst, op, type, pos, after, guard⟩ := o
  cases op <;> simp only [evW] at he <;> try (cases he; done)
  case alloc t =>
    obtain ⟨d, h1⟩ := evAlloc_ok he
    refine ⟨d, fun η h w A p ra hg => ?_⟩
    obtain ⟨cv, w', η', h2, h3, h4⟩ := h1 p
    exact ⟨cv, w', η', .inl (run_v h2), h3, h4⟩
  case box t x =>
    split at he
    · rename_i u hx
      obtain ⟨d, h1⟩ := evBox_ok (P := P) he
      refine ⟨d, fun η h w A p ra hg => ?_⟩
      obtain ⟨cv, w', η', h2, h3, h4⟩ := h1 p (evO_ok ra hg hx)
      exact ⟨cv, w', η', .inl (run_v h2), h3, h4⟩
    · cases he
  case buildSlice t len ps =>
    split at he
    · rename_i l hl
      obtain ⟨d, h1⟩ := evBuildSlice_ok he
      refine ⟨d, fun η h w A p ra hg => ?_⟩
      have hp' := evParts_ok ra hg _ _ hl
      obtain ⟨cv, w', η', h2, h3, h4⟩ := h1 (cps := ps.map fun (i, x) => (i, A.eval x)) p (by simpa using hp')
      exact ⟨cv, w', η', .inl (run_v h2), h3, h4⟩
    · cases he
  case insert t m k x =>
    split at he
    · rename_i a u y hm hk hx
      obtain ⟨rfl, d, h1⟩ := evMapUpdate_ok he
      refine ⟨d, fun η h w A p ra hg => ?_⟩
      obtain ⟨w', h2, h4⟩ := h1 p (evO_one ra hg hm) (evO_ok ra hg hk) (evO_ok ra hg hx)
      exact ⟨Go.undef, w', η, .inr ⟨run_u h2, rfl⟩, rfl, h4⟩
    · cases he
  case store t a x =>
    split at he
    · rename_i q y ha hx
      obtain ⟨rfl, d, h1⟩ := evStore_ok he
      refine ⟨d, fun η h w A p ra hg => ?_⟩
      obtain ⟨w', h2, h4⟩ := h1 p (evO_one ra hg ha) (evO_ok ra hg hx)
      exact ⟨Go.undef, w', η, .inr ⟨run_u h2, rfl⟩, rfl, h4⟩
    · cases he
  case makeMap t r =>
    split at he
    · rename_i a ha
      obtain ⟨d, h1⟩ := evMakeMap_ok he
      refine ⟨d, fun η h w A p ra hg => ?_⟩
      obtain ⟨cv, w', η', h2, h3, h4⟩ := h1 p (evOpt_ok ra hg ha)
      exact ⟨cv, w', η', .inl (run_v h2), h3, h4⟩
    · cases he
  case convert s t x =>
    split at he
    · rename_i l hx
      obtain ⟨d, h1⟩ := evS2B_ok he
      refine ⟨d, fun η h w A p ra hg => ?_⟩
      obtain ⟨cv, w', η', h2, h3, h4⟩ := h1 p
      have hx' := evO_one ra hg hx
      simp only [At.conc] at hx'
      have hx' := Option.some.inj hx'
      exact ⟨cv, w', η', .inl (run_v (by rw [← hx']; exact h2)), h3, h4⟩
    · cases he
  case makeSlice t l c =>
    split at he
    · rename_i a b ha hb
      obtain ⟨d, h1⟩ := evMakeSlice_ok he
      refine ⟨d, fun η h w A p ra hg => ?_⟩
      obtain ⟨cv, w', η', h2, h3, h4⟩ := h1 p (evO_one ra hg ha) (evO_one ra hg hb)
      exact ⟨cv, w', η', .inl (run_v h2), h3, h4⟩
    · cases he
  case slice t x lo hi mx =>
    split at he
    · rename_i a hx
      split at he
      · rename_i l h' m h1 h2 h3
        obtain ⟨d, g⟩ := evEmp_ok he
        refine ⟨d, fun η h w A p ra hg => ?_⟩
        obtain ⟨cv, η', g2, g3, g4⟩ := g p (evO_one ra hg hx) (evOpt_ok ra hg h1) (evOpt_ok ra hg h2) (evOpt_ok ra hg h3)
        exact ⟨cv, w, η', .inl (run_v g2), g3, g4⟩
      · cases he
    · cases he
  case mapUpdate t m k x =>
    split at he
    · rename_i a u y hm hk hx
      obtain ⟨rfl, d, h1⟩ := evMapUpdate_ok he
      refine ⟨d, fun η h w A p ra hg => ?_⟩
      obtain ⟨w', h2, h4⟩ := h1 p (evO_one ra hg hm) (evO_ok ra hg hk) (evO_ok ra hg hx)
      exact ⟨Go.undef, w', η, .inr ⟨run_u h2, rfl⟩, rfl, h4⟩
    · cases he
  case range t x =>
    split at he
    · rename_i a ha
      obtain ⟨d, h1⟩ := evRange_ok he
      refine ⟨d, fun η h w A p ra hg => ?_⟩
      obtain ⟨cv, w', η', h2, h3, h4⟩ := h1 p (evO_one ra hg ha)
      exact ⟨cv, w', η', .inl (run_v h2), h3, h4⟩
    · cases he
  case call c =>
    obtain ⟨callee, args, ts⟩ := c
    simp only at he
    cases callee <;> (try simp only at he) <;> try (cases he; done)
    rename_i b
    cases b <;> (try simp only at he) <;> try (cases he; done)
    case append =>
      split at he
      · rename_i s x t tx hargs hts
        split at he
        · rename_i a b ha hb
          obtain ⟨d, h1⟩ := evAppend_ok he
          refine ⟨d, fun η h w A p ra hg => ?_⟩
          obtain ⟨cv, w', η', h2, h3, h4⟩ := h1 type p (evO_one ra hg ha) (evO_one ra hg hb)
          refine ⟨cv, w', η', .inl ?_, h3, h4⟩
          rw [run_builtin]
          simp [builtin, map_two _ _ hargs, arr_two _ hts, h2]
        · cases he
      · cases he
    case clear =>
      split at he
      · rename_i s t hargs hts
        split at he
        · rename_i a ha
          obtain ⟨d, h1⟩ := evClear_ok he
          refine ⟨d, fun η h w A p ra hg => ?_⟩
          obtain ⟨cv, w', h2, h3, h4⟩ := h1 type p (evO_one ra hg ha)
          refine ⟨cv, w', η, .inl ?_, h3, h4⟩
          rw [run_builtin]
          simp [builtin, map_one _ _ hargs, arr_one _ hts, h2]
        · cases he
      · cases he
    case copy =>
      split at he
      · rename_i s x t tx hargs hts
        split at he
        · rename_i a b ha hb
          obtain ⟨d, h1⟩ := evCopy_ok he
          refine ⟨d, fun η h w A p ra hg => ?_⟩
          obtain ⟨cv, w', h2, h3, h4⟩ := h1 type p (evO_one ra hg ha) (evO_one ra hg hb)
          refine ⟨cv, w', η, .inl ?_, h3, h4⟩
          rw [run_builtin]
          simp [builtin, map_two _ _ hargs, arr_two _ hts, h2]
        · cases he
      · cases he

theorem evS_ok {P : Program} {o : Oper} {tm : Tr V} {H : Tr AObj} {nx : Nat} {v : V} {H' : Tr AObj} {nx' : Nat} (he : evS P o tm H nx = some (v, H', nx')) : Writes1 P o tm H nx v H' nx' := by
  unfold evS at he
  split at he
  · rename_i u hr
    cases he
    refine ⟨Dm.refl _ _, fun η h w A p ra hg => ?_⟩
    obtain ⟨cv, h1, h2⟩ := evR_ok hr η h w A p.ext p.rh ra hg
    exact ⟨cv, w, η, .inl h2, h1, Stp.refl p.ext p.rh⟩
  · exact evW_ok he

theorem evGuard_ok {ops : Array Oper} {o : Oper} {tm : Tr V} {r : Bool} (h : evGuard ops o tm = some r) {η : Env} {A : Array Value} (ra : RA η tm A) : Region.wanted o (yielded ops A) = r := by
  unfold evGuard at h
  unfold Region.wanted
  split at h
  · rename_i hg; cases h; simp [hg]
  · rename_i j want hg
    simp only [hg]
    unfold yielded
    split at h
    · rename_i oj hj
      split at h
      · rename_i d hd
        simp only [hj, Option.bind_some, hd]
        split at h
        · rename_i b hb
          have hra := ra d _ hb
          simp [V.conc, comp, concs, At.conc] at hra
          cases hA : A[d]? with
          | none => simp [hA, Go.undef] at hra
          | some u => simp [hA] at hra; subst hra; cases h; cases b <;> cases want <;> rfl
        · rename_i l hb
          have hra := ra d _ hb
          simp only [V.conc] at hra
          split at hra
          · cases hA : A[d]? with
            | none => cases h; simp
            | some u => simp [Array.getD_eq_getD_getElem?, hA] at hra; subst hra; cases h; simp
          · cases hra
        · cases h
      · rename_i hd; cases h; simp [hj, hd]
    · rename_i hj; cases h; simp [hj]

end Go.Proofs.YtphpkalbbmlgoaaGreatDoor.Ev

namespace Go.Proofs.YtphpkalbbmlgoaaGreatDoor.Ev
open Go

def fe (ro : Option Nat) : Fence := ⟨fun _ => True, none, false, ro⟩

theorem calls_fe {P : Program} {f : FuncId} {args : Array Value} {w : World} {R : Ending → World → Prop} {ro : Option Nat} {n : Nat} (h : Calls P f args w R) : CallsIn (fe ro) n P f args w R := by
  have := (callsIn_wide (n := n)).2 h
  exact this

def CallPost (η : Env) (h : Hp) (w : World) (H H' : Hp) (nx nx' : Nat) (v : V) : Ending → World → Prop := fun e w' => ∃ cv η', e = .returned cv ∧ v.conc η' = some cv ∧ Stp η h w H H' nx nx' η' w'

def NoNum (P : Program) : Prop := ∀ (f : FuncId) (fn : Func), P.funcs[f]? = some fn → (fn.name == "runtime.NumGoroutine") = false

def CallOk (P : Program) (f : FuncId) (args : List V) (H : Tr AObj) (nx : Nat) (v : V) (H' : Tr AObj) (nx' : Nat) : Prop :=
  (∃ fn, P.funcs[f]? = some fn ∧ fn.body.isSome = true) ∧ Dm H.get H'.get nx nx' ∧
  ∀ (η : Env) (h : Hp) (w : World) (cargs : List Value), Pre η h w H.get nx nx' → VL η args cargs → η.glob P → Calls P f ⟨cargs⟩ w (CallPost η h w H.get H'.get nx nx' v)

def RoundOk (P : Program) (l : Nat) (args : List V) (H : Tr AObj) (nx : Nat) (v : V) (H' : Tr AObj) (nx' : Nat) : Prop :=
  Dm H.get H'.get nx nx' ∧
  ∀ (η : Env) (h : Hp) (w : World) (cargs : List Value) (L : Nat × Nat), Pre η h w H.get nx nx' → VL η args cargs → η.glob P → η.blk l = some L →
    ∃ f tmps assign body, (Instr.yield L.1 ⟨cargs⟩).run P w = .ok (.round L.1 f tmps assign body) w ∧ ∀ n, RoundIn (fe none) n P L.1 f tmps assign body w (CallPost η h w H.get H'.get nx nx' v)

theorem VL.append {η : Env} : ∀ {l m : List V} {cl cm : List Value}, VL η l cl → VL η m cm → VL η (l ++ m) (cl ++ cm) := by
  intro l
  induction l with
  | nil => intro m cl cm h h'; cases cl with | nil => exact h' | cons _ _ => exact h.elim
  | cons v l ih => intro m cl cm h h'; cases cl with | nil => exact h.elim | cons c cl => exact ⟨h.1, ih h.2 h'⟩

theorem VL.mono {η η' : Env} (hle : η.le η') : ∀ {l : List V} {cl : List Value}, VL η l cl → VL η' l cl := by
  intro l
  induction l with
  | nil => intro cl h; cases cl with | nil => trivial | cons _ _ => exact h.elim
  | cons v l ih => intro cl h; cases cl with | nil => exact h.elim | cons c cl => exact ⟨V.conc_mono hle h.1, ih h.2⟩

theorem VL.length {η : Env} : ∀ {l : List V} {cl : List Value}, VL η l cl → cl.length = l.length := by
  intro l
  induction l with
  | nil => intro cl h; cases cl with | nil => rfl | cons _ _ => exact h.elim
  | cons v l ih => intro cl h; cases cl with | nil => exact h.elim | cons c cl => simp [ih h.2]

theorem capsV_ok {η : Env} : ∀ (l : List (Nat × Nat)) (vs : List Value), ptrs η l = some vs → VL η (capsV l) vs := by
  intro l
  induction l with
  | nil => intro vs h; simp [ptrs] at h; subst h; trivial
  | cons p l ih =>
    obtain ⟨b, o⟩ := p
    intro vs h
    simp only [ptrs] at h
    cases hb : η.blk b with
    | none => simp [hb] at h
    | some B => cases hl : ptrs η l with
      | none => simp [hb, hl] at h
      | some ws => simp [hb, hl] at h; subst h; exact ⟨by rw [one_conc]; simp [At.conc, hb], ih ws hl⟩

theorem absVs_ok {η : Env} : ∀ (l : List Fst) (us : List V) (fs : List Value), absVs l = some us → fsts η l = some fs → VL η us fs := by
  intro l
  induction l with
  | nil => intro us fs h h'; simp [absVs] at h; simp [fsts] at h'; subst h; subst h'; trivial
  | cons p l ih =>
    intro us fs h h'
    cases p with
    | val v =>
      simp only [absVs] at h
      simp only [fsts] at h'
      cases ha : absV v with
      | none => simp [ha] at h
      | some a => cases hl : absVs l with
        | none => simp [ha, hl] at h
        | some ys => cases hf : fsts η l with
          | none => simp [hf] at h'
          | some ws => simp [ha, hl] at h; simp [hf] at h'; subst h; subst h'; exact ⟨absV_conc η ha, ih ys ws hl hf⟩
    | ptr b o =>
      simp only [absVs] at h
      simp only [fsts] at h'
      cases hb : η.blk b with
      | none => simp [hb] at h'
      | some B => cases hl : absVs l with
        | none => simp [hl] at h
        | some ys => cases hf : fsts η l with
          | none => simp [hb, hf] at h'
          | some ws => simp [hl] at h; simp [hb, hf] at h'; subst h; subst h'; exact ⟨by rw [one_conc]; simp [At.conc, hb], ih ys ws hl hf⟩

theorem run_callFunc {P : Program} (hN : NoNum P) {f : FuncId} {fn : Func} (hf : P.funcs[f]? = some fn) (hb : fn.body.isSome = true) (args : Array Value) (w : World) : (callFunc f args).run P w = .ok (.enter f args) w := by
  have h1 := hN f fn hf
  have h2 : fn.body ≠ none := by intro hbb; rw [hbb] at hb; cases hb
  have h1' : ¬ (fn.name = "runtime.NumGoroutine") := by simpa using h1
  simp [callFunc, program, Sem.run, hf, h1', h2]

theorem whom_ok {P : Program} (hN : NoNum P) {c : Call} {tm : Tr V} {who : Whom} (hw : whom P c tm = some who) {η : Env} {A : Act} (ra : RA η tm A.tmps) (hg : η.glob P)
    {dst : Option Tmp} {type : TypeId} {pos : String} {after : Array Edge} {guard : Option (Nat × Bool)} (w : World) :
    match who with
    | .fn f args => (∃ fn, P.funcs[f]? = some fn ∧ fn.body.isSome = true) → ∃ cargs, VL η args cargs ∧ (execOp A.eval ⟨dst, .call c, type, pos, after, guard⟩).run P w = .ok (.enter f ⟨cargs⟩) w
    | .yld l args => ∃ cargs L, VL η args cargs ∧ η.blk l = some L ∧ (execOp A.eval ⟨dst, .call c, type, pos, after, guard⟩).run P w = (Instr.yield L.1 ⟨cargs⟩).run P w := by
  unfold whom at hw
  obtain ⟨callee, cargs0, ts⟩ := c
  cases callee with
  | value g =>
    simp only at hw
    split at hw
    · rename_i f first caps vs hgv hvs
      split at hw
      · rename_i us hus
        cases hw
        rintro ⟨fn, hf, hb⟩
        obtain ⟨⟨fs, cs⟩, ⟨h1, h2⟩, h3⟩ := conc_fn (evO_one ra hg hgv)
        simp only at h1 h2 h3
        refine ⟨fs ++ (cargs0.toList.map A.eval ++ cs), (absVs_ok first us fs hus h1).append ((evOs_ok ra hg _ _ hvs).append (capsV_ok caps cs h2)), ?_⟩
        have hrun := run_callFunc hN hf hb
        have e1 : (⟨fs⟩ : Array Value) ++ cargs0.map A.eval ++ (⟨cs⟩ : Array Value) = ⟨fs ++ (cargs0.toList.map A.eval ++ cs)⟩ := by apply Array.ext'; simp
        simp only [execOp, resolve, Sem.run_bind, h3, Deferred.ofValue, Sem.run_pure, Result.andThen_ok, invoke, hrun, e1]
      · cases hw
    · rename_i l vs hgv hvs
      cases hw
      have h0 := evO_one ra hg hgv
      simp only [At.conc] at h0
      cases hb : η.blk l with
      | none => simp [hb] at h0
      | some L =>
        simp [hb] at h0
        refine ⟨cargs0.toList.map A.eval, L, evOs_ok ra hg _ _ hvs, hb, ?_⟩
        have e1 : (#[] : Array Value) ++ cargs0.map A.eval = ⟨cargs0.toList.map A.eval⟩ := by apply Array.ext'; simp
        simp only [execOp, resolve, Sem.run_bind, ← h0, Deferred.ofValue, Sem.run_pure, Result.andThen_ok, invoke, e1]
    · cases hw
  | _ => cases hw

structure OpsOk (P : Program) (F : Fns) : Prop where
  call : ∀ f args H nx v H' nx', F.call f args H nx = some (v, H', nx') → CallOk P f args H nx v H' nx'
  round : ∀ l args H nx v H' nx', F.round l args H nx = some (v, H', nx') → RoundOk P l args H nx v H' nx'

def OpOk (P : Program) (o : Oper) (tm : Tr V) (H : Tr AObj) (nx : Nat) (v : V) (H' : Tr AObj) (nx' : Nat) : Prop :=
  Dm H.get H'.get nx nx' ∧ ∀ (η : Env) (h : Hp) (w : World) (A : Act) (ro : Option Nat) (n : Nat) (K : Act → World → Prop) (Q : Exit → Act → World → Prop), Pre η h w H.get nx nx' → RA η tm A.tmps → η.glob P →
    (∀ cv w' η', v.conc η' = some cv → Stp η h w H.get H'.get nx nx' η' w' → K (A.put o.dst cv) w') → o.wpIn (fe ro) n P A w K Q

theorem evS_nodefer {P : Program} {o : Oper} {tm : Tr V} {H : Tr AObj} {nx : Nat} {r : V × Tr AObj × Nat} (he : evS P o tm H nx = some r) : ∀ c, o.op ≠ .defer c := by
  intro c e
  simp [evS, evR, evW, e] at he

theorem opOk_small {P : Program} {o : Oper} {tm : Tr V} {H : Tr AObj} {nx : Nat} {v : V} {H' : Tr AObj} {nx' : Nat} (he : evS P o tm H nx = some (v, H', nx')) : OpOk P o tm H nx v H' nx' := by
  obtain ⟨d, h1⟩ := evS_ok he
  refine ⟨d, fun η h w A ro n K Q p ra hg hk => ?_⟩
  obtain ⟨cv, w', η', hy, hv, hs⟩ := h1 η h w A p ra hg
  have hK := hk cv w' η' hv hs
  refine ⟨fun _ _ => trivial, ?_⟩
  rw [Oper.semAt_eq _ _ _ (evS_nodefer he)]
  rcases hy with hy | ⟨hy, rfl⟩
  · rw [hy]; exact hK
  · rw [hy]; exact hK

theorem opOk_big {P : Program} (hN : NoNum P) {F : Fns} (hF : OpsOk P F) {o : Oper} {tm : Tr V} {H : Tr AObj} {nx : Nat} {v : V} {H' : Tr AObj} {nx' : Nat} (he : evB F P o tm H nx = some (v, H', nx')) : OpOk P o tm H nx v H' nx' := by
  obtain ⟨dst, op, type, pos, after, guard⟩ := o
  unfold evB at he
  cases op <;> simp only at he <;> try (cases he; done)
  rename_i c
  split at he
  · rename_i f args hw
    obtain ⟨hfn, d, hc⟩ := hF.call _ _ _ _ _ _ _ he
    refine ⟨d, fun η h w A ro n K Q p ra hg hk => ⟨fun _ _ => trivial, ?_⟩⟩
    have hwho := whom_ok hN hw ra hg (dst := dst) (type := type) (pos := pos) (after := after) (guard := guard) w
    obtain ⟨cargs, hvl, hrun⟩ := hwho hfn
    rw [Oper.semAt_eq _ _ _ (fun c e => by cases e), hrun]
    refine ⟨fun hd => by simp [fe] at hd, calls_fe ((hc η h w cargs p hvl hg).mono ?_)⟩
    rintro e w' ⟨cv, η', rfl, hv, hs⟩
    exact hk cv w' η' hv hs
  · rename_i l args hw
    obtain ⟨d, hc⟩ := hF.round _ _ _ _ _ _ _ he
    refine ⟨d, fun η h w A ro n K Q p ra hg hk => ⟨fun _ _ => trivial, ?_⟩⟩
    have hwho := whom_ok hN hw ra hg (dst := dst) (type := type) (pos := pos) (after := after) (guard := guard) w
    obtain ⟨cargs, L, hvl, hL, hrun⟩ := hwho
    obtain ⟨f, tmps, assign, body, hy, hr⟩ := hc η h w cargs L p hvl hg hL
    rw [Oper.semAt_eq _ _ _ (fun c e => by cases e), hrun, hy]
    refine ⟨fun hd => by simp [fe] at hd, RoundIn.mono (show RoundIn (fe ro) (n - 1) P L.1 f tmps assign body w _ from hr (n - 1)) ?_⟩
    rintro e w' ⟨cv, η', rfl, hv, hs⟩
    exact hk cv w' η' hv hs
  · cases he

theorem RA.putA {η : Env} {tm tm' : Tr V} {A : Act} {nt : Nat} (ra : RA η tm A.tmps) (hn : A.tmps.size = nt) {dst : Option Tmp} {v : V} {cv : Value} (hp : putA nt tm dst v = some tm') (hv : v.conc η = some cv) :
    RA η tm' (A.put dst cv).tmps ∧ (A.put dst cv).tmps.size = nt ∧ (A.put dst cv).defers = A.defers := by
  unfold Ev.putA at hp
  cases dst with
  | none => cases hp; exact ⟨ra, hn, rfl⟩
  | some d =>
    simp only at hp
    split at hp
    · rename_i hlt
      cases hp
      exact ⟨ra.put (by rw [hn]; exact blt_lt hlt) hv, by simp [Act.put, hn], rfl⟩
    · cases hp

theorem glob_mono {P : Program} {η η' : Env} (h : η.glob P) (hl : η.le η') : η'.glob P := fun g hg => (hl.blk g _ (h g hg)).1

theorem evOps_ok {P : Program} (hN : NoNum P) {F : Fns} (hF : OpsOk P F) {ops : Array Oper} {nt : Nat} : ∀ (l : List Oper) (tm : Tr V) (H : Tr AObj) (nx : Nat) (tm' : Tr V) (H' : Tr AObj) (nx' : Nat), evOps F P ops nt l tm H nx = some (tm', H', nx') →
    Dm H.get H'.get nx nx' ∧ ∀ (η : Env) (h : Hp) (w : World) (A : Act) (ro : Option Nat) (n : Nat) (Q : Exit → Act → World → Prop), Pre η h w H.get nx nx' → RA η tm A.tmps → A.tmps.size = nt → η.glob P →
      (∀ η' w' A', Stp η h w H.get H'.get nx nx' η' w' → RA η' tm' A'.tmps → A'.tmps.size = nt → A'.defers = A.defers → Q .normal A' w') → wpListIn (fe ro) n P ops Q l A w := by
  intro l
  induction l with
  | nil =>
    intro tm H nx tm' H' nx' he
    simp only [evOps] at he
    cases he
    exact ⟨Dm.refl _ _, fun η h w A ro n Q p ra hn hg hQ => hQ η w A (Stp.refl p.ext p.rh) ra hn rfl⟩
  | cons o l ih =>
    intro tm H nx tm' H' nx' he
    simp only [evOps] at he
    split at he
    · rename_i hgd
      split at he
      · rename_i v H1 nx1 hop
        split at he
        · rename_i tm1 hput
          have hok : OpOk P o tm H nx v H1 nx1 := by
            cases hc : isCall o.op with
            | true => rw [hc] at hop; exact opOk_big hN hF hop
            | false => rw [hc] at hop; exact opOk_small hop
          obtain ⟨d1, h1⟩ := hok
          obtain ⟨d2, h2⟩ := ih tm1 H1 nx1 tm' H' nx' he
          refine ⟨d1.trans d2, fun η h w A ro n Q p ra hn hg hQ => ?_⟩
          unfold wpListIn
          rw [evGuard_ok hgd ra, if_pos rfl]
          refine h1 η h w A ro n _ Q (p.less d2.le) ra hg (fun cv w' η' hv hs => ?_)
          obtain ⟨ra1, hn1, hd1⟩ := (ra.mono hs.le).putA hn hput hv
          refine h2 η' _ w' _ ro n Q (p.next d1 hs) ra1 hn1 (glob_mono hg hs.le) (fun η2 w2 A2 hs2 ra2 hn2 hd2 => ?_)
          exact hQ η2 w2 A2 (Stp.trans d1 d2 hs hs2) ra2 hn2 (hd2.trans hd1)
        · cases he
      · cases he
    · rename_i hgd
      split at he
      · rename_i tm1 hput
        obtain ⟨d2, h2⟩ := ih tm1 H nx tm' H' nx' he
        refine ⟨d2, fun η h w A ro n Q p ra hn hg hQ => ?_⟩
        unfold wpListIn
        rw [evGuard_ok hgd ra, if_neg (by simp)]
        refine ⟨fun _ _ => trivial, ?_⟩
        obtain ⟨ra1, hn1, hd1⟩ := ra.putA hn hput (cv := Go.undef) rfl
        exact h2 η h w _ ro n Q p ra1 hn1 hg (fun η2 w2 A2 hs2 ra2 hn2 hd2 => hQ η2 w2 A2 hs2 ra2 hn2 (hd2.trans hd1))
      · cases he
    · cases he

end Go.Proofs.YtphpkalbbmlgoaaGreatDoor.Ev

namespace Go.Proofs.YtphpkalbbmlgoaaGreatDoor.Ev
open Go

section agree
variable {K X : Type} {n : Nat} {s : Nat → K → X} {M : Nat → K → Prop} {anc : Nat → Nat → Prop}

def Agree (n : Nat) (s : Nat → K → X) (M : Nat → K → Prop) (L : Nat → Prop) (x : K → X) : Prop :=
  ∀ k, ∃ m, m ≤ n ∧ x k = s m k ∧ (∀ i, i < m → M i k → L i) ∧ (∀ i, m ≤ i → i < n → M i k → ¬ L i)

theorem stay (hs : ∀ i k, i < n → ¬ M i k → s (i + 1) k = s i k) (k : K) : ∀ (d a : Nat), a + d ≤ n → (∀ i, a ≤ i → i < a + d → ¬ M i k) → s (a + d) k = s a k
  | 0, _, _, _ => rfl
  | d + 1, a, h, hn => by
    have := stay hs k d a (by omega) (fun i h1 h2 => hn i h1 (by omega))
    rw [← this]
    exact hs (a + d) k (by omega) (hn (a + d) (by omega) (by omega))

theorem Agree.start : Agree n s M (fun _ => False) (s 0) := fun k => ⟨0, Nat.zero_le _, rfl, fun i h => by omega, fun _ _ _ _ h => h⟩

theorem Agree.look (hs : ∀ i k, i < n → ¬ M i k → s (i + 1) k = s i k) (hlt : ∀ i j, anc i j → j < i) {L : Nat → Prop} {x : K → X} (ag : Agree n s M L x) {i : Nat} (hi : i < n) (hL : ¬ L i) (hup : ∀ j, anc i j → L j)
    (hdn : ∀ j, anc j i → ¬ L j) {k : K} (ho : ∀ j, j < n → j ≠ i → M j k → anc i j ∨ anc j i) : x k = s i k := by
  obtain ⟨m, hm, hx, h1, h2⟩ := ag k
  rw [hx]
  rcases Nat.lt_or_ge i m with h | h
  · obtain ⟨d, rfl⟩ : ∃ d, m = i + d := ⟨m - i, by omega⟩
    refine stay hs k d i hm (fun j hj1 hj2 hM => ?_)
    have hLj := h1 j hj2 hM
    by_cases e : j = i
    · subst e; exact hL hLj
    · rcases ho j (by omega) e hM with h | h
      · have := hlt _ _ h; omega
      · exact hdn j h hLj
  · obtain ⟨d, rfl⟩ : ∃ d, i = m + d := ⟨i - m, by omega⟩
    refine (stay hs k d m (by omega) (fun j hj1 hj2 hM => ?_)).symm
    have hLj := h2 j hj1 (by omega) hM
    rcases ho j (by omega) (by omega) hM with h | h
    · exact hLj (hup j h)
    · have := hlt _ _ h; omega

theorem Agree.step (hlt : ∀ i j, anc i j → j < i) {L : Nat → Prop} {x x' : K → X} (ag : Agree n s M L x) {i : Nat} (hi : i < n) (hup : ∀ j, anc i j → L j) (hdn : ∀ j, anc j i → ¬ L j)
    (ho : ∀ k, M i k → ∀ j, j < n → j ≠ i → M j k → anc i j ∨ anc j i) (h1 : ∀ k, M i k → x' k = s (i + 1) k) (h2 : ∀ k, ¬ M i k → x' k = x k) : Agree n s M (fun j => L j ∨ j = i) x' := by
  intro k
  by_cases hM : M i k
  · refine ⟨i + 1, hi, h1 k hM, fun j hj hMj => ?_, fun j hj1 hj2 hMj => ?_⟩
    · by_cases e : j = i
      · exact .inr e
      · rcases ho k hM j (by omega) e hMj with h | h
        · exact .inl (hup j h)
        · have := hlt _ _ h; omega
    · rintro (h | h)
      · rcases ho k hM j hj2 (by omega) hMj with h' | h'
        · have := hlt _ _ h'; omega
        · exact hdn j h' h
      · omega
  · obtain ⟨m, hm, hx, g1, g2⟩ := ag k
    refine ⟨m, hm, (h2 k hM).trans hx, fun j hj hMj => .inl (g1 j hj hMj), fun j hj1 hj2 hMj => ?_⟩
    rintro (h | h)
    · exact g2 j hj1 hj2 hMj h
    · subst h; exact hM hMj

theorem Agree.done (hs : ∀ i k, i < n → ¬ M i k → s (i + 1) k = s i k) {L : Nat → Prop} {x : K → X} (ag : Agree n s M L x) (hL : ∀ i, i < n → L i) : x = s n := by
  funext k
  obtain ⟨m, hm, hx, _, h2⟩ := ag k
  rw [hx]
  obtain ⟨d, rfl⟩ : ∃ d, n = m + d := ⟨n - m, by omega⟩
  exact (stay hs k d m (Nat.le_refl _) (fun j hj1 hj2 hM => h2 j hj1 hj2 hM (hL j hj2))).symm

end agree

theorem ancs_prefix : ∀ (l : List Oper) (acc : List Nat) (i : Nat), i < acc.length → (ancs l acc)[i]? = acc[i]? := by
  intro l
  induction l with
  | nil => intro acc i h; rfl
  | cons o l ih =>
    intro acc i h
    simp only [ancs]
    rw [ih _ i (by simp; omega), List.getElem?_append, if_pos h]

theorem anc1_congr {acc A : List Nat} (h : ∀ i, i < acc.length → A[i]? = acc[i]?) : ∀ (l : List Edge) (j : Nat), (anc1 acc l).testBit j = true → ∃ e ∈ l, Region.binds .any e = true ∧ e.on < acc.length ∧ (e.on = j ∨ (A.getD e.on 0).testBit j = true) := by
  intro l
  induction l with
  | nil => intro j hj; simp [anc1] at hj
  | cons e l ih =>
    intro j hj
    simp only [anc1] at hj
    split at hj
    · rename_i hb
      rw [Bool.and_eq_true] at hb
      have hlt := blt_lt hb.2
      have e1 : Nat.lor (Nat.lor (2 ^ e.on) (acc.getD e.on 0)) (anc1 acc l) = (2 ^ e.on ||| acc.getD e.on 0) ||| anc1 acc l := rfl
      rw [e1, Nat.testBit_or, Nat.testBit_or, Bool.or_eq_true, Bool.or_eq_true] at hj
      rcases hj with (hj | hj) | hj
      · rw [Nat.testBit_two_pow] at hj
        exact ⟨e, by simp, hb.1, hlt, .inl (by simpa using hj)⟩
      · refine ⟨e, by simp, hb.1, hlt, .inr ?_⟩
        have : A.getD e.on 0 = acc.getD e.on 0 := by rw [List.getD_eq_getElem?_getD, List.getD_eq_getElem?_getD, h _ hlt]
        rw [this]; exact hj
      · obtain ⟨e', he', h'⟩ := ih j hj
        exact ⟨e', by simp [he'], h'⟩
    · obtain ⟨e', he', h'⟩ := ih j hj
      exact ⟨e', by simp [he'], h'⟩

theorem ancs_spec : ∀ (l : List Oper) (acc : List Nat) (k : Nat) (o : Oper), l[k]? = some o → ∀ j, ((ancs l acc).getD (acc.length + k) 0).testBit j = true →
    ∃ e ∈ o.after, Region.binds .any e = true ∧ e.on < acc.length + k ∧ (e.on = j ∨ ((ancs l acc).getD e.on 0).testBit j = true) := by
  intro l
  induction l with
  | nil => intro acc k o h; simp at h
  | cons p l ih =>
    intro acc k o h j hj
    cases k with
    | zero =>
      simp at h; subst h
      simp only [ancs, Nat.add_zero] at hj ⊢
      have hpre := ancs_prefix l (acc ++ [anc1 acc p.after.toList]) acc.length (by simp)
      rw [List.getD_eq_getElem?_getD, hpre] at hj
      simp at hj
      obtain ⟨e, he, hb, hlt, h'⟩ := anc1_congr (A := ancs l (acc ++ [anc1 acc p.after.toList])) (fun i hi => by rw [ancs_prefix _ _ i (by simp; omega), List.getElem?_append, if_pos hi]) p.after.toList j hj
      exact ⟨e, by simpa using he, hb, hlt, h'⟩
    | succ k =>
      simp only [ancs] at hj ⊢
      have := ih (acc ++ [anc1 acc p.after.toList]) k o (by simpa using h) j (by rw [show (acc ++ [anc1 acc p.after.toList]).length + k = acc.length + (k + 1) by simp; omega]; exact hj)
      obtain ⟨e, he, hb, hlt, h'⟩ := this
      exact ⟨e, he, hb, by simp at hlt; omega, h'⟩

theorem ancs_none : ∀ (l : List Oper) (acc : List Nat), (ancs l acc).length = acc.length + l.length := by
  intro l
  induction l with
  | nil => intro acc; simp [ancs]
  | cons o l ih => intro acc; simp only [ancs, ih]; simp; omega

def Anc (ops : Array Oper) (i j : Nat) : Prop := bitA (ancs ops.toList []) i j = true

theorem Anc.edge {ops : Array Oper} {i j : Nat} (h : Anc ops i j) : ∃ o, ops[i]? = some o ∧ ∃ e ∈ o.after, Region.binds .any e = true ∧ e.on < i ∧ (e.on = j ∨ Anc ops e.on j) := by
  unfold Anc bitA at h
  cases ho : ops[i]? with
  | none =>
    have hge : ops.size ≤ i := by
      rcases Nat.lt_or_ge i ops.size with h' | h'
      · simp [h'] at ho
      · exact h'
    rw [List.getD_eq_getElem?_getD, List.getElem?_eq_none (by rw [ancs_none]; simp; omega)] at h
    simp at h
  | some o =>
    obtain ⟨e, he, hb, hlt, h'⟩ := ancs_spec ops.toList [] i o (by simpa using ho) j (by simpa using h)
    exact ⟨o, rfl, e, he, hb, by simpa using hlt, h'⟩

theorem Anc.lt {ops : Array Oper} : ∀ {i j : Nat}, Anc ops i j → j < i := by
  intro i
  induction i using Nat.strongRecOn with
  | _ i ih =>
    intro j h
    obtain ⟨o, _, e, _, _, hlt, h'⟩ := h.edge
    rcases h' with rfl | h'
    · exact hlt
    · have := ih e.on hlt h'; omega

def Closed (ops : Array Oper) (L : Nat → Prop) : Prop := ∀ i o, ops[i]? = some o → L i → ∀ e ∈ o.after, Region.binds .any e = true → L e.on

theorem Anc.closed {ops : Array Oper} {L : Nat → Prop} (hc : Closed ops L) : ∀ {i j : Nat}, Anc ops i j → L i → L j := by
  intro i
  induction i using Nat.strongRecOn with
  | _ i ih =>
    intro j h hL
    obtain ⟨o, ho, e, he, hb, hlt, h'⟩ := h.edge
    have := hc i o ho hL e he hb
    rcases h' with rfl | h'
    · exact this
    · exact ih e.on hlt h' this

theorem Anc.ready {ops : Array Oper} {L : Nat → Prop} (hc : Closed ops L) {i : Nat} {o : Oper} (ho : ops[i]? = some o) (hr : ∀ e ∈ o.after, Region.binds .any e = true → L e.on) {j : Nat} (h : Anc ops i j) : L j := by
  obtain ⟨o', ho', e, he, hb, hlt, h'⟩ := h.edge
  rw [ho] at ho'; cases ho'
  have := hr e he hb
  rcases h' with rfl | h'
  · exact this
  · exact h'.closed hc this

theorem elemN_iff {b : Nat} : ∀ {l : List Nat}, elemN b l = true ↔ b ∈ l
  | [] => by simp [elemN]
  | x :: l => by
    simp only [elemN]
    cases h : Nat.beq b x with
    | true => simp [Nat.eq_of_beq_eq_true h]
    | false =>
      have : b ≠ x := fun e => by rw [e] at h; simp at h
      simp [this, elemN_iff (l := l)]

theorem disj_ok {m : List Nat} : ∀ {l : List Nat}, disj l m = true → ∀ b ∈ l, b ∉ m
  | [], _, b, hb => by cases hb
  | x :: l, h, b, hb => by
    simp only [disj] at h
    split at h
    · cases h
    · rename_i hx
      rcases List.mem_cons.1 hb with rfl | hb
      · intro hc; rw [elemN_iff.2 hc] at hx; cases hx
      · exact disj_ok h b hb

theorem noneAt_ok {G : Tr AObj} : ∀ {l : List Nat}, noneAt G l = true → ∀ b ∈ l, G.get b = none
  | [], _, b, hb => by cases hb
  | x :: l, h, b, hb => by
    simp only [noneAt] at h
    split at h
    · rename_i hx
      rcases List.mem_cons.1 hb with rfl | hb
      · exact hx
      · exact noneAt_ok h b hb
    · cases h

theorem atB_ok {a b : At} (h : atB a b = true) : a = b := by
  unfold atB at h
  split at h <;> first
    | (simp only [Bool.and_eq_true, Nat.beq_eq, beq_iff_eq] at h; simp_all; done)
    | cases h
    | rfl

theorem trB_ok : ∀ {t u : Tr At}, trB t u = true → t = u := by
  intro t
  induction t with
  | nil => intro u h; cases u with | nil => rfl | node _ _ _ _ _ _ _ _ _ => cases h
  | node v c0 c1 c2 c3 c4 c5 c6 c7 ih0 ih1 ih2 ih3 ih4 ih5 ih6 ih7 =>
    intro u h
    cases u with
    | nil => cases h
    | node v' d0 d1 d2 d3 d4 d5 d6 d7 =>
      simp only [trB] at h
      split at h
      · rename_i hv
        simp only [Bool.and_eq_true] at h
        obtain ⟨⟨⟨⟨⟨⟨⟨h0, h1⟩, h2⟩, h3⟩, h4⟩, h5⟩, h6⟩, h7⟩ := h
        have e1 : v = v' := by
          cases v <;> cases v' <;> simp only [optB] at hv <;> first | rfl | cases hv | rw [atB_ok hv]
        rw [e1, ih0 h0, ih1 h1, ih2 h2, ih3 h3, ih4 h4, ih5 h5, ih6 h6, ih7 h7]
      · cases h

theorem atLB_ok : ∀ {l m : List At}, atLB l m = true → l = m
  | [], [], _ => rfl
  | a :: l, b :: m, h => by
    simp only [atLB] at h
    split at h
    · rename_i hab
      rw [atB_ok hab, atLB_ok h]
    · cases h
  | [], _ :: _, h => by cases h
  | _ :: _, [], h => by cases h

theorem entsB_ok : ∀ {l m : List Ent}, entsB l m = true → l = m
  | [], [], _ => rfl
  | ((g, k), (g', v), n) :: l, ((g2, k2), (g2', v2), n2) :: m, h => by
    simp only [entsB] at h
    split at h
    · rename_i hab
      simp only [Bool.and_eq_true, beq_iff_eq] at hab
      obtain ⟨rfl, rfl, h3, h4, h5⟩ := hab
      rw [Nat.eq_of_beq_eq_true h3, atLB_ok h4, atLB_ok h5, entsB_ok h]
    · cases h
  | [], _ :: _, h => by cases h
  | _ :: _, [], h => by cases h

theorem objB_ok {a b : Option AObj} (h : objB a b = true) : a = b := by
  unfold objB at h
  split at h
  · rfl
  · simp only [Bool.and_eq_true] at h
    obtain ⟨⟨h1, h2⟩, h3⟩ := h
    rw [Nat.eq_of_beq_eq_true h1, Nat.eq_of_beq_eq_true h2, trB_ok h3]
  · simp only [Bool.and_eq_true] at h
    obtain ⟨⟨⟨h1, h2⟩, h4⟩, h3⟩ := h
    rw [Nat.eq_of_beq_eq_true h1, Nat.eq_of_beq_eq_true h2, Nat.eq_of_beq_eq_true h4, trB_ok h3]
  · simp only [Bool.and_eq_true] at h
    obtain ⟨⟨h1, h2⟩, h3⟩ := h
    rw [Nat.eq_of_beq_eq_true h1, Nat.eq_of_beq_eq_true h2, trB_ok h3]
  · simp only [Bool.and_eq_true] at h
    rw [Nat.eq_of_beq_eq_true h.1, entsB_ok h.2]
  · cases h

theorem keptAt_ok {s : Sp} : ∀ {l : List Nat}, keptAt s l = true → ∀ b ∈ l, b < s.nx ∧ (s.G.get b = none ∨ s.G.get b = s.G'.get b)
  | [], _, b, hb => by cases hb
  | x :: l, h, b, hb => by
    simp only [keptAt] at h
    split at h
    · rename_i hlt
      split at h
      · rename_i hx
        rcases List.mem_cons.1 hb with rfl | hb
        · exact ⟨blt_lt hlt, .inl hx⟩
        · exact keptAt_ok h b hb
      · split at h
        · rename_i ho
          rcases List.mem_cons.1 hb with rfl | hb
          · exact ⟨blt_lt hlt, .inr (objB_ok ho)⟩
          · exact keptAt_ok h b hb
        · cases h
    · cases h

theorem get_mergeL (H G : Tr AObj) : ∀ (l : List Nat) (b : Nat), (mergeL H G l).get b = (if b ∈ l then G.get b else H.get b)
  | [], b => by simp [mergeL]
  | x :: l, b => by
    simp only [mergeL, Tr.get_put, get_mergeL H G l b, List.mem_cons]
    by_cases e : b = x
    · subst e; simp
    · simp [e]

theorem get_dropL (H : Tr AObj) : ∀ (l : List Nat) (b : Nat), (dropL H l).get b = (if b ∈ l then none else H.get b)
  | [], b => by simp [dropL]
  | x :: l, b => by
    simp only [dropL, Tr.get_put, get_dropL H l b, List.mem_cons]
    by_cases e : b = x
    · subst e; simp
    · simp [e]

theorem get_restr (H : Tr AObj) : ∀ (l : List Nat) (b : Nat), (restr H l).get b = (if b ∈ l then H.get b else none)
  | [], b => by simp [restr, Tr.get_nil]
  | x :: l, b => by
    simp only [restr]
    split
    · rename_i o ho
      simp only [Tr.get_put, get_restr H l b, List.mem_cons]
      by_cases e : b = x
      · subst e; simp [ho]
      · simp [e]
    · rename_i ho
      simp only [get_restr H l b, List.mem_cons]
      by_cases e : b = x
      · subst e; simp [ho]
      · simp [e]

theorem get_restrT (tm : Tr V) : ∀ (l : List Tmp) (b : Nat), (restrT tm l).get b = (if b ∈ l then tm.get b else none)
  | [], b => by simp [restrT, Tr.get_nil]
  | x :: l, b => by
    simp only [restrT]
    split
    · rename_i o ho
      simp only [Tr.get_put, get_restrT tm l b, List.mem_cons]
      by_cases e : b = x
      · subst e; simp [ho]
      · simp [e]
    · rename_i ho
      simp only [get_restrT tm l b, List.mem_cons]
      by_cases e : b = x
      · subst e; simp [ho]
      · simp [e]

theorem mem_rng : ∀ {n a b : Nat}, b ∈ rng a n ↔ a ≤ b ∧ b < a + n
  | 0, a, b => by simp [rng]
  | n + 1, a, b => by simp only [rng, List.mem_cons, mem_rng (n := n)]; omega

theorem mem_changed {G G' : Tr AObj} : ∀ {l : List Nat} {b : Nat}, b ∈ l → b ∉ changed G G' l → G.get b = G'.get b
  | [], b, hb, _ => by cases hb
  | x :: l, b, hb, hn => by
    simp only [changed] at hn
    split at hn
    · rename_i ho
      rcases List.mem_cons.1 hb with rfl | hb
      · exact objB_ok ho
      · exact mem_changed hb hn
    · rcases List.mem_cons.1 hb with rfl | hb
      · exact absurd (by simp) hn
      · exact mem_changed hb (fun hc => hn (by simp [hc]))

theorem changed_sub {G G' : Tr AObj} : ∀ {l : List Nat} {b : Nat}, b ∈ changed G G' l → b ∈ l
  | [], b, hb => by cases hb
  | x :: l, b, hb => by
    simp only [changed] at hb
    split at hb
    · simp [changed_sub hb]
    · rcases List.mem_cons.1 hb with rfl | hb
      · simp
      · simp [changed_sub hb]

theorem allLt_ok {n : Nat} : ∀ {l : List Nat}, allLt n l = true → ∀ b ∈ l, b < n
  | [], _, b, hb => by cases hb
  | x :: l, h, b, hb => by
    simp only [allLt] at h
    split at h
    · rename_i hx
      rcases List.mem_cons.1 hb with rfl | hb
      · exact blt_lt hx
      · exact allLt_ok h b hb
    · cases h

end Go.Proofs.YtphpkalbbmlgoaaGreatDoor.Ev

namespace Go.Proofs.YtphpkalbbmlgoaaGreatDoor.Ev
open Go

abbrev Stt := Tr V × Tr AObj × Nat

def Mb (a b : Stt) (k : Nat) : Prop := b.2.1.get k ≠ a.2.1.get k ∨ (a.2.2 ≤ k ∧ k < b.2.2)

structure Sok (P : Program) (ops : Array Oper) (nt : Nat) (o : Oper) (s : Sp) (a b : Stt) : Prop where
  put : putA nt a.1 o.dst s.v = some b.1
  done : (evGuard ops o (restrT a.1 (o.looksAt ops)) = some true ∧ OpOk P o (restrT a.1 (o.looksAt ops)) s.G a.2.2 s.v s.G' b.2.2) ∨
    (evGuard ops o (restrT a.1 (o.looksAt ops)) = some false ∧ s.v = V.undef ∧ s.G = .nil ∧ s.G' = .nil ∧ a.2 = b.2)
  sub : ∀ k ob, s.G.get k = some ob → a.2.1.get k = some ob
  m1 : ∀ k, (s.G.get k ≠ none ∨ (a.2.2 ≤ k ∧ k < b.2.2)) → b.2.1.get k = s.G'.get k
  m2 : ∀ k, ¬ (s.G.get k ≠ none ∨ (a.2.2 ≤ k ∧ k < b.2.2)) → b.2.1.get k = a.2.1.get k
  nx : s.nx = a.2.2
  le : a.2.2 ≤ b.2.2
  small : s.big = false → (∀ k, s.G.get k ≠ none → k ∈ s.see) ∧ (∀ k, Mb a b k → k ∈ s.mods)

theorem evD1_ok {P : Program} (hN : NoNum P) {F : Fns} (hF : OpsOk P F) {ops : Array Oper} {nt : Nat} {A : List Nat} {i : Nat} {rs : List Sp} {o : Oper} {tm tm' : Tr V} {H : Tr AObj} {nx : Nat} {v : V} {s : Sp}
    (hg : evGuard ops o (restrT tm (o.looksAt ops)) = some true) (he : evD1 F P A i rs o (restrT tm (o.looksAt ops)) H nx = some (v, s)) (hp : putA nt tm o.dst v = some tm') :
    s.idx = i ∧ Sok P ops nt o s (tm, H, nx) (tm', s.H', s.nx') := by
  unfold evD1 at he
  split at he
  · split at he
    · rename_i hlt
      split at he
      · rename_i v' H1 nx' hb
        cases he
        have hok := opOk_big hN hF hb
        have hms := allLt_ok hlt
        refine ⟨rfl, hp, .inl ⟨hg, hok⟩, ?_, ?_, ?_, rfl, hok.1.le, fun h => by cases h⟩
        · intro k ob hk
          simp only [get_dropL] at hk
          split at hk
          · cases hk
          · exact hk
        · intro k hk
          simp only [get_mergeL, get_dropL] at hk ⊢
          rw [if_neg]
          intro hc
          rcases hk with hk | hk
          · rw [if_pos hc] at hk; exact hk rfl
          · have := hms k hc; omega
        · intro k hk
          simp only [get_mergeL, get_dropL] at hk ⊢
          split
          · rfl
          · rename_i hc
            rw [if_neg hc] at hk
            have e1 : H.get k = none := Classical.byContradiction fun h => hk (.inl h)
            rw [e1]
            refine Classical.byContradiction fun h => hk ?_
            have := hok.1.dom k h
            simp only [get_dropL, if_neg hc] at this
            exact this
      · cases he
    · cases he
  · split at he
    · rename_i v' hr
      cases he
      have hok : OpOk P o (restrT tm (o.looksAt ops)) (restr H (needs P o (restrT tm (o.looksAt ops)))) nx v (restr H (needs P o (restrT tm (o.looksAt ops)))) nx := opOk_small (by unfold evS; rw [hr])
      refine ⟨rfl, hp, .inl ⟨hg, hok⟩, ?_, ?_, fun k _ => rfl, rfl, Nat.le_refl _, fun _ => ⟨?_, ?_⟩⟩
      · intro k ob hk
        simp only [get_restr] at hk
        split at hk
        · exact hk
        · cases hk
      · intro k hk
        simp only [get_restr] at hk ⊢
        rcases hk with hk | hk
        · split at hk
          · rw [if_pos (by assumption)]
          · exact absurd rfl hk
        · omega
      · intro k hk
        simp only [get_restr] at hk
        split at hk
        · assumption
        · exact absurd rfl hk
      · rintro k (hk | hk)
        · exact absurd rfl hk
        · simp only at hk; omega
    · rename_i hr
      split at he
      · rename_i v' G' nx' hw
        cases he
        have hok : OpOk P o (restrT tm (o.looksAt ops)) (restr H (needs P o (restrT tm (o.looksAt ops)))) nx v G' nx' := opOk_small (by unfold evS; rw [hr]; exact hw)
        have hle := hok.1.le
        have hsub : ∀ k ob, (restr H (needs P o (restrT tm (o.looksAt ops)))).get k = some ob → H.get k = some ob := by
          intro k ob hk
          simp only [get_restr] at hk
          split at hk
          · exact hk
          · cases hk
        refine ⟨rfl, hp, .inl ⟨hg, hok⟩, hsub, ?_, ?_, rfl, hle, fun _ => ⟨?_, ?_⟩⟩
        · intro k hk
          simp only [get_mergeL, List.mem_append, mem_rng]
          by_cases hc : k ∈ changed (restr H (needs P o (restrT tm (o.looksAt ops)))) G' (needs P o (restrT tm (o.looksAt ops))) ∨ nx ≤ k ∧ k < nx + (nx' - nx)
          · rw [if_pos hc]
          · rw [if_neg hc]
            rcases hk with hk | hk
            · have hin : k ∈ needs P o (restrT tm (o.looksAt ops)) := by
                simp only [get_restr] at hk
                split at hk
                · assumption
                · exact absurd rfl hk
              have := mem_changed hin (fun h => hc (.inl h))
              rw [← this, get_restr, if_pos hin]
            · exact absurd (.inr ⟨hk.1, by simp only at hk; omega⟩) hc
        · intro k hk
          simp only [get_mergeL, List.mem_append, mem_rng]
          by_cases hc : k ∈ changed (restr H (needs P o (restrT tm (o.looksAt ops)))) G' (needs P o (restrT tm (o.looksAt ops))) ∨ nx ≤ k ∧ k < nx + (nx' - nx)
          · rw [if_pos hc]
            rcases hc with hc | hc
            · have hin := changed_sub hc
              have e1 : (restr H (needs P o (restrT tm (o.looksAt ops)))).get k = none := Classical.byContradiction fun h => hk (.inl h)
              have e2 : G'.get k = none := Classical.byContradiction fun h => hk (hok.1.dom k h)
              rw [get_restr, if_pos hin] at e1
              rw [e1, e2]
            · exact absurd (.inr ⟨hc.1, by simp only; omega⟩) hk
          · rw [if_neg hc]
        · intro k hk
          simp only [get_restr] at hk
          split at hk
          · assumption
          · exact absurd rfl hk
        · rintro k (hk | hk)
          · simp only [get_mergeL, List.mem_append, mem_rng] at hk ⊢
            refine Classical.byContradiction fun hc => ?_
            rw [if_neg hc] at hk
            exact hk rfl
          · simp only [List.mem_append, mem_rng]
            exact .inr ⟨hk.1, by simp only at hk; omega⟩
      · cases he

theorem evD_ok {P : Program} (hN : NoNum P) {F : Fns} (hF : OpsOk P F) {ops : Array Oper} {nt : Nat} {A : List Nat} : ∀ (l : List Oper) (i : Nat) (rs : List Sp) (tm : Tr V) (H : Tr AObj) (nx : Nat) (tm' : Tr V) (H' : Tr AObj) (nx' : Nat) (ss : List Sp),
    evD F P ops nt A i l rs tm H nx = some (tm', H', nx', ss) →
    ∃ st : Nat → Stt, st 0 = (tm, H, nx) ∧ st l.length = (tm', H', nx') ∧ ∀ k o, l[k]? = some o → ∃ s, ss[k]? = some s ∧ s.idx = i + k ∧ Sok P ops nt o s (st k) (st (k + 1)) := by
  intro l
  induction l with
  | nil =>
    intro i rs tm H nx tm' H' nx' ss he
    simp only [evD] at he
    cases he
    exact ⟨fun _ => (tm, H, nx), rfl, rfl, fun k o hk => by simp at hk⟩
  | cons o l ih =>
    intro i rs tm H nx tm' H' nx' ss he
    simp only [evD] at he
    split at he
    · rename_i hg
      split at he
      · rename_i v s h1
        split at he
        · rename_i tm1 hp
          split at he
          · rename_i tm2 H2 nx2 ss' h2
            cases he
            obtain ⟨hidx, hok⟩ := evD1_ok hN hF hg h1 hp
            obtain ⟨st, e0, e1, hst⟩ := ih _ _ _ _ _ _ _ _ _ h2
            refine ⟨fun k => match k with | 0 => (tm, H, nx) | k + 1 => st k, rfl, e1, fun k o' hk => ?_⟩
            cases k with
            | zero =>
              simp at hk; subst hk
              refine ⟨s, rfl, hidx, ?_⟩
              show Sok P ops nt o s (tm, H, nx) (st 0)
              rw [e0]; exact hok
            | succ k =>
              obtain ⟨s', h3, h4, h5⟩ := hst k o' (by simpa using hk)
              exact ⟨s', by simpa using h3, by omega, h5⟩
          · cases he
        · cases he
      · cases he
    · rename_i hg
      split at he
      · rename_i tm1 hp
        split at he
        · rename_i tm2 H2 nx2 ss' h2
          cases he
          obtain ⟨st, e0, e1, hst⟩ := ih _ _ _ _ _ _ _ _ _ h2
          refine ⟨fun k => match k with | 0 => (tm, H, nx) | k + 1 => st k, rfl, e1, fun k o' hk => ?_⟩
          cases k with
          | zero =>
            simp at hk; subst hk
            refine ⟨_, rfl, rfl, ?_⟩
            show Sok P ops nt o _ (tm, H, nx) (st 0)
            rw [e0]
            refine ⟨hp, .inr ⟨hg, rfl, rfl, rfl, rfl⟩, fun k ob hk => by simp [Tr.get_nil] at hk, fun k hk => ?_, fun k _ => rfl, rfl, Nat.le_refl _, fun _ => ⟨fun k hk => by simp [Tr.get_nil] at hk, ?_⟩⟩
            · rcases hk with hk | hk
              · simp [Tr.get_nil] at hk
              · simp only at hk; omega
            · rintro k (hk | hk)
              · exact absurd rfl hk
              · simp only at hk; omega
          | succ k =>
            obtain ⟨s', h3, h4, h5⟩ := hst k o' (by simpa using hk)
            exact ⟨s', by simpa using h3, by omega, h5⟩
        · cases he
      · cases he
    · cases he

theorem pairsB_ok {A : List Nat} {r : Sp} : ∀ {l : List Sp}, pairsB A r l = true → ∀ s ∈ l, bitA A s.idx r.idx = true ∨ pairB r s = true
  | [], _, s, hs => by cases hs
  | x :: l, h, s, hs => by
    simp only [pairsB] at h
    split at h
    · rename_i hx
      rw [Bool.or_eq_true] at hx
      rcases List.mem_cons.1 hs with rfl | hs
      · exact hx
      · exact pairsB_ok h s hs
    · cases h

theorem chkAll_ok {A : List Nat} : ∀ {l : List Sp}, chkAll A l = true → ∀ (j k : Nat) (r s : Sp), j < k → l[j]? = some r → l[k]? = some s → bitA A s.idx r.idx = true ∨ pairB r s = true
  | [], _, j, k, r, s, _, hr, _ => by simp at hr
  | x :: l, h, j, k, r, s, hjk, hr, hs => by
    simp only [chkAll] at h
    split at h
    · rename_i hx
      cases k with
      | zero => omega
      | succ k =>
        cases j with
        | zero => simp at hr; subst hr; exact pairsB_ok hx s (List.mem_of_getElem? (by simpa using hs))
        | succ j => exact chkAll_ok h j k r s (by omega) (by simpa using hr) (by simpa using hs)
    · cases h

theorem pair_ok {P : Program} {ops : Array Oper} {nt : Nat} {o o' : Oper} {r s : Sp} {a b c d : Stt} (hr : Sok P ops nt o r a b) (hs : Sok P ops nt o' s c d) (h : pairB r s = true) :
    (∀ k, Mb a b k → s.G.get k = none) ∧ (∀ k, Mb c d k → r.G.get k = none) := by
  have key : ∀ {o o' : Oper} {r s : Sp} {a b c d : Stt}, Sok P ops nt o r a b → Sok P ops nt o' s c d → r.big = false → noneAt s.G r.mods = true → keptAt s r.see = true →
      (∀ k, Mb a b k → s.G.get k = none) ∧ (∀ k, Mb c d k → r.G.get k = none) := by
    intro o o' r s a b c d hr hs hb h1 h2
    obtain ⟨g1, g2⟩ := hr.small hb
    refine ⟨fun k hk => noneAt_ok h1 k (g2 k hk), fun k hk => ?_⟩
    refine Classical.byContradiction fun hc => ?_
    obtain ⟨k1, k2⟩ := keptAt_ok h2 k (g1 k hc)
    rw [hs.nx] at k1
    rcases hk with hk | hk
    · apply hk
      by_cases hG : s.G.get k ≠ none ∨ (c.2.2 ≤ k ∧ k < d.2.2)
      · rw [hs.m1 k hG]
        rcases k2 with k2 | k2
        · rcases hG with hG | hG
          · exact absurd k2 hG
          · omega
        · rcases hG with hG | hG
          · cases hGk : s.G.get k with
            | none => exact absurd hGk hG
            | some ob => rw [← k2, hGk]; exact (hs.sub k ob hGk).symm
          · omega
      · exact hs.m2 k hG
    · omega
  unfold pairB at h
  split at h
  · rename_i h1 h2
    rw [Bool.and_eq_true] at h
    obtain ⟨a1, a2⟩ := hr.small h1
    obtain ⟨b1, b2⟩ := hs.small h2
    exact ⟨fun k hk => Classical.byContradiction fun hc => disj_ok h.1 k (a2 k hk) (b1 k hc), fun k hk => Classical.byContradiction fun hc => disj_ok h.2 k (b2 k hk) (a1 k hc)⟩
  · rename_i h1 h2
    rw [Bool.and_eq_true] at h
    exact key hr hs h1 h.1 h.2
  · rename_i h1 h2
    rw [Bool.and_eq_true] at h
    obtain ⟨x, y⟩ := key hs hr h2 h.1 h.2
    exact ⟨y, x⟩
  · cases h

theorem writers_ok {A : List Nat} {i : Nat} {t : Tmp} : ∀ {l : List Oper} {j0 : Nat}, writers A i t j0 l = true → ∀ k o, l[k]? = some o → o.dst = some t → i = j0 + k ∨ bitA A i (j0 + k) = true ∨ bitA A (j0 + k) i = true
  | [], _, _, k, o, hk, _ => by simp at hk
  | x :: l, j0, h, k, o, hk, hd => by
    simp only [writers] at h
    have tail : writers A i t (j0 + 1) l = true → ∀ k', k = k' + 1 → i = j0 + k ∨ bitA A i (j0 + k) = true ∨ bitA A (j0 + k) i = true := by
      intro h' k' e
      subst e
      have := writers_ok h' k' o (by simpa using hk) hd
      rwa [show j0 + 1 + k' = j0 + (k' + 1) by omega] at this
    split at h
    · rename_i d hxd
      split at h
      · rename_i hdt
        split at h
        · rename_i hor
          cases k with
          | zero =>
            rw [Bool.or_eq_true, Bool.or_eq_true] at hor
            rcases hor with (hor | hor) | hor
            · exact .inl (Nat.eq_of_beq_eq_true hor)
            · exact .inr (.inl hor)
            · exact .inr (.inr hor)
          | succ k => exact tail h k rfl
        · cases h
      · rename_i hdt
        cases k with
        | zero => simp at hk; subst hk; rw [hxd] at hd; cases hd; simp at hdt
        | succ k => exact tail h k rfl
    · rename_i hxd
      cases k with
      | zero => simp at hk; subst hk; rw [hxd] at hd; cases hd
      | succ k => exact tail h k rfl

theorem tmpsOk1_ok {ops : Array Oper} {A : List Nat} {i : Nat} : ∀ {l : List Tmp}, tmpsOk1 ops A i l = true → ∀ t ∈ l, writers A i t 0 ops.toList = true
  | [], _, t, ht => by cases ht
  | x :: l, h, t, ht => by
    simp only [tmpsOk1] at h
    split at h
    · rename_i hx
      rcases List.mem_cons.1 ht with rfl | ht
      · exact hx
      · exact tmpsOk1_ok h t ht
    · cases h

theorem tmpsOk_ok {ops : Array Oper} {A : List Nat} : ∀ {l : List Oper} {i : Nat}, tmpsOk ops A i l = true → ∀ k o, l[k]? = some o → ∀ t ∈ namesOf ops o, writers A (i + k) t 0 ops.toList = true
  | [], _, _, k, o, hk, _, _ => by simp at hk
  | x :: l, i, h, k, o, hk, t, ht => by
    simp only [tmpsOk] at h
    split at h
    · rename_i hx
      cases k with
      | zero => simp at hk; subst hk; exact tmpsOk1_ok hx t ht
      | succ k =>
        have := tmpsOk_ok h k o (by simpa using hk) t ht
        rwa [show i + 1 + k = i + (k + 1) by omega] at this
    · cases h

end Go.Proofs.YtphpkalbbmlgoaaGreatDoor.Ev

namespace Go.Proofs.YtphpkalbbmlgoaaGreatDoor.Ev
open Go

theorem edges1_ok {i : Nat} : ∀ {l : List Edge}, edges1 i l = true → ∀ e ∈ l, Region.binds .any e = true → e.on < i
  | [], _, e, he, _ => by cases he
  | x :: l, h, e, he, hb => by
    simp only [edges1] at h
    split at h
    · rename_i hx
      rcases List.mem_cons.1 he with rfl | he
      · rw [hb] at hx; simp at hx; exact hx
      · exact edges1_ok h e he hb
    · cases h

theorem edgesOk_ok : ∀ {l : List Oper} {i : Nat}, edgesOk i l = true → ∀ k o, l[k]? = some o → ∀ e ∈ o.after, Region.binds .any e = true → e.on < i + k
  | [], _, _, k, o, hk, _, _, _ => by simp at hk
  | x :: l, i, h, k, o, hk, e, he, hb => by
    simp only [edgesOk] at h
    split at h
    · rename_i hx
      cases k with
      | zero => simp at hk; subst hk; exact edges1_ok hx e (by simpa using he) hb
      | succ k =>
        have := edgesOk_ok h k o (by simpa using hk) e he hb
        omega
    · cases h

def left : List Bool → Nat
  | [] => 0
  | b :: l => (if b then 0 else 1) + left l

theorem left_set : ∀ (l : List Bool) (i : Nat), l[i]? = some false → left (l.set i true) + 1 = left l
  | [], i, h => by simp at h
  | b :: l, 0, h => by simp at h; subst h; simp [left]; omega
  | b :: l, i + 1, h => by have := left_set l i (by simpa using h); simp only [List.set_cons_succ, left]; omega

theorem left_zero : ∀ (l : List Bool), left l = 0 → ∀ i, i < l.length → l[i]? = some true
  | [], _, i, hi => by simp at hi
  | b :: l, h, i, hi => by
    simp only [left] at h
    cases b with
    | false => simp at h
    | true =>
      cases i with
      | zero => rfl
      | succ i => simpa using left_zero l (by simpa using h) i (by simpa using hi)

theorem left_replicate : ∀ n, left (List.replicate n false) = n
  | 0 => rfl
  | n + 1 => by simp only [List.replicate_succ, left, left_replicate n]; simp; omega

theorem nx_mono {P : Program} {ops : Array Oper} {nt : Nat} {st : Nat → Stt} {ss : List Sp} (hst : ∀ k o, ops.toList[k]? = some o → ∃ s, ss[k]? = some s ∧ s.idx = 0 + k ∧ Sok P ops nt o s (st k) (st (k + 1))) :
    ∀ d k, k + d ≤ ops.size → (st k).2.2 ≤ (st (k + d)).2.2
  | 0, _, _ => Nat.le_refl _
  | d + 1, k, h => by
    have h1 := nx_mono hst d k (by omega)
    obtain ⟨s, _, _, hs⟩ := hst (k + d) ops[k + d] (by simp)
    exact Nat.le_trans h1 hs.le

theorem dm_chain {P : Program} {ops : Array Oper} {nt : Nat} {st : Nat → Stt} {ss : List Sp} (hst : ∀ k o, ops.toList[k]? = some o → ∃ s, ss[k]? = some s ∧ s.idx = 0 + k ∧ Sok P ops nt o s (st k) (st (k + 1))) :
    ∀ k, k ≤ ops.size → Dm (st 0).2.1.get (st k).2.1.get (st 0).2.2 (st k).2.2
  | 0, _ => Dm.refl _ _
  | k + 1, h => by
    have h1 := dm_chain hst k (by omega)
    obtain ⟨s, _, _, hs⟩ := hst k ops[k] (by simp)
    refine h1.trans ⟨hs.le, fun b hb => ?_⟩
    by_cases hG : s.G.get b ≠ none ∨ ((st k).2.2 ≤ b ∧ b < (st (k + 1)).2.2)
    · rcases hG with hG | hG
      · cases hGb : s.G.get b with
        | none => exact absurd hGb hG
        | some ob => exact .inl (by rw [hs.sub b ob hGb]; simp)
      · exact .inr hG
    · rw [hs.m2 b hG] at hb; exact .inl hb

theorem evDraw_ok {P : Program} (hN : NoNum P) (hmix : P.follows .mixedOrders = true) {F : Fns} (hF : OpsOk P F) {ops : Array Oper} {nt : Nat} {tm : Tr V} {H : Tr AObj} {nx : Nat} {tm' : Tr V} {H' : Tr AObj} {nx' : Nat}
    (he : evDraw F P ops nt tm H nx = some (tm', H', nx')) :
    Dm H.get H'.get nx nx' ∧ ∀ (η : Env) (h : Hp) (w : World) (A : Act) (ro : Option Nat) (n id : Nat) (Q : Exit → Act → World → Prop), Pre η h w H.get nx nx' → RA η tm A.tmps → A.tmps.size = nt → η.glob P →
      (∀ η' w' A', Stp η h w H.get H'.get nx nx' η' w' → RA η' tm' A'.tmps → A'.tmps.size = nt → A'.defers = A.defers → Q .normal A' w') → (Code.region id ops true).wpIn (fe ro) n P Q A w := by
  unfold evDraw at he
  split at he
  case h_2 => cases he
  rename_i tm' H' nx' ss hstat hev
  split at he
  case h_2 => cases he
  rename_i hchk
  cases he
  rw [Bool.and_eq_true] at hstat
  obtain ⟨hedges, htmps⟩ := hstat
  obtain ⟨st, e0, e1, hst⟩ := evD_ok hN hF _ _ _ _ _ _ _ _ _ _ hev
  simp only [Array.length_toList] at e1
  have hdm := dm_chain hst
  have hmono := nx_mono hst
  have hD : Dm H.get H'.get nx nx' := by have := hdm ops.size (Nat.le_refl _); rw [e0, e1] at this; exact this
  refine ⟨hD, fun η0 h0 w0 A0 ro n id Q p0 ra0 hn0 hg0 hQ => ?_⟩
  -- facts on the operations
  have hop : ∀ i o, ops[i]? = some o → ∃ s, ss[i]? = some s ∧ s.idx = i ∧ Sok P ops nt o s (st i) (st (i + 1)) := fun i o ho => by
    obtain ⟨s, h1, h2, h3⟩ := hst i o (by simpa using ho)
    exact ⟨s, h1, by omega, h3⟩
  have hat : ∀ i, i < ops.size → ∃ o s, ops[i]? = some o ∧ ss[i]? = some s ∧ s.idx = i ∧ Sok P ops nt o s (st i) (st (i + 1)) := fun i hi => by
    obtain ⟨s, h1, h2, h3⟩ := hop i ops[i] (by simp)
    exact ⟨ops[i], s, by simp, h1, h2, h3⟩
  -- two operations that are not ordered
  have hpair : ∀ i j, i < ops.size → j < ops.size → i ≠ j → ¬ Anc ops i j → ¬ Anc ops j i → ∀ s, ss[j]? = some s → ∀ k, Mb (st i) (st (i + 1)) k → s.G.get k = none := by
    intro i j hi hj hne n1 n2 s hs k hk
    obtain ⟨oi, si, h1, h2, h3, h4⟩ := hat i hi
    obtain ⟨oj, sj, g1, g2, g3, g4⟩ := hat j hj
    rw [hs] at g2; cases g2
    rcases Nat.lt_or_ge i j with hlt | hge
    · rcases chkAll_ok hchk i j si s hlt h2 hs with hb | hb
      · rw [h3, g3] at hb; exact absurd hb n2
      · exact (pair_ok h4 g4 hb).1 k hk
    · rcases chkAll_ok hchk j i s si (by omega) hs h2 with hb | hb
      · rw [h3, g3] at hb; exact absurd hb n1
      · exact (pair_ok g4 h4 hb).2 k hk
  have hnew : ∀ i, i < ops.size → ∀ s, ss[i]? = some s → ∀ k, Mb (st i) (st (i + 1)) k → s.G.get k = none → (st i).2.2 ≤ k ∧ k < (st (i + 1)).2.2 := by
    intro i hi s hs k hM hG
    obtain ⟨o, s', h1, h2, h3, h4⟩ := hat i hi
    rw [hs] at h2; cases h2
    refine Classical.byContradiction fun hc => ?_
    rcases hM with hM | hM
    · exact hM (h4.m2 k (by rintro (hx | hx); exact hx hG; exact hc hx))
    · exact hc hM
  have hord : ∀ i, i < ops.size → ∀ k, Mb (st i) (st (i + 1)) k → ∀ j, j < ops.size → j ≠ i → Mb (st j) (st (j + 1)) k → Anc ops i j ∨ Anc ops j i := by
    intro i hi k hMi j hj hne hMj
    refine Classical.byContradiction fun hc => ?_
    have n1 : ¬ Anc ops i j := fun h => hc (.inl h)
    have n2 : ¬ Anc ops j i := fun h => hc (.inr h)
    obtain ⟨oi, si, h1, h2, h3, h4⟩ := hat i hi
    obtain ⟨oj, sj, g1, g2, g3, g4⟩ := hat j hj
    have a1 := hnew i hi si h2 k hMi (hpair j i hj hi hne n2 n1 si h2 k hMj)
    have a2 := hnew j hj sj g2 k hMj (hpair i j hi hj (Ne.symm hne) n1 n2 sj g2 k hMi)
    rcases Nat.lt_or_ge i j with hlt | hge
    · obtain ⟨d, rfl⟩ : ∃ d, j = (i + 1) + d := ⟨j - (i + 1), by omega⟩
      have := hmono d (i + 1) (by omega); omega
    · obtain ⟨d, rfl⟩ : ∃ d, i = (j + 1) + d := ⟨i - (j + 1), by omega⟩
      have := hmono d (j + 1) (by omega); omega
  have hordT : ∀ i o, ops[i]? = some o → ∀ t, t ∈ namesOf ops o → ∀ j, j < ops.size → j ≠ i → (∃ o', ops[j]? = some o' ∧ o'.dst = some t) → Anc ops i j ∨ Anc ops j i := by
    rintro i o ho t ht j hj hne ⟨o', ho', hd'⟩
    have hw := tmpsOk_ok htmps i o (by simpa using ho) t ht
    rcases writers_ok hw j o' (by simpa using ho') hd' with h | h | h
    · omega
    · exact .inl (by simpa [Anc] using h)
    · exact .inr (by simpa [Anc] using h)
  -- the canonical heaps
  obtain ⟨hs, hhs⟩ : ∃ hs : Nat → Hp, hs = fun i => ovr h0 H.get (st i).2.1.get nx (st i).2.2 := ⟨_, rfl⟩
  have hkey : ∀ i, i ≤ ops.size → ∀ k, (st i).2.1.get k ≠ none → hs i k = (st i).2.1.get k := fun i hi k hk => by
    rw [hhs]
    have := (hdm i hi).dom k hk
    rw [e0] at this
    exact ovr_in this
  have hstay : ∀ i k, i < ops.size → ¬ Mb (st i) (st (i + 1)) k → hs (i + 1) k = hs i k := fun i k hi hM => by
    have hsame : (st (i + 1)).2.1.get k = (st i).2.1.get k := Classical.byContradiction fun h => hM (.inl h)
    have hnn : ¬ ((st i).2.2 ≤ k ∧ k < (st (i + 1)).2.2) := fun h => hM (.inr h)
    have hle := hmono 1 i (by omega)
    rw [hhs]
    by_cases hin : H.get k ≠ none ∨ (nx ≤ k ∧ k < (st i).2.2)
    · show ovr h0 H.get (st (i + 1)).2.1.get nx (st (i + 1)).2.2 k = ovr h0 H.get (st i).2.1.get nx (st i).2.2 k
      rw [ovr_in hin, ovr_in (by rcases hin with hin | hin; exact .inl hin; exact .inr ⟨hin.1, by omega⟩), hsame]
    · show ovr h0 H.get (st (i + 1)).2.1.get nx (st (i + 1)).2.2 k = ovr h0 H.get (st i).2.1.get nx (st i).2.2 k
      rw [ovr_out hin, ovr_out (by
        rintro (hx | hx)
        · exact hin (.inl hx)
        · by_cases hlt : k < (st i).2.2
          · exact hin (.inr ⟨hx.1, hlt⟩)
          · exact hnn ⟨by omega, hx.2⟩)]
  have hstayT : ∀ i (t : Nat), i < ops.size → ¬ (∃ o, ops[i]? = some o ∧ o.dst = some t) → (st (i + 1)).1.get t = (st i).1.get t := fun i t hi hM => by
    obtain ⟨o, s, h1, _, _, h4⟩ := hat i hi
    have hp := h4.put
    unfold putA at hp
    split at hp
    · exact congrArg (fun x => x.get t) (Option.some.inj hp).symm
    · rename_i d hd
      split at hp
      · have hp := Option.some.inj hp
        rw [← hp, Tr.get_put_other]
        intro e; subst e; exact hM ⟨o, h1, hd⟩
      · cases hp
  -- from every state that the region may be in
  have main : ∀ (fuel : Nat) (listed : Array Bool) (A : Act) (w : World), listed.size = ops.size → left listed.toList = fuel →
      (∃ (η : Env) (h : Hp) (τ : Nat → Option V),
        Agree ops.size hs (fun i => Mb (st i) (st (i + 1))) (fun i => listed.getD i false = true) h ∧
        Agree ops.size (fun i t => (st i).1.get t) (fun i t => ∃ o, ops[i]? = some o ∧ o.dst = some t) (fun i => listed.getD i false = true) τ ∧
        RH η h w ∧ (∀ t v, τ t = some v → v.conc η = some (A.tmps.getD t Go.undef)) ∧ A.tmps.size = nt ∧ A.defers = A0.defers ∧
        η0.le η ∧ (∀ b, ¬ (nx ≤ b ∧ b < nx') → η.blk b = η0.blk b ∧ η.unk b = η0.unk b ∧ η.em b = η0.em b) ∧
        (∀ i, i < ops.size → ¬ (listed.getD i false = true) → ∀ b, (st i).2.2 ≤ b → b < (st (i + 1)).2.2 → η.blk b = none ∧ η.unk b = none ∧ η.em b = none) ∧
        (∀ k, Img η h k → Img η0 h0 k ∨ w0.heap.size ≤ k) ∧ Fr η0 h0 w0 w ∧ Closed ops (fun i => listed.getD i false = true)) →
      wpAnyIn (fe ro) n P .any ops Q fuel listed A w := by
    have hfin : ∀ (listed : Array Bool) (A : Act) (w : World), (∀ i, i < ops.size → listed.getD i false = true) →
      (∃ (η : Env) (h : Hp) (τ : Nat → Option V),
        Agree ops.size hs (fun i => Mb (st i) (st (i + 1))) (fun i => listed.getD i false = true) h ∧
        Agree ops.size (fun i t => (st i).1.get t) (fun i t => ∃ o, ops[i]? = some o ∧ o.dst = some t) (fun i => listed.getD i false = true) τ ∧
        RH η h w ∧ (∀ t v, τ t = some v → v.conc η = some (A.tmps.getD t Go.undef)) ∧ A.tmps.size = nt ∧ A.defers = A0.defers ∧
        η0.le η ∧ (∀ b, ¬ (nx ≤ b ∧ b < nx') → η.blk b = η0.blk b ∧ η.unk b = η0.unk b ∧ η.em b = η0.em b) ∧
        (∀ i, i < ops.size → ¬ (listed.getD i false = true) → ∀ b, (st i).2.2 ≤ b → b < (st (i + 1)).2.2 → η.blk b = none ∧ η.unk b = none ∧ η.em b = none) ∧
        (∀ k, Img η h k → Img η0 h0 k ∨ w0.heap.size ≤ k) ∧ Fr η0 h0 w0 w ∧ Closed ops (fun i => listed.getD i false = true)) → Q .normal A w := by
      rintro listed A w hall ⟨η, h, τ, ag, agT, rh, hτ, hsz, hdf, hle, hnm, _, himg, hfr, _⟩
      have eh : h = ovr h0 H.get H'.get nx nx' := by
        have := ag.done hstay hall
        rw [hhs] at this; simp only [e1] at this; exact this
      have eτ : τ = tm'.get := by
        have := agT.done hstayT hall
        simp only [e1] at this; exact this
      subst eh; subst eτ
      exact hQ η w A ⟨hle, hnm, rh, himg, hfr⟩ hτ hsz hdf
    intro fuel
    induction fuel with
    | zero =>
      intro listed A w hsz hl hinv
      have hall : ∀ i, i < ops.size → listed.getD i false = true := fun i hi => by
        have := left_zero listed.toList hl i (by simpa [hsz] using hi)
        simp only [Array.getElem?_toList] at this
        simp [this]
      refine ⟨?_, hfin listed A w hall hinv⟩
      unfold Region.ready
      rw [List.filter_eq_nil_iff]
      intro i hi
      have hlt := List.mem_range.1 hi
      have := hall i hlt
      have hlt' : i < listed.size := by omega
      simp [hlt'] at this
      simp [hlt', this]
    | succ fuel ih =>
      intro listed A w hsz hl hinv
      refine ⟨fun hr => ?_, fun i hi => ?_⟩
      · -- none is left that may come up: all have come up
        have hall : ∀ i, i < ops.size → listed.getD i false = true := by
          intro i
          induction i using Nat.strongRecOn with
          | _ i ihi =>
            intro hlt
            refine Classical.byContradiction fun hc => ?_
            have hmem : i ∈ Region.ready .any ops listed := by
              rw [mem_ready]
              have hlt' : i < listed.size := by omega
              refine ⟨by simp [hlt'] at hc ⊢; exact hc, ops[i], by simp, fun e he hb => ?_⟩
              have := edgesOk_ok hedges i ops[i] (by simp) e he hb
              exact ihi e.on (by omega) (by omega)
            rw [hr] at hmem; cases hmem
        exact hfin listed A w hall hinv
      · obtain ⟨hun, o, ho, hall⟩ := mem_ready.1 hi
        have hi' : i < ops.size := (Array.getElem?_eq_some_iff.1 ho).1
        have hil : i < listed.size := by omega
        have hnL : ¬ (listed.getD i false = true) := by simp [hil] at hun ⊢; exact hun
        obtain ⟨s, hs1, hs2, hs3⟩ := hop i o ho
        obtain ⟨η, h, τ, ag, agT, rh, hτ, hszA, hdf, hle, hnm, hfresh, himg, hfr, hcl⟩ := hinv
        have hup : ∀ j, Anc ops i j → listed.getD j false = true := fun j hj => hj.ready hcl ho hall
        have hdn : ∀ j, Anc ops j i → ¬ (listed.getD j false = true) := fun j hj hL => hnL (hj.closed hcl hL)
        have hltA : ∀ i j, Anc ops i j → j < i := fun i j h => h.lt
        -- the temporaries that it looks at
        have hra : RA η (restrT (st i).1 (o.looksAt ops)) A.tmps := by
          intro t v hv
          rw [get_restrT] at hv
          split at hv
          · rename_i ht
            have := agT.look hstayT hltA hi' hnL hup hdn (k := t) (fun j hj hne hM => hordT i o ho t (by unfold namesOf; simp [ht]) j hj hne hM)
            exact hτ t v (this.trans hv)
          · cases hv
        -- the blocks that it sees
        have hext : ∀ b ob, s.G.get b = some ob → h b = some ob := by
          intro b ob hb
          have hne : (st i).2.1.get b ≠ none := by rw [hs3.sub b ob hb]; simp
          have := ag.look hstay hltA hi' hnL hup hdn (k := b) (fun j hj hne' hM => Classical.byContradiction fun hc => by
            have := hpair j i hj hi' hne' (fun h => hc (.inr h)) (fun h => hc (.inl h)) s hs1 b hM
            rw [hb] at this; cases this)
          rw [this, hkey i (by omega) b hne, hs3.sub b ob hb]
        have hpre : Pre η h w s.G.get (st i).2.2 (st (i + 1)).2.2 := ⟨hext, rh, fun b h1 h2 => hfresh i hi' hnL b h1 h2⟩
        have hgl : η.glob P := glob_mono hg0 hle
        -- what holds behind it
        have after : ∀ (cv : Value) (w' : World) (η' : Env), s.v.conc η' = some cv → Stp η h w s.G.get s.G'.get (st i).2.2 (st (i + 1)).2.2 η' w' →
            wpAnyIn (fe ro) n P .any ops Q fuel (listed.setIfInBounds i true) (A.put o.dst cv) w' := by
          intro cv w' η' hv hstp
          have hL' : ∀ j, ((listed.setIfInBounds i true).getD j false = true) ↔ (listed.getD j false = true ∨ j = i) := by
            intro j
            by_cases e : j = i
            · subst e; simp [hil]
            · simp [Array.getElem?_setIfInBounds_ne (Ne.symm e), e]
          have hLe : (fun j => (listed.setIfInBounds i true).getD j false = true) = (fun j => listed.getD j false = true ∨ j = i) := funext fun j => propext (hL' j)
          have hrange : ∀ j, j < ops.size → j ≠ i → ∀ b, (st j).2.2 ≤ b → b < (st (j + 1)).2.2 → ¬ ((st i).2.2 ≤ b ∧ b < (st (i + 1)).2.2) := by
            intro j hj hne b h1 h2 h3
            rcases Nat.lt_or_ge i j with hlt | hge
            · obtain ⟨d, rfl⟩ : ∃ d, j = (i + 1) + d := ⟨j - (i + 1), by omega⟩
              have := hmono d (i + 1) (by omega); omega
            · obtain ⟨d, rfl⟩ : ∃ d, i = (j + 1) + d := ⟨i - (j + 1), by omega⟩
              have := hmono d (j + 1) (by omega); omega
          refine ih _ _ _ (by simpa using hsz) ?_ ⟨η', ovr h s.G.get s.G'.get (st i).2.2 (st (i + 1)).2.2, fun t => if o.dst = some t then some s.v else τ t, ?_, ?_, hstp.rh, ?_, ?_, ?_, hle.trans hstp.le, ?_, ?_, ?_, ?_, ?_⟩
          · have := left_set listed.toList i (by simp [hil] at hun ⊢; exact hun)
            simp only [Array.toList_setIfInBounds]; omega
          · rw [hLe]
            refine ag.step hltA hi' hup hdn (hord i hi') (fun k hM => ?_) (fun k hM => ?_)
            · by_cases hG : s.G.get k ≠ none ∨ ((st i).2.2 ≤ k ∧ k < (st (i + 1)).2.2)
              · rw [ovr_in hG, ← hs3.m1 k hG, hhs]
                refine (ovr_in ?_).symm
                rcases hG with hG | hG
                · cases hGk : s.G.get k with
                  | none => exact absurd hGk hG
                  | some ob =>
                    have := (hdm i (by omega)).dom k (by rw [hs3.sub k ob hGk]; simp)
                    rw [e0] at this
                    rcases this with h1 | h1
                    · exact .inl h1
                    · exact .inr ⟨h1.1, by have := hs3.le; simp only at h1; omega⟩
                · have := hmono i 0 (by omega)
                  rw [e0] at this
                  exact .inr ⟨by simp only [Nat.zero_add] at this; omega, hG.2⟩
              · exfalso
                rcases hM with hM | hM
                · exact hM (hs3.m2 k hG)
                · exact hG (.inr hM)
            · by_cases hG : s.G.get k ≠ none ∨ ((st i).2.2 ≤ k ∧ k < (st (i + 1)).2.2)
              · rw [ovr_in hG, ← hs3.m1 k hG]
                have hsame : (st (i + 1)).2.1.get k = (st i).2.1.get k := Classical.byContradiction fun hc => hM (.inl hc)
                rcases hG with hG | hG
                · cases hGk : s.G.get k with
                  | none => exact absurd hGk hG
                  | some ob => rw [hsame, hs3.sub k ob hGk, hext k ob hGk]
                · exact absurd (.inr hG) hM
              · rw [ovr_out hG]
          · rw [hLe]
            refine agT.step hltA hi' hup hdn (fun t hM j hj hne hMj => ?_) (fun t hM => ?_) (fun t hM => ?_)
            · obtain ⟨o', ho', hd'⟩ := hM
              rw [ho] at ho'; cases ho'
              exact hordT i o ho t (by unfold namesOf; simp [hd']) j hj hne hMj
            · obtain ⟨o', ho', hd'⟩ := hM
              rw [ho] at ho'; cases ho'
              have hp := hs3.put
              unfold putA at hp
              simp only [hd'] at hp ⊢
              split at hp
              · have hp := Option.some.inj hp
                rw [← hp, Tr.get_put_same]; simp
              · cases hp
            · have : ¬ (o.dst = some t) := fun hd => hM ⟨o, ho, hd⟩
              simp [this]
          · intro t v hτt
            simp only at hτt
            have hp := hs3.put
            unfold putA at hp
            by_cases hd : o.dst = some t
            · rw [if_pos hd] at hτt; cases hτt
              simp only [hd] at hp
              split at hp
              · rename_i hlt
                have := blt_lt hlt
                rw [hv]
                simp [Act.put, hd, hszA, this]
              · cases hp
            · rw [if_neg hd] at hτt
              rw [V.conc_mono hstp.le (hτ t v hτt)]
              cases hdd : o.dst with
              | none => rfl
              | some d =>
                have hne : d ≠ t := fun e => hd (by rw [hdd, e])
                simp [Act.put, Array.getElem?_setIfInBounds_ne hne]
          · cases hdd : o.dst <;> simp [Act.put, hszA]
          · cases hdd : o.dst <;> simp [Act.put, hdf]
          · intro b hb
            have h1 := hstp.names b (by
              intro hc
              have a1 := hmono i 0 (by omega)
              have a2 := hmono (ops.size - (i + 1)) (i + 1) (by omega)
              rw [show i + 1 + (ops.size - (i + 1)) = ops.size by omega, e1] at a2
              rw [e0] at a1
              simp only [Nat.zero_add] at a1 a2
              exact hb ⟨by omega, by omega⟩)
            have h2 := hnm b hb
            exact ⟨h1.1.trans h2.1, h1.2.1.trans h2.2.1, h1.2.2.trans h2.2.2⟩
          · intro j hj hnj b h1 h2
            have hnj' : ¬ (listed.getD j false = true ∨ j = i) := fun hc => hnj ((hL' j).2 hc)
            have hne : j ≠ i := fun e => hnj' (.inr e)
            have h3 := hstp.names b (hrange j hj hne b h1 h2)
            have h4 := hfresh j hj (fun hc => hnj' (.inl hc)) b h1 h2
            exact ⟨h3.1.trans h4.1, h3.2.1.trans h4.2.1, h3.2.2.trans h4.2.2⟩
          · intro k hk
            rcases hstp.img k hk with h1 | h1
            · exact himg k h1
            · exact .inr (Nat.le_trans hfr.size h1)
          · exact hfr.trans hstp.fr himg
          · rw [hLe]
            intro j oj hj hLj e he hb
            rcases hLj with hLj | rfl
            · exact .inl (hcl j oj hj hLj e he hb)
            · rw [ho] at hj; cases hj; exact .inl (hall e he hb)
        unfold wpOpIn
        rw [ho]
        simp only
        rcases hs3.done with ⟨hgd, hok⟩ | ⟨hgd, hvv, hG, hG', hst2⟩
        · rw [evGuard_ok hgd hra, if_pos rfl]
          exact hok.2 η h w A ro n _ Q hpre hra hgl after
        · rw [evGuard_ok hgd hra, if_neg (by simp)]
          refine ⟨fun _ _ => trivial, after Go.undef w η (by rw [hvv]; rfl) ?_⟩
          rw [hG, hG', ← hst2]
          exact Stp.refl (fun b o hb => by simp [Tr.get_nil] at hb) rh
  refine wpIn_region_any hmix (main ops.size _ A0 _ (by simp) (by simp [left_replicate]) ?_)
  refine ⟨η0, h0, tm.get, ?_, ?_, ⟨fun b o hb => p0.rh.live b o hb, p0.rh.inj⟩, ra0, hn0, rfl, .refl _, fun _ _ => ⟨rfl, rfl, rfl⟩, ?_, fun k hk => .inl hk, ⟨rfl, rfl, rfl, Nat.le_refl _, fun _ _ _ => rfl⟩, ?_⟩
  · have hL0 : (fun i => (Array.replicate ops.size false).getD i false = true) = (fun _ => False) := by
      funext i; by_cases hi : i < ops.size <;> simp [hi]
    rw [hL0]
    have : hs 0 = h0 := by rw [hhs]; simp only [e0]; exact ovr_same p0.ext
    rw [← this]; exact Agree.start
  · have hL0 : (fun i => (Array.replicate ops.size false).getD i false = true) = (fun _ => False) := by
      funext i; by_cases hi : i < ops.size <;> simp [hi]
    rw [hL0]
    have : (fun t => (st 0).1.get t) = tm.get := by rw [e0]
    rw [← this]; exact Agree.start
  · intro i hi _ b h1 h2
    have a1 := hmono i 0 (by omega)
    have a2 := hmono (ops.size - (i + 1)) (i + 1) (by omega)
    rw [show i + 1 + (ops.size - (i + 1)) = ops.size by omega, e1] at a2
    rw [e0] at a1
    simp only [Nat.zero_add] at a1 a2
    exact p0.fresh b (by omega) (by omega)
  · intro i o ho hL
    have hi : i < ops.size := (Array.getElem?_eq_some_iff.1 ho).1
    simp [hi] at hL

end Go.Proofs.YtphpkalbbmlgoaaGreatDoor.Ev
