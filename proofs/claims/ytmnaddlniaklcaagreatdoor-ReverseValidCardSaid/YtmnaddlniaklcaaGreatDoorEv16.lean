/- An abstract interpreter of the model's code, sixteenth part: calls as operations; regions in the order of their text. -/
import Derived.Test.YtmnaddlniaklcaaGreatDoorEv15
import Derived.RangeFuncLeaves
namespace Go.Proofs.YtmnaddlniaklcaaGreatDoor.Ev
open Go

/-- The fence of this text: everything is let in; a round's frame or none. -/
def fe (ro : Option Nat) : Fence := ⟨fun _ => True, none, false, ro⟩

theorem calls_fe {P : Program} {f : FuncId} {args : Array Value} {w : World} {R : Ending → World → Prop} {ro : Option Nat} {n : Nat} (h : Calls P f args w R) : CallsIn (fe ro) n P f args w R := by
  have := (callsIn_wide (n := n)).2 h
  exact this

def CallPost (η : Env) (h : Hp) (w : World) (H H' : Hp) (nx nx' : Nat) (v : V) : Ending → World → Prop := fun e w' => ∃ cv η', e = .returned cv ∧ v.conc η' = some cv ∧ Stp η h w H H' nx nx' η' w'

/-- No function that the machine itself answers. -/
def NoNum (P : Program) : Prop := ∀ (f : FuncId) (fn : Func), P.funcs[f]? = some fn → (fn.name == "runtime.NumGoroutine") = false

/-- A call, as the interpreter answers it. -/
def CallOk (P : Program) (f : FuncId) (args : List V) (H : Tr AObj) (nx : Nat) (v : V) (H' : Tr AObj) (nx' : Nat) : Prop :=
  (∃ fn, P.funcs[f]? = some fn ∧ fn.body.isSome = true) ∧ Dm H.get H'.get nx nx' ∧
  ∀ (η : Env) (h : Hp) (w : World) (cargs : List Value), Pre η h w H.get nx nx' → VL η args cargs → η.glob P → Calls P f ⟨cargs⟩ w (CallPost η h w H.get H'.get nx nx' v)

def RoundOk (P : Program) (l : Nat) (args : List V) (H : Tr AObj) (nx : Nat) (v : V) (H' : Tr AObj) (nx' : Nat) : Prop :=
  Dm H.get H'.get nx nx' ∧
  ∀ (η : Env) (h : Hp) (w : World) (cargs : List Value) (L : Nat × Nat), Pre η h w H.get nx nx' → VL η args cargs → η.glob P → η.blk l = some L →
    ∃ f tmps assign body, (Instr.yield L.1 ⟨cargs⟩).run P w = .ok (.round L.1 f tmps assign body) w ∧ ∀ n, RoundIn (fe none) n P L.1 f tmps assign body w (CallPost η h w H.get H'.get nx nx' v)

theorem VL.append {η : Env} : ∀ {l m : List V} {cl cm : List Value}, VL η l cl → VL η m cm → VL η (l ++ m) (cl ++ cm) := by
  intro l
  induction l with
  | nil => intro m cl cm h h'; cases cl with | nil => exact h' | cons _ _ => exact h.elim
  | cons v l ih => intro m cl cm h h'; cases cl with | nil => exact h.elim | cons c cl => exact ⟨h.1, ih h.2 h'⟩
theorem VL.mono {η η' : Env} (hle : η.le η') : ∀ {l : List V} {cl : List Value}, VL η l cl → VL η' l cl := by
  intro l
  induction l with
  | nil => intro cl h; cases cl with | nil => trivial | cons _ _ => exact h.elim
  | cons v l ih => intro cl h; cases cl with | nil => exact h.elim | cons c cl => exact ⟨V.conc_mono hle h.1, ih h.2⟩
theorem VL.length {η : Env} : ∀ {l : List V} {cl : List Value}, VL η l cl → cl.length = l.length := by
  intro l
  induction l with
  | nil => intro cl h; cases cl with | nil => rfl | cons _ _ => exact h.elim
  | cons v l ih => intro cl h; cases cl with | nil => exact h.elim | cons c cl => simp [ih h.2]
theorem capsV_ok {η : Env} : ∀ (l : List (Nat × Nat)) (vs : List Value), ptrs η l = some vs → VL η (capsV l) vs := by
  intro l
  induction l with
  | nil => intro vs h; simp [ptrs] at h; subst h; trivial
  | cons p l ih =>
    obtain ⟨b, o⟩ := p
    intro vs h
    simp only [ptrs] at h
    cases hb : η.blk b with
    | none => simp [hb] at h
    | some B => cases hl : ptrs η l with
      | none => simp [hb, hl] at h
      | some ws => simp [hb, hl] at h; subst h; exact ⟨by rw [one_conc]; simp [At.conc, hb], ih ws hl⟩
theorem absVs_ok {η : Env} : ∀ (l : List Fst) (us : List V) (fs : List Value), absVs l = some us → fsts η l = some fs → VL η us fs := by
  intro l
  induction l with
  | nil => intro us fs h h'; simp [absVs] at h; simp [fsts] at h'; subst h; subst h'; trivial
  | cons p l ih =>
    intro us fs h h'
    cases p with
    | val v =>
      simp only [absVs] at h
      simp only [fsts] at h'
      cases ha : absV v with
      | none => simp [ha] at h
      | some a => cases hl : absVs l with
        | none => simp [ha, hl] at h
        | some ys => cases hf : fsts η l with
          | none => simp [hf] at h'
          | some ws => simp [ha, hl] at h; simp [hf] at h'; subst h; subst h'; exact ⟨absV_conc η ha, ih ys ws hl hf⟩
    | ptr b o =>
      simp only [absVs] at h
      simp only [fsts] at h'
      cases hb : η.blk b with
      | none => simp [hb] at h'
      | some B => cases hl : absVs l with
        | none => simp [hl] at h
        | some ys => cases hf : fsts η l with
          | none => simp [hb, hf] at h'
          | some ws => simp [hl] at h; simp [hb, hf] at h'; subst h; subst h'; exact ⟨by rw [one_conc]; simp [At.conc, hb], ih ys ws hl hf⟩

theorem run_callFunc {P : Program} (hN : NoNum P) {f : FuncId} {fn : Func} (hf : P.funcs[f]? = some fn) (hb : fn.body.isSome = true) (args : Array Value) (w : World) : (callFunc f args).run P w = .ok (.enter f args) w := by
  have h1 := hN f fn hf
  have h2 : fn.body ≠ none := by intro hbb; rw [hbb] at hb; cases hb
  have h1' : ¬ (fn.name = "runtime.NumGoroutine") := by simpa using h1
  simp [callFunc, program, Sem.run, hf, h1', h2]

/-- What a call of a value comes to. -/
theorem whom_ok {P : Program} (hN : NoNum P) {c : Call} {tm : Tr V} {who : Whom} (hw : whom P c tm = some who) {η : Env} {A : Act} (ra : RA η tm A.tmps) (hg : η.glob P)
    {dst : Option Tmp} {type : TypeId} {pos : String} {after : Array Edge} {guard : Option (Nat × Bool)} (w : World) :
    match who with
    | .fn f args => (∃ fn, P.funcs[f]? = some fn ∧ fn.body.isSome = true) → ∃ cargs, VL η args cargs ∧ (execOp A.eval ⟨dst, .call c, type, pos, after, guard⟩).run P w = .ok (.enter f ⟨cargs⟩) w
    | .yld l args => ∃ cargs L, VL η args cargs ∧ η.blk l = some L ∧ (execOp A.eval ⟨dst, .call c, type, pos, after, guard⟩).run P w = (Instr.yield L.1 ⟨cargs⟩).run P w := by
  unfold whom at hw
  obtain ⟨callee, cargs0, ts⟩ := c
  cases callee with
  | value g =>
    simp only at hw
    split at hw
    · rename_i f first caps vs hgv hvs
      split at hw
      · rename_i us hus
        cases hw
        rintro ⟨fn, hf, hb⟩
        obtain ⟨⟨fs, cs⟩, ⟨h1, h2⟩, h3⟩ := conc_fn (evO_one ra hg hgv)
        simp only at h1 h2 h3
        refine ⟨fs ++ (cargs0.toList.map A.eval ++ cs), (absVs_ok first us fs hus h1).append ((evOs_ok ra hg _ _ hvs).append (capsV_ok caps cs h2)), ?_⟩
        have hrun := run_callFunc hN hf hb
        have e1 : (⟨fs⟩ : Array Value) ++ cargs0.map A.eval ++ (⟨cs⟩ : Array Value) = ⟨fs ++ (cargs0.toList.map A.eval ++ cs)⟩ := by apply Array.ext'; simp
        simp only [execOp, resolve, Sem.run_bind, h3, Deferred.ofValue, Sem.run_pure, Result.andThen_ok, invoke, hrun, e1]
      · cases hw
    · rename_i l vs hgv hvs
      cases hw
      have h0 := evO_one ra hg hgv
      simp only [At.conc] at h0
      cases hb : η.blk l with
      | none => simp [hb] at h0
      | some L =>
        simp [hb] at h0
        refine ⟨cargs0.toList.map A.eval, L, evOs_ok ra hg _ _ hvs, hb, ?_⟩
        have e1 : (#[] : Array Value) ++ cargs0.map A.eval = ⟨cargs0.toList.map A.eval⟩ := by apply Array.ext'; simp
        simp only [execOp, resolve, Sem.run_bind, ← h0, Deferred.ofValue, Sem.run_pure, Result.andThen_ok, invoke, e1]
    · cases hw
  | _ => cases hw

/-- The interpreter's answers are right. -/
structure OpsOk (P : Program) (F : Fns) : Prop where
  call : ∀ f args H nx v H' nx', F.call f args H nx = some (v, H', nx') → CallOk P f args H nx v H' nx'
  round : ∀ l args H nx v H' nx', F.round l args H nx = some (v, H', nx') → RoundOk P l args H nx v H' nx'

/-- One operation, small or great: what is asked of it. -/
def OpOk (P : Program) (o : Oper) (tm : Tr V) (H : Tr AObj) (nx : Nat) (v : V) (H' : Tr AObj) (nx' : Nat) : Prop :=
  Dm H.get H'.get nx nx' ∧ ∀ (η : Env) (h : Hp) (w : World) (A : Act) (ro : Option Nat) (n : Nat) (K : Act → World → Prop) (Q : Exit → Act → World → Prop), Pre η h w H.get nx nx' → RA η tm A.tmps → η.glob P →
    (∀ cv w' η', v.conc η' = some cv → Stp η h w H.get H'.get nx nx' η' w' → K (A.put o.dst cv) w') → o.wpIn (fe ro) n P A w K Q

theorem evS_nodefer {P : Program} {o : Oper} {tm : Tr V} {H : Tr AObj} {nx : Nat} {r : V × Tr AObj × Nat} (he : evS P o tm H nx = some r) : ∀ c, o.op ≠ .defer c := by
  intro c e
  simp [evS, evR, evW, e] at he

theorem opOk_small {P : Program} {o : Oper} {tm : Tr V} {H : Tr AObj} {nx : Nat} {v : V} {H' : Tr AObj} {nx' : Nat} (he : evS P o tm H nx = some (v, H', nx')) : OpOk P o tm H nx v H' nx' := by
  obtain ⟨d, h1⟩ := evS_ok he
  refine ⟨d, fun η h w A ro n K Q p ra hg hk => ?_⟩
  obtain ⟨cv, w', η', hy, hv, hs⟩ := h1 η h w A p ra hg
  have hK := hk cv w' η' hv hs
  refine ⟨fun _ _ => trivial, ?_⟩
  rw [Oper.semAt_eq _ _ _ (evS_nodefer he)]
  rcases hy with hy | ⟨hy, rfl⟩
  · rw [hy]; exact hK
  · rw [hy]; exact hK

theorem opOk_big {P : Program} (hN : NoNum P) {F : Fns} (hF : OpsOk P F) {o : Oper} {tm : Tr V} {H : Tr AObj} {nx : Nat} {v : V} {H' : Tr AObj} {nx' : Nat} (he : evB F P o tm H nx = some (v, H', nx')) : OpOk P o tm H nx v H' nx' := by
  obtain ⟨dst, op, type, pos, after, guard⟩ := o
  unfold evB at he
  cases op <;> simp only at he <;> try (cases he; done)
  rename_i c
  split at he
  · rename_i f args hw
    obtain ⟨hfn, d, hc⟩ := hF.call _ _ _ _ _ _ _ he
    refine ⟨d, fun η h w A ro n K Q p ra hg hk => ⟨fun _ _ => trivial, ?_⟩⟩
    have hwho := whom_ok hN hw ra hg (dst := dst) (type := type) (pos := pos) (after := after) (guard := guard) w
    obtain ⟨cargs, hvl, hrun⟩ := hwho hfn
    rw [Oper.semAt_eq _ _ _ (fun c e => by cases e), hrun]
    refine ⟨fun hd => by simp [fe] at hd, calls_fe ((hc η h w cargs p hvl hg).mono ?_)⟩
    rintro e w' ⟨cv, η', rfl, hv, hs⟩
    exact hk cv w' η' hv hs
  · rename_i l args hw
    obtain ⟨d, hc⟩ := hF.round _ _ _ _ _ _ _ he
    refine ⟨d, fun η h w A ro n K Q p ra hg hk => ⟨fun _ _ => trivial, ?_⟩⟩
    have hwho := whom_ok hN hw ra hg (dst := dst) (type := type) (pos := pos) (after := after) (guard := guard) w
    obtain ⟨cargs, L, hvl, hL, hrun⟩ := hwho
    obtain ⟨f, tmps, assign, body, hy, hr⟩ := hc η h w cargs L p hvl hg hL
    rw [Oper.semAt_eq _ _ _ (fun c e => by cases e), hrun, hy]
    refine ⟨fun hd => by simp [fe] at hd, RoundIn.mono (show RoundIn (fe ro) (n - 1) P L.1 f tmps assign body w _ from hr (n - 1)) ?_⟩
    rintro e w' ⟨cv, η', rfl, hv, hs⟩
    exact hk cv w' η' hv hs
  · cases he

theorem RA.putA {η : Env} {tm tm' : Tr V} {A : Act} {nt : Nat} (ra : RA η tm A.tmps) (hn : A.tmps.size = nt) {dst : Option Tmp} {v : V} {cv : Value} (hp : putA nt tm dst v = some tm') (hv : v.conc η = some cv) :
    RA η tm' (A.put dst cv).tmps ∧ (A.put dst cv).tmps.size = nt ∧ (A.put dst cv).defers = A.defers := by
  unfold Ev.putA at hp
  cases dst with
  | none => cases hp; exact ⟨ra, hn, rfl⟩
  | some d =>
    simp only at hp
    split at hp
    · rename_i hlt
      cases hp
      exact ⟨ra.put (by rw [hn]; exact blt_lt hlt) hv, by simp [Act.put, hn], rfl⟩
    · cases hp

theorem glob_mono {P : Program} {η η' : Env} (h : η.glob P) (hl : η.le η') : η'.glob P := fun g hg => (hl.blk g _ (h g hg)).1

/-- A region in the order of its text. -/
theorem evOps_ok {P : Program} (hN : NoNum P) {F : Fns} (hF : OpsOk P F) {ops : Array Oper} {nt : Nat} : ∀ (l : List Oper) (tm : Tr V) (H : Tr AObj) (nx : Nat) (tm' : Tr V) (H' : Tr AObj) (nx' : Nat), evOps F P ops nt l tm H nx = some (tm', H', nx') →
    Dm H.get H'.get nx nx' ∧ ∀ (η : Env) (h : Hp) (w : World) (A : Act) (ro : Option Nat) (n : Nat) (Q : Exit → Act → World → Prop), Pre η h w H.get nx nx' → RA η tm A.tmps → A.tmps.size = nt → η.glob P →
      (∀ η' w' A', Stp η h w H.get H'.get nx nx' η' w' → RA η' tm' A'.tmps → A'.tmps.size = nt → A'.defers = A.defers → Q .normal A' w') → wpListIn (fe ro) n P ops Q l A w := by
  intro l
  induction l with
  | nil =>
    intro tm H nx tm' H' nx' he
    simp only [evOps] at he
    cases he
    exact ⟨Dm.refl _ _, fun η h w A ro n Q p ra hn hg hQ => hQ η w A (Stp.refl p.ext p.rh) ra hn rfl⟩
  | cons o l ih =>
    intro tm H nx tm' H' nx' he
    simp only [evOps] at he
    split at he
    · rename_i hgd
      split at he
      · rename_i v H1 nx1 hop
        split at he
        · rename_i tm1 hput
          have hok : OpOk P o tm H nx v H1 nx1 := by
            cases hc : isCall o.op with
            | true => rw [hc] at hop; exact opOk_big hN hF hop
            | false => rw [hc] at hop; exact opOk_small hop
          obtain ⟨d1, h1⟩ := hok
          obtain ⟨d2, h2⟩ := ih tm1 H1 nx1 tm' H' nx' he
          refine ⟨d1.trans d2, fun η h w A ro n Q p ra hn hg hQ => ?_⟩
          unfold wpListIn
          rw [evGuard_ok hgd ra, if_pos rfl]
          refine h1 η h w A ro n _ Q (p.less d2.le) ra hg (fun cv w' η' hv hs => ?_)
          obtain ⟨ra1, hn1, hd1⟩ := (ra.mono hs.le).putA hn hput hv
          refine h2 η' _ w' _ ro n Q (p.next d1 hs) ra1 hn1 (glob_mono hg hs.le) (fun η2 w2 A2 hs2 ra2 hn2 hd2 => ?_)
          exact hQ η2 w2 A2 (Stp.trans d1 d2 hs hs2) ra2 hn2 (hd2.trans hd1)
        · cases he
      · cases he
    · rename_i hgd
      split at he
      · rename_i tm1 hput
        obtain ⟨d2, h2⟩ := ih tm1 H nx tm' H' nx' he
        refine ⟨d2, fun η h w A ro n Q p ra hn hg hQ => ?_⟩
        unfold wpListIn
        rw [evGuard_ok hgd ra, if_neg (by simp)]
        refine ⟨fun _ _ => trivial, ?_⟩
        obtain ⟨ra1, hn1, hd1⟩ := ra.putA hn hput (cv := Go.undef) rfl
        exact h2 η h w _ ro n Q p ra1 hn1 hg (fun η2 w2 A2 hs2 ra2 hn2 hd2 => hQ η2 w2 A2 hs2 ra2 hn2 (hd2.trans hd1))
      · cases he
    · cases he

end Go.Proofs.YtmnaddlniaklcaaGreatDoor.Ev
