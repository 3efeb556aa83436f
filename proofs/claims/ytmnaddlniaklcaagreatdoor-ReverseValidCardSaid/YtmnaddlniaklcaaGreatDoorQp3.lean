/- A quick interpreter for the kernel: proofs, third part: one operation. -/
import Derived.Test.YtmnaddlniaklcaaGreatDoorQp2
namespace Go.Proofs.YtmnaddlniaklcaaGreatDoor.Ev
open Go
set_option linter.unusedSimpArgs false

/-! ### What is asked of an operation whose value may be unknown -/
def OpOkQ (P : Program) (o : Oper) (tm : Tr V) (H : Tr AObj) (nx : Nat) (v : FV) (H' : Tr AObj) (nx' : Nat) : Prop :=
  Dm H.get H'.get nx nx' ∧ ∀ (η : Env) (h : Hp) (w : World) (A : Act) (ro : Option Nat) (n : Nat) (K : Act → World → Prop) (Q : Exit → Act → World → Prop), Pre η h w H.get nx nx' → RA η tm A.tmps → η.glob P →
    (∀ cv w' η', (∀ x, v.toV = some x → x.conc η' = some cv) → Stp η h w H.get H'.get nx nx' η' w' → K (A.put o.dst cv) w') → o.wpIn (fe ro) n P A w K Q
theorem OpOk.toQ {P : Program} {o : Oper} {tm : Tr V} {H : Tr AObj} {nx : Nat} {v : V} {H' : Tr AObj} {nx' : Nat} (h : OpOk P o tm H nx v H' nx') {fv : FV} (hv : fv.toV = some v) : OpOkQ P o tm H nx fv H' nx' :=
  ⟨h.1, fun η hp w A ro n K Q p ra hg hk => h.2 η hp w A ro n K Q p ra hg (fun cv w' η' hc hs => hk cv w' η' (fun x hx => by rw [hv] at hx; cases hx; exact hc) hs)⟩

/-- The calls' answers are right. -/
def VsOf : List FV → Option (List V)
  | [] => some []
  | v :: l => match v.toV, VsOf l with
    | some x, some xs => some (x :: xs)
    | _, _ => none
structure QOk (P : Program) (Q : QF) (m : Nat) : Prop where
  f : FnsOk P Q.f m
  c : ∀ f args H nx v H' nx', Q.c f args H nx = .ok v H' nx' → ∀ xs, VsOf args = some xs → ∃ x, v.toV = some x ∧ CallOk P f xs H nx x H' nx'

/-- The operation is done, and the rest goes on behind it. -/
def Done (P : Program) (o : Oper) (f : Fm) (H : Tr AObj) (nx : Nat) (k : KK) (r : RR) : Prop :=
  ∃ fv H1 nx1, OpOkQ P o f.tr H nx fv H1 nx1 ∧ r = k (f.setO o.dst fv) H1 nx1
def Step (P : Program) (o : Oper) (f : Fm) (H : Tr AObj) (nx : Nat) (k : KK) (S : Oper → RR) (r : RR) : Prop :=
  Done P o f H nx k r ∨ r = S o ∨ r = .no

theorem done_read {P : Program} {o : Oper} {f : Fm} {H : Tr AObj} {nx : Nat} {k : KK} {fv : FV} {v : V} (hv : fv.toV = some v) (h : evR P o f.tr H = some v) : Done P o f H nx k (k (f.setO o.dst fv) H nx) :=
  ⟨fv, H, nx, (opOk_small (by simp [evS, h])).toQ hv, rfl⟩
theorem evR_none_w {P : Program} {o : Oper} {tm : Tr V} {H : Tr AObj} {nx : Nat} {r : V × Tr AObj × Nat} (h0 : evR P o tm H = none) (h : evW P o tm H nx = some r) : evS P o tm H nx = some r := by simp [evS, h0, h]

theorem toQ_step {P : Program} {o : Oper} {f : Fm} {H : Tr AObj} {nx : Nat} {k : KK} {S : Oper → RR} {fv : FV} {s : RR} (hs : s = S o ∨ s = .no) (h : ∀ v, fv.toV = some v → evR P o f.tr H = some v) :
    Step P o f H nx k S (toQ fv (dstOf o.dst) f H nx k s) := by
  unfold toQ
  rcases orK_cases fv (fun v => (dstOf o.dst).putK v f fun fr' => k fr' H nx) s with ⟨_, h2⟩ | ⟨x, h1, h2⟩
  · exact .inr (by rw [show FV.orK fv (fun v => Dst.rec (motive := fun _ => FV → Fm → (Fm → RR) → RR) noPt (fun g => g) morePt (dstOf o.dst) v f fun fr' => k fr' H nx) s = s from h2]; exact hs)
  · refine .inl ?_
    rw [show FV.orK fv (fun v => Dst.rec (motive := fun _ => FV → Fm → (Fm → RR) → RR) noPt (fun g => g) morePt (dstOf o.dst) v f fun fr' => k fr' H nx) s = _ from h2, putK_eq]
    exact done_read h1 (h x h1)

/-! ### Each operation -/
theorem mv_ok {P : Program} {o : Oper} {x : Operand} (ho : o.op = .move x ∨ o.op = .assign x) (f : Fm) (H : Tr AObj) (nx : Nat) (k : KK) : Done P o f H nx k ((dstOf o.dst).putK ((opd P x).get f) f fun fr' => k fr' H nx) := by
  rw [putK_eq]
  refine ⟨_, H, nx, ⟨Dm.refl _ _, fun η hp w A ro n K Q p ra hg hk => ?_⟩, rfl⟩
  have hx : ∀ y, ((opd P x).get f).toV = some y → y.conc η = some (A.eval x) := fun y hy => evO_ok ra hg (by rw [← opd_toV]; exact hy)
  have hK := hk (A.eval x) w η hx (Stp.refl p.ext p.rh)
  refine ⟨fun _ _ => trivial, ?_⟩
  obtain ⟨dst, op, type, pos, after, guard⟩ := o
  simp only at ho
  rw [Oper.semAt_eq _ _ _ (fun c e => by rcases ho with rfl | rfl <;> cases e)]
  rcases ho with rfl | rfl <;> exact hK

theorem loadF_ok {P : Program} {t : TypeId} {g : Bool} {n : Nat} (ht : tyAgg P t = some (g, n)) {H : Tr AObj} {b a : Nat} {v : V} (h : (loadF g n H b a).toV = some v) : evLoad P H t (.ptr b a) = some v := by
  unfold loadF at h
  cases ho : H.get b with
  | none => rw [ho] at h; cases h
  | some x =>
    rw [ho] at h
    have key : ∀ (m : Nat) (t' : Tr At), (cellG g t' a n m).toV = some v → (match g with | true => (match (bif Nat.ble (a + n) m then rd t' a n else none) with | some l => some (V.c true l) | none => none) | false => (match (bif Nat.ble (a + 1) m then rd t' a 1 else none) with | some l => some (V.c false l) | none => none)) = some v := by
      intro m t' hc
      cases g with
      | true =>
        have hc : (cellsN t' a n m).toV = some v := hc
        unfold cellsN at hc
        cases hb : Nat.ble (Nat.add a n) m with
        | false => rw [hb] at hc; cases hc
        | true =>
          rw [hb] at hc
          have hb' : Nat.ble (a + n) m = true := hb
          simp only [hb', cond_true]
          cases hr : rd t' a n with
          | none => rw [hr] at hc; cases hc
          | some l => rw [hr] at hc; exact hc
      | false =>
        have hc : (cell1 t' a m).toV = some v := hc
        unfold cell1 at hc
        cases hb : Nat.ble (Nat.succ a) m with
        | false => rw [hb] at hc; cases hc
        | true =>
          rw [hb] at hc
          have hb' : Nat.ble (a + 1) m = true := hb
          simp only [hb', cond_true, rd]
          cases hr : t'.get a with
          | none => rw [hr] at hc; cases hc
          | some y =>
            rw [hr] at hc
            have hc : (FV.ofAt y).toV = some v := hc
            rw [FV.toV_ofAt] at hc
            exact hc
    simp only [evLoad, ht, row, ho]
    cases x with
    | cells E m t' => have := key m t' h; cases g <;> exact this
    | lcells E m s t' => have := key m t' h; cases g <;> exact this
    | map es c => cases h
    | loop => cases h
    | dfr => cases h
    | mit => cases h

theorem fa_ok {P : Program} {s : TypeId} {fd off : Nat} (hf : faOff P s fd = some off) (b a : Nat) : evFieldAddr P s (.ptr b a) fd = some (.one (.ptr b (a + off))) := by
  unfold faOff at hf
  unfold evFieldAddr
  simp only
  split at hf
  · rename_i fs hu
    rw [hu]
    simp only
    split at hf
    · rename_i fd' hfd
      rw [hfd]
      simp only
      split at hf
      · rename_i i hi
        rw [hi]
        simp only
        cases hz : Nat.beq i.size 0 with
        | true => rw [hz] at hf; cases hf
        | false => rw [hz] at hf; cases hf; rfl
      · cases hf
    · cases hf
  · cases hf

theorem elemP_ok {b o i l sz : Nat} {v : V} (h : (elemP b o i l sz).toV = some v) : Nat.blt i l = true ∧ v = .one (.ptr b (o + i * sz)) := by
  unfold elemP at h
  cases hb : Nat.ble (Nat.succ i) l with
  | false => rw [hb] at h; cases h
  | true => rw [hb] at h; cases h; exact ⟨hb, rfl⟩
theorem ia_ok {P : Program} {t : TypeId} {l : Option Nat} {sz : Nat} (hl : iaOf P t = some (l, sz)) {x y : Operand} {f : Fm} {tm : Tr V} {v : V} (hx : ((opd P x).get f).toV = evO P tm x) (hy : ((opd P y).get f).toV = evO P tm y) (h : (iaF ((opd P y).get f) l sz ((opd P x).get f)).toV = some v) :
    (match evO P tm x, evO P tm y with | some (.c false [a]), some (.c false [b]) => evIndexAddr P t a b | _, _ => none) = some v := by
  generalize (opd P x).get f = u at h hx
  generalize (opd P y).get f = w at h hy
  cases w <;> try (cases h; done)
  rename_i i
  simp only [FV.toV] at hy
  rw [← hy]
  unfold iaOf at hl
  split at hl
  · rename_i e hu
    split at hl
    · rename_i ie hie
      cases hl
      cases u <;> try (cases h; done)
      rename_i z
      simp only [FV.toV] at hx
      rw [← hx]
      cases z <;> try (cases h; done)
      · obtain ⟨h1, rfl⟩ := elemP_ok h
        simp only [evIndexAddr, hu, hie, h1, cond_true]
      · obtain ⟨h1, rfl⟩ := elemP_ok h
        simp only [evIndexAddr, hu, hie, h1, cond_true]
    · cases hl
  · rename_i n e hu
    split at hl
    · rename_i ie hie
      cases hl
      cases u <;> try (cases h; done)
      simp only [FV.toV] at hx
      rw [← hx]
      obtain ⟨h1, rfl⟩ := elemP_ok h
      simp only [evIndexAddr, hu, hie, h1, cond_true]
    · cases hl
  · cases hl

/-- An operation that looks at no memory. -/
theorem done_pure {P : Program} {o : Oper} {f : Fm} {H : Tr AObj} {nx : Nat} {k : KK} {fv : FV} {v : V} (hv : fv.toV = some v) (hd : ∀ c, o.op ≠ .defer c)
    (h : ∀ (η : Env) (A : Act) (w : World), RA η f.tr A.tmps → η.glob P → ∃ cv, v.conc η = some cv ∧ (execOp A.eval o).run P w = .ok (.value cv) w) : Done P o f H nx k (k (f.setO o.dst fv) H nx) := by
  refine ⟨fv, H, nx, OpOk.toQ ⟨Dm.refl _ _, fun η hp w A ro n K Q p ra hg hk => ?_⟩ hv, rfl⟩
  obtain ⟨cv, h1, h2⟩ := h η A w ra hg
  have hK := hk cv w η h1 (Stp.refl p.ext p.rh)
  refine ⟨fun _ _ => trivial, ?_⟩
  rw [Oper.semAt_eq _ _ _ hd, h2]
  exact hK
theorem toQ_pure {P : Program} {o : Oper} {f : Fm} {H : Tr AObj} {nx : Nat} {k : KK} {S : Oper → RR} {fv : FV} {s : RR} (hs : s = S o ∨ s = .no) (hd : ∀ c, o.op ≠ .defer c)
    (h : ∀ v, fv.toV = some v → ∀ (η : Env) (A : Act) (w : World), RA η f.tr A.tmps → η.glob P → ∃ cv, v.conc η = some cv ∧ (execOp A.eval o).run P w = .ok (.value cv) w) :
    Step P o f H nx k S (toQ fv (dstOf o.dst) f H nx k s) := by
  unfold toQ
  rcases orK_cases fv (fun v => (dstOf o.dst).putK v f fun fr' => k fr' H nx) s with ⟨_, h2⟩ | ⟨x, h1, h2⟩
  · exact .inr (by rw [show FV.orK fv (fun v => Dst.rec (motive := fun _ => FV → Fm → (Fm → RR) → RR) noPt (fun g => g) morePt (dstOf o.dst) v f fun fr' => k fr' H nx) s = s from h2]; exact hs)
  · refine .inl ?_
    rw [show FV.orK fv (fun v => Dst.rec (motive := fun _ => FV → Fm → (Fm → RR) → RR) noPt (fun g => g) morePt (dstOf o.dst) v f fun fr' => k fr' H nx) s = _ from h2, putK_eq]
    exact done_pure h1 hd (h x h1)

theorem opd_at {P : Program} {f : Fm} {x : Operand} {η : Env} {A : Act} (ra : RA η f.tr A.tmps) (hg : η.glob P) {a : At} (h : ((opd P x).get f).toV = some (.one a)) : a.conc η = some (A.eval x) :=
  evO_one ra hg (by rw [← opd_toV]; exact h)

theorem len_ok {P : Program} {dst : Option Tmp} {c : Call} {type : TypeId} {pos : String} {after : Array Edge} {guard : Option (Nat × Bool)} {x : Operand} {t : TypeId} {ts : List TypeId} (hc : c.callee = .builtin .len) (ha : c.args.toList = [x]) (ht : c.argTypes.toList = t :: ts) (hs : isSliceT P t = true) {f : Fm} {v : V}
    (h : (lenF ((opd P x).get f)).toV = some v) (η : Env) (A : Act) (w : World) (ra : RA η f.tr A.tmps) (hg : η.glob P) : ∃ cv, v.conc η = some cv ∧ (execOp A.eval ⟨dst, .call c, type, pos, after, guard⟩).run P w = .ok (.value cv) w := by
  obtain ⟨callee, args, argTypes⟩ := c
  simp only at hc ha ht
  subst hc
  unfold isSliceT at hs
  split at hs
  · rename_i e hu
    have hts : argTypes[0]? = some t := by rw [← Array.getElem?_toList, ht]; rfl
    have hargs : args.map A.eval = #[A.eval x] := by apply Array.ext'; simp [ha]
    have hx := fun a => opd_at (P := P) (x := x) (a := a) ra hg
    generalize (opd P x).get f = u at h hx
    cases u <;> try (cases h; done)
    rename_i z
    have hz := hx z rfl
    rw [run_builtin]
    cases z <;> try (cases h; done)
    · obtain ⟨B, _, hB⟩ := conc_sl hz
      cases h; exact ⟨_, one_conc.2 rfl, by simp [builtin, hargs, Builtin.len_, hts, run_und hu, goInt, hB]⟩
    · obtain ⟨B, _, hB⟩ := conc_slx hz
      cases h; exact ⟨_, one_conc.2 rfl, by simp [builtin, hargs, Builtin.len_, hts, run_und hu, goInt, hB]⟩
    · simp only [At.conc] at hz
      cases h; exact ⟨_, one_conc.2 rfl, by simp [builtin, hargs, Builtin.len_, hts, run_und hu, goInt, ← Option.some.inj hz]⟩
    · obtain ⟨B, c, _, hB⟩ := conc_emp hz
      cases h; exact ⟨_, one_conc.2 rfl, by simp [builtin, hargs, Builtin.len_, hts, run_und hu, goInt, hB]⟩
  · cases hs

theorem nt_ok {P : Program} {dst : Option Tmp} {t : TypeId} {x : Operand} {type : TypeId} {pos : String} {after : Array Edge} {guard : Option (Nat × Bool)} {f : Fm} {v : V}
    (h : (ntF ((opd P x).get f)).toV = some v) (η : Env) (A : Act) (w : World) (ra : RA η f.tr A.tmps) (hg : η.glob P) : ∃ cv, v.conc η = some cv ∧ (execOp A.eval ⟨dst, .unOp .not t x, type, pos, after, guard⟩).run P w = .ok (.value cv) w := by
  have hx := fun a => opd_at (P := P) (x := x) (a := a) ra hg
  generalize (opd P x).get f = u at h hx
  cases u <;> try (cases h; done)
  rename_i z
  have hz := hx _ rfl
  simp only [At.conc] at hz
  have hz := (Option.some.inj hz).symm
  refine ⟨.bool !z, ?_, ?_⟩
  · cases z <;> cases h <;> rfl
  · simp [execOp, Op.unary, hz]

theorem cvN_ok {k : IntKind} {n : Nat} {v : V} (h : (cvN k n).toV = some v) : v = .one (.int k (k.wrap (.ofNat n))) := by
  cases k <;> try (cases h; done)
  · obtain ⟨h1, rfl⟩ := below63_ok h; rw [i64_wrap h1]
  · cases h; simp [IntKind.wrap, IntKind.signed, IntKind.bits]; rfl
  · cases h; simp [IntKind.wrap, IntKind.signed, IntKind.bits]; rfl
  · cases h; rw [u64_wrap]; rfl
theorem cv_ok {P : Program} {dst : Option Tmp} {s t : TypeId} {k : IntKind} (hk : cvOf P s t = some k) {x : Operand} {type : TypeId} {pos : String} {after : Array Edge} {guard : Option (Nat × Bool)} {f : Fm} {v : V}
    (h : (cvF ((opd P x).get f) k).toV = some v) (η : Env) (A : Act) (w : World) (ra : RA η f.tr A.tmps) (hg : η.glob P) : ∃ cv, v.conc η = some cv ∧ (execOp A.eval ⟨dst, .convert s t x, type, pos, after, guard⟩).run P w = .ok (.value cv) w := by
  have hx := fun a => opd_at (P := P) (x := x) (a := a) ra hg
  have hrun : ∀ k' n, A.eval x = .int k' n → (execOp A.eval ⟨dst, .convert s t x, type, pos, after, guard⟩).run P w = .ok (.value (.int k (k.wrap n))) w := by
    intro k' n he
    unfold cvOf at hk
    split at hk
    · rename_i d k2 h1 h2
      cases hk
      cases d <;> simp [execOp, he, Go.convert, run_und h1, run_und h2, Conv.intToInt]
    · cases hk
  generalize (opd P x).get f = u at h hx
  cases u <;> try (cases h; done)
  · rename_i n
    obtain rfl := cvN_ok h
    have hz := hx _ rfl
    exact ⟨_, one_conc.2 rfl, hrun _ _ (Option.some.inj hz).symm⟩
  · rename_i n
    obtain rfl := cvN_ok h
    have hz := hx _ rfl
    exact ⟨_, one_conc.2 rfl, hrun _ _ (Option.some.inj hz).symm⟩
  · rename_i z
    cases z <;> try (cases h; done)
    rename_i k' n
    cases n with
    | negSucc m => cases h
    | ofNat m =>
      obtain rfl := cvN_ok h
      have hz := hx _ rfl
      exact ⟨_, one_conc.2 rfl, hrun _ _ (Option.some.inj hz).symm⟩

theorem eq_ok {P : Program} {dst : Option Tmp} {op : BinOp} {neg : Bool} (hop : (op = .eql ∧ neg = false) ∨ (op = .neq ∧ neg = true)) {t yt : TypeId} {x y : Operand} {type : TypeId} {pos : String} {after : Array Edge} {guard : Option (Nat × Bool)} {f : Fm} {H : Tr AObj} {v : V}
    (h : (eqF (eqT P t) neg ((opd P x).get f) ((opd P y).get f)).toV = some v) : evR P ⟨dst, .binOp op t x y yt, type, pos, after, guard⟩ f.tr H = some v := by
  have hx := opd_toV P f x
  have hy := opd_toV P f y
  have key : ∀ a b r, evO P f.tr x = some (.one a) → evO P f.tr y = some (.one b) → evEq P H t a b = some r → evR P ⟨dst, .binOp op t x y yt, type, pos, after, guard⟩ f.tr H = some (.one (.bool (Bool.xor neg r))) := by
    intro a b r h1 h2 h3
    rcases hop with ⟨rfl, rfl⟩ | ⟨rfl, rfl⟩ <;> simp only [evR, evBin, h1, h2, h3]
  generalize (opd P x).get f = u at h hx
  generalize (opd P y).get f = w at h hy
  unfold eqF at h
  unfold eqT at h
  have atOf : ∀ (z : FV), nlF z ≠ .no → ∃ a, z.toV = some (.one a) ∧ nlA a = nlF z := by
    intro z hz
    cases z <;> first | exact absurd rfl hz | exact ⟨_, rfl, rfl⟩
  have nls : ∀ a, (nlA a = .ptr → ∃ b o, a = .ptr b o) ∧ (nlA a = .nilp → a = .nilp) ∧ (nlA a = .nils → a = .nils) ∧ (nlA a = .sl → (∃ b o n c, a = .sl b o n c) ∨ (∃ b o n c, a = .slx b o n c) ∨ ∃ i, a = .emp i) := by
    intro a
    cases a <;> refine ⟨fun e => ?_, fun e => ?_, fun e => ?_, fun e => ?_⟩ <;> first | (cases e; done) | rfl | exact ⟨_, _, rfl⟩ | exact .inl ⟨_, _, _, _, rfl⟩ | exact .inr (.inl ⟨_, _, _, _, rfl⟩) | exact .inr (.inr ⟨_, rfl⟩)
  cases hu : P.underlying t with
  | none => rw [hu] at h; cases h
  | some d =>
    rw [hu] at h
    cases d <;> try (cases h; done)
    case pointer e =>
      simp only at h
      cases h1 : nlF u <;> cases h2 : nlF w <;> rw [h1, h2] at h <;> try (cases h; done)
      · obtain ⟨a, ha, hn⟩ := atOf u (by rw [h1]; simp)
        obtain ⟨b, hb, hm⟩ := atOf w (by rw [h2]; simp)
        cases h
        obtain rfl := (nls a).2.1 (hn.trans h1)
        obtain ⟨b', o', rfl⟩ := (nls b).1 (hm.trans h2)
        exact key _ _ false (hx.symm.trans ha) (hy.symm.trans hb) (by simp [evEq, hu])
      · obtain ⟨a, ha, hn⟩ := atOf u (by rw [h1]; simp)
        obtain ⟨b, hb, hm⟩ := atOf w (by rw [h2]; simp)
        cases h
        obtain ⟨b', o', rfl⟩ := (nls a).1 (hn.trans h1)
        obtain rfl := (nls b).2.1 (hm.trans h2)
        exact key _ _ false (hx.symm.trans ha) (hy.symm.trans hb) (by simp [evEq, hu])
    case slice e =>
      simp only at h
      cases h1 : nlF u <;> cases h2 : nlF w <;> rw [h1, h2] at h <;> try (cases h; done)
      · obtain ⟨a, ha, hn⟩ := atOf u (by rw [h1]; simp)
        obtain ⟨b, hb, hm⟩ := atOf w (by rw [h2]; simp)
        cases h
        obtain rfl := (nls a).2.2.1 (hn.trans h1)
        rcases (nls b).2.2.2 (hm.trans h2) with ⟨_, _, _, _, rfl⟩ | ⟨_, _, _, _, rfl⟩ | ⟨_, rfl⟩ <;> exact key _ _ false (hx.symm.trans ha) (hy.symm.trans hb) (by simp [evEq, hu])
      · obtain ⟨a, ha, hn⟩ := atOf u (by rw [h1]; simp)
        obtain ⟨b, hb, hm⟩ := atOf w (by rw [h2]; simp)
        cases h
        obtain rfl := (nls b).2.2.1 (hm.trans h2)
        rcases (nls a).2.2.2 (hn.trans h1) with ⟨_, _, _, _, rfl⟩ | ⟨_, _, _, _, rfl⟩ | ⟨_, rfl⟩ <;> exact key _ _ false (hx.symm.trans ha) (hy.symm.trans hb) (by simp [evEq, hu])

end Go.Proofs.YtmnaddlniaklcaaGreatDoor.Ev
