/- A quick interpreter for the kernel: proofs, fourth part: regions in the order of their text. -/
import Derived.Test.YtmnaddlniaklcaaGreatDoorQp3
namespace Go.Proofs.YtmnaddlniaklcaaGreatDoor.Ev
open Go
set_option linter.unusedSimpArgs false

theorem pk_ok {P : Program} {dst : Option Tmp} {c a b : Operand} {type : TypeId} {pos : String} {after : Array Edge} {guard : Option (Nat × Bool)} {f : Fm} {tm : Tr V} {H : Tr AObj} {v : V} (hc : ((opd P c).get f).toV = evO P tm c) (ha : ((opd P a).get f).toV = evO P tm a) (hb : ((opd P b).get f).toV = evO P tm b)
    (h : (pkF ((opd P c).get f) ((opd P a).get f) ((opd P b).get f)).toV = some v) : evR P ⟨dst, .pick c a b, type, pos, after, guard⟩ tm H = some v := by
  generalize (opd P c).get f = u at h hc
  cases u <;> try (cases h; done)
  rename_i t
  simp only [FV.toV] at hc
  simp only [evR, ← hc]
  cases t
  · exact hb.symm.trans h
  · exact ha.symm.trans h

theorem ex_ok {P : Program} {dst : Option Tmp} {x : Operand} {i : Nat} {type : TypeId} {pos : String} {after : Array Edge} {guard : Option (Nat × Bool)} {f : Fm} {tm : Tr V} {H : Tr AObj} {v : V} (hx : ((opd P x).get f).toV = evO P tm x)
    (h : (exF ((opd P x).get f) i).toV = some v) : evR P ⟨dst, .extract x i, type, pos, after, guard⟩ tm H = some v := by
  generalize (opd P x).get f = u at h hx
  cases u <;> try (cases h; done)
  rename_i z
  simp only [FV.toV] at hx
  simp only [evR, ← hx]
  have h : (FV.ofO (evExtract z i)).toV = some v := h
  rw [FV.toV_ofO] at h
  exact h

theorem cells_ok {u : FV} {l : List At} (h : u.cells = some l) : ∃ g, u.toV = some (.c g l) := by
  cases u <;> try (cases h; exact ⟨_, rfl⟩)
  · cases h
  · rename_i x
    cases x with
    | c g m => cases h; exact ⟨g, rfl⟩
    | tup m => cases h

theorem storeF_ok {P : Program} {t : TypeId} {ti : TypeInfo} (ht : P.info? t = some ti) {H H' : Tr AObj} {b i nx : Nat} {u : FV} (h : storeF ti.size H b i u = some H') : ∃ x, u.toV = some x ∧ evStore P H nx t (.ptr b i) x = some (V.undef, H', nx) := by
  unfold storeF at h
  split at h
  · rename_i l hl
    obtain ⟨g, hg⟩ := cells_ok hl
    split at h
    · rename_i o ho
      split at h
      · rename_i o' h1 h2
        cases h
        exact ⟨_, hg, by simp only [evStore, ht, ho, h1, h2]⟩
      · cases h
    · cases h
  · cases h

theorem done_write {P : Program} {o : Oper} {f : Fm} {H : Tr AObj} {nx : Nat} {k : KK} {fv : FV} {v : V} {H' : Tr AObj} {nx' : Nat} (hv : fv.toV = some v) (h : evS P o f.tr H nx = some (v, H', nx')) : Done P o f H nx k (k (f.setO o.dst fv) H' nx') :=
  ⟨fv, H', nx', (opOk_small h).toQ hv, rfl⟩

theorem opOk_call {P : Program} (hN : NoNum P) {dst : Option Tmp} {c : Call} {type : TypeId} {pos : String} {after : Array Edge} {guard : Option (Nat × Bool)} {tm : Tr V} {H : Tr AObj} {nx : Nat} {v : V} {H' : Tr AObj} {nx' : Nat} {f : FuncId} {args : List V}
    (hw : whom P c tm = some (.fn f args)) (hc : CallOk P f args H nx v H' nx') : OpOk P ⟨dst, .call c, type, pos, after, guard⟩ tm H nx v H' nx' := by
  obtain ⟨hfn, d, hc⟩ := hc
  refine ⟨d, fun η h w A ro n K Q p ra hg hk => ⟨fun _ _ => trivial, ?_⟩⟩
  have hwho := whom_ok hN hw ra hg (dst := dst) (type := type) (pos := pos) (after := after) (guard := guard) w
  obtain ⟨cargs, hvl, hrun⟩ := hwho hfn
  rw [Oper.semAt_eq _ _ _ (fun c e => by cases e), hrun]
  refine ⟨fun hd => by simp [fe] at hd, calls_fe ((hc η h w cargs p hvl hg).mono ?_)⟩
  rintro e w' ⟨cv, η', rfl, hv, hs⟩
  exact hk cv w' η' hv hs

theorem getsK_ok {P : Program} {f : Fm} : ∀ (l : List Operand) (k : List FV → RR), getsK (opds P l) f k = .no ∨ ∃ vs xs, VsOf vs = some xs ∧ evOs P f.tr l = some xs ∧ getsK (opds P l) f k = k vs := by
  intro l
  induction l with
  | nil => intro k; exact .inr ⟨[], [], rfl, rfl, rfl⟩
  | cons x l ih =>
    intro k
    have hx := opd_toV P f x
    show FV.orK ((opd P x).get f) (fun v => getsK (opds P l) f fun vs => k (v :: vs)) .no = .no ∨ ∃ vs xs, VsOf vs = some xs ∧ evOs P f.tr (x :: l) = some xs ∧ FV.orK ((opd P x).get f) (fun v => getsK (opds P l) f fun vs => k (v :: vs)) .no = k vs
    rcases orK_cases ((opd P x).get f) (fun v => getsK (opds P l) f fun vs => k (v :: vs)) .no with ⟨_, h2⟩ | ⟨y, h1, h2⟩
    · exact .inl h2
    · rw [h2]
      rcases ih (fun vs => k ((opd P x).get f :: vs)) with h3 | ⟨vs, xs, h3, h4, h5⟩
      · exact .inl h3
      · refine .inr ⟨(opd P x).get f :: vs, y :: xs, by simp [VsOf, h1, h3], ?_, h5⟩
        rw [h1] at hx
        simp only [evOs, ← hx, h4]

theorem run1_step {P : Program} (hN : NoNum P) {Q : QF} {m : Nat} (hQ : QOk P Q m) (o : Oper) (f : Fm) (H : Tr AObj) (nx : Nat) (k : KK) (S : Oper → RR) : Step P o f H nx k S (run1 (cl P o) Q P f H nx k S) := by
  obtain ⟨dst, op, type, pos, after, guard⟩ := o
  have gen : Step P ⟨dst, op, type, pos, after, guard⟩ f H nx k S (run1 (.gen ⟨dst, op, type, pos, after, guard⟩) Q P f H nx k S) := .inr (.inl rfl)
  cases op with
  | move x => exact .inl (mv_ok (.inl rfl) f H nx k)
  | assign x => exact .inl (mv_ok (.inr rfl) f H nx k)
  | binOp op t x y yt =>
    have hb : Step P ⟨dst, .binOp op t x y yt, type, pos, after, guard⟩ f H nx k S (run1 (.bin (dstOf dst) (binOf op) (opd P x) (opd P y) ⟨dst, .binOp op t x y yt, type, pos, after, guard⟩) Q P f H nx k S) :=
      toQ_step (o := ⟨dst, .binOp op t x y yt, type, pos, after, guard⟩) (.inl rfl) (fun v hv => binF_ok (opd_toV P f x) (opd_toV P f y) hv)
    cases op <;> try exact hb
    · have he : Step P ⟨dst, .binOp .eql t x y yt, type, pos, after, guard⟩ f H nx k S (run1 (.eq (dstOf dst) false (eqT P t) (opd P x) (opd P y) ⟨dst, .binOp .eql t x y yt, type, pos, after, guard⟩) Q P f H nx k S) :=
        toQ_step (o := ⟨dst, .binOp .eql t x y yt, type, pos, after, guard⟩) (.inl rfl) (fun v hv => eq_ok (.inl ⟨rfl, rfl⟩) hv)
      simp only [cl]
      cases h : eqT P t <;> rw [h] at he <;> first | exact he | exact hb
    · have he : Step P ⟨dst, .binOp .neq t x y yt, type, pos, after, guard⟩ f H nx k S (run1 (.eq (dstOf dst) true (eqT P t) (opd P x) (opd P y) ⟨dst, .binOp .neq t x y yt, type, pos, after, guard⟩) Q P f H nx k S) :=
        toQ_step (o := ⟨dst, .binOp .neq t x y yt, type, pos, after, guard⟩) (.inl rfl) (fun v hv => eq_ok (.inr ⟨rfl, rfl⟩) hv)
      simp only [cl]
      cases h : eqT P t <;> rw [h] at he <;> first | exact he | exact hb
  | load t a =>
    simp only [cl]
    cases ht : tyAgg P t with
    | none => exact gen
    | some p =>
      obtain ⟨g, n⟩ := p
      show Step P _ f H nx k S (FV.ptrK ((opd P a).get f) (fun b i => toQ (loadF g n H b i) (dstOf dst) f H nx k .no) .no)
      rcases ptrK_cases ((opd P a).get f) (fun b i => toQ (loadF g n H b i) (dstOf dst) f H nx k .no) .no with ⟨b, i, hp, he⟩ | he
      · rw [he]
        refine toQ_step (o := ⟨dst, .load t a, type, pos, after, guard⟩) (.inr rfl) (fun v hv => ?_)
        have ha := opd_toV P f a
        rw [hp] at ha
        simp only [FV.toV] at ha
        simp only [evR, ← ha]
        exact loadF_ok ht hv
      · rw [he]; exact .inr (.inr rfl)
  | store t a x =>
    simp only [cl]
    cases ht : P.info? t with
    | none => exact gen
    | some ti =>
      show Step P _ f H nx k S (FV.ptrK ((opd P a).get f) (fun b i => optK (storeF ti.size H b i ((opd P x).get f)) (fun H' => forceH H' fun H' => (dstOf dst).putK (.v V.undef) f fun fr' => k fr' H' nx) .no) .no)
      rcases ptrK_cases ((opd P a).get f) (fun b i => optK (storeF ti.size H b i ((opd P x).get f)) (fun H' => forceH H' fun H' => (dstOf dst).putK (.v V.undef) f fun fr' => k fr' H' nx) .no) .no with ⟨b, i, hp, he⟩ | he
      · rw [he]
        cases hs : storeF ti.size H b i ((opd P x).get f) with
        | none => exact .inr (.inr rfl)
        | some H' =>
          show Step P _ f H nx k S (forceH H' fun H' => (dstOf dst).putK (.v V.undef) f fun fr' => k fr' H' nx)
          rw [forceH_eq, putK_eq]
          refine .inl (done_write (o := ⟨dst, .store t a x, type, pos, after, guard⟩) (v := V.undef) rfl ?_)
          have ha := opd_toV P f a
          rw [hp] at ha
          simp only [FV.toV] at ha
          obtain ⟨y, h1, h2⟩ := storeF_ok (nx := nx) ht hs
          have hx := opd_toV P f x
          rw [h1] at hx
          simp only [evS, evR, evW, ← ha, ← hx, h2]
      · rw [he]; exact .inr (.inr rfl)
  | box t x =>
    show Step P _ f H nx k S (optK ((opd P x).get f).cells (fun l => newQ (mk t l) (dstOf dst) f H nx k) .no)
    cases hc : ((opd P x).get f).cells with
    | none => exact .inr (.inr rfl)
    | some l =>
      show Step P _ f H nx k S (forceH (H.put (some (mk t l)) nx) fun H' => (dstOf dst).putK (.p nx 0) f fun fr' => k fr' H' (Nat.succ nx))
      rw [forceH_eq, putK_eq]
      obtain ⟨g, hg⟩ := cells_ok hc
      have hx := opd_toV P f x
      rw [hg] at hx
      exact .inl (done_write (o := ⟨dst, .box t x, type, pos, after, guard⟩) rfl (by simp only [evS, evR, evW, ← hx, evBox]))
  | alloc t =>
    simp only [cl]
    cases hz : zeroA P t with
    | none => exact gen
    | some p =>
      obtain ⟨g, z⟩ := p
      show Step P _ f H nx k S (forceH (H.put (some (mk t z)) nx) fun H' => (dstOf dst).putK (.p nx 0) f fun fr' => k fr' H' (Nat.succ nx))
      rw [forceH_eq, putK_eq]
      exact .inl (done_write (o := ⟨dst, .alloc t, type, pos, after, guard⟩) rfl (by simp only [evS, evR, evW, evAlloc, hz]))
  | fieldAddr s x fd =>
    simp only [cl]
    cases hf : faOff P s fd with
    | none => exact gen
    | some off =>
      show Step P _ f H nx k S (FV.ptrK ((opd P x).get f) (fun b a => forceN (Nat.add a off) fun a => (dstOf dst).putK (.p b a) f fun fr' => k fr' H nx) .no)
      rcases ptrK_cases ((opd P x).get f) (fun b a => forceN (Nat.add a off) fun a => (dstOf dst).putK (.p b a) f fun fr' => k fr' H nx) .no with ⟨b, a, hp, he⟩ | he
      · rw [he, forceN_eq, putK_eq]
        refine .inl (done_read (o := ⟨dst, .fieldAddr s x fd, type, pos, after, guard⟩) rfl ?_)
        have hx := opd_toV P f x
        rw [hp] at hx
        simp only [FV.toV] at hx
        simp only [evR, ← hx]
        exact fa_ok hf b a
      · rw [he]; exact .inr (.inr rfl)
  | indexAddr t x i =>
    simp only [cl]
    cases hl : iaOf P t with
    | none => exact gen
    | some p =>
      obtain ⟨l, sz⟩ := p
      refine toQ_step (o := ⟨dst, .indexAddr t x i, type, pos, after, guard⟩) (.inl rfl) (fun v hv => ?_)
      simp only [evR]
      exact ia_ok hl (opd_toV P f x) (opd_toV P f i) hv
  | pick c a b => exact toQ_step (o := ⟨dst, .pick c a b, type, pos, after, guard⟩) (.inr rfl) (fun v hv => pk_ok (opd_toV P f c) (opd_toV P f a) (opd_toV P f b) hv)
  | nilCheck x =>
    show Step P _ f H nx k S (FV.ptrK ((opd P x).get f) (fun b a => (dstOf dst).putK (.p b a) f fun fr' => k fr' H nx) (S ⟨dst, .nilCheck x, type, pos, after, guard⟩))
    rcases ptrK_cases ((opd P x).get f) (fun b a => (dstOf dst).putK (.p b a) f fun fr' => k fr' H nx) (S ⟨dst, .nilCheck x, type, pos, after, guard⟩) with ⟨b, a, hp, he⟩ | he
    · rw [he, putK_eq]
      refine .inl (done_read (o := ⟨dst, .nilCheck x, type, pos, after, guard⟩) rfl ?_)
      have hx := opd_toV P f x
      rw [hp] at hx
      simp only [FV.toV] at hx
      simp only [evR, ← hx]
    · rw [he]; exact .inr (.inl rfl)
  | extract x i => exact toQ_step (o := ⟨dst, .extract x i, type, pos, after, guard⟩) (.inr rfl) (fun v hv => ex_ok (opd_toV P f x) hv)
  | unOp op t x =>
    cases op <;> try exact gen
    exact toQ_pure (o := ⟨dst, .unOp .not t x, type, pos, after, guard⟩) (.inl rfl) (fun c e => by cases e) (fun v hv => nt_ok hv)
  | convert s t x =>
    simp only [cl]
    cases hk : cvOf P s t with
    | none => exact gen
    | some kd => exact toQ_pure (o := ⟨dst, .convert s t x, type, pos, after, guard⟩) (.inl rfl) (fun c e => by cases e) (fun v hv => cv_ok hk hv)
  | call c =>
    obtain ⟨callee, args, argTypes⟩ := c
    cases callee with
    | invoke r mth => exact gen
    | builtin b =>
      cases b <;> try exact gen
      simp only [cl]
      split
      · rename_i x t ts ha ht
        cases hs : isSliceT P t with
        | false => exact gen
        | true => exact toQ_pure (o := ⟨dst, .call ⟨.builtin .len, args, argTypes⟩, type, pos, after, guard⟩) (.inl rfl) (fun c e => by cases e) (fun v hv => len_ok rfl ha ht hs hv)
      · exact gen
    | value g =>
      cases g <;> try exact gen
      rename_i fn
      show Step P _ f H nx k S (getsK (opds P args.toList) f fun vs => crK (Q.c fn vs H nx) (dstOf dst) f k)
      rcases getsK_ok args.toList (fun vs => crK (Q.c fn vs H nx) (dstOf dst) f k) with he | ⟨vs, xs, h1, h2, he⟩
      · rw [he]; exact .inr (.inr rfl)
      · rw [he]
        cases hc : Q.c fn vs H nx with
        | no => exact .inr (.inr rfl)
        | ok v H' nx' =>
          show Step P _ f H nx k S (forceH H' fun H => forceN nx' fun nx => FV.orK v (fun v => (dstOf dst).putK v f fun fr' => k fr' H nx) .no)
          obtain ⟨x, hx, hok⟩ := hQ.c _ _ _ _ _ _ _ hc xs h1
          rw [forceH_eq, forceN_eq, orK_some hx, putK_eq]
          have hw : whom P ⟨.value (.func fn), args, argTypes⟩ f.tr = some (.fn fn xs) := by
            simp [whom, evO, h2, absVs, capsV]
          exact .inl ⟨v, H', nx', (opOk_call hN hw hok).toQ hx, rfl⟩
  | _ => exact gen

end Go.Proofs.YtmnaddlniaklcaaGreatDoor.Ev
