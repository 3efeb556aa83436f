/- A quick interpreter for the kernel: proofs, sixth part: regions that draw their order. -/
import Derived.Test.YtmnaddlniaklcaaGreatDoorQp5
namespace Go.Proofs.YtmnaddlniaklcaaGreatDoor.Ev
open Go
set_option linter.unusedSimpArgs false

/-! ### What a restricted frame still shows -/
theorem mem_looks {ops : Array Oper} {o : Oper} {t : Tmp} (h : Operand.tmp t ∈ o.op.operands.toList) : t ∈ o.looksAt ops := by
  unfold Oper.looksAt
  rw [List.mem_append]
  exact .inl (List.mem_filterMap.2 ⟨_, h, rfl⟩)
theorem evO_restr {P : Program} {ops : Array Oper} {o : Oper} {tm : Tr V} {x : Operand} (h : x ∈ o.op.operands.toList) : evO P (restrT tm (o.looksAt ops)) x = evO P tm x := by
  cases x with
  | tmp t => simp only [evO]; rw [get_restrT, if_pos (mem_looks h)]
  | _ => rfl
theorem opd_restr {P : Program} {ops : Array Oper} {o : Oper} {f : Fm} {x : Operand} (h : x ∈ o.op.operands.toList) : ((opd P x).get f).toV = evO P (restrT f.tr (o.looksAt ops)) x := by
  rw [evO_restr h]; exact opd_toV P f x
theorem evGuard_restr {ops : Array Oper} {o : Oper} {tm : Tr V} : evGuard ops o (restrT tm (o.looksAt ops)) = evGuard ops o tm := by
  unfold evGuard
  split
  · rfl
  · rename_i j want hg
    split
    · rename_i oj hj
      split
      · rename_i d hd
        have : d ∈ o.looksAt ops := by
          unfold Oper.looksAt
          rw [List.mem_append]
          refine .inr ?_
          simp [hg, hj, hd]
        rw [get_restrT, if_pos this]
      · rfl
    · rfl

theorem restrT_congr {tm tm' : Tr V} (e : ∀ t, tm.get t = tm'.get t) : ∀ l, restrT tm l = restrT tm' l
  | [] => rfl
  | t :: l => by simp only [restrT, e, restrT_congr e l]

/-! ### One step of such a region -/
def DDone (Q : QF) (P : Program) (ops : Array Oper) (A : List Nat) (a i : Nat) (ms : List Sp) (ls : List See) (o : Oper) (f : Fm) (H : Tr AObj) (nx : Nat) (k : KD) (r : RR) : Prop :=
  ∃ v s fv, (∀ rs, freeMods A i rs = freeMods A i ms → evD1 Q.f P A i rs o (restrT f.tr (o.looksAt ops)) H nx = some (v, s)) ∧ fv.toV = some v ∧
    ((quietS s = true ∧ s.see = [] ∧ r = k ms ls (f.setO o.dst fv) s.H' s.nx') ∨ (quietS s = true ∧ chkS a s.see ms = true ∧ r = k ms ((i, s.see) :: ls) (f.setO o.dst fv) s.H' s.nx') ∨
      (quietS s = false ∧ chkM a s ms = true ∧ chkL a s ls = true ∧ r = k (s :: ms) ls (f.setO o.dst fv) s.H' s.nx'))

theorem evD1_congr {F : Fns} {P : Program} {A : List Nat} {i : Nat} {rs ms : List Sp} (h : freeMods A i rs = freeMods A i ms) (o : Oper) (tm : Tr V) (H : Tr AObj) (nx : Nat) : evD1 F P A i rs o tm H nx = evD1 F P A i ms o tm H nx := by
  unfold evD1
  rw [h]

theorem slowD_step (Q : QF) (P : Program) (ops : Array Oper) (A : List Nat) (a i : Nat) (ms : List Sp) (ls : List See) (o : Oper) (f : Fm) (H : Tr AObj) (nx : Nat) (k : KD) :
    DDone Q P ops A a i ms ls o f H nx k (slowD Q P ops A a i ms ls f H nx k o) ∨ slowD Q P ops A a i ms ls f H nx k o = .no := by
  unfold slowD
  rw [restrF_eq]
  cases he : evD1 Q.f P A i ms o (restrT f.tr (o.looksAt ops)) H nx with
  | none => exact .inr rfl
  | some p =>
    obtain ⟨v, s⟩ := p
    have hall : ∀ rs, freeMods A i rs = freeMods A i ms → evD1 Q.f P A i rs o (restrT f.tr (o.looksAt ops)) H nx = some (v, s) := fun rs h => by rw [evD1_congr h]; exact he
    have cont : ∀ kk : KK, contD (dstOf o.dst) f v s kk = kk (f.setO o.dst (FV.ofV v)) s.H' s.nx' := by
      intro kk
      unfold contD
      rw [forceH_eq, forceN_eq, orK_some (FV.toV_ofV v), putK_eq]
    simp only [backD]
    cases hq : quietS s with
    | true =>
      simp only
      cases hc : chkS a s.see ms with
      | true => simp only [cont]; exact .inl ⟨v, s, FV.ofV v, hall, FV.toV_ofV v, .inr (.inl ⟨hq, hc, rfl⟩)⟩
      | false => exact .inr rfl
    | false =>
      simp only
      cases hc : chkM a s ms with
      | false => exact .inr rfl
      | true => cases hd : chkL a s ls with
        | false => exact .inr rfl
        | true => simp only [cont, Bool.and_self]; exact .inl ⟨v, s, FV.ofV v, hall, FV.toV_ofV v, .inr (.inr ⟨hq, hc, hd, rfl⟩)⟩

/-- An operation that looks at nothing. -/
theorem quiet_done {Q : QF} {P : Program} {ops : Array Oper} {A : List Nat} {a i : Nat} {ms : List Sp} {ls : List See} {o : Oper} {f : Fm} {H : Tr AObj} {nx : Nat} {k : KD} {fv : FV} {v : V} (hv : fv.toV = some v) (hc : isCall o.op = false)
    (hn : needs P o (restrT f.tr (o.looksAt ops)) = []) (hr : evR P o (restrT f.tr (o.looksAt ops)) .nil = some v) : DDone Q P ops A a i ms ls o f H nx k (k ms ls (f.setO o.dst fv) H nx) := by
  refine ⟨v, ⟨i, restrT f.tr (o.looksAt ops), v, H, nx, H, nx, .nil, .nil, [], [], false⟩, fv, fun rs _ => ?_, hv, .inl ⟨rfl, rfl, rfl⟩⟩
  simp only [evD1, hc, hn, restr, hr]
theorem toQ_quiet {Q : QF} {P : Program} {ops : Array Oper} {A : List Nat} {a i : Nat} {ms : List Sp} {ls : List See} {o : Oper} {f : Fm} {H : Tr AObj} {nx : Nat} {k : KD} {fv : FV} {s : RR} (hc : isCall o.op = false)
    (hs : DDone Q P ops A a i ms ls o f H nx k s ∨ s = .no) (h : ∀ v, fv.toV = some v → needs P o (restrT f.tr (o.looksAt ops)) = [] ∧ evR P o (restrT f.tr (o.looksAt ops)) .nil = some v) :
    DDone Q P ops A a i ms ls o f H nx k (toQ fv (dstOf o.dst) f H nx (k ms ls) s) ∨ toQ fv (dstOf o.dst) f H nx (k ms ls) s = .no := by
  unfold toQ
  rcases orK_cases fv (fun v => (dstOf o.dst).putK v f fun fr' => k ms ls fr' H nx) s with ⟨_, h2⟩ | ⟨x, h1, h2⟩
  · rw [show FV.orK fv (fun v => Dst.rec (motive := fun _ => FV → Fm → (Fm → RR) → RR) noPt (fun g => g) morePt (dstOf o.dst) v f fun fr' => k ms ls fr' H nx) s = s from h2]; exact hs
  · refine .inl ?_
    rw [show FV.orK fv (fun v => Dst.rec (motive := fun _ => FV → Fm → (Fm → RR) → RR) noPt (fun g => g) morePt (dstOf o.dst) v f fun fr' => k ms ls fr' H nx) s = _ from h2, putK_eq]
    exact quiet_done h1 hc (h x h1).1 (h x h1).2

theorem evLoad_congr {P : Program} {H H' : Tr AObj} {t : TypeId} {b i : Nat} (h : H.get b = H'.get b) : evLoad P H t (.ptr b i) = evLoad P H' t (.ptr b i) := by
  simp only [evLoad, row, h]

theorem two_ints (u w : FV) (g : Bin) {v : V} (hv : (binF u w g).toV = some v) : ((∃ n, u = .i n) ∨ (∃ n, u = .u n)) ∧ ((∃ n, w = .i n) ∨ (∃ n, w = .u n)) := by
  cases u <;> try (cases hv; done)
  · cases w <;> try (cases hv; done)
    exact ⟨.inl ⟨_, rfl⟩, .inl ⟨_, rfl⟩⟩
  · cases w <;> try (cases hv; done)
    · exact ⟨.inr ⟨_, rfl⟩, .inl ⟨_, rfl⟩⟩
    · exact ⟨.inr ⟨_, rfl⟩, .inr ⟨_, rfl⟩⟩

theorem runD_step {Q : QF} {P : Program} (ops : Array Oper) (A : List Nat) (a i : Nat) (ms : List Sp) (ls : List See) (o : Oper) (f : Fm) (H : Tr AObj) (nx : Nat) (k : KD) :
    DDone Q P ops A a i ms ls o f H nx k (runD (cl P o) Q P ops A a i ms ls f H nx k) ∨ runD (cl P o) Q P ops A a i ms ls f H nx k = .no := by
  have slow := slowD_step Q P ops A a i ms ls o f H nx k
  obtain ⟨dst, op, type, pos, after, guard⟩ := o
  cases op with
  | move x =>
    refine toQ_quiet (o := ⟨dst, .move x, type, pos, after, guard⟩) rfl (.inr rfl) (fun v hv => ⟨rfl, ?_⟩)
    simp only [evR]; rw [← opd_restr (o := ⟨dst, .move x, type, pos, after, guard⟩) (by simp [Op.operands])]; exact hv
  | assign x =>
    refine toQ_quiet (o := ⟨dst, .assign x, type, pos, after, guard⟩) rfl (.inr rfl) (fun v hv => ⟨rfl, ?_⟩)
    simp only [evR]; rw [← opd_restr (o := ⟨dst, .assign x, type, pos, after, guard⟩) (by simp [Op.operands])]; exact hv
  | binOp op t x y yt =>
    have hx : ((opd P x).get f).toV = evO P (restrT f.tr (Oper.looksAt ops ⟨dst, .binOp op t x y yt, type, pos, after, guard⟩)) x := opd_restr (by simp [Op.operands])
    have hy : ((opd P y).get f).toV = evO P (restrT f.tr (Oper.looksAt ops ⟨dst, .binOp op t x y yt, type, pos, after, guard⟩)) y := opd_restr (by simp [Op.operands])
    have hb : DDone Q P ops A a i ms ls ⟨dst, .binOp op t x y yt, type, pos, after, guard⟩ f H nx k (runD (.bin (dstOf dst) (binOf op) (opd P x) (opd P y) ⟨dst, .binOp op t x y yt, type, pos, after, guard⟩) Q P ops A a i ms ls f H nx k) ∨ runD (.bin (dstOf dst) (binOf op) (opd P x) (opd P y) ⟨dst, .binOp op t x y yt, type, pos, after, guard⟩) Q P ops A a i ms ls f H nx k = .no := by
      refine toQ_quiet (o := ⟨dst, .binOp op t x y yt, type, pos, after, guard⟩) rfl slow (fun v hv => ⟨?_, binF_ok hx hy hv⟩)
      have bl : ∀ (z : Operand) (u : FV), u.toV = evO P (restrT f.tr (Oper.looksAt ops ⟨dst, .binOp op t x y yt, type, pos, after, guard⟩)) z → ((∃ n, u = .i n) ∨ (∃ n, u = .u n)) → blocksO P (restrT f.tr (Oper.looksAt ops ⟨dst, .binOp op t x y yt, type, pos, after, guard⟩)) z = [] := by
        rintro z u hu (⟨n, rfl⟩ | ⟨n, rfl⟩) <;> simp only [FV.toV] at hu <;> simp only [blocksO, ← hu] <;> rfl
      have two := two_ints ((opd P x).get f) ((opd P y).get f) (binOf op) hv
      have b1 := bl x _ hx two.1
      have b2 := bl y _ hy two.2
      cases op <;> first | rfl | (simp only [needs, b1, b2]; rfl)
    cases op <;> try exact hb
    · simp only [cl]
      cases h : eqT P t <;> first | exact hb | exact slow
    · simp only [cl]
      cases h : eqT P t <;> first | exact hb | exact slow
  | load t x =>
    simp only [cl]
    cases ht : tyAgg P t with
    | none => exact slow
    | some p =>
      obtain ⟨g, n⟩ := p
      have hx : ((opd P x).get f).toV = evO P (restrT f.tr (Oper.looksAt ops ⟨dst, .load t x, type, pos, after, guard⟩)) x := opd_restr (by simp [Op.operands])
      show DDone Q P ops A a i ms ls _ f H nx k (FV.ptrK ((opd P x).get f) (fun b j => Bool.rec .no (toQ (loadF g n H b j) (dstOf dst) f H nx (k ms ((i, [b]) :: ls)) .no) (chkSQ a [b] ms)) .no) ∨ FV.ptrK ((opd P x).get f) (fun b j => Bool.rec .no (toQ (loadF g n H b j) (dstOf dst) f H nx (k ms ((i, [b]) :: ls)) .no) (chkSQ a [b] ms)) .no = .no
      rcases ptrK_cases ((opd P x).get f) (fun b j => Bool.rec .no (toQ (loadF g n H b j) (dstOf dst) f H nx (k ms ((i, [b]) :: ls)) .no) (chkSQ a [b] ms)) .no with ⟨b, j, hp, he⟩ | he
      · rw [he]
        rw [hp] at hx
        simp only [FV.toV] at hx
        cases hc : chkSQ a [b] ms with
        | false => exact .inr rfl
        | true =>
          show DDone Q P ops A a i ms ls _ f H nx k (FV.orK (loadF g n H b j) (fun v => (dstOf dst).putK v f fun fr' => k ms ((i, [b]) :: ls) fr' H nx) .no) ∨ FV.orK (loadF g n H b j) (fun v => (dstOf dst).putK v f fun fr' => k ms ((i, [b]) :: ls) fr' H nx) .no = .no
          have hc' : chkS a [b] ms = true := by
            cases ms with
            | nil => rfl
            | cons m l => exact hc
          rcases orK_cases (loadF g n H b j) (fun v => (dstOf dst).putK v f fun fr' => k ms ((i, [b]) :: ls) fr' H nx) .no with ⟨_, h2⟩ | ⟨v, h1, h2⟩
          · exact .inr h2
          · rw [h2, putK_eq]
            have hneed : needs P ⟨dst, .load t x, type, pos, after, guard⟩ (restrT f.tr (Oper.looksAt ops ⟨dst, .load t x, type, pos, after, guard⟩)) = [b] := by
              simp only [needs, blocksO, ← hx]; rfl
            have hev : evR P ⟨dst, .load t x, type, pos, after, guard⟩ (restrT f.tr (Oper.looksAt ops ⟨dst, .load t x, type, pos, after, guard⟩)) (restr H [b]) = some v := by
              simp only [evR, ← hx]
              rw [evLoad_congr (H' := H)]
              · exact loadF_ok ht h1
              · simp only [restr]
                cases ho : H.get b with
                | none => simp [Tr.get_nil]
                | some z => simp [Tr.get_put_same]
            refine .inl ⟨v, ⟨i, restrT f.tr (Oper.looksAt ops ⟨dst, .load t x, type, pos, after, guard⟩), v, H, nx, H, nx, restr H [b], restr H [b], [b], [], false⟩, loadF g n H b j, fun rs _ => ?_, h1, .inr (.inl ⟨rfl, hc', rfl⟩)⟩
            simp only [evD1, isCall, hneed, hev]
      · rw [he]; exact .inr rfl
  | fieldAddr s x fd =>
    simp only [cl]
    cases hf : faOff P s fd with
    | none => exact slow
    | some off =>
      have hx : ((opd P x).get f).toV = evO P (restrT f.tr (Oper.looksAt ops ⟨dst, .fieldAddr s x fd, type, pos, after, guard⟩)) x := opd_restr (by simp [Op.operands])
      show DDone Q P ops A a i ms ls _ f H nx k (FV.ptrK ((opd P x).get f) (fun b j => forceN (Nat.add j off) fun j => (dstOf dst).putK (.p b j) f fun fr' => k ms ls fr' H nx) .no) ∨ FV.ptrK ((opd P x).get f) (fun b j => forceN (Nat.add j off) fun j => (dstOf dst).putK (.p b j) f fun fr' => k ms ls fr' H nx) .no = .no
      rcases ptrK_cases ((opd P x).get f) (fun b j => forceN (Nat.add j off) fun j => (dstOf dst).putK (.p b j) f fun fr' => k ms ls fr' H nx) .no with ⟨b, j, hp, he⟩ | he
      · rw [he, forceN_eq, putK_eq]
        rw [hp] at hx
        simp only [FV.toV] at hx
        refine .inl (quiet_done (o := ⟨dst, .fieldAddr s x fd, type, pos, after, guard⟩) rfl rfl rfl ?_)
        simp only [evR, ← hx]
        exact fa_ok hf b j
      · rw [he]; exact .inr rfl
  | indexAddr t x y =>
    simp only [cl]
    cases hl : iaOf P t with
    | none => exact slow
    | some p =>
      obtain ⟨l, sz⟩ := p
      refine toQ_quiet (o := ⟨dst, .indexAddr t x y, type, pos, after, guard⟩) rfl slow (fun v hv => ⟨rfl, ?_⟩)
      simp only [evR]
      exact ia_ok hl (opd_restr (o := ⟨dst, .indexAddr t x y, type, pos, after, guard⟩) (by simp [Op.operands])) (opd_restr (o := ⟨dst, .indexAddr t x y, type, pos, after, guard⟩) (by simp [Op.operands])) hv
  | pick c x y =>
    exact toQ_quiet (o := ⟨dst, .pick c x y, type, pos, after, guard⟩) rfl (.inr rfl) (fun v hv => ⟨rfl, pk_ok (opd_restr (by simp [Op.operands])) (opd_restr (by simp [Op.operands])) (opd_restr (by simp [Op.operands])) hv⟩)
  | nilCheck x =>
    have hx : ((opd P x).get f).toV = evO P (restrT f.tr (Oper.looksAt ops ⟨dst, .nilCheck x, type, pos, after, guard⟩)) x := opd_restr (by simp [Op.operands])
    show DDone Q P ops A a i ms ls _ f H nx k (FV.ptrK ((opd P x).get f) (fun b j => (dstOf dst).putK (.p b j) f fun fr' => k ms ls fr' H nx) (slowD Q P ops A a i ms ls f H nx k ⟨dst, .nilCheck x, type, pos, after, guard⟩)) ∨ FV.ptrK ((opd P x).get f) (fun b j => (dstOf dst).putK (.p b j) f fun fr' => k ms ls fr' H nx) (slowD Q P ops A a i ms ls f H nx k ⟨dst, .nilCheck x, type, pos, after, guard⟩) = .no
    rcases ptrK_cases ((opd P x).get f) (fun b j => (dstOf dst).putK (.p b j) f fun fr' => k ms ls fr' H nx) (slowD Q P ops A a i ms ls f H nx k ⟨dst, .nilCheck x, type, pos, after, guard⟩) with ⟨b, j, hp, he⟩ | he
    · rw [he, putK_eq]
      rw [hp] at hx
      simp only [FV.toV] at hx
      refine .inl (quiet_done (o := ⟨dst, .nilCheck x, type, pos, after, guard⟩) rfl rfl rfl ?_)
      simp only [evR, ← hx]
    · rw [he]; exact slow
  | extract x j => exact toQ_quiet (o := ⟨dst, .extract x j, type, pos, after, guard⟩) rfl (.inr rfl) (fun v hv => ⟨rfl, ex_ok (opd_restr (by simp [Op.operands])) hv⟩)
  | store t x y =>
    simp only [cl]
    cases P.info? t <;> exact slow
  | alloc t =>
    simp only [cl]
    cases zeroA P t with
    | none => exact slow
    | some p => exact slow
  | unOp op t x => cases op <;> exact slow
  | convert s t x =>
    simp only [cl]
    cases cvOf P s t <;> exact slow
  | call c =>
    obtain ⟨callee, args, argTypes⟩ := c
    cases callee with
    | invoke r mth => exact slow
    | builtin b =>
      cases b <;> try exact slow
      simp only [cl]
      split
      · rename_i x t ts ha ht
        cases isSliceT P t <;> exact slow
      · exact slow
    | value g => cases g <;> exact slow
  | _ => exact slow

end Go.Proofs.YtmnaddlniaklcaaGreatDoor.Ev
