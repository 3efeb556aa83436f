/- A quick interpreter for the kernel: proofs, sixth part: regions that draw their order. -/
import Derived.Test.YtphpkalbbmlgoaaGreatDoorQpA
namespace Go.Proofs.YtphpkalbbmlgoaaGreatDoor.Ev
open Go
set_option linter.unusedSimpArgs false

theorem mem_looks {ops : Array Oper} {o : Oper} {t : Tmp} (h : Operand.tmp t ∈ o.op.operands.toList) : t ∈ o.looksAt ops := by
  unfold Oper.looksAt
  rw [List.mem_append]
  exact .inl (List.mem_filterMap.2 ⟨_, h, rfl⟩)

theorem evO_restr {P : Program} {ops : Array Oper} {o : Oper} {tm : Tr V} {x : Operand} (h : x ∈ o.op.operands.toList) : evO P (restrT tm (o.looksAt ops)) x = evO P tm x := by
  cases x with
  | tmp t => simp only [evO]; rw [get_restrT, if_pos (mem_looks h)]
  | _ => rfl

theorem opd_restr {P : Program} {ops : Array Oper} {o : Oper} {f : Fm} {x : Operand} (h : x ∈ o.op.operands.toList) : ((opd P x).get f).toV = evO P (restrT f.tr (o.looksAt ops)) x := by
  rw [evO_restr h]; exact opd_toV P f x

theorem evGuard_restr {ops : Array Oper} {o : Oper} {tm : Tr V} : evGuard ops o (restrT tm (o.looksAt ops)) = evGuard ops o tm := by
  unfold evGuard
  split
  · rfl
  · rename_i j want hg
    split
    · rename_i oj hj
      split
      · rename_i d hd
        have : d ∈ o.looksAt ops := by
          unfold Oper.looksAt
          rw [List.mem_append]
          refine .inr ?_
          simp [hg, hj, hd]
        rw [get_restrT, if_pos this]
      · rfl
    · rfl

theorem restrT_congr {tm tm' : Tr V} (e : ∀ t, tm.get t = tm'.get t) : ∀ l, restrT tm l = restrT tm' l
  | [] => rfl
  | t :: l => by simp only [restrT, e, restrT_congr e l]

def DDone (Q : QF) (P : Program) (ops : Array Oper) (A : List Nat) (a i : Nat) (ms : List Sp) (ls : List See) (o : Oper) (f : Fm) (H : Tr AObj) (nx : Nat) (k : KD) (r : RR) : Prop :=
  ∃ v s fv, (∀ rs, freeMods A i rs = freeMods A i ms → evD1 Q.f P A i rs o (restrT f.tr (o.looksAt ops)) H nx = some (v, s)) ∧ fv.toV = some v ∧
    ((quietS s = true ∧ s.see = [] ∧ r = k ms ls (f.setO o.dst fv) s.H' s.nx') ∨ (quietS s = true ∧ chkS a s.see ms = true ∧ r = k ms ((i, s.see) :: ls) (f.setO o.dst fv) s.H' s.nx') ∨
      (quietS s = false ∧ chkM a s ms = true ∧ chkL a s ls = true ∧ r = k (s :: ms) ls (f.setO o.dst fv) s.H' s.nx'))

theorem evD1_congr {F : Fns} {P : Program} {A : List Nat} {i : Nat} {rs ms : List Sp} (h : freeMods A i rs = freeMods A i ms) (o : Oper) (tm : Tr V) (H : Tr AObj) (nx : Nat) : evD1 F P A i rs o tm H nx = evD1 F P A i ms o tm H nx := by
  unfold evD1
  rw [h]

theorem slowD_step (Q : QF) (P : Program) (ops : Array Oper) (A : List Nat) (a i : Nat) (ms : List Sp) (ls : List See) (o : Oper) (f : Fm) (H : Tr AObj) (nx : Nat) (k : KD) :
    DDone Q P ops A a i ms ls o f H nx k (slowD Q P ops A a i ms ls f H nx k o) ∨ slowD Q P ops A a i ms ls f H nx k o = .no := by
  unfold slowD
  rw [restrF_eq]
  cases he : evD1 Q.f P A i ms o (restrT f.tr (o.looksAt ops)) H nx with
  | none => exact .inr rfl
  | some p =>
    obtain ⟨v, s⟩ := p
    have hall : ∀ rs, freeMods A i rs = freeMods A i ms → evD1 Q.f P A i rs o (restrT f.tr (o.looksAt ops)) H nx = some (v, s) := fun rs h => by rw [evD1_congr h]; exact he
    have cont : ∀ kk : KK, contD (dstOf o.dst) f v s kk = kk (f.setO o.dst (FV.ofV v)) s.H' s.nx' := by
      intro kk
      unfold contD
      rw [forceH_eq, forceN_eq, orK_some (FV.toV_ofV v), putK_eq]
    simp only [backD]
    cases hq : quietS s with
    | true =>
      simp only
      cases hc : chkS a s.see ms with
      | true => simp only [cont]; exact .inl ⟨v, s, FV.ofV v, hall, FV.toV_ofV v, .inr (.inl ⟨hq, hc, rfl⟩)⟩
      | false => exact .inr rfl
    | false =>
      simp only
      cases hc : chkM a s ms with
      | false => exact .inr rfl
      | true => cases hd : chkL a s ls with
        | false => exact .inr rfl
        | true => simp only [cont, Bool.and_self]; exact .inl ⟨v, s, FV.ofV v, hall, FV.toV_ofV v, .inr (.inr ⟨hq, hc, hd, rfl⟩)⟩

theorem quiet_done {Q : QF} {P : Program} {ops : Array Oper} {A : List Nat} {a i : Nat} {ms : List Sp} {ls : List See} {o : Oper} {f : Fm} {H : Tr AObj} {nx : Nat} {k : KD} {fv : FV} {v : V} (hv : fv.toV = some v) (hc : isCall o.op = false)
    (hn : needs P o (restrT f.tr (o.looksAt ops)) = []) (hr : evR P o (restrT f.tr (o.looksAt ops)) .nil = some v) : DDone Q P ops A a i ms ls o f H nx k (k ms ls (f.setO o.dst fv) H nx) := by
  refine ⟨v, ⟨i, restrT f.tr (o.looksAt ops), v, H, nx, H, nx, .nil, .nil, [], [], false⟩, fv, fun rs _ => ?_, hv, .inl ⟨rfl, rfl, rfl⟩⟩
  simp only [evD1, hc, hn, restr, hr]

theorem toQ_quiet {Q : QF} {P : Program} {ops : Array Oper} {A : List Nat} {a i : Nat} {ms : List Sp} {ls : List See} {o : Oper} {f : Fm} {H : Tr AObj} {nx : Nat} {k : KD} {fv : FV} {s : RR} (hc : isCall o.op = false)
    (hs : DDone Q P ops A a i ms ls o f H nx k s ∨ s = .no) (h : ∀ v, fv.toV = some v → needs P o (restrT f.tr (o.looksAt ops)) = [] ∧ evR P o (restrT f.tr (o.looksAt ops)) .nil = some v) :
    DDone Q P ops A a i ms ls o f H nx k (toQ fv (dstOf o.dst) f H nx (k ms ls) s) ∨ toQ fv (dstOf o.dst) f H nx (k ms ls) s = .no := by
  unfold toQ
  rcases orK_cases fv (fun v => (dstOf o.dst).putK v f fun fr' => k ms ls fr' H nx) s with ⟨_, h2⟩ | ⟨x, h1, h2⟩
  · rw [show FV.orK fv (fun v => Dst.rec (motive := fun _ => FV → Fm → (Fm → RR) → RR) noPt (fun g => g) morePt (dstOf o.dst) v f fun fr' => k ms ls fr' H nx) s = s from h2]; exact hs
  · refine .inl ?_
    rw [show FV.orK fv (fun v => Dst.rec (motive := fun _ => FV → Fm → (Fm → RR) → RR) noPt (fun g => g) morePt (dstOf o.dst) v f fun fr' => k ms ls fr' H nx) s = _ from h2, putK_eq]
    exact quiet_done h1 hc (h x h1).1 (h x h1).2

theorem evLoad_congr {P : Program} {H H' : Tr AObj} {t : TypeId} {b i : Nat} (h : H.get b = H'.get b) : evLoad P H t (.ptr b i) = evLoad P H' t (.ptr b i) := by
  simp only [evLoad, row, h]

theorem two_ints (u w : FV) (g : Bin) {v : V} (hv : (binF u w g).toV = some v) : ((∃ n, u = .i n) ∨ (∃ n, u = .u n)) ∧ ((∃ n, w = .i n) ∨ (∃ n, w = .u n)) := by
  cases u <;> try (cases hv; done)
  · cases w <;> try (cases hv; done)
    exact ⟨.inl ⟨_, rfl⟩, .inl ⟨_, rfl⟩⟩
  · cases w <;> try (cases hv; done)
    · exact ⟨.inr ⟨_, rfl⟩, .inl ⟨_, rfl⟩⟩
    · exact ⟨.inr ⟨_, rfl⟩, .inr ⟨_, rfl⟩⟩

theorem runD_step {Q : QF} {P : Program} (ops : Array Oper) (A : List Nat) (a i : Nat) (ms : List Sp) (ls : List See) (o : Oper) (f : Fm) (H : Tr AObj) (nx : Nat) (k : KD) :
    DDone Q P ops A a i ms ls o f H nx k (runD (cl P o) Q P ops A a i ms ls f H nx k) ∨ runD (cl P o) Q P ops A a i ms ls f H nx k = .no := by
  have slow := slowD_step Q P ops A a i ms ls o f H nx k
  obtain ⟨dst, op, type, pos, after, guard⟩ := o
  cases op with
  | move x =>
    refine toQ_quiet (o := ⟨dst, .move x, type, pos, after, guard⟩) rfl (.inr rfl) (fun v hv => ⟨rfl, ?_⟩)
    simp only [evR]; rw [← opd_restr (o := ⟨dst, .move x, type, pos, after, guard⟩) (by simp [Op.operands])]; exact hv
  | assign x =>
    refine toQ_quiet (o := ⟨dst, .assign x, type, pos, after, guard⟩) rfl (.inr rfl) (fun v hv => ⟨rfl, ?_⟩)
    simp only [evR]; rw [← opd_restr (o := ⟨dst, .assign x, type, pos, after, guard⟩) (by simp [Op.operands])]; exact hv
  | binOp op t x y yt =>
    have hx : ((opd P x).get f).toV = evO P (restrT f.tr (Oper.looksAt ops ⟨dst, .binOp op t x y yt, type, pos, after, guard⟩)) x := opd_restr (by simp [Op.operands])
    have hy : ((opd P y).get f).toV = evO P (restrT f.tr (Oper.looksAt ops ⟨dst, .binOp op t x y yt, type, pos, after, guard⟩)) y := opd_restr (by simp [Op.operands])
    have hb : DDone Q P ops A a i ms ls ⟨dst, .binOp op t x y yt, type, pos, after, guard⟩ f H nx k (runD (.bin (dstOf dst) (binOf op) (opd P x) (opd P y) ⟨dst, .binOp op t x y yt, type, pos, after, guard⟩) Q P ops A a i ms ls f H nx k) ∨ runD (.bin (dstOf dst) (binOf op) (opd P x) (opd P y) ⟨dst, .binOp op t x y yt, type, pos, after, guard⟩) Q P ops A a i ms ls f H nx k = .no := by
      refine toQ_quiet (o := ⟨dst, .binOp op t x y yt, type, pos, after, guard⟩) rfl slow (fun v hv => ⟨?_, binF_ok hx hy hv⟩)
      have bl : ∀ (z : Operand) (u : FV), u.toV = evO P (restrT f.tr (Oper.looksAt ops ⟨dst, .binOp op t x y yt, type, pos, after, guard⟩)) z → ((∃ n, u = .i n) ∨ (∃ n, u = .u n)) → blocksO P (restrT f.tr (Oper.looksAt ops ⟨dst, .binOp op t x y yt, type, pos, after, guard⟩)) z = [] := by
        rintro z u hu (⟨n, rfl⟩ | ⟨n, rfl⟩) <;> simp only [FV.toV] at hu <;> simp only [blocksO, ← hu] <;> rfl
      have two := two_ints ((opd P x).get f) ((opd P y).get f) (binOf op) hv
      have b1 := bl x _ hx two.1
      have b2 := bl y _ hy two.2
      cases op <;> first | rfl | (simp only [needs, b1, b2]; rfl)
    cases op <;> try exact hb
    · simp only [cl]
      cases h : eqT P t <;> first | exact hb | exact slow
    · simp only [cl]
      cases h : eqT P t <;> first | exact hb | exact slow
  | load t x =>
    simp only [cl]
    cases ht : tyAgg P t with
    | none => exact slow
    | some p =>
      obtain ⟨g, n⟩ := p
      have hx : ((opd P x).get f).toV = evO P (restrT f.tr (Oper.looksAt ops ⟨dst, .load t x, type, pos, after, guard⟩)) x := opd_restr (by simp [Op.operands])
      show DDone Q P ops A a i ms ls _ f H nx k (FV.ptrK ((opd P x).get f) (fun b j => Bool.rec .no (toQ (loadF g n H b j) (dstOf dst) f H nx (k ms ((i, [b]) :: ls)) .no) (chkSQ a [b] ms)) .no) ∨ FV.ptrK ((opd P x).get f) (fun b j => Bool.rec .no (toQ (loadF g n H b j) (dstOf dst) f H nx (k ms ((i, [b]) :: ls)) .no) (chkSQ a [b] ms)) .no = .no
      rcases ptrK_cases ((opd P x).get f) (fun b j => Bool.rec .no (toQ (loadF g n H b j) (dstOf dst) f H nx (k ms ((i, [b]) :: ls)) .no) (chkSQ a [b] ms)) .no with ⟨b, j, hp, he⟩ | he
      · rw [he]
        rw [hp] at hx
        simp only [FV.toV] at hx
        cases hc : chkSQ a [b] ms with
        | false => exact .inr rfl
        | true =>
          show DDone Q P ops A a i ms ls _ f H nx k (FV.orK (loadF g n H b j) (fun v => (dstOf dst).putK v f fun fr' => k ms ((i, [b]) :: ls) fr' H nx) .no) ∨ FV.orK (loadF g n H b j) (fun v => (dstOf dst).putK v f fun fr' => k ms ((i, [b]) :: ls) fr' H nx) .no = .no
          have hc' : chkS a [b] ms = true := by
            cases ms with
            | nil => rfl
            | cons m l => exact hc
          rcases orK_cases (loadF g n H b j) (fun v => (dstOf dst).putK v f fun fr' => k ms ((i, [b]) :: ls) fr' H nx) .no with ⟨_, h2⟩ | ⟨v, h1, h2⟩
          · exact .inr h2
          · rw [h2, putK_eq]
            have hneed : needs P ⟨dst, .load t x, type, pos, after, guard⟩ (restrT f.tr (Oper.looksAt ops ⟨dst, .load t x, type, pos, after, guard⟩)) = [b] := by
              simp only [needs, blocksO, ← hx]; rfl
            have hev : evR P ⟨dst, .load t x, type, pos, after, guard⟩ (restrT f.tr (Oper.looksAt ops ⟨dst, .load t x, type, pos, after, guard⟩)) (restr H [b]) = some v := by
              simp only [evR, ← hx]
              rw [evLoad_congr (H' := H)]
              · exact loadF_ok ht h1
              · simp only [restr]
                cases ho : H.get b with
                | none => simp [Tr.get_nil]
                | some z => simp [Tr.get_put_same]
            refine .inl ⟨v, ⟨i, restrT f.tr (Oper.looksAt ops ⟨dst, .load t x, type, pos, after, guard⟩), v, H, nx, H, nx, restr H [b], restr H [b], [b], [], false⟩, loadF g n H b j, fun rs _ => ?_, h1, .inr (.inl ⟨rfl, hc', rfl⟩)⟩
            simp only [evD1, isCall, hneed, hev]
      · rw [he]; exact .inr rfl
  | fieldAddr s x fd =>
    simp only [cl]
    cases hf : faOff P s fd with
    | none => exact slow
    | some off =>
      have hx : ((opd P x).get f).toV = evO P (restrT f.tr (Oper.looksAt ops ⟨dst, .fieldAddr s x fd, type, pos, after, guard⟩)) x := opd_restr (by simp [Op.operands])
      show DDone Q P ops A a i ms ls _ f H nx k (FV.ptrK ((opd P x).get f) (fun b j => forceN (Nat.add j off) fun j => (dstOf dst).putK (.p b j) f fun fr' => k ms ls fr' H nx) .no) ∨ FV.ptrK ((opd P x).get f) (fun b j => forceN (Nat.add j off) fun j => (dstOf dst).putK (.p b j) f fun fr' => k ms ls fr' H nx) .no = .no
      rcases ptrK_cases ((opd P x).get f) (fun b j => forceN (Nat.add j off) fun j => (dstOf dst).putK (.p b j) f fun fr' => k ms ls fr' H nx) .no with ⟨b, j, hp, he⟩ | he
      · rw [he, forceN_eq, putK_eq]
        rw [hp] at hx
        simp only [FV.toV] at hx
        refine .inl (quiet_done (o := ⟨dst, .fieldAddr s x fd, type, pos, after, guard⟩) rfl rfl rfl ?_)
        simp only [evR, ← hx]
        exact fa_ok hf b j
      · rw [he]; exact .inr rfl
  | indexAddr t x y =>
    simp only [cl]
    cases hl : iaOf P t with
    | none => exact slow
    | some p =>
      obtain ⟨l, sz⟩ := p
      refine toQ_quiet (o := ⟨dst, .indexAddr t x y, type, pos, after, guard⟩) rfl slow (fun v hv => ⟨rfl, ?_⟩)
      simp only [evR]
      exact ia_ok hl (opd_restr (o := ⟨dst, .indexAddr t x y, type, pos, after, guard⟩) (by simp [Op.operands])) (opd_restr (o := ⟨dst, .indexAddr t x y, type, pos, after, guard⟩) (by simp [Op.operands])) hv
  | pick c x y =>
    exact toQ_quiet (o := ⟨dst, .pick c x y, type, pos, after, guard⟩) rfl (.inr rfl) (fun v hv => ⟨rfl, pk_ok (opd_restr (by simp [Op.operands])) (opd_restr (by simp [Op.operands])) (opd_restr (by simp [Op.operands])) hv⟩)
  | nilCheck x =>
    have hx : ((opd P x).get f).toV = evO P (restrT f.tr (Oper.looksAt ops ⟨dst, .nilCheck x, type, pos, after, guard⟩)) x := opd_restr (by simp [Op.operands])
    show DDone Q P ops A a i ms ls _ f H nx k (FV.ptrK ((opd P x).get f) (fun b j => (dstOf dst).putK (.p b j) f fun fr' => k ms ls fr' H nx) (slowD Q P ops A a i ms ls f H nx k ⟨dst, .nilCheck x, type, pos, after, guard⟩)) ∨ FV.ptrK ((opd P x).get f) (fun b j => (dstOf dst).putK (.p b j) f fun fr' => k ms ls fr' H nx) (slowD Q P ops A a i ms ls f H nx k ⟨dst, .nilCheck x, type, pos, after, guard⟩) = .no
    rcases ptrK_cases ((opd P x).get f) (fun b j => (dstOf dst).putK (.p b j) f fun fr' => k ms ls fr' H nx) (slowD Q P ops A a i ms ls f H nx k ⟨dst, .nilCheck x, type, pos, after, guard⟩) with ⟨b, j, hp, he⟩ | he
    · rw [he, putK_eq]
      rw [hp] at hx
      simp only [FV.toV] at hx
      refine .inl (quiet_done (o := ⟨dst, .nilCheck x, type, pos, after, guard⟩) rfl rfl rfl ?_)
      simp only [evR, ← hx]
    · rw [he]; exact slow
  | extract x j => exact toQ_quiet (o := ⟨dst, .extract x j, type, pos, after, guard⟩) rfl (.inr rfl) (fun v hv => ⟨rfl, ex_ok (opd_restr (by simp [Op.operands])) hv⟩)
  | store t x y =>
    simp only [cl]
    cases P.info? t <;> exact slow
  | alloc t =>
    simp only [cl]
    cases zeroA P t with
    | none => exact slow
    | some p => exact slow
  | unOp op t x => cases op <;> exact slow
  | convert s t x =>
    simp only [cl]
    cases cvOf P s t <;> exact slow
  | call c =>
    obtain ⟨callee, args, argTypes⟩ := c
    cases callee with
    | invoke r mth => exact slow
    | builtin b =>
      cases b <;> try exact slow
      simp only [cl]
      split
      · rename_i x t ts ha ht
        cases isSliceT P t <;> exact slow
      · exact slow
    | value g => cases g <;> exact slow
  | _ => exact slow

end Go.Proofs.YtphpkalbbmlgoaaGreatDoor.Ev

namespace Go.Proofs.YtphpkalbbmlgoaaGreatDoor.Ev
open Go
set_option linter.unusedSimpArgs false

theorem bitQ_eq (a j : Nat) : bitQ a j = a.testBit j := by
  unfold bitQ Nat.testBit
  have e : Nat.land 1 (Nat.shiftRight a j) = 1 &&& (a >>> j) := rfl
  rw [e]
  cases h : Nat.beq (1 &&& (a >>> j)) 0 with
  | true => have := Nat.eq_of_beq_eq_true h; simp [this]
  | false =>
    have : (1 &&& (a >>> j)) ≠ 0 := fun e2 => by rw [e2] at h; cases h
    simpa using this

theorem bitA_eq (A : List Nat) (i j : Nat) : bitA A i j = bitQ (A.getD i 0) j := by rw [bitQ_eq]; rfl

theorem disj_nil : ∀ l, disj l [] = true
  | [] => rfl
  | b :: l => by simp [disj, elemN, disj_nil l]

structure Cov (rs ms : List Sp) (ls : List See) : Prop where
  fm : ms = rs.filter (fun r => !quietS r)
  see : ∀ r ∈ rs, quietS r = true → r.see = [] ∨ (r.idx, r.see) ∈ ls

theorem quietS_ok {s : Sp} (h : quietS s = true) : s.mods = [] ∧ s.big = false := by
  unfold quietS at h
  split at h
  · rename_i h1 h2; exact ⟨h1, h2⟩
  · cases h

theorem freeMods_cov {A : List Nat} {i : Nat} : ∀ {rs : List Sp}, freeMods A i rs = freeMods A i (rs.filter (fun r => !quietS r))
  | [] => rfl
  | r :: l => by
    simp only [freeMods, List.filter_cons]
    cases hq : quietS r with
    | true =>
      simp only [Bool.not_true, Bool.false_eq_true, if_false]
      rw [(quietS_ok hq).1, freeMods_cov (rs := l)]
      cases bitA A i r.idx <;> rfl
    | false =>
      simp only [Bool.not_false, if_true, freeMods]
      rw [freeMods_cov (rs := l)]

theorem chkS_ok {a : Nat} {see : List Nat} : ∀ {l : List Sp}, chkS a see l = true → ∀ m ∈ l, (bitQ a m.idx || seeOk m see) = true
  | [], _, m, hm => by cases hm
  | x :: l, h, m, hm => by
    simp only [chkS] at h
    split at h
    · rename_i hx
      rcases List.mem_cons.1 hm with rfl | hm
      · exact hx
      · exact chkS_ok h m hm
    · cases h

theorem chkM_ok {a : Nat} {s : Sp} : ∀ {l : List Sp}, chkM a s l = true → ∀ m ∈ l, (bitQ a m.idx || pairB m s) = true
  | [], _, m, hm => by cases hm
  | x :: l, h, m, hm => by
    simp only [chkM] at h
    split at h
    · rename_i hx
      rcases List.mem_cons.1 hm with rfl | hm
      · exact hx
      · exact chkM_ok h m hm
    · cases h

theorem chkL_ok {a : Nat} {s : Sp} : ∀ {l : List See}, chkL a s l = true → ∀ e ∈ l, (bitQ a e.1 || seeOk s e.2) = true
  | [], _, m, hm => by cases hm
  | x :: l, h, m, hm => by
    simp only [chkL] at h
    split at h
    · rename_i hx
      rcases List.mem_cons.1 hm with rfl | hm
      · exact hx
      · exact chkL_ok h m hm
    · cases h

theorem pair_quiet {r s : Sp} (hs : quietS s = true) (h : quietS r = true ∨ s.see = [] ∨ seeOk r s.see = true) : pairB r s = true := by
  obtain ⟨h1, h2⟩ := quietS_ok hs
  unfold pairB
  rw [h2, h1]
  cases hb : r.big with
  | false =>
    simp only [disj, Bool.and_true]
    rcases h with h | h | h
    · rw [(quietS_ok h).1]; rfl
    · rw [h]; exact disj_nil _
    · unfold seeOk at h; rw [hb] at h; exact h
  | true =>
    simp only [noneAt, Bool.true_and]
    rcases h with h | h | h
    · rw [(quietS_ok h).2] at hb; cases hb
    · rw [h]; rfl
    · unfold seeOk at h; rw [hb] at h; exact h

theorem pair_loud {r s : Sp} (hr : quietS r = true) (h : r.see = [] ∨ seeOk s r.see = true) : pairB r s = true := by
  obtain ⟨h1, h2⟩ := quietS_ok hr
  unfold pairB
  rw [h2, h1]
  cases hb : s.big with
  | false =>
    simp only [disj, Bool.true_and]
    rcases h with h | h
    · rw [h]; exact disj_nil _
    · unfold seeOk at h; rw [hb] at h; exact h
  | true =>
    simp only [noneAt, Bool.true_and]
    rcases h with h | h
    · rw [h]; rfl
    · unfold seeOk at h; rw [hb] at h; exact h

theorem evD1_idx {F : Fns} {P : Program} {A : List Nat} {i : Nat} {rs : List Sp} {o : Oper} {tm : Tr V} {H : Tr AObj} {nx : Nat} {v : V} {s : Sp} (h : evD1 F P A i rs o tm H nx = some (v, s)) : s.idx = i := by
  unfold evD1 at h
  split at h
  · split at h
    · split at h
      · cases h; rfl
      · cases h
    · cases h
  · split at h
    · cases h; rfl
    · split at h
      · cases h; rfl
      · cases h

theorem putA_some {nt : Nat} {tm : Tr V} {d : Option Tmp} {v : V} (h : dstLt nt d = true) : ∃ tm', putA nt tm d v = some tm' ∧ ∀ (f : Fm) (fv : FV), (∀ t, tm.get t = f.tr.get t) → fv.toV = some v → ∀ t, tm'.get t = (f.setO d fv).tr.get t := by
  cases d with
  | none => exact ⟨tm, rfl, fun f fv e _ t => e t⟩
  | some d =>
    have h : Nat.blt d nt = true := h
    refine ⟨tm.put (some v) d, by simp only [putA, h], fun f fv e hv t => ?_⟩
    rw [Tr.get_put, Fm.get_tr]
    simp only [Fm.setO, Fm.val_set]
    by_cases ht : t = d
    · rw [if_pos ht, if_pos ht, hv]
    · rw [if_neg ht, if_neg ht, e, Fm.get_tr]

theorem qDs_ok {Q : QF} {P : Program} {ops : Array Oper} {nt : Nat} {A : List Nat} : ∀ (l : List Oper) (i : Nat) (rs ms : List Sp) (ls : List See) (f : Fm) (tm : Tr V) (H : Tr AObj) (nx : Nat) (f' : Fm) (H' : Tr AObj) (nx' : Nat),
    (∀ t, tm.get t = f.tr.get t) → Cov rs ms ls → qDs (gdsD P ops A i l) Q P ops A i ms ls f H nx = .ok f' H' nx' → dstsLt nt l = true →
    ∃ tm' ss, evD Q.f P ops nt A i l rs tm H nx = some (tm', H', nx', ss) ∧ (∀ t, tm'.get t = f'.tr.get t) ∧ chkAll A ss = true ∧ ∀ r ∈ rs, pairsB A r ss = true := by
  intro l
  induction l with
  | nil =>
    intro i rs ms ls f tm H nx f' H' nx' htm hcov he _
    have he : RR.ok f H nx = .ok f' H' nx' := he
    cases he
    exact ⟨tm, [], rfl, htm, rfl, fun _ _ => rfl⟩
  | cons o l ih =>
    intro i rs ms ls f tm H nx f' H' nx' htm hcov he hlt
    have he : runD (gdD P ops o) Q P ops A (A.getD i 0) i ms ls f H nx (qDs (gdsD P ops A (i + 1) l) Q P ops A (i + 1)) = .ok f' H' nx' := he
    have hdst : dstLt nt o.dst = true := by
      simp only [dstsLt] at hlt
      split at hlt
      · assumption
      · cases hlt
    have hlt' : dstsLt nt l = true := by
      simp only [dstsLt] at hlt
      split at hlt
      · exact hlt
      · cases hlt
    have hre : restrT tm (o.looksAt ops) = restrT f.tr (o.looksAt ops) := restrT_congr htm _
    -- the operation is done
    have done : evGuard ops o f.tr = some true → DDone Q P ops A (A.getD i 0) i ms ls o f H nx (qDs (gdsD P ops A (i + 1) l) Q P ops A (i + 1)) (.ok f' H' nx') →
        ∃ tm' ss, evD Q.f P ops nt A i (o :: l) rs tm H nx = some (tm', H', nx', ss) ∧ (∀ t, tm'.get t = f'.tr.get t) ∧ chkAll A ss = true ∧ ∀ r ∈ rs, pairsB A r ss = true := by
      rintro hg ⟨v, s, fv, hall, hv, hr⟩
      have hd1 := hall rs (by rw [hcov.fm]; exact freeMods_cov)
      have hidx := evD1_idx hd1
      obtain ⟨tm1, hput, hget⟩ := putA_some (tm := tm) (v := v) hdst
      have hget1 := hget f fv htm hv
      have key : ∀ ms' ls', Cov (s :: rs) ms' ls' → qDs (gdsD P ops A (i + 1) l) Q P ops A (i + 1) ms' ls' (f.setO o.dst fv) s.H' s.nx' = .ok f' H' nx' → (∀ r ∈ rs, (bitA A s.idx r.idx || pairB r s) = true) →
          ∃ tm' ss, evD Q.f P ops nt A i (o :: l) rs tm H nx = some (tm', H', nx', ss) ∧ (∀ t, tm'.get t = f'.tr.get t) ∧ chkAll A ss = true ∧ ∀ r ∈ rs, pairsB A r ss = true := by
        intro ms' ls' hc hq hp
        obtain ⟨tm2, ss, h1, h2, h3, h4⟩ := ih (i + 1) (s :: rs) ms' ls' _ tm1 _ _ _ _ _ hget1 hc hq hlt'
        refine ⟨tm2, s :: ss, ?_, h2, ?_, fun r hr => ?_⟩
        · simp only [evD]
          rw [hre, evGuard_restr, hg]
          simp only [hd1, hput, h1]
        · simp only [chkAll, h4 s List.mem_cons_self, h3]
        · simp only [pairsB, hp r hr, h4 r (List.mem_cons_of_mem _ hr)]
      rcases hr with ⟨hq, hsee, hr⟩ | ⟨hq, hch, hr⟩ | ⟨hq, hm, hl, hr⟩
      · refine key ms ls ⟨?_, fun r hr' hqr => ?_⟩ hr.symm (fun r hr' => ?_)
        · rw [List.filter_cons, hq]; simpa using hcov.fm
        · rcases List.mem_cons.1 hr' with rfl | hr'
          · exact .inl hsee
          · exact hcov.see r hr' hqr
        · rw [pair_quiet hq (.inr (.inl hsee)), Bool.or_true]
      · refine key ms ((i, s.see) :: ls) ⟨?_, fun r hr' hqr => ?_⟩ hr.symm (fun r hr' => ?_)
        · rw [List.filter_cons, hq]; simpa using hcov.fm
        · rcases List.mem_cons.1 hr' with rfl | hr'
          · exact .inr (by rw [hidx]; exact List.mem_cons_self)
          · rcases hcov.see r hr' hqr with h | h
            · exact .inl h
            · exact .inr (List.mem_cons_of_mem _ h)
        · cases hqr : quietS r with
          | true => rw [pair_quiet hq (.inl hqr), Bool.or_true]
          | false =>
            have hm : r ∈ ms := by rw [hcov.fm]; exact List.mem_filter.2 ⟨hr', by simp [hqr]⟩
            have := chkS_ok hch r hm
            rw [hidx, bitA_eq]
            cases hb : bitQ (A.getD i 0) r.idx with
            | true => rfl
            | false => rw [hb, Bool.false_or] at this; rw [pair_quiet hq (.inr (.inr this))]; rfl
      · refine key (s :: ms) ls ⟨?_, fun r hr' hqr => ?_⟩ hr.symm (fun r hr' => ?_)
        · rw [List.filter_cons, hq]; simp; exact hcov.fm
        · rcases List.mem_cons.1 hr' with rfl | hr'
          · rw [hq] at hqr; cases hqr
          · exact hcov.see r hr' hqr
        · rw [hidx, bitA_eq]
          cases hb : bitQ (A.getD i 0) r.idx with
          | true => rfl
          | false =>
            cases hqr : quietS r with
            | true =>
              rcases hcov.see r hr' hqr with h | h
              · rw [pair_loud hqr (.inl h)]; rfl
              · have := chkL_ok hl _ h
                simp only at this
                rw [hb, Bool.false_or] at this
                rw [pair_loud hqr (.inr this)]; rfl
            | false =>
              have hm' : r ∈ ms := by rw [hcov.fm]; exact List.mem_filter.2 ⟨hr', by simp [hqr]⟩
              have := chkM_ok hm r hm'
              rw [hb] at this; exact this
    -- the guard is false
    have skip : evGuard ops o f.tr = some false → qDs (gdsD P ops A (i + 1) l) Q P ops A (i + 1) ms ls (f.setO o.dst (.v V.undef)) H nx = .ok f' H' nx' →
        ∃ tm' ss, evD Q.f P ops nt A i (o :: l) rs tm H nx = some (tm', H', nx', ss) ∧ (∀ t, tm'.get t = f'.tr.get t) ∧ chkAll A ss = true ∧ ∀ r ∈ rs, pairsB A r ss = true := by
      intro hg hq
      obtain ⟨tm1, hput, hget⟩ := putA_some (tm := tm) (v := V.undef) hdst
      have hget1 := hget f (.v V.undef) htm rfl
      have hc : Cov (⟨i, restrT f.tr (o.looksAt ops), V.undef, H, nx, H, nx, .nil, .nil, [], [], false⟩ :: rs) ms ls := by
        refine ⟨?_, fun r hr' hqr => ?_⟩
        · rw [List.filter_cons]; simpa [quietS] using hcov.fm
        · rcases List.mem_cons.1 hr' with rfl | hr'
          · exact .inl rfl
          · exact hcov.see r hr' hqr
      obtain ⟨tm2, ss, h1, h2, h3, h4⟩ := ih (i + 1) _ ms ls _ tm1 _ _ _ _ _ hget1 hc hq hlt'
      refine ⟨tm2, ⟨i, restrT f.tr (o.looksAt ops), V.undef, H, nx, H, nx, .nil, .nil, [], [], false⟩ :: ss, ?_, h2, ?_, fun r hr => ?_⟩
      · simp only [evD]
        rw [hre, evGuard_restr, hg]
        simp only [hput, h1]
      · simp only [chkAll, h4 _ List.mem_cons_self, h3]
      · simp only [pairsB, pair_quiet (r := r) (s := ⟨i, restrT f.tr (o.looksAt ops), V.undef, H, nx, H, nx, .nil, .nil, [], [], false⟩) rfl (.inr (.inl rfl)), Bool.or_true, h4 r (List.mem_cons_of_mem _ hr)]
    have plain : evGuard ops o f.tr = some true → runD (cl P o) Q P ops A (A.getD i 0) i ms ls f H nx (qDs (gdsD P ops A (i + 1) l) Q P ops A (i + 1)) = .ok f' H' nx' →
        ∃ tm' ss, evD Q.f P ops nt A i (o :: l) rs tm H nx = some (tm', H', nx', ss) ∧ (∀ t, tm'.get t = f'.tr.get t) ∧ chkAll A ss = true ∧ ∀ r ∈ rs, pairsB A r ss = true := by
      intro hg hr
      rcases runD_step (Q := Q) (P := P) ops A (A.getD i 0) i ms ls o f H nx (qDs (gdsD P ops A (i + 1) l) Q P ops A (i + 1)) with h | h
      · rw [hr] at h; exact done hg h
      · rw [hr] at h; cases h
    unfold gdD at he
    split at he
    · rename_i hg
      exact plain (by simp [evGuard, hg]) he
    · rename_i j want hg
      split at he
      · rename_i oj hj
        split at he
        · rename_i d hd
          have he : gdK ((opdT d).get f) want (runD (cl P o) Q P ops A (A.getD i 0) i ms ls f H nx (qDs (gdsD P ops A (i + 1) l) Q P ops A (i + 1))) (skipQ (dstOf o.dst) f H nx (qDs (gdsD P ops A (i + 1) l) Q P ops A (i + 1) ms ls)) = .ok f' H' nx' := he
          have hu : ((opdT d).get f).toV = f.tr.get d := (Fm.get_tr f d).symm
          have hskip : skipQ (dstOf o.dst) f H nx (qDs (gdsD P ops A (i + 1) l) Q P ops A (i + 1) ms ls) = qDs (gdsD P ops A (i + 1) l) Q P ops A (i + 1) ms ls (f.setO o.dst (.v V.undef)) H nx := putK_eq o.dst (.v V.undef) f (fun fr' => qDs (gdsD P ops A (i + 1) l) Q P ops A (i + 1) ms ls fr' H nx)
          rw [hskip] at he
          have hgd : ∀ r, (match f.tr.get d with | some (.c false [.bool b]) => some (b == want) | some (.tup _) => some false | _ => none) = some r → evGuard ops o f.tr = some r := by
            intro r hr
            simp only [evGuard, hg, hj, hd]; exact hr
          generalize (opdT d).get f = u at hu he
          cases u <;> try (cases he; done)
          · rename_i x
            simp only [FV.toV] at hu
            rw [← hu] at hgd
            cases x <;> cases want
            · exact plain (hgd true rfl) he
            · exact skip (hgd false rfl) he
            · exact skip (hgd false rfl) he
            · exact plain (hgd true rfl) he
          · rename_i x
            simp only [FV.toV] at hu
            rw [← hu] at hgd
            cases x with
            | c g l => cases he
            | tup l => exact skip (hgd false rfl) he
        · cases he
      · cases he

theorem qDraw_ok {Q : QF} {P : Program} {ops : Array Oper} {nt : Nat} {f : Fm} {H : Tr AObj} {nx : Nat} {f' : Fm} {H' : Tr AObj} {nx' : Nat} (he : qDraw Q P ops f H nx = .ok f' H' nx') (hlt : dstsLt nt ops.toList = true) :
    ∃ tm', evDraw Q.f P ops nt f.tr H nx = some (tm', H', nx') ∧ ∀ t, tm'.get t = f'.tr.get t := by
  unfold qDraw at he
  cases hd : drawOk ops with
  | false => rw [hd] at he; cases he
  | true =>
    rw [hd] at he
    obtain ⟨tm', ss, h1, h2, h3, _⟩ := qDs_ok (nt := nt) ops.toList 0 [] [] [] f f.tr H nx f' H' nx' (fun _ => rfl) ⟨rfl, fun _ h => by cases h⟩ he hlt
    refine ⟨tm', ?_, h2⟩
    unfold drawOk at hd
    simp only [evDraw, hd, h1, h3]

end Go.Proofs.YtphpkalbbmlgoaaGreatDoor.Ev

namespace Go.Proofs.YtphpkalbbmlgoaaGreatDoor.Ev
open Go
set_option linter.unusedSimpArgs false

def CodeQ (P : Program) (c : Code) (nt : Nat) (f : Fm) (H : Tr AObj) (nx : Nat) (ds : List Nat) (ex : Ex) (f' : Fm) (H' : Tr AObj) (nx' : Nat) (ds' : List Nat) : Prop :=
  Dm H.get H'.get nx nx' ∧ ∀ η h w A n Q, Ctx P nt η h w H nx nx' f.tr ds none A none → Ends η h w H H' nx nx' f'.tr ds' nt (Q (exC ex)) → c.wpIn (fe none) n P Q A w

theorem slowC_ok {P : Program} {Q : QF} {m : Nat} (hQ : QOk P Q m) {c : Code} {nt : Nat} {f : Fm} {H : Tr AObj} {nx : Nat} {ds : List Nat} {ex : Ex} {f' : Fm} {H' : Tr AObj} {nx' : Nat} {ds' : List Nat} (he : slowC c Q P nt f H nx ds = .ok ex f' H' nx' ds') : CodeQ P c nt f H nx ds ex f' H' nx' ds' := by
  unfold slowC at he
  cases hc : Q.f.code c nt none f.tr H nx ds with
  | none => rw [hc] at he; cases he
  | some r =>
    obtain ⟨ex1, tm1, H1, nx1, ds1⟩ := r
    rw [hc] at he
    cases he
    obtain ⟨d, h1⟩ := hQ.f.code _ _ _ _ _ _ _ _ _ _ _ _ hc
    exact ⟨d, fun η h w A n R cx hE => (h1 η h w A none n R cx (fun η' w' A' s ra sz dr => hE η' w' A' s (ra.congr (Fm.get_ofTr tm1)) sz dr)).wp⟩

theorem regK_ok {r : RR} {ds : List Nat} {ex : Ex} {f' : Fm} {H' : Tr AObj} {nx' : Nat} {ds' : List Nat} (h : regK r ds = .ok ex f' H' nx' ds') : r = .ok f' H' nx' ∧ ex = .normal ∧ ds' = ds := by
  cases r with
  | no => cases h
  | ok f H nx => cases h; exact ⟨rfl, rfl, rfl⟩

theorem thenK_ok {r : QR} {k : CK} {ex : Ex} {f' : Fm} {H' : Tr AObj} {nx' : Nat} {ds' : List Nat} (h : thenK r k = .ok ex f' H' nx' ds') :
    (∃ f1 H1 nx1 ds1, r = .ok .normal f1 H1 nx1 ds1 ∧ k f1 H1 nx1 ds1 = .ok ex f' H' nx' ds') ∨ (r = .ok ex f' H' nx' ds' ∧ ex ≠ .normal) := by
  cases r with
  | no => cases h
  | ok e f1 H1 nx1 ds1 =>
    cases e with
    | normal => exact .inl ⟨f1, H1, nx1, ds1, rfl, h⟩
    | exit i => cases h; exact .inr ⟨rfl, by simp⟩
    | goto l => cases h; exact .inr ⟨rfl, by simp⟩
    | ret => cases h; exact .inr ⟨rfl, by simp⟩

theorem qc_ok {P : Program} (hN : NoNum P) (hmix : P.follows .mixedOrders = true) {Q : QF} {m : Nat} (hQ : QOk P Q m) {nt b : Nat} (hb : b ≤ nt) : ∀ (c : Code), codeLt b c = true → ∀ (f : Fm) (H : Tr AObj) (nx : Nat) (ds : List Nat) (ex : Ex) (f' : Fm) (H' : Tr AObj) (nx' : Nat) (ds' : List Nat),
    qc c Q P nt f H nx ds = .ok ex f' H' nx' ds' → CodeQ P c nt f H nx ds ex f' H' nx' ds' := by
  intro c
  induction c with
  | skip =>
    intro _ f H nx ds ex f' H' nx' ds' he
    have he : QR.ok .normal f H nx ds = .ok ex f' H' nx' ds' := he
    cases he
    exact ⟨Dm.refl _ _, fun η h w A n R c hE => wpIn_skip (hE η w A (Stp.refl c.pre.ext c.pre.rh) c.ra c.sz c.dr)⟩
  | exit id =>
    intro _ f H nx ds ex f' H' nx' ds' he
    have he : QR.ok (.exit id) f H nx ds = .ok ex f' H' nx' ds' := he
    cases he
    exact ⟨Dm.refl _ _, fun η h w A n R c hE => wpIn_exit (hE η w A (Stp.refl c.pre.ext c.pre.rh) c.ra c.sz c.dr)⟩
  | ret =>
    intro _ f H nx ds ex f' H' nx' ds' he
    have he : QR.ok .ret f H nx ds = .ok ex f' H' nx' ds' := he
    cases he
    exact ⟨Dm.refl _ _, fun η h w A n R c hE => wpIn_ret (hE η w A (Stp.refl c.pre.ext c.pre.rh) c.ra c.sz c.dr)⟩
  | label l =>
    intro _ f H nx ds ex f' H' nx' ds' he
    have he : QR.ok .normal f H nx ds = .ok ex f' H' nx' ds' := he
    cases he
    exact ⟨Dm.refl _ _, fun η h w A n R c hE => wpIn_label (hE η w A (Stp.refl c.pre.ext c.pre.rh) c.ra c.sz c.dr)⟩
  | goto l =>
    intro _ f H nx ds ex f' H' nx' ds' he
    have he : QR.ok (.goto l) f H nx ds = .ok ex f' H' nx' ds' := he
    cases he
    exact ⟨Dm.refl _ _, fun η h w A n R c hE => wpIn_goto (hE η w A (Stp.refl c.pre.ext c.pre.rh) c.ra c.sz c.dr)⟩
  | refuse why =>
    intro _ f H nx ds ex f' H' nx' ds' he
    have he : QR.no = .ok ex f' H' nx' ds' := he
    cases he
  | region id ops draw =>
    intro hlt f H nx ds ex f' H' nx' ds' he
    have hlt : dstsLt b ops.toList = true := hlt
    cases draw with
    | false =>
      have he : regK (qOps (gds P ops ops.toList) Q P ops f H nx) ds = .ok ex f' H' nx' ds' := he
      obtain ⟨h1, rfl, rfl⟩ := regK_ok he
      obtain ⟨d, h2⟩ := qOps_ok hN hQ _ _ _ _ _ _ _ h1 hlt
      refine ⟨d, fun η h w A n R c hE => ?_⟩
      exact wpIn_region_list (h2 η h w A none n R c.pre c.ra (by rw [c.sz]; exact hb) c.gl (fun η' w' A' s ra sz hdf => hE η' w' A' s ra (sz.trans c.sz) (by rw [hdf]; exact c.dr.mono s.le)))
    | true =>
      have he : regK (qDraw Q P ops f H nx) ds = .ok ex f' H' nx' ds' := he
      obtain ⟨h1, rfl, rfl⟩ := regK_ok he
      have hlt' : dstsLt nt ops.toList = true := by
        have key : ∀ l, dstsLt b l = true → dstsLt nt l = true := by
          intro l
          induction l with
          | nil => intro _; rfl
          | cons o l ih =>
            intro h
            simp only [dstsLt] at h ⊢
            split at h
            · rename_i ho
              have : dstLt nt o.dst = true := by
                cases hd : o.dst with
                | none => rfl
                | some t => rw [hd] at ho; have := blt_lt (show Nat.blt t b = true from ho); show Nat.blt t nt = true; simp [blt_iff]; omega
              rw [this]; exact ih h
            · cases h
        exact key _ hlt
      obtain ⟨tm', h2, h3⟩ := qDraw_ok (nt := nt) h1 hlt'
      obtain ⟨d, h4⟩ := evDraw_ok hN hmix hQ.f.ops h2
      refine ⟨d, fun η h w A n R c hE => ?_⟩
      exact h4 η h w A none n id R c.pre c.ra c.sz c.gl (fun η' w' A' s ra sz hdf => hE η' w' A' s (ra.congr (fun t => (h3 t).symm)) sz (by rw [hdf]; exact c.dr.mono s.le))
  | seq a b' iha ihb =>
    intro hlt f H nx ds ex f' H' nx' ds' he
    have hlt : (codeLt b a && codeLt b b') = true := hlt
    rw [Bool.and_eq_true] at hlt
    have he : thenK (qc a Q P nt f H nx ds) (qc b' Q P nt) = .ok ex f' H' nx' ds' := he
    rcases thenK_ok he with ⟨f1, H1, nx1, ds1, h1, h2⟩ | ⟨h1, hne⟩
    · obtain ⟨d1, g1⟩ := iha hlt.1 _ _ _ _ _ _ _ _ _ h1
      obtain ⟨d2, g2⟩ := ihb hlt.2 _ _ _ _ _ _ _ _ _ h2
      refine ⟨d1.trans d2, fun η h w A n R c hE => wpIn_seq (g1 η h w A n _ (c.less d2.le) (fun η1 w1 A1 s1 ra1 sz1 dr1 => ?_))⟩
      exact g2 η1 _ w1 A1 n R (c.next d1 s1 ra1 sz1 dr1) (hE.next d1 d2 s1)
    · obtain ⟨d1, g1⟩ := iha hlt.1 _ _ _ _ _ _ _ _ _ h1
      refine ⟨d1, fun η h w A n R c hE => wpIn_seq (g1 η h w A n _ c (fun η1 w1 A1 s1 ra1 sz1 dr1 => ?_))⟩
      rw [then_other hne]; exact hE η1 w1 A1 s1 ra1 sz1 dr1
  | cond x a b' iha ihb =>
    intro hlt f H nx ds ex f' H' nx' ds' he
    have hlt : (codeLt b a && codeLt b b') = true := hlt
    rw [Bool.and_eq_true] at hlt
    have he : condK ((opd P x).get f) (qc a Q P nt) (qc b' Q P nt) f H nx ds = .ok ex f' H' nx' ds' := he
    have hx := opd_toV P f x
    generalize (opd P x).get f = u at he hx
    cases u <;> try (cases he; done)
    rename_i t
    simp only [FV.toV] at hx
    have hc : evCond P f.tr x = some t := by simp only [evCond, ← hx]
    cases t with
    | true =>
      obtain ⟨d, h1⟩ := iha hlt.1 _ _ _ _ _ _ _ _ _ he
      exact ⟨d, fun η h w A n R c hE => wpIn_cond_true (evCond_ok hc c.ra c.gl) (h1 η h w A n R c hE)⟩
    | false =>
      obtain ⟨d, h1⟩ := ihb hlt.2 _ _ _ _ _ _ _ _ _ he
      exact ⟨d, fun η h w A n R c hE => wpIn_cond_false (evCond_ok hc c.ra c.gl) (h1 η h w A n R c hE)⟩
  | block id b' ih =>
    intro hlt f H nx ds ex f' H' nx' ds' he
    have hlt : codeLt b b' = true := hlt
    have he : blockK (qc b' Q P nt f H nx ds) id = .ok ex f' H' nx' ds' := he
    cases hr : qc b' Q P nt f H nx ds with
    | no => rw [hr] at he; cases he
    | ok e f1 H1 nx1 ds1 =>
      rw [hr] at he
      obtain ⟨d1, g1⟩ := ih hlt _ _ _ _ _ _ _ _ _ hr
      cases e with
      | normal =>
        cases he
        exact ⟨d1, fun η h w A n R c hE => wpIn_block (g1 η h w A n _ c (fun η1 w1 A1 s1 ra1 sz1 dr1 => hE η1 w1 A1 s1 ra1 sz1 dr1))⟩
      | goto l =>
        cases he
        exact ⟨d1, fun η h w A n R c hE => wpIn_block (g1 η h w A n _ c (fun η1 w1 A1 s1 ra1 sz1 dr1 => hE η1 w1 A1 s1 ra1 sz1 dr1))⟩
      | ret =>
        cases he
        exact ⟨d1, fun η h w A n R c hE => wpIn_block (g1 η h w A n _ c (fun η1 w1 A1 s1 ra1 sz1 dr1 => hE η1 w1 A1 s1 ra1 sz1 dr1))⟩
      | exit j =>
        have he : (Bool.rec (motive := fun _ => QR) (.ok (.exit j) f1 H1 nx1 ds1) (.ok .normal f1 H1 nx1 ds1) (Nat.beq j id)) = .ok ex f' H' nx' ds' := he
        cases hj : Nat.beq j id with
        | true =>
          rw [hj] at he
          cases he
          refine ⟨d1, fun η h w A n R c hE => wpIn_block (g1 η h w A n _ c (fun η1 w1 A1 s1 ra1 sz1 dr1 => ?_))⟩
          show Exit.inBlock id R (.exit j) A1 w1
          simp only [Exit.inBlock, Nat.eq_of_beq_eq_true hj, if_true]
          exact hE η1 w1 A1 s1 ra1 sz1 dr1
        | false =>
          rw [hj] at he
          cases he
          have hne : ¬ (j = id) := fun e => by subst e; simp at hj
          refine ⟨d1, fun η h w A n R c hE => wpIn_block (g1 η h w A n _ c (fun η1 w1 A1 s1 ra1 sz1 dr1 => ?_))⟩
          show Exit.inBlock id R (.exit j) A1 w1
          simp only [Exit.inBlock, hne, if_false]
          exact hE η1 w1 A1 s1 ra1 sz1 dr1
  | loop b' ih =>
    intro hlt f H nx ds ex f' H' nx' ds' he
    have hlt : codeLt b b' = true := hlt
    have he : loopN (qc b' Q P nt) 1000000 f H nx ds = .ok ex f' H' nx' ds' := he
    have key : ∀ (k : Nat) (f : Fm) (H : Tr AObj) (nx : Nat) (ds : List Nat), loopN (qc b' Q P nt) k f H nx ds = .ok ex f' H' nx' ds' →
        Dm H.get H'.get nx nx' ∧ ∀ η h w A n R, Ctx P nt η h w H nx nx' f.tr ds none A none → Ends η h w H H' nx nx' f'.tr ds' nt (R (exC ex)) → Code.roundsIn (fe none) n P b' R k A w := by
      intro k
      induction k with
      | zero => intro f H nx ds h; cases h
      | succ k ihk =>
        intro f H nx ds h
        have h : thenK (qc b' Q P nt f H nx ds) (againK (loopN (qc b' Q P nt) k)) = .ok ex f' H' nx' ds' := h
        rcases thenK_ok h with ⟨f1, H1, nx1, ds1, h1, h2⟩ | ⟨h1, hne⟩
        · obtain ⟨d1, g1⟩ := ih hlt _ _ _ _ _ _ _ _ _ h1
          obtain ⟨d2, g2⟩ := ihk _ _ _ _ h2
          refine ⟨d1.trans d2, fun η h w A n R c hE => ?_⟩
          refine g1 η h w A n (Exit.then (Code.roundsIn (fe none) n P b' R k) R) (c.less d2.le) (fun η1 w1 A1 s1 ra1 sz1 dr1 => ?_)
          exact g2 η1 _ w1 A1 n R (c.next d1 s1 ra1 sz1 dr1) (hE.next d1 d2 s1)
        · obtain ⟨d1, g1⟩ := ih hlt _ _ _ _ _ _ _ _ _ h1
          refine ⟨d1, fun η h w A n R c hE => ?_⟩
          refine g1 η h w A n (Exit.then (Code.roundsIn (fe none) n P b' R k) R) c (fun η1 w1 A1 s1 ra1 sz1 dr1 => ?_)
          rw [then_other hne]; exact hE η1 w1 A1 s1 ra1 sz1 dr1
    obtain ⟨d, h1⟩ := key _ _ _ _ _ he
    exact ⟨d, fun η h w A n R c hE => wpIn_loop_rounds 1000000 (h1 η h w A n R c hE)⟩
  | scope b' _ => intro _ f H nx ds ex f' H' nx' ds' he; exact slowC_ok hQ he
  | rangeFunc g ps as bo _ _ => intro _ f H nx ds ex f' H' nx' ds' he; exact slowC_ok hQ he

end Go.Proofs.YtphpkalbbmlgoaaGreatDoor.Ev

namespace Go.Proofs.YtphpkalbbmlgoaaGreatDoor.Ev
open Go
set_option linter.unusedSimpArgs false

theorem VsOf_length : ∀ {l : List FV} {xs : List V}, VsOf l = some xs → xs.length = l.length
  | [], xs, h => by cases h; rfl
  | v :: l, xs, h => by
    simp only [VsOf] at h
    cases hv : v.toV with
    | none => simp [hv] at h
    | some x => cases hl : VsOf l with
      | none => simp [hv, hl] at h
      | some ys => simp [hv, hl] at h; subst h; simp [VsOf_length hl]

theorem nthF_toV : ∀ {l : List FV} {xs : List V} (n : Nat), VsOf l = some xs → (nthF l n).toV = xs[n]?
  | [], xs, n, h => by cases h; rfl
  | v :: l, xs, n, h => by
    simp only [VsOf] at h
    cases hv : v.toV with
    | none => simp [hv] at h
    | some x => cases hl : VsOf l with
      | none => simp [hv, hl] at h
      | some ys =>
        simp [hv, hl] at h; subst h
        cases n with
        | zero => exact hv
        | succ n => exact nthF_toV n hl

theorem lenL_eq : ∀ l : List FV, lenL l = l.length
  | [] => rfl
  | _ :: l => by show Nat.add (lenL l) 1 = _; rw [lenL_eq l]; rfl

theorem argRow_at (l : List FV) (n : Nat) : ∀ j, j < 8 → (argRow l n).at (i8 j) = nthF l (n + j)
  | 0, _ => rfl | 1, _ => rfl | 2, _ => rfl | 3, _ => rfl | 4, _ => rfl | 5, _ => rfl | 6, _ => rfl | 7, _ => rfl
  | n + 8, h => absurd h (by omega)

theorem none_at (j : I8) : (R8.none).at j = .no := by cases j <;> rfl

theorem frOf8_val {l : List FV} {xs : List V} (h : VsOf l = some xs) (hl : l.length ≤ 8) (t : Nat) : (frOf8 l).val t = xs[t]? := by
  have hlen := VsOf_length h
  by_cases ht : t < 64
  · rw [Fm.val_lt _ ht]
    by_cases h8 : t < 8
    · have e1 : (frOf8 l).at (i8 (t / 8)) = argRow l 0 := by rw [show t / 8 = 0 by omega]; rfl
      rw [e1, argRow_at _ _ _ (by omega), show 0 + t % 8 = t by omega, nthF_toV t h]
    · have e1 : (frOf8 l).at (i8 (t / 8)) = R8.none := by
        rcases (show t / 8 = 1 ∨ t / 8 = 2 ∨ t / 8 = 3 ∨ t / 8 = 4 ∨ t / 8 = 5 ∨ t / 8 = 6 ∨ t / 8 = 7 by omega) with e | e | e | e | e | e | e <;> rw [e] <;> rfl
      rw [e1, none_at, List.getElem?_eq_none (by omega)]; rfl
  · rw [Fm.val_ge _ (by omega), List.getElem?_eq_none (by omega)]; exact Tr.get_nil t

theorem frOf64_val {l : List FV} {xs : List V} (h : VsOf l = some xs) (hl : l.length ≤ 64) (t : Nat) : (frOf64 l).val t = xs[t]? := by
  have hlen := VsOf_length h
  by_cases ht : t < 64
  · rw [Fm.val_lt _ ht]
    have e1 : (frOf64 l).at (i8 (t / 8)) = argRow l (8 * (t / 8)) := by
      rcases (show t / 8 = 0 ∨ t / 8 = 1 ∨ t / 8 = 2 ∨ t / 8 = 3 ∨ t / 8 = 4 ∨ t / 8 = 5 ∨ t / 8 = 6 ∨ t / 8 = 7 by omega) with e | e | e | e | e | e | e | e <;> rw [e] <;> rfl
    rw [e1, argRow_at _ _ _ (by omega), show 8 * (t / 8) + t % 8 = t by omega, nthF_toV t h]
  · rw [Fm.val_ge _ (by omega), List.getElem?_eq_none (by omega)]; exact Tr.get_nil t

theorem tmOf_get : ∀ (l : List V) (i t : Nat), (tmOf i l).get t = if i ≤ t then l[t - i]? else none
  | [], i, t => by simp [tmOf, Tr.get_nil]
  | v :: l, i, t => by
    simp only [tmOf, Tr.get_put]
    by_cases e : t = i
    · subst e; simp
    · rw [if_neg e, tmOf_get l (i + 1) t]
      by_cases h : i + 1 ≤ t
      · rw [if_pos h, if_pos (by omega), show t - i = (t - (i + 1)) + 1 by omega]; rfl
      · rw [if_neg h, if_neg (by omega)]

theorem resQ_eq (P : Program) (f : Fm) (H : Tr AObj) (r : ResultVar) : resQ P f H r = resC P f.tr H r := by
  cases r <;> simp only [resQ, resC, Fm.get_tr] <;> rfl

theorem resQs_eq (P : Program) (f : Fm) (H : Tr AObj) : ∀ l, resQs P f H l = resCs P f.tr H l
  | [] => rfl
  | r :: l => by
    simp only [resQs, resCs, resQ_eq, resQs_eq P f H l]
    cases resC P f.tr H r <;> cases resCs P f.tr H l <;> rfl

theorem noTup_ok {u : FV} {H : Tr AObj} {nx : Nat} {v : FV} {H' : Tr AObj} {nx' : Nat} (h : noTup u H nx = .ok v H' nx') : H' = H ∧ nx' = nx ∧ ∃ g l, u.toV = some (.c g l) ∧ v.toV = some (.c g l) := by
  cases u <;> try (cases h; exact ⟨rfl, rfl, _, _, rfl, rfl⟩)
  · cases h
  · rename_i x
    cases x with
    | c g l => cases h; exact ⟨rfl, rfl, g, l, rfl, rfl⟩
    | tup l => cases h

theorem leaveR_ok {P : Program} {fn : Func} {f : Fm} {H : Tr AObj} {nx : Nat} {v : FV} {H' : Tr AObj} {nx' : Nat} (h : leaveR (rsOf fn.results.toList) P f H nx = .ok v H' nx') : ∃ cs, resCs P f.tr H fn.results.toList = some cs ∧ v.toV = some (resV cs) ∧ H' = H ∧ nx' = nx := by
  have all : ∀ l, leaveAll P l f H nx = .ok v H' nx' → ∃ cs, resCs P f.tr H l = some cs ∧ v.toV = some (resV cs) ∧ H' = H ∧ nx' = nx := by
    intro l h
    unfold leaveAll at h
    split at h
    · rename_i cs hcs
      cases h
      exact ⟨cs, by rw [← resQs_eq]; exact hcs, FV.toV_ofV _, rfl, rfl⟩
    · cases h
  generalize fn.results.toList = l at h
  match l, h with
  | [], h => exact all _ h
  | [.cell a t], h => exact all _ h
  | a :: b :: r, h => exact all _ (by cases a <;> exact h)
  | [.tmp t], h =>
    have h : noTup ((opdT t).get f) H nx = .ok v H' nx' := h
    obtain ⟨rfl, rfl, g, m, h1, h2⟩ := noTup_ok h
    have ht : f.tr.get t = some (.c g m) := by rw [Fm.get_tr]; exact h1
    exact ⟨[(g, m)], by simp only [resCs, resC, ht], h2, rfl, rfl⟩

theorem leaveD_ok {P : Program} {fn : Func} {f : Fm} {H : Tr AObj} {nx : Nat} {ds : List Nat} {v : FV} {H' : Tr AObj} {nx' : Nat} (h : leaveD ds P (rsOf fn.results.toList) f H nx = .ok v H' nx') : ∃ x, v.toV = some x ∧ leave P fn f.tr H nx ds = some (x, H', nx') := by
  have key : ∀ H1, dropDs ds H = some H1 → leaveR (rsOf fn.results.toList) P f H1 nx = .ok v H' nx' → ∃ x, v.toV = some x ∧ leave P fn f.tr H nx ds = some (x, H', nx') := by
    intro H1 h1 h2
    obtain ⟨cs, g1, g2, rfl, rfl⟩ := leaveR_ok h2
    exact ⟨_, g2, by simp only [leave, h1, g1]⟩
  cases ds with
  | nil => exact key H rfl h
  | cons d l =>
    have h : leaveH (dropDs (d :: l) H) P (rsOf fn.results.toList) f nx = .ok v H' nx' := h
    cases hd : dropDs (d :: l) H with
    | none => rw [hd] at h; cases h
    | some H1 => rw [hd] at h; exact key H1 hd h

theorem qCall_ok {P : Program} (hN : NoNum P) (hmix : P.follows .mixedOrders = true) {Q : QF} {m : Nat} (hQ : QOk P Q m) {f : FuncId} {args : List FV} {H : Tr AObj} {nx : Nat} {v : FV} {H' : Tr AObj} {nx' : Nat} (he : qCall Q P f args H nx = .ok v H' nx') {xs : List V} (hxs : VsOf args = some xs) :
    ∃ x, v.toV = some x ∧ CallOk P f xs H nx x H' nx' := by
  unfold qCall fi at he
  split at he
  · rename_i fn hf
    split at he
    · rename_i c hb
      split at he
      · rename_i hlt
        have he : runB (lenL args) fn.ntmps c (rsOf fn.results.toList) Q P args H nx = .ok v H' nx' := he
        have hlen := VsOf_length hxs
        have hall : ∃ fr : Fm, (∀ t, fr.val t = xs[t]?) ∧ args.length ≤ fn.ntmps ∧ endQ (qc c Q P fn.ntmps fr H nx []) P (rsOf fn.results.toList) = .ok v H' nx' := by
          unfold runB at he
          rw [lenL_eq] at he
          cases h1 : Nat.ble args.length 8 with
          | true =>
            rw [h1] at he
            cases h2 : Nat.ble args.length fn.ntmps with
            | false => rw [h2] at he; cases he
            | true => rw [h2] at he; exact ⟨frOf8 args, frOf8_val hxs (Nat.le_of_ble_eq_true h1), Nat.le_of_ble_eq_true h2, he⟩
          | false =>
            rw [h1] at he
            cases h2 : Nat.ble args.length fn.ntmps with
            | false => rw [h2] at he; cases he
            | true =>
              rw [h2] at he
              cases h3 : Nat.ble args.length 64 with
              | false => rw [h3] at he; cases he
              | true => rw [h3] at he; exact ⟨frOf64 args, frOf64_val hxs (Nat.le_of_ble_eq_true h3), Nat.le_of_ble_eq_true h2, he⟩
        obtain ⟨fr, hfr, hle, hend⟩ := hall
        cases hr : qc c Q P fn.ntmps fr H nx [] with
        | no => rw [hr] at hend; cases hend
        | ok ex f1 H1 nx1 ds =>
          rw [hr] at hend
          have hex : (ex = .normal ∨ ex = .ret) ∧ leaveD ds P (rsOf fn.results.toList) f1 H1 nx1 = .ok v H' nx' := by
            cases ex with
            | normal => exact ⟨.inl rfl, hend⟩
            | ret => exact ⟨.inr rfl, hend⟩
            | exit i => cases hend
            | goto l => cases hend
          obtain ⟨x, hv, hleave⟩ := leaveD_ok hex.2
          obtain ⟨d1, h1⟩ := qc_ok hN hmix hQ (Nat.le_refl fn.ntmps) c hlt _ _ _ _ _ _ _ _ _ hr
          obtain ⟨rfl, d2, h2⟩ := leave_ok hleave
          refine ⟨x, hv, ⟨fn, hf, by rw [hb]; rfl⟩, d1.trans d2, fun η h w cargs p hvl hg => ?_⟩
          have hcl := hvl.length
          have hcalls : CallsIn (fe none) 0 P f ⟨cargs⟩ w (CallPost η h w H.get H'.get nx nx' x) := by
            refine callsIn_of_wp_marks hf hb trivial ?_ rfl
            refine h1 η h w ⟨(⟨cargs⟩ : Array Value) ++ Array.replicate (fn.ntmps - (⟨cargs⟩ : Array Value).size) Go.undef, []⟩ 0 _ ⟨p, ?_, ?_, trivial, hg, trivial⟩ (fun η1 w1 A1 s1 ra1 sz1 dr1 => ?_)
            · have := tmOf_ok xs cargs hvl 0 [] (List.replicate (fn.ntmps - cargs.length) Go.undef) rfl
              have e : (⟨cargs⟩ : Array Value) ++ Array.replicate (fn.ntmps - (⟨cargs⟩ : Array Value).size) Go.undef = ⟨[] ++ cargs ++ List.replicate (fn.ntmps - cargs.length) Go.undef⟩ := by
                apply Array.ext'; simp
              simp only
              rw [e]
              exact this.congr (fun t => by rw [Fm.get_tr, hfr, tmOf_get]; simp)
            · simp; omega
            · have hl := h2 η1 _ w1 A1 0 (CallPost η h w H.get H'.get nx nx' x) (p.next d1 s1) ra1 dr1 (fun cv w' hv s' => ⟨cv, η1, rfl, hv, Stp.trans d1 d2 s1 s'⟩)
              rcases hex.1 with rfl | rfl <;> exact hl
          exact callsIn_wide.1 (show CallsIn Fence.wide 0 P f ⟨cargs⟩ w _ from hcalls)
      · cases he
    · cases he
  · cases he

def HookOk (P : Program) (hk : Hook) : Prop := ∀ f args H nx v H' nx', hk f args H nx = .ok v H' nx' → ∀ xs, VsOf args = some xs → ∃ x, v.toV = some x ∧ CallOk P f xs H nx x H' nx'

theorem noHook_ok (P : Program) : HookOk P noHook := fun _ _ _ _ _ _ _ h => by cases h

theorem VsOf_mapFV : ∀ l, VsOf (mapFV l) = some l
  | [] => rfl
  | v :: l => by simp only [mapFV, VsOf, FV.toV_ofV, VsOf_mapFV l]

theorem qCallH_ok {P : Program} (hN : NoNum P) (hmix : P.follows .mixedOrders = true) {hk : Hook} (hh : HookOk P hk) {Q : QF} {m : Nat} (hQ : QOk P Q m) {f : FuncId} {args : List FV} {H : Tr AObj} {nx : Nat} {v : FV} {H' : Tr AObj} {nx' : Nat} (he : qCallH hk Q P f args H nx = .ok v H' nx') {xs : List V} (hxs : VsOf args = some xs) :
    ∃ x, v.toV = some x ∧ CallOk P f xs H nx x H' nx' := by
  unfold qCallH at he
  cases h : hk f args H nx with
  | no => rw [h] at he; exact qCall_ok hN hmix hQ he hxs
  | ok v1 H1 nx1 => rw [h] at he; cases he; exact hh _ _ _ _ _ _ _ h xs hxs

theorem evQ_ok {P : Program} (hN : NoNum P) (hmix : P.follows .mixedOrders = true) {hk : Hook} (hh : HookOk P hk) : ∀ n, QOk P (evQ P hk n) n
  | 0 => by
    refine ⟨⟨⟨?_, ?_⟩, ?_, ?_⟩, ?_⟩
    · intro f args H nx v H' nx' h; cases h
    · intro f args H nx v H' nx' h; cases h
    · intro c nt ro tm H nx ds ex tm' H' nx' ds' h; cases h
    · intro b r nt ro tm H nx ds ex tm' H' nx' ds' h; cases h
    · intro f args H nx v H' nx' h; cases h
  | n + 1 => by
    have ih := evQ_ok hN hmix hh n
    refine ⟨⟨⟨fun f args H nx v H' nx' h => ?_, fun l args H nx v H' nx' h => stepRound_ok ih.f h⟩, fun c nt ro tm H nx ds ex tm' H' nx' ds' h => ?_, fun b r nt ro tm H nx ds ex tm' H' nx' ds' h => stepScope_ok ih.f h⟩, fun f args H nx v H' nx' h xs hxs => qCallH_ok hN hmix hh ih h hxs⟩
    · have h : ofCR (qCallH hk (evQ P hk n) P f (mapFV args) H nx) = some (v, H', nx') := h
      cases hc : qCallH hk (evQ P hk n) P f (mapFV args) H nx with
      | no => rw [hc] at h; cases h
      | ok v1 H1 nx1 =>
        rw [hc] at h
        obtain ⟨x, hx, hok⟩ := qCallH_ok hN hmix hh ih hc (VsOf_mapFV args)
        simp only [ofCR, hx] at h
        cases h
        exact hok
    · have h : stepCodeF (evQ P hk n).f P c nt ro tm H nx ds = some (ex, tm', H', nx', ds') := h
      rw [stepCodeF_eq] at h
      exact stepCode_ok hN hmix ih.f h

end Go.Proofs.YtphpkalbbmlgoaaGreatDoor.Ev

namespace Go.Proofs.YtphpkalbbmlgoaaGreatDoor.Ev
open Go
set_option linter.unusedSimpArgs false

structure Cut where
  f : FuncId
  args : List FV
  nx : Nat
  G : List (Nat × AObj)
  v : FV
  U : List (Nat × AObj)
  nx' : Nat

noncomputable section
def ofG : List (Nat × AObj) → Tr AObj
  | [] => .nil
  | p :: l => (ofG l).put (some p.2) p.1

def atsB : List At → List At → Bool
  | [], [] => true
  | a :: l, b :: m => match atB a b with | true => atsB l m | false => false
  | _, _ => false

def tupsB : List (Bool × List At) → List (Bool × List At) → Bool
  | [], [] => true
  | a :: l, b :: m => match (a.1 == b.1) && atsB a.2 b.2 with | true => tupsB l m | false => false
  | _, _ => false

def fvB : FV → FV → Bool
  | .i a, .i b => Nat.beq a b
  | .u a, .u b => Nat.beq a b
  | .b a, .b b => a == b
  | .p a b, .p c d => Nat.beq a c && Nat.beq b d
  | .a x, .a y => atB x y
  | .v (.c g l), .v (.c g' l') => (g == g') && atsB l l'
  | .v (.tup l), .v (.tup l') => tupsB l l'
  | _, _ => false

def fvsB : List FV → List FV → Bool
  | [], [] => true
  | a :: l, b :: m => match fvB a b with | true => fvsB l m | false => false
  | _, _ => false

def inG (H : Tr AObj) : List (Nat × AObj) → Bool
  | [] => true
  | p :: l => match objB (H.get p.1) (some p.2) with | true => inG H l | false => false

def updU (H : Tr AObj) : List (Nat × AObj) → Tr AObj
  | [] => H
  | p :: l => (updU H l).put (some p.2) p.1

def domB (b : Nat) : List (Nat × AObj) → Bool
  | [] => false
  | p :: l => match Nat.beq p.1 b with | true => true | false => domB b l

def keepG (H : Tr AObj) (U : List (Nat × AObj)) : List (Nat × AObj) → Bool
  | [] => true
  | p :: l => match domB p.1 U || objB (H.get p.1) (some p.2) with | true => keepG H U l | false => false

def cutTry (c : Cut) (args : List FV) (H : Tr AObj) (nx : Nat) : CR :=
  match Nat.beq nx c.nx && (fvsB args c.args && inG H c.G) with
  | true => .ok c.v (updU H c.U) c.nx'
  | false => .no

def Cut.hook (c : Cut) : Hook := fun f args H nx => Bool.rec (motive := fun _ => CR) .no (cutTry c args H nx) (Nat.beq f c.f)

def orHook (a b : Hook) : Hook := fun f args H nx => hookK (a f args H nx) (b f args H nx)

def Cut.chk (P : Program) (hk : Hook) (n : Nat) (c : Cut) : Bool :=
  match (evQ P hk n).c c.f c.args (ofG c.G) c.nx with
  | .ok v H' nx' => fvB v c.v && (Nat.beq nx' c.nx' && (inG H' c.U && keepG H' c.U c.G))
  | .no => false

end

theorem atsB_ok : ∀ {l m : List At}, atsB l m = true → l = m
  | [], [], _ => rfl
  | [], _ :: _, h => by cases h
  | _ :: _, [], h => by cases h
  | a :: l, b :: m, h => by
    simp only [atsB] at h
    split at h
    · rename_i hab; rw [atB_ok hab, atsB_ok h]
    · cases h

theorem tupsB_ok : ∀ {l m : List (Bool × List At)}, tupsB l m = true → l = m
  | [], [], _ => rfl
  | [], _ :: _, h => by cases h
  | _ :: _, [], h => by cases h
  | (a, x) :: l, (b, y) :: m, h => by
    simp only [tupsB] at h
    split at h
    · rename_i hab
      rw [Bool.and_eq_true] at hab
      rw [eq_of_beq hab.1, atsB_ok hab.2, tupsB_ok h]
    · cases h

theorem fvB_ok {a b : FV} (h : fvB a b = true) : a = b := by
  unfold fvB at h
  split at h
  · rw [Nat.eq_of_beq_eq_true h]
  · rw [Nat.eq_of_beq_eq_true h]
  · rw [eq_of_beq h]
  · rw [Bool.and_eq_true] at h; rw [Nat.eq_of_beq_eq_true h.1, Nat.eq_of_beq_eq_true h.2]
  · rw [atB_ok h]
  · rw [Bool.and_eq_true] at h; rw [eq_of_beq h.1, atsB_ok h.2]
  · rw [tupsB_ok h]
  · cases h

theorem fvsB_ok : ∀ {l m : List FV}, fvsB l m = true → l = m
  | [], [], _ => rfl
  | [], _ :: _, h => by cases h
  | _ :: _, [], h => by cases h
  | a :: l, b :: m, h => by
    simp only [fvsB] at h
    split at h
    · rename_i hab; rw [fvB_ok hab, fvsB_ok h]
    · cases h

theorem inG_ok {H : Tr AObj} : ∀ {l : List (Nat × AObj)}, inG H l = true → ∀ p ∈ l, H.get p.1 = some p.2
  | [], _, p, hp => by cases hp
  | q :: l, h, p, hp => by
    simp only [inG] at h
    split at h
    · rename_i hq
      rcases List.mem_cons.1 hp with rfl | hp
      · exact objB_ok hq
      · exact inG_ok h p hp
    · cases h

theorem ofG_get : ∀ {l : List (Nat × AObj)} {b : Nat} {o : AObj}, (ofG l).get b = some o → (b, o) ∈ l
  | [], b, o, h => by simp [ofG, Tr.get_nil] at h
  | p :: l, b, o, h => by
    simp only [ofG, Tr.get_put] at h
    by_cases e : b = p.1
    · rw [if_pos e] at h; cases h; subst e; exact List.mem_cons_self
    · rw [if_neg e] at h; exact List.mem_cons_of_mem _ (ofG_get h)

theorem updU_get {H : Tr AObj} : ∀ (l : List (Nat × AObj)) (b : Nat), (∃ o, (b, o) ∈ l ∧ (updU H l).get b = some o) ∨ (domB b l = false ∧ (updU H l).get b = H.get b)
  | [], b => .inr ⟨rfl, rfl⟩
  | p :: l, b => by
    simp only [updU, Tr.get_put, domB]
    by_cases e : b = p.1
    · subst e; exact .inl ⟨p.2, List.mem_cons_self, by simp⟩
    · rw [if_neg e]
      have : Nat.beq p.1 b = false := by cases h : Nat.beq p.1 b with | false => rfl | true => exact absurd (Nat.eq_of_beq_eq_true h).symm e
      rw [this]
      rcases updU_get l b with ⟨o, h1, h2⟩ | h
      · exact .inl ⟨o, List.mem_cons_of_mem _ h1, h2⟩
      · exact .inr h

theorem keepG_ok {H : Tr AObj} {U : List (Nat × AObj)} : ∀ {l : List (Nat × AObj)}, keepG H U l = true → ∀ p ∈ l, domB p.1 U = true ∨ H.get p.1 = some p.2
  | [], _, p, hp => by cases hp
  | q :: l, h, p, hp => by
    simp only [keepG] at h
    split at h
    · rename_i hq
      rcases List.mem_cons.1 hp with rfl | hp
      · rw [Bool.or_eq_true] at hq
        rcases hq with hq | hq
        · exact .inl hq
        · exact .inr (objB_ok hq)
      · exact keepG_ok h p hp
    · cases h

theorem RH.sub {η : Env} {h h' : Hp} {w : World} (r : RH η h w) (e : ∀ b o, h' b = some o → h b = some o) : RH η h' w :=
  ⟨fun b o hb => r.live b o (e b o hb), fun b b' B B' hb hb' hB hB' eB => by
    have key : ∀ b, h' b ≠ none → h b ≠ none := fun b hb => by
      cases ho : h' b with
      | none => exact absurd ho hb
      | some o => rw [e b o ho]; simp
    exact r.inj b b' B B' (key b hb) (key b' hb') hB hB' eB⟩

theorem CallOk.frame {P : Program} {f : FuncId} {xs : List V} {G : List (Nat × AObj)} {nx : Nat} {x : V} {G1 : Tr AObj} {nx' : Nat} {U : List (Nat × AObj)} (hc : CallOk P f xs (ofG G) nx x G1 nx') (hU : inG G1 U = true) (hK : keepG G1 U G = true)
    {H : Tr AObj} (hG : inG H G = true) : CallOk P f xs H nx x (updU H U) nx' := by
  obtain ⟨hfn, d, hcall⟩ := hc
  have hsub : ∀ b o, (ofG G).get b = some o → H.get b = some o := fun b o hb => inG_ok hG _ (ofG_get hb)
  have hu : ∀ b o, (b, o) ∈ U → G1.get b = some o := fun b o hm => inG_ok hU _ hm
  refine ⟨hfn, ⟨d.le, fun b hb => ?_⟩, fun η h w cargs p hvl hg => ?_⟩
  · rcases updU_get (H := H) U b with ⟨o, h1, h2⟩ | ⟨_, h2⟩
    · rcases d.dom b (by rw [hu b o h1]; simp) with h3 | h3
      · refine .inl ?_
        cases ho : (ofG G).get b with
        | none => exact absurd ho h3
        | some o' => rw [hsub b o' ho]; simp
      · exact .inr h3
    · rw [h2] at hb; exact .inl hb
  · have p' : Pre η h w (ofG G).get nx nx' := ⟨fun b o hb => p.ext b o (hsub b o hb), p.rh, p.fresh⟩
    refine (hcall η h w cargs p' hvl hg).mono ?_
    rintro e w' ⟨cv, η', rfl, hv, s⟩
    refine ⟨cv, η', rfl, hv, s.le, s.names, ?_, ?_, s.fr⟩
    all_goals
      have hfresh : ∀ b, nx ≤ b → b < nx' → H.get b = none := fun b h1 h2 => by
        cases ho : H.get b with
        | none => rfl
        | some o => have := p.ext b o ho; rw [p.rh.fresh (p.fresh b h1 h2).1] at this; cases this
      have hincl : ∀ b o, ovr h H.get (updU H U).get nx nx' b = some o → ovr h (ofG G).get G1.get nx nx' b = some o := by
        intro b o hb
        by_cases hin : H.get b ≠ none ∨ (nx ≤ b ∧ b < nx')
        · rw [ovr_in hin] at hb
          rcases updU_get (H := H) U b with ⟨o', h1, h2⟩ | ⟨hd, h2⟩
          · rw [h2] at hb; cases hb
            have hg1 := hu b o h1
            rw [ovr_in (d.dom b (by rw [hg1]; simp)), hg1]
          · rw [h2] at hb
            have hnf : ¬ (nx ≤ b ∧ b < nx') := fun hf => by rw [hfresh b hf.1 hf.2] at hb; cases hb
            cases hgb : (ofG G).get b with
            | none => rw [ovr_out (by intro hc; rcases hc with hc | hc; exact hc hgb; exact hnf hc)]; exact p.ext b o hb
            | some o2 =>
              have : H.get b = some o2 := hsub b o2 hgb
              rw [hb] at this; cases this
              rcases keepG_ok hK _ (ofG_get hgb) with h3 | h3
              · rw [hd] at h3; cases h3
              · rw [ovr_in (.inl (by rw [hgb]; simp))]; exact h3
        · rw [ovr_out hin] at hb
          rw [ovr_out (by
            intro hc
            rcases hc with hc | hc
            · cases hgb : (ofG G).get b with
              | none => exact hc hgb
              | some o2 => exact hin (.inl (by rw [hsub b o2 hgb]; simp))
            · exact hin (.inr hc))]
          exact hb
    · exact s.rh.sub hincl
    · rintro k ⟨b, B, hb, hB, rfl⟩
      refine s.img _ ⟨b, B, ?_, hB, rfl⟩
      cases ho : ovr h H.get (updU H U).get nx nx' b with
      | none => exact absurd ho hb
      | some o => rw [hincl b o ho]; simp

theorem cut_ok {P : Program} (hN : NoNum P) (hmix : P.follows .mixedOrders = true) {hk : Hook} (hh : HookOk P hk) {n : Nat} {c : Cut} (hchk : c.chk P hk n = true) : HookOk P c.hook := by
  intro f args H nx v H' nx' he xs hxs
  unfold Cut.hook at he
  cases hf : Nat.beq f c.f with
  | false => rw [hf] at he; cases he
  | true =>
    rw [hf] at he
    have he : cutTry c args H nx = .ok v H' nx' := he
    unfold cutTry at he
    split at he
    · rename_i hb
      cases he
      rw [Bool.and_eq_true, Bool.and_eq_true] at hb
      obtain ⟨h1, h2, h3⟩ := hb
      have e1 := Nat.eq_of_beq_eq_true hf
      have e2 := Nat.eq_of_beq_eq_true h1
      have e3 := fvsB_ok h2
      subst e1; subst e2; subst e3
      unfold Cut.chk at hchk
      cases hr : (evQ P hk n).c c.f c.args (ofG c.G) c.nx with
      | no => rw [hr] at hchk; cases hchk
      | ok v1 G1 nx1 =>
        rw [hr] at hchk
        simp only [Bool.and_eq_true] at hchk
        obtain ⟨g1, g2, g3, g4⟩ := hchk
        have e4 := fvB_ok g1
        have e5 := Nat.eq_of_beq_eq_true g2
        subst e4; subst e5
        obtain ⟨x, hx, hok⟩ := (evQ_ok hN hmix hh n).c _ _ _ _ _ _ _ hr xs hxs
        exact ⟨x, hx, hok.frame g3 g4 h3⟩
    · cases he

theorem orHook_ok {P : Program} {a b : Hook} (ha : HookOk P a) (hb : HookOk P b) : HookOk P (orHook a b) := by
  intro f args H nx v H' nx' he
  unfold orHook at he
  cases h : a f args H nx with
  | no => rw [h] at he; exact hb _ _ _ _ _ _ _ he
  | ok v1 H1 nx1 => rw [h] at he; cases he; exact ha _ _ _ _ _ _ _ h

end Go.Proofs.YtphpkalbbmlgoaaGreatDoor.Ev
