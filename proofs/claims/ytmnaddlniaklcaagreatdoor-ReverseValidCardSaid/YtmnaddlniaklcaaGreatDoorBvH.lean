/- What the hand has proved of band.Valid, for the quick interpreter. -/
import Derived.Test.YtmnaddlniaklcaaGreatDoorBv
import Derived.Test.YtmnaddlniaklcaaGreatDoorTab
namespace Go.Proofs.YtmnaddlniaklcaaGreatDoor
open Go Ev

/-- A call that touches nothing old, whatever the world. -/
theorem callOk_pure {P : Program} {f : FuncId} {xs : List V} {x : V} {H : Tr AObj} {nx : Nat} (hfn : ∃ fn, P.funcs[f]? = some fn ∧ fn.body.isSome = true)
    (h : ∀ (η : Env) (w : World) (cargs : List Value), VL η xs cargs → ∃ cv, x.conc η = some cv ∧ Calls P f ⟨cargs⟩ w (fun e w' => e = .returned cv ∧ Touch [] w w')) : CallOk P f xs H nx x H nx := by
  refine ⟨hfn, Dm.refl _ _, fun η hp w cargs p hvl _ => ?_⟩
  obtain ⟨cv, hcv, hc⟩ := h η w cargs hvl
  refine hc.mono ?_
  rintro e w' ⟨rfl, t⟩
  have keep : ∀ k, k < w.heap.size → w'.heap[k]? = w.heap[k]? := fun k hk => t.block k hk (by simp)
  refine ⟨cv, η, rfl, hcv, .refl η, fun _ _ => ⟨rfl, rfl, rfl⟩, ?_, fun k hk => ?_, t.os, t.tape, t.output, t.size, fun k hk _ => keep k hk⟩
  · rw [ovr_same p.ext]
    refine ⟨fun b o hb => ?_, p.rh.inj⟩
    obtain ⟨B, co, h1, h2, h3⟩ := p.rh.live b o hb
    exact ⟨B, co, h1, by rw [keep _ (Array.getElem?_eq_some_iff.1 h2).1]; exact h2, h3⟩
  · rw [ovr_same p.ext] at hk; exact .inl hk

noncomputable section
def tgI (n : Int) : Bool := Int.rec (motive := fun _ => Bool) (fun k => Nat.beq k 24 || (Nat.beq k 23 || (Nat.beq k 21 || (Nat.beq k 19 || (Nat.beq k 18 || (Nat.beq k 14 || (Nat.beq k 13 || (Nat.beq k 12 || (Nat.beq k 10 || (Nat.beq k 8 || Nat.beq k 7)))))))))) (fun _ => false) n
def validTry (args : List FV) (H : Tr AObj) (nx : Nat) : CR := match args with
  | [.v (.c true [.int .i64 n])] => .ok (.b (tgI n)) H nx
  | _ => .no
def validHook : Hook := fun f args H nx => Bool.rec (motive := fun _ => CR) .no (validTry args H nx) (Nat.beq f 109)
end
theorem tgI_eq (n : Int) : tgI n = tgB n := by
  unfold tgB targets
  cases n with
  | negSucc k =>
    show false = _
    symm
    rw [decide_eq_false_iff_not]
    simp
  | ofNat k =>
    show (Nat.beq k 24 || (Nat.beq k 23 || (Nat.beq k 21 || (Nat.beq k 19 || (Nat.beq k 18 || (Nat.beq k 14 || (Nat.beq k 13 || (Nat.beq k 12 || (Nat.beq k 10 || (Nat.beq k 8 || Nat.beq k 7)))))))))) = _
    rw [Bool.eq_iff_iff]
    simp [Nat.beq_eq]
    omega
theorem validHook_ok : HookOk Tryz.prog validHook := by
  intro f args H nx v H' nx' he xs hxs
  unfold validHook at he
  cases hf : Nat.beq f 109 with
  | false => rw [hf] at he; cases he
  | true =>
    rw [hf] at he
    have hf := Nat.eq_of_beq_eq_true hf
    subst hf
    have he : validTry args H nx = .ok v H' nx' := he
    unfold validTry at he
    split at he
    · rename_i n he0
      cases he
      cases hxs
      refine ⟨_, rfl, callOk_pure ⟨_, Tryz.func109, by kernel_rfl⟩ (fun η w cargs hvl => ?_)⟩
      match cargs, hvl with
      | [c], hvl =>
        have hc : c = .agg #[.int .i64 n] := by
          have := hvl.1
          simp [V.conc, comp, concs, At.conc] at this
          exact this.symm
        subst hc
        exact ⟨.bool (tgI n), rfl, by rw [tgI_eq]; exact tvalid_any n w⟩
    · cases he
end Go.Proofs.YtmnaddlniaklcaaGreatDoor
