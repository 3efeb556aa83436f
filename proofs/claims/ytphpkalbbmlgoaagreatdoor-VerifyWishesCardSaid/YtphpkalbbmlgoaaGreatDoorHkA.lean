/- Hooks of the quick interpreter by hand: a call that touches nothing old, a call that changes one block. -/
import Derived.Test.YtphpkalbbmlgoaaGreatDoorQpB
import Derived.Test.YtphpkalbbmlgoaaGreatDoorBase
import Derived.Test.YtphpkalbbmlgoaaGreatDoorHwA
namespace Go.Proofs.YtphpkalbbmlgoaaGreatDoor
open Go Ev

theorem callOk_pure {P : Program} {f : FuncId} {xs : List V} {x : V} {H : Tr AObj} {nx : Nat} (hfn : ∃ fn, P.funcs[f]? = some fn ∧ fn.body.isSome = true)
    (h : ∀ (η : Env) (w : World) (cargs : List Value), VL η xs cargs → ∃ cv, x.conc η = some cv ∧ Calls P f ⟨cargs⟩ w (fun e w' => e = .returned cv ∧ Touch [] w w')) : CallOk P f xs H nx x H nx := by
  refine ⟨hfn, Dm.refl _ _, fun η hp w cargs p hvl _ => ?_⟩
  obtain ⟨cv, hcv, hc⟩ := h η w cargs hvl
  refine hc.mono ?_
  rintro e w' ⟨rfl, t⟩
  have keep : ∀ k, k < w.heap.size → w'.heap[k]? = w.heap[k]? := fun k hk => t.block k hk (by simp)
  refine ⟨cv, η, rfl, hcv, .refl η, fun _ _ => ⟨rfl, rfl, rfl⟩, ?_, fun k hk => ?_, t.os, t.tape, t.output, t.size, fun k hk _ => keep k hk⟩
  · rw [ovr_same p.ext]
    refine ⟨fun b o hb => ?_, p.rh.inj⟩
    obtain ⟨B, co, h1, h2, h3⟩ := p.rh.live b o hb
    exact ⟨B, co, h1, by rw [keep _ (Array.getElem?_eq_some_iff.1 h2).1]; exact h2, h3⟩
  · rw [ovr_same p.ext] at hk; exact .inl hk

theorem Stp.touched {η : Env} {h : Hp} {w w' : World} {H : Tr AObj} {nx : Nat} (p : Pre η h w H.get nx nx) {b : Nat} {B : Nat × Nat} {o o' : AObj} {co' : Obj} (hb : H.get b = some o) (hB : η.blk b = some B)
    (t : Touch [B.1] w w') (hw : w'.heap[B.1]? = some co') (hr : o'.Rel η b B co') : Stp η h w H.get (H.put (some o') b).get nx nx η w' := by
  have hhb := p.ext b o hb
  have hov : ovr h H.get (H.put (some o') b).get nx nx = fun k => if k = b then some o' else h k := by
    funext k
    by_cases e : k = b
    · subst e; rw [ovr_in (.inl (by rw [hb]; simp)), Tr.get_put_same]; simp
    · by_cases hk : H.get k ≠ none
      · rw [ovr_in (.inl hk), Tr.get_put_other _ _ e]; simp only [e, if_false]
        cases ho : H.get k with
        | none => exact absurd ho hk
        | some o2 => exact (p.ext k o2 ho).symm
      · rw [ovr_out (by intro hc; rcases hc with hc | hc; exact hk hc; omega)]; simp [e]
  have himg : ∀ k, (if k = b then some o' else h k) ≠ none → h k ≠ none := fun k hk => by
    by_cases e : k = b
    · subst e; rw [hhb]; simp
    · simpa only [e, if_false] using hk
  refine ⟨.refl η, fun _ _ => ⟨rfl, rfl, rfl⟩, ?_, ?_, ?_⟩
  · rw [hov]
    refine ⟨fun k o2 hk => ?_, fun k k' K K' hk hk' hK hK' e => p.rh.inj k k' K K' (himg k hk) (himg k' hk') hK hK' e⟩
    by_cases e : k = b
    · subst e; simp at hk; subst hk; exact ⟨B, co', hB, hw, hr⟩
    · simp only [e, if_false] at hk
      obtain ⟨K, co2, h1, h2, h3⟩ := p.rh.live k o2 hk
      refine ⟨K, co2, h1, ?_, h3⟩
      have hne : K.1 ≠ B.1 := fun e2 => e (p.rh.inj k b K B (by rw [hk]; simp) (by rw [hhb]; simp) h1 hB e2)
      rw [t.block K.1 (Array.getElem?_eq_some_iff.1 h2).1 (by simpa using hne)]; exact h2
  · rw [hov]
    rintro k ⟨j, J, hj, hJ, rfl⟩
    exact .inl ⟨j, J, himg j hj, hJ, rfl⟩
  · exact ⟨t.os, t.tape, t.output, t.size, fun k hk hn => t.block k hk (by
      intro hc
      have : k = B.1 := by simpa using hc
      exact hn ⟨b, B, by rw [hhb]; simp, hB, this.symm⟩)⟩

end Go.Proofs.YtphpkalbbmlgoaaGreatDoor

namespace Go.Proofs.YtphpkalbbmlgoaaGreatDoor
open Go Ev
noncomputable section
def tgI (n : Int) : Bool := Int.rec (motive := fun _ => Bool) (fun k => Nat.beq k 24 || (Nat.beq k 23 || (Nat.beq k 21 || (Nat.beq k 19 || (Nat.beq k 18 || (Nat.beq k 14 || (Nat.beq k 13 || (Nat.beq k 12 || (Nat.beq k 10 || (Nat.beq k 8 || Nat.beq k 7)))))))))) (fun _ => false) n

def validTry (args : List FV) (H : Tr AObj) (nx : Nat) : CR := match args with
  | [.v (.c true [.int .i64 n])] => .ok (.b (tgI n)) H nx
  | _ => .no

def blocksTry (args : List FV) (H : Tr AObj) (nx : Nat) : CR := match args with
  | [.v (.c true [.int .i64 n])] => .ok (.v (.tup [(false, [.int .i64 (blkN n)]), (false, [.int .i64 (Bool.rec (motive := fun _ => Int) 2 0 (tgI n))])])) H nx
  | _ => .no

def validHook : Hook := fun f args H nx => Bool.rec (motive := fun _ => CR) (Bool.rec (motive := fun _ => CR) .no (blocksTry args H nx) (Nat.beq f 134)) (validTry args H nx) (Nat.beq f 117)

end
theorem tgI_eq (n : Int) : tgI n = tgB n := by
  unfold tgB targets
  cases n with
  | negSucc k =>
    show false = _
    symm
    rw [decide_eq_false_iff_not]
    simp
  | ofNat k =>
    show (Nat.beq k 24 || (Nat.beq k 23 || (Nat.beq k 21 || (Nat.beq k 19 || (Nat.beq k 18 || (Nat.beq k 14 || (Nat.beq k 13 || (Nat.beq k 12 || (Nat.beq k 10 || (Nat.beq k 8 || Nat.beq k 7)))))))))) = _
    rw [Bool.eq_iff_iff]
    simp [Nat.beq_eq]
    omega

theorem validHook_ok : HookOk Tryz.prog validHook := by
  intro f args H nx v H' nx' he xs hxs
  unfold validHook at he
  have harg : ∀ (η : Env) (n : Int) (cargs : List Value), VL η [.c true [.int .i64 n]] cargs → cargs = [.agg #[.int .i64 n]] := fun η n cargs hvl => by
    match cargs, hvl with
    | [c], hvl =>
      have := hvl.1
      simp [V.conc, comp, concs, At.conc] at this
      rw [this]
  cases hf : Nat.beq f 117 with
  | false =>
    rw [hf] at he
    cases hf2 : Nat.beq f 134 with
    | false => rw [hf2] at he; cases he
    | true =>
      rw [hf2] at he
      have hf2 := Nat.eq_of_beq_eq_true hf2
      subst hf2
      have he : blocksTry args H nx = .ok v H' nx' := he
      unfold blocksTry at he
      split at he
      · rename_i n he0
        cases he
        cases hxs
        refine ⟨_, rfl, callOk_pure ⟨_, Tryz.func134, by kernel_rfl⟩ (fun η w cargs hvl => ?_)⟩
        obtain rfl := harg η n cargs hvl
        refine ⟨.tuple #[.int .i64 (blkN n), .int .i64 (if tgB n = true then 0 else 2)], ?_, tblocks_any n w⟩
        rw [tgI_eq]
        cases tgB n <;> rfl
      · cases he
  | true =>
    rw [hf] at he
    have hf := Nat.eq_of_beq_eq_true hf
    subst hf
    have he : validTry args H nx = .ok v H' nx' := he
    unfold validTry at he
    split at he
    · rename_i n he0
      cases he
      cases hxs
      refine ⟨_, rfl, callOk_pure ⟨_, Tryz.func117, by kernel_rfl⟩ (fun η w cargs hvl => ?_)⟩
      obtain rfl := harg η n cargs hvl
      exact ⟨.bool (tgI n), rfl, by rw [tgI_eq]; exact tvalid_any n w⟩
    · cases he

end Go.Proofs.YtphpkalbbmlgoaaGreatDoor
