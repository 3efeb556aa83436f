/- Hooks by hand: band.Valid and band.Blocks. -/
import Derived.Test.YtphpkalbbmlgoaaGreatDoorBw
import Derived.Test.YtphpkalbbmlgoaaGreatDoorHk0
namespace Go.Proofs.YtphpkalbbmlgoaaGreatDoor
open Go Ev
noncomputable section
def tgI (n : Int) : Bool := Int.rec (motive := fun _ => Bool) (fun k => Nat.beq k 24 || (Nat.beq k 23 || (Nat.beq k 21 || (Nat.beq k 19 || (Nat.beq k 18 || (Nat.beq k 14 || (Nat.beq k 13 || (Nat.beq k 12 || (Nat.beq k 10 || (Nat.beq k 8 || Nat.beq k 7)))))))))) (fun _ => false) n

def validTry (args : List FV) (H : Tr AObj) (nx : Nat) : CR := match args with
  | [.v (.c true [.int .i64 n])] => .ok (.b (tgI n)) H nx
  | _ => .no

def blocksTry (args : List FV) (H : Tr AObj) (nx : Nat) : CR := match args with
  | [.v (.c true [.int .i64 n])] => .ok (.v (.tup [(false, [.int .i64 (blkN n)]), (false, [.int .i64 (Bool.rec (motive := fun _ => Int) 2 0 (tgI n))])])) H nx
  | _ => .no

def validHook : Hook := fun f args H nx => Bool.rec (motive := fun _ => CR) (Bool.rec (motive := fun _ => CR) .no (blocksTry args H nx) (Nat.beq f 134)) (validTry args H nx) (Nat.beq f 117)

end
theorem tgI_eq (n : Int) : tgI n = tgB n := by
  unfold tgB targets
  cases n with
  | negSucc k =>
    show false = _
    symm
    rw [decide_eq_false_iff_not]
    simp
  | ofNat k =>
    show (Nat.beq k 24 || (Nat.beq k 23 || (Nat.beq k 21 || (Nat.beq k 19 || (Nat.beq k 18 || (Nat.beq k 14 || (Nat.beq k 13 || (Nat.beq k 12 || (Nat.beq k 10 || (Nat.beq k 8 || Nat.beq k 7)))))))))) = _
    rw [Bool.eq_iff_iff]
    simp [Nat.beq_eq]
    omega

theorem validHook_ok : HookOk Tryz.prog validHook := by
  intro f args H nx v H' nx' he xs hxs
  unfold validHook at he
  have harg : ∀ (η : Env) (n : Int) (cargs : List Value), VL η [.c true [.int .i64 n]] cargs → cargs = [.agg #[.int .i64 n]] := fun η n cargs hvl => by
    match cargs, hvl with
    | [c], hvl =>
      have := hvl.1
      simp [V.conc, comp, concs, At.conc] at this
      rw [this]
  cases hf : Nat.beq f 117 with
  | false =>
    rw [hf] at he
    cases hf2 : Nat.beq f 134 with
    | false => rw [hf2] at he; cases he
    | true =>
      rw [hf2] at he
      have hf2 := Nat.eq_of_beq_eq_true hf2
      subst hf2
      have he : blocksTry args H nx = .ok v H' nx' := he
      unfold blocksTry at he
      split at he
      · rename_i n he0
        cases he
        cases hxs
        refine ⟨_, rfl, callOk_pure ⟨_, Tryz.func134, by kernel_rfl⟩ (fun η w cargs hvl => ?_)⟩
        obtain rfl := harg η n cargs hvl
        refine ⟨.tuple #[.int .i64 (blkN n), .int .i64 (if tgB n = true then 0 else 2)], ?_, tblocks_any n w⟩
        rw [tgI_eq]
        cases tgB n <;> rfl
      · cases he
  | true =>
    rw [hf] at he
    have hf := Nat.eq_of_beq_eq_true hf
    subst hf
    have he : validTry args H nx = .ok v H' nx' := he
    unfold validTry at he
    split at he
    · rename_i n he0
      cases he
      cases hxs
      refine ⟨_, rfl, callOk_pure ⟨_, Tryz.func117, by kernel_rfl⟩ (fun η w cargs hvl => ?_)⟩
      obtain rfl := harg η n cargs hvl
      exact ⟨.bool (tgI n), rfl, by rw [tgI_eq]; exact tvalid_any n w⟩
    · cases he

end Go.Proofs.YtphpkalbbmlgoaaGreatDoor
