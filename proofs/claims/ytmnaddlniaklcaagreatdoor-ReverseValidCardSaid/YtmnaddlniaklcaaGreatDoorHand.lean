/- The order of a region, by hand: the condition on the worlds may be made stronger on the way. No program in sight. -/
import Derived.Test.YtmnaddlniaklcaaGreatDoorBase
import Derived.Deep.DeepCutAuto
namespace Go.Proofs.YtmnaddlniaklcaaGreatDoor
open Go.RowKit

theorem wpAnyH_mono {P : Program} {ops : Array Oper} {Q : Exit → Act → World → Prop} {md : Region.Mode} {S S' : World → Prop} (hS : ∀ w, S' w → S w) :
    ∀ (fuel : Nat) (listed : Array Bool) (a : Act) (w : World), wpAnyH P md ops Q S' fuel listed a w → wpAnyH P md ops Q S fuel listed a w
  | 0, _, _, _, h => h
  | fuel + 1, _, _, _, h => ⟨h.1, fun i hi => wpOp_mono (fun a' w' h' => ⟨hS w' h'.1, wpAnyH_mono hS fuel _ a' w' h'.2⟩) (h.2 i hi)⟩
end Go.Proofs.YtmnaddlniaklcaaGreatDoor
