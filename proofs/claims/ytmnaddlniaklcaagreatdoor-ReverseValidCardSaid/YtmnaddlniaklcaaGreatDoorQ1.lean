/- A quick interpreter for the kernel, first part: frames of 64 slots by rows, with a trie behind them. No program in sight. -/
import Derived.Test.YtmnaddlniaklcaaGreatDoorEv26
namespace Go.Proofs.YtmnaddlniaklcaaGreatDoor.Ev
open Go
noncomputable section
set_option linter.unusedVariables false

/-- A value, as a frame holds it. -/
inductive FV where
  | no
  /-- a whole number of kind i64 that is not negative -/
  | i (n : Nat)
  /-- a whole number of kind u64 -/
  | u (n : Nat)
  | b (x : Bool)
  | p (b o : Nat)
  | a (x : At)
  | v (x : V)
def FV.toV : FV → Option V
  | .no => none
  | .i n => some (.one (.int .i64 (.ofNat n)))
  | .u n => some (.one (.int .u64 (.ofNat n)))
  | .b x => some (.one (.bool x))
  | .p y o => some (.one (.ptr y o))
  | .a x => some (.one x)
  | .v x => some x

structure R8 where
  mk :: (a0 a1 a2 a3 a4 a5 a6 a7 : FV)
structure Fm where
  mk :: (r0 r1 r2 r3 r4 r5 r6 r7 : R8) (more : Tr V)

/-- What a region comes to. -/
inductive RR where
  | no
  | ok (fr : Fm) (H : Tr AObj) (nx : Nat)

def gs0 (f : Fm) : FV := f.1.1
def gs1 (f : Fm) : FV := f.1.2
def gs2 (f : Fm) : FV := f.1.3
def gs3 (f : Fm) : FV := f.1.4
def gs4 (f : Fm) : FV := f.1.5
def gs5 (f : Fm) : FV := f.1.6
def gs6 (f : Fm) : FV := f.1.7
def gs7 (f : Fm) : FV := f.1.8
def gs8 (f : Fm) : FV := f.2.1
def gs9 (f : Fm) : FV := f.2.2
def gs10 (f : Fm) : FV := f.2.3
def gs11 (f : Fm) : FV := f.2.4
def gs12 (f : Fm) : FV := f.2.5
def gs13 (f : Fm) : FV := f.2.6
def gs14 (f : Fm) : FV := f.2.7
def gs15 (f : Fm) : FV := f.2.8
def gs16 (f : Fm) : FV := f.3.1
def gs17 (f : Fm) : FV := f.3.2
def gs18 (f : Fm) : FV := f.3.3
def gs19 (f : Fm) : FV := f.3.4
def gs20 (f : Fm) : FV := f.3.5
def gs21 (f : Fm) : FV := f.3.6
def gs22 (f : Fm) : FV := f.3.7
def gs23 (f : Fm) : FV := f.3.8
def gs24 (f : Fm) : FV := f.4.1
def gs25 (f : Fm) : FV := f.4.2
def gs26 (f : Fm) : FV := f.4.3
def gs27 (f : Fm) : FV := f.4.4
def gs28 (f : Fm) : FV := f.4.5
def gs29 (f : Fm) : FV := f.4.6
def gs30 (f : Fm) : FV := f.4.7
def gs31 (f : Fm) : FV := f.4.8
def gs32 (f : Fm) : FV := f.5.1
def gs33 (f : Fm) : FV := f.5.2
def gs34 (f : Fm) : FV := f.5.3
def gs35 (f : Fm) : FV := f.5.4
def gs36 (f : Fm) : FV := f.5.5
def gs37 (f : Fm) : FV := f.5.6
def gs38 (f : Fm) : FV := f.5.7
def gs39 (f : Fm) : FV := f.5.8
def gs40 (f : Fm) : FV := f.6.1
def gs41 (f : Fm) : FV := f.6.2
def gs42 (f : Fm) : FV := f.6.3
def gs43 (f : Fm) : FV := f.6.4
def gs44 (f : Fm) : FV := f.6.5
def gs45 (f : Fm) : FV := f.6.6
def gs46 (f : Fm) : FV := f.6.7
def gs47 (f : Fm) : FV := f.6.8
def gs48 (f : Fm) : FV := f.7.1
def gs49 (f : Fm) : FV := f.7.2
def gs50 (f : Fm) : FV := f.7.3
def gs51 (f : Fm) : FV := f.7.4
def gs52 (f : Fm) : FV := f.7.5
def gs53 (f : Fm) : FV := f.7.6
def gs54 (f : Fm) : FV := f.7.7
def gs55 (f : Fm) : FV := f.7.8
def gs56 (f : Fm) : FV := f.8.1
def gs57 (f : Fm) : FV := f.8.2
def gs58 (f : Fm) : FV := f.8.3
def gs59 (f : Fm) : FV := f.8.4
def gs60 (f : Fm) : FV := f.8.5
def gs61 (f : Fm) : FV := f.8.6
def gs62 (f : Fm) : FV := f.8.7
def gs63 (f : Fm) : FV := f.8.8
def pt0 (v : FV) (f : Fm) (k : Fm → RR) : RR := Fm.rec (motive := fun _ => RR) (fun r0 r1 r2 r3 r4 r5 r6 r7 m => R8.rec (motive := fun _ => RR) (fun a0 a1 a2 a3 a4 a5 a6 a7 => k (.mk (.mk v a1 a2 a3 a4 a5 a6 a7) r1 r2 r3 r4 r5 r6 r7 m)) r0) f
def pt1 (v : FV) (f : Fm) (k : Fm → RR) : RR := Fm.rec (motive := fun _ => RR) (fun r0 r1 r2 r3 r4 r5 r6 r7 m => R8.rec (motive := fun _ => RR) (fun a0 a1 a2 a3 a4 a5 a6 a7 => k (.mk (.mk a0 v a2 a3 a4 a5 a6 a7) r1 r2 r3 r4 r5 r6 r7 m)) r0) f
def pt2 (v : FV) (f : Fm) (k : Fm → RR) : RR := Fm.rec (motive := fun _ => RR) (fun r0 r1 r2 r3 r4 r5 r6 r7 m => R8.rec (motive := fun _ => RR) (fun a0 a1 a2 a3 a4 a5 a6 a7 => k (.mk (.mk a0 a1 v a3 a4 a5 a6 a7) r1 r2 r3 r4 r5 r6 r7 m)) r0) f
def pt3 (v : FV) (f : Fm) (k : Fm → RR) : RR := Fm.rec (motive := fun _ => RR) (fun r0 r1 r2 r3 r4 r5 r6 r7 m => R8.rec (motive := fun _ => RR) (fun a0 a1 a2 a3 a4 a5 a6 a7 => k (.mk (.mk a0 a1 a2 v a4 a5 a6 a7) r1 r2 r3 r4 r5 r6 r7 m)) r0) f
def pt4 (v : FV) (f : Fm) (k : Fm → RR) : RR := Fm.rec (motive := fun _ => RR) (fun r0 r1 r2 r3 r4 r5 r6 r7 m => R8.rec (motive := fun _ => RR) (fun a0 a1 a2 a3 a4 a5 a6 a7 => k (.mk (.mk a0 a1 a2 a3 v a5 a6 a7) r1 r2 r3 r4 r5 r6 r7 m)) r0) f
def pt5 (v : FV) (f : Fm) (k : Fm → RR) : RR := Fm.rec (motive := fun _ => RR) (fun r0 r1 r2 r3 r4 r5 r6 r7 m => R8.rec (motive := fun _ => RR) (fun a0 a1 a2 a3 a4 a5 a6 a7 => k (.mk (.mk a0 a1 a2 a3 a4 v a6 a7) r1 r2 r3 r4 r5 r6 r7 m)) r0) f
def pt6 (v : FV) (f : Fm) (k : Fm → RR) : RR := Fm.rec (motive := fun _ => RR) (fun r0 r1 r2 r3 r4 r5 r6 r7 m => R8.rec (motive := fun _ => RR) (fun a0 a1 a2 a3 a4 a5 a6 a7 => k (.mk (.mk a0 a1 a2 a3 a4 a5 v a7) r1 r2 r3 r4 r5 r6 r7 m)) r0) f
def pt7 (v : FV) (f : Fm) (k : Fm → RR) : RR := Fm.rec (motive := fun _ => RR) (fun r0 r1 r2 r3 r4 r5 r6 r7 m => R8.rec (motive := fun _ => RR) (fun a0 a1 a2 a3 a4 a5 a6 a7 => k (.mk (.mk a0 a1 a2 a3 a4 a5 a6 v) r1 r2 r3 r4 r5 r6 r7 m)) r0) f
def pt8 (v : FV) (f : Fm) (k : Fm → RR) : RR := Fm.rec (motive := fun _ => RR) (fun r0 r1 r2 r3 r4 r5 r6 r7 m => R8.rec (motive := fun _ => RR) (fun a0 a1 a2 a3 a4 a5 a6 a7 => k (.mk r0 (.mk v a1 a2 a3 a4 a5 a6 a7) r2 r3 r4 r5 r6 r7 m)) r1) f
def pt9 (v : FV) (f : Fm) (k : Fm → RR) : RR := Fm.rec (motive := fun _ => RR) (fun r0 r1 r2 r3 r4 r5 r6 r7 m => R8.rec (motive := fun _ => RR) (fun a0 a1 a2 a3 a4 a5 a6 a7 => k (.mk r0 (.mk a0 v a2 a3 a4 a5 a6 a7) r2 r3 r4 r5 r6 r7 m)) r1) f
def pt10 (v : FV) (f : Fm) (k : Fm → RR) : RR := Fm.rec (motive := fun _ => RR) (fun r0 r1 r2 r3 r4 r5 r6 r7 m => R8.rec (motive := fun _ => RR) (fun a0 a1 a2 a3 a4 a5 a6 a7 => k (.mk r0 (.mk a0 a1 v a3 a4 a5 a6 a7) r2 r3 r4 r5 r6 r7 m)) r1) f
def pt11 (v : FV) (f : Fm) (k : Fm → RR) : RR := Fm.rec (motive := fun _ => RR) (fun r0 r1 r2 r3 r4 r5 r6 r7 m => R8.rec (motive := fun _ => RR) (fun a0 a1 a2 a3 a4 a5 a6 a7 => k (.mk r0 (.mk a0 a1 a2 v a4 a5 a6 a7) r2 r3 r4 r5 r6 r7 m)) r1) f
def pt12 (v : FV) (f : Fm) (k : Fm → RR) : RR := Fm.rec (motive := fun _ => RR) (fun r0 r1 r2 r3 r4 r5 r6 r7 m => R8.rec (motive := fun _ => RR) (fun a0 a1 a2 a3 a4 a5 a6 a7 => k (.mk r0 (.mk a0 a1 a2 a3 v a5 a6 a7) r2 r3 r4 r5 r6 r7 m)) r1) f
def pt13 (v : FV) (f : Fm) (k : Fm → RR) : RR := Fm.rec (motive := fun _ => RR) (fun r0 r1 r2 r3 r4 r5 r6 r7 m => R8.rec (motive := fun _ => RR) (fun a0 a1 a2 a3 a4 a5 a6 a7 => k (.mk r0 (.mk a0 a1 a2 a3 a4 v a6 a7) r2 r3 r4 r5 r6 r7 m)) r1) f
def pt14 (v : FV) (f : Fm) (k : Fm → RR) : RR := Fm.rec (motive := fun _ => RR) (fun r0 r1 r2 r3 r4 r5 r6 r7 m => R8.rec (motive := fun _ => RR) (fun a0 a1 a2 a3 a4 a5 a6 a7 => k (.mk r0 (.mk a0 a1 a2 a3 a4 a5 v a7) r2 r3 r4 r5 r6 r7 m)) r1) f
def pt15 (v : FV) (f : Fm) (k : Fm → RR) : RR := Fm.rec (motive := fun _ => RR) (fun r0 r1 r2 r3 r4 r5 r6 r7 m => R8.rec (motive := fun _ => RR) (fun a0 a1 a2 a3 a4 a5 a6 a7 => k (.mk r0 (.mk a0 a1 a2 a3 a4 a5 a6 v) r2 r3 r4 r5 r6 r7 m)) r1) f
def pt16 (v : FV) (f : Fm) (k : Fm → RR) : RR := Fm.rec (motive := fun _ => RR) (fun r0 r1 r2 r3 r4 r5 r6 r7 m => R8.rec (motive := fun _ => RR) (fun a0 a1 a2 a3 a4 a5 a6 a7 => k (.mk r0 r1 (.mk v a1 a2 a3 a4 a5 a6 a7) r3 r4 r5 r6 r7 m)) r2) f
def pt17 (v : FV) (f : Fm) (k : Fm → RR) : RR := Fm.rec (motive := fun _ => RR) (fun r0 r1 r2 r3 r4 r5 r6 r7 m => R8.rec (motive := fun _ => RR) (fun a0 a1 a2 a3 a4 a5 a6 a7 => k (.mk r0 r1 (.mk a0 v a2 a3 a4 a5 a6 a7) r3 r4 r5 r6 r7 m)) r2) f
def pt18 (v : FV) (f : Fm) (k : Fm → RR) : RR := Fm.rec (motive := fun _ => RR) (fun r0 r1 r2 r3 r4 r5 r6 r7 m => R8.rec (motive := fun _ => RR) (fun a0 a1 a2 a3 a4 a5 a6 a7 => k (.mk r0 r1 (.mk a0 a1 v a3 a4 a5 a6 a7) r3 r4 r5 r6 r7 m)) r2) f
def pt19 (v : FV) (f : Fm) (k : Fm → RR) : RR := Fm.rec (motive := fun _ => RR) (fun r0 r1 r2 r3 r4 r5 r6 r7 m => R8.rec (motive := fun _ => RR) (fun a0 a1 a2 a3 a4 a5 a6 a7 => k (.mk r0 r1 (.mk a0 a1 a2 v a4 a5 a6 a7) r3 r4 r5 r6 r7 m)) r2) f
def pt20 (v : FV) (f : Fm) (k : Fm → RR) : RR := Fm.rec (motive := fun _ => RR) (fun r0 r1 r2 r3 r4 r5 r6 r7 m => R8.rec (motive := fun _ => RR) (fun a0 a1 a2 a3 a4 a5 a6 a7 => k (.mk r0 r1 (.mk a0 a1 a2 a3 v a5 a6 a7) r3 r4 r5 r6 r7 m)) r2) f
def pt21 (v : FV) (f : Fm) (k : Fm → RR) : RR := Fm.rec (motive := fun _ => RR) (fun r0 r1 r2 r3 r4 r5 r6 r7 m => R8.rec (motive := fun _ => RR) (fun a0 a1 a2 a3 a4 a5 a6 a7 => k (.mk r0 r1 (.mk a0 a1 a2 a3 a4 v a6 a7) r3 r4 r5 r6 r7 m)) r2) f
def pt22 (v : FV) (f : Fm) (k : Fm → RR) : RR := Fm.rec (motive := fun _ => RR) (fun r0 r1 r2 r3 r4 r5 r6 r7 m => R8.rec (motive := fun _ => RR) (fun a0 a1 a2 a3 a4 a5 a6 a7 => k (.mk r0 r1 (.mk a0 a1 a2 a3 a4 a5 v a7) r3 r4 r5 r6 r7 m)) r2) f
def pt23 (v : FV) (f : Fm) (k : Fm → RR) : RR := Fm.rec (motive := fun _ => RR) (fun r0 r1 r2 r3 r4 r5 r6 r7 m => R8.rec (motive := fun _ => RR) (fun a0 a1 a2 a3 a4 a5 a6 a7 => k (.mk r0 r1 (.mk a0 a1 a2 a3 a4 a5 a6 v) r3 r4 r5 r6 r7 m)) r2) f
def pt24 (v : FV) (f : Fm) (k : Fm → RR) : RR := Fm.rec (motive := fun _ => RR) (fun r0 r1 r2 r3 r4 r5 r6 r7 m => R8.rec (motive := fun _ => RR) (fun a0 a1 a2 a3 a4 a5 a6 a7 => k (.mk r0 r1 r2 (.mk v a1 a2 a3 a4 a5 a6 a7) r4 r5 r6 r7 m)) r3) f
def pt25 (v : FV) (f : Fm) (k : Fm → RR) : RR := Fm.rec (motive := fun _ => RR) (fun r0 r1 r2 r3 r4 r5 r6 r7 m => R8.rec (motive := fun _ => RR) (fun a0 a1 a2 a3 a4 a5 a6 a7 => k (.mk r0 r1 r2 (.mk a0 v a2 a3 a4 a5 a6 a7) r4 r5 r6 r7 m)) r3) f
def pt26 (v : FV) (f : Fm) (k : Fm → RR) : RR := Fm.rec (motive := fun _ => RR) (fun r0 r1 r2 r3 r4 r5 r6 r7 m => R8.rec (motive := fun _ => RR) (fun a0 a1 a2 a3 a4 a5 a6 a7 => k (.mk r0 r1 r2 (.mk a0 a1 v a3 a4 a5 a6 a7) r4 r5 r6 r7 m)) r3) f
def pt27 (v : FV) (f : Fm) (k : Fm → RR) : RR := Fm.rec (motive := fun _ => RR) (fun r0 r1 r2 r3 r4 r5 r6 r7 m => R8.rec (motive := fun _ => RR) (fun a0 a1 a2 a3 a4 a5 a6 a7 => k (.mk r0 r1 r2 (.mk a0 a1 a2 v a4 a5 a6 a7) r4 r5 r6 r7 m)) r3) f
def pt28 (v : FV) (f : Fm) (k : Fm → RR) : RR := Fm.rec (motive := fun _ => RR) (fun r0 r1 r2 r3 r4 r5 r6 r7 m => R8.rec (motive := fun _ => RR) (fun a0 a1 a2 a3 a4 a5 a6 a7 => k (.mk r0 r1 r2 (.mk a0 a1 a2 a3 v a5 a6 a7) r4 r5 r6 r7 m)) r3) f
def pt29 (v : FV) (f : Fm) (k : Fm → RR) : RR := Fm.rec (motive := fun _ => RR) (fun r0 r1 r2 r3 r4 r5 r6 r7 m => R8.rec (motive := fun _ => RR) (fun a0 a1 a2 a3 a4 a5 a6 a7 => k (.mk r0 r1 r2 (.mk a0 a1 a2 a3 a4 v a6 a7) r4 r5 r6 r7 m)) r3) f
def pt30 (v : FV) (f : Fm) (k : Fm → RR) : RR := Fm.rec (motive := fun _ => RR) (fun r0 r1 r2 r3 r4 r5 r6 r7 m => R8.rec (motive := fun _ => RR) (fun a0 a1 a2 a3 a4 a5 a6 a7 => k (.mk r0 r1 r2 (.mk a0 a1 a2 a3 a4 a5 v a7) r4 r5 r6 r7 m)) r3) f
def pt31 (v : FV) (f : Fm) (k : Fm → RR) : RR := Fm.rec (motive := fun _ => RR) (fun r0 r1 r2 r3 r4 r5 r6 r7 m => R8.rec (motive := fun _ => RR) (fun a0 a1 a2 a3 a4 a5 a6 a7 => k (.mk r0 r1 r2 (.mk a0 a1 a2 a3 a4 a5 a6 v) r4 r5 r6 r7 m)) r3) f
def pt32 (v : FV) (f : Fm) (k : Fm → RR) : RR := Fm.rec (motive := fun _ => RR) (fun r0 r1 r2 r3 r4 r5 r6 r7 m => R8.rec (motive := fun _ => RR) (fun a0 a1 a2 a3 a4 a5 a6 a7 => k (.mk r0 r1 r2 r3 (.mk v a1 a2 a3 a4 a5 a6 a7) r5 r6 r7 m)) r4) f
def pt33 (v : FV) (f : Fm) (k : Fm → RR) : RR := Fm.rec (motive := fun _ => RR) (fun r0 r1 r2 r3 r4 r5 r6 r7 m => R8.rec (motive := fun _ => RR) (fun a0 a1 a2 a3 a4 a5 a6 a7 => k (.mk r0 r1 r2 r3 (.mk a0 v a2 a3 a4 a5 a6 a7) r5 r6 r7 m)) r4) f
def pt34 (v : FV) (f : Fm) (k : Fm → RR) : RR := Fm.rec (motive := fun _ => RR) (fun r0 r1 r2 r3 r4 r5 r6 r7 m => R8.rec (motive := fun _ => RR) (fun a0 a1 a2 a3 a4 a5 a6 a7 => k (.mk r0 r1 r2 r3 (.mk a0 a1 v a3 a4 a5 a6 a7) r5 r6 r7 m)) r4) f
def pt35 (v : FV) (f : Fm) (k : Fm → RR) : RR := Fm.rec (motive := fun _ => RR) (fun r0 r1 r2 r3 r4 r5 r6 r7 m => R8.rec (motive := fun _ => RR) (fun a0 a1 a2 a3 a4 a5 a6 a7 => k (.mk r0 r1 r2 r3 (.mk a0 a1 a2 v a4 a5 a6 a7) r5 r6 r7 m)) r4) f
def pt36 (v : FV) (f : Fm) (k : Fm → RR) : RR := Fm.rec (motive := fun _ => RR) (fun r0 r1 r2 r3 r4 r5 r6 r7 m => R8.rec (motive := fun _ => RR) (fun a0 a1 a2 a3 a4 a5 a6 a7 => k (.mk r0 r1 r2 r3 (.mk a0 a1 a2 a3 v a5 a6 a7) r5 r6 r7 m)) r4) f
def pt37 (v : FV) (f : Fm) (k : Fm → RR) : RR := Fm.rec (motive := fun _ => RR) (fun r0 r1 r2 r3 r4 r5 r6 r7 m => R8.rec (motive := fun _ => RR) (fun a0 a1 a2 a3 a4 a5 a6 a7 => k (.mk r0 r1 r2 r3 (.mk a0 a1 a2 a3 a4 v a6 a7) r5 r6 r7 m)) r4) f
def pt38 (v : FV) (f : Fm) (k : Fm → RR) : RR := Fm.rec (motive := fun _ => RR) (fun r0 r1 r2 r3 r4 r5 r6 r7 m => R8.rec (motive := fun _ => RR) (fun a0 a1 a2 a3 a4 a5 a6 a7 => k (.mk r0 r1 r2 r3 (.mk a0 a1 a2 a3 a4 a5 v a7) r5 r6 r7 m)) r4) f
def pt39 (v : FV) (f : Fm) (k : Fm → RR) : RR := Fm.rec (motive := fun _ => RR) (fun r0 r1 r2 r3 r4 r5 r6 r7 m => R8.rec (motive := fun _ => RR) (fun a0 a1 a2 a3 a4 a5 a6 a7 => k (.mk r0 r1 r2 r3 (.mk a0 a1 a2 a3 a4 a5 a6 v) r5 r6 r7 m)) r4) f
def pt40 (v : FV) (f : Fm) (k : Fm → RR) : RR := Fm.rec (motive := fun _ => RR) (fun r0 r1 r2 r3 r4 r5 r6 r7 m => R8.rec (motive := fun _ => RR) (fun a0 a1 a2 a3 a4 a5 a6 a7 => k (.mk r0 r1 r2 r3 r4 (.mk v a1 a2 a3 a4 a5 a6 a7) r6 r7 m)) r5) f
def pt41 (v : FV) (f : Fm) (k : Fm → RR) : RR := Fm.rec (motive := fun _ => RR) (fun r0 r1 r2 r3 r4 r5 r6 r7 m => R8.rec (motive := fun _ => RR) (fun a0 a1 a2 a3 a4 a5 a6 a7 => k (.mk r0 r1 r2 r3 r4 (.mk a0 v a2 a3 a4 a5 a6 a7) r6 r7 m)) r5) f
def pt42 (v : FV) (f : Fm) (k : Fm → RR) : RR := Fm.rec (motive := fun _ => RR) (fun r0 r1 r2 r3 r4 r5 r6 r7 m => R8.rec (motive := fun _ => RR) (fun a0 a1 a2 a3 a4 a5 a6 a7 => k (.mk r0 r1 r2 r3 r4 (.mk a0 a1 v a3 a4 a5 a6 a7) r6 r7 m)) r5) f
def pt43 (v : FV) (f : Fm) (k : Fm → RR) : RR := Fm.rec (motive := fun _ => RR) (fun r0 r1 r2 r3 r4 r5 r6 r7 m => R8.rec (motive := fun _ => RR) (fun a0 a1 a2 a3 a4 a5 a6 a7 => k (.mk r0 r1 r2 r3 r4 (.mk a0 a1 a2 v a4 a5 a6 a7) r6 r7 m)) r5) f
def pt44 (v : FV) (f : Fm) (k : Fm → RR) : RR := Fm.rec (motive := fun _ => RR) (fun r0 r1 r2 r3 r4 r5 r6 r7 m => R8.rec (motive := fun _ => RR) (fun a0 a1 a2 a3 a4 a5 a6 a7 => k (.mk r0 r1 r2 r3 r4 (.mk a0 a1 a2 a3 v a5 a6 a7) r6 r7 m)) r5) f
def pt45 (v : FV) (f : Fm) (k : Fm → RR) : RR := Fm.rec (motive := fun _ => RR) (fun r0 r1 r2 r3 r4 r5 r6 r7 m => R8.rec (motive := fun _ => RR) (fun a0 a1 a2 a3 a4 a5 a6 a7 => k (.mk r0 r1 r2 r3 r4 (.mk a0 a1 a2 a3 a4 v a6 a7) r6 r7 m)) r5) f
def pt46 (v : FV) (f : Fm) (k : Fm → RR) : RR := Fm.rec (motive := fun _ => RR) (fun r0 r1 r2 r3 r4 r5 r6 r7 m => R8.rec (motive := fun _ => RR) (fun a0 a1 a2 a3 a4 a5 a6 a7 => k (.mk r0 r1 r2 r3 r4 (.mk a0 a1 a2 a3 a4 a5 v a7) r6 r7 m)) r5) f
def pt47 (v : FV) (f : Fm) (k : Fm → RR) : RR := Fm.rec (motive := fun _ => RR) (fun r0 r1 r2 r3 r4 r5 r6 r7 m => R8.rec (motive := fun _ => RR) (fun a0 a1 a2 a3 a4 a5 a6 a7 => k (.mk r0 r1 r2 r3 r4 (.mk a0 a1 a2 a3 a4 a5 a6 v) r6 r7 m)) r5) f
def pt48 (v : FV) (f : Fm) (k : Fm → RR) : RR := Fm.rec (motive := fun _ => RR) (fun r0 r1 r2 r3 r4 r5 r6 r7 m => R8.rec (motive := fun _ => RR) (fun a0 a1 a2 a3 a4 a5 a6 a7 => k (.mk r0 r1 r2 r3 r4 r5 (.mk v a1 a2 a3 a4 a5 a6 a7) r7 m)) r6) f
def pt49 (v : FV) (f : Fm) (k : Fm → RR) : RR := Fm.rec (motive := fun _ => RR) (fun r0 r1 r2 r3 r4 r5 r6 r7 m => R8.rec (motive := fun _ => RR) (fun a0 a1 a2 a3 a4 a5 a6 a7 => k (.mk r0 r1 r2 r3 r4 r5 (.mk a0 v a2 a3 a4 a5 a6 a7) r7 m)) r6) f
def pt50 (v : FV) (f : Fm) (k : Fm → RR) : RR := Fm.rec (motive := fun _ => RR) (fun r0 r1 r2 r3 r4 r5 r6 r7 m => R8.rec (motive := fun _ => RR) (fun a0 a1 a2 a3 a4 a5 a6 a7 => k (.mk r0 r1 r2 r3 r4 r5 (.mk a0 a1 v a3 a4 a5 a6 a7) r7 m)) r6) f
def pt51 (v : FV) (f : Fm) (k : Fm → RR) : RR := Fm.rec (motive := fun _ => RR) (fun r0 r1 r2 r3 r4 r5 r6 r7 m => R8.rec (motive := fun _ => RR) (fun a0 a1 a2 a3 a4 a5 a6 a7 => k (.mk r0 r1 r2 r3 r4 r5 (.mk a0 a1 a2 v a4 a5 a6 a7) r7 m)) r6) f
def pt52 (v : FV) (f : Fm) (k : Fm → RR) : RR := Fm.rec (motive := fun _ => RR) (fun r0 r1 r2 r3 r4 r5 r6 r7 m => R8.rec (motive := fun _ => RR) (fun a0 a1 a2 a3 a4 a5 a6 a7 => k (.mk r0 r1 r2 r3 r4 r5 (.mk a0 a1 a2 a3 v a5 a6 a7) r7 m)) r6) f
def pt53 (v : FV) (f : Fm) (k : Fm → RR) : RR := Fm.rec (motive := fun _ => RR) (fun r0 r1 r2 r3 r4 r5 r6 r7 m => R8.rec (motive := fun _ => RR) (fun a0 a1 a2 a3 a4 a5 a6 a7 => k (.mk r0 r1 r2 r3 r4 r5 (.mk a0 a1 a2 a3 a4 v a6 a7) r7 m)) r6) f
def pt54 (v : FV) (f : Fm) (k : Fm → RR) : RR := Fm.rec (motive := fun _ => RR) (fun r0 r1 r2 r3 r4 r5 r6 r7 m => R8.rec (motive := fun _ => RR) (fun a0 a1 a2 a3 a4 a5 a6 a7 => k (.mk r0 r1 r2 r3 r4 r5 (.mk a0 a1 a2 a3 a4 a5 v a7) r7 m)) r6) f
def pt55 (v : FV) (f : Fm) (k : Fm → RR) : RR := Fm.rec (motive := fun _ => RR) (fun r0 r1 r2 r3 r4 r5 r6 r7 m => R8.rec (motive := fun _ => RR) (fun a0 a1 a2 a3 a4 a5 a6 a7 => k (.mk r0 r1 r2 r3 r4 r5 (.mk a0 a1 a2 a3 a4 a5 a6 v) r7 m)) r6) f
def pt56 (v : FV) (f : Fm) (k : Fm → RR) : RR := Fm.rec (motive := fun _ => RR) (fun r0 r1 r2 r3 r4 r5 r6 r7 m => R8.rec (motive := fun _ => RR) (fun a0 a1 a2 a3 a4 a5 a6 a7 => k (.mk r0 r1 r2 r3 r4 r5 r6 (.mk v a1 a2 a3 a4 a5 a6 a7) m)) r7) f
def pt57 (v : FV) (f : Fm) (k : Fm → RR) : RR := Fm.rec (motive := fun _ => RR) (fun r0 r1 r2 r3 r4 r5 r6 r7 m => R8.rec (motive := fun _ => RR) (fun a0 a1 a2 a3 a4 a5 a6 a7 => k (.mk r0 r1 r2 r3 r4 r5 r6 (.mk a0 v a2 a3 a4 a5 a6 a7) m)) r7) f
def pt58 (v : FV) (f : Fm) (k : Fm → RR) : RR := Fm.rec (motive := fun _ => RR) (fun r0 r1 r2 r3 r4 r5 r6 r7 m => R8.rec (motive := fun _ => RR) (fun a0 a1 a2 a3 a4 a5 a6 a7 => k (.mk r0 r1 r2 r3 r4 r5 r6 (.mk a0 a1 v a3 a4 a5 a6 a7) m)) r7) f
def pt59 (v : FV) (f : Fm) (k : Fm → RR) : RR := Fm.rec (motive := fun _ => RR) (fun r0 r1 r2 r3 r4 r5 r6 r7 m => R8.rec (motive := fun _ => RR) (fun a0 a1 a2 a3 a4 a5 a6 a7 => k (.mk r0 r1 r2 r3 r4 r5 r6 (.mk a0 a1 a2 v a4 a5 a6 a7) m)) r7) f
def pt60 (v : FV) (f : Fm) (k : Fm → RR) : RR := Fm.rec (motive := fun _ => RR) (fun r0 r1 r2 r3 r4 r5 r6 r7 m => R8.rec (motive := fun _ => RR) (fun a0 a1 a2 a3 a4 a5 a6 a7 => k (.mk r0 r1 r2 r3 r4 r5 r6 (.mk a0 a1 a2 a3 v a5 a6 a7) m)) r7) f
def pt61 (v : FV) (f : Fm) (k : Fm → RR) : RR := Fm.rec (motive := fun _ => RR) (fun r0 r1 r2 r3 r4 r5 r6 r7 m => R8.rec (motive := fun _ => RR) (fun a0 a1 a2 a3 a4 a5 a6 a7 => k (.mk r0 r1 r2 r3 r4 r5 r6 (.mk a0 a1 a2 a3 a4 v a6 a7) m)) r7) f
def pt62 (v : FV) (f : Fm) (k : Fm → RR) : RR := Fm.rec (motive := fun _ => RR) (fun r0 r1 r2 r3 r4 r5 r6 r7 m => R8.rec (motive := fun _ => RR) (fun a0 a1 a2 a3 a4 a5 a6 a7 => k (.mk r0 r1 r2 r3 r4 r5 r6 (.mk a0 a1 a2 a3 a4 a5 v a7) m)) r7) f
def pt63 (v : FV) (f : Fm) (k : Fm → RR) : RR := Fm.rec (motive := fun _ => RR) (fun r0 r1 r2 r3 r4 r5 r6 r7 m => R8.rec (motive := fun _ => RR) (fun a0 a1 a2 a3 a4 a5 a6 a7 => k (.mk r0 r1 r2 r3 r4 r5 r6 (.mk a0 a1 a2 a3 a4 a5 a6 v) m)) r7) f
def Fm.withMore (f : Fm) (t : Tr V) : Fm := Fm.rec (motive := fun _ => Fm) (fun r0 r1 r2 r3 r4 r5 r6 r7 m => .mk r0 r1 r2 r3 r4 r5 r6 r7 t) f
def R8.none : R8 := .mk .no .no .no .no .no .no .no .no
def Fm.none : Fm := .mk R8.none R8.none R8.none R8.none R8.none R8.none R8.none R8.none .nil

/-! ### Operands and places -/
inductive Opd where
  | s (g : Fm → FV)
  | t (n : Nat)
  | k (v : FV)
inductive Dst where
  | no
  | s (g : FV → Fm → (Fm → RR) → RR)
  | t (n : Nat)
def gsOf : Nat → Option (Fm → FV)
  | 0 => some gs0
  | 1 => some gs1
  | 2 => some gs2
  | 3 => some gs3
  | 4 => some gs4
  | 5 => some gs5
  | 6 => some gs6
  | 7 => some gs7
  | 8 => some gs8
  | 9 => some gs9
  | 10 => some gs10
  | 11 => some gs11
  | 12 => some gs12
  | 13 => some gs13
  | 14 => some gs14
  | 15 => some gs15
  | 16 => some gs16
  | 17 => some gs17
  | 18 => some gs18
  | 19 => some gs19
  | 20 => some gs20
  | 21 => some gs21
  | 22 => some gs22
  | 23 => some gs23
  | 24 => some gs24
  | 25 => some gs25
  | 26 => some gs26
  | 27 => some gs27
  | 28 => some gs28
  | 29 => some gs29
  | 30 => some gs30
  | 31 => some gs31
  | 32 => some gs32
  | 33 => some gs33
  | 34 => some gs34
  | 35 => some gs35
  | 36 => some gs36
  | 37 => some gs37
  | 38 => some gs38
  | 39 => some gs39
  | 40 => some gs40
  | 41 => some gs41
  | 42 => some gs42
  | 43 => some gs43
  | 44 => some gs44
  | 45 => some gs45
  | 46 => some gs46
  | 47 => some gs47
  | 48 => some gs48
  | 49 => some gs49
  | 50 => some gs50
  | 51 => some gs51
  | 52 => some gs52
  | 53 => some gs53
  | 54 => some gs54
  | 55 => some gs55
  | 56 => some gs56
  | 57 => some gs57
  | 58 => some gs58
  | 59 => some gs59
  | 60 => some gs60
  | 61 => some gs61
  | 62 => some gs62
  | 63 => some gs63
  | _ => none
def ptOf : Nat → Option (FV → Fm → (Fm → RR) → RR)
  | 0 => some pt0
  | 1 => some pt1
  | 2 => some pt2
  | 3 => some pt3
  | 4 => some pt4
  | 5 => some pt5
  | 6 => some pt6
  | 7 => some pt7
  | 8 => some pt8
  | 9 => some pt9
  | 10 => some pt10
  | 11 => some pt11
  | 12 => some pt12
  | 13 => some pt13
  | 14 => some pt14
  | 15 => some pt15
  | 16 => some pt16
  | 17 => some pt17
  | 18 => some pt18
  | 19 => some pt19
  | 20 => some pt20
  | 21 => some pt21
  | 22 => some pt22
  | 23 => some pt23
  | 24 => some pt24
  | 25 => some pt25
  | 26 => some pt26
  | 27 => some pt27
  | 28 => some pt28
  | 29 => some pt29
  | 30 => some pt30
  | 31 => some pt31
  | 32 => some pt32
  | 33 => some pt33
  | 34 => some pt34
  | 35 => some pt35
  | 36 => some pt36
  | 37 => some pt37
  | 38 => some pt38
  | 39 => some pt39
  | 40 => some pt40
  | 41 => some pt41
  | 42 => some pt42
  | 43 => some pt43
  | 44 => some pt44
  | 45 => some pt45
  | 46 => some pt46
  | 47 => some pt47
  | 48 => some pt48
  | 49 => some pt49
  | 50 => some pt50
  | 51 => some pt51
  | 52 => some pt52
  | 53 => some pt53
  | 54 => some pt54
  | 55 => some pt55
  | 56 => some pt56
  | 57 => some pt57
  | 58 => some pt58
  | 59 => some pt59
  | 60 => some pt60
  | 61 => some pt61
  | 62 => some pt62
  | 63 => some pt63
  | _ => none

/-! ### Values -/
def FV.ofInt (k : IntKind) : Int → FV :=
  IntKind.rec (motive := fun _ => Int → FV) (fun n => .a (.int .i8 n)) (fun n => .a (.int .i16 n)) (fun n => .a (.int .i32 n)) (fun n => Int.rec (motive := fun _ => FV) (fun m => .i m) (fun m => .a (.int .i64 (.negSucc m))) n) (fun n => .a (.int .u8 n)) (fun n => .a (.int .u16 n)) (fun n => .a (.int .u32 n)) (fun n => Int.rec (motive := fun _ => FV) (fun m => .u m) (fun m => .a (.int .u64 (.negSucc m))) n) k
def FV.ofAt (x : At) : FV := At.rec (motive := fun _ => FV) (fun y => .b y) (fun k n => FV.ofInt k n) (fun l => .a (.str l)) (fun y o => .p y o) (.a .nilp) (fun y o n c => .a (.sl y o n c)) (fun y o n e => .a (.slx y o n e)) (.a .nils) (fun y => .a (.map y)) (.a .nilm) (fun f l m => .a (.fn f l m)) (fun l => .a (.yld l)) (.a .nilf) (.a .nili) (fun m => .a (.opq m)) (fun m => .a (.emp m)) x
def FV.ofL1 (y : At) (l : List At) : FV := List.rec (motive := fun _ => FV) (FV.ofAt y) (fun z m _ => .v (.c false (y :: z :: m))) l
def FV.ofL (l : List At) : FV := List.rec (motive := fun _ => FV) (.v (.c false [])) (fun y m _ => FV.ofL1 y m) l
def FV.ofC (g : Bool) : List At → FV := Bool.rec (motive := fun _ => List At → FV) FV.ofL (fun l => .v (.c true l)) g
def FV.ofV (x : V) : FV := V.rec (motive := fun _ => FV) FV.ofC (fun l => .v (.tup l)) x
def FV.ofO (x : Option V) : FV := Option.rec (motive := fun _ => FV) .no FV.ofV x
def FV.ofA (x : Option At) : FV := Option.rec (motive := fun _ => FV) .no FV.ofAt x

def opdS (t : Nat) : Option (Fm → FV) → Opd
  | some g => .s g
  | none => .t t
def opdT (t : Nat) : Opd := opdS t (gsOf t)
def opd (P : Program) : Operand → Opd
  | .tmp t => opdT t
  | .const v => .k (FV.ofO (evO P .nil (.const v)))
  | .global g => .k (FV.ofO (evO P .nil (.global g)))
  | .func f => .k (FV.ofO (evO P .nil (.func f)))
def dstS (t : Nat) : Option (FV → Fm → (Fm → RR) → RR) → Dst
  | some g => .s g
  | none => .t t
def dstOf : Option Tmp → Dst
  | none => .no
  | some t => dstS t (ptOf t)
def moreG (n : Nat) (f : Fm) : FV := FV.ofO (f.more.get n)
def Opd.get (x : Opd) : Fm → FV := Opd.rec (motive := fun _ => Fm → FV) (fun g => g) moreG (fun v _ => v) x
def morePt (n : Nat) (v : FV) (f : Fm) (k : Fm → RR) : RR := k (Fm.withMore f (f.more.put v.toV n))
def noPt (v : FV) (f : Fm) (k : Fm → RR) : RR := k f
def Dst.putK (d : Dst) : FV → Fm → (Fm → RR) → RR :=
  Dst.rec (motive := fun _ => FV → Fm → (Fm → RR) → RR) noPt (fun g => g) morePt d
/-- What is in a slot. -/
def Fm.val (f : Fm) (t : Nat) : Option V := ((opdT t).get f).toV

def forceN (n : Nat) (k : Nat → RR) : RR := Nat.rec (motive := fun _ => RR) (k 0) (fun m _ => k (Nat.succ m)) n
/-- A value, taken apart; s if it is nothing. -/
def FV.orK (v : FV) : (FV → RR) → RR → RR :=
  FV.rec (motive := fun _ => (FV → RR) → RR → RR) (fun _ s => s) (fun n k _ => forceN n (fun m => k (.i m))) (fun n k _ => forceN n (fun m => k (.u m))) (fun x k _ => Bool.rec (k (.b false)) (k (.b true)) x) (fun b o k _ => forceN b (fun b => forceN o (fun o => k (.p b o)))) (fun x k _ => k (.a x)) (fun x k _ => k (.v x)) v
def forceH (H : Tr AObj) (k : Tr AObj → RR) : RR := Tr.rec (motive := fun _ => RR) (k .nil) (fun v c0 c1 c2 c3 c4 c5 c6 c7 _ _ _ _ _ _ _ _ => k (.node v c0 c1 c2 c3 c4 c5 c6 c7)) H

end
end Go.Proofs.YtmnaddlniaklcaaGreatDoor.Ev
