/- A quick interpreter for the kernel, first part: frames of 64 slots by rows, with a trie behind them. No program in sight. -/
import Derived.Test.YtphpkalbbmlgoaaGreatDoorEvD
namespace Go.Proofs.YtphpkalbbmlgoaaGreatDoor.Ev
open Go
noncomputable section
set_option linter.unusedVariables false

inductive FV where
  | no
  
  | i (n : Nat)
  
  | u (n : Nat)
  | b (x : Bool)
  | p (b o : Nat)
  | a (x : At)
  | v (x : V)

def FV.toV : FV → Option V
  | .no => none
  | .i n => some (.one (.int .i64 (.ofNat n)))
  | .u n => some (.one (.int .u64 (.ofNat n)))
  | .b x => some (.one (.bool x))
  | .p y o => some (.one (.ptr y o))
  | .a x => some (.one x)
  | .v x => some x

structure R8 where
  mk :: (a0 a1 a2 a3 a4 a5 a6 a7 : FV)

structure Fm where
  mk :: (r0 r1 r2 r3 r4 r5 r6 r7 : R8) (more : Tr V)

inductive RR where
  | no
  | ok (fr : Fm) (H : Tr AObj) (nx : Nat)

def gs0 (f : Fm) : FV := f.1.1

def gs1 (f : Fm) : FV := f.1.2

def gs2 (f : Fm) : FV := f.1.3

def gs3 (f : Fm) : FV := f.1.4

def gs4 (f : Fm) : FV := f.1.5

def gs5 (f : Fm) : FV := f.1.6

def gs6 (f : Fm) : FV := f.1.7

def gs7 (f : Fm) : FV := f.1.8

def gs8 (f : Fm) : FV := f.2.1

def gs9 (f : Fm) : FV := f.2.2

def gs10 (f : Fm) : FV := f.2.3

def gs11 (f : Fm) : FV := f.2.4

def gs12 (f : Fm) : FV := f.2.5

def gs13 (f : Fm) : FV := f.2.6

def gs14 (f : Fm) : FV := f.2.7

def gs15 (f : Fm) : FV := f.2.8

def gs16 (f : Fm) : FV := f.3.1

def gs17 (f : Fm) : FV := f.3.2

def gs18 (f : Fm) : FV := f.3.3

def gs19 (f : Fm) : FV := f.3.4

def gs20 (f : Fm) : FV := f.3.5

def gs21 (f : Fm) : FV := f.3.6

def gs22 (f : Fm) : FV := f.3.7

def gs23 (f : Fm) : FV := f.3.8

def gs24 (f : Fm) : FV := f.4.1

def gs25 (f : Fm) : FV := f.4.2

def gs26 (f : Fm) : FV := f.4.3

def gs27 (f : Fm) : FV := f.4.4

def gs28 (f : Fm) : FV := f.4.5

def gs29 (f : Fm) : FV := f.4.6

def gs30 (f : Fm) : FV := f.4.7

def gs31 (f : Fm) : FV := f.4.8

def gs32 (f : Fm) : FV := f.5.1

def gs33 (f : Fm) : FV := f.5.2

def gs34 (f : Fm) : FV := f.5.3

def gs35 (f : Fm) : FV := f.5.4

def gs36 (f : Fm) : FV := f.5.5

def gs37 (f : Fm) : FV := f.5.6

def gs38 (f : Fm) : FV := f.5.7

def gs39 (f : Fm) : FV := f.5.8

def gs40 (f : Fm) : FV := f.6.1

def gs41 (f : Fm) : FV := f.6.2

def gs42 (f : Fm) : FV := f.6.3

def gs43 (f : Fm) : FV := f.6.4

def gs44 (f : Fm) : FV := f.6.5

def gs45 (f : Fm) : FV := f.6.6

def gs46 (f : Fm) : FV := f.6.7

def gs47 (f : Fm) : FV := f.6.8

def gs48 (f : Fm) : FV := f.7.1

def gs49 (f : Fm) : FV := f.7.2

def gs50 (f : Fm) : FV := f.7.3

def gs51 (f : Fm) : FV := f.7.4

def gs52 (f : Fm) : FV := f.7.5

def gs53 (f : Fm) : FV := f.7.6

def gs54 (f : Fm) : FV := f.7.7

def gs55 (f : Fm) : FV := f.7.8

def gs56 (f : Fm) : FV := f.8.1

def gs57 (f : Fm) : FV := f.8.2

def gs58 (f : Fm) : FV := f.8.3

def gs59 (f : Fm) : FV := f.8.4

def gs60 (f : Fm) : FV := f.8.5

def gs61 (f : Fm) : FV := f.8.6

def gs62 (f : Fm) : FV := f.8.7

def gs63 (f : Fm) : FV := f.8.8

def pt0 (v : FV) (f : Fm) (k : Fm → RR) : RR := Fm.rec (motive := fun _ => RR) (fun r0 r1 r2 r3 r4 r5 r6 r7 m => R8.rec (motive := fun _ => RR) (fun a0 a1 a2 a3 a4 a5 a6 a7 => k (.mk (.mk v a1 a2 a3 a4 a5 a6 a7) r1 r2 r3 r4 r5 r6 r7 m)) r0) f

def pt1 (v : FV) (f : Fm) (k : Fm → RR) : RR := Fm.rec (motive := fun _ => RR) (fun r0 r1 r2 r3 r4 r5 r6 r7 m => R8.rec (motive := fun _ => RR) (fun a0 a1 a2 a3 a4 a5 a6 a7 => k (.mk (.mk a0 v a2 a3 a4 a5 a6 a7) r1 r2 r3 r4 r5 r6 r7 m)) r0) f

def pt2 (v : FV) (f : Fm) (k : Fm → RR) : RR := Fm.rec (motive := fun _ => RR) (fun r0 r1 r2 r3 r4 r5 r6 r7 m => R8.rec (motive := fun _ => RR) (fun a0 a1 a2 a3 a4 a5 a6 a7 => k (.mk (.mk a0 a1 v a3 a4 a5 a6 a7) r1 r2 r3 r4 r5 r6 r7 m)) r0) f

def pt3 (v : FV) (f : Fm) (k : Fm → RR) : RR := Fm.rec (motive := fun _ => RR) (fun r0 r1 r2 r3 r4 r5 r6 r7 m => R8.rec (motive := fun _ => RR) (fun a0 a1 a2 a3 a4 a5 a6 a7 => k (.mk (.mk a0 a1 a2 v a4 a5 a6 a7) r1 r2 r3 r4 r5 r6 r7 m)) r0) f

def pt4 (v : FV) (f : Fm) (k : Fm → RR) : RR := Fm.rec (motive := fun _ => RR) (fun r0 r1 r2 r3 r4 r5 r6 r7 m => R8.rec (motive := fun _ => RR) (fun a0 a1 a2 a3 a4 a5 a6 a7 => k (.mk (.mk a0 a1 a2 a3 v a5 a6 a7) r1 r2 r3 r4 r5 r6 r7 m)) r0) f

def pt5 (v : FV) (f : Fm) (k : Fm → RR) : RR := Fm.rec (motive := fun _ => RR) (fun r0 r1 r2 r3 r4 r5 r6 r7 m => R8.rec (motive := fun _ => RR) (fun a0 a1 a2 a3 a4 a5 a6 a7 => k (.mk (.mk a0 a1 a2 a3 a4 v a6 a7) r1 r2 r3 r4 r5 r6 r7 m)) r0) f

def pt6 (v : FV) (f : Fm) (k : Fm → RR) : RR := Fm.rec (motive := fun _ => RR) (fun r0 r1 r2 r3 r4 r5 r6 r7 m => R8.rec (motive := fun _ => RR) (fun a0 a1 a2 a3 a4 a5 a6 a7 => k (.mk (.mk a0 a1 a2 a3 a4 a5 v a7) r1 r2 r3 r4 r5 r6 r7 m)) r0) f

def pt7 (v : FV) (f : Fm) (k : Fm → RR) : RR := Fm.rec (motive := fun _ => RR) (fun r0 r1 r2 r3 r4 r5 r6 r7 m => R8.rec (motive := fun _ => RR) (fun a0 a1 a2 a3 a4 a5 a6 a7 => k (.mk (.mk a0 a1 a2 a3 a4 a5 a6 v) r1 r2 r3 r4 r5 r6 r7 m)) r0) f

def pt8 (v : FV) (f : Fm) (k : Fm → RR) : RR := Fm.rec (motive := fun _ => RR) (fun r0 r1 r2 r3 r4 r5 r6 r7 m => R8.rec (motive := fun _ => RR) (fun a0 a1 a2 a3 a4 a5 a6 a7 => k (.mk r0 (.mk v a1 a2 a3 a4 a5 a6 a7) r2 r3 r4 r5 r6 r7 m)) r1) f

def pt9 (v : FV) (f : Fm) (k : Fm → RR) : RR := Fm.rec (motive := fun _ => RR) (fun r0 r1 r2 r3 r4 r5 r6 r7 m => R8.rec (motive := fun _ => RR) (fun a0 a1 a2 a3 a4 a5 a6 a7 => k (.mk r0 (.mk a0 v a2 a3 a4 a5 a6 a7) r2 r3 r4 r5 r6 r7 m)) r1) f

def pt10 (v : FV) (f : Fm) (k : Fm → RR) : RR := Fm.rec (motive := fun _ => RR) (fun r0 r1 r2 r3 r4 r5 r6 r7 m => R8.rec (motive := fun _ => RR) (fun a0 a1 a2 a3 a4 a5 a6 a7 => k (.mk r0 (.mk a0 a1 v a3 a4 a5 a6 a7) r2 r3 r4 r5 r6 r7 m)) r1) f

def pt11 (v : FV) (f : Fm) (k : Fm → RR) : RR := Fm.rec (motive := fun _ => RR) (fun r0 r1 r2 r3 r4 r5 r6 r7 m => R8.rec (motive := fun _ => RR) (fun a0 a1 a2 a3 a4 a5 a6 a7 => k (.mk r0 (.mk a0 a1 a2 v a4 a5 a6 a7) r2 r3 r4 r5 r6 r7 m)) r1) f

def pt12 (v : FV) (f : Fm) (k : Fm → RR) : RR := Fm.rec (motive := fun _ => RR) (fun r0 r1 r2 r3 r4 r5 r6 r7 m => R8.rec (motive := fun _ => RR) (fun a0 a1 a2 a3 a4 a5 a6 a7 => k (.mk r0 (.mk a0 a1 a2 a3 v a5 a6 a7) r2 r3 r4 r5 r6 r7 m)) r1) f

def pt13 (v : FV) (f : Fm) (k : Fm → RR) : RR := Fm.rec (motive := fun _ => RR) (fun r0 r1 r2 r3 r4 r5 r6 r7 m => R8.rec (motive := fun _ => RR) (fun a0 a1 a2 a3 a4 a5 a6 a7 => k (.mk r0 (.mk a0 a1 a2 a3 a4 v a6 a7) r2 r3 r4 r5 r6 r7 m)) r1) f

def pt14 (v : FV) (f : Fm) (k : Fm → RR) : RR := Fm.rec (motive := fun _ => RR) (fun r0 r1 r2 r3 r4 r5 r6 r7 m => R8.rec (motive := fun _ => RR) (fun a0 a1 a2 a3 a4 a5 a6 a7 => k (.mk r0 (.mk a0 a1 a2 a3 a4 a5 v a7) r2 r3 r4 r5 r6 r7 m)) r1) f

def pt15 (v : FV) (f : Fm) (k : Fm → RR) : RR := Fm.rec (motive := fun _ => RR) (fun r0 r1 r2 r3 r4 r5 r6 r7 m => R8.rec (motive := fun _ => RR) (fun a0 a1 a2 a3 a4 a5 a6 a7 => k (.mk r0 (.mk a0 a1 a2 a3 a4 a5 a6 v) r2 r3 r4 r5 r6 r7 m)) r1) f

def pt16 (v : FV) (f : Fm) (k : Fm → RR) : RR := Fm.rec (motive := fun _ => RR) (fun r0 r1 r2 r3 r4 r5 r6 r7 m => R8.rec (motive := fun _ => RR) (fun a0 a1 a2 a3 a4 a5 a6 a7 => k (.mk r0 r1 (.mk v a1 a2 a3 a4 a5 a6 a7) r3 r4 r5 r6 r7 m)) r2) f

def pt17 (v : FV) (f : Fm) (k : Fm → RR) : RR := Fm.rec (motive := fun _ => RR) (fun r0 r1 r2 r3 r4 r5 r6 r7 m => R8.rec (motive := fun _ => RR) (fun a0 a1 a2 a3 a4 a5 a6 a7 => k (.mk r0 r1 (.mk a0 v a2 a3 a4 a5 a6 a7) r3 r4 r5 r6 r7 m)) r2) f

def pt18 (v : FV) (f : Fm) (k : Fm → RR) : RR := Fm.rec (motive := fun _ => RR) (fun r0 r1 r2 r3 r4 r5 r6 r7 m => R8.rec (motive := fun _ => RR) (fun a0 a1 a2 a3 a4 a5 a6 a7 => k (.mk r0 r1 (.mk a0 a1 v a3 a4 a5 a6 a7) r3 r4 r5 r6 r7 m)) r2) f

def pt19 (v : FV) (f : Fm) (k : Fm → RR) : RR := Fm.rec (motive := fun _ => RR) (fun r0 r1 r2 r3 r4 r5 r6 r7 m => R8.rec (motive := fun _ => RR) (fun a0 a1 a2 a3 a4 a5 a6 a7 => k (.mk r0 r1 (.mk a0 a1 a2 v a4 a5 a6 a7) r3 r4 r5 r6 r7 m)) r2) f

def pt20 (v : FV) (f : Fm) (k : Fm → RR) : RR := Fm.rec (motive := fun _ => RR) (fun r0 r1 r2 r3 r4 r5 r6 r7 m => R8.rec (motive := fun _ => RR) (fun a0 a1 a2 a3 a4 a5 a6 a7 => k (.mk r0 r1 (.mk a0 a1 a2 a3 v a5 a6 a7) r3 r4 r5 r6 r7 m)) r2) f

def pt21 (v : FV) (f : Fm) (k : Fm → RR) : RR := Fm.rec (motive := fun _ => RR) (fun r0 r1 r2 r3 r4 r5 r6 r7 m => R8.rec (motive := fun _ => RR) (fun a0 a1 a2 a3 a4 a5 a6 a7 => k (.mk r0 r1 (.mk a0 a1 a2 a3 a4 v a6 a7) r3 r4 r5 r6 r7 m)) r2) f

def pt22 (v : FV) (f : Fm) (k : Fm → RR) : RR := Fm.rec (motive := fun _ => RR) (fun r0 r1 r2 r3 r4 r5 r6 r7 m => R8.rec (motive := fun _ => RR) (fun a0 a1 a2 a3 a4 a5 a6 a7 => k (.mk r0 r1 (.mk a0 a1 a2 a3 a4 a5 v a7) r3 r4 r5 r6 r7 m)) r2) f

def pt23 (v : FV) (f : Fm) (k : Fm → RR) : RR := Fm.rec (motive := fun _ => RR) (fun r0 r1 r2 r3 r4 r5 r6 r7 m => R8.rec (motive := fun _ => RR) (fun a0 a1 a2 a3 a4 a5 a6 a7 => k (.mk r0 r1 (.mk a0 a1 a2 a3 a4 a5 a6 v) r3 r4 r5 r6 r7 m)) r2) f

def pt24 (v : FV) (f : Fm) (k : Fm → RR) : RR := Fm.rec (motive := fun _ => RR) (fun r0 r1 r2 r3 r4 r5 r6 r7 m => R8.rec (motive := fun _ => RR) (fun a0 a1 a2 a3 a4 a5 a6 a7 => k (.mk r0 r1 r2 (.mk v a1 a2 a3 a4 a5 a6 a7) r4 r5 r6 r7 m)) r3) f

def pt25 (v : FV) (f : Fm) (k : Fm → RR) : RR := Fm.rec (motive := fun _ => RR) (fun r0 r1 r2 r3 r4 r5 r6 r7 m => R8.rec (motive := fun _ => RR) (fun a0 a1 a2 a3 a4 a5 a6 a7 => k (.mk r0 r1 r2 (.mk a0 v a2 a3 a4 a5 a6 a7) r4 r5 r6 r7 m)) r3) f

def pt26 (v : FV) (f : Fm) (k : Fm → RR) : RR := Fm.rec (motive := fun _ => RR) (fun r0 r1 r2 r3 r4 r5 r6 r7 m => R8.rec (motive := fun _ => RR) (fun a0 a1 a2 a3 a4 a5 a6 a7 => k (.mk r0 r1 r2 (.mk a0 a1 v a3 a4 a5 a6 a7) r4 r5 r6 r7 m)) r3) f

def pt27 (v : FV) (f : Fm) (k : Fm → RR) : RR := Fm.rec (motive := fun _ => RR) (fun r0 r1 r2 r3 r4 r5 r6 r7 m => R8.rec (motive := fun _ => RR) (fun a0 a1 a2 a3 a4 a5 a6 a7 => k (.mk r0 r1 r2 (.mk a0 a1 a2 v a4 a5 a6 a7) r4 r5 r6 r7 m)) r3) f

def pt28 (v : FV) (f : Fm) (k : Fm → RR) : RR := Fm.rec (motive := fun _ => RR) (fun r0 r1 r2 r3 r4 r5 r6 r7 m => R8.rec (motive := fun _ => RR) (fun a0 a1 a2 a3 a4 a5 a6 a7 => k (.mk r0 r1 r2 (.mk a0 a1 a2 a3 v a5 a6 a7) r4 r5 r6 r7 m)) r3) f

def pt29 (v : FV) (f : Fm) (k : Fm → RR) : RR := Fm.rec (motive := fun _ => RR) (fun r0 r1 r2 r3 r4 r5 r6 r7 m => R8.rec (motive := fun _ => RR) (fun a0 a1 a2 a3 a4 a5 a6 a7 => k (.mk r0 r1 r2 (.mk a0 a1 a2 a3 a4 v a6 a7) r4 r5 r6 r7 m)) r3) f

def pt30 (v : FV) (f : Fm) (k : Fm → RR) : RR := Fm.rec (motive := fun _ => RR) (fun r0 r1 r2 r3 r4 r5 r6 r7 m => R8.rec (motive := fun _ => RR) (fun a0 a1 a2 a3 a4 a5 a6 a7 => k (.mk r0 r1 r2 (.mk a0 a1 a2 a3 a4 a5 v a7) r4 r5 r6 r7 m)) r3) f

def pt31 (v : FV) (f : Fm) (k : Fm → RR) : RR := Fm.rec (motive := fun _ => RR) (fun r0 r1 r2 r3 r4 r5 r6 r7 m => R8.rec (motive := fun _ => RR) (fun a0 a1 a2 a3 a4 a5 a6 a7 => k (.mk r0 r1 r2 (.mk a0 a1 a2 a3 a4 a5 a6 v) r4 r5 r6 r7 m)) r3) f

def pt32 (v : FV) (f : Fm) (k : Fm → RR) : RR := Fm.rec (motive := fun _ => RR) (fun r0 r1 r2 r3 r4 r5 r6 r7 m => R8.rec (motive := fun _ => RR) (fun a0 a1 a2 a3 a4 a5 a6 a7 => k (.mk r0 r1 r2 r3 (.mk v a1 a2 a3 a4 a5 a6 a7) r5 r6 r7 m)) r4) f

def pt33 (v : FV) (f : Fm) (k : Fm → RR) : RR := Fm.rec (motive := fun _ => RR) (fun r0 r1 r2 r3 r4 r5 r6 r7 m => R8.rec (motive := fun _ => RR) (fun a0 a1 a2 a3 a4 a5 a6 a7 => k (.mk r0 r1 r2 r3 (.mk a0 v a2 a3 a4 a5 a6 a7) r5 r6 r7 m)) r4) f

def pt34 (v : FV) (f : Fm) (k : Fm → RR) : RR := Fm.rec (motive := fun _ => RR) (fun r0 r1 r2 r3 r4 r5 r6 r7 m => R8.rec (motive := fun _ => RR) (fun a0 a1 a2 a3 a4 a5 a6 a7 => k (.mk r0 r1 r2 r3 (.mk a0 a1 v a3 a4 a5 a6 a7) r5 r6 r7 m)) r4) f

def pt35 (v : FV) (f : Fm) (k : Fm → RR) : RR := Fm.rec (motive := fun _ => RR) (fun r0 r1 r2 r3 r4 r5 r6 r7 m => R8.rec (motive := fun _ => RR) (fun a0 a1 a2 a3 a4 a5 a6 a7 => k (.mk r0 r1 r2 r3 (.mk a0 a1 a2 v a4 a5 a6 a7) r5 r6 r7 m)) r4) f

def pt36 (v : FV) (f : Fm) (k : Fm → RR) : RR := Fm.rec (motive := fun _ => RR) (fun r0 r1 r2 r3 r4 r5 r6 r7 m => R8.rec (motive := fun _ => RR) (fun a0 a1 a2 a3 a4 a5 a6 a7 => k (.mk r0 r1 r2 r3 (.mk a0 a1 a2 a3 v a5 a6 a7) r5 r6 r7 m)) r4) f

def pt37 (v : FV) (f : Fm) (k : Fm → RR) : RR := Fm.rec (motive := fun _ => RR) (fun r0 r1 r2 r3 r4 r5 r6 r7 m => R8.rec (motive := fun _ => RR) (fun a0 a1 a2 a3 a4 a5 a6 a7 => k (.mk r0 r1 r2 r3 (.mk a0 a1 a2 a3 a4 v a6 a7) r5 r6 r7 m)) r4) f

def pt38 (v : FV) (f : Fm) (k : Fm → RR) : RR := Fm.rec (motive := fun _ => RR) (fun r0 r1 r2 r3 r4 r5 r6 r7 m => R8.rec (motive := fun _ => RR) (fun a0 a1 a2 a3 a4 a5 a6 a7 => k (.mk r0 r1 r2 r3 (.mk a0 a1 a2 a3 a4 a5 v a7) r5 r6 r7 m)) r4) f

def pt39 (v : FV) (f : Fm) (k : Fm → RR) : RR := Fm.rec (motive := fun _ => RR) (fun r0 r1 r2 r3 r4 r5 r6 r7 m => R8.rec (motive := fun _ => RR) (fun a0 a1 a2 a3 a4 a5 a6 a7 => k (.mk r0 r1 r2 r3 (.mk a0 a1 a2 a3 a4 a5 a6 v) r5 r6 r7 m)) r4) f

def pt40 (v : FV) (f : Fm) (k : Fm → RR) : RR := Fm.rec (motive := fun _ => RR) (fun r0 r1 r2 r3 r4 r5 r6 r7 m => R8.rec (motive := fun _ => RR) (fun a0 a1 a2 a3 a4 a5 a6 a7 => k (.mk r0 r1 r2 r3 r4 (.mk v a1 a2 a3 a4 a5 a6 a7) r6 r7 m)) r5) f

def pt41 (v : FV) (f : Fm) (k : Fm → RR) : RR := Fm.rec (motive := fun _ => RR) (fun r0 r1 r2 r3 r4 r5 r6 r7 m => R8.rec (motive := fun _ => RR) (fun a0 a1 a2 a3 a4 a5 a6 a7 => k (.mk r0 r1 r2 r3 r4 (.mk a0 v a2 a3 a4 a5 a6 a7) r6 r7 m)) r5) f

def pt42 (v : FV) (f : Fm) (k : Fm → RR) : RR := Fm.rec (motive := fun _ => RR) (fun r0 r1 r2 r3 r4 r5 r6 r7 m => R8.rec (motive := fun _ => RR) (fun a0 a1 a2 a3 a4 a5 a6 a7 => k (.mk r0 r1 r2 r3 r4 (.mk a0 a1 v a3 a4 a5 a6 a7) r6 r7 m)) r5) f

def pt43 (v : FV) (f : Fm) (k : Fm → RR) : RR := Fm.rec (motive := fun _ => RR) (fun r0 r1 r2 r3 r4 r5 r6 r7 m => R8.rec (motive := fun _ => RR) (fun a0 a1 a2 a3 a4 a5 a6 a7 => k (.mk r0 r1 r2 r3 r4 (.mk a0 a1 a2 v a4 a5 a6 a7) r6 r7 m)) r5) f

def pt44 (v : FV) (f : Fm) (k : Fm → RR) : RR := Fm.rec (motive := fun _ => RR) (fun r0 r1 r2 r3 r4 r5 r6 r7 m => R8.rec (motive := fun _ => RR) (fun a0 a1 a2 a3 a4 a5 a6 a7 => k (.mk r0 r1 r2 r3 r4 (.mk a0 a1 a2 a3 v a5 a6 a7) r6 r7 m)) r5) f

def pt45 (v : FV) (f : Fm) (k : Fm → RR) : RR := Fm.rec (motive := fun _ => RR) (fun r0 r1 r2 r3 r4 r5 r6 r7 m => R8.rec (motive := fun _ => RR) (fun a0 a1 a2 a3 a4 a5 a6 a7 => k (.mk r0 r1 r2 r3 r4 (.mk a0 a1 a2 a3 a4 v a6 a7) r6 r7 m)) r5) f

def pt46 (v : FV) (f : Fm) (k : Fm → RR) : RR := Fm.rec (motive := fun _ => RR) (fun r0 r1 r2 r3 r4 r5 r6 r7 m => R8.rec (motive := fun _ => RR) (fun a0 a1 a2 a3 a4 a5 a6 a7 => k (.mk r0 r1 r2 r3 r4 (.mk a0 a1 a2 a3 a4 a5 v a7) r6 r7 m)) r5) f

def pt47 (v : FV) (f : Fm) (k : Fm → RR) : RR := Fm.rec (motive := fun _ => RR) (fun r0 r1 r2 r3 r4 r5 r6 r7 m => R8.rec (motive := fun _ => RR) (fun a0 a1 a2 a3 a4 a5 a6 a7 => k (.mk r0 r1 r2 r3 r4 (.mk a0 a1 a2 a3 a4 a5 a6 v) r6 r7 m)) r5) f

def pt48 (v : FV) (f : Fm) (k : Fm → RR) : RR := Fm.rec (motive := fun _ => RR) (fun r0 r1 r2 r3 r4 r5 r6 r7 m => R8.rec (motive := fun _ => RR) (fun a0 a1 a2 a3 a4 a5 a6 a7 => k (.mk r0 r1 r2 r3 r4 r5 (.mk v a1 a2 a3 a4 a5 a6 a7) r7 m)) r6) f

def pt49 (v : FV) (f : Fm) (k : Fm → RR) : RR := Fm.rec (motive := fun _ => RR) (fun r0 r1 r2 r3 r4 r5 r6 r7 m => R8.rec (motive := fun _ => RR) (fun a0 a1 a2 a3 a4 a5 a6 a7 => k (.mk r0 r1 r2 r3 r4 r5 (.mk a0 v a2 a3 a4 a5 a6 a7) r7 m)) r6) f

def pt50 (v : FV) (f : Fm) (k : Fm → RR) : RR := Fm.rec (motive := fun _ => RR) (fun r0 r1 r2 r3 r4 r5 r6 r7 m => R8.rec (motive := fun _ => RR) (fun a0 a1 a2 a3 a4 a5 a6 a7 => k (.mk r0 r1 r2 r3 r4 r5 (.mk a0 a1 v a3 a4 a5 a6 a7) r7 m)) r6) f

def pt51 (v : FV) (f : Fm) (k : Fm → RR) : RR := Fm.rec (motive := fun _ => RR) (fun r0 r1 r2 r3 r4 r5 r6 r7 m => R8.rec (motive := fun _ => RR) (fun a0 a1 a2 a3 a4 a5 a6 a7 => k (.mk r0 r1 r2 r3 r4 r5 (.mk a0 a1 a2 v a4 a5 a6 a7) r7 m)) r6) f

def pt52 (v : FV) (f : Fm) (k : Fm → RR) : RR := Fm.rec (motive := fun _ => RR) (fun r0 r1 r2 r3 r4 r5 r6 r7 m => R8.rec (motive := fun _ => RR) (fun a0 a1 a2 a3 a4 a5 a6 a7 => k (.mk r0 r1 r2 r3 r4 r5 (.mk a0 a1 a2 a3 v a5 a6 a7) r7 m)) r6) f

def pt53 (v : FV) (f : Fm) (k : Fm → RR) : RR := Fm.rec (motive := fun _ => RR) (fun r0 r1 r2 r3 r4 r5 r6 r7 m => R8.rec (motive := fun _ => RR) (fun a0 a1 a2 a3 a4 a5 a6 a7 => k (.mk r0 r1 r2 r3 r4 r5 (.mk a0 a1 a2 a3 a4 v a6 a7) r7 m)) r6) f

def pt54 (v : FV) (f : Fm) (k : Fm → RR) : RR := Fm.rec (motive := fun _ => RR) (fun r0 r1 r2 r3 r4 r5 r6 r7 m => R8.rec (motive := fun _ => RR) (fun a0 a1 a2 a3 a4 a5 a6 a7 => k (.mk r0 r1 r2 r3 r4 r5 (.mk a0 a1 a2 a3 a4 a5 v a7) r7 m)) r6) f

def pt55 (v : FV) (f : Fm) (k : Fm → RR) : RR := Fm.rec (motive := fun _ => RR) (fun r0 r1 r2 r3 r4 r5 r6 r7 m => R8.rec (motive := fun _ => RR) (fun a0 a1 a2 a3 a4 a5 a6 a7 => k (.mk r0 r1 r2 r3 r4 r5 (.mk a0 a1 a2 a3 a4 a5 a6 v) r7 m)) r6) f

def pt56 (v : FV) (f : Fm) (k : Fm → RR) : RR := Fm.rec (motive := fun _ => RR) (fun r0 r1 r2 r3 r4 r5 r6 r7 m => R8.rec (motive := fun _ => RR) (fun a0 a1 a2 a3 a4 a5 a6 a7 => k (.mk r0 r1 r2 r3 r4 r5 r6 (.mk v a1 a2 a3 a4 a5 a6 a7) m)) r7) f

def pt57 (v : FV) (f : Fm) (k : Fm → RR) : RR := Fm.rec (motive := fun _ => RR) (fun r0 r1 r2 r3 r4 r5 r6 r7 m => R8.rec (motive := fun _ => RR) (fun a0 a1 a2 a3 a4 a5 a6 a7 => k (.mk r0 r1 r2 r3 r4 r5 r6 (.mk a0 v a2 a3 a4 a5 a6 a7) m)) r7) f

def pt58 (v : FV) (f : Fm) (k : Fm → RR) : RR := Fm.rec (motive := fun _ => RR) (fun r0 r1 r2 r3 r4 r5 r6 r7 m => R8.rec (motive := fun _ => RR) (fun a0 a1 a2 a3 a4 a5 a6 a7 => k (.mk r0 r1 r2 r3 r4 r5 r6 (.mk a0 a1 v a3 a4 a5 a6 a7) m)) r7) f

def pt59 (v : FV) (f : Fm) (k : Fm → RR) : RR := Fm.rec (motive := fun _ => RR) (fun r0 r1 r2 r3 r4 r5 r6 r7 m => R8.rec (motive := fun _ => RR) (fun a0 a1 a2 a3 a4 a5 a6 a7 => k (.mk r0 r1 r2 r3 r4 r5 r6 (.mk a0 a1 a2 v a4 a5 a6 a7) m)) r7) f

def pt60 (v : FV) (f : Fm) (k : Fm → RR) : RR := Fm.rec (motive := fun _ => RR) (fun r0 r1 r2 r3 r4 r5 r6 r7 m => R8.rec (motive := fun _ => RR) (fun a0 a1 a2 a3 a4 a5 a6 a7 => k (.mk r0 r1 r2 r3 r4 r5 r6 (.mk a0 a1 a2 a3 v a5 a6 a7) m)) r7) f

def pt61 (v : FV) (f : Fm) (k : Fm → RR) : RR := Fm.rec (motive := fun _ => RR) (fun r0 r1 r2 r3 r4 r5 r6 r7 m => R8.rec (motive := fun _ => RR) (fun a0 a1 a2 a3 a4 a5 a6 a7 => k (.mk r0 r1 r2 r3 r4 r5 r6 (.mk a0 a1 a2 a3 a4 v a6 a7) m)) r7) f

def pt62 (v : FV) (f : Fm) (k : Fm → RR) : RR := Fm.rec (motive := fun _ => RR) (fun r0 r1 r2 r3 r4 r5 r6 r7 m => R8.rec (motive := fun _ => RR) (fun a0 a1 a2 a3 a4 a5 a6 a7 => k (.mk r0 r1 r2 r3 r4 r5 r6 (.mk a0 a1 a2 a3 a4 a5 v a7) m)) r7) f

def pt63 (v : FV) (f : Fm) (k : Fm → RR) : RR := Fm.rec (motive := fun _ => RR) (fun r0 r1 r2 r3 r4 r5 r6 r7 m => R8.rec (motive := fun _ => RR) (fun a0 a1 a2 a3 a4 a5 a6 a7 => k (.mk r0 r1 r2 r3 r4 r5 r6 (.mk a0 a1 a2 a3 a4 a5 a6 v) m)) r7) f

def Fm.withMore (f : Fm) (t : Tr V) : Fm := Fm.rec (motive := fun _ => Fm) (fun r0 r1 r2 r3 r4 r5 r6 r7 m => .mk r0 r1 r2 r3 r4 r5 r6 r7 t) f

def R8.none : R8 := .mk .no .no .no .no .no .no .no .no

def Fm.none : Fm := .mk R8.none R8.none R8.none R8.none R8.none R8.none R8.none R8.none .nil

inductive Opd where
  | s (g : Fm → FV)
  | t (n : Nat)
  | k (v : FV)

inductive Dst where
  | no
  | s (g : FV → Fm → (Fm → RR) → RR)
  | t (n : Nat)

def gsOf : Nat → Option (Fm → FV)
  | 0 => some gs0
  | 1 => some gs1
  | 2 => some gs2
  | 3 => some gs3
  | 4 => some gs4
  | 5 => some gs5
  | 6 => some gs6
  | 7 => some gs7
  | 8 => some gs8
  | 9 => some gs9
  | 10 => some gs10
  | 11 => some gs11
  | 12 => some gs12
  | 13 => some gs13
  | 14 => some gs14
  | 15 => some gs15
  | 16 => some gs16
  | 17 => some gs17
  | 18 => some gs18
  | 19 => some gs19
  | 20 => some gs20
  | 21 => some gs21
  | 22 => some gs22
  | 23 => some gs23
  | 24 => some gs24
  | 25 => some gs25
  | 26 => some gs26
  | 27 => some gs27
  | 28 => some gs28
  | 29 => some gs29
  | 30 => some gs30
  | 31 => some gs31
  | 32 => some gs32
  | 33 => some gs33
  | 34 => some gs34
  | 35 => some gs35
  | 36 => some gs36
  | 37 => some gs37
  | 38 => some gs38
  | 39 => some gs39
  | 40 => some gs40
  | 41 => some gs41
  | 42 => some gs42
  | 43 => some gs43
  | 44 => some gs44
  | 45 => some gs45
  | 46 => some gs46
  | 47 => some gs47
  | 48 => some gs48
  | 49 => some gs49
  | 50 => some gs50
  | 51 => some gs51
  | 52 => some gs52
  | 53 => some gs53
  | 54 => some gs54
  | 55 => some gs55
  | 56 => some gs56
  | 57 => some gs57
  | 58 => some gs58
  | 59 => some gs59
  | 60 => some gs60
  | 61 => some gs61
  | 62 => some gs62
  | 63 => some gs63
  | _ => none

def ptOf : Nat → Option (FV → Fm → (Fm → RR) → RR)
  | 0 => some pt0
  | 1 => some pt1
  | 2 => some pt2
  | 3 => some pt3
  | 4 => some pt4
  | 5 => some pt5
  | 6 => some pt6
  | 7 => some pt7
  | 8 => some pt8
  | 9 => some pt9
  | 10 => some pt10
  | 11 => some pt11
  | 12 => some pt12
  | 13 => some pt13
  | 14 => some pt14
  | 15 => some pt15
  | 16 => some pt16
  | 17 => some pt17
  | 18 => some pt18
  | 19 => some pt19
  | 20 => some pt20
  | 21 => some pt21
  | 22 => some pt22
  | 23 => some pt23
  | 24 => some pt24
  | 25 => some pt25
  | 26 => some pt26
  | 27 => some pt27
  | 28 => some pt28
  | 29 => some pt29
  | 30 => some pt30
  | 31 => some pt31
  | 32 => some pt32
  | 33 => some pt33
  | 34 => some pt34
  | 35 => some pt35
  | 36 => some pt36
  | 37 => some pt37
  | 38 => some pt38
  | 39 => some pt39
  | 40 => some pt40
  | 41 => some pt41
  | 42 => some pt42
  | 43 => some pt43
  | 44 => some pt44
  | 45 => some pt45
  | 46 => some pt46
  | 47 => some pt47
  | 48 => some pt48
  | 49 => some pt49
  | 50 => some pt50
  | 51 => some pt51
  | 52 => some pt52
  | 53 => some pt53
  | 54 => some pt54
  | 55 => some pt55
  | 56 => some pt56
  | 57 => some pt57
  | 58 => some pt58
  | 59 => some pt59
  | 60 => some pt60
  | 61 => some pt61
  | 62 => some pt62
  | 63 => some pt63
  | _ => none

def FV.ofInt (k : IntKind) : Int → FV :=
  IntKind.rec (motive := fun _ => Int → FV) (fun n => .a (.int .i8 n)) (fun n => .a (.int .i16 n)) (fun n => .a (.int .i32 n)) (fun n => Int.rec (motive := fun _ => FV) (fun m => .i m) (fun m => .a (.int .i64 (.negSucc m))) n) (fun n => .a (.int .u8 n)) (fun n => .a (.int .u16 n)) (fun n => .a (.int .u32 n)) (fun n => Int.rec (motive := fun _ => FV) (fun m => .u m) (fun m => .a (.int .u64 (.negSucc m))) n) k

def FV.ofAt (x : At) : FV := At.rec (motive := fun _ => FV) (fun y => .b y) (fun k n => FV.ofInt k n) (fun l => .a (.str l)) (fun y o => .p y o) (.a .nilp) (fun y o n c => .a (.sl y o n c)) (fun y o n e => .a (.slx y o n e)) (.a .nils) (fun y => .a (.map y)) (.a .nilm) (fun f l m => .a (.fn f l m)) (fun l => .a (.yld l)) (.a .nilf) (.a .nili) (fun m => .a (.opq m)) (fun m => .a (.emp m)) x

def FV.ofL1 (y : At) (l : List At) : FV := List.rec (motive := fun _ => FV) (FV.ofAt y) (fun z m _ => .v (.c false (y :: z :: m))) l

def FV.ofL (l : List At) : FV := List.rec (motive := fun _ => FV) (.v (.c false [])) (fun y m _ => FV.ofL1 y m) l

def FV.ofC (g : Bool) : List At → FV := Bool.rec (motive := fun _ => List At → FV) FV.ofL (fun l => .v (.c true l)) g

def FV.ofV (x : V) : FV := V.rec (motive := fun _ => FV) FV.ofC (fun l => .v (.tup l)) x

def FV.ofO (x : Option V) : FV := Option.rec (motive := fun _ => FV) .no FV.ofV x

def FV.ofA (x : Option At) : FV := Option.rec (motive := fun _ => FV) .no FV.ofAt x

def opdS (t : Nat) : Option (Fm → FV) → Opd
  | some g => .s g
  | none => .t t

def opdT (t : Nat) : Opd := opdS t (gsOf t)

def opd (P : Program) : Operand → Opd
  | .tmp t => opdT t
  | .const v => .k (FV.ofO (evO P .nil (.const v)))
  | .global g => .k (FV.ofO (evO P .nil (.global g)))
  | .func f => .k (FV.ofO (evO P .nil (.func f)))

def dstS (t : Nat) : Option (FV → Fm → (Fm → RR) → RR) → Dst
  | some g => .s g
  | none => .t t

def dstOf : Option Tmp → Dst
  | none => .no
  | some t => dstS t (ptOf t)

def moreG (n : Nat) (f : Fm) : FV := FV.ofO (f.more.get n)

def Opd.get (x : Opd) : Fm → FV := Opd.rec (motive := fun _ => Fm → FV) (fun g => g) moreG (fun v _ => v) x

def morePt (n : Nat) (v : FV) (f : Fm) (k : Fm → RR) : RR := k (Fm.withMore f (f.more.put v.toV n))

def noPt (v : FV) (f : Fm) (k : Fm → RR) : RR := k f

def Dst.putK (d : Dst) : FV → Fm → (Fm → RR) → RR :=
  Dst.rec (motive := fun _ => FV → Fm → (Fm → RR) → RR) noPt (fun g => g) morePt d

def Fm.val (f : Fm) (t : Nat) : Option V := ((opdT t).get f).toV

def forceN (n : Nat) (k : Nat → RR) : RR := Nat.rec (motive := fun _ => RR) (k 0) (fun m _ => k (Nat.succ m)) n

def FV.orK (v : FV) : (FV → RR) → RR → RR :=
  FV.rec (motive := fun _ => (FV → RR) → RR → RR) (fun _ s => s) (fun n k _ => forceN n (fun m => k (.i m))) (fun n k _ => forceN n (fun m => k (.u m))) (fun x k _ => Bool.rec (k (.b false)) (k (.b true)) x) (fun b o k _ => forceN b (fun b => forceN o (fun o => k (.p b o)))) (fun x k _ => k (.a x)) (fun x k _ => k (.v x)) v

def forceH (H : Tr AObj) (k : Tr AObj → RR) : RR := Tr.rec (motive := fun _ => RR) (k .nil) (fun v c0 c1 c2 c3 c4 c5 c6 c7 _ _ _ _ _ _ _ _ => k (.node v c0 c1 c2 c3 c4 c5 c6 c7)) H

end
end Go.Proofs.YtphpkalbbmlgoaaGreatDoor.Ev

namespace Go.Proofs.YtphpkalbbmlgoaaGreatDoor.Ev
open Go
noncomputable section
set_option linter.unusedVariables false

abbrev KK := Fm → Tr AObj → Nat → RR

inductive CR where
  | no
  | ok (v : FV) (H : Tr AObj) (nx : Nat)

structure QF where
  f : Fns
  c : FuncId → List FV → Tr AObj → Nat → CR

def below63 (n : Nat) : FV := Bool.rec .no (.i n) (Nat.ble n 9223372036854775807)

def addN (a b : Nat) : FV := below63 (Nat.add a b)

def subN (a b : Nat) : FV := Bool.rec .no (below63 (Nat.sub a b)) (Nat.ble b a)

def mulN (a b : Nat) : FV := below63 (Nat.mul a b)

def quoN (a b : Nat) : FV := Bool.rec (below63 (Nat.div a b)) .no (Nat.beq b 0)

def remN (a b : Nat) : FV := Bool.rec (.i (Nat.mod a b)) .no (Nat.beq b 0)

def lssN (a b : Nat) : FV := .b (Nat.ble (Nat.succ a) b)

def leqN (a b : Nat) : FV := .b (Nat.ble a b)

def gtrN (a b : Nat) : FV := .b (Nat.ble (Nat.succ b) a)

def geqN (a b : Nat) : FV := .b (Nat.ble b a)

def eqlN (a b : Nat) : FV := .b (Nat.beq a b)

def neqN (a b : Nat) : FV := Bool.rec (.b true) (.b false) (Nat.beq a b)

def noN (_ _ : Nat) : FV := .no

def addU (a b : Nat) : FV := .u (Nat.mod (Nat.add a b) 18446744073709551616)

def subU (a b : Nat) : FV := Bool.rec .no (.u (Nat.mod (Nat.sub a b) 18446744073709551616)) (Nat.ble b a)

def mulU (a b : Nat) : FV := .u (Nat.mod (Nat.mul a b) 18446744073709551616)

def quoU (a b : Nat) : FV := Bool.rec (.u (Nat.mod (Nat.div a b) 18446744073709551616)) .no (Nat.beq b 0)

def remU (a b : Nat) : FV := Bool.rec (.u (Nat.mod a b)) .no (Nat.beq b 0)

def andU (a b : Nat) : FV := .u (Nat.land (Nat.mod a 18446744073709551616) (Nat.mod b 18446744073709551616))

def orU (a b : Nat) : FV := .u (Nat.lor (Nat.mod a 18446744073709551616) (Nat.mod b 18446744073709551616))

def xorU (a b : Nat) : FV := .u (Nat.xor (Nat.mod a 18446744073709551616) (Nat.mod b 18446744073709551616))

def shlU (a b : Nat) : FV := Bool.rec .no (.u (Nat.mod (Nat.mul a (Nat.pow 2 b)) 18446744073709551616)) (Nat.ble b 64)

def shrU (a b : Nat) : FV := Bool.rec .no (.u (Nat.div a (Nat.pow 2 b))) (Nat.ble b 64)

structure Bin where
  i : Nat → Nat → FV
  u : Nat → Nat → FV
  s : Nat → Nat → FV

def binOf : BinOp → Bin
  | .add => ⟨addN, addU, noN⟩ | .sub => ⟨subN, subU, noN⟩ | .mul => ⟨mulN, mulU, noN⟩ | .quo => ⟨quoN, quoU, noN⟩ | .rem => ⟨remN, remU, noN⟩
  | .and => ⟨noN, andU, noN⟩ | .or => ⟨noN, orU, noN⟩ | .xor => ⟨noN, xorU, noN⟩ | .shl => ⟨noN, shlU, shlU⟩ | .shr => ⟨noN, shrU, shrU⟩
  | .lss => ⟨lssN, lssN, noN⟩ | .leq => ⟨leqN, leqN, noN⟩ | .gtr => ⟨gtrN, gtrN, noN⟩ | .geq => ⟨geqN, geqN, noN⟩ | .eql => ⟨eqlN, eqlN, noN⟩ | .neq => ⟨neqN, neqN, noN⟩
  | _ => ⟨noN, noN, noN⟩

def binU (y : FV) : Nat → Bin → FV :=
  FV.rec (motive := fun _ => Nat → Bin → FV) (fun _ _ => .no) (fun b a g => g.3 a b) (fun b a g => g.2 a b) (fun _ _ _ => .no) (fun _ _ _ _ => .no) (fun _ _ _ => .no) (fun _ _ _ => .no) y

def binI (y : FV) : Nat → Bin → FV :=
  FV.rec (motive := fun _ => Nat → Bin → FV) (fun _ _ => .no) (fun b a g => g.1 a b) (fun _ _ _ => .no) (fun _ _ _ => .no) (fun _ _ _ _ => .no) (fun _ _ _ => .no) (fun _ _ _ => .no) y

def binF (x : FV) : FV → Bin → FV :=
  FV.rec (motive := fun _ => FV → Bin → FV) (fun _ _ => .no) (fun a y g => binI y a g) (fun a y g => binU y a g) (fun _ _ _ => .no) (fun _ _ _ _ => .no) (fun _ _ _ => .no) (fun _ _ _ => .no) x

inductive EqT where
  | ptr
  | sl
  | no

inductive Cl where
  | mv (d : Dst) (x : Opd)
  | bin (d : Dst) (g : Bin) (x y : Opd) (o : Oper)
  | eq (d : Dst) (neg : Bool) (e : EqT) (x y : Opd) (o : Oper)
  | ld (d : Dst) (x : Opd) (g : Bool) (n : Nat) (o : Oper)
  | fa (d : Dst) (x : Opd) (off : Nat) (o : Oper)
  | ia (d : Dst) (x y : Opd) (l : Option Nat) (sz : Nat) (o : Oper)
  | pk (d : Dst) (c a b : Opd) (o : Oper)
  | nc (d : Dst) (x : Opd) (o : Oper)
  | ln (d : Dst) (x : Opd) (o : Oper)
  | nt (d : Dst) (x : Opd) (o : Oper)
  | cv (d : Dst) (k : IntKind) (x : Opd) (o : Oper)
  | st (a x : Opd) (n : Nat) (d : Dst) (o : Oper)
  | bx (d : Dst) (t : TypeId) (x : Opd) (o : Oper)
  | al (d : Dst) (w : AObj) (o : Oper)
  | ca (d : Dst) (f : FuncId) (xs : List Opd) (o : Oper)
  | ex (d : Dst) (x : Opd) (i : Nat) (o : Oper)
  | gen (o : Oper)
  | grd (s : Opd) (want : Bool) (d : Dst) (c : Cl)

def faOff (P : Program) (s : TypeId) (f : Nat) : Option Nat :=
  match P.underlying s with
  | some (.struct fs) => match fs.toList[f]? with
    | some fd => match P.info? fd.type with
      | some i => bif Nat.beq i.size 0 then none else some fd.offset
      | none => none
    | none => none
  | _ => none

def iaOf (P : Program) (t : TypeId) : Option (Option Nat × Nat) :=
  match P.underlying t with
  | some (.slice e) => match P.info? e with | some ie => some (none, ie.size) | none => none
  | some (.array l e) => match P.info? e with | some ie => some (some l, ie.size) | none => none
  | _ => none

def isSliceT (P : Program) (t : TypeId) : Bool :=
  match P.underlying t with | some (.slice _) => true | _ => false

def eqT (P : Program) (t : TypeId) : EqT :=
  match P.underlying t with | some (.pointer _) => .ptr | some (.slice _) => .sl | _ => .no

def cvOf (P : Program) (s t : TypeId) : Option IntKind :=
  match P.underlying s, P.underlying t with
  | some _, some (.int k) => some k
  | _, _ => none

def opds (P : Program) : List Operand → List Opd
  | [] => []
  | x :: l => opd P x :: opds P l

def cl (P : Program) (o : Oper) : Cl :=
  match o.op with
  | .move x => .mv (dstOf o.dst) (opd P x)
  | .assign x => .mv (dstOf o.dst) (opd P x)
  | .binOp op t x y _ => match op with
    | .eql => match eqT P t with | .no => .bin (dstOf o.dst) (binOf .eql) (opd P x) (opd P y) o | e => .eq (dstOf o.dst) false e (opd P x) (opd P y) o
    | .neq => match eqT P t with | .no => .bin (dstOf o.dst) (binOf .neq) (opd P x) (opd P y) o | e => .eq (dstOf o.dst) true e (opd P x) (opd P y) o
    | op => .bin (dstOf o.dst) (binOf op) (opd P x) (opd P y) o
  | .load t a => match tyAgg P t with | some (g, n) => .ld (dstOf o.dst) (opd P a) g n o | none => .gen o
  | .store t a x => match P.info? t with | some ti => .st (opd P a) (opd P x) ti.size (dstOf o.dst) o | none => .gen o
  | .box t x => .bx (dstOf o.dst) t (opd P x) o
  | .alloc t => match zeroA P t with | some (_, z) => .al (dstOf o.dst) (mk t z) o | none => .gen o
  | .fieldAddr s x f => match faOff P s f with | some off => .fa (dstOf o.dst) (opd P x) off o | none => .gen o
  | .indexAddr t x i => match iaOf P t with | some (l, sz) => .ia (dstOf o.dst) (opd P x) (opd P i) l sz o | none => .gen o
  | .pick c a b => .pk (dstOf o.dst) (opd P c) (opd P a) (opd P b) o
  | .nilCheck x => .nc (dstOf o.dst) (opd P x) o
  | .extract x i => .ex (dstOf o.dst) (opd P x) i o
  | .unOp op _ x => match op with | .not => .nt (dstOf o.dst) (opd P x) o | _ => .gen o
  | .convert s t x => match cvOf P s t with | some k => .cv (dstOf o.dst) k (opd P x) o | none => .gen o
  | .call c => match c.callee with
    | .builtin .len => match c.args.toList, c.argTypes.toList with
      | [x], t :: _ => match isSliceT P t with | true => .ln (dstOf o.dst) (opd P x) o | false => .gen o
      | _, _ => .gen o
    | .value (.func f) => .ca (dstOf o.dst) f (opds P c.args.toList) o
    | _ => .gen o
  | _ => .gen o

def gd (P : Program) (ops : Array Oper) (o : Oper) : Cl :=
  match o.guard with
  | none => cl P o
  | some (j, want) => match ops[j]? with
    | some oj => match oj.dst with
      | some d => .grd (opdT d) want (dstOf o.dst) (cl P o)
      | none => .gen o
    | none => .gen o

def gds (P : Program) (ops : Array Oper) : List Oper → List Cl
  | [] => []
  | o :: l => gd P ops o :: gds P ops l

def restrF (f : Fm) : List Tmp → Tr V
  | [] => .nil
  | t :: l => match f.val t with
    | some v => (restrF f l).put (some v) t
    | none => restrF f l

def gen1v (F : Fns) (P : Program) (ops : Array Oper) (o : Oper) (tm : Tr V) (H : Tr AObj) (nx : Nat) : Option (V × Tr AObj × Nat) :=
  match evGuard ops o tm with
  | some true => match isCall o.op with | true => evB F P o tm H nx | false => evS P o tm H nx
  | some false => some (V.undef, H, nx)
  | none => none

def backK (d : Dst) (fr : Fm) (k : KK) : Option (V × Tr AObj × Nat) → RR
  | some (v, H', nx') => forceH H' fun H' => forceN nx' fun nx' => FV.orK (FV.ofV v) (fun x => d.putK x fr fun fr' => k fr' H' nx') .no
  | none => .no

def slowK (Q : QF) (P : Program) (ops : Array Oper) (fr : Fm) (H : Tr AObj) (nx : Nat) (k : KK) (o : Oper) : RR :=
  backK (dstOf o.dst) fr k (gen1v Q.f P ops o (restrF fr (o.looksAt ops)) H nx)

def cell1 (t : Tr At) (a m : Nat) : FV := Bool.rec .no (FV.ofA (t.get a)) (Nat.ble (Nat.succ a) m)

def cellsO (x : Option (List At)) : FV := Option.rec (motive := fun _ => FV) .no (fun l => .v (.c true l)) x

def cellsN (t : Tr At) (a n m : Nat) : FV := Bool.rec .no (cellsO (rd t a n)) (Nat.ble (Nat.add a n) m)

def cellG (g : Bool) : Tr At → Nat → Nat → Nat → FV := Bool.rec (motive := fun _ => Tr At → Nat → Nat → Nat → FV) (fun t a _ m => cell1 t a m) cellsN g

def objG (x : AObj) : Bool → Nat → Nat → FV :=
  AObj.rec (motive := fun _ => Bool → Nat → Nat → FV) (fun _ m t g n a => cellG g t a n m) (fun _ m _ t g n a => cellG g t a n m) (fun _ m t g n a => cellG g t a n m) (fun _ _ _ _ _ => .no) (fun _ _ _ _ _ _ _ _ _ _ _ => .no) (fun _ _ _ => .no) (fun _ _ _ _ => .no) x

def loadF (g : Bool) (n : Nat) (H : Tr AObj) (b a : Nat) : FV := Option.rec (motive := fun _ => Bool → Nat → Nat → FV) (fun _ _ _ => .no) objG (H.get b) g n a

def FV.ptrK (v : FV) : (Nat → Nat → RR) → RR → RR :=
  FV.rec (motive := fun _ => (Nat → Nat → RR) → RR → RR) (fun _ s => s) (fun _ _ s => s) (fun _ _ s => s) (fun _ _ s => s) (fun b o k _ => k b o) (fun _ _ s => s) (fun _ _ s => s) v

def elemP (b o i l sz : Nat) : FV := Bool.rec .no (.p b (Nat.add o (Nat.mul i sz))) (Nat.ble (Nat.succ i) l)

def iaAt (x : At) : Nat → Nat → FV :=
  At.rec (motive := fun _ => Nat → Nat → FV) (fun _ _ _ => .no) (fun _ _ _ _ => .no) (fun _ _ _ => .no) (fun _ _ _ _ => .no) (fun _ _ => .no) (fun b o l _ i sz => elemP b o i l sz) (fun b o l _ i sz => elemP b o i l sz) (fun _ _ => .no) (fun _ _ _ => .no) (fun _ _ => .no) (fun _ _ _ _ _ => .no) (fun _ _ _ => .no) (fun _ _ => .no) (fun _ _ => .no) (fun _ _ _ => .no) (fun _ _ _ => .no) x

def iaS (x : FV) : Nat → Nat → FV :=
  FV.rec (motive := fun _ => Nat → Nat → FV) (fun _ _ => .no) (fun _ _ _ => .no) (fun _ _ _ => .no) (fun _ _ _ => .no) (fun _ _ _ _ => .no) iaAt (fun _ _ _ => .no) x

def iaA (n : Nat) (x : FV) : Nat → Nat → FV :=
  FV.rec (motive := fun _ => Nat → Nat → FV) (fun _ _ => .no) (fun _ _ _ => .no) (fun _ _ _ => .no) (fun _ _ _ => .no) (fun b o i sz => elemP b o i n sz) (fun _ _ _ => .no) (fun _ _ _ => .no) x

def iaL (l : Option Nat) : FV → Nat → Nat → FV := Option.rec (motive := fun _ => FV → Nat → Nat → FV) iaS iaA l

def iaF (y : FV) : Option Nat → Nat → FV → FV :=
  FV.rec (motive := fun _ => Option Nat → Nat → FV → FV) (fun _ _ _ => .no) (fun i l sz x => iaL l x i sz) (fun _ _ _ _ => .no) (fun _ _ _ _ => .no) (fun _ _ _ _ _ => .no) (fun _ _ _ _ => .no) (fun _ _ _ _ => .no) y

def pkF (c : FV) : FV → FV → FV :=
  FV.rec (motive := fun _ => FV → FV → FV) (fun _ _ => .no) (fun _ _ _ => .no) (fun _ _ _ => .no) (fun t a b => Bool.rec b a t) (fun _ _ _ _ => .no) (fun _ _ _ => .no) (fun _ _ _ => .no) c

def ntF (x : FV) : FV :=
  FV.rec (motive := fun _ => FV) .no (fun _ => .no) (fun _ => .no) (fun t => Bool.rec (.b true) (.b false) t) (fun _ _ => .no) (fun _ => .no) (fun _ => .no) x

def lenQ (x : At) : FV :=
  At.rec (motive := fun _ => FV) (fun _ => .no) (fun _ _ => .no) (fun _ => .no) (fun _ _ => .no) .no (fun _ _ n _ => .i n) (fun _ _ n _ => .i n) (.i 0) (fun _ => .no) .no (fun _ _ _ => .no) (fun _ => .no) .no .no (fun _ => .no) (fun _ => .i 0) x

def lenF (x : FV) : FV :=
  FV.rec (motive := fun _ => FV) .no (fun _ => .no) (fun _ => .no) (fun _ => .no) (fun _ _ => .no) lenQ (fun _ => .no) x

def cvN (k : IntKind) : Nat → FV :=
  IntKind.rec (motive := fun _ => Nat → FV) (fun _ => .no) (fun _ => .no) (fun _ => .no) below63 (fun n => .a (.int .u8 (.ofNat (Nat.mod n 256)))) (fun _ => .no) (fun n => .a (.int .u32 (.ofNat (Nat.mod n 4294967296)))) (fun n => .u (Nat.mod n 18446744073709551616)) k

def cvI (n : Int) : IntKind → FV := Int.rec (motive := fun _ => IntKind → FV) (fun m k => cvN k m) (fun _ _ => .no) n

def cvA (x : At) : IntKind → FV :=
  At.rec (motive := fun _ => IntKind → FV) (fun _ _ => .no) (fun _ n k => cvI n k) (fun _ _ => .no) (fun _ _ _ => .no) (fun _ => .no) (fun _ _ _ _ _ => .no) (fun _ _ _ _ _ => .no) (fun _ => .no) (fun _ _ => .no) (fun _ => .no) (fun _ _ _ _ => .no) (fun _ _ => .no) (fun _ => .no) (fun _ => .no) (fun _ _ => .no) (fun _ _ => .no) x

def cvF (x : FV) : IntKind → FV :=
  FV.rec (motive := fun _ => IntKind → FV) (fun _ => .no) (fun n k => cvN k n) (fun n k => cvN k n) (fun _ _ => .no) (fun _ _ _ => .no) cvA (fun _ _ => .no) x

inductive Nl where
  | no
  | nilp
  | ptr
  | nils
  | sl

def nlA (x : At) : Nl :=
  At.rec (motive := fun _ => Nl) (fun _ => .no) (fun _ _ => .no) (fun _ => .no) (fun _ _ => .ptr) .nilp (fun _ _ _ _ => .sl) (fun _ _ _ _ => .sl) .nils (fun _ => .no) .no (fun _ _ _ => .no) (fun _ => .no) .no .no (fun _ => .no) (fun _ => .sl) x

def nlF (x : FV) : Nl :=
  FV.rec (motive := fun _ => Nl) .no (fun _ => .no) (fun _ => .no) (fun _ => .no) (fun _ _ => .ptr) nlA (fun _ => .no) x

def eqP (x y : Nl) : Option Bool := match x, y with
  | .ptr, .nilp => some false
  | .nilp, .ptr => some false
  | _, _ => none

def eqS (x y : Nl) : Option Bool := match x, y with
  | .sl, .nils => some false
  | .nils, .sl => some false
  | _, _ => none

def eqF (e : EqT) (neg : Bool) (x y : FV) : FV :=
  match (match e with | .ptr => eqP (nlF x) (nlF y) | .sl => eqS (nlF x) (nlF y) | .no => none) with
  | some r => .b (Bool.xor neg r)
  | none => .no

def FV.cells (x : FV) : Option (List At) :=
  FV.rec (motive := fun _ => Option (List At)) none (fun n => some [.int .i64 (.ofNat n)]) (fun n => some [.int .u64 (.ofNat n)]) (fun t => some [.bool t]) (fun b o => some [.ptr b o]) (fun y => some [y]) (fun y => V.rec (motive := fun _ => Option (List At)) (fun _ l => some l) (fun _ => none) y) x

def isTup (x : V) : Bool := V.rec (motive := fun _ => Bool) (fun _ _ => false) (fun _ => true) x

abbrev ClT := QF → Program → Fm → Tr AObj → Nat → KK → (Oper → RR) → RR

def mvQ (d : Dst) (x : Opd) (Q : QF) (P : Program) (fr : Fm) (H : Tr AObj) (nx : Nat) (k : KK) (S : Oper → RR) : RR :=
  Dst.rec (motive := fun _ => FV → Fm → (Fm → RR) → RR) noPt (fun g => g) morePt d (Opd.rec (motive := fun _ => Fm → FV) (fun g => g) moreG (fun v _ => v) x fr) fr fun fr' => k fr' H nx

def toQ (v : FV) (d : Dst) (fr : Fm) (H : Tr AObj) (nx : Nat) (k : KK) (s : RR) : RR := FV.orK v (fun v => Dst.rec (motive := fun _ => FV → Fm → (Fm → RR) → RR) noPt (fun g => g) morePt d v fr fun fr' => k fr' H nx) s

def binQ (d : Dst) (g : Bin) (x y : Opd) (o : Oper) (Q : QF) (P : Program) (fr : Fm) (H : Tr AObj) (nx : Nat) (k : KK) (S : Oper → RR) : RR :=
  toQ (binF (Opd.rec (motive := fun _ => Fm → FV) (fun g => g) moreG (fun v _ => v) x fr) (Opd.rec (motive := fun _ => Fm → FV) (fun g => g) moreG (fun v _ => v) y fr) g) d fr H nx k (S o)

def eqQ (d : Dst) (neg : Bool) (e : EqT) (x y : Opd) (o : Oper) (Q : QF) (P : Program) (fr : Fm) (H : Tr AObj) (nx : Nat) (k : KK) (S : Oper → RR) : RR :=
  toQ (eqF e neg (Opd.rec (motive := fun _ => Fm → FV) (fun g => g) moreG (fun v _ => v) x fr) (Opd.rec (motive := fun _ => Fm → FV) (fun g => g) moreG (fun v _ => v) y fr)) d fr H nx k (S o)

def ldQ (d : Dst) (x : Opd) (g : Bool) (n : Nat) (o : Oper) (Q : QF) (P : Program) (fr : Fm) (H : Tr AObj) (nx : Nat) (k : KK) (S : Oper → RR) : RR :=
  FV.ptrK (Opd.rec (motive := fun _ => Fm → FV) (fun g => g) moreG (fun v _ => v) x fr) (fun b a => toQ (loadF g n H b a) d fr H nx k .no) .no

def faQ (d : Dst) (x : Opd) (off : Nat) (o : Oper) (Q : QF) (P : Program) (fr : Fm) (H : Tr AObj) (nx : Nat) (k : KK) (S : Oper → RR) : RR :=
  FV.ptrK (Opd.rec (motive := fun _ => Fm → FV) (fun g => g) moreG (fun v _ => v) x fr) (fun b a => forceN (Nat.add a off) fun a => Dst.rec (motive := fun _ => FV → Fm → (Fm → RR) → RR) noPt (fun g => g) morePt d (.p b a) fr fun fr' => k fr' H nx) .no

def iaQ (d : Dst) (x y : Opd) (l : Option Nat) (sz : Nat) (o : Oper) (Q : QF) (P : Program) (fr : Fm) (H : Tr AObj) (nx : Nat) (k : KK) (S : Oper → RR) : RR :=
  toQ (iaF (Opd.rec (motive := fun _ => Fm → FV) (fun g => g) moreG (fun v _ => v) y fr) l sz (Opd.rec (motive := fun _ => Fm → FV) (fun g => g) moreG (fun v _ => v) x fr)) d fr H nx k (S o)

def pkQ (d : Dst) (c a b : Opd) (o : Oper) (Q : QF) (P : Program) (fr : Fm) (H : Tr AObj) (nx : Nat) (k : KK) (S : Oper → RR) : RR :=
  toQ (pkF (Opd.rec (motive := fun _ => Fm → FV) (fun g => g) moreG (fun v _ => v) c fr) (Opd.rec (motive := fun _ => Fm → FV) (fun g => g) moreG (fun v _ => v) a fr) (Opd.rec (motive := fun _ => Fm → FV) (fun g => g) moreG (fun v _ => v) b fr)) d fr H nx k .no

def ncQ (d : Dst) (x : Opd) (o : Oper) (Q : QF) (P : Program) (fr : Fm) (H : Tr AObj) (nx : Nat) (k : KK) (S : Oper → RR) : RR :=
  FV.ptrK (Opd.rec (motive := fun _ => Fm → FV) (fun g => g) moreG (fun v _ => v) x fr) (fun b a => Dst.rec (motive := fun _ => FV → Fm → (Fm → RR) → RR) noPt (fun g => g) morePt d (.p b a) fr fun fr' => k fr' H nx) (S o)

def lnQ (d : Dst) (x : Opd) (o : Oper) (Q : QF) (P : Program) (fr : Fm) (H : Tr AObj) (nx : Nat) (k : KK) (S : Oper → RR) : RR :=
  toQ (lenF (Opd.rec (motive := fun _ => Fm → FV) (fun g => g) moreG (fun v _ => v) x fr)) d fr H nx k (S o)

def ntQ (d : Dst) (x : Opd) (o : Oper) (Q : QF) (P : Program) (fr : Fm) (H : Tr AObj) (nx : Nat) (k : KK) (S : Oper → RR) : RR :=
  toQ (ntF (Opd.rec (motive := fun _ => Fm → FV) (fun g => g) moreG (fun v _ => v) x fr)) d fr H nx k (S o)

def cvQ (d : Dst) (kd : IntKind) (x : Opd) (o : Oper) (Q : QF) (P : Program) (fr : Fm) (H : Tr AObj) (nx : Nat) (k : KK) (S : Oper → RR) : RR :=
  toQ (cvF (Opd.rec (motive := fun _ => Fm → FV) (fun g => g) moreG (fun v _ => v) x fr) kd) d fr H nx k (S o)

def optK {α : Type} (x : Option α) (k : α → RR) (s : RR) : RR := Option.rec (motive := fun _ => RR) s k x

def storeF (n : Nat) (H : Tr AObj) (b a : Nat) (x : FV) : Option (Tr AObj) :=
  match x.cells with
  | some l => match H.get b with
    | some o => match Nat.beq l.length n, put o a l with
      | true, some o' => some (H.put (some o') b)
      | _, _ => none
    | none => none
  | none => none

def stQ (a x : Opd) (n : Nat) (d : Dst) (o : Oper) (Q : QF) (P : Program) (fr : Fm) (H : Tr AObj) (nx : Nat) (k : KK) (S : Oper → RR) : RR :=
  FV.ptrK (Opd.rec (motive := fun _ => Fm → FV) (fun g => g) moreG (fun v _ => v) a fr) (fun b i => optK (storeF n H b i (Opd.rec (motive := fun _ => Fm → FV) (fun g => g) moreG (fun v _ => v) x fr)) (fun H' => forceH H' fun H' => Dst.rec (motive := fun _ => FV → Fm → (Fm → RR) → RR) noPt (fun g => g) morePt d (.v V.undef) fr fun fr' => k fr' H' nx) .no) .no

def newQ (w : AObj) (d : Dst) (fr : Fm) (H : Tr AObj) (nx : Nat) (k : KK) : RR :=
  forceH (H.put (some w) nx) fun H' => Dst.rec (motive := fun _ => FV → Fm → (Fm → RR) → RR) noPt (fun g => g) morePt d (.p nx 0) fr fun fr' => k fr' H' (Nat.succ nx)

def bxQ (d : Dst) (t : TypeId) (x : Opd) (o : Oper) (Q : QF) (P : Program) (fr : Fm) (H : Tr AObj) (nx : Nat) (k : KK) (S : Oper → RR) : RR :=
  optK (Opd.rec (motive := fun _ => Fm → FV) (fun g => g) moreG (fun v _ => v) x fr).cells (fun l => newQ (mk t l) d fr H nx k) .no

def alQ (d : Dst) (w : AObj) (o : Oper) (Q : QF) (P : Program) (fr : Fm) (H : Tr AObj) (nx : Nat) (k : KK) (S : Oper → RR) : RR :=
  newQ w d fr H nx k

def getsK (xs : List Opd) : Fm → (List FV → RR) → RR :=
  List.rec (motive := fun _ => Fm → (List FV → RR) → RR) (fun _ k => k []) (fun x _ ih fr k => FV.orK (Opd.rec (motive := fun _ => Fm → FV) (fun g => g) moreG (fun v _ => v) x fr) (fun v => ih fr fun vs => k (v :: vs)) .no) xs

def crK (r : CR) : Dst → Fm → KK → RR :=
  CR.rec (motive := fun _ => Dst → Fm → KK → RR) (fun _ _ _ => .no) (fun v H nx d fr k => forceH H fun H => forceN nx fun nx => FV.orK v (fun v => Dst.rec (motive := fun _ => FV → Fm → (Fm → RR) → RR) noPt (fun g => g) morePt d v fr fun fr' => k fr' H nx) .no) r

def caQ (d : Dst) (f : FuncId) (xs : List Opd) (o : Oper) (Q : QF) (P : Program) (fr : Fm) (H : Tr AObj) (nx : Nat) (k : KK) (S : Oper → RR) : RR :=
  getsK xs fr fun vs => crK (Q.c f vs H nx) d fr k

def exT (v : V) (i : Nat) : FV := FV.ofO (evExtract v i)

def exF (x : FV) : Nat → FV :=
  FV.rec (motive := fun _ => Nat → FV) (fun _ => .no) (fun _ _ => .no) (fun _ _ => .no) (fun _ _ => .no) (fun _ _ _ => .no) (fun _ _ => .no) exT x

def exQ (d : Dst) (x : Opd) (i : Nat) (o : Oper) (Q : QF) (P : Program) (fr : Fm) (H : Tr AObj) (nx : Nat) (k : KK) (S : Oper → RR) : RR :=
  toQ (exF (Opd.rec (motive := fun _ => Fm → FV) (fun g => g) moreG (fun v _ => v) x fr) i) d fr H nx k .no

def genQ (o : Oper) (Q : QF) (P : Program) (fr : Fm) (H : Tr AObj) (nx : Nat) (k : KK) (S : Oper → RR) : RR := S o

def skipQ (d : Dst) (fr : Fm) (H : Tr AObj) (nx : Nat) (k : KK) : RR := Dst.rec (motive := fun _ => FV → Fm → (Fm → RR) → RR) noPt (fun g => g) morePt d (.v V.undef) fr fun fr' => k fr' H nx

def gdK (v : FV) : Bool → RR → RR → RR :=
  FV.rec (motive := fun _ => Bool → RR → RR → RR) (fun _ _ _ => .no) (fun _ _ _ _ => .no) (fun _ _ _ _ => .no) (fun x w a s => Bool.rec (Bool.rec a s w) (Bool.rec s a w) x) (fun _ _ _ _ _ => .no) (fun _ _ _ _ => .no) (fun x _ _ s => Bool.rec .no s (isTup x)) v

def grdQ (s : Opd) (want : Bool) (d : Dst) (c : Cl) (ih : ClT) (Q : QF) (P : Program) (fr : Fm) (H : Tr AObj) (nx : Nat) (k : KK) (S : Oper → RR) : RR :=
  gdK (Opd.rec (motive := fun _ => Fm → FV) (fun g => g) moreG (fun v _ => v) s fr) want (ih Q P fr H nx k S) (skipQ d fr H nx k)

def run1 (c : Cl) : ClT := Cl.rec (motive := fun _ => ClT) mvQ binQ eqQ ldQ faQ iaQ pkQ ncQ lnQ ntQ cvQ stQ bxQ alQ caQ exQ genQ grdQ c

abbrev QT := QF → Program → Array Oper → Fm → Tr AObj → Nat → RR

def qNil (Q : QF) (P : Program) (ops : Array Oper) (fr : Fm) (H : Tr AObj) (nx : Nat) : RR := .ok fr H nx

def qCons (g : Cl) (l : List Cl) (ih : QT) (Q : QF) (P : Program) (ops : Array Oper) (fr : Fm) (H : Tr AObj) (nx : Nat) : RR :=
  run1 g Q P fr H nx (ih Q P ops) (slowK Q P ops fr H nx (ih Q P ops))

def qOps (l : List Cl) : QT := List.rec (motive := fun _ => QT) qNil qCons l

end
end Go.Proofs.YtphpkalbbmlgoaaGreatDoor.Ev

namespace Go.Proofs.YtphpkalbbmlgoaaGreatDoor.Ev
open Go
noncomputable section
set_option linter.unusedVariables false

abbrev See := Nat × List Nat

abbrev KD := List Sp → List See → KK

def bitQ (a j : Nat) : Bool := Bool.rec true false (Nat.beq (Nat.land 1 (Nat.shiftRight a j)) 0)

def seeOk (s : Sp) (see : List Nat) : Bool := match s.big with
  | false => disj s.mods see
  | true => keptAt s see

def chkS (a : Nat) (see : List Nat) : List Sp → Bool
  | [] => true
  | m :: l => match bitQ a m.idx || seeOk m see with | true => chkS a see l | false => false

def chkM (a : Nat) (s : Sp) : List Sp → Bool
  | [] => true
  | m :: l => match bitQ a m.idx || pairB m s with | true => chkM a s l | false => false

def chkL (a : Nat) (s : Sp) : List See → Bool
  | [] => true
  | e :: l => match bitQ a e.1 || seeOk s e.2 with | true => chkL a s l | false => false

def chkSQ (a : Nat) (see : List Nat) (l : List Sp) : Bool := List.rec (motive := fun _ => Bool) true (fun m l _ => chkS a see (m :: l)) l

def quietS (s : Sp) : Bool := match s.mods, s.big with
  | [], false => true
  | _, _ => false

def contD (d : Dst) (fr : Fm) (v : V) (s : Sp) (k : KK) : RR :=
  forceH s.H' fun H' => forceN s.nx' fun nx' => FV.orK (FV.ofV v) (fun x => d.putK x fr fun fr' => k fr' H' nx') .no

def backD (a i : Nat) (ms : List Sp) (ls : List See) (d : Dst) (fr : Fm) (k : KD) : Option (V × Sp) → RR
  | some (v, s) => match quietS s with
    | true => match chkS a s.see ms with
      | true => contD d fr v s (k ms ((i, s.see) :: ls))
      | false => .no
    | false => match chkM a s ms && chkL a s ls with
      | true => contD d fr v s (k (s :: ms) ls)
      | false => .no
  | none => .no

def slowD (Q : QF) (P : Program) (ops : Array Oper) (A : List Nat) (a i : Nat) (ms : List Sp) (ls : List See) (fr : Fm) (H : Tr AObj) (nx : Nat) (k : KD) (o : Oper) : RR :=
  backD a i ms ls (dstOf o.dst) fr k (evD1 Q.f P A i ms o (restrF fr (o.looksAt ops)) H nx)

abbrev ClD := QF → Program → Array Oper → List Nat → Nat → Nat → List Sp → List See → Fm → Tr AObj → Nat → KD → RR

def qK (f : ClT) (Q : QF) (P : Program) (ops : Array Oper) (A : List Nat) (a i : Nat) (ms : List Sp) (ls : List See) (fr : Fm) (H : Tr AObj) (nx : Nat) (k : KD) : RR :=
  f Q P fr H nx (k ms ls) (slowD Q P ops A a i ms ls fr H nx k)

def ldD (d : Dst) (x : Opd) (g : Bool) (n : Nat) (o : Oper) (Q : QF) (P : Program) (ops : Array Oper) (A : List Nat) (a i : Nat) (ms : List Sp) (ls : List See) (fr : Fm) (H : Tr AObj) (nx : Nat) (k : KD) : RR :=
  FV.ptrK (x.get fr) (fun b f => Bool.rec .no (toQ (loadF g n H b f) d fr H nx (k ms ((i, [b]) :: ls)) .no) (chkSQ a [b] ms)) .no

def slowO (o : Oper) (Q : QF) (P : Program) (ops : Array Oper) (A : List Nat) (a i : Nat) (ms : List Sp) (ls : List See) (fr : Fm) (H : Tr AObj) (nx : Nat) (k : KD) : RR := slowD Q P ops A a i ms ls fr H nx k o

def mvS (d : Dst) (x : Opd) (Q : QF) (P : Program) (fr : Fm) (H : Tr AObj) (nx : Nat) (k : KK) (S : Oper → RR) : RR := toQ (x.get fr) d fr H nx k .no

def mvD (d : Dst) (x : Opd) : ClD := qK (mvS d x)

def binD (d : Dst) (g : Bin) (x y : Opd) (o : Oper) : ClD := qK (binQ d g x y o)

def eqD (d : Dst) (neg : Bool) (e : EqT) (x y : Opd) (o : Oper) : ClD := slowO o

def faD (d : Dst) (x : Opd) (off : Nat) (o : Oper) : ClD := qK (faQ d x off o)

def iaD (d : Dst) (x y : Opd) (l : Option Nat) (sz : Nat) (o : Oper) : ClD := qK (iaQ d x y l sz o)

def pkD (d : Dst) (c a b : Opd) (o : Oper) : ClD := qK (pkQ d c a b o)

def ncD (d : Dst) (x : Opd) (o : Oper) : ClD := qK (ncQ d x o)

def lnD (d : Dst) (x : Opd) (o : Oper) : ClD := slowO o

def ntD (d : Dst) (x : Opd) (o : Oper) : ClD := slowO o

def cvD (d : Dst) (kd : IntKind) (x : Opd) (o : Oper) : ClD := slowO o

def stD (a x : Opd) (n : Nat) (d : Dst) (o : Oper) : ClD := slowO o

def bxD (d : Dst) (t : TypeId) (x : Opd) (o : Oper) : ClD := slowO o

def alD (d : Dst) (w : AObj) (o : Oper) : ClD := slowO o

def caD (d : Dst) (f : FuncId) (xs : List Opd) (o : Oper) : ClD := slowO o

def exD (d : Dst) (x : Opd) (i : Nat) (o : Oper) : ClD := qK (exQ d x i o)

def grdD (s : Opd) (want : Bool) (d : Dst) (c : Cl) (ih : ClD) (Q : QF) (P : Program) (ops : Array Oper) (A : List Nat) (a i : Nat) (ms : List Sp) (ls : List See) (fr : Fm) (H : Tr AObj) (nx : Nat) (k : KD) : RR :=
  gdK (s.get fr) want (ih Q P ops A a i ms ls fr H nx k) (skipQ d fr H nx (k ms ls))

def runD (c : Cl) : ClD := Cl.rec (motive := fun _ => ClD) mvD binD eqD ldD faD iaD pkD ncD lnD ntD cvD stD bxD alD caD exD slowO grdD c

inductive DCl where
  | mk (c : Cl) (a : Nat)

def gdD (P : Program) (ops : Array Oper) (o : Oper) : Cl :=
  match o.guard with
  | none => cl P o
  | some (j, want) => match ops[j]? with
    | some oj => match oj.dst with
      | some d => .grd (opdT d) want (dstOf o.dst) (cl P o)
      | none => .mv .no (.k .no)
    | none => .mv .no (.k .no)

def gdsD (P : Program) (ops : Array Oper) (A : List Nat) : Nat → List Oper → List DCl
  | _, [] => []
  | i, o :: l => .mk (gdD P ops o) (A.getD i 0) :: gdsD P ops A (i + 1) l

abbrev DT := QF → Program → Array Oper → List Nat → Nat → List Sp → List See → Fm → Tr AObj → Nat → RR

def dNil (Q : QF) (P : Program) (ops : Array Oper) (A : List Nat) (i : Nat) (ms : List Sp) (ls : List See) (fr : Fm) (H : Tr AObj) (nx : Nat) : RR := .ok fr H nx

def dCons (g : DCl) (l : List DCl) (ih : DT) (Q : QF) (P : Program) (ops : Array Oper) (A : List Nat) (i : Nat) (ms : List Sp) (ls : List See) (fr : Fm) (H : Tr AObj) (nx : Nat) : RR :=
  DCl.rec (motive := fun _ => RR) (fun c a => runD c Q P ops A a i ms ls fr H nx (ih Q P ops A (Nat.succ i))) g

def qDs (l : List DCl) : DT := List.rec (motive := fun _ => DT) dNil dCons l

def drawOk (ops : Array Oper) : Bool := edgesOk 0 ops.toList && tmpsOk ops (ancs ops.toList []) 0 ops.toList

def qDraw (Q : QF) (P : Program) (ops : Array Oper) (fr : Fm) (H : Tr AObj) (nx : Nat) : RR :=
  Bool.rec (motive := fun _ => RR) .no (qDs (gdsD P ops (ancs ops.toList []) 0 ops.toList) Q P ops (ancs ops.toList []) 0 [] [] fr H nx) (drawOk ops)

end
end Go.Proofs.YtphpkalbbmlgoaaGreatDoor.Ev

namespace Go.Proofs.YtphpkalbbmlgoaaGreatDoor.Ev
open Go
noncomputable section
set_option linter.unusedVariables false

inductive QR where
  | no
  | ok (ex : Ex) (fr : Fm) (H : Tr AObj) (nx : Nat) (ds : List Nat)

abbrev CT := QF → Program → Nat → Fm → Tr AObj → Nat → List Nat → QR

abbrev CK := Fm → Tr AObj → Nat → List Nat → QR

def Fm.trN (f : Fm) : Nat → Tr V
  | 0 => f.more
  | n + 1 => (Fm.trN f n).put (f.val n) n

def Fm.tr (f : Fm) : Tr V := Fm.trN f 64

def fvs (t : Tr V) (n : Nat) : FV := FV.ofO (t.get n)

def row8 (t : Tr V) (n : Nat) : R8 := .mk (fvs t n) (fvs t (n + 1)) (fvs t (n + 2)) (fvs t (n + 3)) (fvs t (n + 4)) (fvs t (n + 5)) (fvs t (n + 6)) (fvs t (n + 7))

def Fm.ofTr (t : Tr V) : Fm := .mk (row8 t 0) (row8 t 8) (row8 t 16) (row8 t 24) (row8 t 32) (row8 t 40) (row8 t 48) (row8 t 56) t

def regK (r : RR) : List Nat → QR := RR.rec (motive := fun _ => List Nat → QR) (fun _ => .no) (fun fr H nx ds => .ok .normal fr H nx ds) r

def thenEx (ex : Ex) : Fm → Tr AObj → Nat → List Nat → CK → QR :=
  Ex.rec (motive := fun _ => Fm → Tr AObj → Nat → List Nat → CK → QR) (fun fr H nx ds k => k fr H nx ds) (fun i fr H nx ds _ => .ok (.exit i) fr H nx ds) (fun l fr H nx ds _ => .ok (.goto l) fr H nx ds) (fun fr H nx ds _ => .ok .ret fr H nx ds) ex

def thenK (r : QR) : CK → QR := QR.rec (motive := fun _ => CK → QR) (fun _ => .no) thenEx r

def blockEx (ex : Ex) : Fm → Tr AObj → Nat → List Nat → Nat → QR :=
  Ex.rec (motive := fun _ => Fm → Tr AObj → Nat → List Nat → Nat → QR) (fun fr H nx ds _ => .ok .normal fr H nx ds) (fun i fr H nx ds id => Bool.rec (.ok (.exit i) fr H nx ds) (.ok .normal fr H nx ds) (Nat.beq i id)) (fun l fr H nx ds _ => .ok (.goto l) fr H nx ds) (fun fr H nx ds _ => .ok .ret fr H nx ds) ex

def blockK (r : QR) : Nat → QR := QR.rec (motive := fun _ => Nat → QR) (fun _ => .no) blockEx r

def ofRes : Res → QR
  | some (ex, tm, H, nx, ds) => .ok ex (Fm.ofTr tm) H nx ds
  | none => .no

def slowC (c : Code) (Q : QF) (P : Program) (nt : Nat) (fr : Fm) (H : Tr AObj) (nx : Nat) (ds : List Nat) : QR :=
  ofRes (Q.f.code c nt none fr.tr H nx ds)

def skipC (Q : QF) (P : Program) (nt : Nat) (fr : Fm) (H : Tr AObj) (nx : Nat) (ds : List Nat) : QR := .ok .normal fr H nx ds

def regT (ops : Array Oper) (Q : QF) (P : Program) (nt : Nat) (fr : Fm) (H : Tr AObj) (nx : Nat) (ds : List Nat) : QR := regK (qOps (gds P ops ops.toList) Q P ops fr H nx) ds

def regD (ops : Array Oper) (Q : QF) (P : Program) (nt : Nat) (fr : Fm) (H : Tr AObj) (nx : Nat) (ds : List Nat) : QR := regK (qDraw Q P ops fr H nx) ds

def regC (id : Nat) (ops : Array Oper) (draw : Bool) : CT := Bool.rec (motive := fun _ => CT) (regT ops) (regD ops) draw

def seqC (a b : Code) (qa qb : CT) (Q : QF) (P : Program) (nt : Nat) (fr : Fm) (H : Tr AObj) (nx : Nat) (ds : List Nat) : QR := thenK (qa Q P nt fr H nx ds) (qb Q P nt)

def condK (v : FV) : CK → CK → CK :=
  FV.rec (motive := fun _ => CK → CK → CK) (fun _ _ _ _ _ _ => .no) (fun _ _ _ _ _ _ _ => .no) (fun _ _ _ _ _ _ _ => .no) (fun x a b => Bool.rec b a x) (fun _ _ _ _ _ _ _ _ => .no) (fun _ _ _ _ _ _ _ => .no) (fun _ _ _ _ _ _ _ => .no) v

def condC (x : Operand) (a b : Code) (qa qb : CT) (Q : QF) (P : Program) (nt : Nat) (fr : Fm) (H : Tr AObj) (nx : Nat) (ds : List Nat) : QR := condK (Opd.rec (motive := fun _ => Fm → FV) (fun g => g) moreG (fun v _ => v) (opd P x) fr) (qa Q P nt) (qb Q P nt) fr H nx ds

def blockC (id : Nat) (b : Code) (qb : CT) (Q : QF) (P : Program) (nt : Nat) (fr : Fm) (H : Tr AObj) (nx : Nat) (ds : List Nat) : QR := blockK (qb Q P nt fr H nx ds) id

def againK (ih : CK) (fr : Fm) (H : Tr AObj) (nx : Nat) (ds : List Nat) : QR := ih fr H nx ds

def loopN (q : CK) (n : Nat) : CK := Nat.rec (motive := fun _ => CK) (fun _ _ _ _ => .no) (fun _ ih fr H nx ds => thenK (q fr H nx ds) (againK ih)) n

def loopC (b : Code) (qb : CT) (Q : QF) (P : Program) (nt : Nat) (fr : Fm) (H : Tr AObj) (nx : Nat) (ds : List Nat) : QR := loopN (qb Q P nt) 1000000 fr H nx ds

def rangeC (g : Operand) (ps : Array Tmp) (as bo : Code) (_ _ : CT) : CT := slowC (.rangeFunc g ps as bo)

def exitC (id : Nat) (Q : QF) (P : Program) (nt : Nat) (fr : Fm) (H : Tr AObj) (nx : Nat) (ds : List Nat) : QR := .ok (.exit id) fr H nx ds

def scopeC (b : Code) (_ : CT) : CT := slowC (.scope b)

def labelC (l : Nat) (Q : QF) (P : Program) (nt : Nat) (fr : Fm) (H : Tr AObj) (nx : Nat) (ds : List Nat) : QR := .ok .normal fr H nx ds

def gotoC (l : Nat) (Q : QF) (P : Program) (nt : Nat) (fr : Fm) (H : Tr AObj) (nx : Nat) (ds : List Nat) : QR := .ok (.goto l) fr H nx ds

def retC (Q : QF) (P : Program) (nt : Nat) (fr : Fm) (H : Tr AObj) (nx : Nat) (ds : List Nat) : QR := .ok .ret fr H nx ds

def refuseC (s : String) (Q : QF) (P : Program) (nt : Nat) (fr : Fm) (H : Tr AObj) (nx : Nat) (ds : List Nat) : QR := .no

def qc (c : Code) : CT := Code.rec (motive := fun _ => CT) skipC regC seqC condC blockC loopC rangeC exitC scopeC labelC gotoC retC refuseC c

def dstLt (n : Nat) : Option Tmp → Bool
  | none => true
  | some d => Nat.blt d n

def dstsLt (n : Nat) : List Oper → Bool
  | [] => true
  | o :: l => match dstLt n o.dst with | true => dstsLt n l | false => false

def codeLt (n : Nat) : Code → Bool
  | .region _ ops _ => dstsLt n ops.toList
  | .seq a b => codeLt n a && codeLt n b
  | .cond _ a b => codeLt n a && codeLt n b
  | .block _ b => codeLt n b
  | .loop b => codeLt n b
  | _ => true

def resQ (P : Program) (fr : Fm) (H : Tr AObj) : ResultVar → Option (Bool × List At)
  | .tmp t => match fr.val t with
    | some (.c g l) => some (g, l)
    | _ => none
  | .cell a t => match fr.val a with
    | some (.c false [p]) => match evLoad P H t p with | some (.c g l) => some (g, l) | _ => none
    | _ => none

def resQs (P : Program) (fr : Fm) (H : Tr AObj) : List ResultVar → Option (List (Bool × List At))
  | [] => some []
  | r :: l => match resQ P fr H r with
    | some c => match resQs P fr H l with | some cs => some (c :: cs) | none => none
    | none => none

inductive Rs where
  | one (x : Opd)
  | all (l : List ResultVar)

def rsOf : List ResultVar → Rs
  | [.tmp t] => .one (opdT t)
  | l => .all l

def noTup (v : FV) : Tr AObj → Nat → CR :=
  FV.rec (motive := fun _ => Tr AObj → Nat → CR) (fun _ _ => .no) (fun n H nx => .ok (.i n) H nx) (fun n H nx => .ok (.u n) H nx) (fun x H nx => .ok (.b x) H nx) (fun b o H nx => .ok (.p b o) H nx) (fun x H nx => .ok (.a x) H nx) (fun x H nx => Bool.rec (.ok (.v x) H nx) .no (isTup x)) v

def leaveAll (P : Program) (l : List ResultVar) (fr : Fm) (H : Tr AObj) (nx : Nat) : CR :=
  match resQs P fr H l with
  | some cs => .ok (FV.ofV (resV cs)) H nx
  | none => .no

def leaveR (rs : Rs) : Program → Fm → Tr AObj → Nat → CR :=
  Rs.rec (motive := fun _ => Program → Fm → Tr AObj → Nat → CR) (fun x P fr H nx => noTup (Opd.rec (motive := fun _ => Fm → FV) (fun g => g) moreG (fun v _ => v) x fr) H nx) (fun l P fr H nx => leaveAll P l fr H nx) rs

def leaveH (x : Option (Tr AObj)) : Program → Rs → Fm → Nat → CR :=
  Option.rec (motive := fun _ => Program → Rs → Fm → Nat → CR) (fun _ _ _ _ => .no) (fun H P rs fr nx => leaveR rs P fr H nx) x

def leaveD (ds : List Nat) : Program → Rs → Fm → Tr AObj → Nat → CR :=
  List.rec (motive := fun _ => Program → Rs → Fm → Tr AObj → Nat → CR) (fun P rs fr H nx => leaveR rs P fr H nx) (fun d l _ P rs fr H nx => leaveH (dropDs (d :: l) H) P rs fr nx) ds

def endEx (ex : Ex) : Fm → Tr AObj → Nat → List Nat → Program → Rs → CR :=
  Ex.rec (motive := fun _ => Fm → Tr AObj → Nat → List Nat → Program → Rs → CR) (fun fr H nx ds P rs => leaveD ds P rs fr H nx) (fun _ _ _ _ _ _ _ => .no) (fun _ _ _ _ _ _ _ => .no) (fun fr H nx ds P rs => leaveD ds P rs fr H nx) ex

def endQ (r : QR) : Program → Rs → CR := QR.rec (motive := fun _ => Program → Rs → CR) (fun _ _ => .no) endEx r

def nthF (l : List FV) : Nat → FV := List.rec (motive := fun _ => Nat → FV) (fun _ => .no) (fun v _ ih n => Nat.rec v (fun m _ => ih m) n) l

def argRow (l : List FV) (n : Nat) : R8 := .mk (nthF l n) (nthF l (n + 1)) (nthF l (n + 2)) (nthF l (n + 3)) (nthF l (n + 4)) (nthF l (n + 5)) (nthF l (n + 6)) (nthF l (n + 7))

def frOf8 (l : List FV) : Fm := .mk (argRow l 0) R8.none R8.none R8.none R8.none R8.none R8.none R8.none .nil

def frOf64 (l : List FV) : Fm := .mk (argRow l 0) (argRow l 8) (argRow l 16) (argRow l 24) (argRow l 32) (argRow l 40) (argRow l 48) (argRow l 56) .nil

inductive Fi where
  | no
  | ok (c : Code) (n : Nat) (rs : Rs)

def fi (P : Program) (f : FuncId) : Fi :=
  match P.funcs[f]? with
  | some fn => match fn.body with
    | some c => match codeLt fn.ntmps c with | true => .ok c fn.ntmps (rsOf fn.results.toList) | false => .no
    | none => .no
  | none => .no

def runB (m n : Nat) (c : Code) (rs : Rs) (Q : QF) (P : Program) (args : List FV) (H : Tr AObj) (nx : Nat) : CR :=
  Bool.rec (motive := fun _ => CR) (Bool.rec (motive := fun _ => CR) .no (Bool.rec (motive := fun _ => CR) .no (endQ (qc c Q P n (frOf64 args) H nx []) P rs) (Nat.ble m 64)) (Nat.ble m n)) (Bool.rec (motive := fun _ => CR) .no (endQ (qc c Q P n (frOf8 args) H nx []) P rs) (Nat.ble m n)) (Nat.ble m 8)

def lenL (l : List FV) : Nat := List.rec (motive := fun _ => Nat) 0 (fun _ _ n => Nat.add n 1) l

def callF (i : Fi) : QF → Program → List FV → Tr AObj → Nat → CR :=
  Fi.rec (motive := fun _ => QF → Program → List FV → Tr AObj → Nat → CR) (fun _ _ _ _ _ => .no) (fun c n rs Q P args H nx => runB (lenL args) n c rs Q P args H nx) i

def qCall (Q : QF) (P : Program) (f : FuncId) (args : List FV) (H : Tr AObj) (nx : Nat) : CR := callF (fi P f) Q P args H nx

def ofCR : CR → Option (V × Tr AObj × Nat)
  | .ok v H nx => match v.toV with | some x => some (x, H, nx) | none => none
  | .no => none

def mapFV : List V → List FV
  | [] => []
  | v :: l => FV.ofV v :: mapFV l

abbrev Hook := FuncId → List FV → Tr AObj → Nat → CR

def hookK (r s : CR) : CR := CR.rec (motive := fun _ => CR) s (fun v H nx => .ok v H nx) r

def qCallH (hk : Hook) (Q : QF) (P : Program) (f : FuncId) (args : List FV) (H : Tr AObj) (nx : Nat) : CR := hookK (hk f args H nx) (qCall Q P f args H nx)

def qStep (P : Program) (hk : Hook) (Q : QF) : QF :=
  ⟨⟨fun c nt ro tm H nx ds => stepCodeF Q.f P c nt ro tm H nx ds, fun f args H nx => ofCR (qCallH hk Q P f (mapFV args) H nx), fun l args H nx => stepRound Q.f l args H nx, fun b r nt ro tm H nx ds => stepScope Q.f b r nt ro tm H nx ds⟩, fun f args H nx => qCallH hk Q P f args H nx⟩

def QF0 : QF := ⟨⟨fun _ _ _ _ _ _ _ => none, fun _ _ _ _ => none, fun _ _ _ _ => none, fun _ _ _ _ _ _ _ _ => none⟩, fun _ _ _ _ => .no⟩

def evQ (P : Program) (hk : Hook) (n : Nat) : QF := Nat.rec (motive := fun _ => QF) QF0 (fun _ ih => qStep P hk ih) n

def noHook : Hook := fun _ _ _ _ => .no

end
end Go.Proofs.YtphpkalbbmlgoaaGreatDoor.Ev
