/- Part of ReportRatio. -/
import Derived.Test.YtedpaajpfaoffaaGreatDoorMr1
import Derived.Test.YtedpaajpfaoffaaGreatDoorMh1
namespace Go.Proofs.YtedpaajpfaoffaaGreatDoor
open Go Ev
def tPhases : TabD := ⟨0, 76, [.s [114, 101, 118, 101, 114, 115, 101], .s [102, 111, 114, 119, 97, 114, 100], .s [97, 115, 115, 105, 103, 110], .s [115, 111, 108, 100], .s [102, 97, 105, 108, 101, 100]]⟩
def tKinds : TabD := ⟨1, 144, [.s [115, 116, 97, 121], .s [109, 111, 118, 101], .s [101, 120, 105, 116], .s [102, 114, 101, 101, 122, 101]]⟩
def tOptions : TabD := ⟨2, 144, [.s [111, 102, 102], .s [108, 111, 119], .s [104, 105, 103, 104], .s [117, 104, 102]]⟩
def tPow : TabD := ⟨5, 233, Lib.pow10Tab.map (Lt.i .u64)⟩
def tRes : List TabD := [tPhases, tKinds, tOptions, tPow]
theorem tPow_is {w : World} (h : TabG w tPow) : Lib.TabIs Tryz.prog w "internal/strconv.uint64pow10" .u64 Lib.pow10Tab := by
  unfold Lib.TabIs World.var?
  rw [g_pow]
  simp only [Option.bind_some]
  rw [show w.heap[5]? = some _ from h]
  rfl
theorem rn_of {w : World} (h : TabsG w tRes) : RN w := ⟨h tPhases (by simp [tRes]), h tKinds (by simp [tRes]), h tOptions (by simp [tRes]), tPow_is (h tPow (by simp [tRes]))⟩
theorem tRes_lt : ∀ x ∈ tRes, x.b < nG := by
  intro x hx
  simp only [tRes, List.mem_cons, List.not_mem_nil, or_false] at hx
  rcases hx with rfl | rfl | rfl | rfl
  · exact of_decide_eq_true (by kernel_rfl)
  · exact of_decide_eq_true (by kernel_rfl)
  · exact of_decide_eq_true (by kernel_rfl)
  · exact of_decide_eq_true (by kernel_rfl)
def nx52 : List UInt8 := [110, 101, 120, 116, 32, 102, 111, 114, 119, 97, 114, 100]
noncomputable section
def exB : List UInt8 → List UInt8 → Bool
  | [], [] => true
  | a :: l, b :: m => Nat.beq a.toNat b.toNat && exB l m
  | _, _ => false
def resArg (H : Tr AObj) : At → Option (List UInt8)
  | .sl b o n c => match Nat.ble n c && Nat.ble c 1000 with
    | true => match row H b o n with
      | some l => bytesOf l
      | none => none
    | false => none
  | _ => none
def resObj : AObj := .lcells 9 3 1 (wr .nil 0 [.str [114, 101, 118, 101, 114, 115, 101], .str ev52, .str nx52])
def resO (H : Tr AObj) (nx : Nat) : Option (List UInt8) → CR
  | some bs => Bool.rec (motive := fun _ => CR) .no (.ok (.v (.tup [(false, [.slx nx 0 3 0]), (false, [.int .i64 0])])) (H.put (some resObj) nx) (nx + 1)) (exB bs ex52 && okT H tRes)
  | none => .no
def resTry (args : List FV) (H : Tr AObj) (nx : Nat) : CR := match args with
  | [.a x] => resO H nx (resArg H x)
  | _ => .no
def resHook : Hook := fun f args H nx => Bool.rec (motive := fun _ => CR) .no (resTry args H nx) (Nat.beq f 15)
end
def t64 : TabD := ⟨10, 248, ([0, 1, 56, 2, 57, 49, 28, 3, 61, 58, 42, 50, 38, 29, 17, 4, 62, 47, 59, 36, 45, 43, 51, 22, 53, 39, 33, 30, 24, 18, 12, 5, 63, 55, 48, 27, 60, 41, 37, 16, 46, 35, 44, 21, 52, 32, 23, 11, 54, 26, 40, 15, 34, 20, 31, 10, 25, 14, 19, 9, 13, 8, 7, 6] : List Int).map (Lt.i .u8)⟩
def t32 : TabD := ⟨9, 247, ([0, 1, 28, 2, 29, 14, 24, 3, 30, 22, 20, 15, 25, 17, 4, 8, 31, 27, 13, 23, 21, 19, 16, 7, 26, 12, 18, 6, 11, 5, 10, 9] : List Int).map (Lt.i .u8)⟩
def tMaxD (m : Int) : TabD := ⟨6, 3, [.i .i64 m]⟩
def tK52 : List TabD := [tPhases, tKinds, tOptions, tPow, t64, t32]
noncomputable def hook52 : Hook := orHook resHook (orHook groupHook (orHook replHook joinHook))
noncomputable def obs52 (r : CR) : Option (Bool × Option AObj) := match r with
  | .ok (.b x) H _ => some (x && okT H tK52, H.get 6)
  | _ => none
end Go.Proofs.YtedpaajpfaoffaaGreatDoor
