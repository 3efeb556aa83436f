/- Part of ReportRatio. -/
import Derived.Test.YtedpaajpfaoffaaGreatDoorMg5
import Derived.Test.YtedpaajpfaoffaaGreatDoorTabS
namespace Go.Proofs.YtedpaajpfaoffaaGreatDoor
open Go Ev
noncomputable section
def strOf : At → Option (List UInt8)
  | .str l => some l
  | _ => none
def strsOf : List At → Option (List (List UInt8))
  | [] => some []
  | a :: l => match strOf a, strsOf l with
    | some b, some bs => some (b :: bs)
    | _, _ => none
def rowS (H : Tr AObj) (b o n : Nat) : Option (List (List UInt8)) := match row H b o n with
  | some l => strsOf l
  | none => none
def joinArg (H : Tr AObj) : At → Option (List (List UInt8))
  | .sl b o n c => match Nat.ble n c with
    | true => rowS H b o n
    | false => none
  | .slx b o n e => match known H b o e 1 with
    | some k => match Nat.ble n k with
      | true => rowS H b o n
      | false => none
    | none => none
  | _ => none
def joinB (xs : List (List UInt8)) (sep : List UInt8) : Bool := Nat.ble (Lib.join xs sep).length 100000 && Nat.ble xs.length 1000
def joinO (H : Tr AObj) (nx : Nat) (sep : List UInt8) : Option (List (List UInt8)) → CR
  | some xs => Bool.rec (motive := fun _ => CR) .no (.ok (.a (.str (Lib.join xs sep))) H nx) (joinB xs sep)
  | none => .no
def joinTry (args : List FV) (H : Tr AObj) (nx : Nat) : CR := match args with
  | [.a x, .a (.str sep)] => joinO H nx sep (joinArg H x)
  | _ => .no
def joinHook : Hook := fun f args H nx => Bool.rec (motive := fun _ => CR) .no (joinTry args H nx) (Nat.beq f 101)
def groupTry (args : List FV) (H : Tr AObj) (nx : Nat) : CR := match args with
  | [.a (.str l)] => Bool.rec (motive := fun _ => CR) .no (.ok (.a (.str (groupL l))) H nx) (Nat.ble l.length 1000)
  | _ => .no
def groupHook : Hook := fun f args H nx => Bool.rec (motive := fun _ => CR) .no (groupTry args H nx) (Nat.beq f 22)
def maxOk (H : Tr AObj) : Bool := match H.get 6 with
  | some (.cells _ 1 t) => match t.get 0 with
    | some (.int .i64 _) => true
    | _ => false
  | _ => false
def replTry (args : List FV) (H : Tr AObj) (nx : Nat) : CR := match args with
  | [.a (.str l), .a (.str [c]), .a (.str [])] => Bool.rec (motive := fun _ => CR) .no (.ok (.a (.str (noComma l))) H nx) (Nat.ble l.length 1000 && (Nat.beq c.toNat 44 && maxOk H))
  | _ => .no
def replHook : Hook := fun f args H nx => Bool.rec (motive := fun _ => CR) .no (replTry args H nx) (Nat.beq f 71)
end
theorem strsOf_conc (η : Env) : ∀ {l : List At} {xs : List (List UInt8)}, strsOf l = some xs → concs η l = some (xs.map fun x => Value.string ⟨x.toArray⟩)
  | [], xs, h => by cases h; rfl
  | a :: l, xs, h => by
    simp only [strsOf] at h
    split at h
    · rename_i b bs hb hl
      cases h
      have hab : a = .str b := by
        unfold strOf at hb
        split at hb
        · cases hb; rfl
        · cases hb
      subst hab
      simp [concs, At.conc, strsOf_conc η hl]
    · cases h
theorem joinArg_ok {H : Tr AObj} {x : At} {xs : List (List UInt8)} (hx : joinArg H x = some xs) {η : Env} {hp : Hp} {w : World} (ext : ∀ b o, H.get b = some o → hp b = some o) (rh : RH η hp w) {c : Value} (hc : x.conc η = some c) :
    ∃ bk o cap, c = .slice (some ⟨bk, o, none⟩) xs.length cap ∧ xs.length ≤ cap ∧ bk < w.heap.size ∧ ∀ (j : Nat) y, xs[j]? = some y → w.cell? ⟨bk, o + j, none⟩ = some (.string ⟨y.toArray⟩) := by
  have key : ∀ b o n cap B, η.blk b = some B → n ≤ cap → rowS H b o n = some xs → ∃ bk o' cap', (.slice (some (adr B o)) n cap : Value) = .slice (some ⟨bk, o', none⟩) xs.length cap' ∧ xs.length ≤ cap' ∧ bk < w.heap.size ∧ ∀ (j : Nat) y, xs[j]? = some y → w.cell? ⟨bk, o' + j, none⟩ = some (.string ⟨y.toArray⟩) := by
    intro b o n cap B hB hn hr
    unfold rowS at hr
    split at hr
    case h_2 => cases hr
    rename_i l hl
    obtain ⟨B', vs, C, E, hrow, hvs, hlen, hcell⟩ := row_ok ext rh hl
    obtain rfl : B = B' := Option.some.inj (hB.symm.trans hrow.blk)
    rw [strsOf_conc η hr] at hvs
    obtain rfl := Option.some.inj hvs
    have hxl : xs.length = n := by
      have := concs_length l _ (strsOf_conc η hr)
      rw [List.length_map] at this
      omega
    refine ⟨B.1, B.2 + o, cap, by rw [hxl]; rfl, by omega, ?_, fun j y hy => ?_⟩
    · obtain ⟨z, hz⟩ := hrow.heap
      exact (Array.getElem?_eq_some_iff.1 hz).1
    · have := hcell j (.string ⟨y.toArray⟩) (by rw [List.getElem?_map, hy]; rfl)
      rw [adr_add] at this
      rw [← this]
      simp [adr, Nat.add_assoc]
  unfold joinArg at hx
  split at hx
  · rename_i b o n cp
    split at hx
    · rename_i hle
      simp only [At.conc] at hc
      cases hB : η.blk b with
      | none => simp [hB] at hc
      | some B =>
        simp [hB] at hc
        subst hc
        exact key b o n cp B hB (Nat.le_of_ble_eq_true hle) hx
    · cases hx
  · rename_i b o n e
    split at hx
    · rename_i k hk
      split at hx
      · rename_i hle
        have hkc := (known_ok ext rh hk).1
        simp only [At.conc] at hc
        cases hB : η.blk b with
        | none => simp [hB] at hc
        | some B =>
          simp [hB] at hc
          subst hc
          exact key b o n _ B hB (by have := Nat.le_of_ble_eq_true hle; omega) hx
      · cases hx
    · cases hx
  · cases hx
theorem maxOk_ok {H : Tr AObj} (hb : maxOk H = true) {η : Env} {hp : Hp} {w : World} {nx nx' : Nat} (p : Pre η hp w H.get nx nx') (hg : η.glob Tryz.prog) : ∃ m, w.cell? ⟨6, 0, none⟩ = some (.int .i64 m) := by
  unfold maxOk at hb
  split at hb
  case h_2 => cases hb
  rename_i E t ho
  split at hb
  case h_2 => cases hb
  rename_i m ht
  obtain ⟨B, co, hB, hw, hrel⟩ := p.rh.live _ _ (p.ext _ _ ho)
  have hB0 := hg 6 (by decide +kernel)
  rw [hB0] at hB; cases hB
  obtain ⟨C, rfl, _, hsz, hcells⟩ := hrel
  obtain ⟨a, v, h1, h2, h3⟩ := hcells 0 (by omega)
  rw [ht] at h1
  cases h1
  simp only [At.conc] at h2
  cases h2
  refine ⟨m, ?_⟩
  rw [cell_of_row w _ 0 C E (0, 0) hw]
  simpa using h3
theorem stp_pure {P : Program} {f : FuncId} {x : V} {H : Tr AObj} {nx : Nat} {η : Env} {hp : Hp} {w : World} {cargs : List Value} {cv : Value} (p : Pre η hp w H.get nx nx) (hcv : x.conc η = some cv) (h : Calls P f ⟨cargs⟩ w (fun e w' => e = .returned cv ∧ Touch [] w w')) :
    Calls P f ⟨cargs⟩ w (CallPost η hp w H.get H.get nx nx x) := by
  refine h.mono ?_
  rintro e w' ⟨rfl, t⟩
  have keep : ∀ k, k < w.heap.size → w'.heap[k]? = w.heap[k]? := fun k hk => t.block k hk (by simp)
  refine ⟨cv, η, rfl, hcv, .refl η, fun _ _ => ⟨rfl, rfl, rfl⟩, ?_, fun k hk => ?_, t.os, t.tape, t.output, t.size, fun k hk _ => keep k hk⟩
  · rw [ovr_same p.ext]
    refine ⟨fun b o hb => ?_, p.rh.inj⟩
    obtain ⟨B, co, h1, h2, h3⟩ := p.rh.live b o hb
    exact ⟨B, co, h1, by rw [keep _ (Array.getElem?_eq_some_iff.1 h2).1]; exact h2, h3⟩
  · rw [ovr_same p.ext] at hk; exact .inl hk
theorem joinHook_ok : HookOk Tryz.prog joinHook := by
  intro f args H nx v H' nx' he xs hxs
  unfold joinHook at he
  cases hf : Nat.beq f 101 with
  | false => rw [hf] at he; cases he
  | true =>
    rw [hf] at he
    have hf := Nat.eq_of_beq_eq_true hf
    subst hf
    replace he : joinTry args H nx = .ok v H' nx' := he
    unfold joinTry at he
    split at he
    case h_2 => cases he
    rename_i x sep
    unfold joinO at he
    split at he
    case h_2 => cases he
    rename_i ys hys
    cases hb : joinB ys sep with
    | false => rw [hb] at he; cases he
    | true =>
      rw [hb] at he
      cases he
      cases hxs
      refine ⟨_, rfl, callOk_tabs (T := []) ⟨_, Tryz.func101, by kernel_rfl⟩ rfl (fun _ h => by cases h) (fun η hp w cargs ext rh hvl _ => ?_)⟩
      match cargs, hvl with
      | [c, d], hvl =>
        have hc : x.conc η = some c := Ev.one_conc.1 hvl.1
        have hd : d = .string ⟨sep.toArray⟩ := by
          have := Ev.one_conc.1 hvl.2.1
          simp only [At.conc] at this
          exact (Option.some.inj this).symm
        subst hd
        obtain ⟨bk, o, cap, rfl, hle, hlt, hcell⟩ := joinArg_ok hys ext rh hc
        unfold joinB at hb
        rw [Bool.and_eq_true] at hb
        exact ⟨_, rfl, join_any bk o cap ys sep w hcell hlt (Nat.le_of_ble_eq_true hb.2) hle (Nat.le_of_ble_eq_true hb.1)⟩
theorem groupHook_ok : HookOk Tryz.prog groupHook := by
  intro f args H nx v H' nx' he xs hxs
  unfold groupHook at he
  cases hf : Nat.beq f 22 with
  | false => rw [hf] at he; cases he
  | true =>
    rw [hf] at he
    have hf := Nat.eq_of_beq_eq_true hf
    subst hf
    replace he : groupTry args H nx = .ok v H' nx' := he
    unfold groupTry at he
    split at he
    case h_2 => cases he
    rename_i l
    cases hb : Nat.ble l.length 1000 with
    | false => rw [hb] at he; cases he
    | true =>
      rw [hb] at he
      cases he
      cases hxs
      refine ⟨_, rfl, callOk_tabs (T := []) ⟨_, Tryz.func22, by kernel_rfl⟩ rfl (fun _ h => by cases h) (fun η hp w cargs ext rh hvl _ => ?_)⟩
      match cargs, hvl with
      | [d], hvl =>
        have hd : d = .string ⟨l.toArray⟩ := by
          have := Ev.one_conc.1 hvl.1
          simp only [At.conc] at this
          exact (Option.some.inj this).symm
        subst hd
        exact ⟨_, rfl, rgroup_any l w (Nat.le_of_ble_eq_true hb)⟩
theorem replHook_ok : HookOk Tryz.prog replHook := by
  intro f args H nx v H' nx' he xs hxs
  unfold replHook at he
  cases hf : Nat.beq f 71 with
  | false => rw [hf] at he; cases he
  | true =>
    rw [hf] at he
    have hf := Nat.eq_of_beq_eq_true hf
    subst hf
    replace he : replTry args H nx = .ok v H' nx' := he
    unfold replTry at he
    split at he
    case h_2 => cases he
    rename_i l c
    cases hb : (Nat.ble l.length 1000 && (Nat.beq c.toNat 44 && maxOk H)) with
    | false => rw [hb] at he; cases he
    | true =>
      rw [hb] at he
      cases he
      cases hxs
      rw [Bool.and_eq_true, Bool.and_eq_true] at hb
      have h44 : c = 44 := UInt8.toNat_inj.1 (Nat.eq_of_beq_eq_true hb.2.1)
      subst h44
      refine ⟨_, rfl, ⟨_, Tryz.func71, by kernel_rfl⟩, Dm.refl _ _, fun η hp w cargs p hvl hg => ?_⟩
      obtain ⟨m, hm⟩ := maxOk_ok hb.2.2 p hg
      match cargs, hvl with
      | [d, e, g], hvl =>
        have hd : d = .string ⟨l.toArray⟩ := by
          have := Ev.one_conc.1 hvl.1
          simp only [At.conc] at this
          exact (Option.some.inj this).symm
        have he : e = .string ⟨#[44]⟩ := by
          have := Ev.one_conc.1 hvl.2.1
          simp only [At.conc] at this
          exact (Option.some.inj this).symm
        have hgg : g = .string ⟨#[]⟩ := by
          have := Ev.one_conc.1 hvl.2.2.1
          simp only [At.conc] at this
          exact (Option.some.inj this).symm
        subst hd he hgg
        exact stp_pure p rfl (repl_any l w (Nat.le_of_ble_eq_true hb.1) m hm)
end Go.Proofs.YtedpaajpfaoffaaGreatDoor
