/- Hooks by hand: (*wire.Reader).Count, where nothing has failed yet. -/
import Derived.Test.YtphpkalbbmlgoaaGreatDoorRdA
import Derived.Test.YtphpkalbbmlgoaaGreatDoorHkA
namespace Go.Proofs.YtphpkalbbmlgoaaGreatDoor
open Go Ev
noncomputable section

def rdOf (H : Tr AObj) (b : Nat) : Option (Tr At × At × List UInt8 × Nat) :=
  match H.get b with
  | some (.cells E 4 t) => match Nat.beq E 159, rd t 0 4 with
    | true, some [.int .i64 (.ofNat 0), .bool true, .slx b' o n e, .int .i64 (.ofNat a)] => match Nat.beq b b', known H b' o e 1, row H b' o n with
      | false, some k, some l => match Nat.ble n k, bytesOf l with
        | true, some bs => match Nat.ble bs.length (2 ^ 40), Nat.ble a bs.length with
          | true, true => some (t, .slx b' o n e, bs, a)
          | _, _ => none
        | _, _ => none
      | _, _, _ => none
    | _, _ => none
  | _ => none

def countO (H : Tr AObj) (nx b lim : Nat) : Option (Tr At × At × List UInt8 × Nat) → CR
  | some (t, inp, bs, a) => .ok (FV.ofAt (.int .i64 (rRead 0 (pCount bs (Int.ofNat lim)) (0, a)).1)) (H.put (some (.cells 159 4 (wr t 0 [.int .i64 (rRead 0 (pCount bs (Int.ofNat lim)) (0, a)).2.1, .bool true, inp, .int .i64 (Int.ofNat (rRead 0 (pCount bs (Int.ofNat lim)) (0, a)).2.2)]))) b) nx
  | none => .no

def countTry (args : List FV) (H : Tr AObj) (nx : Nat) : CR := match args with
  | [.p b 0, .i lim] => countO H nx b lim (rdOf H b)
  | _ => .no

def countHook : Hook := fun f args H nx => Bool.rec (motive := fun _ => CR) .no (countTry args H nx) (Nat.beq f 28)

end
theorem rdOf_ok {H : Tr AObj} {b : Nat} {t : Tr At} {inp : At} {bs : List UInt8} {a : Nat} (h : rdOf H b = some (t, inp, bs, a)) {η : Env} {hp : Hp} {w : World} (ext : ∀ b o, H.get b = some o → hp b = some o) (rh : RH η hp w) {B : Nat × Nat} (hB : η.blk b = some B) :
    H.get b = some (.cells 159 4 t) ∧ B.2 = 0 ∧ ∃ cinp, inp.conc η = some cinp ∧ Rd w B.1 cinp bs 0 a := by
  unfold rdOf at h
  split at h
  case h_2 => cases h
  rename_i E t' hg
  split at h
  case h_2 => cases h
  rename_i b' o n e a' hE hrd
  split at h
  case h_2 => cases h
  rename_i k l hne hk hrow
  split at h
  case h_2 => cases h
  rename_i bs' hnk hbs
  split at h
  case h_2 => cases h
  rename_i h40 ha
  cases h
  have hE := Nat.eq_of_beq_eq_true hE
  subst hE
  refine ⟨hg, ?_⟩
  obtain ⟨B1, co, hB1, hw, C, rfl, hβ, hsz, hC⟩ := rh.live b _ (ext b _ hg)
  obtain rfl : B = B1 := Option.some.inj (hB.symm.trans hB1)
  obtain ⟨vs, h4, h5, h6⟩ := rd_cells hC 4 0 _ (by omega) hrd
  obtain ⟨B2, us, C2, E2, hr2, hus, hlen, hcell⟩ := row_ok ext rh hrow
  have hcap := (known_ok ext rh hk).1
  have hnk := Nat.le_of_ble_eq_true hnk
  have hbus := bytesOf_conc η hbs
  rw [hbus] at hus
  have hus := Option.some.inj hus
  have hbl : bs.length = n := by rw [← hlen, ← concs_length _ _ hbus]; simp
  have hinp : (At.slx b' o n e).conc η = some (.slice (some (adr B2 o)) n (η.cap b' - e)) := by simp [At.conc, hr2.blk]
  refine ⟨hβ, _, hinp, ?_, ?_, ?_, Nat.le_of_ble_eq_true ha, ?_, ?_⟩
  · -- the reader's own block
    have : vs = [.int .i64 0, .bool true, .slice (some (adr B2 o)) n (η.cap b' - e), .int .i64 (Int.ofNat a)] := by
      simp only [concs, At.conc, hr2.blk] at h4
      exact (Option.some.inj h4).symm
    subst this
    have hCC : C = #[.int .i64 0, .bool true, .slice (some (adr B2 o)) n (η.cap b' - e), .int .i64 (Int.ofNat a)] := by
      apply Array.ext
      · rw [hsz]; rfl
      · intro i hi1 hi2
        have hi : i < 4 := by rw [← hsz]; exact hi1
        have hg : ∀ v, ([.int .i64 0, .bool true, .slice (some (adr B2 o)) n (η.cap b' - e), .int .i64 (Int.ofNat a)] : List Value)[i]? = some v → C[i] = v := fun v hv => by
          have := h6 i v hv
          rw [Nat.add_zero, Nat.zero_add, Array.getElem?_eq_getElem hi1] at this
          exact Option.some.inj this
        refine (hg _ ?_)
        simp only [List.getElem_toArray]
        exact List.getElem?_eq_getElem _
    show w.heap[B.1]? = _
    rw [hw, hCC]
    rfl
  · -- its bytes
    refine ⟨some (adr B2 o), η.cap b' - e, by rw [hbl], by omega, ?_, by simp, fun _ => ⟨B2.1, B2.2 + o, rfl, ?_, fun j u hj => ?_⟩⟩
    · have hm : η.cap b' ≤ maxLen := by
        unfold known at hk
        split at hk
        · rename_i ho
          obtain ⟨_, _, _, _, C3, rfl, _, _, ⟨_, hm⟩, _⟩ := rh.live b' _ (ext b' _ ho)
          exact hm
        · rename_i ho
          obtain ⟨_, _, _, _, C3, z, rfl, _, ⟨_, hm⟩, _⟩ := rh.live b' _ (ext b' _ ho)
          exact hm
        · cases hk
      omega
    · obtain ⟨z, hz⟩ := hr2.heap
      exact (Array.getElem?_eq_some_iff.1 hz).1
    · have := hcell j u (by rw [← hus]; simpa [Go.Proofs.YtphpkalbbmlgoaaGreatDoor.B] using hj)
      rw [adr_add] at this
      simpa [adr, Nat.add_assoc] using this
  · -- another block
    intro hc
    have hb2 : B.1 = B2.1 := by
      cases n with
      | zero => simp [rb] at hc
      | succ n => simpa [rb, adr] using hc
    have hne' : b ≠ b' := fun e => by rw [e] at hne; simp at hne
    have hb' : hp b' ≠ none := by
      unfold known at hk
      split at hk
      · rename_i ho; rw [ext b' _ ho]; simp
      · rename_i ho; rw [ext b' _ ho]; simp
      · cases hk
    exact hne' (rh.inj b b' B B2 (by rw [ext b _ hg]; simp) hb' hB hr2.blk hb2)
  · intro g hg2
    obtain ⟨z, hz⟩ := hr2.heap
    have hlt := (Array.getElem?_eq_some_iff.1 hz).1
    cases n with
    | zero => simp [rb] at hg2
    | succ n =>
      have : g = B2.1 := by simpa [rb, adr] using hg2
      rw [this]; exact hlt
  · have := Nat.le_of_ble_eq_true h40
    omega

theorem countHook_ok : HookOk Tryz.prog countHook := by
  intro f args H nx v H' nx' he xs hxs
  unfold countHook at he
  cases hf : Nat.beq f 28 with
  | false => rw [hf] at he; cases he
  | true =>
    rw [hf] at he
    have hf := Nat.eq_of_beq_eq_true hf
    subst hf
    have he : countTry args H nx = .ok v H' nx' := he
    unfold countTry at he
    split at he
    case h_2 => cases he
    rename_i b lim _
    unfold countO at he
    split at he
    case h_2 => cases he
    rename_i t inp bs a hrd
    cases he
    cases hxs
    refine ⟨_, FV.toV_ofAt _, ⟨_, Tryz.func28, by kernel_rfl⟩, ?_, fun η hp w cargs p hvl _ => ?_⟩
    · have hgb : H.get b = some (.cells 159 4 t) := by
        unfold rdOf at hrd
        split at hrd
        case h_2 => cases hrd
        rename_i E t' hg
        split at hrd
        case h_2 => cases hrd
        rename_i b' o n e a' hE _
        have hE := Nat.eq_of_beq_eq_true hE
        subst hE
        split at hrd
        case h_2 => cases hrd
        split at hrd
        case h_2 => cases hrd
        split at hrd
        case h_2 => cases hrd
        cases hrd
        exact hg
      exact dm_set hgb _ _
    match cargs, hvl with
    | [c1, c2], hvl =>
      obtain ⟨B, hB, rfl⟩ := conc_ptr (one_conc.1 hvl.1)
      have h2 := one_conc.1 hvl.2.1
      simp only [At.conc] at h2
      cases h2
      obtain ⟨hgb, hβ, cinp, hinp, hR⟩ := rdOf_ok hrd p.ext p.rh hB
      have hadr : adr B 0 = ⟨B.1, 0, none⟩ := by simp [adr, hβ]
      rw [hadr]
      refine (rd_count B.1 cinp bs (0, a) (Int.ofNat lim) w hR).mono ?_
      rintro e w' ⟨rfl, hR', tch⟩
      refine ⟨_, η, rfl, one_conc.2 rfl, Stp.touched p hgb hB tch hR'.1 ⟨_, rfl, hβ, rfl, ?_⟩⟩
      refine Cells.wr (C := #[.int .i64 (rRead 0 (pCount bs (Int.ofNat lim)) (0, a)).2.1, .bool true, cinp, .int .i64 (rRead 0 (pCount bs (Int.ofNat lim)) (0, a)).2.2]) (n := 0) (fun i hi => by omega) (vs := [.int .i64 (rRead 0 (pCount bs (Int.ofNat lim)) (0, a)).2.1, .bool true, cinp, .int .i64 (rRead 0 (pCount bs (Int.ofNat lim)) (0, a)).2.2]) ?_ (.inr ⟨by simp, by omega⟩) (fun j u hj => ?_) (fun _ _ => rfl)
      · simp only [concs, hinp]; rfl
      · simpa using hj

end Go.Proofs.YtphpkalbbmlgoaaGreatDoor
