/- An abstract interpreter of the model's code, eleventh part: append, copy, clear as operations. -/
import Derived.Test.YtmnaddlniaklcaaGreatDoorEv10
namespace Go.Proofs.YtmnaddlniaklcaaGreatDoor.Ev
open Go
noncomputable section

/-- A part of a block's row, as a row of its own. -/
def subT (T : Tr At) (m o k : Nat) : Option (Tr At) :=
  match Nat.ble (o + k) m with
  | true => match o with
    | 0 => some T
    | o' + 1 => match rd T (o' + 1) k with | some l => some (wr .nil 0 l) | none => none
  | false => none
def sub (ob : AObj) (o k : Nat) : Option (Tr At) :=
  match ob with
  | .cells _ m T => subT T m o k
  | .lcells _ m _ T => subT T m o k
  | _ => none

theorem sub_ok {η : Env} {h : Hp} {w : World} {H : Tr AObj} (ext : ∀ b o, H.get b = some o → h b = some o) (rh : RH η h w) {b o k : Nat} {ob : AObj} {T0 : Tr At} (hb : H.get b = some ob) (hs : sub ob o k = some T0) :
    ∃ B C E, Row η w b B C E ∧ Cells η (B.2 + o) k T0 C ∧ B.2 + o + k ≤ C.size := by
  obtain ⟨B, co, hB, hw, hrel⟩ := rh.live b ob (ext b ob hb)
  have key : ∀ (C : Array Value) (m : Nat) (T : Tr At), Cells η B.2 m T C → B.2 + m ≤ C.size → subT T m o k = some T0 → Cells η (B.2 + o) k T0 C ∧ B.2 + o + k ≤ C.size := by
    intro C m T hC hm hif
    unfold subT at hif
    split at hif
    · rename_i hle
      have hle := Nat.le_of_ble_eq_true hle
      split at hif
      · cases hif
        refine ⟨fun i hi => ?_, by omega⟩
        obtain ⟨a, v, h1, h2, h3⟩ := hC i (by omega)
        exact ⟨a, v, h1, h2, by simpa using h3⟩
      · split at hif
        · rename_i l hl
          cases hif
          obtain ⟨vs, h4, h5, h6⟩ := rd_cells hC k _ l hle hl
          refine ⟨fun i hi => ?_, by omega⟩
          rw [get_wr, if_pos (by omega)]
          obtain ⟨v, h7, h8⟩ := concs_get l vs h4 i l[i] (by simp)
          exact ⟨l[i], v, by simp, h8, h6 i v h7⟩
        · cases hif
    · cases hif
  unfold sub at hs
  cases ob with
  | cells E m T =>
    obtain ⟨C, rfl, hβ, hsz, hC⟩ := hrel
    obtain ⟨h1, h2⟩ := key C m T (by rw [hβ]; exact hC) (by omega) hs
    exact ⟨B, C, E, ⟨hB, hw⟩, h1, h2⟩
  | lcells E m s T =>
    obtain ⟨C, rfl, g1, g2, g3, hC⟩ := hrel
    obtain ⟨h1, h2⟩ := key C m T hC (by omega) hs
    exact ⟨B, C, E, ⟨hB, hw⟩, h1, h2⟩
  | _ => cases hs

/-- The cells of a part, loaded. -/
theorem part_first {P : Program} {η : Env} {w : World} {b : Nat} {B : Nat × Nat} {C : Array Value} {E o n c s : Nat} (r : Row η w b B C E) (hle : B.2 + o + n * s ≤ C.size) :
    ∀ w', Quiet w w' → (Builtin.firstCells s n (.slice (some (adr B o)) n c)).run P w' = .ok ⟨(C.toList.drop (B.2 + o)).take (n * s)⟩ w' := by
  intro w' hq
  have hcq : ∀ a, w'.cell? a = w.cell? a := fun a => by simp [World.cell?, hq.1]
  have := run_firstCells_some (P := P) w' s n (adr B o) n c ((C.toList.drop (B.2 + o)).take (n * s)) (by simp; omega) (fun j v hj => by
    rw [hcq, adr_add, r.cell]
    rw [List.getElem?_take] at hj
    split at hj
    · rw [List.getElem?_drop] at hj
      simp only [Array.getElem?_toList] at hj
      rw [← hj]; congr 1; omega
    · cases hj)
  simpa using this

theorem Cells.part {η : Env} {β k : Nat} {T : Tr At} {C : Array Value} (hC : Cells η β k T C) (X : List Value) : Cells η 0 k T ⟨(C.toList.drop β).take k ++ X⟩ := fun i hi => by
  obtain ⟨a, v, h1, h2, h3⟩ := hC i hi
  refine ⟨a, v, h1, h2, ?_⟩
  have hlt : β + i < C.size := (Array.getElem?_eq_some_iff.1 h3).1
  have : ((C.toList.drop β).take k ++ X)[i]? = some v := by
    rw [List.getElem?_append, if_pos (by simp; omega), List.getElem?_take, if_pos hi, List.getElem?_drop]
    simpa using h3
  simpa using this

def lim (n y : Nat) : Bool := Nat.ble (n * y) (2 ^ 47) && Nat.ble n (2 ^ 47)

def evAppend (P : Program) (H : Tr AObj) (nx : Nat) (t tx : TypeId) (s x : At) : Option (V × Tr AObj × Nat) :=
  match slT P t with
  | some (e, sz, y, z) => match srcA P H tx sz y z x with
    | some (m, l) => match s with
      | .nils => match m with
        | 0 => some (.one .nils, H, nx)
        | m + 1 => match lim (m + 1) y with
          | true => some (.one (.slx nx 0 (m + 1) 0), H.put (some (.lcells e ((m + 1) * sz) sz (wr .nil 0 l))) nx, nx + 1)
          | false => none
      | .emp i => match m with
        | 0 => some (.one (.emp i), H, nx)
        | _ => none
      | .sl b o n c => match m with
        | 0 => match Nat.ble n c with | true => some (.one (.sl b o n c), H, nx) | false => none
        | m + 1 => match H.get b with
          | some ob => match Nat.ble (n + (m + 1)) c with
            | true => match put ob (o + n * sz) l with
              | some ob' => some (.one (.sl b o (n + (m + 1)) c), H.put (some ob') b, nx)
              | none => none
            | false => match sub ob o (n * sz), lim (n + (m + 1)) y with
              | some T, true => some (.one (.slx nx 0 (n + (m + 1)) 0), H.put (some (.lcells e ((n + (m + 1)) * sz) sz (wr T (n * sz) l))) nx, nx + 1)
              | _, _ => none
          | none => none
      | .slx b o n e' => match m with
        | 0 => match known H b o e' sz with
          | some k => match Nat.ble n k with | true => some (.one (.slx b o n e'), H, nx) | false => none
          | none => none
        | m + 1 => match H.get b with
          | some (.lcells E mm s' T0) => match Nat.beq E e, Nat.beq s' sz, Nat.beq o (e' * sz), sub (.lcells E mm s' T0) o (n * sz), lim (n + (m + 1)) y with
            | true, true, true, some T, true => some (.one (.slx nx 0 (n + (m + 1)) 0), (H.put none b).put (some (.lcells e ((n + (m + 1)) * sz) sz (wr T (n * sz) l))) nx, nx + 1)
            | _, _, _, _, _ => none
          | _ => none
      | _ => none
    | none => none
  | none => none

theorem lim_ok {n y : Nat} (h : lim n y = true) : n * y ≤ 140737488355328 ∧ ((n : Nat) : Int) ≤ 9223372036854775807 := by
  unfold lim at h
  rw [Bool.and_eq_true] at h
  have h1 := Nat.le_of_ble_eq_true h.1
  have h2 := Nat.le_of_ble_eq_true h.2
  exact ⟨by omega, by omega⟩

theorem slx_conc {η : Env} {b o n e : Nat} {B : Nat × Nat} (hB : η.blk b = some B) : (V.one (.slx b o n e)).conc η = some (.slice (some (adr B o)) n (η.cap b - e)) := by
  rw [one_conc]; simp [At.conc, hB]

/-- The growing append, whatever it grows from. -/
theorem app_grow {P : Program} {H : Tr AObj} {nx : Nat} {t tx e : TypeId} {i : TypeInfo} {z : List At} (ht : SlT P t e i z) {η : Env} {h : Hp} {w : World} (p : Pre η h w H.get nx (nx + 1)) {cx : Value} {n m c : Nat} {base : Option Addr} {l : List At} {us vs : List Value} {zv0 : Value} (hz0 : i.zero = some zv0)
    (hs : AppSrc P tx i zv0 w m cx vs) (hll : l.length = m * i.size) (hvs : concs η l = some vs)
    (hu : (Builtin.firstCells i.size n (.slice base n c)).run P w.drew = .ok ⟨us⟩ w.drew) (hul : us.length = n * i.size) (hno : c < n + m) (hlim : lim (n + m) i.bytes = true) {T : Tr At} (hT : ∀ X, Cells η 0 (n * i.size) T ⟨us ++ X⟩) (ty : TypeId) :
    ∃ cv w' η', (Builtin.append_ #[t, tx] ty #[.slice base n c, cx]).run P w = .ok cv w' ∧ (V.one (.slx nx 0 (n + m) 0)).conc η' = some cv ∧
      Stp η h w H.get (H.put (some (.lcells e ((n + m) * i.size) i.size (wr T (n * i.size) l))) nx).get nx (nx + 1) η' w' := by
  obtain ⟨hl1, hl2⟩ := lim_ok hlim
  obtain ⟨zv, zs, z1, z2, z3, z4, z5⟩ := ht.zeroV η w
  rw [hz0] at z5; cases z5
  have hrun := app_more (ty := ty) ht.und ht.info hz0 hs hu hno hl2 hl1
  have hvl := concs_length _ _ hvs
  have hsz : (us ++ vs).length = (n + m) * i.size := by rw [List.length_append, hul, hvl, hll, Nat.add_mul]
  obtain ⟨η', h1, h2, h3⟩ := grow_ok (e := e) (C := ⟨us ++ vs⟩) (zs := ⟨zs⟩) (T := wr T (n * i.size) l) p (grownCap w (n + m) c e) (grownCap_ge _ _ _ _) ht.pos z4 hsz (fun η' hle => by
    refine Cells.wr (C := ⟨us ++ vs⟩) (n := n * i.size) ((hT vs).mono hle) (concs_mono hle _ _ hvs) (.inr ⟨by rw [hll, ← Nat.add_mul]; exact Nat.le_refl _, Nat.le_refl _⟩) (fun j v hj => ?_) (fun _ _ => rfl)
    have : (us ++ vs)[n * i.size + j]? = some v := by rw [List.getElem?_append, if_neg (by omega), hul]; simpa using hj
    simpa using this)
  refine ⟨_, _, η', hrun, by rw [slx_conc h1, h2]; rfl, ?_⟩
  have e1 : (⟨us⟩ : Array Value) ++ (⟨vs⟩ : Array Value) ++ Builtin.zeroCells zv0.cells (grownCap w (n + m) c e - (n + m)) = (⟨us ++ vs⟩ : Array Value) ++ Builtin.zeroCells ⟨zs⟩ (grownCap w (n + m) c e - (n + m)) := by
    rw [z3]; apply Array.ext'; simp
  rw [e1]; exact h3

theorem vs0 {η : Env} {l : List At} {vs : List Value} {s : Nat} (hl : l.length = 0 * s) (hv : concs η l = some vs) : vs = [] := by
  have := concs_length _ _ hv
  rw [hl] at this
  simpa using this

theorem quiet_drew (w : World) : Quiet w w.drew := ⟨rfl, rfl, rfl, rfl⟩

theorem evAppend_ok {P : Program} {H : Tr AObj} {nx : Nat} {t tx : TypeId} {s x : At} {v : V} {H' : Tr AObj} {nx' : Nat} (he : evAppend P H nx t tx s x = some (v, H', nx')) :
    Dm H.get H'.get nx nx' ∧ ∀ {η : Env} {h : Hp} {w : World} {cs cx : Value} (ty : TypeId), Pre η h w H.get nx nx' → s.conc η = some cs → x.conc η = some cx →
      ∃ cv w' η', (Builtin.append_ #[t, tx] ty #[cs, cx]).run P w = .ok cv w' ∧ v.conc η' = some cv ∧ Stp η h w H.get H'.get nx nx' η' w' := by
  unfold evAppend at he
  split at he
  · rename_i e sz y z hsl
    obtain ⟨i, ht, rfl, rfl⟩ := slT_ok hsl
    split at he
    · rename_i m l hsrc
      split at he
      · -- nil
        split at he
        · cases he
          refine ⟨Dm.refl _ _, fun ty p hs hx => ?_⟩
          obtain ⟨hll, zv, vs, hzv, hvs, hs0⟩ := srcA_ok ht hsrc p.ext p.rh hx
          simp only [At.conc] at hs; cases hs
          exact ⟨_, _, _, app_room (w' := _) ht.und ht.info hzv hs0 (by omega) rfl, by rfl, Stp.refl p.ext p.rh⟩
        · rename_i m
          split at he
          · rename_i hlim
            cases he
            refine ⟨dm_alloc _ _ _, fun ty p hs hx => ?_⟩
            rename_i η h w cs cx
            obtain ⟨hll, zv, vs, hzv, hvs, hs0⟩ := srcA_ok ht hsrc p.ext p.rh hx
            simp only [At.conc] at hs; cases hs
            have hvl := concs_length _ _ hvs
            have := app_grow (T := .nil) (us := []) (n := 0) (c := 0) (base := none) ht p hzv hs0 hll hvs (by simp [Builtin.firstCells]) (by simp) (by omega) (by simpa using hlim) (fun X i hi => by simp at hi) ty
            simpa using this
          · cases he
      · -- an empty slice
        split at he
        · cases he
          refine ⟨Dm.refl _ _, fun ty p hs hx => ?_⟩
          rename_i η h w cs cx
          obtain ⟨hll, zv, vs, hzv, hvs, hs0⟩ := srcA_ok ht hsrc p.ext p.rh hx
          obtain ⟨a, c, hem, rfl⟩ := conc_emp hs
          exact ⟨_, w, η, app_room (w' := w) ht.und ht.info hzv hs0 (by omega) (by rw [vs0 hll hvs]; simp [storeCells]), one_conc.2 hs, Stp.refl p.ext p.rh⟩
        · cases he
      · -- a slice of known capacity
        rename_i b o n c
        split at he
        · split at he
          · rename_i hnc
            cases he
            refine ⟨Dm.refl _ _, fun ty p hs hx => ?_⟩
            rename_i η h w cs cx
            obtain ⟨hll, zv, vs, hzv, hvs, hs0⟩ := srcA_ok ht hsrc p.ext p.rh hx
            obtain ⟨B, hB, rfl⟩ := conc_sl hs
            exact ⟨_, w, η, app_room (w' := w) ht.und ht.info hzv hs0 (by have := Nat.le_of_ble_eq_true hnc; omega) (by rw [vs0 hll hvs]; simp [storeCells]), one_conc.2 hs, Stp.refl p.ext p.rh⟩
          · cases he
        · rename_i m
          split at he
          · rename_i ob hb
            split at he
            · rename_i hroom
              have hroom := Nat.le_of_ble_eq_true hroom
              split at he
              · rename_i ob' hput
                cases he
                refine ⟨dm_set hb _ _, fun ty p hs hx => ?_⟩
                rename_i η h w cs cx
                obtain ⟨hll, zv, vs, hzv, hvs, hs0⟩ := srcA_ok ht hsrc p.ext p.rh hx
                obtain ⟨B, hB, rfl⟩ := conc_sl hs
                have hvl := concs_length _ _ hvs
                obtain ⟨B', w', hB', hrun, hst⟩ := put_ok (P := P) hb hput p hvs
                obtain rfl : B = B' := Option.some.inj (hB.symm.trans hB')
                refine ⟨_, w', η, app_room (w' := w') ht.und ht.info hzv hs0 hroom ?_, slice_conc hB, hst⟩
                simp only [adr_add]; exact hrun
              · cases he
            · rename_i hroom
              have hroom : c < n + (m + 1) := by
                rcases Nat.lt_or_ge c (n + (m + 1)) with h | h
                · exact h
                · rw [Nat.ble_eq_true_of_le h] at hroom; cases hroom
              split at he
              · rename_i T hsub hlim
                cases he
                refine ⟨dm_alloc _ _ _, fun ty p hs hx => ?_⟩
                rename_i η h w cs cx
                obtain ⟨hll, zv, vs, hzv, hvs, hs0⟩ := srcA_ok ht hsrc p.ext p.rh hx
                obtain ⟨B, hB, rfl⟩ := conc_sl hs
                have hvl := concs_length _ _ hvs
                obtain ⟨B', C, E, hrow, hC, hle⟩ := sub_ok p.ext p.rh hb hsub
                obtain rfl : B = B' := Option.some.inj (hB.symm.trans hrow.blk)
                exact app_grow ht p hzv hs0 hll hvs (part_first hrow hle w.drew (quiet_drew w)) (by simp; omega) hroom hlim (fun X => hC.part X) ty
              · cases he
          · cases he
      · -- a slice of unknown capacity
        rename_i b o n e'
        split at he
        · split at he
          · rename_i k hk
            split at he
            · rename_i hnk
              cases he
              refine ⟨Dm.refl _ _, fun ty p hs hx => ?_⟩
              rename_i η h w cs cx
              obtain ⟨hll, zv, vs, hzv, hvs, hs0⟩ := srcA_ok ht hsrc p.ext p.rh hx
              obtain ⟨B, hB, rfl⟩ := conc_slx hs
              have hk1 := (known_ok p.ext p.rh hk).1
              have hk2 := Nat.le_of_ble_eq_true hnk
              exact ⟨_, w, η, app_room (w' := w) ht.und ht.info hzv hs0 (by omega) (by rw [vs0 hll hvs]; simp [storeCells]), one_conc.2 hs, Stp.refl p.ext p.rh⟩
            · cases he
          · cases he
        · rename_i m
          split at he
          · rename_i E mm s' T0 hb
            split at he
            · rename_i T hE hs' ho hsub hlim
              cases he
              have hE : E = e := Nat.eq_of_beq_eq_true hE
              have hs' : s' = i.size := Nat.eq_of_beq_eq_true hs'
              have ho : o = e' * i.size := Nat.eq_of_beq_eq_true ho
              subst hE; subst hs'
              refine ⟨⟨by omega, fun k hk => ?_⟩, fun ty p hs hx => ?_⟩
              · by_cases e1 : k = nx
                · exact .inr (by omega)
                · rw [Tr.get_put_other _ _ e1] at hk
                  by_cases e2 : k = b
                  · subst e2; rw [Tr.get_put_same] at hk; exact absurd rfl hk
                  · rw [Tr.get_put_other _ _ e2] at hk; exact .inl hk
              rename_i η h w cs cx
              obtain ⟨hll, zv, vs, hzv, hvs, hs0⟩ := srcA_ok ht hsrc p.ext p.rh hx
              obtain ⟨B, hB, rfl⟩ := conc_slx hs
              have hvl := concs_length _ _ hvs
              obtain ⟨B', C, E', hrow, hC, hle⟩ := sub_ok p.ext p.rh hb hsub
              obtain rfl : B = B' := Option.some.inj (hB.symm.trans hrow.blk)
              obtain ⟨B2, co, hB2, hw, C2, rfl, g1, g2, g3, g4⟩ := p.rh.live b _ (p.ext b _ hb)
              obtain rfl : B = B2 := Option.some.inj (hB.symm.trans hB2)
              have hCC : C2 = C ∧ E = E' := by
                have := hw.symm.trans hrow.heap
                injection this with this
                injection this with h1 h2
                exact ⟨h1, h2⟩
              obtain ⟨rfl, rfl⟩ := hCC
              by_cases hroom : n + (m + 1) ≤ η.cap b - e'
              · -- in place
                have hcap : e' + (n + (m + 1)) ≤ η.cap b := by omega
                have hcs : (e' + (n + (m + 1))) * i.size ≤ η.cap b * i.size := Nat.mul_le_mul_right _ hcap
                rw [Nat.add_mul, Nat.add_mul] at hcs
                have hvm : vs.length = (m + 1) * i.size := hvl.trans hll
                have hfit : B.2 + (o + n * i.size) + 0 + vs.length ≤ C2.size := by omega
                have hrun := run_storeCells_at (P := P) B.1 (B.2 + (o + n * i.size)) E vs 0 C2 w hrow.heap hfit (concs_one l vs hvs)
                have hsz : B.2 + (o + n * i.size) + vs.length ≤ C2.toList.length := by simpa using hfit
                refine ⟨_, _, η.set nx (B.1, B.2 + o) (η.cap b - e'), app_room ht.und ht.info hzv hs0 hroom (by simp only [adr_add]; exact hrun), ?_, ?_⟩
                · rw [slx_conc (Env.set_same _ _ _ _), Env.cap_same]; rfl
                · obtain ⟨hnb, _, _⟩ := p.fresh nx (Nat.le_refl _) (by omega)
                  have hle' := Env.le_set hnb (B.1, B.2 + o) (η.cap b - e')
                  refine (Stp.move (B' := (B.1, B.2 + o)) p hb hB rfl (setRow_heap w B.1 C2 _ E _ hrow.heap) (fun k hk => setRow_other w B.1 k _ hk) rfl rfl rfl (by simp [World.setRow]) ?_).2
                  refine ⟨_, rfl, ?_, ?_, ht.pos, ?_⟩
                  · rw [Env.cap_same]
                    have : (η.cap b - e') * i.size = η.cap b * i.size - e' * i.size := Nat.sub_mul _ _ _
                    simp only [List.size_toArray, List.length_append, List.length_take, List.length_drop, Array.length_toList]
                    omega
                  · rw [Env.cap_same]; exact Nat.mul_le_mul_right _ hroom
                  · refine Cells.wr (C := C2) (n := n * i.size) (hC.mono hle') (concs_mono hle' _ _ hvs) (.inr ⟨by rw [hll, ← Nat.add_mul]; exact Nat.le_refl _, Nat.le_refl _⟩) (fun j v hj => ?_) (fun j hj => ?_)
                    · have := mid_in C2.toList vs (B.2 + (o + n * i.size) + 0) (by omega) j v hj
                      rw [← this]
                      simp only [List.getElem?_toArray]
                      congr 1
                      omega
                    · have := mid_out C2.toList vs (B.2 + (o + n * i.size) + 0) (by omega) j (by omega)
                      simpa using this
              · -- a new row
                obtain ⟨cv, w', η', h1, h2, h3⟩ := app_grow (c := η.cap b - e') ht p hzv hs0 hll hvs (part_first hrow hle w.drew (quiet_drew w)) (by simp; omega) (by omega) hlim (fun X => hC.part X) ty
                refine ⟨cv, w', η', h1, h2, ?_⟩
                have d1 := dm_alloc H (.lcells E ((n + (m + 1)) * i.size) i.size (wr T (n * i.size) l)) nx
                have p1 := p.next d1 h3
                obtain ⟨d2, s2⟩ := Stp.drop p1 b
                have hne : b ≠ nx := fun e1 => by
                  have := p.ext b _ hb
                  rw [e1, p.rh.fresh (p.fresh nx (Nat.le_refl _) (by omega)).1] at this; cases this
                have hfun : ((H.put (some (.lcells E ((n + (m + 1)) * i.size) i.size (wr T (n * i.size) l))) nx).put none b).get = ((H.put none b).put (some (.lcells E ((n + (m + 1)) * i.size) i.size (wr T (n * i.size) l))) nx).get := by
                  funext k
                  simp only [Tr.get_put]
                  by_cases e1 : k = b
                  · subst e1; simp [hne]
                  · simp [e1]
                rw [← hfun]
                exact Stp.trans d1 d2 h3 s2
            · cases he
          · cases he
      · cases he
    · cases he
  · cases he

end
end Go.Proofs.YtmnaddlniaklcaaGreatDoor.Ev
