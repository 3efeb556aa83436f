/- An abstract interpreter of the model's code, tenth part: append, copy, clear. -/
import Derived.Test.YtmnaddlniaklcaaGreatDoorEv9
namespace Go.Proofs.YtmnaddlniaklcaaGreatDoor.Ev
open Go
noncomputable section

/-! ### What is appended -/
def bytesA : List UInt8 → List At
  | [] => []
  | b :: l => .int .u8 (Int.ofNat b.toNat) :: bytesA l
/-- Length and cells of a slice or a string that is appended or copied. -/
def src (P : Program) (H : Tr AObj) (tx : TypeId) (s : Nat) (x : At) : Option (Nat × List At) :=
  match P.underlying tx, x with
  | some (.slice _), .nils => some (0, [])
  | some (.slice _), .emp _ => some (0, [])
  | some (.slice _), .sl b o n _ => match n with
    | 0 => some (0, [])
    | n + 1 => match row H b o ((n + 1) * s) with | some l => some (n + 1, l) | none => none
  | some (.slice _), .slx b o n _ => match n with
    | 0 => some (0, [])
    | n + 1 => match row H b o ((n + 1) * s) with | some l => some (n + 1, l) | none => none
  | some .string, .str l => match Nat.beq s 1 with | true => some (l.length, bytesA l) | false => none
  | _, _ => none

/-- What append takes besides: 'make' of a length. -/
def srcA (P : Program) (H : Tr AObj) (tx : TypeId) (s y : Nat) (z : List At) (x : At) : Option (Nat × List At) :=
  match P.underlying tx with
  | some (.int _) => match natOf x with
    | some k => match Nat.ble (k * y) (2 ^ 47), Nat.ble k (2 ^ 47) with
      | true, true => some (k, reps z k)
      | _, _ => none
    | none => none
  | _ => src P H tx s x

theorem bytesA_conc (η : Env) : ∀ l : List UInt8, concs η (bytesA l) = some (l.map fun b => Value.int .u8 b.toNat)
  | [] => rfl
  | b :: l => by simp [bytesA, concs, At.conc, bytesA_conc η l]

/-- Its first k elements, loaded in any world that the abstract heap describes. -/
theorem src_ok {P : Program} {H : Tr AObj} {tx : TypeId} {s : Nat} {x : At} {n : Nat} {l : List At} (hs : src P H tx s x = some (n, l)) {η : Env} {cx : Value} {h : Hp} {w : World} (ext : ∀ b o, H.get b = some o → h b = some o) (rh : RH η h w) (hx : x.conc η = some cx) :
    ((∃ e, P.underlying tx = some (.slice e)) ∨ P.underlying tx = some .string) ∧ (∀ w', (Builtin.lenOf cx).run P w' = .ok n w') ∧ l.length = n * s ∧ ∃ vs, concs η l = some vs ∧
      ∀ k, k ≤ n → ∀ w', Quiet w w' → (Builtin.firstCells s k cx).run P w' = .ok ⟨vs.take (k * s)⟩ w' := by
  have key : ∀ (b o m : Nat) (c : Nat) (l : List At) (B0 : Nat × Nat), η.blk b = some B0 → row H b o (m * s) = some l → l.length = m * s ∧ ∃ vs, concs η l = some vs ∧
      ∀ k, k ≤ m → ∀ w', Quiet w w' → (Builtin.firstCells s k (.slice (some (adr B0 o)) m c)).run P w' = .ok ⟨vs.take (k * s)⟩ w' := by
    intro b o m c l B0 hB0 hr
    obtain ⟨B, vs, C, E, hrow, hvs, hlen, hcell⟩ := row_ok ext rh hr
    obtain rfl : B0 = B := Option.some.inj (hB0.symm.trans hrow.blk)
    refine ⟨hlen, vs, hvs, fun k hk w' hq => ?_⟩
    have hvl := concs_length _ _ hvs
    have hks : k * s ≤ m * s := Nat.mul_le_mul_right _ hk
    have hcq : ∀ a, w'.cell? a = w.cell? a := fun a => by simp [World.cell?, hq.1]
    have := run_firstCells_some (P := P) w' s k (adr B0 o) m c (vs.take (k * s)) (by simp; omega) (fun j v hj => by
      rw [hcq]; refine hcell j v ?_
      rw [List.getElem?_take] at hj
      split at hj
      · exact hj
      · cases hj)
    simpa using this
  unfold src at hs
  split at hs
  · rename_i e hu
    cases hs
    simp only [At.conc] at hx; cases hx
    exact ⟨.inl ⟨_, hu⟩, fun w' => by simp [Builtin.lenOf], by simp, [], rfl, fun k hk w' _ => by simp [Builtin.firstCells]⟩
  · rename_i e i hu
    cases hs
    obtain ⟨a, c, _, rfl⟩ := conc_emp hx
    refine ⟨.inl ⟨_, hu⟩, fun w' => by simp [Builtin.lenOf], by simp, [], rfl, fun k hk w' _ => ?_⟩
    obtain rfl : k = 0 := by omega
    simp [Builtin.firstCells, loadCells, loadCellsFrom]
  · rename_i e b o n' c hu
    obtain ⟨B, hB, rfl⟩ := conc_sl hx
    split at hs
    · cases hs
      refine ⟨.inl ⟨_, hu⟩, fun w' => by simp [Builtin.lenOf], by simp, [], rfl, fun k hk w' _ => ?_⟩
      obtain rfl : k = 0 := by omega
      simp [Builtin.firstCells, loadCells, loadCellsFrom]
    · rename_i m
      split at hs
      · rename_i l' hr
        cases hs
        obtain ⟨h1, h2⟩ := key b o (m + 1) c _ B hB hr
        exact ⟨.inl ⟨_, hu⟩, fun w' => by simp [Builtin.lenOf], h1, h2⟩
      · cases hs
  · rename_i e b o n' c hu
    obtain ⟨B, hB, rfl⟩ := conc_slx hx
    split at hs
    · cases hs
      refine ⟨.inl ⟨_, hu⟩, fun w' => by simp [Builtin.lenOf], by simp, [], rfl, fun k hk w' _ => ?_⟩
      obtain rfl : k = 0 := by omega
      simp [Builtin.firstCells, loadCells, loadCellsFrom]
    · rename_i m
      split at hs
      · rename_i l' hr
        cases hs
        obtain ⟨h1, h2⟩ := key b o (m + 1) (η.cap b - c) _ B hB hr
        exact ⟨.inl ⟨_, hu⟩, fun w' => by simp [Builtin.lenOf], h1, h2⟩
      · cases hs
  · rename_i ls hu
    split at hs
    · rename_i hs1
      cases hs
      obtain rfl : s = 1 := Nat.eq_of_beq_eq_true hs1
      simp only [At.conc] at hx; cases hx
      have hbl : (bytesA ls).length = ls.length := by rw [← concs_length _ _ (bytesA_conc η ls)]; simp
      refine ⟨.inr hu, fun w' => by simp [Builtin.lenOf, ByteArray.size], by omega, _, bytesA_conc η ls, fun k hk w' _ => ?_⟩
      simp only [Builtin.firstCells, Sem.run_pure]
      congr 1
      apply Array.ext'
      simp [ByteArray.extract, ByteArray.copySlice, List.map_take]
    · cases hs
  · cases hs

/-! ### append -/
theorem srcA_ok {P : Program} {H : Tr AObj} {t tx e : TypeId} {i : TypeInfo} {z : List At} (ht : SlT P t e i z) {x : At} {n : Nat} {l : List At} (hs : srcA P H tx i.size i.bytes z x = some (n, l)) {η : Env} {cx : Value} {h : Hp} {w : World} (ext : ∀ b o, H.get b = some o → h b = some o) (rh : RH η h w) (hx : x.conc η = some cx) :
    l.length = n * i.size ∧ ∃ zv vs, i.zero = some zv ∧ concs η l = some vs ∧
      ((((∃ e, P.underlying tx = some (.slice e)) ∨ P.underlying tx = some .string) ∧ (∀ w', (Builtin.lenOf cx).run P w' = .ok n w') ∧ ∀ w', Quiet w w' → (Builtin.firstCells i.size n cx).run P w' = .ok ⟨vs⟩ w') ∨
  (∃ k kd, P.underlying tx = some (.int k) ∧ cx = .int kd (n : Int) ∧ zv.cells.size = i.size ∧ 0 < i.size ∧ vs = repsV zv.cells.toList n ∧ n * i.bytes ≤ 2 ^ 47 ∧ n ≤ 2 ^ 47)) := by
  obtain ⟨zv, zs, z1, z2, z3, z4, z5⟩ := ht.zeroV η w
  unfold srcA at hs
  split at hs
  · rename_i k hk
    split at hs
    · rename_i m hm
      split at hs
      · rename_i h1 h2
        cases hs
        obtain ⟨kd, rfl⟩ := natOf_conc hm hx
        have hrc := reps_conc z2 n
        refine ⟨by rw [← concs_length _ _ hrc, repsV_length, z4], zv, repsV zs n, z5, hrc, .inr ⟨k, kd, hk, rfl, by rw [z3]; exact z4, ht.pos, by rw [z3], Nat.le_of_ble_eq_true h1, Nat.le_of_ble_eq_true h2⟩⟩
      · cases hs
    · cases hs
  · obtain ⟨htx, hlen, hll, vs, hvs, hf⟩ := src_ok hs ext rh hx
    refine ⟨hll, zv, vs, z5, hvs, .inl ⟨htx, hlen, fun w' hq => ?_⟩⟩
    have := hf n (Nat.le_refl _) w' hq
    rw [List.take_of_length_le (Nat.le_of_eq ((concs_length _ _ hvs).trans hll))] at this
    exact this

/-- There is room. -/
theorem run_app_room {P : Program} {w w' : World} {t tx e ty : TypeId} {i : TypeInfo} (ht : P.underlying t = some (.slice e)) (hi : P.info? e = some i) (hx : (∃ e, P.underlying tx = some (.slice e)) ∨ P.underlying tx = some .string)
    {base : Option Addr} {n m c : Nat} {cx : Value} {vs : Array Value} (hlen : (Builtin.lenOf cx).run P w = .ok m w) (hf : (Builtin.firstCells i.size m cx).run P w = .ok vs w) (hroom : n + m ≤ c)
    (hst : match base with | some a => (storeCells (a.add (n * i.size)) vs.toList).run P w = .ok () w' | none => w' = w) :
    (Builtin.append_ #[t, tx] ty #[.slice base n c, cx]).run P w = .ok (.slice base (n + m) c) w' := by
  cases base with
  | none =>
    subst hst
    rcases hx with ⟨e', hx⟩ | hx <;> simp [Builtin.append_, run_und ht, run_size hi, run_und hx, hlen, hroom, hf]
  | some a =>
    rcases hx with ⟨e', hx⟩ | hx <;> simp [Builtin.append_, run_und ht, run_size hi, run_und hx, hlen, hroom, hf, hst]

/-- There is none. -/
theorem run_app_grow {P : Program} {w : World} {t tx e ty : TypeId} {i : TypeInfo} {z : Value} (ht : P.underlying t = some (.slice e)) (hi : P.info? e = some i) (hz : i.zero = some z) (hx : (∃ e, P.underlying tx = some (.slice e)) ∨ P.underlying tx = some .string)
    {base : Option Addr} {n m c : Nat} {cx : Value} {us vs : Array Value} (hlen : ∀ w', (Builtin.lenOf cx).run P w' = .ok m w') (hf : (Builtin.firstCells i.size m cx).run P w.drew = .ok vs w.drew) (hu : (Builtin.firstCells i.size n (.slice base n c)).run P w.drew = .ok us w.drew)
    (hno : c < n + m) (h63 : ((n + m : Nat) : Int) ≤ 9223372036854775807) (hfit : (n + m) * i.bytes ≤ 140737488355328) :
    (Builtin.append_ #[t, tx] ty #[.slice base n c, cx]).run P w =
      .ok (.slice (some ⟨w.heap.size, 0, none⟩) (n + m) (grownCap w (n + m) c e)) (w.drew.alloc (.cells (us ++ vs ++ Builtin.zeroCells z.cells (grownCap w (n + m) c e - (n + m))) e)) := by
  have hn : ¬ (n + m ≤ c) := by omega
  have h63' : ¬ (9223372036854775807 < ((n : Int) + (m : Int))) := by omega
  have h48' : ¬ (281474976710656 < Builtin.nextslicecap (n + m) c * i.bytes) := by have := growslice_fits hno hfit; omega
  have hzv : ∀ w', (zeroValue e).run P w' = .ok z w' := fun w' => by simp [zeroValue, run_ti hi, hz]
  have hl := hlen w
  rcases hx with ⟨e', hx⟩ | hx <;> simp [Builtin.append_, run_und ht, run_size hi, run_ti hi, run_und hx, hl, hn, h63', h48', Question.forced, hf, hu, hzv, newRow, grownCap]

/-- What is appended: a slice, a string, or as many zeros as a number says. -/
def AppSrc (P : Program) (tx : TypeId) (i : TypeInfo) (zv : Value) (w : World) (n : Nat) (cx : Value) (vs : List Value) : Prop :=
  (((∃ e, P.underlying tx = some (.slice e)) ∨ P.underlying tx = some .string) ∧ (∀ w', (Builtin.lenOf cx).run P w' = .ok n w') ∧ ∀ w', Quiet w w' → (Builtin.firstCells i.size n cx).run P w' = .ok ⟨vs⟩ w') ∨
  (∃ k kd, P.underlying tx = some (.int k) ∧ cx = .int kd (n : Int) ∧ zv.cells.size = i.size ∧ 0 < i.size ∧ vs = repsV zv.cells.toList n ∧ n * i.bytes ≤ 2 ^ 47 ∧ n ≤ 2 ^ 47)

theorem app_room {P : Program} {w w' : World} {t tx e ty : TypeId} {i : TypeInfo} {z : Value} (ht : P.underlying t = some (.slice e)) (hi : P.info? e = some i) (hz : i.zero = some z)
    {base : Option Addr} {n m c : Nat} {cx : Value} {vs : List Value} (hs : AppSrc P tx i z w m cx vs) (hroom : n + m ≤ c)
    (hst : match base with | some a => (storeCells (a.add (n * i.size)) vs).run P w = .ok () w' | none => w' = w) :
    (Builtin.append_ #[t, tx] ty #[.slice base n c, cx]).run P w = .ok (.slice base (n + m) c) w' := by
  rcases hs with ⟨hx, hl, hf⟩ | ⟨k, kd, hx, rfl, hzs, hpos, rfl, hb, hm⟩
  · exact run_app_room ht hi hx (hl w) (hf w ⟨rfl, rfl, rfl, rfl⟩) hroom hst
  · have hw : IntKind.i64.wrap (m : Int) = (m : Int) := IntWalk.i64_in _ (by omega)
    have h1 : ¬ ((m : Int) < 0) := by omega
    have h2 : ¬ ((m : Int) * (i.bytes : Int) > 2 ^ 48) := by
      have : ((m * i.bytes : Nat) : Int) ≤ ((2 ^ 47 : Nat) : Int) := Int.ofNat_le.2 hb
      have e2 : ((m * i.bytes : Nat) : Int) = (m : Int) * (i.bytes : Int) := by simp
      rw [← e2]; omega
    have hzv : (zeroValue e).run P w = .ok z w := by simp [zeroValue, run_ti hi, hz]
    have happ : (if m * i.size = 0 then (pure #[] : Sem (Array Value)) else do pure (Builtin.zeroCells (← zeroValue e).cells m)).run P w = .ok ⟨repsV z.cells.toList m⟩ w := by
      by_cases h0 : m * i.size = 0
      · have : m = 0 := by rcases Nat.mul_eq_zero.1 h0 with h | h; exact h; omega
        subst this; simp [repsV]
      · have := zeros_eq z.cells m (by omega)
        simp only [if_neg h0, Sem.run_bind, hzv, Result.andThen_ok, Sem.run_pure, Builtin.zeroCells, this]
    cases base with
    | none =>
      subst hst
      simp only [Builtin.append_, Sem.run_bind, run_und ht, Result.andThen_ok, run_size hi, run_und hx, List.getElem?_toArray, List.getElem?_cons_zero, List.getElem?_cons_succ, Sem.run_pure, asInt, asIntOf, hw, if_neg h1, run_ti hi, if_neg h2, if_true, Int.toNat_natCast, hroom, Bool.not_true, Bool.false_eq_true, if_false, happ]
    | some a =>
      simp only [Builtin.append_, Sem.run_bind, run_und ht, Result.andThen_ok, run_size hi, run_und hx, List.getElem?_toArray, List.getElem?_cons_zero, List.getElem?_cons_succ, Sem.run_pure, asInt, asIntOf, hw, if_neg h1, run_ti hi, if_neg h2, if_true, Int.toNat_natCast, hroom, Bool.not_true, Bool.false_eq_true, if_false, happ, hst]

theorem app_more {P : Program} {w : World} {t tx e ty : TypeId} {i : TypeInfo} {z : Value} (ht : P.underlying t = some (.slice e)) (hi : P.info? e = some i) (hz : i.zero = some z)
    {base : Option Addr} {n m c : Nat} {cx : Value} {us : Array Value} {vs : List Value} (hs : AppSrc P tx i z w m cx vs) (hu : (Builtin.firstCells i.size n (.slice base n c)).run P w.drew = .ok us w.drew)
    (hno : c < n + m) (h63 : ((n + m : Nat) : Int) ≤ 9223372036854775807) (hfit : (n + m) * i.bytes ≤ 140737488355328) :
    (Builtin.append_ #[t, tx] ty #[.slice base n c, cx]).run P w =
      .ok (.slice (some ⟨w.heap.size, 0, none⟩) (n + m) (grownCap w (n + m) c e)) (w.drew.alloc (.cells (us ++ ⟨vs⟩ ++ Builtin.zeroCells z.cells (grownCap w (n + m) c e - (n + m))) e)) := by
  rcases hs with ⟨hx, hl, hf⟩ | ⟨k, kd, hx, rfl, hzs, hpos, rfl, hb, hm⟩
  · exact run_app_grow ht hi hz hx hl (hf w.drew ⟨rfl, rfl, rfl, rfl⟩) hu hno h63 hfit
  · have hw : IntKind.i64.wrap (m : Int) = (m : Int) := IntWalk.i64_in _ (by omega)
    have h1 : ¬ ((m : Int) < 0) := by omega
    have h2 : ¬ ((m : Int) * (i.bytes : Int) > 2 ^ 48) := by
      have : ((m * i.bytes : Nat) : Int) ≤ ((2 ^ 47 : Nat) : Int) := Int.ofNat_le.2 hb
      have e2 : ((m * i.bytes : Nat) : Int) = (m : Int) * (i.bytes : Int) := by simp
      rw [← e2]; omega
    have hzv : ∀ w', (zeroValue e).run P w' = .ok z w' := fun w' => by simp [zeroValue, run_ti hi, hz]
    have hn : ¬ (n + m ≤ c) := by omega
    have h63' : ¬ (9223372036854775807 < ((n : Int) + (m : Int))) := by omega
    have h48' : ¬ (281474976710656 < Builtin.nextslicecap (n + m) c * i.bytes) := by have := growslice_fits hno hfit; omega
    have h2' : ¬ (281474976710656 < (m : Int) * (i.bytes : Int)) := by omega
    by_cases h0 : m * i.size = 0
    · have hm0 : m = 0 := by rcases Nat.mul_eq_zero.1 h0 with h | h; exact h; omega
      subst hm0
      have w0 : IntKind.i64.wrap 0 = 0 := by decide
      have h63'' : ¬ (9223372036854775807 < (n : Int)) := by omega
      simp [Builtin.append_, run_und ht, run_size hi, run_ti hi, run_und hx, asInt, asIntOf, h63'', Question.forced, hu, hzv, newRow, grownCap, repsV, w0]
      simp only [Nat.add_zero] at h48' hn
      simp [h48', hn]
    · have hz2 : Builtin.zeroCells z.cells m = ⟨repsV z.cells.toList m⟩ := zeros_eq z.cells m (by omega)
      simp [Builtin.append_, run_und ht, run_size hi, run_ti hi, run_und hx, asInt, asIntOf, hw, hn, h63', h48', h2', Question.forced, hu, hzv, newRow, grownCap, hz2]
      rw [if_neg h1, if_neg h0]

theorem grownCap_ge (w : World) (need old : Nat) (e : TypeId) : need ≤ grownCap w need old e := by
  show need ≤ need + _
  exact Nat.le_add_right _ _

/-- The world of a growing append, as the abstract heap sees it. -/
theorem grow_ok {η : Env} {h : Hp} {w : World} {H : Tr AObj} {nx : Nat} (p : Pre η h w H.get nx (nx + 1)) {e s n : Nat} {T : Tr At} {C zs : Array Value} (K : Nat) (hK : n ≤ K) (hs : 0 < s) (hzs : zs.size = s) (hsize : C.size = n * s)
    (hC : ∀ η', η.le η' → Cells η' 0 (n * s) T C) :
    ∃ η', η'.blk nx = some (w.heap.size, 0) ∧ η'.cap nx = K ∧
      Stp η h w H.get (H.put (some (.lcells e (n * s) s T)) nx).get nx (nx + 1) η' (w.drew.alloc (.cells (C ++ Builtin.zeroCells zs (K - n)) e)) := by
  obtain ⟨hnb, _, _⟩ := p.fresh nx (Nat.le_refl _) (by omega)
  have hle := Env.le_set hnb (w.heap.size, 0) K
  refine ⟨η.set nx (w.heap.size, 0) K, Env.set_same _ _ _ _, Env.cap_same _ _ _ _, ?_⟩
  refine (Stp.alloc (w' := w.drew.alloc (.cells (C ++ Builtin.zeroCells zs (K - n)) e)) p (.cells (C ++ Builtin.zeroCells zs (K - n)) e) (.lcells e (n * s) s T) K ⟨rfl, rfl, rfl, rfl⟩ ?_).2
  refine ⟨_, rfl, ?_, ?_, hs, fun i hi => ?_⟩
  · rw [Env.cap_same, Array.size_append, size_zeroCells, hsize, hzs, ← Nat.add_mul]; simp; congr 1; omega
  · rw [Env.cap_same]; exact Nat.mul_le_mul_right _ hK
  · obtain ⟨a, v, h1, h2, h3⟩ := hC _ hle i hi
    refine ⟨a, v, h1, h2, ?_⟩
    rw [Array.getElem?_append, if_pos (by simp; omega)]
    simpa using h3

end
end Go.Proofs.YtmnaddlniaklcaaGreatDoor.Ev
