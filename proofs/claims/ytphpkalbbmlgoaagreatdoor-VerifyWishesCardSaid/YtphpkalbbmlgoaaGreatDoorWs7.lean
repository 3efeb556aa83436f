/- How the arguments of VerifyWishes read. -/
import Derived.Test.YtphpkalbbmlgoaaGreatDoorWs6
import Derived.Test.YtphpkalbbmlgoaaGreatDoorTabA
import Derived.WalkKit
import Derived.ProofKit
import Derived.OpenShut
import Derived.ShutString
import Derived.Deep.Slices
import Derived.Deep.Fields
import Derived.ChangeSame
import Derived.Lib.SmallJoins
import Derived.LaidMore
import Derived.Stop.Joined
namespace Go.Proofs.YtphpkalbbmlgoaaGreatDoor
open Go.ChangeShapes Go.WideShapes Go.ChangeAt Go.RowKit Go.Deep Go.Joins

theorem toNat_u8 (m : Nat) (h : m < 256) : (UInt8.ofNat m).toNat = m := by rw [UInt8.toNat_ofNat']; omega

theorem list_of {α : Type} {P : Nat → α → Prop} : ∀ (n : Nat), (∀ i, i < n → ∃ x, P i x) → ∃ l : List α, l.length = n ∧ ∀ i (hi : i < l.length), P i l[i]
  | 0, _ => ⟨[], rfl, fun i hi => absurd hi (by simp)⟩
  | n + 1, h => by
    obtain ⟨l, hl, hp⟩ := list_of n (fun i hi => h i (by omega))
    obtain ⟨x, hx⟩ := h n (by omega)
    refine ⟨l ++ [x], by simp [hl], fun i hi => ?_⟩
    by_cases hin : i < l.length
    · rw [List.getElem_append_left hin]
      exact hp i hin
    · have e : i = l.length := by simp at hi; omega
      subst e
      rw [List.getElem_append_right (by omega)]
      simp only [Nat.sub_self, List.getElem_cons_zero]
      rw [hl]
      exact hx

theorem cell_plain {w : World} {b off : Nat} {sp : Option Nat} {u : Value} (h : w.cell? ⟨b, off, sp⟩ = some u) : sp = none := by
  unfold World.cell? at h
  cases sp with
  | none => rfl
  | some x => simp at h; split at h <;> simp_all

theorem flat_len_c {α β : Type} (f : α → List β) (c : Nat) (hc : ∀ x, (f x).length = c) : ∀ xs : List α, (xs.flatMap f).length = xs.length * c
  | [] => by simp
  | x :: xs => by rw [List.flatMap_cons, List.length_append, hc, flat_len_c f c hc xs, List.length_cons, Nat.add_mul]; omega

theorem reads_of_rows {α : Type} {w : World} (f : α → List Value) (c : Nat) (hp : 0 < c) (hc : ∀ x, (f x).length = c) (l : List α) (A : Option Addr) (cap : Nat) (h1 : l.length ≤ cap) (h2 : cap ≤ maxLen)
    (h : 0 < l.length → ∃ ad, A = some ad ∧ ∀ k (hk : k < l.length) j u, j < c → (f l[k])[j]? = some u → w.cell? (ad.add (k * c + j)) = some u) : Reads w c (.slice A l.length cap) l.length (l.flatMap f) := by
  refine ⟨A, cap, rfl, h1, h2, flat_len_c f c hc l, fun hn => ?_⟩
  obtain ⟨⟨b, off, sp⟩, rfl, hcell⟩ := h hn
  have h0 := hcell 0 hn 0 _ hp (List.getElem?_eq_getElem (by rw [hc]; exact hp))
  have hz : (⟨b, off, sp⟩ : Addr).add (0 * c + 0) = ⟨b, off, sp⟩ := by unfold Addr.add; simp
  rw [hz] at h0
  have hsp := cell_plain h0
  subst hsp
  refine ⟨b, off, rfl, World.block_lt_of_cell? w _ h0, fun j u hu => ?_⟩
  have hj : j < l.length * c := by
    have := (List.getElem?_eq_some_iff.1 hu).1
    rwa [flat_len_c f c hc] at this
  have hk : j / c < l.length := Nat.div_lt_of_lt_mul (by rw [Nat.mul_comm]; exact hj)
  have hm : j % c < c := Nat.mod_lt _ hp
  have e : j / c * c + j % c = j := by rw [Nat.mul_comm]; exact Nat.div_add_mod j c
  have h3 := flat_at f c hc l (j / c) (j % c) hk hm
  rw [e, hu] at h3
  have h4 := hcell (j / c) hk (j % c) u hm h3.symm
  rw [e, add_lit] at h4
  exact h4

section
variable {H : Type} {enc : TypeId × Value → H} {P : Program} {w : World} {base : Nat} {held : Bool}
theorem open_rows1 {t e : TypeId} {fs : Array Field} {v : Value} {fuel : Nat} {y0 : DataW H × List MemPlace} (ht : P.underlying t = some (.slice e)) (he : P.underlying e = some (.struct fs)) (hone : oneCellFields P fs = true) (hC : P.cellsOf e = fs.size)
    (hf : DataW.trod enc P w base (fun _ => true) held fuel t [v] = some y0) :
    ∃ A len cap, v = .slice A len cap ∧ len ≤ cap ∧ cap ≤ maxLen ∧ ((A = none ∧ len = 0) ∨ ∃ ad, A = some ad ∧ ∀ i, i < len → ∀ (j : Nat) (f : Field), fs[j]? = some f → ∃ (u : Value) (n : Nat) (y : DataW H × List MemPlace), w.cell? (ad.add (i * fs.size + j)) = some u ∧ DataW.trod enc P w base (fun _ => true) held n f.type [u] = some y) := by
  rcases open_slice ht hf with ⟨hcs, _⟩ | ⟨ad, len', cap', m, n, D, Pl, hcs, _, hl, hm, hmm, _, hi⟩
  · simp at hcs
    subst hcs
    exact ⟨none, 0, 0, rfl, Nat.le_refl _, Nat.zero_le _, .inl ⟨rfl, rfl⟩⟩
  · simp at hcs
    subst hcs
    refine ⟨_, _, _, rfl, hl, hm, .inr ⟨ad, rfl, fun i him j f hj => ?_⟩⟩
    simp only [if_true] at hmm
    obtain ⟨cs', hc, ht'⟩ := hi i (by omega)
    rw [hC] at hc
    obtain ⟨ys, n', _, _, _, hyl, hff⟩ := DataW.trod_struct he ht'
    obtain ⟨_, hcl, hat⟩ := World.cells?_some hc
    obtain ⟨ho, hk⟩ := hone_of hone j f hj
    have hjl : j < fs.size := (Array.getElem?_eq_some_iff.1 hj).1
    have hcell := hat j hjl
    have hv' : cs'[j]? = some (cs'[j]'(by omega)) := List.getElem?_eq_getElem (by omega)
    have h1 := hff j f hj
    rw [ho, hk] at h1
    have hone' : (cs'.drop j).take 1 = [cs'[j]'(by omega)] := by
      rw [List.drop_eq_getElem_cons (by omega)]
      rfl
    rw [hone'] at h1
    have hys : ys[j]? = some (ys[j]'(by omega)) := List.getElem?_eq_getElem (by omega)
    refine ⟨cs'[j]'(by omega), n', ys[j]'(by omega), ?_, h1.trans hys⟩
    rw [← Go.Deep.add_add, hcell, hv']

theorem slice_arg {r : Reach} {b0 : Nat} {t e : TypeId} {v : Value} {d : DataW H} {p : List MemPlace} {sp : Nat → Bool} (ht : P.underlying t = some (.slice e)) (hv : Value.okWide P w r b0 t v) (h : DataW.Trod enc P w base sp held t v d p) : ∃ fuel, DataW.trod enc P w base sp held fuel t [v] = some (d, p) := by
  obtain ⟨a, len, cap, rfl⟩ := okWide_slice ht hv
  obtain ⟨fuel, hf⟩ := h
  exact ⟨fuel, by simpa [Value.cells] using hf⟩

end
section
variable {H : Type} {enc : TypeId × Value → H} {W : World} {base : Nat}
def IsI (v : Value) (n : Int) : Prop := v = .int .i64 n ∧ Fits n

set_option maxRecDepth 100000 in
theorem open_i {v : Value} {d : DataW H} {p : List MemPlace} (hv : Value.okWide Tryz.prog W .any base 3 v) (h : DataW.Trod enc Tryz.prog W 0 (fun _ => true) true 3 v d p) : ∃ n, IsI v n := by
  obtain ⟨n, rfl, rfl, rfl, wf⟩ := open_int Tryz.underlying3 hv h
  have := bounds_i64 wf
  exact ⟨n, rfl, by unfold Fits; omega⟩

def IsY (W : World) (v : Value) (l : List UInt8) : Prop := Bytes W v l

theorem bytes_of_ints {w : World} {a : Option Addr} {len cap : Nat} (zs : List Int) (hl : len ≤ cap) (hm : cap ≤ maxLen) (hz : zs.length = cap) (ad : Addr) (ha : a = some ad) (hcell : ∀ i, i < zs.length → w.cell? (ad.add i) = some (.int .u8 (zs.getD i 0)))
    (hwz : ∀ n ∈ zs, (Lit.int .u8 n).wf = true) : ∃ l, Bytes w (.slice a len cap) l := by
  subst ha
  refine ⟨(zs.take len).map fun n => UInt8.ofNat n.toNat, some ad, cap, ?_, ?_, hm, by simp, fun hn => ?_⟩
  · simp; omega
  · simp; omega
  · simp at hn
    have h0 := hcell 0 (by omega)
    obtain ⟨b, off, sp⟩ := ad
    have hsp : sp = none := by
      have hh : (⟨b, off, sp⟩ : Addr).add 0 = ⟨b, off, sp⟩ := by unfold Addr.add; simp
      rw [hh] at h0
      unfold World.cell? at h0
      cases sp with
      | none => rfl
      | some x => simp at h0; split at h0 <;> simp_all
    subst hsp
    refine ⟨b, off, rfl, World.block_lt_of_cell? w _ (by rw [add_lit] at h0; exact h0), fun j u hu => ?_⟩
    simp only [List.map_map, List.getElem?_map, List.getElem?_take] at hu
    split at hu
    · rename_i hj
      have hjz : j < zs.length := by omega
      have h1 := hcell j hjz
      rw [add_lit] at h1
      rw [h1]
      rw [List.getElem?_eq_getElem hjz] at hu
      simp at hu
      rw [← hu]
      have hb := bounds_u8 (hwz _ (List.getElem_mem hjz))
      unfold B
      rw [toNat_u8 _ (by omega)]
      simp [List.getD, List.getElem?_eq_getElem hjz]
      omega
    · simp at hu

set_option maxRecDepth 100000 in
theorem open_y {v : Value} {d : DataW H} {p : List MemPlace} (hv : Value.okWide Tryz.prog W .any base 23 v) (h : DataW.Trod enc Tryz.prog W 0 (fun _ => true) true 23 v d p) : ∃ l, IsY W v l := by
  obtain ⟨a1, len1, cap1, rfl⟩ := okWide_slice Tryz.underlying23 hv
  obtain ⟨fuel, hf⟩ := h
  rcases open_ints Tryz.underlying23 Tryz.underlying5 (by kernel_rfl) hf with ⟨hcs, _⟩ | ⟨x, l, c, zs, hcs, _, hl, hm, hz, _, hcell, hwz⟩
  · simp [Value.cells] at hcs
    obtain ⟨rfl, rfl, rfl⟩ := hcs
    exact ⟨[], Reads.nil _ _⟩
  · simp [Value.cells] at hcs
    obtain ⟨rfl, rfl, rfl⟩ := hcs
    exact bytes_of_ints zs hl hm (by simpa using hz) x rfl hcell hwz

theorem trod_i {u : Value} {n : Nat} {y : DataW H × List MemPlace} (h : DataW.trod enc Tryz.prog W 0 (fun _ => true) true n 3 [u] = some y) : ∃ m, u = I m ∧ Fits m := by
  obtain ⟨m, hcs, _, wf⟩ := DataW.trod_int Tryz.underlying3 h
  have := bounds_i64 wf
  exact ⟨m, by injection hcs, by unfold Fits; omega⟩

set_option maxRecDepth 100000 in
theorem trod_wishes {v : Value} {n : Nat} {y : DataW H × List MemPlace} (h : DataW.trod enc Tryz.prog W 0 (fun _ => true) true n 22 [v] = some y) : ∃ xs, Wishes W v xs := by
  obtain ⟨A, len, cap, rfl, h1, h2, hr⟩ := open_rows1 Tryz.underlying22 Tryz.underlying26 (by kernel_rfl) (by kernel_rfl) h
  rcases hr with ⟨rfl, rfl⟩ | ⟨ad, rfl, hr⟩
  · exact ⟨[], ⟨none, cap, rfl, h1, h2, rfl, fun h => absurd h (by simp)⟩, by simp⟩
  · obtain ⟨l, hl, hp⟩ := list_of (P := fun i (x : Wx) => W.cell? (ad.add (i * 3 + 0)) = some (I x.ar) ∧ W.cell? (ad.add (i * 3 + 1)) = some (I x.st) ∧ W.cell? (ad.add (i * 3 + 2)) = some (I x.vl) ∧ x.Fit) len (fun i hi => by
      obtain ⟨u0, n0, y0, k0, t0⟩ := hr i hi 0 _ rfl
      obtain ⟨u1, n1, y1, k1, t1⟩ := hr i hi 1 _ rfl
      obtain ⟨u2, n2, y2, k2, t2⟩ := hr i hi 2 _ rfl
      obtain ⟨m0, rfl, f0⟩ := trod_i t0
      obtain ⟨m1, rfl, f1⟩ := trod_i t1
      obtain ⟨m2, rfl, f2⟩ := trod_i t2
      exact ⟨⟨m0, m1, m2⟩, k0, k1, k2, f0, f1, f2⟩)
    subst hl
    refine ⟨l, reads_of_rows Wx.cells 3 (by omega) (fun _ => rfl) l (some ad) cap h1 h2 (fun _ => ⟨ad, rfl, fun k hk j u hj hu => ?_⟩), fun x hx => ?_⟩
    · obtain ⟨a0, a1, a2, _⟩ := hp k hk
      match j, hj, hu with
      | 0, _, hu => cases hu; exact a0
      | 1, _, hu => cases hu; exact a1
      | 2, _, hu => cases hu; exact a2
    · obtain ⟨i, hi, rfl⟩ := List.getElem_of_mem hx
      exact (hp i hi).2.2.2

set_option maxRecDepth 100000 in
theorem open_wishes {v : Value} {d : DataW H} {p : List MemPlace} (hv : Value.okWide Tryz.prog W .any base 22 v) (h : DataW.Trod enc Tryz.prog W 0 (fun _ => true) true 22 v d p) : ∃ xs, Wishes W v xs := by
  obtain ⟨fuel, hf⟩ := slice_arg Tryz.underlying22 hv h
  exact trod_wishes hf

end
end Go.Proofs.YtphpkalbbmlgoaaGreatDoor
