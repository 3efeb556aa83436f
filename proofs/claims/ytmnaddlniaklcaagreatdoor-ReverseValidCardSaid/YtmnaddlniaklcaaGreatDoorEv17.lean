/- An abstract interpreter of the model's code, seventeenth part: a region that draws its order. -/
import Derived.Test.YtmnaddlniaklcaaGreatDoorEv16
namespace Go.Proofs.YtmnaddlniaklcaaGreatDoor.Ev
open Go

/-! ### Whatever order: every key has a time at which it reads as it does now -/
section agree
variable {K X : Type} {n : Nat} {s : Nat → K → X} {M : Nat → K → Prop} {anc : Nat → Nat → Prop}

def Agree (n : Nat) (s : Nat → K → X) (M : Nat → K → Prop) (L : Nat → Prop) (x : K → X) : Prop :=
  ∀ k, ∃ m, m ≤ n ∧ x k = s m k ∧ (∀ i, i < m → M i k → L i) ∧ (∀ i, m ≤ i → i < n → M i k → ¬ L i)

theorem stay (hs : ∀ i k, i < n → ¬ M i k → s (i + 1) k = s i k) (k : K) : ∀ (d a : Nat), a + d ≤ n → (∀ i, a ≤ i → i < a + d → ¬ M i k) → s (a + d) k = s a k
  | 0, _, _, _ => rfl
  | d + 1, a, h, hn => by
    have := stay hs k d a (by omega) (fun i h1 h2 => hn i h1 (by omega))
    rw [← this]
    exact hs (a + d) k (by omega) (hn (a + d) (by omega) (by omega))

theorem Agree.start : Agree n s M (fun _ => False) (s 0) := fun k => ⟨0, Nat.zero_le _, rfl, fun i h => by omega, fun _ _ _ _ h => h⟩

theorem Agree.look (hs : ∀ i k, i < n → ¬ M i k → s (i + 1) k = s i k) (hlt : ∀ i j, anc i j → j < i) {L : Nat → Prop} {x : K → X} (ag : Agree n s M L x) {i : Nat} (hi : i < n) (hL : ¬ L i) (hup : ∀ j, anc i j → L j)
    (hdn : ∀ j, anc j i → ¬ L j) {k : K} (ho : ∀ j, j < n → j ≠ i → M j k → anc i j ∨ anc j i) : x k = s i k := by
  obtain ⟨m, hm, hx, h1, h2⟩ := ag k
  rw [hx]
  rcases Nat.lt_or_ge i m with h | h
  · obtain ⟨d, rfl⟩ : ∃ d, m = i + d := ⟨m - i, by omega⟩
    refine stay hs k d i hm (fun j hj1 hj2 hM => ?_)
    have hLj := h1 j hj2 hM
    by_cases e : j = i
    · subst e; exact hL hLj
    · rcases ho j (by omega) e hM with h | h
      · have := hlt _ _ h; omega
      · exact hdn j h hLj
  · obtain ⟨d, rfl⟩ : ∃ d, i = m + d := ⟨i - m, by omega⟩
    refine (stay hs k d m (by omega) (fun j hj1 hj2 hM => ?_)).symm
    have hLj := h2 j hj1 (by omega) hM
    rcases ho j (by omega) (by omega) hM with h | h
    · exact hLj (hup j h)
    · have := hlt _ _ h; omega

theorem Agree.step (hlt : ∀ i j, anc i j → j < i) {L : Nat → Prop} {x x' : K → X} (ag : Agree n s M L x) {i : Nat} (hi : i < n) (hup : ∀ j, anc i j → L j) (hdn : ∀ j, anc j i → ¬ L j)
    (ho : ∀ k, M i k → ∀ j, j < n → j ≠ i → M j k → anc i j ∨ anc j i) (h1 : ∀ k, M i k → x' k = s (i + 1) k) (h2 : ∀ k, ¬ M i k → x' k = x k) : Agree n s M (fun j => L j ∨ j = i) x' := by
  intro k
  by_cases hM : M i k
  · refine ⟨i + 1, hi, h1 k hM, fun j hj hMj => ?_, fun j hj1 hj2 hMj => ?_⟩
    · by_cases e : j = i
      · exact .inr e
      · rcases ho k hM j (by omega) e hMj with h | h
        · exact .inl (hup j h)
        · have := hlt _ _ h; omega
    · rintro (h | h)
      · rcases ho k hM j hj2 (by omega) hMj with h' | h'
        · have := hlt _ _ h'; omega
        · exact hdn j h' h
      · omega
  · obtain ⟨m, hm, hx, g1, g2⟩ := ag k
    refine ⟨m, hm, (h2 k hM).trans hx, fun j hj hMj => .inl (g1 j hj hMj), fun j hj1 hj2 hMj => ?_⟩
    rintro (h | h)
    · exact g2 j hj1 hj2 hMj h
    · subst h; exact hM hMj

theorem Agree.done (hs : ∀ i k, i < n → ¬ M i k → s (i + 1) k = s i k) {L : Nat → Prop} {x : K → X} (ag : Agree n s M L x) (hL : ∀ i, i < n → L i) : x = s n := by
  funext k
  obtain ⟨m, hm, hx, _, h2⟩ := ag k
  rw [hx]
  obtain ⟨d, rfl⟩ : ∃ d, n = m + d := ⟨n - m, by omega⟩
  exact (stay hs k d m (Nat.le_refl _) (fun j hj1 hj2 hM => h2 j hj1 hj2 hM (hL j hj2))).symm
end agree

/-! ### Ancestors -/
theorem ancs_prefix : ∀ (l : List Oper) (acc : List Nat) (i : Nat), i < acc.length → (ancs l acc)[i]? = acc[i]? := by
  intro l
  induction l with
  | nil => intro acc i h; rfl
  | cons o l ih =>
    intro acc i h
    simp only [ancs]
    rw [ih _ i (by simp; omega), List.getElem?_append, if_pos h]
theorem anc1_congr {acc A : List Nat} (h : ∀ i, i < acc.length → A[i]? = acc[i]?) : ∀ (l : List Edge) (j : Nat), (anc1 acc l).testBit j = true → ∃ e ∈ l, Region.binds .any e = true ∧ e.on < acc.length ∧ (e.on = j ∨ (A.getD e.on 0).testBit j = true) := by
  intro l
  induction l with
  | nil => intro j hj; simp [anc1] at hj
  | cons e l ih =>
    intro j hj
    simp only [anc1] at hj
    split at hj
    · rename_i hb
      rw [Bool.and_eq_true] at hb
      have hlt := blt_lt hb.2
      have e1 : Nat.lor (Nat.lor (2 ^ e.on) (acc.getD e.on 0)) (anc1 acc l) = (2 ^ e.on ||| acc.getD e.on 0) ||| anc1 acc l := rfl
      rw [e1, Nat.testBit_or, Nat.testBit_or, Bool.or_eq_true, Bool.or_eq_true] at hj
      rcases hj with (hj | hj) | hj
      · rw [Nat.testBit_two_pow] at hj
        exact ⟨e, by simp, hb.1, hlt, .inl (by simpa using hj)⟩
      · refine ⟨e, by simp, hb.1, hlt, .inr ?_⟩
        have : A.getD e.on 0 = acc.getD e.on 0 := by rw [List.getD_eq_getElem?_getD, List.getD_eq_getElem?_getD, h _ hlt]
        rw [this]; exact hj
      · obtain ⟨e', he', h'⟩ := ih j hj
        exact ⟨e', by simp [he'], h'⟩
    · obtain ⟨e', he', h'⟩ := ih j hj
      exact ⟨e', by simp [he'], h'⟩
theorem ancs_spec : ∀ (l : List Oper) (acc : List Nat) (k : Nat) (o : Oper), l[k]? = some o → ∀ j, ((ancs l acc).getD (acc.length + k) 0).testBit j = true →
    ∃ e ∈ o.after, Region.binds .any e = true ∧ e.on < acc.length + k ∧ (e.on = j ∨ ((ancs l acc).getD e.on 0).testBit j = true) := by
  intro l
  induction l with
  | nil => intro acc k o h; simp at h
  | cons p l ih =>
    intro acc k o h j hj
    cases k with
    | zero =>
      simp at h; subst h
      simp only [ancs, Nat.add_zero] at hj ⊢
      have hpre := ancs_prefix l (acc ++ [anc1 acc p.after.toList]) acc.length (by simp)
      rw [List.getD_eq_getElem?_getD, hpre] at hj
      simp at hj
      obtain ⟨e, he, hb, hlt, h'⟩ := anc1_congr (A := ancs l (acc ++ [anc1 acc p.after.toList])) (fun i hi => by rw [ancs_prefix _ _ i (by simp; omega), List.getElem?_append, if_pos hi]) p.after.toList j hj
      exact ⟨e, by simpa using he, hb, hlt, h'⟩
    | succ k =>
      simp only [ancs] at hj ⊢
      have := ih (acc ++ [anc1 acc p.after.toList]) k o (by simpa using h) j (by rw [show (acc ++ [anc1 acc p.after.toList]).length + k = acc.length + (k + 1) by simp; omega]; exact hj)
      obtain ⟨e, he, hb, hlt, h'⟩ := this
      exact ⟨e, he, hb, by simp at hlt; omega, h'⟩
theorem ancs_none : ∀ (l : List Oper) (acc : List Nat), (ancs l acc).length = acc.length + l.length := by
  intro l
  induction l with
  | nil => intro acc; simp [ancs]
  | cons o l ih => intro acc; simp only [ancs, ih]; simp; omega

def Anc (ops : Array Oper) (i j : Nat) : Prop := bitA (ancs ops.toList []) i j = true

theorem Anc.edge {ops : Array Oper} {i j : Nat} (h : Anc ops i j) : ∃ o, ops[i]? = some o ∧ ∃ e ∈ o.after, Region.binds .any e = true ∧ e.on < i ∧ (e.on = j ∨ Anc ops e.on j) := by
  unfold Anc bitA at h
  cases ho : ops[i]? with
  | none =>
    have hge : ops.size ≤ i := by
      rcases Nat.lt_or_ge i ops.size with h' | h'
      · simp [h'] at ho
      · exact h'
    rw [List.getD_eq_getElem?_getD, List.getElem?_eq_none (by rw [ancs_none]; simp; omega)] at h
    simp at h
  | some o =>
    obtain ⟨e, he, hb, hlt, h'⟩ := ancs_spec ops.toList [] i o (by simpa using ho) j (by simpa using h)
    exact ⟨o, rfl, e, he, hb, by simpa using hlt, h'⟩
theorem Anc.lt {ops : Array Oper} : ∀ {i j : Nat}, Anc ops i j → j < i := by
  intro i
  induction i using Nat.strongRecOn with
  | _ i ih =>
    intro j h
    obtain ⟨o, _, e, _, _, hlt, h'⟩ := h.edge
    rcases h' with rfl | h'
    · exact hlt
    · have := ih e.on hlt h'; omega
/-- A set of operations that holds, with each, those that it waits for. -/
def Closed (ops : Array Oper) (L : Nat → Prop) : Prop := ∀ i o, ops[i]? = some o → L i → ∀ e ∈ o.after, Region.binds .any e = true → L e.on
theorem Anc.closed {ops : Array Oper} {L : Nat → Prop} (hc : Closed ops L) : ∀ {i j : Nat}, Anc ops i j → L i → L j := by
  intro i
  induction i using Nat.strongRecOn with
  | _ i ih =>
    intro j h hL
    obtain ⟨o, ho, e, he, hb, hlt, h'⟩ := h.edge
    have := hc i o ho hL e he hb
    rcases h' with rfl | h'
    · exact this
    · exact ih e.on hlt h' this
theorem Anc.ready {ops : Array Oper} {L : Nat → Prop} (hc : Closed ops L) {i : Nat} {o : Oper} (ho : ops[i]? = some o) (hr : ∀ e ∈ o.after, Region.binds .any e = true → L e.on) {j : Nat} (h : Anc ops i j) : L j := by
  obtain ⟨o', ho', e, he, hb, hlt, h'⟩ := h.edge
  rw [ho] at ho'; cases ho'
  have := hr e he hb
  rcases h' with rfl | h'
  · exact this
  · exact h'.closed hc this

/-! ### Lists of blocks -/
theorem elemN_iff {b : Nat} : ∀ {l : List Nat}, elemN b l = true ↔ b ∈ l
  | [] => by simp [elemN]
  | x :: l => by
    simp only [elemN]
    cases h : Nat.beq b x with
    | true => simp [Nat.eq_of_beq_eq_true h]
    | false =>
      have : b ≠ x := fun e => by rw [e] at h; simp at h
      simp [this, elemN_iff (l := l)]
theorem disj_ok {m : List Nat} : ∀ {l : List Nat}, disj l m = true → ∀ b ∈ l, b ∉ m
  | [], _, b, hb => by cases hb
  | x :: l, h, b, hb => by
    simp only [disj] at h
    split at h
    · cases h
    · rename_i hx
      rcases List.mem_cons.1 hb with rfl | hb
      · intro hc; rw [elemN_iff.2 hc] at hx; cases hx
      · exact disj_ok h b hb
theorem noneAt_ok {G : Tr AObj} : ∀ {l : List Nat}, noneAt G l = true → ∀ b ∈ l, G.get b = none
  | [], _, b, hb => by cases hb
  | x :: l, h, b, hb => by
    simp only [noneAt] at h
    split at h
    · rename_i hx
      rcases List.mem_cons.1 hb with rfl | hb
      · exact hx
      · exact noneAt_ok h b hb
    · cases h
theorem atB_ok {a b : At} (h : atB a b = true) : a = b := by
  unfold atB at h
  split at h <;> first
    | (simp only [Bool.and_eq_true, Nat.beq_eq, beq_iff_eq] at h; simp_all; done)
    | cases h
    | rfl
theorem trB_ok : ∀ {t u : Tr At}, trB t u = true → t = u := by
  intro t
  induction t with
  | nil => intro u h; cases u with | nil => rfl | node _ _ _ _ _ _ _ _ _ => cases h
  | node v c0 c1 c2 c3 c4 c5 c6 c7 ih0 ih1 ih2 ih3 ih4 ih5 ih6 ih7 =>
    intro u h
    cases u with
    | nil => cases h
    | node v' d0 d1 d2 d3 d4 d5 d6 d7 =>
      simp only [trB] at h
      split at h
      · rename_i hv
        simp only [Bool.and_eq_true] at h
        obtain ⟨⟨⟨⟨⟨⟨⟨h0, h1⟩, h2⟩, h3⟩, h4⟩, h5⟩, h6⟩, h7⟩ := h
        have e1 : v = v' := by
          cases v <;> cases v' <;> simp only [optB] at hv <;> first | rfl | cases hv | rw [atB_ok hv]
        rw [e1, ih0 h0, ih1 h1, ih2 h2, ih3 h3, ih4 h4, ih5 h5, ih6 h6, ih7 h7]
      · cases h
theorem objB_ok {a b : Option AObj} (h : objB a b = true) : a = b := by
  unfold objB at h
  split at h
  · rfl
  · simp only [Bool.and_eq_true] at h
    obtain ⟨⟨h1, h2⟩, h3⟩ := h
    rw [Nat.eq_of_beq_eq_true h1, Nat.eq_of_beq_eq_true h2, trB_ok h3]
  · simp only [Bool.and_eq_true] at h
    obtain ⟨⟨⟨h1, h2⟩, h4⟩, h3⟩ := h
    rw [Nat.eq_of_beq_eq_true h1, Nat.eq_of_beq_eq_true h2, Nat.eq_of_beq_eq_true h4, trB_ok h3]
  · cases h
theorem keptAt_ok {s : Sp} : ∀ {l : List Nat}, keptAt s l = true → ∀ b ∈ l, b < s.nx ∧ (s.G.get b = none ∨ s.G.get b = s.G'.get b)
  | [], _, b, hb => by cases hb
  | x :: l, h, b, hb => by
    simp only [keptAt] at h
    split at h
    · rename_i hlt
      split at h
      · rename_i hx
        rcases List.mem_cons.1 hb with rfl | hb
        · exact ⟨blt_lt hlt, .inl hx⟩
        · exact keptAt_ok h b hb
      · split at h
        · rename_i ho
          rcases List.mem_cons.1 hb with rfl | hb
          · exact ⟨blt_lt hlt, .inr (objB_ok ho)⟩
          · exact keptAt_ok h b hb
        · cases h
    · cases h
theorem get_mergeL (H G : Tr AObj) : ∀ (l : List Nat) (b : Nat), (mergeL H G l).get b = (if b ∈ l then G.get b else H.get b)
  | [], b => by simp [mergeL]
  | x :: l, b => by
    simp only [mergeL, Tr.get_put, get_mergeL H G l b, List.mem_cons]
    by_cases e : b = x
    · subst e; simp
    · simp [e]
theorem get_dropL (H : Tr AObj) : ∀ (l : List Nat) (b : Nat), (dropL H l).get b = (if b ∈ l then none else H.get b)
  | [], b => by simp [dropL]
  | x :: l, b => by
    simp only [dropL, Tr.get_put, get_dropL H l b, List.mem_cons]
    by_cases e : b = x
    · subst e; simp
    · simp [e]
theorem get_restr (H : Tr AObj) : ∀ (l : List Nat) (b : Nat), (restr H l).get b = (if b ∈ l then H.get b else none)
  | [], b => by simp [restr, Tr.get_nil]
  | x :: l, b => by
    simp only [restr]
    split
    · rename_i o ho
      simp only [Tr.get_put, get_restr H l b, List.mem_cons]
      by_cases e : b = x
      · subst e; simp [ho]
      · simp [e]
    · rename_i ho
      simp only [get_restr H l b, List.mem_cons]
      by_cases e : b = x
      · subst e; simp [ho]
      · simp [e]
theorem get_restrT (tm : Tr V) : ∀ (l : List Tmp) (b : Nat), (restrT tm l).get b = (if b ∈ l then tm.get b else none)
  | [], b => by simp [restrT, Tr.get_nil]
  | x :: l, b => by
    simp only [restrT]
    split
    · rename_i o ho
      simp only [Tr.get_put, get_restrT tm l b, List.mem_cons]
      by_cases e : b = x
      · subst e; simp [ho]
      · simp [e]
    · rename_i ho
      simp only [get_restrT tm l b, List.mem_cons]
      by_cases e : b = x
      · subst e; simp [ho]
      · simp [e]
theorem mem_rng : ∀ {n a b : Nat}, b ∈ rng a n ↔ a ≤ b ∧ b < a + n
  | 0, a, b => by simp [rng]
  | n + 1, a, b => by simp only [rng, List.mem_cons, mem_rng (n := n)]; omega
theorem mem_changed {G G' : Tr AObj} : ∀ {l : List Nat} {b : Nat}, b ∈ l → b ∉ changed G G' l → G.get b = G'.get b
  | [], b, hb, _ => by cases hb
  | x :: l, b, hb, hn => by
    simp only [changed] at hn
    split at hn
    · rename_i ho
      rcases List.mem_cons.1 hb with rfl | hb
      · exact objB_ok ho
      · exact mem_changed hb hn
    · rcases List.mem_cons.1 hb with rfl | hb
      · exact absurd (by simp) hn
      · exact mem_changed hb (fun hc => hn (by simp [hc]))
theorem changed_sub {G G' : Tr AObj} : ∀ {l : List Nat} {b : Nat}, b ∈ changed G G' l → b ∈ l
  | [], b, hb => by cases hb
  | x :: l, b, hb => by
    simp only [changed] at hb
    split at hb
    · simp [changed_sub hb]
    · rcases List.mem_cons.1 hb with rfl | hb
      · simp
      · simp [changed_sub hb]
theorem allLt_ok {n : Nat} : ∀ {l : List Nat}, allLt n l = true → ∀ b ∈ l, b < n
  | [], _, b, hb => by cases hb
  | x :: l, h, b, hb => by
    simp only [allLt] at h
    split at h
    · rename_i hx
      rcases List.mem_cons.1 hb with rfl | hb
      · exact blt_lt hx
      · exact allLt_ok h b hb
    · cases h

end Go.Proofs.YtmnaddlniaklcaaGreatDoor.Ev
