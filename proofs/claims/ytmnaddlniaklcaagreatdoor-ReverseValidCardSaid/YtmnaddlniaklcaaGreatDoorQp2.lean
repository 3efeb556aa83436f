/- A quick interpreter for the kernel: proofs, second part: operations on whole numbers. -/
import Derived.Test.YtmnaddlniaklcaaGreatDoorQp1
namespace Go.Proofs.YtmnaddlniaklcaaGreatDoor.Ev
open Go

theorem evPure_int {P : Program} {dst : Option Tmp} {op : BinOp} {t yt : TypeId} {x y : Operand} {type : TypeId} {pos : String} {after : Array Edge} {guard : Option (Nat × Bool)} {tm : Tr V} {k k' : IntKind} {a b : Int} {cv : Value} {v : V}
    (hx : evO P tm x = some (.one (.int k a))) (hy : evO P tm y = some (.one (.int k' b))) (h2 : Go.binOp op t (.int k a) (.int k' b) = pure cv) (h1 : absV cv = some v) : evPure P ⟨dst, .binOp op t x y yt, type, pos, after, guard⟩ tm = some v := by
  have rx : rho0 P tm x = .int k a := by simp [rho0, hx, V.conc, comp, concs, At.conc]
  have ry : rho0 P tm y = .int k' b := by simp [rho0, hy, V.conc, comp, concs, At.conc]
  have fx : flatO P tm x = true := by simp [flatO, hx, V.conc, comp, concs, At.conc]
  have fy : flatO P tm y = true := by simp [flatO, hy, V.conc, comp, concs, At.conc]
  have hg : eqGuard op t x y (.int k a) (.int k' b) = pure () := by cases op <;> rfl
  have hl : flatL P tm (Op.operands (.binOp op t x y yt)).toList = true := by simp [Op.operands, flatL, fx, fy]
  have he : execOp (rho0 P tm) ⟨dst, .binOp op t x y yt, type, pos, after, guard⟩ = pure (.value cv) := by
    simp only [execOp, rx, ry, hg, h2]; rfl
  unfold evPure
  simp only [isSelect, hl, he]
  exact h1
theorem evR_int {P : Program} {dst : Option Tmp} {op : BinOp} {t yt : TypeId} {x y : Operand} {type : TypeId} {pos : String} {after : Array Edge} {guard : Option (Nat × Bool)} {tm : Tr V} {H : Tr AObj} {k k' : IntKind} {a b : Int} {cv : Value} {v : V}
    (hx : evO P tm x = some (.one (.int k a))) (hy : evO P tm y = some (.one (.int k' b))) (h2 : Go.binOp op t (.int k a) (.int k' b) = pure cv) (h1 : absV cv = some v) : evR P ⟨dst, .binOp op t x y yt, type, pos, after, guard⟩ tm H = some v := by
  have hp := evPure_int (dst := dst) (yt := yt) (type := type) (pos := pos) (after := after) (guard := guard) hx hy h2 h1
  cases op <;> simp only [evR] <;> first | exact hp | (unfold evBin; simp only [hx, hy, evEq_int]; exact hp)

theorem i64_wrap {n : Nat} (h : n ≤ 9223372036854775807) : IntKind.i64.wrap (Int.ofNat n) = Int.ofNat n := by
  rw [← wrapF_eq]
  have : Nat.blt n 9223372036854775808 = true := by simp [blt_iff]; omega
  simp [wrapF, this]
theorem u64_wrap (n : Nat) : IntKind.u64.wrap (Int.ofNat n) = Int.ofNat (n % 18446744073709551616) := by
  unfold IntKind.wrap
  simp [IntKind.signed, IntKind.bits]
theorem lt64 {n : Nat} (h : n < 18446744073709551616) : n % 18446744073709551616 = n := Nat.mod_eq_of_lt h

theorem absV_int (k : IntKind) (n : Int) : absV (.int k n) = some (.one (.int k n)) := rfl
theorem absV_bool (b : Bool) : absV (.bool b) = some (.one (.bool b)) := rfl

section
variable (t : TypeId) (a b : Nat)
theorem bin_add (k : IntKind) : Go.binOp .add t (.int k (.ofNat a)) (.int k (.ofNat b)) = pure (.int k (k.wrap (.ofNat (a + b)))) := by simp [Go.binOp, Op.intArith]
theorem bin_sub (k : IntKind) (h : b ≤ a) : Go.binOp .sub t (.int k (.ofNat a)) (.int k (.ofNat b)) = pure (.int k (k.wrap (.ofNat (a - b)))) := by
  have : (Int.ofNat a - Int.ofNat b) = Int.ofNat (a - b) := by simp; omega
  simp only [Go.binOp, Op.intArith, ne_eq, not_true, if_false, this]
theorem bin_mul (k : IntKind) : Go.binOp .mul t (.int k (.ofNat a)) (.int k (.ofNat b)) = pure (.int k (k.wrap (.ofNat (a * b)))) := by simp [Go.binOp, Op.intArith]
theorem bin_quo (k : IntKind) (h : b ≠ 0) : Go.binOp .quo t (.int k (.ofNat a)) (.int k (.ofNat b)) = pure (.int k (k.wrap (.ofNat (a / b)))) := by
  have hb : ¬ (Int.ofNat b = 0) := by simp; omega
  simp only [Go.binOp, Op.intDiv, ne_eq, not_true, if_false, hb]; rfl
theorem bin_rem (k : IntKind) (h : b ≠ 0) : Go.binOp .rem t (.int k (.ofNat a)) (.int k (.ofNat b)) = pure (.int k (.ofNat (a % b))) := by
  have hb : ¬ (Int.ofNat b = 0) := by simp; omega
  simp only [Go.binOp, Op.intDiv, ne_eq, not_true, if_false, hb]; rfl
theorem bin_lss (k : IntKind) : Go.binOp .lss t (.int k (.ofNat a)) (.int k (.ofNat b)) = pure (.bool (Nat.ble (a + 1) b)) := by
  have : decide ((Int.ofNat a) < (Int.ofNat b)) = Nat.ble (a + 1) b := by rw [Bool.eq_iff_iff]; simp [Nat.ble_eq]; omega
  simp only [Go.binOp, Op.intCmp, ne_eq, not_true, if_false, this]
theorem bin_leq (k : IntKind) : Go.binOp .leq t (.int k (.ofNat a)) (.int k (.ofNat b)) = pure (.bool (Nat.ble a b)) := by
  have : decide ((Int.ofNat a) ≤ (Int.ofNat b)) = Nat.ble a b := by rw [Bool.eq_iff_iff]; simp [Nat.ble_eq]
  simp only [Go.binOp, Op.intCmp, ne_eq, not_true, if_false, this]
theorem bin_gtr (k : IntKind) : Go.binOp .gtr t (.int k (.ofNat a)) (.int k (.ofNat b)) = pure (.bool (Nat.ble (b + 1) a)) := by
  have : decide ((Int.ofNat a) > (Int.ofNat b)) = Nat.ble (b + 1) a := by rw [Bool.eq_iff_iff]; simp [Nat.ble_eq]; omega
  simp only [Go.binOp, Op.intCmp, ne_eq, not_true, if_false, this]
theorem bin_geq (k : IntKind) : Go.binOp .geq t (.int k (.ofNat a)) (.int k (.ofNat b)) = pure (.bool (Nat.ble b a)) := by
  have : decide ((Int.ofNat a) ≥ (Int.ofNat b)) = Nat.ble b a := by rw [Bool.eq_iff_iff]; simp [Nat.ble_eq]
  simp only [Go.binOp, Op.intCmp, ne_eq, not_true, if_false, this]
theorem bin_eql (k : IntKind) : Go.binOp .eql t (.int k (.ofNat a)) (.int k (.ofNat b)) = pure (.bool (Nat.beq a b)) := by
  have : (Int.ofNat a == Int.ofNat b) = Nat.beq a b := by rw [Bool.eq_iff_iff]; simp [Nat.beq_eq]; omega
  simp only [Go.binOp, Op.intCmp, ne_eq, not_true, if_false, this]
theorem bin_neq (k : IntKind) : Go.binOp .neq t (.int k (.ofNat a)) (.int k (.ofNat b)) = pure (.bool (!Nat.beq a b)) := by
  have : (Int.ofNat a != Int.ofNat b) = !Nat.beq a b := by
    have h1 : (Int.ofNat a == Int.ofNat b) = Nat.beq a b := by rw [Bool.eq_iff_iff]; simp [Nat.beq_eq]; omega
    rw [bne, h1]
  simp only [Go.binOp, Op.intCmp, ne_eq, not_true, if_false, this]
theorem bin_shl (k k' : IntKind) (h : b ≤ 64) (hk : k.bits = 64) : Go.binOp .shl t (.int k (.ofNat a)) (.int k' (.ofNat b)) = pure (.int k (k.wrap (.ofNat (a * 2 ^ b)))) := by
  have h0 : ¬ (Int.ofNat b < 0) := by simp
  have h1 : min (Int.ofNat b).toNat k.bits = b := by rw [hk]; simp; omega
  have h2 : Int.ofNat a * 2 ^ b = Int.ofNat (a * 2 ^ b) := by simp
  simp only [Go.binOp, Op.shift, if_neg h0, h1, h2]
theorem bin_shr (k k' : IntKind) (h : b ≤ 64) (hk : k.bits = 64) : Go.binOp .shr t (.int k (.ofNat a)) (.int k' (.ofNat b)) = pure (.int k (.ofNat (a / 2 ^ b))) := by
  have h0 : ¬ (Int.ofNat b < 0) := by simp
  have h1 : min (Int.ofNat b).toNat k.bits = b := by rw [hk]; simp; omega
  have h2 : (Int.ofNat a).fdiv (2 ^ b) = Int.ofNat (a / 2 ^ b) := by
    have e : ((2 : Int) ^ b) = Int.ofNat (2 ^ b) := by simp
    rw [e]
    cases a with
    | zero => simp [Int.fdiv]
    | succ n => rfl
  simp only [Go.binOp, Op.shift, if_neg h0, h1, h2]
theorem bv_ofInt : (BitVec.ofInt 64 (Int.ofNat a)) = BitVec.ofNat 64 a := by simp
theorem bin_and : Go.binOp .and t (.int .u64 (.ofNat a)) (.int .u64 (.ofNat b)) = pure (.int .u64 (.ofNat (Nat.land (a % 18446744073709551616) (b % 18446744073709551616)))) := by
  have : (BitVec.ofInt 64 (Int.ofNat a) &&& BitVec.ofInt 64 (Int.ofNat b)).toNat = Nat.land (a % 18446744073709551616) (b % 18446744073709551616) := by
    rw [bv_ofInt, bv_ofInt, BitVec.toNat_and, BitVec.toNat_ofNat, BitVec.toNat_ofNat]; rfl
  have hlt : Nat.land (a % 18446744073709551616) (b % 18446744073709551616) < 18446744073709551616 := by
    rw [← this]; exact BitVec.isLt _
  simp only [Go.binOp, Op.intBits, ne_eq, not_true, if_false]
  show (pure (Value.int .u64 (IntKind.u64.wrap (Int.ofNat (BitVec.ofInt 64 (Int.ofNat a) &&& BitVec.ofInt 64 (Int.ofNat b)).toNat))) : Sem Value) = _
  rw [this, u64_wrap, lt64 hlt]
theorem bin_or : Go.binOp .or t (.int .u64 (.ofNat a)) (.int .u64 (.ofNat b)) = pure (.int .u64 (.ofNat (Nat.lor (a % 18446744073709551616) (b % 18446744073709551616)))) := by
  have : (BitVec.ofInt 64 (Int.ofNat a) ||| BitVec.ofInt 64 (Int.ofNat b)).toNat = Nat.lor (a % 18446744073709551616) (b % 18446744073709551616) := by
    rw [bv_ofInt, bv_ofInt, BitVec.toNat_or, BitVec.toNat_ofNat, BitVec.toNat_ofNat]; rfl
  have hlt : Nat.lor (a % 18446744073709551616) (b % 18446744073709551616) < 18446744073709551616 := by
    rw [← this]; exact BitVec.isLt _
  simp only [Go.binOp, Op.intBits, ne_eq, not_true, if_false]
  show (pure (Value.int .u64 (IntKind.u64.wrap (Int.ofNat (BitVec.ofInt 64 (Int.ofNat a) ||| BitVec.ofInt 64 (Int.ofNat b)).toNat))) : Sem Value) = _
  rw [this, u64_wrap, lt64 hlt]
theorem bin_xor : Go.binOp .xor t (.int .u64 (.ofNat a)) (.int .u64 (.ofNat b)) = pure (.int .u64 (.ofNat (Nat.xor (a % 18446744073709551616) (b % 18446744073709551616)))) := by
  have : (BitVec.ofInt 64 (Int.ofNat a) ^^^ BitVec.ofInt 64 (Int.ofNat b)).toNat = Nat.xor (a % 18446744073709551616) (b % 18446744073709551616) := by
    rw [bv_ofInt, bv_ofInt, BitVec.toNat_xor, BitVec.toNat_ofNat, BitVec.toNat_ofNat]; rfl
  have hlt : Nat.xor (a % 18446744073709551616) (b % 18446744073709551616) < 18446744073709551616 := by
    rw [← this]; exact BitVec.isLt _
  simp only [Go.binOp, Op.intBits, ne_eq, not_true, if_false]
  show (pure (Value.int .u64 (IntKind.u64.wrap (Int.ofNat (BitVec.ofInt 64 (Int.ofNat a) ^^^ BitVec.ofInt 64 (Int.ofNat b)).toNat))) : Sem Value) = _
  rw [this, u64_wrap, lt64 hlt]
end

theorem below63_ok {n : Nat} {v : V} (h : (below63 n).toV = some v) : n ≤ 9223372036854775807 ∧ v = .one (.int .i64 (.ofNat n)) := by
  unfold below63 at h
  cases hb : Nat.ble n 9223372036854775807 with
  | false => rw [hb] at h; cases h
  | true => rw [hb] at h; cases h; exact ⟨Nat.le_of_ble_eq_true hb, rfl⟩

/-- Two numbers of kind i64. -/
theorem binI_ok (op : BinOp) (t : TypeId) (a b : Nat) {v : V} (h : ((binOf op).1 a b).toV = some v) : ∃ cv, Go.binOp op t (.int .i64 (.ofNat a)) (.int .i64 (.ofNat b)) = pure cv ∧ absV cv = some v := by
  cases op
  case add => obtain ⟨h1, rfl⟩ := below63_ok h; exact ⟨_, bin_add t a b .i64, by rw [i64_wrap (show a + b ≤ 9223372036854775807 from h1)]; rfl⟩
  case sub =>
    have h : (subN a b).toV = some v := h
    unfold subN at h
    cases hb : Nat.ble b a with
    | false => rw [hb] at h; cases h
    | true => rw [hb] at h; obtain ⟨h1, rfl⟩ := below63_ok h; exact ⟨_, bin_sub t a b .i64 (Nat.le_of_ble_eq_true hb), by rw [i64_wrap (show a - b ≤ 9223372036854775807 from h1)]; rfl⟩
  case mul => obtain ⟨h1, rfl⟩ := below63_ok h; exact ⟨_, bin_mul t a b .i64, by rw [i64_wrap (show a * b ≤ 9223372036854775807 from h1)]; rfl⟩
  case quo =>
    have h : (quoN a b).toV = some v := h
    unfold quoN at h
    cases hb : Nat.beq b 0 with
    | true => rw [hb] at h; cases h
    | false => rw [hb] at h; obtain ⟨h1, rfl⟩ := below63_ok h; exact ⟨_, bin_quo t a b .i64 (fun e => by subst e; cases hb), by rw [i64_wrap (show a / b ≤ 9223372036854775807 from h1)]; rfl⟩
  case rem =>
    have h : (remN a b).toV = some v := h
    unfold remN at h
    cases hb : Nat.beq b 0 with
    | true => rw [hb] at h; cases h
    | false => rw [hb] at h; cases h; exact ⟨_, bin_rem t a b .i64 (fun e => by subst e; cases hb), rfl⟩
  case lss => cases h; exact ⟨_, bin_lss t a b .i64, rfl⟩
  case leq => cases h; exact ⟨_, bin_leq t a b .i64, rfl⟩
  case gtr => cases h; exact ⟨_, bin_gtr t a b .i64, rfl⟩
  case geq => cases h; exact ⟨_, bin_geq t a b .i64, rfl⟩
  case eql => cases h; exact ⟨_, bin_eql t a b .i64, rfl⟩
  case neq =>
    have h : (neqN a b).toV = some v := h
    refine ⟨_, bin_neq t a b .i64, ?_⟩
    unfold neqN at h
    cases hb : Nat.beq a b <;> rw [hb] at h <;> cases h <;> rfl
  all_goals cases h

/-- Two numbers of kind u64. -/
theorem binU_ok (op : BinOp) (t : TypeId) (a b : Nat) {v : V} (h : ((binOf op).2 a b).toV = some v) : ∃ cv, Go.binOp op t (.int .u64 (.ofNat a)) (.int .u64 (.ofNat b)) = pure cv ∧ absV cv = some v := by
  cases op
  case add => cases h; exact ⟨_, bin_add t a b .u64, by rw [u64_wrap]; rfl⟩
  case sub =>
    have h : (subU a b).toV = some v := h
    unfold subU at h
    cases hb : Nat.ble b a with
    | false => rw [hb] at h; cases h
    | true => rw [hb] at h; cases h; exact ⟨_, bin_sub t a b .u64 (Nat.le_of_ble_eq_true hb), by rw [u64_wrap]; rfl⟩
  case mul => cases h; exact ⟨_, bin_mul t a b .u64, by rw [u64_wrap]; rfl⟩
  case quo =>
    have h : (quoU a b).toV = some v := h
    unfold quoU at h
    cases hb : Nat.beq b 0 with
    | true => rw [hb] at h; cases h
    | false => rw [hb] at h; cases h; exact ⟨_, bin_quo t a b .u64 (fun e => by subst e; cases hb), by rw [u64_wrap]; rfl⟩
  case rem =>
    have h : (remU a b).toV = some v := h
    unfold remU at h
    cases hb : Nat.beq b 0 with
    | true => rw [hb] at h; cases h
    | false => rw [hb] at h; cases h; exact ⟨_, bin_rem t a b .u64 (fun e => by subst e; cases hb), rfl⟩
  case and => cases h; exact ⟨_, bin_and t a b, rfl⟩
  case or => cases h; exact ⟨_, bin_or t a b, rfl⟩
  case xor => cases h; exact ⟨_, bin_xor t a b, rfl⟩
  case shl =>
    have h : (shlU a b).toV = some v := h
    unfold shlU at h
    cases hb : Nat.ble b 64 with
    | false => rw [hb] at h; cases h
    | true => rw [hb] at h; cases h; exact ⟨_, bin_shl t a b .u64 .u64 (Nat.le_of_ble_eq_true hb) rfl, by rw [u64_wrap]; rfl⟩
  case shr =>
    have h : (shrU a b).toV = some v := h
    unfold shrU at h
    cases hb : Nat.ble b 64 with
    | false => rw [hb] at h; cases h
    | true => rw [hb] at h; cases h; exact ⟨_, bin_shr t a b .u64 .u64 (Nat.le_of_ble_eq_true hb) rfl, rfl⟩
  case lss => cases h; exact ⟨_, bin_lss t a b .u64, rfl⟩
  case leq => cases h; exact ⟨_, bin_leq t a b .u64, rfl⟩
  case gtr => cases h; exact ⟨_, bin_gtr t a b .u64, rfl⟩
  case geq => cases h; exact ⟨_, bin_geq t a b .u64, rfl⟩
  case eql => cases h; exact ⟨_, bin_eql t a b .u64, rfl⟩
  case neq =>
    have h : (neqN a b).toV = some v := h
    refine ⟨_, bin_neq t a b .u64, ?_⟩
    unfold neqN at h
    cases hb : Nat.beq a b <;> rw [hb] at h <;> cases h <;> rfl
  all_goals cases h

/-- A number of kind u64 and one of kind i64. -/
theorem binS_ok (op : BinOp) (t : TypeId) (a b : Nat) {v : V} (h : ((binOf op).3 a b).toV = some v) : ∃ cv, Go.binOp op t (.int .u64 (.ofNat a)) (.int .i64 (.ofNat b)) = pure cv ∧ absV cv = some v := by
  cases op
  case shl =>
    have h : (shlU a b).toV = some v := h
    unfold shlU at h
    cases hb : Nat.ble b 64 with
    | false => rw [hb] at h; cases h
    | true => rw [hb] at h; cases h; exact ⟨_, bin_shl t a b .u64 .i64 (Nat.le_of_ble_eq_true hb) rfl, by rw [u64_wrap]; rfl⟩
  case shr =>
    have h : (shrU a b).toV = some v := h
    unfold shrU at h
    cases hb : Nat.ble b 64 with
    | false => rw [hb] at h; cases h
    | true => rw [hb] at h; cases h; exact ⟨_, bin_shr t a b .u64 .i64 (Nat.le_of_ble_eq_true hb) rfl, rfl⟩
  all_goals cases h

theorem binF_ok {P : Program} {dst : Option Tmp} {op : BinOp} {t yt : TypeId} {x y : Operand} {type : TypeId} {pos : String} {after : Array Edge} {guard : Option (Nat × Bool)} {f : Fm} {tm : Tr V} {H : Tr AObj} {v : V} (hx : ((opd P x).get f).toV = evO P tm x) (hy : ((opd P y).get f).toV = evO P tm y)
    (h : (binF ((opd P x).get f) ((opd P y).get f) (binOf op)).toV = some v) : evR P ⟨dst, .binOp op t x y yt, type, pos, after, guard⟩ tm H = some v := by
  generalize (opd P x).get f = u at h hx
  generalize (opd P y).get f = w at h hy
  cases u <;> try (cases h; done)
  · rename_i a
    cases w <;> try (cases h; done)
    rename_i b
    obtain ⟨cv, h1, h2⟩ := binI_ok op t a b h
    exact evR_int hx.symm hy.symm h1 h2
  · rename_i a
    cases w <;> try (cases h; done)
    · rename_i b
      obtain ⟨cv, h1, h2⟩ := binS_ok op t a b h
      exact evR_int hx.symm hy.symm h1 h2
    · rename_i b
      obtain ⟨cv, h1, h2⟩ := binU_ok op t a b h
      exact evR_int hx.symm hy.symm h1 h2

end Go.Proofs.YtmnaddlniaklcaaGreatDoor.Ev
