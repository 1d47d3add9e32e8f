/- THE ENGINE, part 8: structs compared; bit operations. Own work. -/
import Derived.Test.YtfdpmgddlaamcaaVc5
import Derived.Laws.StructEq
import Derived.Laws.Bits128
namespace Go.Proofs.YtfdpmgddlaamcaaV
open Go
set_option linter.unusedVariables false
set_option linter.unusedSimpArgs false
section
variable {P : Program} {w : World} {t : TypeId}
theorem part_int {ft : TypeId} {k : IntKind} (hu : P.underlying ft = some (.int k)) {xs : Array Value} {o : Nat} {v : Value} (hx : xs[o]? = some v) : (part ft xs o).run P w = .ok v w := by
  simp [part, isAgg, underlying, hu, hx]
theorem equalIn_int {ft : TypeId} {k : IntKind} (hu : P.underlying ft = some (.int k)) (d : Nat) (a b : Int) : (Op.equalIn (d + 1) ft (.int k a) (.int k b)).run P w = .ok (a == b) w := by
  simp [Op.equalIn, underlying, hu]
/-- Fields that are whole numbers, each of one cell. -/
def eqRow (P : Program) (xs ys : List Int) : List Field → List IntKind → Nat → Prop
  | [], [], _ => True
  | f :: fs, k :: ks, i => (f.name == "_") = false ∧ P.underlying f.type = some (.int k) ∧ f.offset = i ∧ eqRow P xs ys fs ks (i + 1)
  | _, _, _ => False
def ints : List IntKind → List Int → List Value
  | k :: ks, n :: ns => .int k n :: ints ks ns
  | _, _ => []
def eqRowB (P : Program) : List Field → List IntKind → Nat → Bool
  | [], [], _ => true
  | f :: fs, k :: ks, i => !(f.name == "_") && (match P.underlying f.type with | some (.int k') => k' == k | _ => false) && Nat.beq f.offset i && eqRowB P fs ks (i + 1)
  | _, _, _ => false
theorem eqFields_ints (d : Nat) (X Y : Array Value) : ∀ (fs : List Field) (ks : List IntKind) (i : Nat) (xs ys : List Int), eqRowB P fs ks i = true → xs.length = ks.length → ys.length = ks.length → 
    (∀ j, j < ks.length → X[i + j]? = (ints ks xs)[j]?) → (∀ j, j < ks.length → Y[i + j]? = (ints ks ys)[j]?) →
    (Op.eqFields (d + 1) X Y fs).run P w = .ok (xs == ys) w
  | [], [], i, [], [], _, _, _, _, _ => by simp [Op.eqFields]
  | f :: fs, k :: ks, i, a :: xs, b :: ys, h, hx, hy, hX, hY => by
    simp only [eqRowB, Bool.and_eq_true, Bool.not_eq_true'] at h
    obtain ⟨⟨⟨h1, h2⟩, h3⟩, h4⟩ := h
    have hu : P.underlying f.type = some (.int k) := by
      split at h2
      · rename_i k' hk; rw [hk]; simp only [beq_iff_eq] at h2; rw [h2]
      · cases h2
    have ho : f.offset = i := Nat.eq_of_beq_eq_true h3
    have hn : f.name ≠ "_" := by simpa using h1
    have x0 : X[f.offset]? = some (.int k a) := by have := hX 0 (by simp); simpa [ho, ints] using this
    have y0 : Y[f.offset]? = some (.int k b) := by have := hY 0 (by simp); simpa [ho, ints] using this
    rw [Op.eqFields]
    simp only [if_pos hn, Sem.run_bind, part_int hu x0, part_int hu y0, equalIn_int hu, Result.andThen_ok]
    by_cases hab : a = b
    · have hb : (a == b) = true := by simpa using hab
      have ih := eqFields_ints d X Y fs ks (i + 1) xs ys h4 (by simpa using hx) (by simpa using hy)
        (fun j hj => by have := hX (j + 1) (by simp; omega); rw [show i + (j + 1) = i + 1 + j by omega] at this; simpa [ints] using this)
        (fun j hj => by have := hY (j + 1) (by simp; omega); rw [show i + (j + 1) = i + 1 + j by omega] at this; simpa [ints] using this)
      simp [hb, hab, ih]
    · have hb : (a == b) = false := by simpa using hab
      have : (a :: xs == b :: ys) = false := by simp [hab]
      simp [hb, this]
  | [], _ :: _, _, _, _, h, _, _, _, _ => by simp [eqRowB] at h
  | _ :: _, [], _, _, _, h, _, _, _, _ => by simp [eqRowB] at h
  | _ :: _, _ :: _, _, [], _, _, h, _, _, _ => by simp at h
  | _ :: _, _ :: _, _, _, [], _, _, h, _, _ => by simp at h
  | [], [], _, _ :: _, _, _, h, _, _, _ => by simp at h
  | [], [], _, _, _ :: _, _, _, h, _, _ => by simp at h
theorem ints_length : ∀ (ks : List IntKind) (xs : List Int), xs.length = ks.length → (ints ks xs).length = ks.length
  | [], [], _ => rfl
  | k :: ks, x :: xs, h => by simp [ints, ints_length ks xs (by simpa using h)]
  | [], _ :: _, h => by simp at h
  | _ :: _, [], h => by simp at h
/-- Structs of whole numbers: equal, or not. -/
theorem equalIn_ints {fs : Array Field} {ks : List IntKind} (d : Nat) (hu : P.underlying t = some (.struct fs)) (hp : P.stoodInHeld t = false) (hr : eqRowB P fs.toList ks 0 = true) (xs ys : List Int) (hx : xs.length = ks.length) (hy : ys.length = ks.length) :
    (Op.equalIn (d + 2) t (.agg (ints ks xs).toArray) (.agg (ints ks ys).toArray)).run P w = .ok (xs == ys) w := by
  have hf : P.fieldsOf t = fs := by simp [Program.fieldsOf, hu]
  rw [run_equalIn_struct (P := P) w (d + 1) t _ _ (by rw [hf]; exact hu) hp, hf]
  exact eqFields_ints d _ _ fs.toList ks 0 xs ys hr hx hy (fun j hj => by simp) (fun j hj => by simp)
theorem eq_ints {fs : Array Field} {ks : List IntKind} (x y : Operand) (hu : P.underlying t = some (.struct fs)) (hg : P.eqGuardType P.depth t = false) (hp : P.stoodInHeld t = false) (hr : eqRowB P fs.toList ks 0 = true) (xs ys : List Int) (hx : xs.length = ks.length) (hy : ys.length = ks.length) :
    (do eqGuard .eql t x y (.agg (ints ks xs).toArray) (.agg (ints ks ys).toArray); binOp .eql t (.agg (ints ks xs).toArray) (.agg (ints ks ys).toArray) : Sem Value).run P w = .ok (.bool (xs == ys)) w :=
  eqS_eql (by simp [eqGuard, hg]) rfl (equalIn_ints 9998 hu hp hr xs ys hx hy)
theorem neq_ints {fs : Array Field} {ks : List IntKind} (x y : Operand) (hu : P.underlying t = some (.struct fs)) (hg : P.eqGuardType P.depth t = false) (hp : P.stoodInHeld t = false) (hr : eqRowB P fs.toList ks 0 = true) (xs ys : List Int) (hx : xs.length = ks.length) (hy : ys.length = ks.length) :
    (do eqGuard .neq t x y (.agg (ints ks xs).toArray) (.agg (ints ks ys).toArray); binOp .neq t (.agg (ints ks xs).toArray) (.agg (ints ks ys).toArray) : Sem Value).run P w = .ok (.bool (!(xs == ys))) w :=
  eqS_neq (by simp [eqGuard, hg]) rfl (equalIn_ints 9998 hu hp hr xs ys hx hy)
theorem and1_run (x y : Operand) (a : Int) : (do eqGuard .and t x y (.int .i64 a) (.int .i64 1); binOp .and t (.int .i64 a) (.int .i64 1) : Sem Value).run P w = .ok (.int .i64 (a % 2)) w := by
  have h1 : (BitVec.ofInt 64 1).toNat = 2 ^ 1 - 1 := by decide
  have key : (BitVec.ofInt 64 a &&& BitVec.ofInt 64 1).toNat = (a % ((2 ^ 64 : Nat) : Int)).toNat % 2 ^ 1 := by
    rw [BitVec.toNat_and, BitVec.toNat_ofInt, h1, Nat.and_two_pow_sub_one_eq_mod]
  have e : IntKind.i64.wrap ((BitVec.ofInt 64 a &&& BitVec.ofInt 64 1).toNat : Nat) = a % 2 := by
    rw [key, IntKind.wrap_i64]
    omega
  have e' : (Op.intBits .and .i64 a 1 : Sem Value) = pure (.int .i64 (IntKind.i64.wrap ((BitVec.ofInt 64 a &&& BitVec.ofInt 64 1).toNat : Nat))) := rfl
  simp only [Sem.run_bind, run_eqGuard_int, Result.andThen_ok]
  show (Op.intBits .and .i64 a 1).run P w = _
  rw [e', e]
  rfl
theorem shr1_run (x y : Operand) (a : Int) : (do eqGuard .shr t x y (.int .i64 a) (.int .u64 1); binOp .shr t (.int .i64 a) (.int .u64 1) : Sem Value).run P w = .ok (.int .i64 (a / 2)) w := by
  simp only [Sem.run_bind, run_eqGuard_int, Result.andThen_ok]
  show (Op.shift .shr .i64 a .u64 1).run P w = _
  have : a.fdiv 2 = a / 2 := by rw [Int.fdiv_eq_ediv_of_nonneg _ (by decide)]
  simp [Op.shift, IntKind.bits, this]
theorem quo_run (x y : Operand) (a b : Int) (hb : b ≠ 0) : (do eqGuard .quo t x y (.int .i64 a) (.int .i64 b); binOp .quo t (.int .i64 a) (.int .i64 b) : Sem Value).run P w = .ok (.int .i64 (IntKind.i64.wrap (a.tdiv b))) w := by
  simp only [Sem.run_bind, run_eqGuard_int, Result.andThen_ok]
  show (Op.intDiv .quo .i64 a b).run P w = _
  simp [Op.intDiv, hb]
theorem rem_run (x y : Operand) (a b : Int) (hb : b ≠ 0) : (do eqGuard .rem t x y (.int .i64 a) (.int .i64 b); binOp .rem t (.int .i64 a) (.int .i64 b) : Sem Value).run P w = .ok (.int .i64 (a.tmod b)) w := by
  simp only [Sem.run_bind, run_eqGuard_int, Result.andThen_ok]
  show (Op.intDiv .rem .i64 a b).run P w = _
  simp [Op.intDiv, hb]
end
end Go.Proofs.YtfdpmgddlaamcaaV
