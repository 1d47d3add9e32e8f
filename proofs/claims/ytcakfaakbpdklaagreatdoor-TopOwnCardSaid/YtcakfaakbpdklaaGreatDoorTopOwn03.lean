/- Part 3 of what the law needs: own lemmas, in the order in which they build. -/
import Derived.Laws.StructEq
import Derived.Laws.Bits128
import Derived.Test.YtcakfaakbpdklaaGreatDoorProg
import Derived.Test.YtcakfaakbpdklaaGreatDoorTopOwn02
namespace Go.Proofs.YtcakfaakbpdklaaGreatDoorV
open Go
set_option linter.unusedVariables false
set_option linter.unusedSimpArgs false
section
variable {P : Program} {w : World} {t : TypeId}
theorem qmm {ft : TypeId} {k : IntKind} (hu : P.underlying ft = some (.int k)) {xs : Array Value} {o : Nat} {v : Value} (hx : xs[o]? = some v) : (part ft xs o).run P w = .ok v w := by
  simp [part, isAgg, underlying, hu, hx]
theorem qm5 {ft : TypeId} {k : IntKind} (hu : P.underlying ft = some (.int k)) (d : Nat) (a b : Int) : (Op.equalIn (d + 1) ft (.int k a) (.int k b)).run P w = .ok (a == b) w := by
  simp [Op.equalIn, underlying, hu]
def qc5 : List IntKind → List Int → List Value
  | k :: ks, n :: ns => .int k n :: qc5 ks ns
  | _, _ => []
def qej (P : Program) : List Field → List IntKind → Nat → Bool
  | [], [], _ => true
  | f :: fs, k :: ks, i => !(f.name == "_") && (match P.underlying f.type with | some (.int k') => k' == k | _ => false) && Nat.beq f.offset i && qej P fs ks (i + 1)
  | _, _, _ => false
theorem qgu (d : Nat) (X Y : Array Value) : ∀ (fs : List Field) (ks : List IntKind) (i : Nat) (xs ys : List Int), qej P fs ks i = true → xs.length = ks.length → ys.length = ks.length →
    (∀ j, j < ks.length → X[i + j]? = (qc5 ks xs)[j]?) → (∀ j, j < ks.length → Y[i + j]? = (qc5 ks ys)[j]?) →
    (Op.eqFields (d + 1) X Y fs).run P w = .ok (xs == ys) w
  | [], [], i, [], [], _, _, _, _, _ => by simp [Op.eqFields]
  | f :: fs, k :: ks, i, a :: xs, b :: ys, h, hx, hy, hX, hY => by
    simp only [qej, Bool.and_eq_true, Bool.not_eq_true'] at h
    obtain ⟨⟨⟨h1, h2⟩, h3⟩, h4⟩ := h
    have hu : P.underlying f.type = some (.int k) := by
      split at h2
      · rename_i k' hk; rw [hk]; simp only [beq_iff_eq] at h2; rw [h2]
      · cases h2
    have ho : f.offset = i := Nat.eq_of_beq_eq_true h3
    have hn : f.name ≠ "_" := by simpa using h1
    have x0 : X[f.offset]? = some (.int k a) := by have := hX 0 (by simp); simpa [ho, qc5] using this
    have y0 : Y[f.offset]? = some (.int k b) := by have := hY 0 (by simp); simpa [ho, qc5] using this
    rw [Op.eqFields]
    simp only [if_pos hn, Sem.run_bind, qmm hu x0, qmm hu y0, qm5 hu, Result.andThen_ok]
    by_cases hab : a = b
    · have hb : (a == b) = true := by simpa using hab
      have ih := qgu d X Y fs ks (i + 1) xs ys h4 (by simpa using hx) (by simpa using hy)
        (fun j hj => by have := hX (j + 1) (by simp; omega); rw [show i + (j + 1) = i + 1 + j by omega] at this; simpa [qc5] using this)
        (fun j hj => by have := hY (j + 1) (by simp; omega); rw [show i + (j + 1) = i + 1 + j by omega] at this; simpa [qc5] using this)
      simp [hab, ih]
    · have hb : (a == b) = false := by simpa using hab
      have : (a :: xs == b :: ys) = false := by simp [hab]
      simp [hb, this]
  | [], _ :: _, _, _, _, h, _, _, _, _ => by simp [qej] at h
  | _ :: _, [], _, _, _, h, _, _, _, _ => by simp [qej] at h
  | _ :: _, _ :: _, _, [], _, _, h, _, _, _ => by simp at h
  | _ :: _, _ :: _, _, _, [], _, _, h, _, _ => by simp at h
  | [], [], _, _ :: _, _, _, h, _, _, _ => by simp at h
  | [], [], _, _, _ :: _, _, _, h, _, _ => by simp at h
theorem qg5 {fs : Array Field} {ks : List IntKind} (d : Nat) (hu : P.underlying t = some (.struct fs)) (hp : P.stoodInHeld t = false) (hr : qej P fs.toList ks 0 = true) (xs ys : List Int) (hx : xs.length = ks.length) (hy : ys.length = ks.length) :
    (Op.equalIn (d + 2) t (.agg (qc5 ks xs).toArray) (.agg (qc5 ks ys).toArray)).run P w = .ok (xs == ys) w := by
  have hf : P.fieldsOf t = fs := by simp [Program.fieldsOf, hu]
  rw [run_equalIn_struct (P := P) w (d + 1) t _ _ (by rw [hf]; exact hu) hp, hf]
  exact qgu d _ _ fs.toList ks 0 xs ys hr hx hy (fun j hj => by simp) (fun j hj => by simp)
theorem qn3 {fs : Array Field} {ks : List IntKind} (x y : Operand) (hu : P.underlying t = some (.struct fs)) (hg : P.eqGuardType P.depth t = false) (hp : P.stoodInHeld t = false) (hr : qej P fs.toList ks 0 = true) (xs ys : List Int) (hx : xs.length = ks.length) (hy : ys.length = ks.length) :
    (do eqGuard .eql t x y (.agg (qc5 ks xs).toArray) (.agg (qc5 ks ys).toArray); binOp .eql t (.agg (qc5 ks xs).toArray) (.agg (qc5 ks ys).toArray) : Sem Value).run P w = .ok (.bool (xs == ys)) w :=
  qhs (by simp [eqGuard, hg]) rfl (qg5 9998 hu hp hr xs ys hx hy)
theorem qmg {fs : Array Field} {ks : List IntKind} (x y : Operand) (hu : P.underlying t = some (.struct fs)) (hg : P.eqGuardType P.depth t = false) (hp : P.stoodInHeld t = false) (hr : qej P fs.toList ks 0 = true) (xs ys : List Int) (hx : xs.length = ks.length) (hy : ys.length = ks.length) :
    (do eqGuard .neq t x y (.agg (qc5 ks xs).toArray) (.agg (qc5 ks ys).toArray); binOp .neq t (.agg (qc5 ks xs).toArray) (.agg (qc5 ks ys).toArray) : Sem Value).run P w = .ok (.bool (!(xs == ys))) w :=
  qn2 (by simp [eqGuard, hg]) rfl (qg5 9998 hu hp hr xs ys hx hy)
theorem qlt (x y : Operand) (a : Int) : (do eqGuard .and t x y (.int .i64 a) (.int .i64 1); binOp .and t (.int .i64 a) (.int .i64 1) : Sem Value).run P w = .ok (.int .i64 (a % 2)) w := by
  have h1 : (BitVec.ofInt 64 1).toNat = 2 ^ 1 - 1 := by decide
  have key : (BitVec.ofInt 64 a &&& BitVec.ofInt 64 1).toNat = (a % ((2 ^ 64 : Nat) : Int)).toNat % 2 ^ 1 := by
    rw [BitVec.toNat_and, BitVec.toNat_ofInt, h1, Nat.and_two_pow_sub_one_eq_mod]
  have e : IntKind.i64.wrap ((BitVec.ofInt 64 a &&& BitVec.ofInt 64 1).toNat : Nat) = a % 2 := by
    rw [key, IntKind.wrap_i64]
    omega
  have e' : (Op.intBits .and .i64 a 1 : Sem Value) = pure (.int .i64 (IntKind.i64.wrap ((BitVec.ofInt 64 a &&& BitVec.ofInt 64 1).toNat : Nat))) := rfl
  simp only [Sem.run_bind, qaq, Result.andThen_ok]
  show (Op.intBits .and .i64 a 1).run P w = _
  rw [e', e]
  rfl
theorem qt0 (x y : Operand) (a : Int) : (do eqGuard .shr t x y (.int .i64 a) (.int .u64 1); binOp .shr t (.int .i64 a) (.int .u64 1) : Sem Value).run P w = .ok (.int .i64 (a / 2)) w := by
  simp only [Sem.run_bind, qaq, Result.andThen_ok]
  show (Op.shift .shr .i64 a .u64 1).run P w = _
  have : a.fdiv 2 = a / 2 := by rw [Int.fdiv_eq_ediv_of_nonneg _ (by decide)]
  simp [Op.shift, IntKind.bits, this]
theorem qbr (x y : Operand) (a b : Int) (hb : b ≠ 0) : (do eqGuard .quo t x y (.int .i64 a) (.int .i64 b); binOp .quo t (.int .i64 a) (.int .i64 b) : Sem Value).run P w = .ok (.int .i64 (IntKind.i64.wrap (a.tdiv b))) w := by
  simp only [Sem.run_bind, qaq, Result.andThen_ok]
  show (Op.intDiv .quo .i64 a b).run P w = _
  simp [Op.intDiv, hb]
theorem qdr (x y : Operand) (a b : Int) (hb : b ≠ 0) : (do eqGuard .rem t x y (.int .i64 a) (.int .i64 b); binOp .rem t (.int .i64 a) (.int .i64 b) : Sem Value).run P w = .ok (.int .i64 (a.tmod b)) w := by
  simp only [Sem.run_bind, qaq, Result.andThen_ok]
  show (Op.intDiv .rem .i64 a b).run P w = _
  simp [Op.intDiv, hb]
end
end Go.Proofs.YtcakfaakbpdklaaGreatDoorV
namespace Go.Proofs.YtcakfaakbpdklaaGreatDoorV
open Go Go.Proofs Go.RowKit
set_option linter.unusedVariables false
set_option linter.unusedSimpArgs false
set_option maxRecDepth 10000
theorem qn0 {k : Int} (h1 : 1 ≤ k) (h2 : k < 5) : csz k > 0 := by
  have : k = 1 ∨ k = 2 ∨ k = 3 ∨ k = 4 := by omega
  rcases this with rfl | rfl | rfl | rfl <;> decide
theorem ql0 {k : Int} (h : k < 1 ∨ 5 ≤ k) : csz k = 0 := by
  unfold csz
  repeat (rw [if_neg (by omega)])
theorem qh8 {k : Int} (h : k < 1 ∨ 5 ≤ k) : qai k = 0 := by
  unfold qai
  repeat (rw [if_neg (by omega)])
theorem qoz {k : Int} (h1 : 1 ≤ k) (h2 : k < 5) : IntKind.i64.wrap ((32 : Int).tdiv (csz k)) = qai k := by
  have : k = 1 ∨ k = 2 ∨ k = 3 ∨ k = 4 := by omega
  rcases this with rfl | rfl | rfl | rfl <;> decide
theorem qg4 (k : Int) : 0 ≤ csz k ∧ csz k ≤ 16 := by
  by_cases h : k < 1 ∨ 5 ≤ k
  · rw [ql0 h]; omega
  · have : k = 1 ∨ k = 2 ∨ k = 3 ∨ k = 4 := by omega
    rcases this with rfl | rfl | rfl | rfl <;> decide
theorem qxt {k : Int} (h : csz k ≠ 0) : 1 ≤ k ∧ k < 5 := by
  apply Classical.byContradiction
  intro hc
  exact h (ql0 (by omega))
theorem qby (k : Int) : 0 ≤ qai k ∧ qai k ≤ 16 := by
  by_cases h : k < 1 ∨ 5 ≤ k
  · rw [qh8 h]; omega
  · have : k = 1 ∨ k = 2 ∨ k = 3 ∨ k = 4 := by omega
    rcases this with rfl | rfl | rfl | rfl <;> decide
section
variable {K : VK} {w : World}
theorem qoq {n : Int} (h : K (.int .i64 (cOf n)) w) : C.q Tryz.prog 117 #[.int .i64 n] w K := by
  refine F117.sh ?_
  unfold cOf at h
  by_cases h1 : n < 0
  · simp only [C.ah, C.aw, C.au, C.ba, decide_true, h1]
    rwa [if_pos (.inl h1)] at h
  simp only [C.ar, C.au, C.bl, C.al, decide_false, h1]
  by_cases h2 : n > 127
  · simp only [C.ah, decide_true, h2]
    rwa [if_pos (.inr h2)] at h
  simp only [C.ac, decide_false, h2]
  rw [if_neg (by omega)] at h
  refine F117.k3.to ?_
  have step : ∀ k : Int, 1 ≤ k → k < 5 → (¬ csz k < n + 1 → K (.int .i64 k) w) → (csz k < n + 1 → F117.l4 K (.int .i64 n) (.int .i64 (k + 1)) w) → F117.l4 K (.int .i64 n) (.int .i64 k) w := fun k k1 k5 a b => by
    refine F117.l4.to ?_
    simp only [C.aw, C.a6, C.au, C.al, decide_true, k5]
    refine qbt ?_
    simp only [C.au]
    rw [qaa (n := n + 1) (by omega)]
    by_cases c : csz k < n + 1
    · simp only [C.ah, decide_true, c]
      refine F117.k5.to ?_
      simp only [C.a6]
      rw [qaa (n := k + 1) (by omega)]
      exact b c
    · simp only [C.ac, decide_false, c]
      exact F117.k6.to (a c)
  have e1 : csz 1 = 2 := rfl
  have e2 : csz 2 = 4 := rfl
  have e3 : csz 3 = 8 := rfl
  have e4 : csz 4 = 16 := rfl
  refine step 1 (by omega) (by omega) (fun a => ?_) fun a1 => step 2 (by omega) (by omega) (fun a => ?_) fun a2 => step 3 (by omega) (by omega) (fun a => ?_) fun a3 => step 4 (by omega) (by omega) (fun a => ?_) fun a4 => ?_
  · rwa [if_pos (by omega)] at h
  · rw [if_neg (by omega)] at h
    rwa [if_pos (by omega)] at h
  · rw [if_neg (by omega), if_neg (by omega)] at h
    rwa [if_pos (by omega)] at h
  · rw [if_neg (by omega), if_neg (by omega), if_neg (by omega)] at h
    rwa [if_pos (by omega)] at h
  · rw [if_neg (by omega), if_neg (by omega), if_neg (by omega), if_neg (by omega)] at h
    refine F117.l4.to ?_
    simp only [C.ac, C.ar, C.au, C.bf, decide_false, show ¬ ((4 + 1 : Int) < 5) by omega]
    exact F117.k6.to h
theorem qjp {k : Int} (h : K (.int .i64 (qai k)) w) : C.q Tryz.prog 263 #[.int .i64 k] w K := by
  refine F263.sh (qbt ?_)
  by_cases c : csz k = 0
  · simp only [C.ah, C.az, eq_self, decide_true, c]
    have : qai k = 0 := qh8 (by
      apply Classical.byContradiction; intro hc
      have := qn0 (k := k) (by omega) (by omega); omega)
    rwa [this] at h
  · obtain ⟨k1, k5⟩ := qxt c
    simp only [C.ac, C.az, decide_false, c]
    refine F263.k3.to (qbt ⟨_, qbr _ _ 32 (csz k) c, ?_⟩)
    rw [qoz k1 k5]
    exact h
theorem qu7 {n : Int} (h : K (.int .i64 (qdu n)) w) : C.q Tryz.prog 120 #[.int .i64 n] w K := by
  refine F120.sh (qoq ?_)
  unfold qdu at h
  by_cases c : cOf n = 5
  · rw [if_pos c] at h
    have hn : 0 ≤ n ∧ n ≤ 127 := by
      apply Classical.byContradiction; intro hc
      unfold cOf at c
      rw [if_pos (by omega)] at c
      cases c
    simp only [C.ac, C.be, eq_self, decide_false, ne_eq, c, not_true_eq_false]
    refine F120.k3.to ?_
    simp only [C.a6]
    rw [qaa (n := n + 32) (by omega)]
    refine ⟨_, qbr _ _ (n + 32) 32 (by decide), ?_⟩
    rw [Int.tdiv_eq_ediv_of_nonneg (by omega), qaa (by omega)]
    exact h
  · rw [if_neg c] at h
    simp only [C.ah, C.be, decide_true, ne_eq, c, not_false_eq_true]
    exact h
theorem qd1 {a : Int} (h : K (.int .i64 (qas a)) w) : C.q Tryz.prog 272 #[.int .i64 a] w K := by
  refine F272.sh ?_
  unfold qas at h
  by_cases h1 : a < 0
  · simp only [C.ah, C.aw, C.au, C.ba, decide_true, h1]
    rwa [if_neg (by omega)] at h
  simp only [C.ar, C.au, C.bc, C.al, decide_false, h1]
  by_cases h2 : a ≥ 2048
  · simp only [C.ah, decide_true, h2]
    rwa [if_neg (by omega)] at h
  simp only [C.ac, decide_false, h2]
  rw [if_pos (by omega)] at h
  refine F272.k3.to ⟨_, qbr _ _ a 32 (by decide), ?_⟩
  rw [Int.tdiv_eq_ediv_of_nonneg (by omega), qaa (by omega)]
  exact h
theorem ql5 {a : Int} : qas a < 0 ↔ ¬ (0 ≤ a ∧ a < 2048) := by
  unfold qas
  by_cases c : 0 ≤ a ∧ a < 2048
  · rw [if_pos c]; omega
  · rw [if_neg c]; omega
theorem qnj {k a : Int} (h : K (.int .i64 (qdv k a)) w) : C.q Tryz.prog 284 #[.int .i64 k, .int .i64 a] w K := by
  refine F284.sh (qbt ?_)
  unfold qdv at h
  by_cases c : csz k = 0
  · simp only [C.ah, C.aw, C.az, C.ba, eq_self, decide_true, c]
    rwa [if_pos (.inl c)] at h
  have hs := qg4 k
  simp only [C.ar, C.az, C.al, decide_false, c]
  refine qd1 ?_
  by_cases d : qas a < 0
  · simp only [C.ah, C.au, decide_true, d]
    rwa [if_pos (.inr d)] at h
  rw [if_neg (by omega)] at h
  simp only [C.ac, C.au, decide_false, d]
  have ha : 0 ≤ a ∧ a < 2048 := by
    apply Classical.byContradiction; intro hc; exact d (ql5.2 hc)
  refine F284.k3.to (qbt ⟨_, qdr _ _ a (csz k) c, ?_⟩)
  simp only [C.bo]
  rw [Int.tmod_eq_emod_of_nonneg ha.1]
  have := Int.emod_nonneg a c
  have := Int.emod_lt_of_pos a (show 0 < csz k by omega)
  rw [qaa (by omega)]
  exact h
theorem quu {k a : Int} (h : K (.tuple #[.int .i64 (qfj k a).1, .bool (qfj k a).2]) w) : C.q Tryz.prog 343 #[.int .i64 k, .int .i64 a] w K := by
  refine F343.sh (qnj ?_)
  unfold qfj at h
  by_cases c : qdv k a < 0
  · simp only [C.ah, C.aw, C.au, C.ba, decide_true, c]
    rwa [if_pos (.inl c)] at h
  simp only [C.ar, C.be, C.au, C.al, decide_false, c]
  by_cases d : qdv k a = a
  · simp only [C.ac, eq_self, decide_false, ne_eq, d, not_true_eq_false]
    rw [if_neg (by omega)] at h
    have c' := c
    have hk : ¬ (csz k = 0 ∨ qas a < 0) := fun e => by
      unfold qdv at c
      rw [if_pos e] at c
      omega
    have ha : 0 ≤ a ∧ a < 2048 := by
      apply Classical.byContradiction; intro hc; exact hk (.inr (ql5.2 hc))
    have hs := qg4 k
    refine F343.k4.to (F346.sh (qd1 ?_))
    simp only [C.ac, C.au, decide_false, show ¬ (qas a < 0) from fun e => hk (.inr e)]
    refine F346.k3.to ⟨_, qdr _ _ a 32 (by decide), ?_⟩
    refine qbt ⟨_, qbr _ _ _ (csz k) (fun e => hk (.inl e)), ?_⟩
    rw [Int.tmod_eq_emod_of_nonneg ha.1, Int.tdiv_eq_ediv_of_nonneg (by omega)]
    have h1 : 0 ≤ a % 32 / csz k := Int.ediv_nonneg (by omega) (by omega)
    have h2 : a % 32 / csz k ≤ a % 32 := Int.ediv_le_self _ (by omega)
    rw [qaa (by omega)]
    exact h
  · simp only [C.ah, decide_true, ne_eq, d, not_false_eq_true]
    rwa [if_pos (.inr d)] at h
theorem qol {p k i : Int} (hp : 0 ≤ p ∧ p < 64) (hi : 0 ≤ i ∧ i < qai k) (h : K (.tuple #[.int .i64 (gAt p k i).1, .bool true]) w) : C.q Tryz.prog 249 #[.int .i64 p, .int .i64 k, .int .i64 i] w K := by
  have hc := qby k
  have hs := qg4 k
  have e : (gAt p k i).1 = p * 32 + i * csz k := by unfold gAt; rw [if_pos (by omega)]
  rw [e] at h
  refine F249.sh ?_
  simp only [C.ar, C.au, C.bc, C.al, decide_false, show ¬ (p < 0) by omega, show ¬ (p ≥ 64) by omega, show ¬ (i < 0) by omega]
  refine qjp ?_
  simp only [C.ac, C.bc, decide_false, show ¬ (i ≥ qai k) by omega]
  refine F249.k3.to ?_
  simp only [C.bq]
  refine qbt ?_
  simp only [C.a6, C.bq]
  have h1 : 0 ≤ i * csz k := Int.mul_nonneg hi.1 hs.1
  have h2 : i * csz k ≤ 16 * 16 := Int.mul_le_mul (by omega) hs.2 hs.1 (by omega)
  rw [qaa (n := p * 32) (by omega), qaa (n := i * csz k) (by omega), qaa (n := p * 32 + i * csz k) (by omega)]
  exact h
theorem qhm {p n : Int} (hp : 0 ≤ p ∧ p < 64) (hn : 1 ≤ n ∧ n ≤ 64 - p) (h : K (.tuple #[.int .i64 (p * 32), .int .i64 ((p + n) * 32 - 1), .bool true]) w) : C.q Tryz.prog 177 #[.int .i64 p, .int .i64 n] w K := by
  refine F177.sh ?_
  simp only [C.ar, C.bo, C.au, C.bl, C.bc, C.al, decide_false, show ¬ (p < 0) by omega, show ¬ (n < 1) by omega, show ¬ (p ≥ 64) by omega]
  rw [qaa (n := 64 - p) (by omega)]
  simp only [C.ac, decide_false, show ¬ (n > 64 - p) by omega]
  refine F177.k3.to ?_
  simp only [C.a6, C.bo, C.bq]
  rw [qaa (n := p * 32) (by omega), qaa (n := p + n) (by omega), qaa (n := (p + n) * 32) (by omega), qaa (n := (p + n) * 32 - 1) (by omega)]
  exact h
theorem qux {s n : Int} (h : ∀ ok, K (.tuple #[.int .i64 (qhv s n), .bool ok]) w) : C.q Tryz.prog 180 #[.int .i64 s, .int .i64 n] w K := by
  refine F180.sh ?_
  unfold qhv at h
  by_cases h1 : s < 0
  · simp only [C.ah, C.aw, C.au, C.ba, decide_true, h1]
    have := h false; rwa [if_neg (by omega)] at this
  simp only [C.ar, C.au, C.bc, C.al, decide_false, h1]
  by_cases h2 : s ≥ 1099511627776
  · simp only [C.ah, C.aw, C.ba, decide_true, h2]
    have := h false; rwa [if_neg (by omega)] at this
  simp only [C.ar, C.au, C.al, decide_false, h2]
  by_cases h3 : n < 0
  · simp only [C.ah, C.aw, C.ba, decide_true, h3]
    have := h false; rwa [if_neg (by omega)] at this
  simp only [C.ar, C.bl, C.al, decide_false, h3]
  by_cases h4 : n > 127
  · simp only [C.ah, decide_true, h4]
    have := h false; rwa [if_neg (by omega)] at this
  simp only [C.ac, decide_false, h4]
  refine F180.k3.to ?_
  simp only [C.a6, C.bq]
  rw [qaa (n := s * 128) (by omega), qaa (n := s * 128 + n) (by omega)]
  have := h true; rwa [if_pos (by omega)] at this
theorem qse {a : Int} (ha : -9223372036854775808 ≤ a ∧ a ≤ 9223372036854775807) (h : ∀ ok, K (.tuple #[.int .i64 (qfz a).1, .int .i64 (qfz a).2, .bool ok]) w) : C.q Tryz.prog 199 #[.int .i64 a] w K := by
  refine F199.sh ?_
  unfold qfz at h
  by_cases h1 : a < 0
  · simp only [C.ah, C.aw, C.au, C.ba, decide_true, h1]
    have := h false; rwa [if_neg (by omega)] at this
  simp only [C.ar, C.au, C.al, decide_false, h1]
  refine ⟨_, qbr _ _ a 128 (by decide), ?_⟩
  rw [Int.tdiv_eq_ediv_of_nonneg (by omega), qaa (by omega)]
  by_cases h2 : a / 128 ≥ 1099511627776
  · simp only [C.ah, C.bc, decide_true, h2]
    have := h false; rwa [if_neg (by omega)] at this
  simp only [C.ac, C.bc, decide_false, h2]
  refine F199.k3.to ⟨_, qbr _ _ a 128 (by decide), _, qdr _ _ a 128 (by decide), ?_⟩
  rw [Int.tdiv_eq_ediv_of_nonneg (by omega), Int.tmod_eq_emod_of_nonneg (by omega), qaa (by omega)]
  have := h true; rwa [if_pos (by omega)] at this
end
end Go.Proofs.YtcakfaakbpdklaaGreatDoorV
namespace Go.Proofs.YtcakfaakbpdklaaGreatDoorV
open Go Go.Proofs
set_option linter.unusedVariables false
set_option maxRecDepth 100000
noncomputable section
variable {K : VK} {w : World} {x0 x1 y0 y1 y5 : Value}
namespace F22
def ann : Ann := ⟨[(3, [0, 1]), (5, [0, 1, 5]), (6, [0, 1, 5]), (8, [])], [(4, [0, 1, 5])], [], [(6, (.take 0 (.take 1 (.take 2 (.take 4 (.take 5 (.take 6 (.take 3 (.take 7 (.take 8 .fin))))))))))], none⟩
def code := cd Tryz.f22
def top := tp Tryz.f22
variable (K : VK) (y0 y1 y5 : Value) (w : World)
def k3 : Prop := nk ann 26 [(0, y0), (1, y1)] w [1, 1] code (top K)
def k8 : Prop := nk ann 26 [] w [1, 1, 1] code (top K)
def l4 : Prop := nl ann 26 [(0, y0), (1, y1), (5, y5)] w [1, 1, 0, 1, 0] code (top K)
def k6 : Prop := nk ann 26 [(0, y0), (1, y1), (5, y5)] w [1, 1, 0, 1, 0, 0, 1] code (top K)
def k5 : Prop := nk ann 26 [(0, y0), (1, y1), (5, y5)] w [1, 1, 0, 1, 0, 0, 1, 1] code (top K)
attribute [irreducible] k3 k8 l4 k6 k5
end F22
theorem F22.k3.to (h : (F22.l4 K y0 y1 (.int .i64 0) w)) : F22.k3 K y0 y1 w := qq h
theorem F22.k8.to (h : (K (.bool true) w)) : F22.k8 K w := qq h
theorem F22.l4.to (h : (C.bk y0 w fun a b =>
 C.aj .lss y5 a b fun c d =>
 C.am c (F22.k6 K y0 y1 y5 d) (F22.k8 K d))) : F22.l4 K y0 y1 y5 w := by unfold F22.l4 nl; exact qag (qq h)
theorem F22.k6.to (h : (C.a9 w fun S a =>
 C.bj 1 y0 y5 a fun b c =>
 C.bj 1 y1 y5 c fun d f =>
 C.ap S b f fun g i =>
 C.ap S d i fun j k =>
 C.aj .neq g j k fun m o =>
 C.am m (K (.bool false) o) (F22.k5 K y0 y1 y5 o))) : F22.k6 K y0 y1 y5 w := qq h
theorem F22.k5.to (h : (C.aj .add y5 (.int .i64 1) w fun a b =>
 F22.l4 K y0 y1 a b)) : F22.k5 K y0 y1 y5 w := qq h
theorem F22.sh (h : (C.bk x0 w fun a b =>
 C.bk x1 b fun c d =>
 C.aj .neq a c d fun f g =>
 C.am f (K (.bool false) g) (F22.k3 K x0 x1 g))) : C.q Tryz.prog 22 #[x0, x1] w K := q9 (A := F22.ann) (args := [x0, x1]) (qq h)
namespace F21
def ann : Ann := ⟨[(3, [0, 1]), (5, [0, 1, 5]), (6, [0, 1, 5]), (8, [])], [(4, [0, 1, 5])], [], [(6, (.take 0 (.take 1 (.take 2 (.take 4 (.take 5 (.take 6 (.take 3 (.take 7 (.take 8 .fin))))))))))], none⟩
def code := cd Tryz.f21
def top := tp Tryz.f21
variable (K : VK) (y0 y1 y5 : Value) (w : World)
def k3 : Prop := nk ann 26 [(0, y0), (1, y1)] w [1, 1] code (top K)
def k8 : Prop := nk ann 26 [] w [1, 1, 1] code (top K)
def l4 : Prop := nl ann 26 [(0, y0), (1, y1), (5, y5)] w [1, 1, 0, 1, 0] code (top K)
def k6 : Prop := nk ann 26 [(0, y0), (1, y1), (5, y5)] w [1, 1, 0, 1, 0, 0, 1] code (top K)
def k5 : Prop := nk ann 26 [(0, y0), (1, y1), (5, y5)] w [1, 1, 0, 1, 0, 0, 1, 1] code (top K)
attribute [irreducible] k3 k8 l4 k6 k5
end F21
theorem F21.k3.to (h : (F21.l4 K y0 y1 (.int .i64 0) w)) : F21.k3 K y0 y1 w := qq h
theorem F21.k8.to (h : (K (.bool true) w)) : F21.k8 K w := qq h
theorem F21.l4.to (h : (C.bk y0 w fun a b =>
 C.aj .lss y5 a b fun c d =>
 C.am c (F21.k6 K y0 y1 y5 d) (F21.k8 K d))) : F21.l4 K y0 y1 y5 w := by unfold F21.l4 nl; exact qag (qq h)
theorem F21.k6.to (h : (C.a9 w fun S a =>
 C.bj 1 y0 y5 a fun b c =>
 C.bj 1 y1 y5 c fun d f =>
 C.ap S b f fun g i =>
 C.ap S d i fun j k =>
 C.aj .neq g j k fun m o =>
 C.am m (K (.bool false) o) (F21.k5 K y0 y1 y5 o))) : F21.k6 K y0 y1 y5 w := qq h
theorem F21.k5.to (h : (C.aj .add y5 (.int .i64 1) w fun a b =>
 F21.l4 K y0 y1 a b)) : F21.k5 K y0 y1 y5 w := qq h
theorem F21.sh (h : (C.bk x0 w fun a b =>
 C.bk x1 b fun c d =>
 C.aj .neq a c d fun f g =>
 C.am f (K (.bool false) g) (F21.k3 K x0 x1 g))) : C.q Tryz.prog 21 #[x0, x1] w K := q9 (A := F21.ann) (args := [x0, x1]) (qq h)
end
end Go.Proofs.YtcakfaakbpdklaaGreatDoorV
namespace Go.Proofs.YtcakfaakbpdklaaGreatDoorV
open Go Go.Proofs Go.RowKit
set_option linter.unusedVariables false
set_option linter.unusedSimpArgs false
def qaf (l : List Int) : List (List Value) := l.map fun n => [.int .i64 n]
theorem qaj (l : List Int) : (qaf l).length = l.length := by simp [qaf]
theorem qe5 {l : List Int} {j : Nat} (h : j < l.length) : (qaf l)[j]? = some [.int .i64 l[j]] := by simp [qaf, h]
theorem qil (l k : List Int) : qaf (l ++ k) = qaf l ++ qaf k := by simp [qaf]
theorem qj4 {α : Type} {a b : List α} (hl : a.length = b.length) (h : ∀ (i : Nat) (h1 : i < a.length) (h2 : i < b.length), a[i] = b[i]) : a = b := List.ext_getElem hl h
section
variable {K : VK} {w : World}
theorem C.bw {v : Value} {l : List Int} {k : IntKind} {i : Nat} (h : RdS w v 1 (qaf l)) (hi : i < l.length) (hk : ∀ g o cs e fz, w.heap[g]? = some (.cells cs e fz) → cs[o]? = some (.int .i64 l[i]) → K (.pointer (some ⟨g, o, none⟩)) w) :
    C.bj 1 v (.int k (i : Int)) w K := by
  refine C.b6 h (by omega) (by rw [Int.toNat_natCast]; exact qe5 hi) fun g o cs e fz hg _ hc => hk g o cs e fz hg ?_
  have := hc 0 (by omega)
  simpa using this
theorem qpy {a b : Value} {x y : List Int} (hl : x.length = y.length) :
    ∀ (d j : Nat) (w : World), x.length = j + d → RdS w a 1 (qaf x) → RdS w b 1 (qaf y) → (∀ i (h1 : i < x.length) (h2 : i < y.length), i < j → x[i] = y[i]) → (∀ w', Fr [] w w' → K (.bool (decide (x = y))) w') → F22.l4 K a b (.int .i64 (j : Int)) w := by
  intro d
  induction d with
  | zero =>
    intro j w hd ha hb he h
    refine F22.l4.to (C.bh ha ?_)
    have e : ¬ ((j : Int) < ((qaf x).length : Int)) := by rw [qaj]; omega
    simp only [C.ac, C.au, decide_false, e]
    refine F22.k8.to ?_
    have : x = y := qj4 hl fun i h1 h2 => he i h1 h2 (by omega)
    have h := h w (Fr.refl _ _)
    rw [decide_eq_true this] at h
    exact h
  | succ d ih =>
    intro j w hd ha hb he h
    have hle := ha.le
    rw [qaj] at hle
    refine F22.l4.to (C.bh ha ?_)
    have e : ((j : Int) < ((qaf x).length : Int)) := by rw [qaj]; omega
    simp only [C.ah, C.au, decide_true, e]
    refine F22.k6.to ?_
    have jx : j < x.length := by omega
    have jy : j < y.length := by omega
    refine C.a4 (fun w' => w'.heap = w.heap ∧ RdS w' a 1 (qaf x) ∧ RdS w' b 1 (qaf y)) fun w1 hf1 he1 => ⟨⟨he1, ha.keep hf1, hb.keep hf1⟩, ?_⟩
    refine C.bx (S := fun w' => w'.heap = w.heap ∧ RdS w' a 1 (qaf x) ∧ RdS w' b 1 (qaf y)) (fun w' h => h.2.1) ⟨he1, ha.keep hf1, hb.keep hf1⟩ (by omega) (by rw [Int.toNat_natCast]; exact qe5 jx) fun g o hl1 hs1 => ?_
    refine C.bx (S := fun w' => w'.heap = w.heap ∧ RdS w' a 1 (qaf x) ∧ RdS w' b 1 (qaf y)) (fun w' h => h.2.2) ⟨he1, ha.keep hf1, hb.keep hf1⟩ (by omega) (by rw [Int.toNat_natCast]; exact qe5 jy) fun g' o' hl2 hs2 => ?_
    refine C.an (v := .int .i64 x[j]) (fun w' hw => ?_) (C.an (v := .int .i64 y[j]) (fun w' hw => ?_) ?_)
    · obtain ⟨cs, e, fz, hg, hc⟩ := hs1 w' hw
      exact ⟨cs, e, fz, hg, by simpa using hc 0 (by omega)⟩
    · obtain ⟨cs, e, fz, hg, hc⟩ := hs2 w' hw
      exact ⟨cs, e, fz, hg, by simpa using hc 0 (by omega)⟩
    simp only [C.be]
    by_cases hxy : x[j] = y[j]
    · simp only [C.ac, eq_self, decide_false, hxy, ne_eq, not_true_eq_false]
      refine F22.k5.to ?_
      simp only [C.a6]
      rw [qaa (n := (j : Int) + 1) (by omega), show (j : Int) + 1 = ((j + 1 : Nat) : Int) by omega]
      refine ih (j + 1) w1 (by omega) (ha.keep hf1) (hb.keep hf1) (fun i h1 h2 hi => ?_) (fun w' hf => h w' (hf1.trans hf))
      rcases Nat.lt_or_ge i j with h3 | h3
      · exact he i h1 h2 h3
      · obtain rfl : i = j := by omega
        exact hxy
    · simp only [C.ah, decide_true, hxy, ne_eq, not_false_eq_true]
      have : ¬ x = y := by rintro rfl; exact hxy rfl
      have h := h w1 hf1
      rw [decide_eq_false this] at h
      exact h
theorem qwp {a b : Value} {x y : List Int} (ha : RdS w a 1 (qaf x)) (hb : RdS w b 1 (qaf y)) (h : ∀ w', Fr [] w w' → K (.bool (decide (x = y))) w') : C.q Tryz.prog 22 #[a, b] w K := by
  refine F22.sh (C.bh ha (C.bh hb ?_))
  simp only [C.be, qaj]
  by_cases hl : x.length = y.length
  · simp only [C.ac, eq_self, decide_false, hl, ne_eq, not_true_eq_false]
    refine F22.k3.to ?_
    exact qpy hl x.length 0 w (by omega) ha hb (fun i _ _ h => absurd h (by omega)) h
  · have e : ¬ ((x.length : Int) = (y.length : Int)) := by omega
    simp only [C.ah, decide_true, e, ne_eq, not_false_eq_true]
    have : ¬ x = y := by rintro rfl; exact hl rfl
    have h := h w (Fr.refl _ _)
    rw [decide_eq_false this] at h
    exact h
end
section
variable {P : Program} {K : VK} {w : World} {t ty e : TypeId} {sz bytes : Nat} {z : Value}
theorem C.ci {W0 : World} {v src : Value} {xs ys : List (List Value)} (ht : P.underlying t = some (.slice e)) (hinfo : (P.info? e).map (fun i => (i.zero, i.size, i.bytes)) = some (some z, sz, bytes)) (hz : z.cells.size = sz) (hsz : 0 < sz)
    (hf : Fr [] W0 w) (hn : qal W0 v) (hv : qad w v e sz xs) (hs : RdS w src sz ys) (h1 : ∀ y ∈ ys, ∀ u ∈ y, u.oneCell' = true)
    (hb : (xs.length + ys.length) * bytes ≤ 140737488355328) (hm : xs.length + ys.length ≤ 9223372036854775807)
    (hk : ∀ v' w', Fr [] W0 w' → qal W0 v' → qad w' v' e sz (xs ++ ys) → Fr (qab v) w w' → (∀ g ∈ qab v', g ∈ qab v ∨ w.heap.size ≤ g) → K v' w') : C.ay P (Builtin.append_ #[t, t] ty #[v, src]) w K := by
  refine C.b9 ht hinfo hz hsz hv hs h1 hb hm fun v' w' ho hf' hbk _ => ?_
  have hg : ∀ g ∈ qab v', g ∈ qab v ∨ w.heap.size ≤ g := fun g hg => by
    rw [qan] at hg
    rcases hbk with c | ⟨g', c, d⟩
    · exact .inl (qan.2 (by rw [← c]; exact hg))
    · rw [hg] at c
      simp only [Option.some.injEq] at c
      exact .inr (by omega)
  refine hk v' w' (hf.then hf' fun x hx => .inr (hn x (qan.1 hx))) (fun g hgg => ?_) ho hf' hg
  rcases hg g (qan.2 hgg) with c | c
  · exact hn g (qan.1 c)
  · have := hf.size; omega
theorem C.cv {W0 : World} {v xv : Value} {xs : List (List Value)} {x : List Value} (ht : P.underlying t = some (.slice e)) (hinfo : (P.info? e).map (fun i => (i.zero, i.size, i.bytes)) = some (some z, sz, bytes)) (hz : z.cells.size = sz) (hsz : 0 < sz)
    (hbs : (Instr.buildSlice t 1 #[(0, xv)]).run P w = .ok (.slice (some ⟨w.heap.size, 0, none⟩) 1 1) (w.alloc (.cells x.toArray e))) (hx : x.length = sz) (hone : ∀ u ∈ x, u.oneCell' = true)
    (hf : Fr [] W0 w) (hn : qal W0 v) (hv : qad w v e sz xs) (hb : (xs.length + 1) * bytes ≤ 140737488355328) (hm : xs.length + 1 ≤ 9223372036854775807)
    (hk : ∀ v' w', Fr [] W0 w' → qal W0 v' → qad w' v' e sz (xs ++ [x]) → Fr (qab v) w w' → (∀ g ∈ qab v', g ∈ qab v ∨ w.heap.size ≤ g) → K v' w') :
    C.ay P (Instr.buildSlice t 1 #[(0, xv)]) w fun y w1 => C.ay P (Builtin.append_ #[t, t] ty #[v, y]) w1 K := by
  refine C.a5 hbs ?_
  have hw := New.mk' w (.cells x.toArray e)
  refine C.ci (ys := [x]) ht hinfo hz hsz (hf.trans hw.fr) hn (hv.keep hw.fr (by simp)) (RdS.of_block hw.at_ rfl (by simp) (by simp) (by simpa using hx) (by simp [← hx])) (by simpa using hone) (by simpa using hb) (by simpa using hm) fun v' w' a b c d e' => hk v' w' a b c (hw.fr.w.trans d) fun g hg => ?_
  rcases e' g hg with c | c
  · exact .inl c
  · have := hw.fr.size; exact .inr (by omega)
end
end Go.Proofs.YtcakfaakbpdklaaGreatDoorV
namespace Go.Proofs.YtcakfaakbpdklaaGreatDoorV
open Go Go.RowKit
set_option linter.unusedVariables false
set_option linter.unusedSimpArgs false
theorem qad.ne {w : World} {v v' : Value} {e e' : TypeId} {sz sz' : Nat} {xs ys : List (List Value)} (h : qad w v e sz xs) (h' : qad w v' e' sz' ys) (he : e ≠ e') : ∀ g ∈ qab v, g ∉ qab v' := by
  intro g hg hg'
  rw [qan] at hg hg'
  obtain ⟨⟨_, h3⟩, _⟩ := h
  obtain ⟨⟨_, h3'⟩, _⟩ := h'
  rcases h3 with ⟨rfl, _⟩ | ⟨k, cap, cur, rfl, _, hh, _⟩
  · simp [Value.ownBlock] at hg
  · rcases h3' with ⟨rfl, _⟩ | ⟨k', cap', cur', rfl, _, hh', _⟩
    · simp [Value.ownBlock] at hg'
    · simp only [Value.ownBlock, Option.some.injEq] at hg hg'
      rw [hg] at hh
      rw [hg', hh] at hh'
      simp only [Option.some.injEq, Obj.cells.injEq] at hh'
      exact he hh'.2.1
theorem qad.nb {w : World} {v : Value} {e : TypeId} {sz : Nat} {xs : List (List Value)} {g : Nat} {cs : Array Value} {e' : TypeId} {fz : Nat × Nat} (h : qad w v e sz xs) (hg : w.heap[g]? = some (.cells cs e' fz)) (he : e ≠ e') : g ∉ qab v := by
  intro hg'
  rw [qan] at hg'
  obtain ⟨⟨_, h3⟩, _⟩ := h
  rcases h3 with ⟨rfl, _⟩ | ⟨k, cap, cur, rfl, _, hh, _⟩
  · simp [Value.ownBlock] at hg'
  · simp only [Value.ownBlock, Option.some.injEq] at hg'
    rw [hg', hg] at hh
    simp only [Option.some.injEq, Obj.cells.injEq] at hh
    exact he hh.2.1.symm
end Go.Proofs.YtcakfaakbpdklaaGreatDoorV
namespace Go.Proofs.YtcakfaakbpdklaaGreatDoorV
open Go Go.Proofs Go.RowKit
set_option linter.unusedVariables false
set_option linter.unusedSimpArgs false
set_option maxRecDepth 10000
theorem qh2 {w : World} {l : Nat} {o o' : Obj} (h : w.heap[l]? = some o') : Upd w l o (w.putObj l o) := by
  have hl := qac h
  refine ⟨⟨rfl, rfl, rfl, by simp [World.putObj], fun b hb hS => ?_⟩, ?_, by simp [World.putObj]⟩
  · simp only [List.mem_singleton] at hS
    simp [World.putObj, Ne.symm hS]
  · simp [World.putObj, hl]
theorem qrg : ∀ {env : Env} {t : Nat} {v : Value}, lk env t = some v → (t, v) ∈ env
  | [], t, v, h => by simp [lk] at h
  | (s, u) :: env, t, v, h => by
    simp only [lk] at h
    cases hb : Nat.beq s t with
    | true =>
      rw [hb] at h
      simp only [cond_true, Option.some.injEq] at h
      rw [Nat.eq_of_beq_eq_true hb] at *
      rw [h]; simp
    | false =>
      rw [hb] at h
      simp only [cond_false] at h
      exact List.mem_cons_of_mem _ (qrg h)
theorem qq5 {tmps : Array Value} {env : Env} (h : ∀ x ∈ env, tmps[x.1]? = some x.2) : ∀ t v, lkT env t = some v → tmps[t]? = some v := fun t v ht => h (t, v) (qrg (qe6 ht).2)
section
variable {K : VK} {w : World}
theorem bsI (a : Int) : (Instr.buildSlice 54 1 #[(0, .int .i64 a)]).run Tryz.prog w = .ok (.slice (some ⟨w.heap.size, 0, none⟩) 1 1) (w.alloc (.cells #[.int .i64 a] 3)) := by kernel_rfl
theorem ql7 {l : List Int} : ∀ y ∈ qaf l, ∀ u ∈ y, u.oneCell' = true := by
  intro y hy u hu
  simp only [qaf, List.mem_map] at hy
  obtain ⟨x, _, rfl⟩ := hy
  simp only [List.mem_cons, List.not_mem_nil, or_false] at hu
  subst hu
  rfl
theorem C.cq {W0 : World} {v : Value} {l : List Int} {n : Int} (hf : Fr [] W0 w) (hn : qal W0 v) (hv : qad w v 3 1 (qaf l)) (hl : l.length ≤ 17592186044415)
    (hk : ∀ v' w', Fr [] W0 w' → qal W0 v' → qad w' v' 3 1 (qaf (l ++ [n])) → Fr (qab v) w w' → (∀ g ∈ qab v', g ∈ qab v ∨ w.heap.size ≤ g) → K v' w') :
    C.ay Tryz.prog (Instr.buildSlice 54 1 #[(0, .int .i64 n)]) w fun x w1 => C.ay Tryz.prog (Builtin.append_ #[54, 54] 54 #[v, x]) w1 K :=
  C.cv (x := [.int .i64 n]) (e := 3) (sz := 1) (bytes := 8) (z := .int .i64 0) Tryz.underlying54 (by kernel_rfl) rfl (by decide) (bsI n) rfl (by simp [Value.oneCell']) hf hn hv (by rw [qaj]; omega) (by rw [qaj]; omega) fun v' w' a b c d e => hk v' w' a b (by rw [qil]; exact c) d e
def qgb (w : World) : World := { w with heap := #[] }
theorem qfw (w : World) : Fr [] (qgb w) w := ⟨rfl, rfl, rfl, by simp [qgb], fun i hi => by simp [qgb] at hi⟩
theorem qe8 (w : World) (v : Value) : qal (qgb w) v := fun g _ => by simp [qgb]
theorem C.cy {v : Value} {l : List Int} {n : Int} (hv : qad w v 3 1 (qaf l)) (hl : l.length ≤ 17592186044415)
    (hk : ∀ v' w', qad w' v' 3 1 (qaf (l ++ [n])) → Fr (qab v) w w' → (∀ g ∈ qab v', g ∈ qab v ∨ w.heap.size ≤ g) → K v' w') :
    C.ay Tryz.prog (Instr.buildSlice 54 1 #[(0, .int .i64 n)]) w fun x w1 => C.ay Tryz.prog (Builtin.append_ #[54, 54] 54 #[v, x]) w1 K :=
  C.cq (qfw w) (qe8 w v) hv hl fun v' w' _ _ a b c => hk v' w' a b c
end
theorem qj6 {W0 w : World} {v v' : Value} (h : qal W0 v) (hs : W0.heap.size ≤ w.heap.size) (hg : ∀ g ∈ qab v', g ∈ qab v ∨ w.heap.size ≤ g) : qal W0 v' := fun g hx => by
  rcases hg g (qan.2 hx) with c | c
  · exact h.blk g c
  · omega
theorem qad.no {w : World} {v : Value} {e : TypeId} {sz : Nat} {xs : List (List Value)} {b : Nat} {o : Obj} (h : qad w v e sz xs) (hb : w.heap[b]? = some o) (hne : ∀ cs e' fz, o ≠ .cells cs e' fz) : b ∉ qab v := fun hg => by
  obtain ⟨⟨_, hx⟩, _⟩ := h
  rcases hx with ⟨e, _⟩ | ⟨k, cap, cur, e, _, hh, _⟩
  · rw [e] at hg; simp [qab, Value.ownBlock] at hg
  · rw [e] at hg
    simp [qab, Value.ownBlock] at hg
    subst hg
    rw [hb] at hh
    exact hne _ _ _ (Option.some.inj hh)
end Go.Proofs.YtcakfaakbpdklaaGreatDoorV
namespace Go.Proofs.YtcakfaakbpdklaaGreatDoorV
open Go Go.Proofs
set_option linter.unusedVariables false
set_option maxRecDepth 100000
noncomputable section
variable {K : VK} {w : World} {x0 x1 x2 x3 y0 y1 y2 y3 y4 y5 y6 y9 y10 y20 y21 : Value}

theorem F172.sh (h : (C.q Tryz.prog 66 #[x0, (.int .i64 0), (.int .i64 2048)] w fun a b =>
 C.ay Tryz.prog (Instr.makeSlice 52 a a) b fun c d =>
 C.ay Tryz.prog (Instr.build 295 #[(0, (.bool true)), (1, c)]) d fun f g =>
 C.a3 (.cells (Value.cells f) 295) g fun i j =>
 K i j)) : C.q Tryz.prog 172 #[x0] w K := q9 (A := A0) (args := [x0]) (qq h)
namespace F179
def ann : Ann := ⟨[(4, [3, 9, 10, 20, 21]), (6, [3, 9, 10, 20, 21]), (7, [10])], [(3, [3, 9, 10, 20, 21])], [], [], none⟩
def code := cd Tryz.f179
def top := tp Tryz.f179
variable (K : VK) (y3 y9 y10 y20 y21 : Value) (w : World)
def k7 : Prop := nk ann 30 [(10, y10)] w [1, 1, 1] code (top K)
def l3 : Prop := nl ann 30 [(3, y3), (9, y9), (10, y10), (20, y20), (21, y21)] w [1, 1, 0, 1, 0] code (top K)
def k4 : Prop := nk ann 30 [(3, y3), (9, y9), (10, y10), (20, y20), (21, y21)] w [1, 1, 0, 1, 0, 0, 1, 1] code (top K)
def k6 : Prop := nk ann 30 [(3, y3), (9, y9), (10, y10), (20, y20), (21, y21)] w [1, 1, 0, 1, 0, 0, 1, 1, 1] code (top K)
attribute [irreducible] k7 l3 k4 k6
end F179
theorem F179.k7.to (h : (K y10 w)) : F179.k7 K y10 w := qq h
theorem F179.l3.to (h : (C.aj .lss y21 y20 w fun a b =>
 C.am a (F179.k4 K y3 y9 y10 y20 y21 b) (F179.k7 K y10 b))) : F179.l3 K y3 y9 y10 y20 y21 w := by unfold F179.l3 nl; exact qag (qq h)
theorem F179.k4.to (h : (C.bj 1 y9 y21 w fun a b =>
 C.ak 1 a y3 b fun c =>
 F179.k6 K y3 y9 y10 y20 y21 c)) : F179.k4 K y3 y9 y10 y20 y21 w := qq h
theorem F179.k6.to (h : (C.aj .add y21 (.int .i64 1) w fun a b =>
 F179.l3 K y3 y9 y10 y20 a b)) : F179.k6 K y3 y9 y10 y20 y21 w := qq h
theorem F179.sh (h : (C.q Tryz.prog 245 #[x0, x1, x2] w fun a b =>
 C.a0 0 a b fun c d =>
 C.a0 1 a d fun f g =>
 C.bk c g fun i j =>
 F179.l3 K x3 c f i (.int .i64 0) j)) : C.q Tryz.prog 179 #[x0, x1, x2, x3] w K := q9 (A := F179.ann) (args := [x0, x1, x2, x3]) (qq h)
namespace F245
def ann : Ann := ⟨[(3, [0, 1, 2])], [], [], [], none⟩
def code := cd Tryz.f245
def top := tp Tryz.f245
variable (K : VK) (y0 y1 y2 : Value) (w : World)
def k3 : Prop := nk ann 57 [(0, y0), (1, y1), (2, y2)] w [1, 1] code (top K)
attribute [irreducible] k3
end F245
theorem F245.k3.to (h : (C.ad y0 w fun a b =>
 C.ab 1 a b fun c d =>
 C.ai c d fun f g =>
 C.aj .add y1 y2 g fun i j =>
 C.aj .add y1 y2 j fun k m =>
 C.ay Tryz.prog (Instr.sliceAt 52 f (some y1) (some i) (some k)) m fun o p =>
 K (.tuple #[o, (.bool true)]) p)) : F245.k3 K y0 y1 y2 w := qq h
theorem F245.sh (h : (C.bi Tryz.prog .eql 238 (.tmp 8) (.const (.pointer none)) x0 (.pointer none) w fun a b =>
 C.i false a (fun K => K x0 b) b fun c d =>
 C.i false a (fun K => C.ad c d K) d fun f g =>
 C.i false a (fun K => C.ab 0 f g K) g fun i j =>
 C.i false a (fun K => C.ai i j K) j fun k m =>
 C.i false a (fun K => C.bg k m K) m fun o p =>
 C.a2 (some a) (some (.bool true)) (some o) p fun q r =>
 C.i false q (fun K => K x1 r) r fun s t =>
 C.i false q (fun K => C.aj .lss s (.int .i64 0) t K) t fun u v =>
 C.a2 (some q) (some (.bool true)) (some u) v fun x y =>
 C.i false x (fun K => K x2 y) y fun z aa =>
 C.i false x (fun K => C.aj .lss z (.int .i64 0) aa K) aa fun ab ac =>
 C.a2 (some x) (some (.bool true)) (some ab) ac fun ad ae =>
 C.i false ad (fun K => K x1 ae) ae fun af ag =>
 C.i false ad (fun K => K x0 ag) ag fun ah ai =>
 C.i false ad (fun K => C.ad ah ai K) ai fun aj ak =>
 C.i false ad (fun K => C.ab 1 aj ak K) ak fun al am =>
 C.i false ad (fun K => C.ai al am K) am fun an ao =>
 C.i false ad (fun K => C.bk an ao K) ao fun ap aq =>
 C.i false ad (fun K => C.aj .gtr af ap aq K) aq fun ar au =>
 C.a2 (some ad) (some (.bool true)) (some ar) au fun av aw =>
 C.i false av (fun K => K x2 aw) aw fun ax ay =>
 C.i false av (fun K => K x0 ay) ay fun az ba =>
 C.i false av (fun K => C.ad az ba K) ba fun bb bc =>
 C.i false av (fun K => C.ab 1 bb bc K) bc fun bd be =>
 C.i false av (fun K => C.ai bd be K) be fun bf bg =>
 C.i false av (fun K => C.bk bf bg K) bg fun bh bi =>
 C.i false av (fun K => K x1 bi) bi fun bj bk =>
 C.i false av (fun K => C.aj .sub bh bj bk K) bk fun bl bm =>
 C.i false av (fun K => C.aj .gtr ax bl bm K) bm fun bn bo =>
 C.a2 (some av) (some (.bool true)) (some bn) bo fun bp bq =>
 C.am bp (K (.tuple #[(.slice none 0 0), (.bool false)]) bq) (F245.k3 K x0 x1 x2 bq))) : C.q Tryz.prog 245 #[x0, x1, x2] w K := q9 (A := F245.ann) (args := [x0, x1, x2]) (qq h)

theorem F247.sh (h : (C.q Tryz.prog 179 #[x0, x1, (.int .i64 1), x2] w fun a b =>
 K a b)) : C.q Tryz.prog 247 #[x0, x1, x2] w K := q9 (A := A0) (args := [x0, x1, x2]) (qq h)
namespace F257
def ann : Ann := ⟨[(4, [6])], [], [], [], none⟩
def code := cd Tryz.f257
def top := tp Tryz.f257
variable (K : VK) (y6 : Value) (w : World)
def k4 : Prop := nk ann 19 [(6, y6)] w [1, 1, 1] code (top K)
attribute [irreducible] k4
end F257
theorem F257.k4.to (h : (C.bj 1 y6 (.int .i64 0) w fun a b =>
 C.ai a b fun c d =>
 K (.tuple #[c, (.bool true)]) d)) : F257.k4 K y6 w := qq h
theorem F257.sh (h : (C.q Tryz.prog 245 #[x0, x1, (.int .i64 1)] w fun a b =>
 C.a0 0 a b fun c d =>
 C.a0 1 a d fun f g =>
 C.bg f g fun i j =>
 C.am i (K (.tuple #[(.int .i64 0), (.bool false)]) j) (F257.k4 K c j))) : C.q Tryz.prog 257 #[x0, x1] w K := q9 (A := F257.ann) (args := [x0, x1]) (qq h)
namespace F308
def ann : Ann := ⟨[(3, [0])], [], [], [], none⟩
def code := cd Tryz.f308
def top := tp Tryz.f308
variable (K : VK) (y0 : Value) (w : World)
def k3 : Prop := nk ann 10 [(0, y0)] w [1, 1] code (top K)
attribute [irreducible] k3
end F308
theorem F308.k3.to (h : (C.ad y0 w fun a b =>
 C.ab 1 a b fun c d =>
 C.ai c d fun f g =>
 C.bk f g fun i j =>
 K i j)) : F308.k3 K y0 w := qq h
theorem F308.sh (h : (C.bi Tryz.prog .eql 238 (.tmp 3) (.const (.pointer none)) x0 (.pointer none) w fun a b =>
 C.am a (K (.int .i64 0) b) (F308.k3 K x0 b))) : C.q Tryz.prog 308 #[x0] w K := q9 (A := F308.ann) (args := [x0]) (qq h)

theorem F116.sh (h : (C.q Tryz.prog 66 #[x0, (.int .i64 0), (.int .i64 2048)] w fun a b =>
 C.ay Tryz.prog (Instr.build 255 #[(0, (.bool true)), (1, a)]) b fun c d =>
 C.a3 (.cells (Value.cells c) 255) d fun f g =>
 K f g)) : C.q Tryz.prog 116 #[x0] w K := q9 (A := A0) (args := [x0]) (qq h)
namespace F178
def ann : Ann := ⟨[(3, [0, 1])], [], [], [(3, (.take 0 (.take 1 (.take 3 (.take 4 (.take 7 (.take 11 (.take 12 (.take 2 (.take 5 (.take 8 (.take 9 (.go 6 (.take 10 (.take 13 (.go 14 .fin .fin))) .fin)))))))))))))], none⟩
def code := cd Tryz.f178
def top := tp Tryz.f178
variable (K : VK) (y0 y1 : Value) (w : World)
def k3 : Prop := nk ann 28 [(0, y0), (1, y1)] w [1, 1] code (top K)
attribute [irreducible] k3
end F178
theorem F178.k3.to (h : (C.a9 w fun S a =>
 C.ad y0 a fun b c =>
 C.ab 2 b c fun d f =>
 C.ad y0 f fun g i =>
 C.ab 2 g i fun j k =>
 ∃ m, (∀ w', S w' → ((do eqGuard .quo 3 (.tmp 15) (.const (.int .i64 64)) y1 (.int .i64 64); binOp .quo 3 y1 (.int .i64 64) : Sem Value)).run Tryz.prog w' = .ok m w') ∧ (C.bt 32 1 d m k fun o p =>
 ∃ q, (∀ w', S w' → ((do eqGuard .rem 3 (.tmp 21) (.const (.int .i64 64)) y1 (.int .i64 64); binOp .rem 3 y1 (.int .i64 64) : Sem Value)).run Tryz.prog w' = .ok q w') ∧ (∃ r, (∀ w', S w' → ((do eqGuard .shl 210 (.const (.int .u64 1)) (.tmp 22) (.int .u64 1) q; binOp .shl 210 (.int .u64 1) q : Sem Value)).run Tryz.prog w' = .ok r w') ∧ ((C.ai o p fun s t =>
 (S t ∧
 ∃ u, (∀ w', S w' → ((do eqGuard .or 210 (.tmp 20) (.tmp 23) s r; binOp .or 210 s r : Sem Value)).run Tryz.prog w' = .ok u w') ∧ (C.bt 32 1 j m t fun v x =>
 (C.ak 1 v u x fun y =>
 (S y ∧
 K (.bool true) y)) ∧ True))) ∧ True))))) : F178.k3 K y0 y1 w := qq h
theorem F178.sh (h : (C.q Tryz.prog 243 #[x0, x1] w fun a b =>
 C.bg a b fun c d =>
 C.i false c (fun K => K x0 d) d fun f g =>
 C.i false c (fun K => K x1 g) g fun i j =>
 C.i false c (fun K => C.q Tryz.prog 244 #[f, i] j K) j fun k m =>
 C.a2 (some c) (some (.bool true)) (some k) m fun o p =>
 C.am o (K (.bool false) p) (F178.k3 K x0 x1 p))) : C.q Tryz.prog 178 #[x0, x1] w K := q9 (A := F178.ann) (args := [x0, x1]) (qq h)
namespace F202
def ann : Ann := ⟨[(4, [0, 3, 4]), (5, [0, 3, 4]), (6, [3])], [(3, [0, 3, 4])], [], [], none⟩
def code := cd Tryz.f202
def top := tp Tryz.f202
variable (K : VK) (y0 y3 y4 : Value) (w : World)
def k6 : Prop := nk ann 18 [(3, y3)] w [1, 1, 1] code (top K)
def l3 : Prop := nl ann 18 [(0, y0), (3, y3), (4, y4)] w [1, 1, 0, 1, 0] code (top K)
def k5 : Prop := nk ann 18 [(0, y0), (3, y3), (4, y4)] w [1, 1, 0, 1, 0, 0, 1] code (top K)
def k4 : Prop := nk ann 18 [(0, y0), (3, y3), (4, y4)] w [1, 1, 0, 1, 0, 0, 1, 1] code (top K)
attribute [irreducible] k6 l3 k5 k4
end F202
theorem F202.k6.to (h : (K y3 w)) : F202.k6 K y3 w := qq h
theorem F202.l3.to (h : (C.aj .geq y4 (.int .i64 0) w fun a b =>
 C.am a (F202.k5 K y0 y3 y4 b) (F202.k6 K y3 b))) : F202.l3 K y0 y3 y4 w := by unfold F202.l3 nl; exact qag (qq h)
theorem F202.k5.to (h : (C.ay Tryz.prog (Instr.buildSlice 54 1 #[(0, y4)]) w fun a b =>
 C.ay Tryz.prog (Builtin.append_ #[54, 54] 54 #[y3, a]) b fun c d =>
 F202.k4 K y0 c y4 d)) : F202.k5 K y0 y3 y4 w := qq h
theorem F202.k4.to (h : (C.aj .add y4 (.int .i64 1) w fun a b =>
 C.q Tryz.prog 258 #[y0, a] b fun c d =>
 F202.l3 K y0 y3 c d)) : F202.k4 K y0 y3 y4 w := qq h
theorem F202.sh (h : (C.q Tryz.prog 258 #[x0, (.int .i64 0)] w fun a b =>
 F202.l3 K x0 (.slice none 0 0) a b)) : C.q Tryz.prog 202 #[x0] w K := q9 (A := F202.ann) (args := [x0]) (qq h)

theorem F243.sh (h : (C.bi Tryz.prog .neq 177 (.tmp 5) (.const (.pointer none)) x0 (.pointer none) w fun a b =>
 C.i true a (fun K => K x0 b) b fun c d =>
 C.i true a (fun K => C.ad c d K) d fun f g =>
 C.i true a (fun K => C.ab 0 f g K) g fun i j =>
 C.i true a (fun K => C.ai i j K) j fun k m =>
 C.a2 (some a) (some k) (some (.bool false)) m fun o p =>
 C.i true o (fun K => K x1 p) p fun q r =>
 C.i true o (fun K => C.aj .geq q (.int .i64 0) r K) r fun s t =>
 C.a2 (some o) (some s) (some (.bool false)) t fun u v =>
 C.i true u (fun K => K x1 v) v fun x y =>
 C.i true u (fun K => K x0 y) y fun z aa =>
 C.i true u (fun K => C.ad z aa K) aa fun ab ac =>
 C.i true u (fun K => C.ab 1 ab ac K) ac fun ad ae =>
 C.i true u (fun K => C.ai ad ae K) ae fun af ag =>
 C.i true u (fun K => C.aj .lss x af ag K) ag fun ah ai =>
 C.a2 (some u) (some ah) (some (.bool false)) ai fun aj ak =>
 K aj ak)) : C.q Tryz.prog 243 #[x0, x1] w K := q9 (A := A0) (args := [x0, x1]) (qq h)

theorem F244.sh (h : (C.q Tryz.prog 243 #[x0, x1] w fun a b =>
 C.i true a (fun K => K x0 b) b fun c d =>
 C.i true a (fun K => K x1 d) d fun f g =>
 C.i true a (fun K => C.bi Tryz.prog .quo 3 (.tmp 10) (.const (.int .i64 64)) f (.int .i64 64) g K) g fun i j =>
 C.i true a (fun K => C.ad c j K) j fun k m =>
 C.i true a (fun K => C.ab 2 k m K) m fun o p =>
 C.i true a (fun K => C.bt 32 1 o i p K) p fun q r =>
 C.i true a (fun K => C.ai q r K) r fun s t =>
 C.i true a (fun K => K x1 t) t fun u v =>
 C.i true a (fun K => C.bi Tryz.prog .rem 3 (.tmp 16) (.const (.int .i64 64)) u (.int .i64 64) v K) v fun x y =>
 C.i true a (fun K => C.bi Tryz.prog .shr 210 (.tmp 15) (.tmp 17) s x y K) y fun z aa =>
 C.i true a (fun K => C.bi Tryz.prog .and 210 (.tmp 18) (.const (.int .u64 1)) z (.int .u64 1) aa K) aa fun ab ac =>
 C.i true a (fun K => C.aj .eql ab (.int .u64 1) ac K) ac fun ad ae =>
 C.a2 (some a) (some ad) (some (.bool false)) ae fun af ag =>
 K af ag)) : C.q Tryz.prog 244 #[x0, x1] w K := q9 (A := A0) (args := [x0, x1]) (qq h)
namespace F258
def ann : Ann := ⟨[(3, [0, 1]), (6, [0, 5, 6]), (9, [0, 6]), (11, [0, 6])], [(7, [0, 5, 6])], [], [], none⟩
def code := cd Tryz.f258
def top := tp Tryz.f258
variable (K : VK) (y0 y1 y5 y6 : Value) (w : World)
def k3 : Prop := nk ann 60 [(0, y0), (1, y1)] w [1, 1] code (top K)
def l7 : Prop := nl ann 60 [(0, y0), (5, y5), (6, y6)] w [1, 1, 1, 1, 1, 0] code (top K)
def k6 : Prop := nk ann 60 [(0, y0), (5, y5), (6, y6)] w [1, 1, 1, 1, 1, 0, 0, 1] code (top K)
def k9 : Prop := nk ann 60 [(0, y0), (6, y6)] w [1, 1, 1, 1, 1, 0, 0, 0, 0, 1] code (top K)
def k11 : Prop := nk ann 60 [(0, y0), (6, y6)] w [1, 1, 1, 1, 1, 0, 0, 0, 0, 1, 1] code (top K)
attribute [irreducible] k3 l7 k6 k9 k11
end F258
theorem F258.k3.to (h : (C.ay Tryz.prog (Builtin.max_ #[3, 3] 3 #[y1, (.int .i64 0)]) w fun a b =>
 C.bi Tryz.prog .quo 3 (.tmp 27) (.const (.int .i64 64)) a (.int .i64 64) b fun c d =>
 C.ad y0 d fun f g =>
 C.ab 2 f g fun i j =>
 C.bt 32 1 i c j fun k m =>
 C.ai k m fun o p =>
 C.bi Tryz.prog .rem 3 (.tmp 33) (.const (.int .i64 64)) a (.int .i64 64) p fun q r =>
 C.bi Tryz.prog .shr 210 (.tmp 32) (.tmp 34) o q r fun s t =>
 C.bi Tryz.prog .rem 3 (.tmp 36) (.const (.int .i64 64)) a (.int .i64 64) t fun u v =>
 C.bi Tryz.prog .shl 210 (.tmp 35) (.tmp 37) s u v fun x y =>
 C.bi Tryz.prog .quo 3 (.tmp 39) (.const (.int .i64 64)) a (.int .i64 64) y fun z aa =>
 F258.l7 K y0 x z aa)) : F258.k3 K y0 y1 w := qq h
theorem F258.l7.to (h : (C.aj .neq y5 (.int .u64 0) w fun a b =>
 C.am a (C.aj .mul y6 (.int .i64 64) b fun c d =>
 C.q Tryz.prog 291 #[y5] d fun f g =>
 C.aj .add c f g fun i j =>
 K i j) (F258.k9 K y0 y6 b))) : F258.l7 K y0 y5 y6 w := by unfold F258.l7 nl; exact qag (qq h)
theorem F258.k6.to (h : (C.aj .add y6 (.int .i64 1) w fun a b =>
 F258.l7 K y0 y5 a b)) : F258.k6 K y0 y5 y6 w := qq h
theorem F258.k9.to (h : (C.aj .add y6 (.int .i64 1) w fun a b =>
 C.aj .eql a (.int .i64 32) b fun c d =>
 C.am c (K (.int .i64 (-1)) d) (F258.k11 K y0 y6 d))) : F258.k9 K y0 y6 w := qq h
theorem F258.k11.to (h : (C.aj .add y6 (.int .i64 1) w fun a b =>
 C.ad y0 b fun c d =>
 C.ab 2 c d fun f g =>
 C.bt 32 1 f a g fun i j =>
 C.ai i j fun k m =>
 F258.k6 K y0 k y6 m)) : F258.k11 K y0 y6 w := qq h
theorem F258.sh (h : (C.bi Tryz.prog .eql 177 (.tmp 7) (.const (.pointer none)) x0 (.pointer none) w fun a b =>
 C.i false a (fun K => K x0 b) b fun c d =>
 C.i false a (fun K => C.ad c d K) d fun f g =>
 C.i false a (fun K => C.ab 0 f g K) g fun i j =>
 C.i false a (fun K => C.ai i j K) j fun k m =>
 C.i false a (fun K => C.bg k m K) m fun o p =>
 C.a2 (some a) (some (.bool true)) (some o) p fun q r =>
 C.i false q (fun K => K x1 r) r fun s t =>
 C.i false q (fun K => K x0 t) t fun u v =>
 C.i false q (fun K => C.ad u v K) v fun x y =>
 C.i false q (fun K => C.ab 1 x y K) y fun z aa =>
 C.i false q (fun K => C.ai z aa K) aa fun ab ac =>
 C.i false q (fun K => C.aj .geq s ab ac K) ac fun ad ae =>
 C.a2 (some q) (some (.bool true)) (some ad) ae fun af ag =>
 C.am af (K (.int .i64 (-1)) ag) (F258.k3 K x0 x1 ag))) : C.q Tryz.prog 258 #[x0, x1] w K := q9 (A := F258.ann) (args := [x0, x1]) (qq h)
namespace F337
def ann : Ann := ⟨[(3, [0, 1])], [], [], [(3, (.take 0 (.take 1 (.take 3 (.take 4 (.take 7 (.take 11 (.take 12 (.take 2 (.take 5 (.take 8 (.take 9 (.go 6 (.take 10 (.take 13 (.go 14 .fin .fin))) .fin)))))))))))))], none⟩
def code := cd Tryz.f337
def top := tp Tryz.f337
variable (K : VK) (y0 y1 : Value) (w : World)
def k3 : Prop := nk ann 23 [(0, y0), (1, y1)] w [1, 1] code (top K)
attribute [irreducible] k3
end F337
theorem F337.k3.to (h : (C.a9 w fun S a =>
 C.ad y0 a fun b c =>
 C.ab 2 b c fun d f =>
 C.ad y0 f fun g i =>
 C.ab 2 g i fun j k =>
 ∃ m, (∀ w', S w' → ((do eqGuard .quo 3 (.tmp 10) (.const (.int .i64 64)) y1 (.int .i64 64); binOp .quo 3 y1 (.int .i64 64) : Sem Value)).run Tryz.prog w' = .ok m w') ∧ (C.bt 32 1 d m k fun o p =>
 ∃ q, (∀ w', S w' → ((do eqGuard .rem 3 (.tmp 16) (.const (.int .i64 64)) y1 (.int .i64 64); binOp .rem 3 y1 (.int .i64 64) : Sem Value)).run Tryz.prog w' = .ok q w') ∧ (∃ r, (∀ w', S w' → ((do eqGuard .shl 210 (.const (.int .u64 1)) (.tmp 17) (.int .u64 1) q; binOp .shl 210 (.int .u64 1) q : Sem Value)).run Tryz.prog w' = .ok r w') ∧ ((C.ai o p fun s t =>
 (S t ∧
 ∃ u, (∀ w', S w' → ((do eqGuard .andNot 210 (.tmp 15) (.tmp 18) s r; binOp .andNot 210 s r : Sem Value)).run Tryz.prog w' = .ok u w') ∧ (C.bt 32 1 j m t fun v x =>
 (C.ak 1 v u x fun y =>
 (S y ∧
 K (.bool true) y)) ∧ True))) ∧ True))))) : F337.k3 K y0 y1 w := qq h
theorem F337.sh (h : (C.q Tryz.prog 244 #[x0, x1] w fun a b =>
 C.bg a b fun c d =>
 C.am c (K (.bool false) d) (F337.k3 K x0 x1 d))) : C.q Tryz.prog 337 #[x0, x1] w K := q9 (A := F337.ann) (args := [x0, x1]) (qq h)
end
end Go.Proofs.YtcakfaakbpdklaaGreatDoorV
namespace Go.Proofs.YtcakfaakbpdklaaGreatDoorV
open Go Go.Proofs Go.RowKit
set_option linter.unusedVariables false
set_option linter.unusedSimpArgs false
structure Cf where
  pages : Int
  threads : Int
  window : Int
  quantum : Int
  target : Int
  cap : Int
  tax : Int
  chunk : Int
  stack : Int
  trigger : Int
structure St where
  c : Ce
  own : Om
  made : Int
def St.begin (s : St) (a n : Int) : St := { s with c := (s.c.store a (qhv s.made n)).1, made := w64 (s.made + 1) }
def St.fast (s : St) (t n : Int) : St × Option Int := if csz (cOf n) = 0 then (s, none) else
  match s.c.take (qfm s.own (t, cOf n)) with
  | (_, none) => (s, none)
  | (c, some a) => (({ s with c := c } : St).begin a n, some a)
def qmi (nt : Int) (f : Om) (t k p : Int) : Prop := 0 ≤ t ∧ t < nt ∧ csz k ≠ 0 ∧ 0 ≤ p ∧ p < 64 ∧ (qb1 f p).1 < 0
instance (nt : Int) (f : Om) (t k p : Int) : Decidable (qmi nt f t k p) := by unfold qmi; infer_instance
def St.openAt (s : St) (k : Int) : Nat → Nat → Option Nat
  | 0, _ => none
  | d + 1, p => if (qb1 s.own p).1 < 0 ∧ kAt s.c.ks p = k ∧ 0 < s.c.left p then some p else St.openAt s k d (p + 1)
def St.openP (np : Nat) (s : St) (k : Int) : St × Option Int := match s.openAt k np 0 with
  | some p => (s, some p)
  | none => ({ s with c := (s.c.carve k).1 }, (s.c.carve k).2.map fun p => (p : Int))
def St.slow (np : Nat) (nt : Int) (s : St) (t n : Int) : St × Int × Int :=
  let k := cOf n
  if k = 0 ∨ t < 0 ∨ nt ≤ t then (s, 0, 4) else
  if k = 5 then (match s.c.large (qdu n) with
    | (_, none) => (s, 0, 10)
    | (c, some a) => (({ s with c := c } : St).begin a n, a, 0)) else
  match s.fast t n with
  | (s', some a) => (s', a, 0)
  | (_, none) => match s.openP np k with
    | (_, none) => (s, 0, 10)
    | (s', some p) =>
      let s2 : St := if qmi nt s'.own t k p then { s' with own := qtt s'.own (t, k) p } else s'
      ((s2.fast t n).1, ((s2.fast t n).2.getD 0), 0)
def St.read (s : St) (a : Int) : Int × Int := if s.c.isIt a then qfz (qc0 s.c.m a) else (-1, -1)
def St.fields (s : St) (a : Int) : Int := (s.read a).2
def St.serial (s : St) (a : Int) : Int := (s.read a).1
def St.get (s : St) (a i : Int) : V2 × Bool := if 0 ≤ i ∧ i < s.fields a then qgr (qc0 s.c.m (w64 (w64 (a + 1) + i))) else ((0, 0), false)
def St.set (s : St) (a i : Int) (v : V2) : St × Bool := if vOk v ∧ 0 ≤ i ∧ i < s.fields a then ({ s with c := (s.c.store (w64 (w64 (a + 1) + i)) (qka v)).1 }, (s.c.store (w64 (w64 (a + 1) + i)) (qka v)).2) else (s, false)
def St.objects (s : St) : List Int := qij s.c.n s.c.tk
def St.inP (s : St) (p : Int) : List Int := s.objects.filter fun a => decide (qas a = p)
def St.dropAll (s : St) : List Int → St
  | [] => s
  | p :: ps => St.dropAll { s with c := (s.c.drop p).1 } ps
def St.quit (s : St) (t : Int) : St := St.dropAll { s with own := qpf s.own t } ((qdk s.own t).mergeSort fun x y => decide (x ≤ y))
def St.trim (s : St) (p : Int) : St := if (qb1 s.own p).1 < 0 then { s with c := (s.c.drop p).1 } else s
structure Gy where
  l : List (Int × Int)
  over : Bool
  mks : Bs
def Gy.push (room : Int) (g : Gy) (e : Int × Int) : Gy := if (g.l.length : Int) = room then { g with over := true } else { g with l := g.l ++ [e] }
def Gy.is (g : Gy) (a : Int) : Bool := qd5 2048 g.mks a
def Gy.black (g : Gy) (a : Int) : Gy := if 0 ≤ a ∧ a < 2048 then { g with mks := qdg g.mks a.toNat true } else g
def Gy.shade (room : Int) (g : Gy) (a : Int) : Gy := if 0 ≤ a ∧ a < 2048 ∧ ¬ g.is a then (g.black a).push room (a, 0) else g
def Gy.shadeAll (room : Int) (g : Gy) : List Int → Gy
  | [] => g
  | a :: l => Gy.shadeAll room (g.shade room a) l
def Gy.clear (g : Gy) (a : Int) : Gy := if g.is a then { g with mks := qdg g.mks a.toNat false } else g
structure Rg where
  ep : Int
  l : List (Bool × Int)
def Rg.live (r : Rg) (t : Int) : Bool := decide (0 ≤ t) && decide (t < r.l.length) && (r.l.getD t.toNat (false, 0)).1
def Rg.ofT (r : Rg) (t : Int) : Int := if r.live t then (r.l.getD t.toNat (false, 0)).2 else -1
def Rg.agreed (r : Rg) : Bool := r.l.all fun m => !(m.1 && decide (m.2 < r.ep))
def Rg.attach (r : Rg) (t : Int) : Rg × Bool := if 0 ≤ t ∧ t < r.l.length ∧ ¬ r.live t then ({ r with l := r.l.set t.toNat (true, r.ep) }, true) else (r, false)
def Rg.detach (r : Rg) (t : Int) : Rg := if r.live t then { r with l := r.l.set t.toNat (false, 0) } else r
def Rg.confirm (r : Rg) (t : Int) : Rg × Bool := if r.live t ∧ r.ofT t < r.ep then ({ r with l := r.l.set t.toNat (true, r.ep) }, true) else (r, false)
def Rg.raise (r : Rg) : Rg := { r with ep := w64 (r.ep + 1) }
def fOf (b : List (List Int)) (t : Int) : List Int := if 0 ≤ t then b.getD t.toNat [] else []
def ql2 (b : List (List Int)) (t a : Int) : List (List Int) := if 0 ≤ t ∧ t < b.length ∧ 0 ≤ qas a ∧ a ∉ fOf b t then b.set t.toNat (fOf b t ++ [a]) else b
def qdi (b : List (List Int)) (t : Int) : List (List Int) := if 0 ≤ t ∧ t < b.length then b.set t.toNat [] else b
def qek (b : List (List Int)) : Bool := b.all fun l => l.isEmpty
structure Co where
  s : St
  g : Gy
  r : Rg
  b : List (List Int)
  tp : Int
  at_ : Int
  freed : Int
  th : List (List V2)
  global : Int
  phase : Int
  cycles : Int
  units : Int
section
variable (cf : Cf)
def qgq (s : St) (a : Int) : Nat → Int → Gy → Gy
  | 0, _, g => g
  | d + 1, i, g => qgq s a d (i + 1) (if (s.get a i).1.1 = 2 then g.shade cf.stack (s.get a i).1.2 else g)
def qf3 (s : St) : List Int → Gy → Gy
  | [], g => g
  | a :: l, g => qf3 s l (if g.is a then qgq cf s a (s.fields a).toNat 0 g else g)
def Co.look (c : Co) : Co := { c with g := qf3 cf c.s (c.s.inP c.tp) c.g, tp := if w64 (c.tp + 1) = cf.pages then -1 else w64 (c.tp + 1) }
def Co.entry (c : Co) (e : Int × Int) : Co :=
  let n := c.s.fields e.1
  if e.2 < 0 ∨ n ≤ e.2 then c else
  let to := min (w64 (e.2 + cf.chunk)) n
  let g := if to < n then c.g.push cf.stack (e.1, to) else c.g
  { c with g := qgq cf c.s e.1 (to - e.2).toNat e.2 g }
def Co.tIdle (c : Co) : Bool := c.g.l.isEmpty && decide (c.tp = -1) && !c.g.over
def Co.tUnit (c : Co) : Co × Bool := if c.tIdle then (c, false) else
  match c.g.l.getLast? with
  | some e => (({ c with g := { c.g with l := c.g.l.dropLast } } : Co).entry cf e, true)
  | none => (if c.tp = -1 then ({ c with g := { c.g with over := false }, tp := 0 } : Co).look cf else c.look cf, true)
def Co.sweepOne (c : Co) (a : Int) : Co := if c.g.is a then { c with g := c.g.clear a } else { c with s := { c.s with c := (c.s.c.give a).1 }, freed := if (c.s.c.give a).2 then w64 (c.freed + 1) else c.freed }
def Co.sweepAll (c : Co) : List Int → Co
  | [] => c
  | a :: l => Co.sweepAll (c.sweepOne a) l
def Co.wUnit (c : Co) : Co × Bool := if cf.pages ≤ c.at_ then (c, false) else
  let d := c.sweepAll (c.s.inP c.at_)
  ({ d with s := d.s.trim d.at_, at_ := w64 (d.at_ + 1) }, true)
def Co.raise (c : Co) (p : Int) : Co := { c with phase := p, r := c.r.raise }
def Co.advance : Nat → Co → Co
  | 0, c => c
  | d + 1, c => if c.r.agreed then
      if c.phase = 1 then Co.advance d (({ c with b := c.b.map fun _ => [], g := c.g.shade cf.stack c.global } : Co).raise 2)
      else if c.phase = 2 then Co.advance d { c with phase := 3 }
      else if c.phase = 4 ∧ qek c.b ∧ c.tIdle then Co.advance d { c with phase := 5, at_ := 0, freed := 0 }
      else if c.phase = 4 then Co.advance d { c with phase := 3 }
      else c
    else c
def Co.adv (c : Co) : Co := Co.advance cf 4 c
def Co.beginC (c : Co) : Co × Bool := if c.phase = 0 then ((({ c with units := 0 } : Co).raise 1).adv cf, true) else (c, false)
def Co.marking (c : Co) : Bool := decide (2 ≤ c.phase) && decide (c.phase ≤ 4)
def Co.attach (c : Co) (t : Int) : Co := { c with r := (c.r.attach t).1 }
def Co.detach (c : Co) (t : Int) : Co := if c.r.live t then
    let g := if c.marking then c.g.shadeAll cf.stack (fOf c.b t) else c.g
    ({ c with b := qdi c.b t, g := g, th := c.th.set t.toNat [], s := c.s.quit t, r := c.r.detach t } : Co).adv cf
  else c
def qcf (l : List V2) : List Int := l.foldl (fun out v => if v.1 = 2 ∧ v.2 ∉ out then out ++ [v.2] else out) []
def Co.poll (c : Co) (t : Int) : Co := if (c.r.confirm t).2 then
    let c1 : Co := { c with r := (c.r.confirm t).1 }
    let c2 : Co := if c.phase = 2 then { c1 with g := c1.g.shadeAll cf.stack (qcf (c.th.getD t.toNat [])) }
      else if c.phase = 4 then { c1 with g := c1.g.shadeAll cf.stack (fOf c.b t), b := qdi c.b t } else c1
    c2.adv cf
  else c
def Co.unit (c : Co) : Co × Bool :=
  let r : Co × Bool := if c.phase = 3 then (match c.tUnit cf with
      | (d, true) => (d, true)
      | (d, false) => ((d.raise 4).adv cf, false))
    else if c.phase = 5 then (match c.wUnit cf with
      | (d, did) => (if cf.pages ≤ d.at_ then { d with phase := 0, cycles := w64 (d.cycles + 1) } else d, did))
    else (c, false)
  (if r.2 then { r.1 with units := w64 (r.1.units + 1) } else r.1, r.2)
def Co.may (c : Co) (v : V2) : Bool := vOk v && (!decide (v.1 = 2) || decide (0 ≤ c.s.fields v.2))
def Co.push (c : Co) (t : Int) (v : V2) : Co × Bool := if c.r.live t ∧ c.may v ∧ (c.th.getD t.toNat []).length < 16 then ({ c with th := c.th.set t.toNat (c.th.getD t.toNat [] ++ [v]) }, true) else (c, false)
def Co.pop (c : Co) (t : Int) : Co × Option V2 := if c.r.live t then (match (c.th.getD t.toNat []).getLast? with
    | some v => ({ c with th := c.th.set t.toNat (c.th.getD t.toNat []).dropLast }, some v)
    | none => (c, none)) else (c, none)
def Co.roots (c : Co) (t : Int) : List V2 := if c.r.live t then c.th.getD t.toNat [] else []
def Co.color (c : Co) (a : Int) : Co := if c.phase = 2 then { c with g := c.g.shade cf.stack a } else if c.phase = 3 ∨ c.phase = 4 ∨ (c.phase = 5 ∧ c.at_ ≤ qas a) then { c with g := c.g.black a } else c
def Co.fast (c : Co) (t n : Int) : Co × Option Int := if c.r.live t then (match c.s.fast t n with
    | (_, none) => (c, none)
    | (s, some a) => (({ c with s := s } : Co).color cf a, some a)) else (c, none)
def Co.slow (c : Co) (t n : Int) : Co × Int × Int := if c.r.live t then (match c.s.slow cf.pages.toNat (cf.threads + 1) t n with
    | (s, a, e) => (if e = 0 then ({ c with s := s } : Co).color cf a else { c with s := s }, a, e)) else (c, 0, 4)
def Co.barrier (c : Co) (t : Int) : Bool := c.marking || (decide (c.phase = 1) && decide (c.r.ofT t = c.r.ep))
def Co.write (c : Co) (t a i : Int) (v : V2) : Co × Bool := if c.r.live t ∧ c.may v ∧ (c.s.get a i).2 then
    let o := (c.s.get a i).1
    let b := if o.1 = 2 ∧ ¬ c.g.is o.2 ∧ c.barrier t then ql2 c.b t o.2 else c.b
    ({ c with b := b, s := (c.s.set a i v).1 }, (c.s.set a i v).2)
  else (c, false)
end
def upd {α : Type} (f : Nat → α) (t : Nat) (x : α) : Nat → α := fun u => if u = t then x else f u
def cnt (l : List Bool) : Nat := l.count true
def qdy (k : Nat) (l : List Bool) : List Bool := l.drop (l.length - k)
def qcs (win most n : Int) (l : List Bool) : Bool := decide (0 ≤ n ∧ n ≤ most ∧ (cnt (l.drop ((l.length : Int) + n - win).toNat) : Int) + n ≤ most)
structure Stp where
  kd : Int
  t : Int
  i : Int
  f : Int
  j : Int
  cost : Int
  n : Int
deriving DecidableEq
structure Ans where
  code : Int
  kd : Int
  n : Int
  done : Int
  credit : Int
deriving DecidableEq
def Ans.ok : Ans := ⟨0, 0, 0, 0, 0⟩
def Ans.err (e : Int) : Ans := ⟨e, 0, 0, 0, 0⟩
structure Ma where
  co : Co
  lg : Nat → List Bool
  bi : Int
  bo : Int
  bl : Int
def qay (k : Int) : List Bool :=
  if k = 1 ∨ k = 2 ∨ k = 5 ∨ k = 6 ∨ k = 8 ∨ k = 14 then [true, false, false, false, false, false] else
  if k = 3 ∨ k = 15 then [true, false, false, false, true, true] else
  if k = 4 ∨ k = 13 then [true, false, false, false, false, true] else
  if k = 7 ∨ k = 12 then [true, true, false, false, false, false] else
  if k = 9 then [true, true, true, false, false, false] else
  if k = 10 then [true, true, true, true, false, false] else
  if k = 11 then [true, true, false, true, false, false] else
  if k = 16 then [false, false, false, false, false, true] else [false, false, false, false, false, false]
def Stp.small (x : Stp) : List Int := [x.t, x.i, x.f, x.j, x.cost]
def Stp.check (x : Stp) : Int :=
  if x.kd < 1 ∨ 17 < x.kd then 12 else
  if x.small.any (fun n => decide (n < 0) || decide (255 < n)) then 4 else
  if (x.small.zip (qay x.kd)).any (fun y => decide (y.1 ≠ 0) && !y.2) then 16 else
  if x.n ≠ 0 ∧ (qay x.kd).getD 5 false = false then 16 else 0
section
variable (cf : Cf)
def Cf.most : Int := (cf.window * (1000 - cf.target)).tdiv 1000
def Ma.ownT (m : Ma) (t n : Int) : Ma := { m with lg := upd m.lg t.toNat (qdy cf.window.toNat (m.lg t.toNat ++ List.replicate (min n cf.window).toNat false)) }
def Ma.admt (m : Ma) (t n : Int) : Bool := qcs cf.window cf.most n (m.lg t.toNat)
def Ma.charge (m : Ma) (t n : Int) : Ma := if m.admt cf t n then { m with lg := upd m.lg t.toNat (qdy cf.window.toNat (m.lg t.toNat ++ List.replicate (min n cf.window).toNat true)) } else m
def Co.workN : Nat → Co → Co × Nat
  | 0, c => (c, 0)
  | d + 1, c => match c.unit cf with
    | (c', false) => (c', 0)
    | (c', true) => ((Co.workN d c').1, (Co.workN d c').2 + 1)
def Ma.put (m : Ma) (n : Int) : Ma := let kept := min n (cf.cap - (m.bi - m.bo)); { m with bi := m.bi + kept, bl := m.bl + (n - kept) }
def Ma.ahead (m : Ma) (n : Int) : Ma × Ans := let r := m.co.workN cf n.toNat; (({ m with co := r.1 } : Ma).put cf r.2, ⟨0, 0, 0, r.2, 0⟩)
def Ma.told (m : Ma) (v : V2) : Int × Int := (v.1, if v.1 = 2 then m.co.s.serial v.2 else v.2)
def Ma.who (m : Ma) (x : Stp) : Int := if 16 ≤ x.kd then 0 else if cf.threads ≤ x.t then 4 else if x.kd = 1 ∧ m.co.r.live x.t then 9 else if x.kd ≠ 1 ∧ ¬ m.co.r.live x.t then 14 else 0
def Ma.tax (m : Ma) (x : Stp) : Ma × Ans := if m.co.phase ≠ 3 ∧ m.co.phase ≠ 5 then (m, Ans.ok) else
  let credit := min (m.bi - m.bo) cf.tax
  let rest := cf.tax - credit
  if ¬ m.admt cf x.t (rest * x.cost) then (m, Ans.err 21) else
  let m1 : Ma := { m with bo := m.bo + credit }
  let r := m1.co.workN cf rest.toNat
  (({ m1 with co := r.1 } : Ma).charge cf x.t (r.2 * x.cost), ⟨0, 0, 0, r.2, credit⟩)
def Ma.slow (m : Ma) (x : Stp) : Ma × Int × Ans :=
  let m1 : Ma := if m.co.phase = 0 ∧ qct m.co.s.c.ks < cf.trigger then { m with co := (m.co.beginC cf).1 } else m
  let r := m1.tax cf x
  if r.2.code ≠ 0 then (r.1, 0, r.2) else
  let q := r.1.co.slow cf x.t x.n
  ({ r.1 with co := q.1 }, q.2.1, { r.2 with code := q.2.2 })
def qes (a : Int) : V2 := if 0 ≤ a ∧ a < 2048 then (2, a) else (0, 0)
def Ma.got (m : Ma) (x : Stp) (a : Int) (y : Ans) : Ma × Ans :=
  let m1 : Ma := { m with co := (m.co.push x.t (qes a)).1 }
  (m1, { y with kd := (m1.told (qes a)).1, n := (m1.told (qes a)).2 })
def Ma.alloc (m : Ma) (x : Stp) : Ma × Ans :=
  if x.n < 0 ∨ 127 < x.n ∨ x.cost < 1 ∨ cf.quantum < x.cost then (m, Ans.err 4) else
  if (m.co.roots x.t).length = 16 then (m, Ans.err 3) else
  match m.co.fast cf x.t x.n with
  | (c, some a) => ({ m with co := c } : Ma).got x a Ans.ok
  | (_, none) =>
    let r := m.slow cf x
    if r.2.2.code ≠ 0 then (r.1, r.2.2) else r.1.got x r.2.1 r.2.2
def Ma.root (m : Ma) (t i : Int) : Option V2 := (m.co.roots t)[i.toNat]?
def Ma.object (m : Ma) (x : Stp) : Int × Int := match m.root x.t x.i with
  | none => (0, 4)
  | some v => if v.1 ≠ 2 then (0, 12) else (v.2, 0)
def Ma.value (m : Ma) (x : Stp) : V2 × Int :=
  if x.kd = 4 then (if chk 1 x.n = 0 then ((1, x.n), 0) else ((0, 0), 4)) else
  if x.kd = 6 then (qes m.co.global, 0) else
  if x.kd = 7 then (match m.root x.t x.i with | some v => (v, 0) | none => ((0, 0), 4)) else
  if x.kd = 9 then (if (m.object x).2 ≠ 0 then ((0, 0), (m.object x).2) else if (m.co.s.get (m.object x).1 x.f).2 then ((m.co.s.get (m.object x).1 x.f).1, 0) else ((0, 0), 4)) else ((0, 0), 0)
def Ma.pushS (m : Ma) (x : Stp) : Ma × Ans :=
  if (m.value x).2 ≠ 0 then (m, Ans.err (m.value x).2) else
  match m.co.push x.t (m.value x).1 with
  | (_, false) => (m, Ans.err 3)
  | (c, true) => let m1 : Ma := { m with co := c }; (m1, ⟨0, (m1.told (m.value x).1).1, (m1.told (m.value x).1).2, 0, 0⟩)
def Ma.writeS (m : Ma) (x : Stp) : Ma × Ans :=
  if (m.object x).2 ≠ 0 then (m, Ans.err (m.object x).2) else
  match m.root x.t x.j with
  | none => (m, Ans.err 4)
  | some v => let r := m.co.write x.t (m.object x).1 x.f v; ({ m with co := r.1 }, if r.2 then Ans.ok else Ans.err 4)
def Ma.ask (m : Ma) (x : Stp) : Ans := match m.root x.t x.i with
  | none => Ans.err 4
  | some v => if x.kd = 11 ∧ m.root x.t x.j = none then Ans.err 4 else
    if x.kd = 12 ∧ v.1 ≠ 2 then Ans.err 12 else
    if x.kd = 12 then ⟨0, 1, m.co.s.fields v.2, 0, 0⟩ else
    if v = (m.root x.t x.j).getD (0, 0) then ⟨0, 1, 1, 0, 0⟩ else ⟨0, 1, 0, 0, 0⟩
def Ma.spend (m : Ma) (x : Stp) : Ma × Ans :=
  if x.kd = 17 then (if (m.co.beginC cf).2 then ({ m with co := (m.co.beginC cf).1 }, Ans.ok) else (m, Ans.err 9)) else
  if x.n < 1 ∨ 64 < x.n then (m, Ans.err 4) else
  if x.kd = 13 then (m.ownT cf x.t x.n, Ans.ok) else
  if x.kd = 16 then m.ahead cf x.n else
  if x.cost < 1 ∨ cf.quantum < x.cost then (m, Ans.err 4) else
  if ¬ m.admt cf x.t (x.n * x.cost) then (m, Ans.err 21) else
  let r := m.ahead cf x.n
  (r.1.charge cf x.t (r.2.done * x.cost), r.2)
def Ma.doS (m : Ma) (x : Stp) : Ma × Ans :=
  if x.kd = 1 then ({ m with co := m.co.attach x.t }, Ans.ok) else
  if x.kd = 2 then ({ m with co := m.co.detach cf x.t }, Ans.ok) else
  if x.kd = 3 then m.alloc cf x else
  if x.kd = 4 ∨ x.kd = 5 ∨ x.kd = 6 ∨ x.kd = 7 ∨ x.kd = 9 then m.pushS x else
  if x.kd = 8 then (match m.co.pop x.t with
    | (_, none) => (m, Ans.err 4)
    | (c, some v) => let m1 : Ma := { m with co := c }; (m1, ⟨0, (m1.told v).1, (m1.told v).2, 0, 0⟩)) else
  if x.kd = 10 then m.writeS x else
  if x.kd = 11 ∨ x.kd = 12 then (m, m.ask x) else
  if x.kd = 14 then ({ m with co := m.co.poll cf x.t }, Ans.ok) else m.spend cf x
def Ma.step (m : Ma) (x : Stp) : Ma × Ans :=
  if x.check ≠ 0 then (m, Ans.err x.check) else
  if m.who cf x ≠ 0 then (m, Ans.err (m.who cf x)) else
  let r := m.doS cf x
  (if 3 ≤ x.kd ∧ x.kd ≤ 12 ∧ r.2.code = 0 then r.1.ownT cf x.t 1 else r.1, r.2)
def Ce.new (n : Int) : Ce := ⟨List.replicate n.toNat 0, List.replicate (n.toNat * 32) 0, List.replicate 64 (0, 0), fun _ => false⟩
def Co.new : Co :=
  let s : St := ⟨Ce.new cf.pages, fun _ => none, 0⟩
  let r := s.slow cf.pages.toNat (cf.threads + 1) cf.threads 4
  ⟨r.1, ⟨[], false, fun _ => false⟩, ⟨0, List.replicate cf.threads.toNat (false, 0)⟩, List.replicate cf.threads.toNat [], -1, cf.pages, 0, List.replicate 8 [], r.2.1, 0, 0, 0⟩
def Ma.new : Ma := ⟨Co.new cf, fun _ => [], 0, 0, 0⟩
end
theorem qfx {α : Type} {l : List α} {i : Nat} {d : α} (h : i < l.length) : l.getD i d = l[i] := by
  simp [List.getD_eq_getElem?_getD, List.getElem?_eq_getElem h]
theorem qk9 {α : Type} {l : List α} {a n : Nat} {x : α} (h : a + n ≤ l.length) (b : Nat) : (l.take a ++ List.replicate n x ++ l.drop (a + n))[b]? = if a ≤ b ∧ b < a + n then some x else l[b]? := by
  have e1 : (l.take a).length = a := by rw [List.length_take]; omega
  have e2 : (l.take a ++ List.replicate n x).length = a + n := by rw [List.length_append, e1, List.length_replicate]
  rw [List.getElem?_append, e2]
  by_cases c1 : b < a + n
  · rw [if_pos c1, List.getElem?_append, e1]
    by_cases c2 : a ≤ b
    · rw [if_neg (by omega), List.getElem?_replicate, if_pos (by omega), if_pos ⟨c2, c1⟩]
    · rw [if_pos (by omega), List.getElem?_take, if_pos (by omega), if_neg (by omega)]
  · rw [if_neg c1, if_neg (by omega), List.getElem?_drop]
    congr 1
    omega
theorem qgk (m : List Int) (a w : Int) : (qf4 m a w).length = m.length := qdp _ _ _ _
theorem qq2 (k : Int) : (k = 1 ∧ csz k = 2 ∧ qai k = 16) ∨ (k = 2 ∧ csz k = 4 ∧ qai k = 8) ∨ (k = 3 ∧ csz k = 8 ∧ qai k = 4) ∨ (k = 4 ∧ csz k = 16 ∧ qai k = 2) ∨ ((k < 1 ∨ 4 < k) ∧ csz k = 0 ∧ qai k = 0) := by
  by_cases h1 : k = 1
  · subst h1; exact .inl ⟨rfl, rfl, rfl⟩
  by_cases h2 : k = 2
  · subst h2; exact .inr (.inl ⟨rfl, rfl, rfl⟩)
  by_cases h3 : k = 3
  · subst h3; exact .inr (.inr (.inl ⟨rfl, rfl, rfl⟩))
  by_cases h4 : k = 4
  · subst h4; exact .inr (.inr (.inr (.inl ⟨rfl, rfl, rfl⟩)))
  refine .inr (.inr (.inr (.inr ⟨by omega, ?_, ?_⟩)))
  · unfold csz; rw [if_neg h1, if_neg h2, if_neg h3, if_neg h4]
  · unfold qai; rw [if_neg h1, if_neg h2, if_neg h3, if_neg h4]
theorem qg7 {ks : List Int} {p : Nat} (h : p < ks.length) : kAt ks (p : Int) = ks[p] := by
  unfold kAt
  rw [if_pos (by omega), Int.toNat_natCast, qfx h]
theorem qf0 {ks : List Int} {p : Int} (h : ¬ (0 ≤ p ∧ p < ks.length)) : kAt ks p = -1 := by
  unfold kAt
  rw [if_neg h]
theorem qdl {ks : List Int} {p n : Nat} {k : Int} (h : p + n ≤ ks.length) : (qb5 ks p n k).length = ks.length := by
  unfold qb5
  simp only [List.length_append, List.length_take, List.length_replicate, List.length_drop]
  omega
theorem qi9 : ∀ (ks : List Int), qco ks ≤ ks.length ∧ (∀ (i : Nat), i < qco ks → ks[i]? = some 6) ∧ ks[qco ks]? ≠ some 6
  | [] => ⟨by simp [qco], by simp [qco], by simp⟩
  | k :: ks => by
    obtain ⟨h1, h2, h3⟩ := qi9 ks
    have e : qco (k :: ks) = if k = 6 then qco ks + 1 else 0 := rfl
    by_cases c : k = 6
    · rw [if_pos c] at e
      rw [e]
      refine ⟨by simp; omega, fun i hi => ?_, by simpa using h3⟩
      cases i with
      | zero => simpa using c
      | succ i => simpa using h2 i (by omega)
    · rw [if_neg c] at e
      rw [e]
      exact ⟨by simp, fun i hi => by omega, by simpa using c⟩
end Go.Proofs.YtcakfaakbpdklaaGreatDoorV
namespace Go.Proofs.YtcakfaakbpdklaaGreatDoorV
open Go Go.Proofs Go.RowKit
set_option linter.unusedVariables false
set_option linter.unusedSimpArgs false
set_option maxRecDepth 10000
structure qat (w : World) (b : Nat) (mv : Value) (m : List Int) : Prop where
  blk : w.heap[b]? = some (.cells #[.bool true, mv] 295 (0, 0))
  own : qad w mv 2 1 (qaf m)
  le : m.length ≤ 2048
  rng : ∀ x ∈ m, -9223372036854775808 ≤ x ∧ x ≤ 9223372036854775807
theorem qat.keep {S : List Nat} {w w' : World} {b : Nat} {mv : Value} {m : List Int} (h : qat w b mv m) (hf : Fr S w w') (hb : b ∉ S) (hS : ∀ g ∈ qab mv, g ∉ S) : qat w' b mv m := ⟨hf.at_ h.blk hb, h.own.keep' hf hS, h.le, h.rng⟩
theorem qat.keep0 {w w' : World} {b : Nat} {mv : Value} {m : List Int} (h : qat w b mv m) (hf : Fr [] w w') : qat w' b mv m := h.keep hf (by simp) (by simp)
theorem qmr {P : Program} {w : World} {t e : TypeId} {sz : Nat} (A : Option Addr) (n c : Nat) (k k' k2 : IntKind) (l h mx : Int) (hu : P.underlying t = some (.slice e)) (hs : qer P e = some sz) (h0 : 0 ≤ l) (h1 : l ≤ h) (h2 : h ≤ mx) (h3 : mx ≤ (c : Int)) :
    (Instr.sliceAt t (.slice A n c) (some (.int k l)) (some (.int k' h)) (some (.int k2 mx))).run P w = .ok (.slice (if mx.toNat = l.toNat then A else A.map (·.add (l.toNat * sz))) (h.toNat - l.toNat) (mx.toNat - l.toNat)) w := by
  have hs' : (sizeOf e).run P w = .ok sz w := qbi hs
  have g1 : 0 ≤ h := by omega
  have g2 : 0 ≤ mx := by omega
  have g3 : ¬ (max h 0 < l) := by omega
  have g4 : ¬ (h < l) := by omega
  have g5 : ¬ (mx < h) := by omega
  have g6 : h ≤ max mx 0 := by omega
  have g7 : l ≤ max h 0 := by omega
  simp [Instr.sliceAt, Instr.slice, underlying, hu, Instr.sliceBounds, Instr.sliceBound, asIntOf, h0, h3, g1, g2, g6, g7, hs']
section
variable {K : VK} {w : World} {b : Nat} {mv : Value} {m : List Int}
theorem qat.nb (h : qat w b mv m) : b ∉ qab mv := h.own.nb h.blk (by decide)
theorem qyk (h : qat w b mv m) (hk : K (.int .i64 (m.length : Int)) w) : C.q Tryz.prog 308 #[.pointer (some ⟨b, 0, none⟩)] w K := by
  refine F308.sh ⟨_, qam _ _ _ Tryz.underlying238, ?_⟩
  simp only [C.ac]
  refine F308.k3.to ?_
  simp only [C.af, C.ag, Nat.zero_add]
  refine C.ae (v := mv) h.blk rfl (C.bh h.own.rd ?_)
  rw [qaj]
  exact hk
theorem qrp {a n : Int} (h : qat w b mv m) (h0 : ¬ mIn m a n → K (.tuple #[.slice none 0 0, .bool false]) w)
    (h1 : mIn m a n → ∀ A c, mv = .slice A m.length c → (A = none → m = []) → K (.tuple #[.slice (if n = 0 then A else A.map (·.add a.toNat)) n.toNat n.toNat, .bool true]) w) : C.q Tryz.prog 245 #[.pointer (some ⟨b, 0, none⟩), .int .i64 a, .int .i64 n] w K := by
  have hle := h.le
  refine F245.sh ⟨_, qam _ _ _ Tryz.underlying238, ?_⟩
  simp only [C.ar, C.af, C.ag, C.al, Nat.zero_add]
  refine C.ae (v := .bool true) h.blk rfl ?_
  simp only [C.ar, C.aq, C.au, C.al, Bool.not_true]
  unfold mIn at h0 h1
  by_cases c1 : a < 0
  · simp only [C.ah, C.aw, C.ba, decide_true, c1]
    exact h0 (by omega)
  simp only [C.ar, C.au, C.al, decide_false, c1]
  by_cases c2 : n < 0
  · simp only [C.ah, C.aw, C.ba, decide_true, c2]
    exact h0 (by omega)
  simp only [C.ar, C.af, C.ag, C.al, Nat.zero_add, decide_false, c2]
  refine C.ae (v := mv) h.blk rfl (C.bh h.own.rd ?_)
  rw [qaj]
  by_cases c3 : a > (m.length : Int)
  · simp only [C.ah, C.aw, C.bl, C.ba, decide_true, c3]
    exact h0 (by omega)
  simp only [C.ar, C.af, C.ag, C.bl, C.al, Nat.zero_add, decide_false, c3]
  refine C.ae (v := mv) h.blk rfl (C.bh h.own.rd ?_)
  rw [qaj]
  simp only [C.bo, C.bl]
  rw [qaa (n := (m.length : Int) - a) (by omega)]
  by_cases c4 : n > (m.length : Int) - a
  · simp only [C.ah, decide_true, c4]
    exact h0 (by omega)
  simp only [C.ac, decide_false, c4]
  refine F245.k3.to ?_
  simp only [C.af, C.ag, C.a6, Nat.zero_add]
  refine C.ae (v := mv) h.blk rfl ?_
  rw [qaa (n := a + n) (by omega)]
  obtain ⟨A, c, rfl, hc, hA⟩ := h.own.cap
  rw [qaj] at hc
  refine C.a5 (qmr (e := 2) (sz := 1) A _ c .i64 .i64 .i64 a (a + n) (a + n) Tryz.underlying52 (by kernel_rfl) (by omega) (by omega) (by omega) (by omega)) ?_
  have := h1 (by omega) A c (by rw [qaj]) (fun e => by simpa [qaf] using hA e)
  rw [Nat.mul_one, show (a + n).toNat - a.toNat = n.toNat by omega]
  by_cases e : n = 0
  · rw [if_pos e] at this
    rw [if_pos (by omega)]
    exact this
  · rw [if_neg e] at this
    rw [if_neg (by omega)]
    exact this
theorem ql6 {A : Option Addr} {N c a n j : Nat} {k : IntKind} (hj : j < n) (ha : a + j < N) (h : C.bj 1 (.slice A N c) (.int k ((a + j : Nat) : Int)) w K) : C.bj 1 (.slice (if (n : Int) = 0 then A else A.map (·.add a)) n n) (.int k (j : Int)) w K := by
  obtain ⟨g, len, cap, k', j', e1, e2, h0, h1, hk⟩ := h
  cases e1
  cases e2
  rw [if_neg (by omega)]
  refine ⟨g.add a, n, n, k, j, rfl, rfl, by omega, by omega, ?_⟩
  have e : (g.add a).add ((j : Int).toNat * 1) = g.add (((a + j : Nat) : Int).toNat * 1) := by
    rw [Int.toNat_natCast, Int.toNat_natCast, Nat.mul_one, Nat.mul_one]
    by_cases c1 : a = 0 <;> by_cases c2 : j = 0 <;> simp [Addr.add, Nat.add_assoc, c1, c2]
  rw [e]
  exact hk
theorem qp0 {a : Int} (h : qat w b mv m) (hk : ∀ ok, K (.tuple #[.int .i64 (qc0 m a), .bool ok]) w) : C.q Tryz.prog 257 #[.pointer (some ⟨b, 0, none⟩), .int .i64 a] w K := by
  unfold qc0 at hk
  refine F257.sh (qrp h (fun hn => ?_) fun hy A c e hA => ?_)
  · simp only [C.ah, C.aq, C.a7, C.a8, Bool.not_false]
    have := hk false
    rwa [if_neg hn] at this
  · have hle := h.le
    have hy' := hy
    unfold mIn at hy'
    simp only [C.ac, C.aq, C.a7, C.a8, Bool.not_true]
    refine F257.k4.to ?_
    have hi : a.toNat < m.length := by omega
    refine ql6 (N := m.length) (c := c) (a := a.toNat) (n := 1) (j := 0) (by omega) (by omega) ?_
    rw [← e]
    refine C.bw h.own.rd (by omega : a.toNat + 0 < m.length) fun g o cs e' fz hg hc => C.ae hg hc ?_
    have := hk true
    rw [if_pos hy] at this
    rw [qfx hi] at this
    exact this
theorem qrj {a n : Nat} {v : Int} (h : a + n + 1 ≤ m.length) : (qbj m a n v).set (a + n) v = qbj m a ((n + 1 : Nat) : Int) v := by
  unfold qbj
  rw [if_pos (by unfold mIn; omega), if_pos (by unfold mIn; omega)]
  simp only [Int.toNat_natCast]
  apply List.ext_getElem?
  intro i
  rw [List.getElem?_set, qk9 (by omega), qk9 (by omega)]
  by_cases c : a + n = i
  · subst c
    rw [if_pos rfl, if_pos (by simp; omega), if_pos (by omega)]
  · rw [if_neg c]
    by_cases d : a ≤ i ∧ i < a + n
    · rw [if_pos d, if_pos (by omega)]
    · rw [if_neg d, if_neg (by omega)]
theorem qpd {a : Nat} {v : Int} (h : a ≤ m.length) : qbj m a 0 v = m := by
  unfold qbj
  rw [if_pos (by unfold mIn; omega)]
  simp
theorem qrd (l : List Int) (j : Nat) (n : Int) : (qaf l).set j [.int .i64 n] = qaf (l.set j n) := by simp [qaf, List.map_set]
theorem qri {a n v x : Int} (h : x ∈ qbj m a n v) : x ∈ m ∨ x = v := by
  unfold qbj at h
  split at h
  · rcases List.mem_append.1 h with h | h
    · rcases List.mem_append.1 h with h | h
      · exact .inl (List.mem_of_mem_take h)
      · exact .inr (List.eq_of_mem_replicate h)
    · exact .inl (List.mem_of_mem_drop h)
  · exact .inl h
theorem qha {a : Int} (h : qat w b mv m) : -9223372036854775808 ≤ qc0 m a ∧ qc0 m a ≤ 9223372036854775807 := by
  unfold qc0
  split
  · rename_i hm
    unfold mIn at hm
    rw [qfx (by omega)]
    exact h.rng _ (List.getElem_mem _)
  · omega
theorem qq6 {W : World} {a n : Nat} {v : Int} {A : Option Addr} {c : Nat} {ok : Value} (hW : qat W b mv m) (e : mv = .slice A m.length c) (hn : a + n ≤ m.length) (hv : -9223372036854775808 ≤ v ∧ v ≤ 9223372036854775807)
    (h : ∀ w', Fr (qab mv) W w' → qat w' b mv (qbj m a n v) → K ok w') :
    ∀ (d j : Nat) (w : World), n = j + d → Fr (qab mv) W w → qat w b mv (qbj m a j v) →
      F179.l3 K (.int .i64 v) (.slice (if (n : Int) = 0 then A else A.map (·.add a)) n n) ok (.int .i64 (n : Int)) (.int .i64 (j : Int)) w := by
  have hle := hW.le
  intro d
  induction d with
  | zero =>
    intro j w hd hf hM
    refine F179.l3.to ?_
    simp only [C.ac, C.au, decide_false, show ¬ ((j : Int) < (n : Int)) by omega]
    rw [show j = n by omega] at hM
    exact F179.k7.to (h w hf hM)
  | succ d ih =>
    intro j w hd hf hM
    refine F179.l3.to ?_
    simp only [C.ah, C.au, decide_true, show ((j : Int) < (n : Int)) by omega]
    refine F179.k4.to (ql6 (N := m.length) (c := c) (by omega) (by omega) ?_)
    rw [← e]
    have hl := qdp m a j v
    refine C.b3 (x := .int .i64 v) hM.own (by omega) (by rw [qaj, hl]; omega) rfl (by intro u hu; simp [Value.cells] at hu; subst hu; rfl) fun w1 ho1 hf1 _ => ?_
    rw [Int.toNat_natCast] at ho1
    have ho1 : qad w1 mv 2 1 (qaf (qbj m a ((j + 1 : Nat) : Int) v)) := by
      rw [← qrj (by omega), ← qrd]
      exact ho1
    refine F179.k6.to ?_
    simp only [C.a6]
    rw [qaa (n := (j : Int) + 1) (by omega), show (j : Int) + 1 = ((j + 1 : Nat) : Int) by omega]
    have hs : ∀ g, mv.ownBlock = some g → g ∈ qab mv := fun g hg => qan.2 hg
    exact ih (j + 1) w1 (by omega) (hf.trans (hf1.mono fun x hx => hx)) ⟨hf1.at_ hM.blk hM.nb, ho1, by rw [qdp]; exact hle, fun x hx => by
      rcases qri hx with h1 | h1
      · exact hW.rng x h1
      · rw [h1]; exact hv⟩
theorem qiv {a n v : Int} (h : qat w b mv m) (hv : -9223372036854775808 ≤ v ∧ v ≤ 9223372036854775807) (hk : ∀ w', Fr (qab mv) w w' → qat w' b mv (qbj m a n v) → K (.bool (decide (mIn m a n))) w') : C.q Tryz.prog 179 #[.pointer (some ⟨b, 0, none⟩), .int .i64 a, .int .i64 n, .int .i64 v] w K := by
  refine F179.sh (qrp h (fun hn => ?_) fun hy A c e hA => ?_)
  · simp only [C.bs, C.a7, C.a8]
    refine F179.l3.to ?_
    simp only [C.ac, C.au, decide_false, show ¬ ((0 : Int) < ((0 : Nat) : Int)) by omega]
    refine F179.k7.to ?_
    have := hk w (Fr.refl _ _) (by unfold qbj; rw [if_neg hn]; exact h)
    rwa [decide_eq_false hn] at this
  · have hy' := hy
    unfold mIn at hy'
    obtain ⟨a, rfl⟩ := Int.eq_ofNat_of_zero_le hy'.1
    obtain ⟨n, rfl⟩ := Int.eq_ofNat_of_zero_le hy'.2.1
    simp only [C.bs, C.a7, C.a8, Int.toNat_natCast]
    refine qq6 (a := a) (n := n) h e (by omega) hv (fun w' hf hM => ?_) n 0 w (by omega) (Fr.refl _ _) (by rw [show ((0 : Nat) : Int) = 0 from rfl, qpd (by omega)]; exact h)
    have := hk w' hf hM
    rwa [decide_eq_true hy] at this
theorem qnv {a v : Int} (h : qat w b mv m) (hv : -9223372036854775808 ≤ v ∧ v ≤ 9223372036854775807) (hk : ∀ w', Fr (qab mv) w w' → qat w' b mv (qf4 m a v) → K (.bool (decide (mIn m a 1))) w') : C.q Tryz.prog 247 #[.pointer (some ⟨b, 0, none⟩), .int .i64 a, .int .i64 v] w K :=
  F247.sh (qiv h hv hk)
end
end Go.Proofs.YtcakfaakbpdklaaGreatDoorV
