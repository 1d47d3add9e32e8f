/- THE ENGINE, part 5: the model's comparisons and builtins, run. Own work. -/
import Derived.Test.YtfdpmgddlaamcaaVc4
namespace Go.Proofs.YtfdpmgddlaamcaaV
open Go
set_option linter.unusedVariables false
set_option linter.unusedSimpArgs false
section
variable {P : Program} {w : World} {t : TypeId}
/-- The model's '==' behind its guard, at one type. -/
def eqS (op : BinOp) (t : TypeId) (x y : Operand) (a b : Value) : Sem Value := do eqGuard op t x y a b; binOp op t a b
theorem eqS_eql {x y : Operand} {a b : Value} {r : Bool} (hg : (eqGuard .eql t x y a b).run P w = .ok () w) (hb : binOp .eql t a b = (do pure (.bool (← Op.equal t a b)))) (he : (Op.equalIn (9999 + 1) t a b).run P w = .ok r w) :
    (do eqGuard .eql t x y a b; binOp .eql t a b : Sem Value).run P w = .ok (.bool r) w := by
  have he' : (Op.equal t a b).run P w = .ok r w := he
  rw [hb]
  simp only [Sem.run_bind, hg, Result.andThen_ok, he', Sem.run_pure]
theorem eqS_neq {x y : Operand} {a b : Value} {r : Bool} (hg : (eqGuard .neq t x y a b).run P w = .ok () w) (hb : binOp .neq t a b = (do pure (.bool (!(← Op.equal t a b))))) (he : (Op.equalIn (9999 + 1) t a b).run P w = .ok r w) :
    (do eqGuard .neq t x y a b; binOp .neq t a b : Sem Value).run P w = .ok (.bool (!r)) w := by
  have he' : (Op.equal t a b).run P w = .ok r w := he
  rw [hb]
  simp only [Sem.run_bind, hg, Result.andThen_ok, he', Sem.run_pure]
theorem eq_ptr_nil_in (d : Nat) (a : Addr) {e : TypeId} (hu : P.underlying t = some (.pointer e)) : (Op.equalIn (d + 1) t (.pointer (some a)) (.pointer none)).run P w = .ok (false) w := by
  simp [Op.equalIn, underlying, hu]
theorem eq_ptr_nil (x y : Operand) (a : Addr) {e : TypeId} (hu : P.underlying t = some (.pointer e)) : (do eqGuard .eql t x y (.pointer (some a)) (.pointer none); binOp .eql t (.pointer (some a)) (.pointer none) : Sem Value).run P w = .ok (.bool (false)) w :=
  eqS_eql (by simp [eqGuard]) rfl (eq_ptr_nil_in 9999 a hu)
theorem neq_ptr_nil (x y : Operand) (a : Addr) {e : TypeId} (hu : P.underlying t = some (.pointer e)) : (do eqGuard .neq t x y (.pointer (some a)) (.pointer none); binOp .neq t (.pointer (some a)) (.pointer none) : Sem Value).run P w = .ok (.bool (true)) w :=
  eqS_neq (by simp [eqGuard]) rfl (eq_ptr_nil_in 9999 a hu)
theorem eq_nil_nil_in (d : Nat) {e : TypeId} (hu : P.underlying t = some (.pointer e)) : (Op.equalIn (d + 1) t (.pointer none) (.pointer none)).run P w = .ok (true) w := by
  simp [Op.equalIn, underlying, hu]
theorem eq_nil_nil (x y : Operand) {e : TypeId} (hu : P.underlying t = some (.pointer e)) : (do eqGuard .eql t x y (.pointer none) (.pointer none); binOp .eql t (.pointer none) (.pointer none) : Sem Value).run P w = .ok (.bool (true)) w :=
  eqS_eql (by simp [eqGuard]) rfl (eq_nil_nil_in 9999  hu)
theorem neq_nil_nil (x y : Operand) {e : TypeId} (hu : P.underlying t = some (.pointer e)) : (do eqGuard .neq t x y (.pointer none) (.pointer none); binOp .neq t (.pointer none) (.pointer none) : Sem Value).run P w = .ok (.bool (false)) w :=
  eqS_neq (by simp [eqGuard]) rfl (eq_nil_nil_in 9999  hu)
theorem eq_bool_in (d : Nat) (a b : Bool) (hu : P.underlying t = some .bool) : (Op.equalIn (d + 1) t (.bool a) (.bool b)).run P w = .ok (a == b) w := by
  simp [Op.equalIn, underlying, hu]
theorem eq_bool (x y : Operand) (a b : Bool) (hu : P.underlying t = some .bool) : (do eqGuard .eql t x y (.bool a) (.bool b); binOp .eql t (.bool a) (.bool b) : Sem Value).run P w = .ok (.bool (a == b)) w :=
  eqS_eql (by simp [eqGuard]) rfl (eq_bool_in 9999 a b hu)
theorem neq_bool (x y : Operand) (a b : Bool) (hu : P.underlying t = some .bool) : (do eqGuard .neq t x y (.bool a) (.bool b); binOp .neq t (.bool a) (.bool b) : Sem Value).run P w = .ok (.bool (!(a == b))) w :=
  eqS_neq (by simp [eqGuard]) rfl (eq_bool_in 9999 a b hu)
theorem eq_slice_nil_in (d : Nat) (a : Option Addr) (n c : Nat) {e : TypeId} (hu : P.underlying t = some (.slice e)) : (Op.equalIn (d + 1) t (.slice a n c) (.slice none 0 0)).run P w = .ok (a.isNone) w := by
  cases a <;> simp [Op.equalIn, underlying, hu]
theorem eq_slice_nil (x y : Operand) (a : Option Addr) (n c : Nat) {e : TypeId} (hu : P.underlying t = some (.slice e)) : (do eqGuard .eql t x y (.slice a n c) (.slice none 0 0); binOp .eql t (.slice a n c) (.slice none 0 0) : Sem Value).run P w = .ok (.bool (a.isNone)) w :=
  eqS_eql (by simp [eqGuard]) rfl (eq_slice_nil_in 9999 a n c hu)
theorem neq_slice_nil (x y : Operand) (a : Option Addr) (n c : Nat) {e : TypeId} (hu : P.underlying t = some (.slice e)) : (do eqGuard .neq t x y (.slice a n c) (.slice none 0 0); binOp .neq t (.slice a n c) (.slice none 0 0) : Sem Value).run P w = .ok (.bool (!a.isNone)) w :=
  eqS_neq (by simp [eqGuard]) rfl (eq_slice_nil_in 9999 a n c hu)
theorem eq_func_nil_in (d : Nat) (f : Fn) (l m : Array Value) {ps rs : Array TypeId} {v : Bool} (hu : P.underlying t = some (.func ps rs v)) : (Op.equalIn (d + 1) t (.func f l m) (.nilFunc)).run P w = .ok (false) w := by
  simp [Op.equalIn, underlying, hu]
theorem eq_func_nil (x y : Operand) (f : Fn) (l m : Array Value) {ps rs : Array TypeId} {v : Bool} (hu : P.underlying t = some (.func ps rs v)) : (do eqGuard .eql t x y (.func f l m) (.nilFunc); binOp .eql t (.func f l m) (.nilFunc) : Sem Value).run P w = .ok (.bool (false)) w :=
  eqS_eql (by simp [eqGuard]) rfl (eq_func_nil_in 9999 f l m hu)
theorem neq_func_nil (x y : Operand) (f : Fn) (l m : Array Value) {ps rs : Array TypeId} {v : Bool} (hu : P.underlying t = some (.func ps rs v)) : (do eqGuard .neq t x y (.func f l m) (.nilFunc); binOp .neq t (.func f l m) (.nilFunc) : Sem Value).run P w = .ok (.bool (true)) w :=
  eqS_neq (by simp [eqGuard]) rfl (eq_func_nil_in 9999 f l m hu)
/-- min, max of two. -/
theorem min2_run (at_ : Array TypeId) (ty : TypeId) (k : IntKind) (a b : Int) : (Builtin.min_ at_ ty #[.int k a, .int k b]).run P w = .ok (.int k (min a b)) w := by
  have : (if b < a then b else a) = min a b := by omega
  simp [Builtin.min_, Builtin.min2, this]
theorem max2_run (at_ : Array TypeId) (ty : TypeId) (k : IntKind) (a b : Int) : (Builtin.max_ at_ ty #[.int k a, .int k b]).run P w = .ok (.int k (max a b)) w := by
  have : (if a < b then b else a) = max a b := by omega
  simp [Builtin.max_, Builtin.max2, this]
theorem min2_runb (at_ : Array TypeId) (ty : TypeId) (c : Array Bool) (k : IntKind) (a b : Int) : (builtin .min at_ ty c #[.int k a, .int k b]).run P w = .ok (.value (.int k (min a b))) w := by
  simp only [builtin, Sem.run_bind, min2_run]; rfl
theorem max2_runb (at_ : Array TypeId) (ty : TypeId) (c : Array Bool) (k : IntKind) (a b : Int) : (builtin .max at_ ty c #[.int k a, .int k b]).run P w = .ok (.value (.int k (max a b))) w := by
  simp only [builtin, Sem.run_bind, max2_run]; rfl
end
end Go.Proofs.YtfdpmgddlaamcaaV
