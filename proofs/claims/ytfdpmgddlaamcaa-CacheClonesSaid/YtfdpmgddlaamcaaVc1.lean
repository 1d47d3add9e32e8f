/- THE ENGINE, part 1: what one operation asks, as a plain statement ('vcOp'), and that it is sound. Own work; the same text for each seat (only the seat's name differs). -/
import Derived.WalkKit
import Derived.OrdersHeld
import Derived.KernelRfl
import Derived.Below
import Derived.OrdersIn
import Derived.TacticsIn
import Derived.RangeFuncSeq
namespace Go.Proofs.YtfdpmgddlaamcaaV
open Go

/-! ### 1. Environments -/
abbrev Env := List (Nat × Value)
def lk : Env → Nat → Option Value
  | [], _ => none
  | (k, v) :: r, t => cond (Nat.beq k t) (some v) (lk r t)
/-- The slot of the mark of a range over a function: no temporary. -/
def mkT : Nat := 4294967291
def lkT (env : Env) (t : Nat) : Option Value := cond (Nat.beq t mkT) none (lk env t)
theorem lkT_some {env : Env} {t : Nat} {v : Value} (h : lkT env t = some v) : t ≠ mkT ∧ lk env t = some v := by
  unfold lkT at h
  cases hb : Nat.beq t mkT with
  | true => rw [hb] at h; cases h
  | false => rw [hb] at h; exact ⟨Nat.ne_of_beq_eq_false hb, h⟩
theorem lkT_of {env : Env} {t : Nat} {v : Value} (h1 : t ≠ mkT) (h : lk env t = some v) : lkT env t = some v := by
  unfold lkT
  cases hb : Nat.beq t mkT with
  | true => exact absurd (Nat.eq_of_beq_eq_true hb) h1
  | false => exact h
def ev (env : Env) : Operand → Option Value
  | .tmp t => lkT env t
  | .const v => some v
  | .global g => some (.pointer (some ⟨g, 0, none⟩))
  | .func f => some (.func (.func f) #[] #[])
def marks (env : Env) : List Deferred := match lk env mkT with
  | some (.int _ D) => [{ target := .collected D.toNat, args := #[] }]
  | _ => []
/-- The act 'a' has at least what the environment has. -/
structure Ext (n : Nat) (env : Env) (a : Act) : Prop where
  defers : a.defers = marks env
  size : a.tmps.size = n
  has : ∀ t v, lkT env t = some v → a.tmps[t]? = some v
theorem Ext.eval {n : Nat} {env : Env} {a : Act} (h : Ext n env a) {x : Operand} {v : Value} (hv : ev env x = some v) : a.eval x = v := by
  cases x with
  | tmp t => simp [ev] at hv; simp [Act.eval, h.has t v hv]
  | const c => simp [ev] at hv; simpa [Act.eval] using hv
  | global g => simp [ev] at hv; simpa [Act.eval] using hv
  | func f => simp [ev] at hv; simpa [Act.eval] using hv
theorem lk_cons (k t : Nat) (v : Value) (r : Env) : lk ((k, v) :: r) t = if k = t then some v else lk r t := by
  simp only [lk]
  cases h : Nat.beq k t with
  | true => have : k = t := Nat.eq_of_beq_eq_true h; simp [this]
  | false => have : k ≠ t := Nat.ne_of_beq_eq_false h; simp [this]
theorem Ext.put {n : Nat} {env : Env} {a : Act} (h : Ext n env a) {d : Nat} (v : Value) (hd : d < n) (hm : d ≠ mkT) : Ext n ((d, v) :: env) (a.put (some d) v) := by
  refine ⟨?_, by simpa [Act.put] using h.size, fun t u hu => ?_⟩
  · have : marks ((d, v) :: env) = marks env := by unfold marks; rw [lk_cons, if_neg hm]
    rw [this]
    exact h.defers
  · obtain ⟨ht, hu⟩ := lkT_some hu
    rw [lk_cons] at hu
    by_cases hdt : d = t
    · subst hdt
      simp only [if_true, Option.some.injEq] at hu
      subst hu
      have := h.size
      simp [Act.put, this, hd]
    · simp only [hdt, if_false] at hu
      have := h.has t u (lkT_of ht hu)
      simp [Act.put, hdt, this]
theorem Ext.mono {n : Nat} {env env' : Env} {a : Act} (h : Ext n env a) (hs : ∀ t v, lk env' t = some v → lk env t = some v) (hm : (lk env mkT).isSome = true → (lk env' mkT).isSome = true) : Ext n env' a := by
  refine ⟨?_, h.size, fun t v hv => ?_⟩
  · have : marks env' = marks env := by
      unfold marks
      cases h1 : lk env' mkT with
      | some v => rw [hs _ _ h1]
      | none =>
        cases h2 : lk env mkT with
        | none => rfl
        | some v => rw [h1, h2] at hm; exact absurd (hm rfl) (by simp)
    rw [this]
    exact h.defers
  · obtain ⟨ht, hv⟩ := lkT_some hv
    exact h.has t v (lkT_of ht (hs t v hv))

/-! ### 2. What an operation asks -/
abbrev VK := Value → World → Prop
def Value.isBool : Value → Option Bool
  | .bool b => some b
  | _ => none
/-- Cells from an address on. -/
def rdCells (w : World) (a : Addr) (i : Nat) : Nat → Option (List Value)
  | 0 => some []
  | n + 1 => match w.cell? (a.add i), rdCells w a (i + 1) n with
    | some v, some r => some (v :: r)
    | _, _ => none
/-- Values of one cell are stored, one behind the other. -/
def wrCells : List Value → Nat → Addr → World → (World → Prop) → Prop
  | [], _, _, w, K => K w
  | v :: r, i, a, w, K => v.oneCell' = true ∧ (∃ u, w.cell? (a.add i) = some u) ∧ w.frozen? (a.add i) = false ∧ wrCells r (i + 1) a (w.setCell (a.add i) v) K

def szOf (P : Program) (t : TypeId) : Option Nat := (P.info? t).map (·.size)
def aggOf (P : Program) (t : TypeId) : Option Bool := (P.underlying t).map fun d => match d with | .struct _ | .array _ _ => true | _ => false
def zeroOf (P : Program) (t : TypeId) : Option Value := (P.info? t).bind (·.zero)
def fieldOf (P : Program) (s : TypeId) (f : Nat) : Option Field := match P.underlying s with | some (.struct fs) => fs[f]? | _ => none
def sliceElem (P : Program) (t : TypeId) : Option TypeId := match P.underlying t with | some (.slice e) => some e | _ => none

/-- A test that decides. -/
def C.ite (c : Value) (A B : Prop) : Prop := ∃ t : Bool, c = .bool t ∧ (t = true → A) ∧ (t = false → B)
def C.pick (c a b : Option Value) (w : World) (K : VK) : Prop := ∃ t : Bool, c = some (.bool t) ∧ ∃ v, (cond t a b) = some v ∧ K v w
def C.load1 (p : Value) (w : World) (K : VK) : Prop := ∃ a v, p = .pointer (some a) ∧ w.cell? a = some v ∧ K v w
def C.loadA (n : Nat) (p : Value) (w : World) (K : VK) : Prop := ∃ a cs, p = .pointer (some a) ∧ rdCells w a 0 n = some cs ∧ K (.agg cs.toArray) w
def C.store (n : Nat) (p x : Value) (w : World) (K : World → Prop) : Prop := ∃ a, p = .pointer (some a) ∧ x.cells.size = n ∧ wrCells x.cells.toList 0 a w K
/-- Some new block. -/
def C.new (o : Obj) (w : World) (K : VK) : Prop := K (.pointer (some ⟨w.heap.size, 0, none⟩)) (w.alloc o)
def C.field (off : Nat) (p : Value) (w : World) (K : VK) : Prop := ∃ a, p = .pointer (some a) ∧ K (.pointer (some (a.add off))) w
def notNil : Value → Bool
  | .pointer none | .nilIface | .nilFunc => false
  | .func (.method _) _ _ => false
  | _ => true
def C.nilCheck (p : Value) (w : World) (K : VK) : Prop := notNil p = true ∧ K p w
/-- Whole numbers. -/
def intOp (op : BinOp) (k : IntKind) (a b : Int) : Option Value :=
  match op with
  | .add => some (.int k (k.wrap (a + b)))
  | .sub => some (.int k (k.wrap (a - b)))
  | .mul => some (.int k (k.wrap (a * b)))
  | .eql => some (.bool (a == b))
  | .neq => some (.bool (a != b))
  | .lss => some (.bool (decide (a < b)))
  | .leq => some (.bool (decide (a ≤ b)))
  | .gtr => some (.bool (decide (a > b)))
  | .geq => some (.bool (decide (a ≥ b)))
  | _ => none
def C.int (op : BinOp) (x y : Value) (w : World) (K : VK) : Prop := ∃ k a b v, x = .int k a ∧ y = .int k b ∧ intOp op k a b = some v ∧ K v w
def C.bin (P : Program) (op : BinOp) (t : TypeId) (ox oy : Operand) (x y : Value) (w : World) (K : VK) : Prop :=
  ∃ v, (do eqGuard op t ox oy x y; binOp op t x y : Sem Value).run P w = .ok v w ∧ K v w
def isInt (P : Program) (t : TypeId) : Bool := match P.underlying t with | some (.int _) => true | _ => false
def plainInt : BinOp → Bool
  | .add | .sub | .mul | .eql | .neq | .lss | .leq | .gtr | .geq => true
  | _ => false
/-- Whatever the model's own run of it comes to. -/
def C.run (P : Program) (s : Sem Value) (w : World) (K : VK) : Prop := ∃ v w', s.run P w = .ok v w' ∧ K v w'
def C.runU (P : Program) (s : Sem Unit) (w : World) (K : World → Prop) : Prop := ∃ w', s.run P w = .ok () w' ∧ K w'
def C.not (x : Value) (w : World) (K : VK) : Prop := ∃ b, x = .bool b ∧ K (.bool !b) w
def C.ext (i : Nat) (x : Value) (w : World) (K : VK) : Prop := ∃ vs v, x = .tuple vs ∧ vs[i]? = some v ∧ K v w
def C.call (P : Program) (f : FuncId) (args : Array Value) (w : World) (K : VK) : Prop := Calls P f args w fun e w' => ∃ v, e = .returned v ∧ K v w'
def C.idx (n : Nat) (x i : Value) (w : World) (K : VK) : Prop :=
  ∃ g len cap k j, x = .slice (some g) len cap ∧ i = .int k j ∧ 0 ≤ j ∧ j < (len : Int) ∧ K (.pointer (some (g.add (j.toNat * n)))) w
def C.len (x : Value) (w : World) (K : VK) : Prop := ∃ g n c, x = .slice g n c ∧ K (.int .i64 (n : Int)) w
def C.conv (k : IntKind) (x : Value) (w : World) (K : VK) : Prop := ∃ k' a, x = .int k' a ∧ K (.int k (k.wrap a)) w

/-- Is it a function with a body (and none that the model takes aside)? -/
def bodied (P : Program) (f : FuncId) : Bool := match P.funcs[f]? with | some fn => fn.body.isSome && !(fn.name == "runtime.NumGoroutine") | none => false
def all2 : List (Option Value) → Option (List Value)
  | [] => some []
  | none :: _ => none
  | some v :: r => (all2 r).map (v :: ·)
/-- A call of a round. -/
def C.yield (P : Program) (l : Nat) (args : Array Value) (w : World) (K : VK) : Prop := YieldAt Fence.wide 0 P l args w fun e w' => ∃ v, e = .returned v ∧ K v w'
/-- 'vcCall': the callee a function of the program, or a closure, or a loop's round. -/
def vcCall (P : Program) (f : Value) (args : List Value) (w : World) (K : VK) : Prop :=
  match f with
  | .func (.func f) first captured => cond (bodied P f) (C.call P f (first.toList ++ (args ++ captured.toList)).toArray w K) False
  | .func (.yield l) first _ => cond (Nat.beq first.size 0) (C.yield P l args.toArray w K) False
  | _ => False

def vcBuiltin (P : Program) (b : Builtin) (at_ : Array TypeId) (ty : TypeId) (vs : List Value) (w : World) (K : VK) : Prop :=
  match b with
  | .len => match (at_[0]?).bind (sliceElem P), vs with
    | some _, [x] => C.len x w K
    | _, _ => C.run P (Builtin.len_ at_ ty vs.toArray) w K
  | .append => C.run P (Builtin.append_ at_ ty vs.toArray) w K
  | .copy => C.run P (Builtin.copy_ at_ ty vs.toArray) w K
  | .min => C.run P (Builtin.min_ at_ ty vs.toArray) w K
  | .max => C.run P (Builtin.max_ at_ ty vs.toArray) w K
  | .cap => C.run P (Builtin.cap_ at_ ty vs.toArray) w K
  | .delete => C.run P (Builtin.delete_ at_ ty vs.toArray) w K
  | .clear => C.run P (Builtin.clear_ at_ ty vs.toArray) w K
  | _ => False

def vcOp (P : Program) (o : Oper) (ρ : Operand → Option Value) (w : World) (K : VK) : Prop :=
  match o.op with
  | .move x | .assign x => match ρ x with | some v => K v w | none => False
  | .pick c a b => C.pick (ρ c) (ρ a) (ρ b) w K
  | .alloc t => match zeroOf P t with | some z => C.new (.cells z.cells t) w K | none => False
  | .box t x => match ρ x with | some v => C.new (.cells v.cells t) w K | none => False
  | .load t x => match ρ x, aggOf P t, szOf P t with
    | some p, some true, some n => C.loadA n p w K
    | some p, some false, _ => C.load1 p w K
    | _, _, _ => False
  | .store t x y => match ρ x, ρ y, szOf P t with
    | some p, some v, some n => C.store n p v w (K undef)
    | _, _, _ => False
  | .nilCheck x => match ρ x with | some p => C.nilCheck p w K | none => False
  | .binOp op t x y _ => match ρ x, ρ y with
    | some a, some b => cond (isInt P t && plainInt op) (C.int op a b w K) (C.bin P op t x y a b w K)
    | _, _ => False
  | .unOp .not _ x => match ρ x with | some a => C.not a w K | none => False
  | .unOp op _ x => match ρ x with | some a => C.run P (Op.unary op a) w K | none => False
  | .convert s t x => match ρ x with
    | some a => match P.underlying s, P.underlying t with
      | some (.int _), some (.int k) => C.conv k a w K
      | _, _ => C.run P (convert s t a) w K
    | none => False
  | .fieldAddr s x f => match ρ x, fieldOf P s f with
    | some p, some fl => match szOf P fl.type with
      | some (_ + 1) => C.field fl.offset p w K
      | _ => False
    | _, _ => False
  | .indexAddr t x i => match ρ x, ρ i, sliceElem P t with
    | some a, some b, some e => match szOf P e with
      | some n => C.idx n a b w K
      | none => False
    | _, _, _ => False
  | .extract x i => match ρ x with | some a => C.ext i a w K | none => False
  | .makeFunc fn first captured => match all2 (first.toList.map ρ), all2 (captured.toList.map ρ) with
    | some l, some m => K (.func fn l.toArray m.toArray) w
    | _, _ => False
  | .build t parts => match all2 (parts.toList.map fun p => ρ p.2) with
    | some vs => C.run P (Instr.build t ((parts.toList.map (·.1)).zip vs).toArray) w K
    | none => False
  | .buildSlice t n parts => match all2 (parts.toList.map fun p => ρ p.2) with
    | some vs => C.run P (Instr.buildSlice t n ((parts.toList.map (·.1)).zip vs).toArray) w K
    | none => False
  | .makeSlice t l c => match ρ l, ρ c with | some a, some b => C.run P (Instr.makeSlice t a b) w K | _, _ => False
  | .makeMap t none => C.run P (Instr.makeMap t none) w K
  | .makeInterface t x => match ρ x with | some a => C.run P (Instr.makeInterface t a) w K | none => False
  | .slice t x lo hi none => match ρ x, lo.map ρ, hi.map ρ with
    | some _, some none, _ => False
    | some _, _, some none => False
    | some a, l, h => C.run P (Instr.sliceAt t a (l.bind id) (h.bind id) none) w K
    | none, _, _ => False
  | .field t x f => match ρ x with | some a => C.run P (Instr.field t a f) w K | none => False
  | .index t x i => match ρ x, ρ i with | some a, some b => C.run P (Instr.index t a b) w K | _, _ => False
  | .lookup t x i ok => match ρ x, ρ i with | some a, some b => C.run P (Instr.lookup t a b ok) w K | _, _ => False
  | .mapUpdate t m k x => match ρ m, ρ k, ρ x with | some a, some b, some c => C.runU P (Instr.mapUpdate t a b c) w (K undef) | _, _, _ => False
  | .range t x => match ρ x with | some a => C.run P (Instr.range t a) w K | none => False
  | .next it s => match ρ it with | some a => C.run P (Instr.next a s o.type) w K | none => False
  | .entry it => match ρ it with | some a => C.run P (Instr.entry a) w K | none => False
  | .call c => match all2 (c.args.toList.map ρ) with
    | none => False
    | some vs => match c.callee with
      | .value f => match ρ f with | some fv => vcCall P fv vs w K | none => False
      | .builtin b => vcBuiltin P b c.argTypes o.type vs w K
      | _ => False
  | _ => False

/-! ### 3. It is sound -/
/-- It calls a round. -/
def yieldsAt (ρ : Operand → Value) (o : Oper) : Bool := match o.op with
  | .call { callee := .value f, .. } => match ρ f with
    | .func (.yield _) _ _ => true
    | _ => false
  | _ => false
/-- The operation goes on with a value. -/
def Goes (P : Program) (o : Oper) (a : Act) (w : World) (K : VK) : Prop :=
  (∃ v w', (execOp a.eval o).run P w = .ok (.value v) w' ∧ K v w') ∨
  (∃ w', (execOp a.eval o).run P w = .ok .skip w' ∧ K undef w') ∨
  (∃ f args, (execOp a.eval o).run P w = .ok (.enter f args) w ∧ C.call P f args w K) ∨
  (yieldsAt a.eval o = true ∧ ∃ l f tmps as bd, (execOp a.eval o).run P w = .ok (.round l f tmps as bd) w ∧ RoundIn Fence.wide 0 P l f tmps as bd w fun e w' => ∃ v, e = .returned v ∧ K v w')
def noDefer (o : Oper) : Prop := ∀ c, o.op ≠ .defer c
theorem wide_about {o : Oper} {P : Program} {w : World} {ρ : Operand → Value} : ∀ f, o.about P w ρ = some f → Fence.wide.fn f := fun _ _ => trivial
/-- Whatever frame it is in: an activation's (r = none), or a round's. -/
def Fc (r : Option Nat) : Fence := { Fence.wide with round := r }
theorem Goes.wp {P : Program} {o : Oper} {a : Act} {w : World} {K : VK} {Q : Exit → Act → World → Prop} {K' : Act → World → Prop} (hc : yieldsAt a.eval o = false)
    (h : Goes P o a w K) (hk : ∀ v w', K v w' → K' (a.put o.dst v) w') : o.wp P a w K' Q := by
  unfold Oper.wp
  rcases h with ⟨v, w', hr, h⟩ | ⟨w', hr, h⟩ | ⟨f, args, hr, h⟩ | ⟨hn, _⟩
  · rw [hr]; exact hk _ _ h
  · rw [hr]; exact hk _ _ h
  · rw [hr]
    refine h.mono ?_
    rintro e w' ⟨v, rfl, h⟩
    exact hk _ _ h
  · rw [hc] at hn; cases hn
theorem Goes.wpIn {P : Program} {r : Option Nat} {o : Oper} {a : Act} {w : World} {K : VK} {Q : Exit → Act → World → Prop} {K' : Act → World → Prop} (hd : noDefer o)
    (h : Goes P o a w K) (hk : ∀ v w', K v w' → K' (a.put o.dst v) w') : o.wpIn (Fc r) 0 P a w K' Q := by
  refine ⟨fun _ _ => trivial, ?_⟩
  have hs : o.semAt (Fc r).round a.eval = execOp a.eval o := by
    cases r with
    | none => rfl
    | some l => exact Oper.semAt_some l _ o hd
  rw [hs]
  rcases h with ⟨v, w', hr, h⟩ | ⟨w', hr, h⟩ | ⟨f, args, hr, h⟩ | ⟨_, l, f, tmps, as, bd, hr, h⟩
  · rw [hr]; exact hk _ _ h
  · rw [hr]; exact hk _ _ h
  · rw [hr]
    refine ⟨fun h => by simp [Fc, Fence.wide] at h, ?_⟩
    have h' : CallsIn Fence.wide 0 P f args w fun e w' => ∃ v, e = .returned v ∧ K v w' := callsIn_wide.2 h
    have h'' : CallsIn (Fc r) 0 P f args w fun e w' => ∃ v, e = .returned v ∧ K v w' := h'
    refine h''.mono ?_
    rintro e w' ⟨v, rfl, h⟩
    exact hk _ _ h
  · rw [hr]
    refine ⟨fun h => by simp [Fc, Fence.wide] at h, ?_⟩
    have h'' : RoundIn (Fc r) 0 P l f tmps as bd w fun e w' => ∃ v, e = .returned v ∧ K v w' := h
    refine h''.mono ?_
    rintro e w' ⟨v, rfl, h⟩
    exact hk _ _ h
theorem all2_map {ρ : Operand → Option Value} {f : Operand → Value} (hρ : ∀ x v, ρ x = some v → f x = v) : ∀ (l : List Operand) (vs : List Value), all2 (l.map ρ) = some vs → l.map f = vs
  | [], vs, h => by simp [all2] at h; simp [h]
  | x :: l, vs, h => by
    simp only [List.map_cons] at h
    cases hx : ρ x with
    | none => simp [hx, all2] at h
    | some v =>
      simp only [hx, all2, Option.map_eq_some_iff] at h
      obtain ⟨r, hr, rfl⟩ := h
      simp [hρ x v hx, all2_map hρ l r hr]
theorem rdCells_run (P : Program) (w : World) (a : Addr) : ∀ (n i : Nat) (acc : Array Value) (cs : List Value), rdCells w a i n = some cs →
    (loadCellsFrom a i n acc).run P w = .ok (acc ++ cs.toArray) w
  | 0, i, acc, cs, h => by simp [rdCells] at h; subst h; simp [loadCellsFrom]
  | n + 1, i, acc, cs, h => by
    simp only [rdCells] at h
    split at h
    · rename_i v r h1 h2
      simp only [Option.some.injEq] at h
      subst h
      simp only [loadCellsFrom, Sem.run_bind, run_load, h1, Result.andThen_ok]
      rw [rdCells_run P w a n (i + 1) _ r h2]
      simp
    · cases h
theorem wrCells_run (P : Program) : ∀ (l : List Value) (i : Nat) (a : Addr) (w : World) (K : World → Prop), wrCells l i a w K →
    ∃ w', (storeCells a l i).run P w = .ok () w' ∧ K w'
  | [], i, a, w, K, h => ⟨w, by simp [storeCells], h⟩
  | v :: l, i, a, w, K, h => by
    obtain ⟨h1, ⟨u, h2⟩, h3, h4⟩ := h
    obtain ⟨w', hr, hk⟩ := wrCells_run P l (i + 1) a _ K h4
    refine ⟨w', ?_, hk⟩
    simp only [storeCells, Sem.run_bind, run_store P w (a.add i) v _ h1, h2, h3]
    simpa using hr

section
variable {P : Program} {w : World} {t : TypeId}
theorem run_szOf {n : Nat} (h : szOf P t = some n) : (sizeOf t).run P w = .ok n w := by
  simp only [szOf, Option.map_eq_some_iff] at h
  obtain ⟨i, hi, rfl⟩ := h
  simp [sizeOf, typeInfo, hi]
theorem run_zeroOf {z : Value} (h : zeroOf P t = some z) : (zeroValue t).run P w = .ok z w := by
  simp only [zeroOf, Option.bind_eq_some_iff] at h
  obtain ⟨i, hi, hz⟩ := h
  simp [zeroValue, typeInfo, hi, hz]
theorem run_aggOf {b : Bool} (h : aggOf P t = some b) : (isAgg t).run P w = .ok b w := by
  simp only [aggOf, Option.map_eq_some_iff] at h
  obtain ⟨d, hd, rfl⟩ := h
  cases d <;> simp [isAgg, underlying, hd]
theorem run_isInt (h : isInt P t = true) : ∃ k, P.underlying t = some (.int k) := by
  unfold isInt at h
  split at h
  · exact ⟨_, ‹_›⟩
  · cases h
theorem run_eqGuard_int (op : BinOp) (ox oy : Operand) (k k' : IntKind) (a b : Int) : (eqGuard op t ox oy (.int k a) (.int k' b)).run P w = .ok () w := by
  unfold eqGuard
  cases op <;> simp
theorem run_binOp_int {op : BinOp} {k : IntKind} {a b : Int} {v : Value} (h : intOp op k a b = some v) : (binOp op t (.int k a) (.int k b)).run P w = .ok v w := by
  cases op <;> simp only [intOp, Option.some.injEq] at h <;> first | cases h | skip
  all_goals (first | subst h | skip)
  all_goals simp [binOp, Op.intArith, Op.intCmp]
end
theorem map_snd_map {ρ : Operand → Option Value} {f : Operand → Value} (hρ : ∀ x v, ρ x = some v → f x = v) : ∀ (l : List (Nat × Operand)) (vs : List Value), all2 (l.map fun p => ρ p.2) = some vs →
    l.map (fun p => (p.1, f p.2)) = (l.map (·.1)).zip vs
  | [], vs, h => by simp [all2] at h; subst h; rfl
  | x :: l, vs, h => by
    simp only [List.map_cons] at h
    cases hx : ρ x.2 with
    | none => simp [hx, all2] at h
    | some v =>
      simp only [hx, all2, Option.map_eq_some_iff] at h
      obtain ⟨r, hr, rfl⟩ := h
      simp [hρ _ _ hx, map_snd_map hρ l r hr]
theorem builtin_sound {P : Program} {b : Builtin} {at_ : Array TypeId} {ty : TypeId} {consts : Array Bool} {vs : List Value} {w : World} {K : VK} (h : vcBuiltin P b at_ ty vs w K) :
    ∃ v w', (builtin b at_ ty consts vs.toArray).run P w = .ok (.value v) w' ∧ K v w' := by
  cases b <;> simp only [vcBuiltin] at h <;> try exact h.elim
  case len =>
    split at h
    · rename_i e x he
      obtain ⟨g, n, c, rfl, hk⟩ := h
      refine ⟨_, w, ?_, hk⟩
      simp only [Option.bind_eq_some_iff] at he
      obtain ⟨t, h0, he⟩ := he
      have hs : P.underlying t = some (.slice e) := by
        unfold sliceElem at he
        split at he
        · cases he; assumption
        · cases he
      simp [builtin, Builtin.len_, h0, underlying, hs, goInt]
    · obtain ⟨v, w', hr, hk⟩ := h
      exact ⟨v, w', by simp only [builtin, Sem.run_bind, hr]; rfl, hk⟩
  all_goals
    obtain ⟨v, w', hr, hk⟩ := h
    exact ⟨v, w', by simp only [builtin, Sem.run_bind, hr]; rfl, hk⟩
theorem vcOp_sound {P : Program} {o : Oper} {ρ : Operand → Option Value} {a : Act} {w : World} {K : VK} (hρ : ∀ x v, ρ x = some v → a.eval x = v)
    (h : vcOp P o ρ w K) : Goes P o a w K := by
  obtain ⟨dst, op, type, pos, after, guard⟩ := o
  cases op <;> simp only [vcOp] at h <;> try exact h.elim
  case move x =>
    split at h
    · rename_i v hv; exact .inl ⟨v, w, by simp [execOp, hρ x v hv], h⟩
    · exact h.elim
  case assign x =>
    split at h
    · rename_i v hv; exact .inl ⟨v, w, by simp [execOp, hρ x v hv], h⟩
    · exact h.elim
  case pick c x y =>
    obtain ⟨t, hc, v, hv, hk⟩ := h
    refine .inl ⟨v, w, ?_, hk⟩
    have hc' := hρ c _ hc
    cases t with
    | true => have := hρ x _ hv; simp [execOp, hc', asBool, this]
    | false => have := hρ y _ hv; simp [execOp, hc', asBool, this]
  case alloc t =>
    split at h
    · rename_i z hz
      exact .inl ⟨_, _, by simp [execOp, Instr.alloc, run_zeroOf hz, newVar, newRow], h⟩
    · exact h.elim
  case box t x =>
    split at h
    · rename_i v hv
      exact .inl ⟨_, _, by simp [execOp, Instr.box, hρ x v hv, newVar, newRow], h⟩
    · exact h.elim
  case build t parts =>
    split at h
    · rename_i vs hvs
      obtain ⟨v, w', hr, hk⟩ := h
      refine .inl ⟨v, w', ?_, hk⟩
      have := map_snd_map hρ _ _ hvs
      have hp : (parts.map fun (i, x) => (i, a.eval x)) = ((parts.toList.map (·.1)).zip vs).toArray := by
        rw [← this]; apply Array.ext' ; simp
      simp only [execOp, hp, Sem.run_bind, hr]; rfl
    · exact h.elim
  case buildSlice t n parts =>
    split at h
    · rename_i vs hvs
      obtain ⟨v, w', hr, hk⟩ := h
      refine .inl ⟨v, w', ?_, hk⟩
      have := map_snd_map hρ _ _ hvs
      have hp : (parts.map fun (i, x) => (i, a.eval x)) = ((parts.toList.map (·.1)).zip vs).toArray := by
        rw [← this]; apply Array.ext' ; simp
      simp only [execOp, hp, Sem.run_bind, hr]; rfl
    · exact h.elim
  case load t x =>
    split at h
    · rename_i p n hp hag hn
      obtain ⟨ad, cs, rfl, hc, hk⟩ := h
      refine .inl ⟨_, w, ?_, hk⟩
      simp [execOp, Instr.loadAt, Instr.sureAddr, hρ x _ hp, loadVar, run_aggOf hag, run_szOf hn, loadCells, rdCells_run P w ad n 0 #[] cs hc]
    · rename_i p q hp hag
      obtain ⟨ad, v, rfl, hc, hk⟩ := h
      refine .inl ⟨v, w, ?_, hk⟩
      simp [execOp, Instr.loadAt, Instr.sureAddr, hρ x _ hp, loadVar, run_aggOf hag, hc]
    · exact h.elim
  case store t x y =>
    split at h
    · rename_i p v n hp hv hn
      obtain ⟨ad, rfl, hs, hk⟩ := h
      obtain ⟨w', hr, hk'⟩ := wrCells_run P _ _ _ _ _ hk
      refine .inr (.inl ⟨w', ?_, hk'⟩)
      simp [execOp, Instr.storeAt, Instr.sureAddr, hρ x _ hp, hρ y _ hv, storeVar, run_szOf hn, hs, hr]
    · exact h.elim
  case nilCheck x =>
    split at h
    · rename_i p hp
      obtain ⟨hn, hk⟩ := h
      refine .inl ⟨p, w, ?_, hk⟩
      have hx := hρ x _ hp
      cases p <;> simp_all [execOp, notNil]
      case pointer ad => cases ad <;> simp_all
      case func fn _ _ => cases fn <;> simp_all
    · exact h.elim
  case binOp op t x y yt =>
    split at h
    · rename_i u v hu hv
      have e1 := hρ x _ hu
      have e2 := hρ y _ hv
      cases hb : (isInt P t && plainInt op) with
      | true =>
        rw [hb] at h
        obtain ⟨k, m, n, r, rfl, rfl, hr, hk⟩ := h
        refine .inl ⟨r, w, ?_, hk⟩
        simp [execOp, e1, e2, run_eqGuard_int, run_binOp_int hr]
      | false =>
        rw [hb] at h
        obtain ⟨r, hr, hk⟩ := h
        refine .inl ⟨r, w, ?_, hk⟩
        simp only [execOp, e1, e2]
        simp only [Sem.run_bind] at hr ⊢
        rw [hr]; rfl
    · exact h.elim
  case unOp op t x =>
    cases op with
    | not =>
      simp only at h
      split at h
      · rename_i u hu
        obtain ⟨b, rfl, hk⟩ := h
        exact .inl ⟨_, w, by simp [execOp, hρ x _ hu, Op.unary], hk⟩
      · exact h.elim
    | _ =>
      simp only at h
      split at h
      · rename_i u hu
        obtain ⟨v, w', hr, hk⟩ := h
        exact .inl ⟨v, w', by simp only [execOp, hρ x _ hu, Sem.run_bind, hr]; rfl, hk⟩
      · exact h.elim
  case convert s t x =>
    split at h
    · rename_i u hu
      split at h
      · rename_i k hs ht
        obtain ⟨k', n, rfl, hk⟩ := h
        refine .inl ⟨_, w, ?_, hk⟩
        simp [execOp, hρ x _ hu, convert, underlying, hs, ht, Conv.intToInt]
      · obtain ⟨v, w', hr, hk⟩ := h
        exact .inl ⟨v, w', by simp only [execOp, hρ x _ hu, Sem.run_bind, hr]; rfl, hk⟩
    · exact h.elim
  case makeInterface t x =>
    split at h
    · rename_i u hu
      obtain ⟨v, w', hr, hk⟩ := h
      exact .inl ⟨v, w', by simp only [execOp, hρ x _ hu, Sem.run_bind, hr]; rfl, hk⟩
    · exact h.elim
  case makeFunc fn first captured =>
    split at h
    · rename_i l m hl hm
      refine .inl ⟨_, w, ?_, h⟩
      have h1 := all2_map hρ _ _ hl
      have h2 := all2_map hρ _ _ hm
      have h1' : first.map a.eval = l.toArray := by rw [← h1]; apply Array.ext'; simp
      have h2' : captured.map a.eval = m.toArray := by rw [← h2]; apply Array.ext'; simp
      simp [execOp, Instr.makeFunc, h1', h2']
    · exact h.elim
  case makeMap t r =>
    cases r with
    | none =>
      obtain ⟨v, w', hr, hk⟩ := h
      exact .inl ⟨v, w', by simp only [execOp, Option.map_none, Sem.run_bind, hr]; rfl, hk⟩
    | some _ => exact h.elim
  case makeSlice t l c =>
    split at h
    · rename_i u u' hu hu'
      obtain ⟨v, w', hr, hk⟩ := h
      exact .inl ⟨v, w', by simp only [execOp, hρ l _ hu, hρ c _ hu', Sem.run_bind, hr]; rfl, hk⟩
    · exact h.elim
  case slice t x lo hi mx =>
    cases mx with
    | some _ => exact h.elim
    | none =>
      simp only at h
      have hlo : ∀ l, lo.map ρ = l → l ≠ some none → lo.map a.eval = l.bind id := by
        intro l hl hne
        cases lo with
        | none => simp at hl; subst hl; rfl
        | some q =>
          simp at hl; subst hl
          cases hq : ρ q with
          | none => simp [hq] at hne
          | some z => simp [hρ q z hq]
      have hhi : ∀ l, hi.map ρ = l → l ≠ some none → hi.map a.eval = l.bind id := by
        intro l hl hne
        cases hi with
        | none => simp at hl; subst hl; rfl
        | some q =>
          simp at hl; subst hl
          cases hq : ρ q with
          | none => simp [hq] at hne
          | some z => simp [hρ q z hq]
      split at h
      · exact h.elim
      · exact h.elim
      · rename_i u l r hu h1 h2
        obtain ⟨v, w', hr, hk⟩ := h
        refine .inl ⟨v, w', ?_, hk⟩
        have e1 := hlo _ rfl (by assumption)
        have e2 := hhi _ rfl (by assumption)
        simp only [execOp, hρ x _ hu, e1, e2, Option.map_none, Sem.run_bind, hr]; rfl
      · exact h.elim
  case fieldAddr s x f =>
    split at h
    · rename_i p fl hp hf
      split at h
      · rename_i n hn
        obtain ⟨ad, rfl, hk⟩ := h
        refine .inl ⟨_, w, ?_, hk⟩
        have hs : ∃ fs, P.underlying s = some (.struct fs) ∧ fs[f]? = some fl := by
          unfold fieldOf at hf
          split at hf
          · exact ⟨_, ‹_›, hf⟩
          · cases hf
        obtain ⟨fs, hs, hfs⟩ := hs
        simp [execOp, Instr.fieldAt, underlying, hs, hfs, Instr.sureAddr, hρ x _ hp, fieldPlace, run_szOf hn]
      · exact h.elim
    · exact h.elim
  case field t x f =>
    split at h
    · rename_i u hu
      obtain ⟨v, w', hr, hk⟩ := h
      exact .inl ⟨v, w', by simp only [execOp, hρ x _ hu, Sem.run_bind, hr]; rfl, hk⟩
    · exact h.elim
  case indexAddr t x i =>
    split at h
    · rename_i u u' e hu hu' he
      split at h
      · rename_i n hn
        obtain ⟨g, len, cap, k, j, rfl, rfl, h0, h1, hk⟩ := h
        refine .inl ⟨_, w, ?_, hk⟩
        have hs : P.underlying t = some (.slice e) := by
          unfold sliceElem at he
          split at he
          · cases he; assumption
          · cases he
        simp [execOp, Instr.indexAt, asIntOf, underlying, hs, hρ x _ hu, hρ i _ hu', h0, h1, run_szOf hn]
      · exact h.elim
    · exact h.elim
  case index t x i =>
    split at h
    · rename_i u u' hu hu'
      obtain ⟨v, w', hr, hk⟩ := h
      exact .inl ⟨v, w', by simp only [execOp, hρ x _ hu, hρ i _ hu', Sem.run_bind, hr]; rfl, hk⟩
    · exact h.elim
  case lookup t x i ok =>
    split at h
    · rename_i u u' hu hu'
      obtain ⟨v, w', hr, hk⟩ := h
      exact .inl ⟨v, w', by simp only [execOp, hρ x _ hu, hρ i _ hu', Sem.run_bind, hr]; rfl, hk⟩
    · exact h.elim
  case mapUpdate t m k x =>
    split at h
    · rename_i u u' u'' hu hu' hu''
      obtain ⟨w', hr, hk⟩ := h
      exact .inr (.inl ⟨w', by simp only [execOp, hρ m _ hu, hρ k _ hu', hρ x _ hu'', Sem.run_bind, hr]; rfl, hk⟩)
    · exact h.elim
  case range t x =>
    split at h
    · rename_i u hu
      obtain ⟨v, w', hr, hk⟩ := h
      exact .inl ⟨v, w', by simp only [execOp, hρ x _ hu, Sem.run_bind, hr]; rfl, hk⟩
    · exact h.elim
  case next it s =>
    split at h
    · rename_i u hu
      obtain ⟨v, w', hr, hk⟩ := h
      exact .inl ⟨v, w', by simp only [execOp, hρ it _ hu, Sem.run_bind, hr]; rfl, hk⟩
    · exact h.elim
  case entry it =>
    split at h
    · rename_i u hu
      obtain ⟨v, w', hr, hk⟩ := h
      exact .inl ⟨v, w', by simp only [execOp, hρ it _ hu, Sem.run_bind, hr]; rfl, hk⟩
    · exact h.elim
  case extract x i =>
    split at h
    · rename_i u hu
      obtain ⟨vs, v, rfl, hv, hk⟩ := h
      exact .inl ⟨v, w, by simp [execOp, Instr.extract, hρ x _ hu, hv], hk⟩
    · exact h.elim
  case call c =>
    obtain ⟨callee, args, argTypes⟩ := c
    simp only at h
    cases hvs : all2 (args.toList.map ρ) with
    | none => rw [hvs] at h; exact h.elim
    | some vs =>
      rw [hvs] at h
      have hargs := all2_map hρ _ _ hvs
      have hargs' : args.map a.eval = vs.toArray := by rw [← hargs]; apply Array.ext'; simp
      cases callee with
      | value f =>
        simp only at h
        split at h
        · rename_i fv hf
          unfold vcCall at h
          split at h
          · rename_i f' first captured
            cases hb : bodied P f' with
            | false => rw [hb] at h; exact h.elim
            | true =>
              rw [hb] at h
              refine .inr (.inr (.inl ⟨f', _, ?_, h⟩))
              unfold bodied at hb
              split at hb
              · rename_i fn hfn
                simp only [Bool.and_eq_true, Bool.not_eq_true'] at hb
                obtain ⟨hb1, hb2⟩ := hb
                have hb3 : fn.body.isNone = false := by cases hq : fn.body <;> simp_all
                have ha : (first ++ vs.toArray) ++ captured = (first.toList ++ (vs ++ captured.toList)).toArray := by apply Array.ext'; simp
                simp only [execOp, resolve, Deferred.ofValue, hρ f _ hf, hargs', invoke, callFunc, Sem.run_bind, Sem.run_pure, Result.andThen_ok, run_program, hfn, hb2, hb3, Bool.false_eq_true, if_false, ha]
              · cases hb
          · rename_i l first captured
            cases hb : Nat.beq first.size 0 with
            | false => rw [hb] at h; exact h.elim
            | true =>
            rw [hb] at h
            have hfe : first = #[] := Array.eq_empty_of_size_eq_zero (Nat.eq_of_beq_eq_true hb)
            subst hfe
            obtain ⟨fn, tmps, as, bd, hy, hr⟩ := h
            have hcalm : yieldsAt a.eval { dst := dst, op := .call { callee := .value f, args := args, argTypes := argTypes }, type := type, pos := pos, after := after, guard := guard } = true := by
              simp only [yieldsAt, hρ f _ hf]
            refine .inr (.inr (.inr ⟨hcalm, l, fn, tmps, as, bd, ?_, hr⟩))
            simp only [execOp, resolve, Deferred.ofValue, hρ f _ hf, hargs', invoke, Sem.run_bind, Sem.run_pure, Result.andThen_ok, Array.empty_append]
            exact hy
          · exact h.elim
        · exact h.elim
      | builtin b =>
        obtain ⟨v, w', hr, hk⟩ := builtin_sound (consts := args.map fun | .const _ => true | _ => false) h
        refine .inl ⟨v, w', ?_, hk⟩
        simp only [execOp, resolve, hargs', invoke, Sem.run_bind, Sem.run_pure, Result.andThen_ok]
        exact hr
      | invoke r m => exact h.elim
theorem vcOp_noDefer {P : Program} {o : Oper} {ρ : Operand → Option Value} {w : World} {K : VK} (h : vcOp P o ρ w K) : noDefer o := by
  obtain ⟨dst, op, type, pos, after, guard⟩ := o
  intro c hc
  simp only at hc
  subst hc
  exact h
end Go.Proofs.YtfdpmgddlaamcaaV
