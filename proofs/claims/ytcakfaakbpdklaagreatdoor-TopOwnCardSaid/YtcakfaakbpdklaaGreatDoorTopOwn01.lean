/- Part 1 of what the law needs: own lemmas, in the order in which they build. -/
import Derived.WalkKit
import Derived.OrdersHeld
import Derived.KernelRfl
import Derived.Below
import Derived.OrdersIn
import Derived.TacticsIn
import Derived.RangeFuncSeq
import Derived.Scope
import Derived.Tactics
import Derived.RangeFuncIn
import Derived.RangeFuncLeaves
import Derived.RangeFuncRecord
namespace Go.Proofs.YtcakfaakbpdklaaGreatDoorV
open Go
abbrev Env := List (Nat × Value)
def lk : Env → Nat → Option Value
  | [], _ => none
  | (k, v) :: r, t => cond (Nat.beq k t) (some v) (lk r t)
def mkT : Nat := 4294967291
def lkT (env : Env) (t : Nat) : Option Value := cond (Nat.beq t mkT) none (lk env t)
theorem qe6 {env : Env} {t : Nat} {v : Value} (h : lkT env t = some v) : t ≠ mkT ∧ lk env t = some v := by
  unfold lkT at h
  cases hb : Nat.beq t mkT with
  | true => rw [hb] at h; cases h
  | false => rw [hb] at h; exact ⟨Nat.ne_of_beq_eq_false hb, h⟩
theorem qmd {env : Env} {t : Nat} {v : Value} (h1 : t ≠ mkT) (h : lk env t = some v) : lkT env t = some v := by
  unfold lkT
  cases hb : Nat.beq t mkT with
  | true => exact absurd (Nat.eq_of_beq_eq_true hb) h1
  | false => exact h
def ev (env : Env) : Operand → Option Value
  | .tmp t => lkT env t
  | .const v => some v
  | .global g => some (.pointer (some ⟨g, 0, none⟩))
  | .func f => some (.func (.func f) #[] #[])
def qcp (env : Env) : List Deferred := match lk env mkT with
  | some (.int _ D) => [{ target := .collected D.toNat, args := #[] }]
  | _ => []
structure Ext (n : Nat) (env : Env) (a : Act) : Prop where
  defers : a.defers = qcp env
  size : a.tmps.size = n
  has : ∀ t v, lkT env t = some v → a.tmps[t]? = some v
theorem Ext.eval {n : Nat} {env : Env} {a : Act} (h : Ext n env a) {x : Operand} {v : Value} (hv : ev env x = some v) : a.eval x = v := by
  cases x with
  | tmp t => simp [ev] at hv; simp [Act.eval, h.has t v hv]
  | const c => simp [ev] at hv; simpa [Act.eval] using hv
  | global g => simp [ev] at hv; simpa [Act.eval] using hv
  | func f => simp [ev] at hv; simpa [Act.eval] using hv
theorem qe0 (k t : Nat) (v : Value) (r : Env) : lk ((k, v) :: r) t = if k = t then some v else lk r t := by
  simp only [lk]
  cases h : Nat.beq k t with
  | true => have : k = t := Nat.eq_of_beq_eq_true h; simp [this]
  | false => have : k ≠ t := Nat.ne_of_beq_eq_false h; simp [this]
theorem Ext.put {n : Nat} {env : Env} {a : Act} (h : Ext n env a) {d : Nat} (v : Value) (hd : d < n) (hm : d ≠ mkT) : Ext n ((d, v) :: env) (a.put (some d) v) := by
  refine ⟨?_, by simpa [Act.put] using h.size, fun t u hu => ?_⟩
  · have : qcp ((d, v) :: env) = qcp env := by unfold qcp; rw [qe0, if_neg hm]
    rw [this]
    exact h.defers
  · obtain ⟨ht, hu⟩ := qe6 hu
    rw [qe0] at hu
    by_cases hdt : d = t
    · subst hdt
      simp only [if_true, Option.some.injEq] at hu
      subst hu
      have := h.size
      simp [Act.put, this, hd]
    · simp only [hdt, if_false] at hu
      have := h.has t u (qmd ht hu)
      simp [Act.put, hdt, this]
theorem Ext.mono {n : Nat} {env env' : Env} {a : Act} (h : Ext n env a) (hs : ∀ t v, lk env' t = some v → lk env t = some v) (hm : (lk env mkT).isSome = true → (lk env' mkT).isSome = true) : Ext n env' a := by
  refine ⟨?_, h.size, fun t v hv => ?_⟩
  · have : qcp env' = qcp env := by
      unfold qcp
      cases h1 : lk env' mkT with
      | some v => rw [hs _ _ h1]
      | none =>
        cases h2 : lk env mkT with
        | none => rfl
        | some v => rw [h1, h2] at hm; exact absurd (hm rfl) (by simp)
    rw [this]
    exact h.defers
  · obtain ⟨ht, hv⟩ := qe6 hv
    exact h.has t v (qmd ht (hs t v hv))
abbrev VK := Value → World → Prop
def qdf (w : World) (a : Addr) (i : Nat) : Nat → Option (List Value)
  | 0 => some []
  | n + 1 => match w.cell? (a.add i), qdf w a (i + 1) n with
    | some v, some r => some (v :: r)
    | _, _ => none
def qh4 : List Value → Nat → Addr → World → (World → Prop) → Prop
  | [], _, _, w, K => K w
  | v :: r, i, a, w, K => v.oneCell' = true ∧ (∃ u, w.cell? (a.add i) = some u) ∧ w.frozen? (a.add i) = false ∧ qh4 r (i + 1) a (w.setCell (a.add i) v) K
def qer (P : Program) (t : TypeId) : Option Nat := (P.info? t).map (·.size)
def qi1 (P : Program) (t : TypeId) : Option Bool := (P.underlying t).map fun d => match d with | .struct _ | .array _ _ => true | _ => false
def qjo (P : Program) (t : TypeId) : Option Value := (P.info? t).bind (·.zero)
def qj0 (P : Program) (s : TypeId) (f : Nat) : Option Field := match P.underlying s with | some (.struct fs) => fs[f]? | _ => none
def qg2 (P : Program) (t : TypeId) : Option (Nat × TypeId) := match P.underlying t with | some (.array n e) => some (n, e) | _ => none
def qc8 (P : Program) (t : TypeId) : Option TypeId := match P.underlying t with | some (.slice e) => some e | _ => none
def C.am (c : Value) (A B : Prop) : Prop := ∃ t : Bool, c = .bool t ∧ (t = true → A) ∧ (t = false → B)
def C.a2 (c a b : Option Value) (w : World) (K : VK) : Prop := ∃ t : Bool, c = some (.bool t) ∧ ∃ v, (cond t a b) = some v ∧ K v w
def C.ai (p : Value) (w : World) (K : VK) : Prop := ∃ a v, p = .pointer (some a) ∧ w.cell? a = some v ∧ K v w
def C.ao (n : Nat) (p : Value) (w : World) (K : VK) : Prop := ∃ a cs, p = .pointer (some a) ∧ qdf w a 0 n = some cs ∧ K (.agg cs.toArray) w
def C.ak (n : Nat) (p x : Value) (w : World) (K : World → Prop) : Prop := ∃ a, p = .pointer (some a) ∧ x.cells.size = n ∧ qh4 x.cells.toList 0 a w K
def C.a3 (o : Obj) (w : World) (K : VK) : Prop := K (.pointer (some ⟨w.heap.size, 0, none⟩)) (w.alloc o)
def C.ab (off : Nat) (p : Value) (w : World) (K : VK) : Prop := ∃ a, p = .pointer (some a) ∧ K (.pointer (some (a.add off))) w
def qjc : Value → Bool
  | .pointer none | .nilIface | .nilFunc => false
  | .func (.method _) _ _ => false
  | _ => true
def C.ad (p : Value) (w : World) (K : VK) : Prop := qjc p = true ∧ K p w
def qdd (op : BinOp) (k : IntKind) (a b : Int) : Option Value :=
  match op with
  | .add => some (.int k (k.wrap (a + b)))
  | .sub => some (.int k (k.wrap (a - b)))
  | .mul => some (.int k (k.wrap (a * b)))
  | .eql => some (.bool (a == b))
  | .neq => some (.bool (a != b))
  | .lss => some (.bool (decide (a < b)))
  | .leq => some (.bool (decide (a ≤ b)))
  | .gtr => some (.bool (decide (a > b)))
  | .geq => some (.bool (decide (a ≥ b)))
  | _ => none
def C.aj (op : BinOp) (x y : Value) (w : World) (K : VK) : Prop := ∃ k a b v, x = .int k a ∧ y = .int k b ∧ qdd op k a b = some v ∧ K v w
def C.bi (P : Program) (op : BinOp) (t : TypeId) (ox oy : Operand) (x y : Value) (w : World) (K : VK) : Prop :=
  ∃ v, (do eqGuard op t ox oy x y; binOp op t x y : Sem Value).run P w = .ok v w ∧ K v w
def qo9 (P : Program) (t : TypeId) : Bool := match P.underlying t with | some (.int _) => true | _ => false
def qiq : BinOp → Bool
  | .add | .sub | .mul | .eql | .neq | .lss | .leq | .gtr | .geq => true
  | _ => false
def C.ay (P : Program) (s : Sem Value) (w : World) (K : VK) : Prop := ∃ v w', s.run P w = .ok v w' ∧ K v w'
def C.cx (P : Program) (s : Sem Unit) (w : World) (K : World → Prop) : Prop := ∃ w', s.run P w = .ok () w' ∧ K w'
def C.bg (x : Value) (w : World) (K : VK) : Prop := ∃ b, x = .bool b ∧ K (.bool !b) w
def C.a0 (i : Nat) (x : Value) (w : World) (K : VK) : Prop := ∃ vs v, x = .tuple vs ∧ vs[i]? = some v ∧ K v w
def C.q (P : Program) (f : FuncId) (args : Array Value) (w : World) (K : VK) : Prop := Calls P f args w fun e w' => ∃ v, e = .returned v ∧ K v w'
def C.bj (n : Nat) (x i : Value) (w : World) (K : VK) : Prop :=
  ∃ g len cap k j, x = .slice (some g) len cap ∧ i = .int k j ∧ 0 ≤ j ∧ j < (len : Int) ∧ K (.pointer (some (g.add (j.toNat * n)))) w
def C.bt (ln n : Nat) (x i : Value) (w : World) (K : VK) : Prop :=
  ∃ g k j, x = .pointer (some g) ∧ i = .int k j ∧ 0 ≤ j ∧ j < (ln : Int) ∧ K (.pointer (some (g.add (j.toNat * n)))) w
def C.bk (x : Value) (w : World) (K : VK) : Prop := ∃ g n c, x = .slice g n c ∧ K (.int .i64 (n : Int)) w
def C.cb (k : IntKind) (x : Value) (w : World) (K : VK) : Prop := ∃ k' a, x = .int k' a ∧ K (.int k (k.wrap a)) w
def qbx (P : Program) (f : FuncId) : Bool := match P.funcs[f]? with | some fn => fn.body.isSome && !(fn.name == "runtime.NumGoroutine") | none => false
def qck : List (Option Value) → Option (List Value)
  | [] => some []
  | none :: _ => none
  | some v :: r => (qck r).map (v :: ·)
def C.ch (P : Program) (l : Nat) (args : Array Value) (w : World) (K : VK) : Prop := YieldAt Fence.wide 0 P l args w fun e w' => ∃ v, e = .returned v ∧ K v w'
def qb2 (P : Program) (f : Value) (args : List Value) (w : World) (K : VK) : Prop :=
  match f with
  | .func (.func f) first captured => cond (qbx P f) (C.q P f (first.toList ++ (args ++ captured.toList)).toArray w K) False
  | .func (.yield l) first _ => cond (Nat.beq first.size 0) (C.ch P l args.toArray w K) False
  | _ => False
def qfn (P : Program) (b : Builtin) (at_ : Array TypeId) (ty : TypeId) (vs : List Value) (w : World) (K : VK) : Prop :=
  match b with
  | .len => match (at_[0]?).bind (qc8 P), vs with
    | some _, [x] => C.bk x w K
    | _, _ => C.ay P (Builtin.len_ at_ ty vs.toArray) w K
  | .append => C.ay P (Builtin.append_ at_ ty vs.toArray) w K
  | .copy => C.ay P (Builtin.copy_ at_ ty vs.toArray) w K
  | .min => C.ay P (Builtin.min_ at_ ty vs.toArray) w K
  | .max => C.ay P (Builtin.max_ at_ ty vs.toArray) w K
  | .cap => C.ay P (Builtin.cap_ at_ ty vs.toArray) w K
  | .delete => C.ay P (Builtin.delete_ at_ ty vs.toArray) w K
  | .clear => C.ay P (Builtin.clear_ at_ ty vs.toArray) w K
  | _ => False
def qit (P : Program) (o : Oper) (ρ : Operand → Option Value) (w : World) (K : VK) : Prop :=
  match o.op with
  | .move x | .assign x => match ρ x with | some v => K v w | none => False
  | .pick c a b => C.a2 (ρ c) (ρ a) (ρ b) w K
  | .alloc t => match qjo P t with | some z => C.a3 (.cells z.cells t) w K | none => False
  | .box t x => match ρ x with | some v => C.a3 (.cells v.cells t) w K | none => False
  | .load t x => match ρ x, qi1 P t, qer P t with
    | some p, some true, some n => C.ao n p w K
    | some p, some false, _ => C.ai p w K
    | _, _, _ => False
  | .store t x y => match ρ x, ρ y, qer P t with
    | some p, some v, some n => C.ak n p v w (K undef)
    | _, _, _ => False
  | .nilCheck x => match ρ x with | some p => C.ad p w K | none => False
  | .binOp op t x y _ => match ρ x, ρ y with
    | some a, some b => cond (qo9 P t && qiq op) (C.aj op a b w K) (C.bi P op t x y a b w K)
    | _, _ => False
  | .unOp .not _ x => match ρ x with | some a => C.bg a w K | none => False
  | .unOp op _ x => match ρ x with | some a => C.ay P (Op.unary op a) w K | none => False
  | .convert s t x => match ρ x with
    | some a => match P.underlying s, P.underlying t with
      | some (.int _), some (.int k) => C.cb k a w K
      | _, _ => C.ay P (convert s t a) w K
    | none => False
  | .fieldAddr s x f => match ρ x, qj0 P s f with
    | some p, some fl => match qer P fl.type with
      | some (_ + 1) => C.ab fl.offset p w K
      | _ => False
    | _, _ => False
  | .indexAddr t x i => match ρ x, ρ i, qc8 P t with
    | some a, some b, some e => match qer P e with
      | some n => C.bj n a b w K
      | none => False
    | some a, some b, none => match qg2 P t with
      | some (ln, e) => match qer P e with
        | some n => C.bt ln n a b w K
        | none => False
      | none => False
    | _, _, _ => False
  | .extract x i => match ρ x with | some a => C.a0 i a w K | none => False
  | .makeFunc fn first captured => match qck (first.toList.map ρ), qck (captured.toList.map ρ) with
    | some l, some m => K (.func fn l.toArray m.toArray) w
    | _, _ => False
  | .build t parts => match qck (parts.toList.map fun p => ρ p.2) with
    | some vs => C.ay P (Instr.build t ((parts.toList.map (·.1)).zip vs).toArray) w K
    | none => False
  | .buildSlice t n parts => match qck (parts.toList.map fun p => ρ p.2) with
    | some vs => C.ay P (Instr.buildSlice t n ((parts.toList.map (·.1)).zip vs).toArray) w K
    | none => False
  | .makeSlice t l c => match ρ l, ρ c with | some a, some b => C.ay P (Instr.makeSlice t a b) w K | _, _ => False
  | .makeMap t none => C.ay P (Instr.makeMap t none) w K
  | .makeInterface t x => match ρ x with | some a => C.ay P (Instr.makeInterface t a) w K | none => False
  | .slice t x lo hi none => match ρ x, lo.map ρ, hi.map ρ with
    | some _, some none, _ => False
    | some _, _, some none => False
    | some a, l, h => C.ay P (Instr.sliceAt t a (l.bind id) (h.bind id) none) w K
    | none, _, _ => False
  | .slice t x (some lo) (some hi) (some mx) => match ρ x, ρ lo, ρ hi, ρ mx with
    | some a, some l, some h, some m => C.ay P (Instr.sliceAt t a (some l) (some h) (some m)) w K
    | _, _, _, _ => False
  | .field t x f => match ρ x with | some a => C.ay P (Instr.field t a f) w K | none => False
  | .index t x i => match ρ x, ρ i with | some a, some b => C.ay P (Instr.index t a b) w K | _, _ => False
  | .lookup t x i ok => match ρ x, ρ i with | some a, some b => C.ay P (Instr.lookup t a b ok) w K | _, _ => False
  | .mapUpdate t m k x => match ρ m, ρ k, ρ x with | some a, some b, some c => C.cx P (Instr.mapUpdate t a b c) w (K undef) | _, _, _ => False
  | .range t x => match ρ x with | some a => C.ay P (Instr.range t a) w K | none => False
  | .next it s => match ρ it with | some a => C.ay P (Instr.next a s o.type) w K | none => False
  | .entry it => match ρ it with | some a => C.ay P (Instr.entry a) w K | none => False
  | .call c => match qck (c.args.toList.map ρ) with
    | none => False
    | some vs => match c.callee with
      | .value f => match ρ f with | some fv => qb2 P fv vs w K | none => False
      | .builtin b => qfn P b c.argTypes o.type vs w K
      | _ => False
  | _ => False
def qb7 (ρ : Operand → Value) (o : Oper) : Bool := match o.op with
  | .call { callee := .value f, .. } => match ρ f with
    | .func (.yield _) _ _ => true
    | _ => false
  | _ => false
def qgy (P : Program) (o : Oper) (a : Act) (w : World) (K : VK) : Prop :=
  (∃ v w', (execOp a.eval o).run P w = .ok (.value v) w' ∧ K v w') ∨
  (∃ w', (execOp a.eval o).run P w = .ok .skip w' ∧ K undef w') ∨
  (∃ f args, (execOp a.eval o).run P w = .ok (.enter f args) w ∧ C.q P f args w K) ∨
  (qb7 a.eval o = true ∧ ∃ l f tmps as bd, (execOp a.eval o).run P w = .ok (.round l f tmps as bd) w ∧ RoundIn Fence.wide 0 P l f tmps as bd w fun e w' => ∃ v, e = .returned v ∧ K v w')
def qn8 (o : Oper) : Prop := ∀ c, o.op ≠ .defer c
def Fc (r : Option Nat) : Fence := { Fence.wide with round := r }
theorem qgy.wp {P : Program} {o : Oper} {a : Act} {w : World} {K : VK} {Q : Exit → Act → World → Prop} {K' : Act → World → Prop} (hc : qb7 a.eval o = false)
    (h : qgy P o a w K) (hk : ∀ v w', K v w' → K' (a.put o.dst v) w') : o.wp P a w K' Q := by
  unfold Oper.wp
  rcases h with ⟨v, w', hr, h⟩ | ⟨w', hr, h⟩ | ⟨f, args, hr, h⟩ | ⟨hn, _⟩
  · rw [hr]; exact hk _ _ h
  · rw [hr]; exact hk _ _ h
  · rw [hr]
    refine h.mono ?_
    rintro e w' ⟨v, rfl, h⟩
    exact hk _ _ h
  · rw [hc] at hn; cases hn
theorem qgy.wpIn {P : Program} {r : Option Nat} {o : Oper} {a : Act} {w : World} {K : VK} {Q : Exit → Act → World → Prop} {K' : Act → World → Prop} (hd : qn8 o)
    (h : qgy P o a w K) (hk : ∀ v w', K v w' → K' (a.put o.dst v) w') : o.wpIn (Fc r) 0 P a w K' Q := by
  refine ⟨fun _ _ => trivial, ?_⟩
  have hs : o.semAt (Fc r).round a.eval = execOp a.eval o := by
    cases r with
    | none => rfl
    | some l => exact Oper.semAt_some l _ o hd
  rw [hs]
  rcases h with ⟨v, w', hr, h⟩ | ⟨w', hr, h⟩ | ⟨f, args, hr, h⟩ | ⟨_, l, f, tmps, as, bd, hr, h⟩
  · rw [hr]; exact hk _ _ h
  · rw [hr]; exact hk _ _ h
  · rw [hr]
    refine ⟨fun h => by simp [Fc, Fence.wide] at h, ?_⟩
    have h' : CallsIn Fence.wide 0 P f args w fun e w' => ∃ v, e = .returned v ∧ K v w' := callsIn_wide.2 h
    have h'' : CallsIn (Fc r) 0 P f args w fun e w' => ∃ v, e = .returned v ∧ K v w' := h'
    refine h''.mono ?_
    rintro e w' ⟨v, rfl, h⟩
    exact hk _ _ h
  · rw [hr]
    refine ⟨fun h => by simp [Fc, Fence.wide] at h, ?_⟩
    have h'' : RoundIn (Fc r) 0 P l f tmps as bd w fun e w' => ∃ v, e = .returned v ∧ K v w' := h
    refine h''.mono ?_
    rintro e w' ⟨v, rfl, h⟩
    exact hk _ _ h
theorem qc2 {ρ : Operand → Option Value} {f : Operand → Value} (hρ : ∀ x v, ρ x = some v → f x = v) : ∀ (l : List Operand) (vs : List Value), qck (l.map ρ) = some vs → l.map f = vs
  | [], vs, h => by simp [qck] at h; simp [h]
  | x :: l, vs, h => by
    simp only [List.map_cons] at h
    cases hx : ρ x with
    | none => simp [hx, qck] at h
    | some v =>
      simp only [hx, qck, Option.map_eq_some_iff] at h
      obtain ⟨r, hr, rfl⟩ := h
      simp [hρ x v hx, qc2 hρ l r hr]
theorem qec (P : Program) (w : World) (a : Addr) : ∀ (n i : Nat) (acc : Array Value) (cs : List Value), qdf w a i n = some cs →
    (loadCellsFrom a i n acc).run P w = .ok (acc ++ cs.toArray) w
  | 0, i, acc, cs, h => by simp [qdf] at h; subst h; simp [loadCellsFrom]
  | n + 1, i, acc, cs, h => by
    simp only [qdf] at h
    split at h
    · rename_i v r h1 h2
      simp only [Option.some.injEq] at h
      subst h
      simp only [loadCellsFrom, Sem.run_bind, run_load, h1, Result.andThen_ok]
      rw [qec P w a n (i + 1) _ r h2]
      simp
    · cases h
theorem qif (P : Program) : ∀ (l : List Value) (i : Nat) (a : Addr) (w : World) (K : World → Prop), qh4 l i a w K →
    ∃ w', (storeCells a l i).run P w = .ok () w' ∧ K w'
  | [], i, a, w, K, h => ⟨w, by simp [storeCells], h⟩
  | v :: l, i, a, w, K, h => by
    obtain ⟨h1, ⟨u, h2⟩, h3, h4⟩ := h
    obtain ⟨w', hr, hk⟩ := qif P l (i + 1) a _ K h4
    refine ⟨w', ?_, hk⟩
    simp only [storeCells, Sem.run_bind, run_store P w (a.add i) v _ h1, h2, h3]
    simpa using hr
section
variable {P : Program} {w : World} {t : TypeId}
theorem qbi {n : Nat} (h : qer P t = some n) : (sizeOf t).run P w = .ok n w := by
  simp only [qer, Option.map_eq_some_iff] at h
  obtain ⟨i, hi, rfl⟩ := h
  simp [sizeOf, typeInfo, hi]
theorem qjf {z : Value} (h : qjo P t = some z) : (zeroValue t).run P w = .ok z w := by
  simp only [qjo, Option.bind_eq_some_iff] at h
  obtain ⟨i, hi, hz⟩ := h
  simp [zeroValue, typeInfo, hi, hz]
theorem qds {b : Bool} (h : qi1 P t = some b) : (isAgg t).run P w = .ok b w := by
  simp only [qi1, Option.map_eq_some_iff] at h
  obtain ⟨d, hd, rfl⟩ := h
  cases d <;> simp [isAgg, underlying, hd]
theorem qaq (op : BinOp) (ox oy : Operand) (k k' : IntKind) (a b : Int) : (eqGuard op t ox oy (.int k a) (.int k' b)).run P w = .ok () w := by
  unfold eqGuard
  cases op <;> simp
theorem qgw {op : BinOp} {k : IntKind} {a b : Int} {v : Value} (h : qdd op k a b = some v) : (binOp op t (.int k a) (.int k b)).run P w = .ok v w := by
  cases op <;> simp only [qdd, Option.some.injEq] at h <;> first | cases h | skip
  all_goals (first | subst h | skip)
  all_goals simp [binOp, Op.intArith, Op.intCmp]
end
theorem qeb {ρ : Operand → Option Value} {f : Operand → Value} (hρ : ∀ x v, ρ x = some v → f x = v) : ∀ (l : List (Nat × Operand)) (vs : List Value), qck (l.map fun p => ρ p.2) = some vs →
    l.map (fun p => (p.1, f p.2)) = (l.map (·.1)).zip vs
  | [], vs, h => by simp [qck] at h; subst h; rfl
  | x :: l, vs, h => by
    simp only [List.map_cons] at h
    cases hx : ρ x.2 with
    | none => simp [hx, qck] at h
    | some v =>
      simp only [hx, qck, Option.map_eq_some_iff] at h
      obtain ⟨r, hr, rfl⟩ := h
      simp [hρ _ _ hx, qeb hρ l r hr]
theorem qkz {P : Program} {b : Builtin} {at_ : Array TypeId} {ty : TypeId} {consts : Array Bool} {vs : List Value} {w : World} {K : VK} (h : qfn P b at_ ty vs w K) :
    ∃ v w', (builtin b at_ ty consts vs.toArray).run P w = .ok (.value v) w' ∧ K v w' := by
  cases b <;> simp only [qfn] at h <;> try exact h.elim
  case len =>
    split at h
    · rename_i e x he
      obtain ⟨g, n, c, rfl, hk⟩ := h
      refine ⟨_, w, ?_, hk⟩
      simp only [Option.bind_eq_some_iff] at he
      obtain ⟨t, h0, he⟩ := he
      have hs : P.underlying t = some (.slice e) := by
        unfold qc8 at he
        split at he
        · cases he; assumption
        · cases he
      simp [builtin, Builtin.len_, h0, underlying, hs, goInt]
    · obtain ⟨v, w', hr, hk⟩ := h
      exact ⟨v, w', by simp only [builtin, Sem.run_bind, hr]; rfl, hk⟩
  all_goals
    obtain ⟨v, w', hr, hk⟩ := h
    exact ⟨v, w', by simp only [builtin, Sem.run_bind, hr]; rfl, hk⟩
theorem qgs {P : Program} {o : Oper} {ρ : Operand → Option Value} {a : Act} {w : World} {K : VK} (hρ : ∀ x v, ρ x = some v → a.eval x = v)
    (h : qit P o ρ w K) : qgy P o a w K := by
  obtain ⟨dst, op, type, pos, after, guard⟩ := o
  cases op <;> simp only [qit] at h <;> try exact h.elim
  case move x =>
    split at h
    · rename_i v hv; exact .inl ⟨v, w, by simp [execOp, hρ x v hv], h⟩
    · exact h.elim
  case assign x =>
    split at h
    · rename_i v hv; exact .inl ⟨v, w, by simp [execOp, hρ x v hv], h⟩
    · exact h.elim
  case pick c x y =>
    obtain ⟨t, hc, v, hv, hk⟩ := h
    refine .inl ⟨v, w, ?_, hk⟩
    have hc' := hρ c _ hc
    cases t with
    | true => have := hρ x _ hv; simp [execOp, hc', asBool, this]
    | false => have := hρ y _ hv; simp [execOp, hc', asBool, this]
  case alloc t =>
    split at h
    · rename_i z hz
      exact .inl ⟨_, _, by simp [execOp, Instr.alloc, qjf hz, newVar, newRow], h⟩
    · exact h.elim
  case box t x =>
    split at h
    · rename_i v hv
      exact .inl ⟨_, _, by simp [execOp, Instr.box, hρ x v hv, newVar, newRow], h⟩
    · exact h.elim
  case build t parts =>
    split at h
    · rename_i vs hvs
      obtain ⟨v, w', hr, hk⟩ := h
      refine .inl ⟨v, w', ?_, hk⟩
      have := qeb hρ _ _ hvs
      have hp : (parts.map fun (i, x) => (i, a.eval x)) = ((parts.toList.map (·.1)).zip vs).toArray := by
        rw [← this]; apply Array.ext' ; simp
      simp only [execOp, hp, Sem.run_bind, hr]; rfl
    · exact h.elim
  case buildSlice t n parts =>
    split at h
    · rename_i vs hvs
      obtain ⟨v, w', hr, hk⟩ := h
      refine .inl ⟨v, w', ?_, hk⟩
      have := qeb hρ _ _ hvs
      have hp : (parts.map fun (i, x) => (i, a.eval x)) = ((parts.toList.map (·.1)).zip vs).toArray := by
        rw [← this]; apply Array.ext' ; simp
      simp only [execOp, hp, Sem.run_bind, hr]; rfl
    · exact h.elim
  case load t x =>
    split at h
    · rename_i p n hp hag hn
      obtain ⟨ad, cs, rfl, hc, hk⟩ := h
      refine .inl ⟨_, w, ?_, hk⟩
      simp [execOp, Instr.loadAt, Instr.sureAddr, hρ x _ hp, loadVar, qds hag, qbi hn, loadCells, qec P w ad n 0 #[] cs hc]
    · rename_i p q hp hag
      obtain ⟨ad, v, rfl, hc, hk⟩ := h
      refine .inl ⟨v, w, ?_, hk⟩
      simp [execOp, Instr.loadAt, Instr.sureAddr, hρ x _ hp, loadVar, qds hag, hc]
    · exact h.elim
  case store t x y =>
    split at h
    · rename_i p v n hp hv hn
      obtain ⟨ad, rfl, hs, hk⟩ := h
      obtain ⟨w', hr, hk'⟩ := qif P _ _ _ _ _ hk
      refine .inr (.inl ⟨w', ?_, hk'⟩)
      simp [execOp, Instr.storeAt, Instr.sureAddr, hρ x _ hp, hρ y _ hv, storeVar, qbi hn, hs, hr]
    · exact h.elim
  case nilCheck x =>
    split at h
    · rename_i p hp
      obtain ⟨hn, hk⟩ := h
      refine .inl ⟨p, w, ?_, hk⟩
      have hx := hρ x _ hp
      cases p <;> simp_all [execOp, qjc]
      case pointer ad => cases ad <;> simp_all
      case func fn _ _ => cases fn <;> simp_all
    · exact h.elim
  case binOp op t x y yt =>
    split at h
    · rename_i u v hu hv
      have e1 := hρ x _ hu
      have e2 := hρ y _ hv
      cases hb : (qo9 P t && qiq op) with
      | true =>
        rw [hb] at h
        obtain ⟨k, m, n, r, rfl, rfl, hr, hk⟩ := h
        refine .inl ⟨r, w, ?_, hk⟩
        simp [execOp, e1, e2, qaq, qgw hr]
      | false =>
        rw [hb] at h
        obtain ⟨r, hr, hk⟩ := h
        refine .inl ⟨r, w, ?_, hk⟩
        simp only [execOp, e1, e2]
        simp only [Sem.run_bind] at hr ⊢
        rw [hr]; rfl
    · exact h.elim
  case unOp op t x =>
    cases op with
    | not =>
      simp only at h
      split at h
      · rename_i u hu
        obtain ⟨b, rfl, hk⟩ := h
        exact .inl ⟨_, w, by simp [execOp, hρ x _ hu, Op.unary], hk⟩
      · exact h.elim
    | _ =>
      simp only at h
      split at h
      · rename_i u hu
        obtain ⟨v, w', hr, hk⟩ := h
        exact .inl ⟨v, w', by simp only [execOp, hρ x _ hu, Sem.run_bind, hr]; rfl, hk⟩
      · exact h.elim
  case convert s t x =>
    split at h
    · rename_i u hu
      split at h
      · rename_i k hs ht
        obtain ⟨k', n, rfl, hk⟩ := h
        refine .inl ⟨_, w, ?_, hk⟩
        simp [execOp, hρ x _ hu, convert, underlying, hs, ht, Conv.intToInt]
      · obtain ⟨v, w', hr, hk⟩ := h
        exact .inl ⟨v, w', by simp only [execOp, hρ x _ hu, Sem.run_bind, hr]; rfl, hk⟩
    · exact h.elim
  case makeInterface t x =>
    split at h
    · rename_i u hu
      obtain ⟨v, w', hr, hk⟩ := h
      exact .inl ⟨v, w', by simp only [execOp, hρ x _ hu, Sem.run_bind, hr]; rfl, hk⟩
    · exact h.elim
  case makeFunc fn first captured =>
    split at h
    · rename_i l m hl hm
      refine .inl ⟨_, w, ?_, h⟩
      have h1 := qc2 hρ _ _ hl
      have h2 := qc2 hρ _ _ hm
      have h1' : first.map a.eval = l.toArray := by rw [← h1]; apply Array.ext'; simp
      have h2' : captured.map a.eval = m.toArray := by rw [← h2]; apply Array.ext'; simp
      simp [execOp, Instr.makeFunc, h1', h2']
    · exact h.elim
  case makeMap t r =>
    cases r with
    | none =>
      obtain ⟨v, w', hr, hk⟩ := h
      exact .inl ⟨v, w', by simp only [execOp, Option.map_none, Sem.run_bind, hr]; rfl, hk⟩
    | some _ => exact h.elim
  case makeSlice t l c =>
    split at h
    · rename_i u u' hu hu'
      obtain ⟨v, w', hr, hk⟩ := h
      exact .inl ⟨v, w', by simp only [execOp, hρ l _ hu, hρ c _ hu', Sem.run_bind, hr]; rfl, hk⟩
    · exact h.elim
  case slice t x lo hi mx =>
    cases mx with
    | some mx =>
      cases lo with
      | none => exact h.elim
      | some lo =>
        cases hi with
        | none => exact h.elim
        | some hi =>
          simp only at h
          split at h
          · rename_i u l r m hu h1 h2 h3
            obtain ⟨v, w', hr, hk⟩ := h
            exact .inl ⟨v, w', by simp only [execOp, hρ x _ hu, Option.map_some, hρ lo _ h1, hρ hi _ h2, hρ mx _ h3, Sem.run_bind, hr]; rfl, hk⟩
          · exact h.elim
    | none =>
      simp only at h
      have hlo : ∀ l, lo.map ρ = l → l ≠ some none → lo.map a.eval = l.bind id := by
        intro l hl hne
        cases lo with
        | none => simp at hl; subst hl; rfl
        | some q =>
          simp at hl; subst hl
          cases hq : ρ q with
          | none => simp [hq] at hne
          | some z => simp [hρ q z hq]
      have hhi : ∀ l, hi.map ρ = l → l ≠ some none → hi.map a.eval = l.bind id := by
        intro l hl hne
        cases hi with
        | none => simp at hl; subst hl; rfl
        | some q =>
          simp at hl; subst hl
          cases hq : ρ q with
          | none => simp [hq] at hne
          | some z => simp [hρ q z hq]
      split at h
      · exact h.elim
      · exact h.elim
      · rename_i u l r hu h1 h2
        obtain ⟨v, w', hr, hk⟩ := h
        refine .inl ⟨v, w', ?_, hk⟩
        have e1 := hlo _ rfl (by assumption)
        have e2 := hhi _ rfl (by assumption)
        simp only [execOp, hρ x _ hu, e1, e2, Option.map_none, Sem.run_bind, hr]; rfl
      · exact h.elim
  case fieldAddr s x f =>
    split at h
    · rename_i p fl hp hf
      split at h
      · rename_i n hn
        obtain ⟨ad, rfl, hk⟩ := h
        refine .inl ⟨_, w, ?_, hk⟩
        have hs : ∃ fs, P.underlying s = some (.struct fs) ∧ fs[f]? = some fl := by
          unfold qj0 at hf
          split at hf
          · exact ⟨_, ‹_›, hf⟩
          · cases hf
        obtain ⟨fs, hs, hfs⟩ := hs
        simp [execOp, Instr.fieldAt, underlying, hs, hfs, Instr.sureAddr, hρ x _ hp, fieldPlace, qbi hn]
      · exact h.elim
    · exact h.elim
  case field t x f =>
    split at h
    · rename_i u hu
      obtain ⟨v, w', hr, hk⟩ := h
      exact .inl ⟨v, w', by simp only [execOp, hρ x _ hu, Sem.run_bind, hr]; rfl, hk⟩
    · exact h.elim
  case indexAddr t x i =>
    split at h
    · rename_i u u' e hu hu' he
      split at h
      · rename_i n hn
        obtain ⟨g, len, cap, k, j, rfl, rfl, h0, h1, hk⟩ := h
        refine .inl ⟨_, w, ?_, hk⟩
        have hs : P.underlying t = some (.slice e) := by
          unfold qc8 at he
          split at he
          · cases he; assumption
          · cases he
        simp [execOp, Instr.indexAt, asIntOf, underlying, hs, hρ x _ hu, hρ i _ hu', h0, h1, qbi hn]
      · exact h.elim
    · rename_i u u' hu hu' he
      split at h
      · rename_i ln e ha
        split at h
        · rename_i n hn
          obtain ⟨g, k, j, rfl, rfl, h0, h1, hk⟩ := h
          refine .inl ⟨_, w, ?_, hk⟩
          have hs : P.underlying t = some (.array ln e) := by
            unfold qg2 at ha
            split at ha
            · cases ha; assumption
            · cases ha
          simp [execOp, Instr.indexAt, asIntOf, Instr.sureAddr, underlying, hs, hρ x _ hu, hρ i _ hu', h0, h1, qbi hn]
        · exact h.elim
      · exact h.elim
    · exact h.elim
  case index t x i =>
    split at h
    · rename_i u u' hu hu'
      obtain ⟨v, w', hr, hk⟩ := h
      exact .inl ⟨v, w', by simp only [execOp, hρ x _ hu, hρ i _ hu', Sem.run_bind, hr]; rfl, hk⟩
    · exact h.elim
  case lookup t x i ok =>
    split at h
    · rename_i u u' hu hu'
      obtain ⟨v, w', hr, hk⟩ := h
      exact .inl ⟨v, w', by simp only [execOp, hρ x _ hu, hρ i _ hu', Sem.run_bind, hr]; rfl, hk⟩
    · exact h.elim
  case mapUpdate t m k x =>
    split at h
    · rename_i u u' u'' hu hu' hu''
      obtain ⟨w', hr, hk⟩ := h
      exact .inr (.inl ⟨w', by simp only [execOp, hρ m _ hu, hρ k _ hu', hρ x _ hu'', Sem.run_bind, hr]; rfl, hk⟩)
    · exact h.elim
  case range t x =>
    split at h
    · rename_i u hu
      obtain ⟨v, w', hr, hk⟩ := h
      exact .inl ⟨v, w', by simp only [execOp, hρ x _ hu, Sem.run_bind, hr]; rfl, hk⟩
    · exact h.elim
  case next it s =>
    split at h
    · rename_i u hu
      obtain ⟨v, w', hr, hk⟩ := h
      exact .inl ⟨v, w', by simp only [execOp, hρ it _ hu, Sem.run_bind, hr]; rfl, hk⟩
    · exact h.elim
  case entry it =>
    split at h
    · rename_i u hu
      obtain ⟨v, w', hr, hk⟩ := h
      exact .inl ⟨v, w', by simp only [execOp, hρ it _ hu, Sem.run_bind, hr]; rfl, hk⟩
    · exact h.elim
  case extract x i =>
    split at h
    · rename_i u hu
      obtain ⟨vs, v, rfl, hv, hk⟩ := h
      exact .inl ⟨v, w, by simp [execOp, Instr.extract, hρ x _ hu, hv], hk⟩
    · exact h.elim
  case call c =>
    obtain ⟨callee, args, argTypes⟩ := c
    simp only at h
    cases hvs : qck (args.toList.map ρ) with
    | none => rw [hvs] at h; exact h.elim
    | some vs =>
      rw [hvs] at h
      have hargs := qc2 hρ _ _ hvs
      have hargs' : args.map a.eval = vs.toArray := by rw [← hargs]; apply Array.ext'; simp
      cases callee with
      | value f =>
        simp only at h
        split at h
        · rename_i fv hf
          unfold qb2 at h
          split at h
          · rename_i f' first captured
            cases hb : qbx P f' with
            | false => rw [hb] at h; exact h.elim
            | true =>
              rw [hb] at h
              refine .inr (.inr (.inl ⟨f', _, ?_, h⟩))
              unfold qbx at hb
              split at hb
              · rename_i fn hfn
                simp only [Bool.and_eq_true, Bool.not_eq_true'] at hb
                obtain ⟨hb1, hb2⟩ := hb
                have hb3 : fn.body.isNone = false := by cases hq : fn.body <;> simp_all
                have ha : (first ++ vs.toArray) ++ captured = (first.toList ++ (vs ++ captured.toList)).toArray := by apply Array.ext'; simp
                simp only [execOp, resolve, Deferred.ofValue, hρ f _ hf, hargs', invoke, callFunc, Sem.run_bind, Sem.run_pure, Result.andThen_ok, run_program, hfn, hb2, hb3, Bool.false_eq_true, if_false, ha]
              · cases hb
          · rename_i l first captured
            cases hb : Nat.beq first.size 0 with
            | false => rw [hb] at h; exact h.elim
            | true =>
            rw [hb] at h
            have hfe : first = #[] := Array.eq_empty_of_size_eq_zero (Nat.eq_of_beq_eq_true hb)
            subst hfe
            obtain ⟨fn, tmps, as, bd, hy, hr⟩ := h
            have hcalm : qb7 a.eval { dst := dst, op := .call { callee := .value f, args := args, argTypes := argTypes }, type := type, pos := pos, after := after, guard := guard } = true := by
              simp only [qb7, hρ f _ hf]
            refine .inr (.inr (.inr ⟨hcalm, l, fn, tmps, as, bd, ?_, hr⟩))
            simp only [execOp, resolve, Deferred.ofValue, hρ f _ hf, hargs', invoke, Sem.run_bind, Sem.run_pure, Result.andThen_ok, Array.empty_append]
            exact hy
          · exact h.elim
        · exact h.elim
      | builtin b =>
        obtain ⟨v, w', hr, hk⟩ := qkz (consts := args.map fun | .const _ => true | _ => false) h
        refine .inl ⟨v, w', ?_, hk⟩
        simp only [execOp, resolve, hargs', invoke, Sem.run_bind, Sem.run_pure, Result.andThen_ok]
        exact hr
      | invoke r m => exact h.elim
theorem qhl {P : Program} {o : Oper} {ρ : Operand → Option Value} {w : World} {K : VK} (h : qit P o ρ w K) : qn8 o := by
  obtain ⟨dst, op, type, pos, after, guard⟩ := o
  intro c hc
  simp only at hc
  subst hc
  exact h
abbrev EK := Env → World → Prop
def putE (dst : Option Tmp) (v : Value) (env : Env) : Env := match dst with | some d => (d, v) :: env | none => env
def C.cm (want : Bool) (v : Value) (A B : Prop) : Prop := (v = .bool want → A) ∧ (v ≠ .bool want → B)
def C.i (want : Bool) (v : Value) (F : VK → Prop) (w : World) (K : VK) : Prop := C.cm want v (F K) (K undef w)
def qh3 (ops : Array Oper) (o : Oper) (env : Env) (F : VK → Prop) (w : World) (K : VK) : Prop :=
  match o.guard with
  | none => F K
  | some (j, want) => match (ops[j]?).bind (·.dst) with
    | some t => match lkT env t with
      | some v => C.i want v F w K
      | none => False
    | none => False
def qf8 (P : Program) (ops : Array Oper) (o : Oper) (env : Env) (w : World) (K : EK) : Prop :=
  qh3 ops o env (fun K => qit P o (ev env) w K) w (fun v w' => K (putE o.dst v env) w')
def qmu (P : Program) (ops : Array Oper) : List Oper → Env → World → EK → Prop
  | [], env, w, K => K env w
  | o :: l, env, w, K => qf8 P ops o env w fun env' w' => qmu P ops l env' w' K
def qhr (n : Nat) (ops : List Oper) : Bool := ops.all fun o => match o.dst with | some d => Nat.blt d n && !(Nat.beq d mkT) | none => true
def qcd (n : Nat) (Q : Exit → Env → World → Prop) : Exit → Act → World → Prop
  | .panic _, _, _ => False
  | .outgrown, _, _ => False
  | e, a, w => ∃ env, Ext n env a ∧ Q e env w
def dOk (n : Nat) (o : Oper) : Prop := ∀ d, o.dst = some d → d < n ∧ d ≠ mkT
theorem Ext.putE {n : Nat} {env : Env} {a : Act} (h : Ext n env a) {o : Oper} (hd : dOk n o) (v : Value) : Ext n (putE o.dst v env) (a.put o.dst v) := by
  cases hq : o.dst with
  | none => exact h
  | some d => exact h.put v (hd d hq).1 (hd d hq).2
theorem Ext.yielded {n : Nat} {env : Env} {a : Act} (h : Ext n env a) {ops : Array Oper} {j t : Nat} {v : Value} (hj : (ops[j]?).bind (·.dst) = some t) (hv : lkT env t = some v) (want : Bool) :
    (Go.yielded ops a.tmps j == some want) = true ↔ v = .bool want := by
  unfold Go.yielded
  rw [hj]
  simp only [Option.bind_some, h.has t v hv]
  cases v <;> simp
theorem qfo {n : Nat} {env : Env} {a : Act} (h : Ext n env a) {ops : Array Oper} {o : Oper} {F : VK → Prop} {w : World} {K : VK} (hv : qh3 ops o env F w K) :
    (Region.wanted o (yielded ops a.tmps) = true ∧ F K) ∨ (Region.wanted o (yielded ops a.tmps) = false ∧ K undef w) := by
  unfold qh3 at hv
  cases hg : o.guard with
  | none => rw [hg] at hv; exact .inl ⟨by simp [Region.wanted, hg], hv⟩
  | some g =>
    obtain ⟨j, want⟩ := g
    rw [hg] at hv
    simp only at hv
    split at hv
    · rename_i t ht
      split at hv
      · rename_i v hl
        have hy := h.yielded ht hl want
        by_cases hb : v = .bool want
        · exact .inl ⟨by simp [Region.wanted, hg]; simpa using hy.2 hb, hv.1 hb⟩
        · refine .inr ⟨?_, hv.2 hb⟩
          have : ¬ (Go.yielded ops a.tmps j == some want) = true := fun e => hb (hy.1 e)
          simpa [Region.wanted, hg] using this
      · exact hv.elim
    · exact hv.elim
theorem qfc {P : Program} {r : Option Nat} {n : Nat} {ops : Array Oper} {Q : Exit → Env → World → Prop} : ∀ (l : List Oper) (env : Env) (a : Act) (w : World), (∀ o ∈ l, dOk n o) → Ext n env a →
    qmu P ops l env w (fun env' w' => Q .normal env' w') → wpListIn (Fc r) 0 P ops (qcd n Q) l a w
  | [], env, a, w, _, he, h => ⟨env, he, h⟩
  | o :: l, env, a, w, hd, he, h => by
    unfold wpListIn
    have hd0 := hd o (by simp)
    rcases qfo he h with ⟨hw, h1⟩ | ⟨hw, h1⟩
    · rw [if_pos hw]
      refine qgy.wpIn (qhl h1) (qgs (fun x v hv => he.eval hv) h1) ?_
      intro v w' hk
      exact qfc l _ _ _ (fun o' ho' => hd o' (by simp [ho'])) (he.putE hd0 v) hk
    · rw [if_neg (by simp [hw])]
      exact ⟨fun _ _ => trivial, qfc l _ _ _ (fun o' ho' => hd o' (by simp [ho'])) (he.putE hd0 undef) h1⟩
theorem qgd {n : Nat} {l : List Oper} (h : qhr n l = true) : ∀ o ∈ l, dOk n o := by
  intro o ho d hd
  unfold qhr at h
  rw [List.all_eq_true] at h
  have := h o ho
  rw [hd] at this
  simp only [Bool.and_eq_true, Bool.not_eq_true'] at this
  exact ⟨by simpa [Nat.blt_eq] using this.1, Nat.ne_of_beq_eq_false this.2⟩
inductive Plan where
  | fin
  | take (i : Nat) (p : Plan)
  | go (i : Nat) (p rest : Plan)
  deriving Inhabited
def qa3 (ops : Array Oper) : Plan → Option (List Nat) → Array Bool → Bool
  | .fin, none, listed => (Region.ready .any ops listed).isEmpty
  | .fin, some rs, _ => rs.isEmpty
  | .take i p, none, listed => (Region.ready .any ops listed).contains i && Region.free .any ops listed i && qa3 ops p none (listed.setIfInBounds i true)
  | .take _ _, some _, _ => false
  | .go i p q, none, listed => match Region.ready .any ops listed with
    | j :: rs => Nat.beq j i && qa3 ops p none (listed.setIfInBounds i true) && qa3 ops q (some rs) listed
    | [] => false
  | .go i p q, some (j :: rs), listed => Nat.beq j i && qa3 ops p none (listed.setIfInBounds i true) && qa3 ops q (some rs) listed
  | .go _ _ _, some [], _ => false
def qfp (P : Program) (o : Oper) : Bool :=
  match o.op with
  | .move _ | .assign _ | .pick .. | .nilCheck _ | .fieldAddr .. | .indexAddr .. | .extract .. | .makeFunc .. => true
  | .binOp op t _ _ _ => qo9 P t && qiq op
  | .unOp .not _ _ => true
  | .convert s t _ => match P.underlying s, P.underlying t with | some (.int _), some (.int _) => true | _, _ => false
  | .call { callee := .builtin .len, args, argTypes } => ((argTypes[0]?).bind (qc8 P)).isSome && Nat.beq args.size 1
  | _ => false
def C.ap (S : World → Prop) (p : Value) (w : World) (K : VK) : Prop := ∃ a v, p = .pointer (some a) ∧ (∀ w', S w' → w'.cell? a = some v) ∧ K v w
def C.bm (S : World → Prop) (n : Nat) (p : Value) (w : World) (K : VK) : Prop := ∃ a cs, p = .pointer (some a) ∧ (∀ w', S w' → qdf w' a 0 n = some cs) ∧ K (.agg cs.toArray) w
def qmv (P : Program) (S : World → Prop) (o : Oper) (ρ : Operand → Option Value) (w : World) (K : VK) : Prop :=
  cond (qfp P o) (qit P o ρ w K) (match o.op with
    | .load t x => match ρ x, qi1 P t, qer P t with
      | some p, some true, some n => C.bm S n p w K
      | some p, some false, _ => C.ap S p w K
      | _, _, _ => False
    | .binOp op t x y _ => match ρ x, ρ y with
      | some a, some b => ∃ v, (∀ w', S w' → (do eqGuard op t x y a b; binOp op t a b : Sem Value).run P w' = .ok v w') ∧ K v w
      | _, _ => False
    | .build t parts => match qck (parts.toList.map fun p => ρ p.2) with
      | some vs => ∃ v, (∀ w', S w' → (Instr.build t ((parts.toList.map (·.1)).zip vs).toArray).run P w' = .ok v w') ∧ K v w
      | none => False
    | .slice t x lo hi none => match ρ x, lo.map ρ, hi.map ρ with
      | some _, some none, _ => False
      | some _, _, some none => False
      | some a, l, h => ∃ v, (∀ w', S w' → (Instr.sliceAt t a (l.bind id) (h.bind id) none).run P w' = .ok v w') ∧ K v w
      | none, _, _ => False
    | .call { callee := .builtin b, args, argTypes } => match qck (args.toList.map ρ) with
      | some vs => ∃ v, (∀ w', S w' → (builtin b argTypes o.type (args.map fun | .const _ => true | _ => false) vs.toArray).run P w' = .ok (.value v) w') ∧ K v w
      | none => False
    | _ => False)
def C.ct (v : Value) (X : Prop) : Prop := (∀ l a b, v ≠ .func (.yield l) a b) ∧ X
def qen (o : Oper) (env : Env) (X : Prop) : Prop := match o.op with
  | .call { callee := .value (.func _), .. } => X
  | .call { callee := .value f, .. } => match ev env f with
    | some v => C.ct v X
    | none => False
  | _ => X
def qa4 (P : Program) (ops : Array Oper) (S : World → Prop) (held : Bool) (K : EK) : Plan → Bool → Env → World → Prop
  | .fin, false, env, w => K env w
  | .fin, true, _, _ => True
  | .take i p, _, env, w => match ops[i]? with
    | none => False
    | some o => qh3 ops o env (fun K' => qmv P S o (ev env) w K') w (fun v w' => qa4 P ops S held K p false (putE o.dst v env) w')
  | .go i p q, _, env, w => match ops[i]? with
    | none => False
    | some o => (cond held (qen o env (qf8 P ops o env w fun env' w' => S w' ∧ qa4 P ops S held K p false env' w')) (qf8 P ops o env w fun env' w' => S w' ∧ qa4 P ops S held K p false env' w')) ∧ qa4 P ops S held K q true env w
section
variable {P : Program} {S : World → Prop} {ρ : Operand → Option Value} {a : Act} {w : World} {K : VK}
theorem qf7 {t e : TypeId} (he : qc8 P t = some e) : P.underlying t = some (.slice e) := by
  unfold qc8 at he
  split at he
  · cases he; assumption
  · cases he
theorem qjm {o : Oper} (hρ : ∀ x v, ρ x = some v → a.eval x = v) (hwl : qfp P o = true) (h : qit P o ρ w K) :
    ∃ v, (∀ w', (execOp a.eval o).run P w' = .ok (.value v) w') ∧ K v w := by
  obtain ⟨dst, op, type, pos, after, guard⟩ := o
  cases op <;> simp only [qfp, Bool.false_eq_true] at hwl <;> simp only [qit] at h
  case move x =>
    split at h
    · rename_i v hv; exact ⟨v, fun w' => by simp [execOp, hρ x v hv], h⟩
    · exact h.elim
  case assign x =>
    split at h
    · rename_i v hv; exact ⟨v, fun w' => by simp [execOp, hρ x v hv], h⟩
    · exact h.elim
  case pick c x y =>
    obtain ⟨t, hc, v, hv, hk⟩ := h
    refine ⟨v, fun w' => ?_, hk⟩
    have hc' := hρ c _ hc
    cases t with
    | true => have := hρ x _ hv; simp [execOp, hc', asBool, this]
    | false => have := hρ y _ hv; simp [execOp, hc', asBool, this]
  case nilCheck x =>
    split at h
    · rename_i p hp
      obtain ⟨hn, hk⟩ := h
      refine ⟨p, fun w' => ?_, hk⟩
      have hx := hρ x _ hp
      cases p <;> simp_all [execOp, qjc]
      case pointer ad => cases ad <;> simp_all
      case func fn _ _ => cases fn <;> simp_all
    · exact h.elim
  case binOp op t x y yt =>
    split at h
    · rename_i u v hu hv
      have e1 := hρ x _ hu
      have e2 := hρ y _ hv
      rw [hwl] at h
      obtain ⟨k, m, n, r, rfl, rfl, hr, hk⟩ := h
      refine ⟨r, fun w' => ?_, hk⟩
      simp [execOp, e1, e2, qaq, qgw hr]
    · exact h.elim
  case unOp op t x =>
    cases op with
    | not =>
      simp only at h
      split at h
      · rename_i u hu
        obtain ⟨b, rfl, hk⟩ := h
        exact ⟨_, fun w' => by simp [execOp, hρ x _ hu, Op.unary], hk⟩
      · exact h.elim
    | _ => simp at hwl
  case convert s t x =>
    split at h
    · rename_i u hu
      split at h
      · rename_i k hs ht
        obtain ⟨k', n, rfl, hk⟩ := h
        refine ⟨_, fun w' => ?_, hk⟩
        simp [execOp, hρ x _ hu, convert, underlying, hs, ht, Conv.intToInt]
      · rename_i hno
        split at hwl
        · rename_i k1 k2 e1 e2; exact (hno _ _ e1 e2).elim
        · cases hwl
    · exact h.elim
  case makeFunc fn first captured =>
    split at h
    · rename_i l m hl hm
      refine ⟨_, fun w' => ?_, h⟩
      have h1 := qc2 hρ _ _ hl
      have h2 := qc2 hρ _ _ hm
      have h1' : first.map a.eval = l.toArray := by rw [← h1]; apply Array.ext'; simp
      have h2' : captured.map a.eval = m.toArray := by rw [← h2]; apply Array.ext'; simp
      simp [execOp, Instr.makeFunc, h1', h2']
    · exact h.elim
  case fieldAddr s x f =>
    split at h
    · rename_i p fl hp hf
      split at h
      · rename_i n hn
        obtain ⟨ad, rfl, hk⟩ := h
        refine ⟨_, fun w' => ?_, hk⟩
        have hs : ∃ fs, P.underlying s = some (.struct fs) ∧ fs[f]? = some fl := by
          unfold qj0 at hf
          split at hf
          · exact ⟨_, ‹_›, hf⟩
          · cases hf
        obtain ⟨fs, hs, hfs⟩ := hs
        simp [execOp, Instr.fieldAt, underlying, hs, hfs, Instr.sureAddr, hρ x _ hp, fieldPlace, qbi hn]
      · exact h.elim
    · exact h.elim
  case indexAddr t x i =>
    split at h
    · rename_i u u' e hu hu' he
      split at h
      · rename_i n hn
        obtain ⟨g, len, cap, k, j, rfl, rfl, h0, h1, hk⟩ := h
        refine ⟨_, fun w' => ?_, hk⟩
        have hs := qf7 he
        simp [execOp, Instr.indexAt, asIntOf, underlying, hs, hρ x _ hu, hρ i _ hu', h0, h1, qbi hn]
      · exact h.elim
    · rename_i u u' hu hu' he
      split at h
      · rename_i ln e ha
        split at h
        · rename_i n hn
          obtain ⟨g, k, j, rfl, rfl, h0, h1, hk⟩ := h
          refine ⟨_, fun w' => ?_, hk⟩
          have hs : P.underlying t = some (.array ln e) := by
            unfold qg2 at ha
            split at ha
            · cases ha; assumption
            · cases ha
          simp [execOp, Instr.indexAt, asIntOf, Instr.sureAddr, underlying, hs, hρ x _ hu, hρ i _ hu', h0, h1, qbi hn]
        · exact h.elim
      · exact h.elim
    · exact h.elim
  case extract x i =>
    split at h
    · rename_i u hu
      obtain ⟨vs, v, rfl, hv, hk⟩ := h
      exact ⟨v, fun w' => by simp [execOp, Instr.extract, hρ x _ hu, hv], hk⟩
    · exact h.elim
  case call c =>
    obtain ⟨callee, args, argTypes⟩ := c
    cases callee with
    | value f => simp at hwl
    | invoke r m => simp at hwl
    | builtin b =>
      cases b <;> simp only [Bool.false_eq_true] at hwl
      case len =>
        simp only [Bool.and_eq_true] at hwl
        obtain ⟨h1, h2⟩ := hwl
        cases hvs : qck (args.toList.map ρ) with
        | none => simp only [hvs] at h
        | some vs =>
          have hargs := qc2 hρ _ _ hvs
          have hargs' : args.map a.eval = vs.toArray := by rw [← hargs]; apply Array.ext'; simp
          obtain ⟨e, he⟩ := Option.isSome_iff_exists.1 h1
          have hl : args.size = 1 := Nat.eq_of_beq_eq_true h2
          obtain ⟨x, rfl⟩ : ∃ x, vs = [x] := by
            have hv : vs.length = 1 := by rw [← hargs]; simpa using hl
            match vs, hv with
            | [x], _ => exact ⟨x, rfl⟩
          simp only [hvs, qfn, he] at h
          obtain ⟨g, n, c, rfl, hk⟩ := h
          refine ⟨_, fun w' => ?_, hk⟩
          simp only [Option.bind_eq_some_iff] at he
          obtain ⟨t, h0, he⟩ := he
          have hs := qf7 he
          simp only [execOp, resolve, hargs', invoke, Sem.run_bind, Sem.run_pure, Result.andThen_ok]
          simp [builtin, Builtin.len_, h0, underlying, hs, goInt]
theorem qmw {o : Oper} (hρ : ∀ x v, ρ x = some v → a.eval x = v)
    (h : qmv P S o ρ w K) : ∃ v, (∀ w', S w' → (execOp a.eval o).run P w' = .ok (.value v) w') ∧ K v w := by
  unfold qmv at h
  cases hwl : qfp P o with
  | true =>
    rw [hwl] at h
    simp only [cond_true] at h
    obtain ⟨v, hv, hk⟩ := qjm hρ hwl h
    exact ⟨v, fun w' _ => hv w', hk⟩
  | false =>
    rw [hwl] at h
    simp only [cond_false] at h
    obtain ⟨dst, op, type, pos, after, guard⟩ := o
    cases op <;> simp only at h <;> try exact h.elim
    case load t x =>
      split at h
      · rename_i p n hp hag hn
        obtain ⟨ad, cs, rfl, hc, hk⟩ := h
        refine ⟨_, fun w' hS => ?_, hk⟩
        simp [execOp, Instr.loadAt, Instr.sureAddr, hρ x _ hp, loadVar, qds hag, qbi hn, loadCells, qec P w' ad n 0 #[] cs (hc w' hS)]
      · rename_i p q hp hag
        obtain ⟨ad, v, rfl, hc, hk⟩ := h
        refine ⟨v, fun w' hS => ?_, hk⟩
        simp [execOp, Instr.loadAt, Instr.sureAddr, hρ x _ hp, loadVar, qds hag, hc w' hS]
      · exact h.elim
    case binOp op t x y yt =>
      split at h
      · rename_i u v hu hv
        have e1 := hρ x _ hu
        have e2 := hρ y _ hv
        obtain ⟨r, hr, hk⟩ := h
        refine ⟨r, fun w' hS => ?_, hk⟩
        have hr' := hr w' hS
        simp only [execOp, e1, e2]
        simp only [Sem.run_bind] at hr' ⊢
        rw [hr']; rfl
      · exact h.elim
    case build t parts =>
      split at h
      · rename_i vs hvs
        obtain ⟨v, hr, hk⟩ := h
        refine ⟨v, fun w' hS => ?_, hk⟩
        have := qeb hρ _ _ hvs
        have hp : (parts.map fun (i, x) => (i, a.eval x)) = ((parts.toList.map (·.1)).zip vs).toArray := by
          rw [← this]; apply Array.ext' ; simp
        simp only [execOp, hp, Sem.run_bind, hr w' hS]; rfl
      · exact h.elim
    case slice t x lo hi mx =>
      cases mx with
      | some _ => exact h.elim
      | none =>
        simp only at h
        have hlo : ∀ l, lo.map ρ = l → l ≠ some none → lo.map a.eval = l.bind id := by
          intro l hl hne
          cases lo with
          | none => simp at hl; subst hl; rfl
          | some q =>
            simp at hl; subst hl
            cases hq : ρ q with
            | none => simp [hq] at hne
            | some z => simp [hρ q z hq]
        have hhi : ∀ l, hi.map ρ = l → l ≠ some none → hi.map a.eval = l.bind id := by
          intro l hl hne
          cases hi with
          | none => simp at hl; subst hl; rfl
          | some q =>
            simp at hl; subst hl
            cases hq : ρ q with
            | none => simp [hq] at hne
            | some z => simp [hρ q z hq]
        split at h
        · exact h.elim
        · exact h.elim
        · rename_i u l r hu h1 h2
          obtain ⟨v, hr, hk⟩ := h
          refine ⟨v, fun w' hS => ?_, hk⟩
          have e1 := hlo _ rfl (by assumption)
          have e2 := hhi _ rfl (by assumption)
          simp only [execOp, hρ x _ hu, e1, e2, Option.map_none, Sem.run_bind, hr w' hS]; rfl
        · exact h.elim
    case call c =>
      obtain ⟨callee, args, argTypes⟩ := c
      cases callee with
      | value f => exact h.elim
      | invoke r m => exact h.elim
      | builtin b =>
        simp only at h
        cases hvs : qck (args.toList.map ρ) with
        | none => rw [hvs] at h; exact h.elim
        | some vs =>
          rw [hvs] at h
          obtain ⟨v, hr, hk⟩ := h
          have hargs := qc2 hρ _ _ hvs
          have hargs' : args.map a.eval = vs.toArray := by rw [← hargs]; apply Array.ext'; simp
          refine ⟨v, fun w' hS => ?_, hk⟩
          simp only [execOp, resolve, hargs', invoke, Sem.run_bind, Sem.run_pure, Result.andThen_ok]
          exact hr w' hS
theorem qf6 {o : Oper} {env : Env} {n : Nat} {a : Act} {X : Prop} (he : Ext n env a) (h : qen o env X) : qb7 a.eval o = false ∧ X := by
  obtain ⟨dst, op, type, pos, after, guard⟩ := o
  cases op with
  | call c =>
    obtain ⟨callee, args, argTypes⟩ := c
    cases callee with
    | value f =>
      cases f with
      | func f' => exact ⟨by simp [qb7, Act.eval], h⟩
      | tmp t =>
        simp only [qen] at h
        split at h
        · rename_i v hv
          have e := he.eval hv
          refine ⟨?_, h.2⟩
          simp only [qb7, e]
          split
          · rename_i l a b; exact absurd rfl (h.1 l a b)
          · rfl
        · exact h.elim
      | const c =>
        simp only [qen] at h
        split at h
        · rename_i v hv
          have e := he.eval hv
          refine ⟨?_, h.2⟩
          simp only [qb7, e]
          split
          · rename_i l a b; exact absurd rfl (h.1 l a b)
          · rfl
        · exact h.elim
      | global g =>
        simp only [qen] at h
        split at h
        · rename_i v hv
          have e := he.eval hv
          refine ⟨?_, h.2⟩
          simp only [qb7, e]
          split
          · rename_i l a b; exact absurd rfl (h.1 l a b)
          · rfl
        · exact h.elim
    | _ => exact ⟨rfl, h⟩
  | _ => exact ⟨rfl, h⟩
theorem qr1 {n : Nat} {ops : Array Oper} {i : Nat} {o : Oper} {env : Env} {K : EK} {K' : Act → World → Prop} {Q : Exit → Act → World → Prop} (hi : ops[i]? = some o) (hc : qb7 a.eval o = false) (hd : dOk n o) (he : Ext n env a)
    (h : qf8 P ops o env w K) (hk : ∀ env' a' w', Ext n env' a' → K env' w' → K' a' w') : wpOp P ops Q i K' a w := by
  unfold wpOp
  simp only [hi]
  rcases qfo he h with ⟨hw, h1⟩ | ⟨hw, h1⟩
  · rw [if_pos hw]
    exact .inl (qgy.wp hc (qgs (fun x v hv => he.eval hv) h1) fun v w' hkv => hk _ _ _ (he.putE hd v) hkv)
  · rw [if_neg (by simp [hw])]
    exact hk _ _ _ (he.putE hd undef) h1
end
def qcy : Plan → Nat
  | .fin => 0
  | .take _ p => qcy p + 1
  | .go _ p q => max (qcy p + 1) (qcy q)
theorem qph {P : Program} {n : Nat} {ops : Array Oper} {S : World → Prop} {Q : Exit → Env → World → Prop} (hs : Region.noSelect ops = true) (hd : ∀ o ∈ ops.toList, dOk n o) (p : Plan) :
    (∀ (fuel : Nat) (listed : Array Bool) (env : Env) (a : Act) (w : World), qcy p ≤ fuel → qa3 ops p none listed = true → Ext n env a → S w →
      qa4 P ops S true (fun e w => Q .normal e w) p false env w → wpAnyH P .any ops (qcd n Q) S fuel listed a w) ∧
    (∀ (fuel : Nat) (rs : List Nat) (listed : Array Bool) (env : Env) (a : Act) (w : World), qcy p ≤ fuel + 1 → qa3 ops p (some rs) listed = true → Ext n env a → S w →
      qa4 P ops S true (fun e w => Q .normal e w) p true env w → ∀ i ∈ rs, wpOp P ops (qcd n Q) i (fun a' w' => S w' ∧ wpAnyH P .any ops (qcd n Q) S fuel (listed.setIfInBounds i true) a' w') a w) := by
  have hdi : ∀ (i : Nat) (o : Oper), ops[i]? = some o → dOk n o := fun i o ho => hd o (by simpa using Array.mem_of_getElem? ho)
  induction p with
  | fin =>
    refine ⟨?_, ?_⟩
    · intro fuel listed env a w _ hok he _ h
      exact wpAnyH_done (by simpa [qa3] using hok) ⟨env, he, h⟩ fuel
    · intro fuel rs listed env a w _ hok _ _ _ i hi
      simp only [qa3, List.isEmpty_iff] at hok
      subst hok
      cases hi
  | take i p ih =>
    refine ⟨?_, ?_⟩
    · intro fuel listed env a w hf hok he hS h
      obtain ⟨fuel, rfl⟩ : ∃ m, fuel = m + 1 := ⟨fuel - 1, by simp only [qcy] at hf; omega⟩
      simp only [qa3, Bool.and_eq_true] at hok
      obtain ⟨⟨h1, h2⟩, h3⟩ := hok
      simp only [qa4] at h
      split at h
      · exact h.elim
      · rename_i o ho
        rcases qfo he h with ⟨hw, hv⟩ | ⟨hw, hv⟩
        · obtain ⟨v, hrun, hk⟩ := qmw (fun x v hv => he.eval hv) hv
          exact wpAnyH_take ho hs h2 h1 (fun c a w h => h) (.inl ⟨hw, hrun⟩) hS (ih.1 fuel _ _ _ _ (by simp only [qcy] at hf; omega) h3 (he.putE (hdi i o ho) v) hS hk)
        · exact wpAnyH_take ho hs h2 h1 (fun c a w h => h) (.inr ⟨hw, rfl⟩) hS (ih.1 fuel _ _ _ _ (by simp only [qcy] at hf; omega) h3 (he.putE (hdi i o ho) undef) hS hv)
    · intro fuel rs listed env a w _ hok
      simp [qa3] at hok
  | go i p q ih1 ih2 =>
    have one : ∀ (fuel : Nat) (listed : Array Bool) (env : Env) (a : Act) (w : World), qcy p ≤ fuel → qa3 ops p none (listed.setIfInBounds i true) = true → Ext n env a →
        qa4 P ops S true (fun e w => Q .normal e w) (.go i p q) false env w →
        wpOp P ops (qcd n Q) i (fun a' w' => S w' ∧ wpAnyH P .any ops (qcd n Q) S fuel (listed.setIfInBounds i true) a' w') a w := by
      intro fuel listed env a w hf hok he h
      simp only [qa4] at h
      split at h
      · exact h.elim
      · rename_i o ho
        exact qr1 ho (qf6 he h.1).1 (hdi i o ho) he (qf6 he h.1).2 fun env' a' w' he' hk => ⟨hk.1, ih1.1 fuel _ env' a' w' hf hok he' hk.1 hk.2⟩
    have two : ∀ (env : Env) (w : World) (b : Bool), qa4 P ops S true (fun e w => Q .normal e w) (.go i p q) b env w → qa4 P ops S true (fun e w => Q .normal e w) (.go i p q) false env w ∧ qa4 P ops S true (fun e w => Q .normal e w) q true env w := by
      intro env w b h
      refine ⟨by cases b <;> exact h, ?_⟩
      simp only [qa4] at h
      split at h
      · exact h.elim
      · exact h.2
    refine ⟨?_, ?_⟩
    · intro fuel listed env a w hf hok he hS h
      simp only [qcy] at hf
      obtain ⟨fuel, rfl⟩ : ∃ m, fuel = m + 1 := ⟨fuel - 1, by omega⟩
      simp only [qa3] at hok
      split at hok
      · rename_i j rs hr
        simp only [Bool.and_eq_true] at hok
        obtain ⟨⟨h1, h2⟩, h3⟩ := hok
        obtain rfl : j = i := Nat.eq_of_beq_eq_true h1
        refine wpAnyH_all hr (by simp) fun m hm => ?_
        rcases List.mem_cons.1 hm with rfl | hm
        · exact one fuel listed env a w (by omega) h2 he (two env w false h).1
        · exact ih2.2 fuel rs listed env a w (by omega) h3 he hS (two env w false h).2 m hm
      · cases hok
    · intro fuel rs listed env a w hf hok he hS h m hm
      simp only [qcy] at hf
      cases rs with
      | nil => cases hm
      | cons j rs =>
        simp only [qa3, Bool.and_eq_true] at hok
        obtain ⟨⟨h1, h2⟩, h3⟩ := hok
        obtain rfl : j = i := Nat.eq_of_beq_eq_true h1
        rcases List.mem_cons.1 hm with rfl | hm
        · exact one fuel listed env a w (by omega) h2 he (two env w true h).1
        · exact ih2.2 fuel rs listed env a w (by omega) h3 he hS (two env w true h).2 m hm
def qe4 : Plan → Bool
  | .fin => true
  | .take _ _ => false
  | .go _ p q => qe4 p && qe4 q
theorem qm7 {P : Program} {r : Option Nat} {n : Nat} {ops : Array Oper} {i : Nat} {o : Oper} {env : Env} {w : World} {a : Act} {K : EK} {K' : Act → World → Prop} {Q : Exit → Act → World → Prop} (hi : ops[i]? = some o) (hd : dOk n o) (he : Ext n env a)
    (h : qf8 P ops o env w K) (hk : ∀ env' a' w', Ext n env' a' → K env' w' → K' a' w') : wpOpIn (Fc r) 0 P ops Q i K' a w := by
  unfold wpOpIn
  simp only [hi]
  rcases qfo he h with ⟨hw, h1⟩ | ⟨hw, h1⟩
  · rw [if_pos hw]
    exact qgy.wpIn (qhl h1) (qgs (fun x v hv => he.eval hv) h1) fun v w' hkv => hk _ _ _ (he.putE hd v) hkv
  · rw [if_neg (by simp [hw])]
    exact ⟨fun _ _ => trivial, hk _ _ _ (he.putE hd undef) h1⟩
theorem qmn {P : Program} {r : Option Nat} {n : Nat} {ops : Array Oper} {S : World → Prop} {Q : Exit → Env → World → Prop} (hd : ∀ o ∈ ops.toList, dOk n o) (p : Plan) : qe4 p = true →
    (∀ (fuel : Nat) (listed : Array Bool) (env : Env) (a : Act) (w : World), qcy p ≤ fuel → qa3 ops p none listed = true → Ext n env a →
      qa4 P ops S false (fun e w => Q .normal e w) p false env w → wpAnyIn (Fc r) 0 P .any ops (qcd n Q) fuel listed a w) ∧
    (∀ (fuel : Nat) (rs : List Nat) (listed : Array Bool) (env : Env) (a : Act) (w : World), qcy p ≤ fuel + 1 → qa3 ops p (some rs) listed = true → Ext n env a →
      qa4 P ops S false (fun e w => Q .normal e w) p true env w → ∀ i ∈ rs, wpOpIn (Fc r) 0 P ops (qcd n Q) i (fun a' w' => wpAnyIn (Fc r) 0 P .any ops (qcd n Q) fuel (listed.setIfInBounds i true) a' w') a w) := by
  have hdi : ∀ (i : Nat) (o : Oper), ops[i]? = some o → dOk n o := fun i o ho => hd o (by simpa using Array.mem_of_getElem? ho)
  induction p with
  | fin =>
    intro _
    refine ⟨?_, ?_⟩
    · intro fuel listed env a w _ hok he h
      exact wpAnyIn_done (by simpa [qa3] using hok) ⟨env, he, h⟩ fuel
    · intro fuel rs listed env a w _ hok _ _ i hi
      simp only [qa3, List.isEmpty_iff] at hok
      subst hok
      cases hi
  | take i p ih => intro h; cases h
  | go i p q ih1 ih2 =>
    intro hg
    simp only [qe4, Bool.and_eq_true] at hg
    have ih1 := ih1 hg.1
    have ih2 := ih2 hg.2
    have one : ∀ (fuel : Nat) (listed : Array Bool) (env : Env) (a : Act) (w : World), qcy p ≤ fuel → qa3 ops p none (listed.setIfInBounds i true) = true → Ext n env a →
        qa4 P ops S false (fun e w => Q .normal e w) (.go i p q) false env w →
        wpOpIn (Fc r) 0 P ops (qcd n Q) i (fun a' w' => wpAnyIn (Fc r) 0 P .any ops (qcd n Q) fuel (listed.setIfInBounds i true) a' w') a w := by
      intro fuel listed env a w hf hok he h
      simp only [qa4] at h
      split at h
      · exact h.elim
      · rename_i o ho
        have h1 : qf8 P ops o env w fun env' w' => S w' ∧ qa4 P ops S false (fun e w => Q .normal e w) p false env' w' := h.1
        exact qm7 ho (hdi i o ho) he h1 fun env' a' w' he' hk => ih1.1 fuel _ env' a' w' hf hok he' hk.2
    have two : ∀ (env : Env) (w : World) (b : Bool), qa4 P ops S false (fun e w => Q .normal e w) (.go i p q) b env w → qa4 P ops S false (fun e w => Q .normal e w) (.go i p q) false env w ∧ qa4 P ops S false (fun e w => Q .normal e w) q true env w := by
      intro env w b h
      refine ⟨by cases b <;> exact h, ?_⟩
      simp only [qa4] at h
      split at h
      · exact h.elim
      · exact h.2
    refine ⟨?_, ?_⟩
    · intro fuel listed env a w hf hok he h
      simp only [qcy] at hf
      obtain ⟨fuel, rfl⟩ : ∃ m, fuel = m + 1 := ⟨fuel - 1, by omega⟩
      simp only [qa3] at hok
      split at hok
      · rename_i j rs hr
        simp only [Bool.and_eq_true] at hok
        obtain ⟨⟨h1, h2⟩, h3⟩ := hok
        obtain rfl : j = i := Nat.eq_of_beq_eq_true h1
        refine wpAnyIn_all hr (by simp) fun m hm => ?_
        rcases List.mem_cons.1 hm with rfl | hm
        · exact one fuel listed env a w (by omega) h2 he (two env w false h).1
        · exact ih2.2 fuel rs listed env a w (by omega) h3 he (two env w false h).2 m hm
      · cases hok
    · intro fuel rs listed env a w hf hok he h m hm
      simp only [qcy] at hf
      cases rs with
      | nil => cases hm
      | cons j rs =>
        simp only [qa3, Bool.and_eq_true] at hok
        obtain ⟨⟨h1, h2⟩, h3⟩ := hok
        obtain rfl : j = i := Nat.eq_of_beq_eq_true h1
        rcases List.mem_cons.1 hm with rfl | hm
        · exact one fuel listed env a w (by omega) h2 he (two env w true h).1
        · exact ih2.2 fuel rs listed env a w (by omega) h3 he (two env w true h).2 m hm
abbrev QE := Exit → Env → World → Prop
structure Ann where
  cuts : List (Nat × List Nat)
  loops : List (Nat × List Nat)
  labels : List (Nat × List Nat)
  plans : List (Nat × Plan)
  rd : Option Nat := none
def qk6 {α : Type} : List (Nat × α) → Nat → Option α
  | [], _ => none
  | (k, v) :: r, t => cond (Nat.beq k t) (some v) (qk6 r t)
def qfv : Code → Option Nat
  | .region id _ _ => some id
  | .seq a _ => qfv a
  | .block _ c | .loop c | .scope c => qfv c
  | _ => none
def sub : List Nat → Env → Option Env
  | [], _ => some []
  | t :: ts, env => match lk env t, sub ts env with
    | some v, some r => some ((t, v) :: r)
    | _, _ => none
theorem qrh : ∀ (ts : List Nat) (env env' : Env), sub ts env = some env' → ∀ t v, lk env' t = some v → lk env t = some v
  | [], env, env', h, t, v, hv => by simp [sub] at h; subst h; simp [lk] at hv
  | t0 :: ts, env, env', h, t, v, hv => by
    simp only [sub] at h
    split at h
    · rename_i v0 r h0 hr
      simp only [Option.some.injEq] at h
      subst h
      rw [qe0] at hv
      by_cases ht : t0 = t
      · subst ht; simp only [if_true, Option.some.injEq] at hv; subst hv; exact h0
      · rw [if_neg ht] at hv; exact qrh ts env r hr t v hv
    · cases h
def qjz (live : Option (List Nat)) (env : Env) (K : Env → Prop) : Prop :=
  match live with
  | none => K env
  | some ts => match sub ts env with
    | some env' => match lk env mkT, lk env' mkT with
      | some _, none => False
      | _, _ => K env'
    | none => False
theorem qfi {n : Nat} {live : Option (List Nat)} {env : Env} {K : Env → Prop} {a : Act} (h : qjz live env K) (he : Ext n env a) : ∃ env', Ext n env' a ∧ K env' := by
  unfold qjz at h
  split at h
  · exact ⟨env, he, h⟩
  · split at h
    · rename_i env' hs
      split at h
      · exact h.elim
      · rename_i hne
        refine ⟨env', he.mono (qrh _ _ _ hs) fun hm => ?_, h⟩
        cases h1 : lk env mkT with
        | none => rw [h1] at hm; cases hm
        | some v =>
          cases h2 : lk env' mkT with
          | some u => rfl
          | none => exact (hne v h1 h2).elim
    · exact h.elim
def qo2 (l : List (Nat × List Nat)) (r : Option Nat) : Option (List Nat) := match r with | some r => qk6 l r | none => none
def qla (A : Ann) (r : Option Nat) (Y : EK) (Q : QE) : QE := fun e env w => match e with
  | .normal => qjz (qo2 A.cuts r) env fun env' => Y env' w
  | e => Q e env w
def qlw (id : Nat) (Q : QE) : QE := fun e env w => match e with
  | .exit i => cond (Nat.beq i id) (Q .normal env w) (Q (.exit i) env w)
  | e => Q e env w
def qix (P : Program) (n : Nat) (r : Option Nat) (body : Code) (Q : QE) (env : Env) (w : World) : Prop :=
  ∀ a, Ext n env a → ∀ (b : Frame) (k : List Item) (cs : List Frame), b.roundOf = r → ∃ e a' w', qcd n Q e a' w' ∧ ArrivesIn (Machine.fenced P (Fc r)) P (lone (b.atR a (.code body :: .inLoop body :: k)) cs w) b k cs e a' w'
def qk8 (A : Ann) (P : Program) (n : Nat) (body : Code) (Q : QE) : QE := fun e env w => match e with
  | .normal => qjz (some ((qo2 A.loops (qfv body)).getD [])) env fun env' => qix P n A.rd body Q env' w
  | e => Q e env w
def qw6 (P : Program) (n : Nat) (r : Option Nat) (body c : Code) (Q : QE) (env : Env) (w : World) : Prop :=
  ∀ a, Ext n env a → ∀ (b : Frame) (k : List Item) (cs : List Frame), b.roundOf = r → ∃ e a' w', qcd n Q e a' w' ∧ ArrivesIn (Machine.fenced P (Fc r)) P (lone (b.atR a (.code c :: .inScope body :: k)) cs w) b k cs e a' w'
def qjg (A : Ann) (P : Program) (n : Nat) (body : Code) (Q : QE) : QE := fun e env w => match e with
  | .goto l => match findLabel body l with
    | some rest => qjz (some ((qk6 A.labels l).getD [])) env fun env' => qw6 P n A.rd body rest Q env' w
    | none => Q (.goto l) env w
  | e => Q e env w
def C.a9 (w : World) (F : (World → Prop) → World → Prop) : Prop := ∃ S : World → Prop, S { w with drawn := w.drawn + 1 } ∧ F S { w with drawn := w.drawn + 1 }
def qq3 (A : Ann) (P : Program) (n id : Nat) (ops : Array Oper) : Option Plan :=
  match qk6 A.plans id with
  | some p => cond (qhr n ops.toList && Region.noSelect ops && P.follows .mixedOrders && qa3 ops p none (Array.replicate ops.size false) && Nat.ble (qcy p) ops.size) (some p) none
  | none => none
def qgt (A : Ann) (P : Program) (n id : Nat) (ops : Array Oper) (draw : Bool) (K : EK) (env : Env) (w : World) : Prop :=
  match draw with
  | false => cond (qhr n ops.toList) (qmu P ops ops.toList env w K) False
  | true => match qq3 A P n id ops with
    | some p => cond (qe4 p || A.rd.isNone) (C.a9 w fun S w => qa4 P ops S (!qe4 p) K p false env w) False
    | none => False
def C.cg (P : Program) (n : Nat) (gv : Value) (ps : Array Tmp) (as bd : Code) (env : Env) (w : World) (K : Nat → Option Code → World → Prop) : Prop :=
  match gv with
  | .func (.func f) first captured => cond (qbx P f) (∀ fn tmps, tmps.size = n → (∀ t v, lkT env t = some v → tmps[t]? = some v) →
    C.q P f (first.toList ++ ([Value.func (.yield (w.heap.size + 1)) #[] #[]] ++ captured.toList)).toArray ((w.alloc (.deferred (some []))).alloc (.loop { state := .ready, pending := none, fn := fn, tmps := tmps, params := ps, assign := as, body := bd, defers := w.heap.size })) fun _ w' =>
      ∃ rec, w'.heap[w.heap.size + 1]? = some (.loop rec) ∧ rec.state ≠ .busy ∧ K w.heap.size rec.pending (w'.putObj (w.heap.size + 1) (.loop { rec with state := .exhausted }))) False
  | _ => False
def qrr (Q : QE) (env : Env) (D : Nat) (j : Option Code) (w : World) : Prop :=
  match j with
  | none => Q .normal ((mkT, .int .i64 (D : Int)) :: env) w
  | some .ret => Q .ret ((mkT, .int .i64 (D : Int)) :: env) w
  | some (.exit id) => Q (.exit id) ((mkT, .int .i64 (D : Int)) :: env) w
  | _ => False
def qa7 (A : Ann) (P : Program) (n : Nat) : Code → QE → Env → World → Prop
  | .skip, Q, env, w => Q .normal env w
  | .label _, Q, env, w => Q .normal env w
  | .region id ops draw, Q, env, w => qgt A P n id ops draw (fun env w => Q .normal env w) env w
  | .seq x y, Q, env, w => qa7 A P n x (qla A (qfv y) (fun env w => qa7 A P n y Q env w) Q) env w
  | .cond c x y, Q, env, w => match ev env c with
    | some v => C.am v (qa7 A P n x Q env w) (qa7 A P n y Q env w)
    | none => False
  | .block id c, Q, env, w => qa7 A P n c (qlw id Q) env w
  | .loop c, Q, env, w => qjz (some ((qo2 A.loops (qfv c)).getD [])) env fun env' => qix P n A.rd c Q env' w
  | .scope c, Q, env, w => qa7 A P n c (qjg A P n c Q) env w
  | .exit id, Q, env, w => Q (.exit id) env w
  | .goto l, Q, env, w => Q (.goto l) env w
  | .ret, Q, env, w => Q .ret env w
  | .rangeFunc g ps as bd, Q, env, w => match ev env g, lk env mkT with
    | some gv, none => cond A.rd.isNone (C.cg P n gv ps as bd env w (qrr Q env)) False
    | _, _ => False
  | _, _, _, _ => False
section
variable {A : Ann} {P : Program} {n : Nat}
theorem qkb {id : Nat} {ops : Array Oper} {draw : Bool} {Q : QE} {env : Env} {w : World} {a : Act} (he : Ext n env a)
    (h : qgt A P n id ops draw (fun env w => Q .normal env w) env w) : (Code.region id ops draw).wpIn (Fc A.rd) 0 P (qcd n Q) a w := by
  cases draw with
  | false =>
    simp only [qgt] at h
    cases hd : qhr n ops.toList with
    | false => rw [hd] at h; exact h.elim
    | true =>
      rw [hd] at h
      exact wpIn_region_list (qfc _ _ _ _ (qgd hd) he h)
  | true =>
    simp only [qgt] at h
    split at h
    · rename_i p hp
      unfold qq3 at hp
      split at hp
      · rename_i p' hp'
        cases hc : (qhr n ops.toList && Region.noSelect ops && P.follows .mixedOrders && qa3 ops p' none (Array.replicate ops.size false) && Nat.ble (qcy p') ops.size) with
        | false => rw [hc] at hp; cases hp
        | true =>
          rw [hc] at hp
          cases hp
          simp only [Bool.and_eq_true] at hc
          obtain ⟨⟨⟨⟨h1, h2⟩, h3⟩, h4⟩, h5⟩ := hc
          cases hg : qe4 p with
          | true =>
            rw [hg] at h
            obtain ⟨S, hS, h⟩ := h
            exact wpIn_region_any h3 (((qmn (qgd h1) p hg).1 ops.size _ env a _ (Nat.le_of_ble_eq_true h5) h4 he h))
          | false =>
            rw [hg] at h
            cases hr : A.rd.isNone with
            | false => rw [hr] at h; exact h.elim
            | true =>
              rw [hr] at h
              simp only [Option.isNone_iff_eq_none] at hr
              obtain ⟨S, hS, h⟩ := h
              rw [hr]
              exact wpIn_wide.2 (wp_region_held h3 ((qph h2 (qgd h1) p).1 ops.size _ env a _ (Nat.le_of_ble_eq_true h5) h4 he hS h))
      · cases hp
    · exact h.elim
section
variable {b : Frame} {a : Act} {k : List Item} {cs : List Frame} {w : World}
theorem qb6 {c : Code} : step P (lone (b.atR a (.code (.scope c) :: k)) cs w) = .next (lone (b.atR a (.code c :: .inScope c :: k)) cs w) :=
  step_lone_go (by simp [stepG, stepG.exec, Frame.atR])
theorem qk1 {c : Code} : step P (lone (b.atR a (.inScope c :: k)) cs w) = .next (lone (b.atR a k) cs w) :=
  step_lone_go (by simp [stepG, stepG.exec, Frame.atR])
end
theorem qob (r : Option Nat) (m : Nat) : (Fc r).room m := fun d hd => by simp [Fc, Fence.wide] at hd
theorem qsi {r : Option Nat} {body : Code} {Q : QE} {env : Env} {w : World} {a : Act} (he : Ext n env a) (h : qix P n r body Q env w) : (Code.loop body).wpIn (Fc r) 0 P (qcd n Q) a w := by
  intro b k cs hro hb hr
  obtain ⟨e, a', w', hq, harr⟩ := h a he b k cs hro
  exact ⟨e, a', w', hq, .of_steps (.one (fenced_calm (n := 0) hb hr rfl) stepR_loop) harr⟩
theorem qr2 {r : Option Nat} {rr : Option Nat} {Y : Code} {Q : QE} (hY : ∀ env a w, Ext n env a → qa7 A P n Y Q env w → Y.wpIn (Fc rr) 0 P (qcd n Q) a w) (e : Exit) (a : Act) (w : World)
    (h : qcd n (qla A r (fun env w => qa7 A P n Y Q env w) Q) e a w) : Exit.then (Y.wpIn (Fc rr) 0 P (qcd n Q)) (qcd n Q) e a w := by
  cases e with
  | normal =>
    obtain ⟨env, he, h⟩ := h
    simp only [qla] at h
    obtain ⟨env', he', h'⟩ := qfi h he
    exact hY env' a w he' h'
  | panic c => exact h.elim
  | outgrown => exact h.elim
  | exit i => exact h
  | goto l => exact h
  | ret => exact h
theorem qdz : ∀ (c : Code) (Q : QE) (env : Env) (a : Act) (w : World), Ext n env a → qa7 A P n c Q env w → c.wpIn (Fc A.rd) 0 P (qcd n Q) a w := by
  intro c
  induction c with
  | skip => intro Q env a w he h; exact wpIn_skip ⟨env, he, h⟩
  | label l => intro Q env a w he h; exact wpIn_label ⟨env, he, h⟩
  | region id ops draw => intro Q env a w he h; exact qkb he h
  | seq x y ihx ihy =>
    intro Q env a w he h
    exact wpIn_seq (wpIn_mono (ihx _ env a w he h) fun e a w hq => qr2 (fun env a w he h => ihy Q env a w he h) e a w hq)
  | cond c x y ihx ihy =>
    intro Q env a w he h
    simp only [qa7] at h
    split at h
    · rename_i v hv
      obtain ⟨t, rfl, h1, h2⟩ := h
      exact wpIn_cond_split (he.eval hv) (fun ht => ihx Q env a w he (h1 ht)) (fun ht => ihy Q env a w he (h2 ht))
    · exact h.elim
  | block id c ih =>
    intro Q env a w he h
    refine wpIn_block (wpIn_mono (ih _ env a w he h) fun e a w hq => ?_)
    cases e with
    | exit i =>
      obtain ⟨env', he', hq⟩ := hq
      simp only [qlw] at hq
      simp only [Exit.inBlock]
      cases hb : Nat.beq i id with
      | true =>
        rw [hb] at hq
        rw [if_pos (Nat.eq_of_beq_eq_true hb)]
        exact ⟨env', he', hq⟩
      | false =>
        rw [hb] at hq
        rw [if_neg (Nat.ne_of_beq_eq_false hb)]
        exact ⟨env', he', hq⟩
    | normal => exact hq
    | goto l => exact hq
    | ret => exact hq
    | panic c => exact hq
    | outgrown => exact hq
  | loop c _ =>
    intro Q env a w he h
    obtain ⟨env', he', h'⟩ := qfi h he
    exact qsi he' h'
  | scope c ih =>
    intro Q env a w he h
    intro b k cs hro hb hr
    obtain ⟨e, a₁, w₁, hq, harr⟩ := ih _ env a w he h b (.inScope c :: k) cs hro hb hr
    have i0 := fenced_calm (P := P) (F := Fc A.rd) (n := 0) (fr := b.atR a (.code (.scope c) :: k)) (cs := cs) (w := w) hb hr rfl
    cases e with
    | normal => exact ⟨.normal, a₁, w₁, hq, .head i0 qb6 (StepsIn.trans harr (.one (fenced_calm (n := 0) hb hr rfl) qk1))⟩
    | exit id =>
      have hx : exitTo id (.inScope c :: k) = exitTo id k := by simp [exitTo]
      exact ⟨.exit id, a₁, w₁, hq, fun k' hk => .head i0 qb6 (harr.1 k' (by rw [hx]; exact hk)),
        fun hr' hk => let ⟨k₁, h1, h2⟩ := harr.2 hr' (by rw [hx]; exact hk); ⟨k₁, h1, .head i0 qb6 h2⟩⟩
    | goto l =>
      obtain ⟨env₁, he₁, hq⟩ := hq
      simp only [qjg] at hq
      split at hq
      · rename_i rest hrest
        obtain ⟨env₂, he₂, hq⟩ := qfi hq he₁
        obtain ⟨e₂, a₂, w₂, hq₂, harr₂⟩ := hq a₁ he₂ b k cs hro
        exact ⟨e₂, a₂, w₂, hq₂, .of_steps (.head i0 qb6 (harr.1 _ (by simp [gotoIn, hrest]))) harr₂⟩
      · rename_i hnone
        have hx : gotoIn l (.inScope c :: k) = gotoIn l k := by simp [gotoIn, hnone]
        exact ⟨.goto l, a₁, w₁, ⟨env₁, he₁, hq⟩, fun k' hk => .head i0 qb6 (harr.1 k' (by rw [hx]; exact hk)),
          fun hr' hk => let ⟨k₁, h1, h2⟩ := harr.2 hr' (by rw [hx]; exact hk); ⟨k₁, h1, .head i0 qb6 h2⟩⟩
    | ret => exact ⟨.ret, a₁, w₁, hq, .of_steps (.one i0 qb6) harr⟩
    | panic ch => exact hq.elim
    | outgrown => exact hq.elim
  | exit id => intro Q env a w he h; exact wpIn_exit ⟨env, he, h⟩
  | goto l => intro Q env a w he h; exact wpIn_goto ⟨env, he, h⟩
  | ret => intro Q env a w he h; exact wpIn_ret ⟨env, he, h⟩
  | rangeFunc g ps as bd _ _ =>
    intro Q env a w he h
    simp only [qa7] at h
    split at h
    · rename_i gv hgv hmk
      cases hr : A.rd.isNone with
      | false => rw [hr] at h; exact h.elim
      | true =>
        rw [hr] at h
        simp only [Option.isNone_iff_eq_none] at hr
        rw [hr]
        have hg := he.eval hgv
        refine wpIn_rangeFunc fun fn _ => ?_
        simp only [cond_true] at h
        unfold C.cg at h
        split at h
        · rename_i f' first captured
          cases hb : qbx P f' with
          | false => rw [hb] at h; exact h.elim
          | true =>
            rw [hb] at h
            have h := h fn a.tmps he.size he.has
            have hent := run_enterLoop_outer (P := P) (w := w) fn a.tmps ps as bd
            generalize (w.alloc (.deferred (some []))).alloc (.loop { state := .ready, pending := none, fn := fn, tmps := a.tmps, params := ps, assign := as, body := bd, defers := w.heap.size }) = W1 at *
            refine ⟨w.heap.size + 1, [{ target := .collected w.heap.size, args := #[] }], W1, { target := .fn (.func f') captured, args := first ++ #[Value.func (.yield (w.heap.size + 1)) #[] #[]] }, W1, f', (first ++ #[Value.func (.yield (w.heap.size + 1)) #[] #[]]) ++ captured, W1, hent, ?_, fun _ _ => trivial, ?_, fun hd => by simp [Fc, Fence.wide] at hd, ?_⟩
            · simp only [resolve, Deferred.ofValue, hg, Sem.run_pure]
              simp [Act.eval]
            · unfold qbx at hb
              split at hb
              · rename_i fn' hfn
                simp only [Bool.and_eq_true, Bool.not_eq_true'] at hb
                obtain ⟨hb1, hb2⟩ := hb
                have hb3 : fn'.body.isNone = false := by cases hq : fn'.body <;> simp_all
                simp only [invoke, callFunc, Sem.run_bind, Sem.run_pure, Result.andThen_ok, run_program, hfn, hb2, hb3, Bool.false_eq_true, if_false]
              · cases hb
            · have ha : (first ++ #[Value.func (.yield (w.heap.size + 1)) #[] #[]]) ++ captured = (first.toList ++ ([Value.func (.yield (w.heap.size + 1)) #[] #[]] ++ captured.toList)).toArray := by apply Array.ext'; simp
              rw [ha]
              refine CallsIn.mono (callsIn_wide.2 h) ?_
              rintro e w' ⟨v, rfl, rec, hrec, hst, hq⟩
              refine ⟨_, _, run_endLoop hrec hst, ?_⟩
              have he' : Ext n ((mkT, .int .i64 (w.heap.size : Int)) :: env) { a with defers := [{ target := .collected w.heap.size, args := #[] }] ++ a.defers } := by
                refine ⟨?_, he.size, fun t v hv => ?_⟩
                · have hm0 : qcp env = [] := by unfold qcp; rw [hmk]
                  have hm1 : qcp ((mkT, .int .i64 (w.heap.size : Int)) :: env) = [{ target := .collected w.heap.size, args := #[] }] := by
                    unfold qcp
                    rw [qe0, if_pos rfl]
                    simp
                  rw [hm1, he.defers, hm0]
                  rfl
                · obtain ⟨ht, hv⟩ := qe6 hv
                  rw [qe0, if_neg (Ne.symm ht)] at hv
                  exact he.has t v (qmd ht hv)
              unfold qrr at hq
              cases hp : rec.pending with
              | none => rw [hp] at hq; exact ⟨_, he', hq⟩
              | some c =>
                rw [hp] at hq
                cases c with
                | ret => exact wpIn_ret ⟨_, he', hq⟩
                | exit id => exact wpIn_exit ⟨_, he', hq⟩
                | _ => exact hq.elim
        · exact h.elim
    · exact h.elim
  | refuse why => intro Q env a w he h; exact h.elim
theorem qop {body : Code} {Q : QE} {env : Env} {w : World} (h : qa7 A P n body (qk8 A P n body Q) env w) : qix P n A.rd body Q env w := by
  intro a he b k cs hro
  obtain ⟨e, a₁, w₁, hq, harr⟩ := qdz body _ env a w he h b (.inLoop body :: k) cs hro trivial (qob _ _)
  cases e with
  | normal =>
    obtain ⟨env₁, he₁, hq⟩ := hq
    simp only [qk8] at hq
    obtain ⟨env₂, he₂, hq⟩ := qfi hq he₁
    obtain ⟨e₂, a₂, w₂, hq₂, harr₂⟩ := hq a₁ he₂ b k cs hro
    exact ⟨e₂, a₂, w₂, hq₂, .of_steps (StepsIn.trans harr (.one (fenced_calm (n := 0) trivial (qob _ _) rfl) stepR_inLoop)) harr₂⟩
  | exit id => exact ⟨.exit id, a₁, w₁, hq, .pass (x := .inLoop body) rfl (fun _ _ => .inl (by simp)) harr⟩
  | goto l => exact ⟨.goto l, a₁, w₁, hq, .pass (x := .inLoop body) rfl (fun _ _ => .inl (by simp)) harr⟩
  | ret => exact ⟨.ret, a₁, w₁, hq, .pass (x := .inLoop body) rfl (fun _ _ => .inl (by simp)) harr⟩
  | panic ch => exact hq.elim
  | outgrown => exact hq.elim
end
def nav (A : Ann) (P : Program) (n : Nat) (F : Code → QE → Prop) : List Nat → Code → QE → Prop
  | [], c, Q => F c Q
  | i :: p, c, Q => match c, i with
    | .seq x y, 0 => nav A P n F p x (qla A (qfv y) (fun env w => qa7 A P n y Q env w) Q)
    | .seq _ y, _ => nav A P n F p y Q
    | .cond _ x _, 0 => nav A P n F p x Q
    | .cond _ _ y, _ => nav A P n F p y Q
    | .block id c, _ => nav A P n F p c (qlw id Q)
    | .loop c, _ => nav A P n F p c (qk8 A P n c Q)
    | .scope c, 0 => nav A P n F p c (qjg A P n c Q)
    | .scope c, l => match findLabel c (l - 1) with
      | some rest => nav A P n F p rest (qjg A P n c Q)
      | none => False
    | _, _ => False
theorem qcr {A : Ann} {P : Program} {n : Nat} {F G : Code → QE → Prop} (hFG : ∀ c Q, F c Q → G c Q) : ∀ (p : List Nat) (c : Code) (Q : QE), nav A P n F p c Q → nav A P n G p c Q
  | [], c, Q, h => hFG c Q h
  | i :: p, c, Q, h => by
    cases c with
    | seq x y => cases i with
      | zero => exact qcr hFG p _ _ h
      | succ i => exact qcr hFG p _ _ h
    | cond v x y => cases i with
      | zero => exact qcr hFG p _ _ h
      | succ i => exact qcr hFG p _ _ h
    | block id c => exact qcr hFG p _ _ h
    | loop c => exact qcr hFG p _ _ h
    | scope c => cases i with
      | zero => exact qcr hFG p _ _ h
      | succ i =>
        unfold nav at h ⊢
        simp only at h ⊢
        cases hl : findLabel c (i + 1 - 1) with
        | none => rw [hl] at h; exact h.elim
        | some rest => rw [hl] at h; exact qcr hFG p _ _ h
    | _ => exact h.elim
def ql9 (A : Ann) (P : Program) (n : Nat) (env : Env) (w : World) : Code → QE → Prop
  | .loop b, Q => qix P n A.rd b Q env w
  | _, _ => False
def qvy (A : Ann) (P : Program) (n : Nat) (env : Env) (w : World) : Code → QE → Prop
  | .loop b, Q => qa7 A P n b (qk8 A P n b Q) env w
  | _, _ => False
theorem qag {A : Ann} {P : Program} {n : Nat} {env : Env} {w : World} {p : List Nat} {c : Code} {Q : QE} (h : nav A P n (qvy A P n env w) p c Q) : nav A P n (ql9 A P n env w) p c Q :=
  qcr (fun c Q h => by cases c <;> first | exact qop h | exact h.elim) p c Q h
def qjj : List Value → Value
  | [v] => v
  | vs => .tuple vs.toArray
def qgn (P : Program) : List ResultVar → Env → World → (List Value → Prop) → Prop
  | [], _, _, k => k []
  | .tmp t :: r, env, w, k => match lkT env t with
    | some v => qgn P r env w fun vs => k (v :: vs)
    | none => False
  | .cell x t :: r, env, w, k => match lkT env x, qi1 P t, qer P t with
    | some p, some true, some n => C.ao n p w fun v _ => qgn P r env w fun vs => k (v :: vs)
    | some p, some false, _ => C.ai p w fun v _ => qgn P r env w fun vs => k (v :: vs)
    | _, _, _ => False
def qja (P : Program) (rs : List ResultVar) (env : Env) (w : World) (K : VK) : Prop :=
  match lk env mkT with
  | none => qgn P rs env w fun vs => K (qjj vs) w
  | some (.int _ D) => w.heap[D.toNat]? = some (.deferred (some [])) ∧ qgn P rs env (w.putObj D.toNat (.deferred none)) fun vs => K (qjj vs) (w.putObj D.toNat (.deferred none))
  | some _ => False
def qx4 (P : Program) (rs : List ResultVar) (K : VK) : QE := fun e env w => match e with
  | .normal => qja P rs env w K
  | .ret => qja P rs env w K
  | _ => False
def qfh : List Value → Nat → Env
  | [], _ => []
  | v :: r, i => (i, v) :: qfh r (i + 1)
def quh (A : Ann) (P : Program) (f : FuncId) (args : List Value) (w : World) (K : VK) : Prop :=
  match P.funcs[f]? with
  | some fn => match fn.body with
    | some c => cond (Nat.ble args.length fn.ntmps && Nat.ble args.length 1000 && A.rd.isNone) (qa7 A P fn.ntmps c (qx4 P fn.results.toList K) (qfh args 0) w) False
    | none => False
  | none => False
def qhf (a : Act) : ResultVar → Sem Value
  | .tmp t => pure (a.tmps.getD t undef)
  | .cell x t => do loadVar t (← asAddr (a.tmps.getD x undef))
theorem qgo {P : Program} {n : Nat} {env : Env} {a : Act} {w : World} (he : Ext n env a) : ∀ (rs : List ResultVar) (k : List Value → Prop), qgn P rs env w k →
    ∃ vs, (rs.mapM (qhf a)).run P w = .ok vs w ∧ k vs
  | [], k, h => ⟨[], by simp, h⟩
  | .tmp t :: r, k, h => by
    simp only [qgn] at h
    split at h
    · rename_i v hv
      obtain ⟨vs, hr, hk⟩ := qgo he r _ h
      refine ⟨v :: vs, ?_, hk⟩
      have := he.has t v hv
      have e : a.tmps.getD t undef = v := by simp [this]
      simp only [List.mapM_cons, qhf, Sem.run_bind, Sem.run_pure, Result.andThen_ok, hr, e]
    · exact h.elim
  | .cell x t :: r, k, h => by
    simp only [qgn] at h
    split at h
    · rename_i p m hp hag hm
      obtain ⟨ad, cs, rfl, hc, h⟩ := h
      obtain ⟨vs, hr, hk⟩ := qgo he r _ h
      refine ⟨_, ?_, hk⟩
      have e : a.tmps.getD x undef = .pointer (some ad) := by simp [he.has x _ hp]
      simp only [List.mapM_cons, qhf, Sem.run_bind, e, asAddr, Sem.run_pure, Result.andThen_ok, loadVar, qds hag, if_true, qbi hm, loadCells, qec P w ad m 0 #[] cs hc, hr]
      simp
    · rename_i p q hp hag
      obtain ⟨ad, v, rfl, hc, h⟩ := h
      obtain ⟨vs, hr, hk⟩ := qgo he r _ h
      refine ⟨_, ?_, hk⟩
      have e : a.tmps.getD x undef = .pointer (some ad) := by simp [he.has x _ hp]
      simp only [List.mapM_cons, qhf, Sem.run_bind, e, asAddr, Sem.run_pure, Result.andThen_ok, loadVar, qds hag, Bool.false_eq_true, if_false, run_load, hc, hr]
    · exact h.elim
theorem qic {P : Program} {n : Nat} {env : Env} {a : Act} {w : World} {fn : Func} {K : List Value → Prop} (he : Ext n env a) (h : qgn P fn.results.toList env w K) :
    ∃ vs, (results fn a.tmps).run P w = .ok (qjj vs) w ∧ K vs := by
  obtain ⟨vs, hr, hk⟩ := qgo he _ _ h
  refine ⟨vs, ?_, hk⟩
  have hres : results fn a.tmps = (do
      let vs ← fn.results.mapM (qhf a)
      pure (if h : vs.size = 1 then vs[0] else .tuple vs)) := by
    unfold results
    congr 1
  rw [hres, Array.mapM_eq_mapM_toList]
  simp only [Sem.run_bind, Sem.run_map]
  rw [hr]
  simp only [Result.andThen_ok, Sem.run_pure, Result.ok.injEq, and_true]
  match vs with
  | [] => rfl
  | [v] => rfl
  | v :: u :: r => simp [qjj]
theorem qii : ∀ (l : List Value) (i t : Nat) (v : Value), lk (qfh l i) t = some v → i ≤ t ∧ l[t - i]? = some v
  | [], i, t, v, h => by simp [qfh, lk] at h
  | u :: l, i, t, v, h => by
    simp only [qfh] at h
    rw [qe0] at h
    by_cases hit : i = t
    · subst hit; simp only [if_true, Option.some.injEq] at h; subst h; simp
    · rw [if_neg hit] at h
      obtain ⟨h1, h2⟩ := qii l (i + 1) t v h
      refine ⟨by omega, ?_⟩
      have : t - i = (t - (i + 1)) + 1 := by omega
      rw [this, List.getElem?_cons_succ]
      exact h2
theorem q9 {A : Ann} {P : Program} {f : FuncId} {args : List Value} {w : World} {K : VK} (h : quh A P f args w K) : C.q P f args.toArray w K := by
  unfold quh at h
  split at h
  · rename_i fn hfn
    split at h
    · rename_i c hc
      cases hb : (Nat.ble args.length fn.ntmps && Nat.ble args.length 1000 && A.rd.isNone) with
      | false => rw [hb] at h; exact h.elim
      | true =>
        rw [hb] at h
        simp only [cond_true] at h
        simp only [Bool.and_eq_true, Option.isNone_iff_eq_none] at hb
        obtain ⟨⟨hb1, hb2⟩, hrd⟩ := hb
        have hle : args.length ≤ fn.ntmps := Nat.le_of_ble_eq_true hb1
        have hle2 : args.length ≤ 1000 := Nat.le_of_ble_eq_true hb2
        unfold C.q
        refine callsIn_wide.1 (callsIn_of_wp_marks (n := 0) hfn hc trivial ?_)
        have hmk : qcp (qfh args 0) = [] := by
          unfold qcp
          cases hl : lk (qfh args 0) mkT with
          | none => rfl
          | some v =>
            have := (qii args 0 mkT v hl).2
            have := (List.getElem?_eq_some_iff.1 this).1
            simp only [mkT, Nat.sub_zero] at this
            omega
        have he : Ext fn.ntmps (qfh args 0) { tmps := args.toArray ++ Array.replicate (fn.ntmps - args.toArray.size) undef, defers := [] } := by
          refine ⟨hmk.symm, by simp; omega, fun t v hv => ?_⟩
          obtain ⟨_, h2⟩ := qii args 0 t v (qe6 hv).2
          simp only [Nat.sub_zero] at h2
          have hlt : t < args.length := (List.getElem?_eq_some_iff.1 h2).1
          rw [Array.getElem?_append_left (by simpa using hlt)]
          simpa using h2
        have leave : ∀ (env : Env) (a : Act) (w : World), Ext fn.ntmps env a → qja P fn.results.toList env w K → LeavesInM Fence.wide 0 P fn a.tmps (fun e w' => ∃ v, e = .returned v ∧ K v w') a.defers .returning w := by
          intro env a w he hq
          unfold qja at hq
          rw [he.defers]
          unfold qcp
          split at hq
          · rename_i hl
            obtain ⟨vs, hr, hk⟩ := qic (fn := fn) he hq
            rw [hl]
            exact ⟨_, hr, _, rfl, hk⟩
          · rename_i D hl
            obtain ⟨hD, hq⟩ := hq
            obtain ⟨vs, hr, hk⟩ := qic (fn := fn) he hq
            rw [hl]
            exact ⟨by simp, .inl ⟨_, _, rfl, run_takeDeferred hD, _, hr, _, rfl, hk⟩⟩
          · exact hq.elim
        have hs := qdz c _ _ _ w he h
        rw [hrd] at hs
        refine wpIn_mono hs fun e a w hq => ?_
        cases e with
        | normal =>
          obtain ⟨env, he, hq⟩ := hq
          exact leave env a w he hq
        | ret =>
          obtain ⟨env, he, hq⟩ := hq
          exact leave env a w he hq
        | exit id => obtain ⟨env, he, hq⟩ := hq; exact hq.elim
        | goto l => obtain ⟨env, he, hq⟩ := hq; exact hq.elim
        | panic ch => exact hq.elim
        | outgrown => exact hq.elim
    · exact h.elim
  · exact h.elim
end Go.Proofs.YtcakfaakbpdklaaGreatDoorV
namespace Go.Proofs.YtcakfaakbpdklaaGreatDoorV
open Go
set_option linter.unusedVariables false
def qc3 : List Nat → Code → Code
  | [], c => c
  | i :: p, c => match c, i with
    | .seq x _, 0 => qc3 p x
    | .seq _ y, _ => qc3 p y
    | .cond _ x _, 0 => qc3 p x
    | .cond _ _ y, _ => qc3 p y
    | .block _ c, _ => qc3 p c
    | .loop c, _ => qc3 p c
    | .scope c, _ => qc3 p c
    | c, _ => c
def qxi : Code → Code
  | .rangeFunc _ _ x _ => x
  | c => c
def qxm : Code → Code
  | .rangeFunc _ _ _ x => x
  | c => c
def C.cz (l : Nat) (w : World) (F : World → Prop) : Prop := ∃ r, w.heap[l]? = some (.loop r) ∧ r.state = .ready ∧ F (w.putObj l (.loop { r with state := .busy }))
def C.cw (l : Nat) (pend : Option Code) (b : Bool) (st : LoopState) (w : World) (K : VK) : Prop := ∃ r, w.heap[l]? = some (.loop r) ∧ K (.bool b) (w.putObj l (.loop { r with state := st, pending := pend }))
def C.c0 (j : Option Code) (a b : Prop) (f : Nat → Prop) : Prop := match j with
  | none => a
  | some .ret => b
  | some (.exit id) => f id
  | _ => False
def C.cd (v : Value) (w : World) (F : World → Prop) : Prop := match v with
  | .int _ D => w.heap[D.toNat]? = some (.deferred (some [])) ∧ F (w.putObj D.toNat (.deferred none))
  | _ => False
def qmp (l : Nat) (K : VK) : QE := fun e _ w => match e with
  | .normal => ∃ r, w.heap[l]? = some (.loop r) ∧ K (.bool true) (w.putObj l (.loop { r with state := .ready, pending := none }))
  | .ret => ∃ r, w.heap[l]? = some (.loop r) ∧ K (.bool false) (w.putObj l (.loop { r with state := .done, pending := some .ret }))
  | .exit id => ∃ r, w.heap[l]? = some (.loop r) ∧ K (.bool false) (w.putObj l (.loop { r with state := .done, pending := some (.exit id) }))
  | _ => False
def qxn (A : Ann) (P : Program) (n l : Nat) (bd : Code) (K : VK) : QE := fun e env w => match e with
  | .normal => ∃ r, w.heap[l]? = some (.loop r) ∧ r.state = .ready ∧ qa7 A P n bd (qmp l K) env (w.putObj l (.loop { r with state := .busy }))
  | _ => False
def qv9 (A : Ann) (P : Program) (n l : Nat) (as bd : Code) (env : Env) (w : World) (K : VK) : Prop :=
  qa7 A P n as (qxn A P n l bd K) env w
def putPs : List (Nat × Value) → Env → Env
  | [], env => env
  | (t, v) :: r, env => putPs r ((t, v) :: env)
theorem Ext.putPs {n : Nat} : ∀ (l : List (Nat × Value)) (env : Env) (a : Act), (∀ x ∈ l, x.1 < n ∧ x.1 ≠ mkT) → Ext n env a →
    Ext n (putPs l env) { a with tmps := l.foldl (fun tmps x => tmps.setIfInBounds x.1 x.2) a.tmps }
  | [], env, a, _, h => h
  | (t, v) :: r, env, a, hl, h => by
    have h0 := hl (t, v) (by simp)
    have h1 := h.put v h0.1 h0.2
    exact Ext.putPs r _ _ (fun x hx => hl x (by simp [hx])) h1
theorem qmy {A : Ann} {P : Program} {n l : Nat} {r : Loop} {w : World} {args : Array Value} {env : Env} {K : VK} (hA : A.rd = some l) (hr : w.heap[l]? = some (.loop r)) (hn : r.tmps.size = n) (hps : args.size = r.params.size)
    (henv : ∀ t v, lkT env t = some v → r.tmps[t]? = some v) (hmk : lk env mkT = none) (hp : ∀ t ∈ r.params.toList, t < n ∧ t ≠ mkT)
    (h : qv9 A P n l r.assign r.body (putPs (r.params.toList.zip args.toList) env) w K) : C.ch P l args w K := by
  refine ⟨_, _, _, _, run_yield hr hps, ?_⟩
  have h0 : Ext n env { tmps := r.tmps, defers := [] } := ⟨by simp [qcp, hmk], hn, henv⟩
  have h1 := Ext.putPs (r.params.toList.zip args.toList) env _ (fun x hx => hp x.1 (List.of_mem_zip hx).1) h0
  have e : (r.params.zip args).foldl (fun tmps (x : Nat × Value) => tmps.setIfInBounds x.1 x.2) r.tmps = (r.params.toList.zip args.toList).foldl (fun tmps x => tmps.setIfInBounds x.1 x.2) r.tmps := by
    rw [← Array.foldl_toList, Array.toList_zip]
  have hs := qdz r.assign _ _ _ w h1 h
  rw [hA] at hs
  refine roundIn_of_wpIn (F := Fence.wide) (n := 0) trivial ?_
  rw [show ((r.params.zip args).foldl (fun tmps (x : Nat × Value) => match x with | (t, a) => tmps.setIfInBounds t a) r.tmps) = (r.params.zip args).foldl (fun tmps (x : Nat × Value) => tmps.setIfInBounds x.1 x.2) r.tmps from rfl, e]
  refine wpIn_mono hs fun e a w hq => ?_
  cases e with
  | normal =>
    obtain ⟨env', he', r', hr', hst, hq⟩ := hq
    refine ⟨_, run_beginRound hr' hst, ?_⟩
    have hs := qdz r.body _ _ _ _ he' hq
    rw [hA] at hs
    refine wpIn_mono hs fun e a w hq => ?_
    cases e with
    | normal => obtain ⟨_, _, r2, hr2, hk⟩ := hq; exact ⟨_, _, run_endRound none hr2, _, rfl, hk⟩
    | ret => obtain ⟨_, _, r2, hr2, hk⟩ := hq; exact ⟨_, _, run_endRound (some .ret) hr2, _, rfl, hk⟩
    | exit id => obtain ⟨_, _, r2, hr2, hk⟩ := hq; exact ⟨_, _, run_endRound (some (.exit id)) hr2, _, rfl, hk⟩
    | goto l => obtain ⟨_, _, hq⟩ := hq; exact hq.elim
    | panic c => exact hq.elim
    | outgrown => exact hq.elim
  | ret => obtain ⟨_, _, hq⟩ := hq; exact hq.elim
  | exit id => obtain ⟨_, _, hq⟩ := hq; exact hq.elim
  | goto l => obtain ⟨_, _, hq⟩ := hq; exact hq.elim
  | panic c => exact hq.elim
  | outgrown => exact hq.elim
end Go.Proofs.YtcakfaakbpdklaaGreatDoorV
