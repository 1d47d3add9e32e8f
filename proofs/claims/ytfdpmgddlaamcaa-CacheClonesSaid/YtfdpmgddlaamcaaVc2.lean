/- THE ENGINE, part 2: what a piece of code asks, as a plain statement ('vcCode'), that it is sound, and how a call follows. Own work. -/
import Derived.Test.YtfdpmgddlaamcaaVc1
import Derived.Scope
import Derived.Tactics
namespace Go.Proofs.YtfdpmgddlaamcaaV
open Go

/-! ### 1. Operations one behind the other -/
abbrev EK := Env → World → Prop
def putE (dst : Option Tmp) (v : Value) (env : Env) : Env := match dst with | some d => (d, v) :: env | none => env
def C.guard (want : Bool) (v : Value) (A B : Prop) : Prop := (v = .bool want → A) ∧ (v ≠ .bool want → B)
def C.guarded (want : Bool) (v : Value) (F : VK → Prop) (w : World) (K : VK) : Prop := C.guard want v (F K) (K undef w)
/-- A guard's way. -/
def vcGuard (ops : Array Oper) (o : Oper) (env : Env) (F : VK → Prop) (w : World) (K : VK) : Prop :=
  match o.guard with
  | none => F K
  | some (j, want) => match (ops[j]?).bind (·.dst) with
    | some t => match lkT env t with
      | some v => C.guarded want v F w K
      | none => False
    | none => False
def vcStep (P : Program) (ops : Array Oper) (o : Oper) (env : Env) (w : World) (K : EK) : Prop :=
  vcGuard ops o env (fun K => vcOp P o (ev env) w K) w (fun v w' => K (putE o.dst v env) w')
def vcList (P : Program) (ops : Array Oper) : List Oper → Env → World → EK → Prop
  | [], env, w, K => K env w
  | o :: l, env, w, K => vcStep P ops o env w fun env' w' => vcList P ops l env' w' K
def dstOk (n : Nat) (ops : List Oper) : Bool := ops.all fun o => match o.dst with | some d => Nat.blt d n && !(Nat.beq d mkT) | none => true

/-- What is meant by what comes behind. -/
def lift (n : Nat) (Q : Exit → Env → World → Prop) : Exit → Act → World → Prop
  | .panic _, _, _ => False
  | .outgrown, _, _ => False
  | e, a, w => ∃ env, Ext n env a ∧ Q e env w
def dOk (n : Nat) (o : Oper) : Prop := ∀ d, o.dst = some d → d < n ∧ d ≠ mkT
theorem Ext.putE {n : Nat} {env : Env} {a : Act} (h : Ext n env a) {o : Oper} (hd : dOk n o) (v : Value) : Ext n (putE o.dst v env) (a.put o.dst v) := by
  cases hq : o.dst with
  | none => exact h
  | some d => exact h.put v (hd d hq).1 (hd d hq).2
theorem Ext.yielded {n : Nat} {env : Env} {a : Act} (h : Ext n env a) {ops : Array Oper} {j t : Nat} {v : Value} (hj : (ops[j]?).bind (·.dst) = some t) (hv : lkT env t = some v) (want : Bool) :
    (Go.yielded ops a.tmps j == some want) = true ↔ v = .bool want := by
  unfold Go.yielded
  rw [hj]
  simp only [Option.bind_some, h.has t v hv]
  cases v <;> simp
theorem wanted_of {n : Nat} {env : Env} {a : Act} (h : Ext n env a) {ops : Array Oper} {o : Oper} {F : VK → Prop} {w : World} {K : VK} (hv : vcGuard ops o env F w K) :
    (Region.wanted o (yielded ops a.tmps) = true ∧ F K) ∨ (Region.wanted o (yielded ops a.tmps) = false ∧ K undef w) := by
  unfold vcGuard at hv
  cases hg : o.guard with
  | none => rw [hg] at hv; exact .inl ⟨by simp [Region.wanted, hg], hv⟩
  | some g =>
    obtain ⟨j, want⟩ := g
    rw [hg] at hv
    simp only at hv
    split at hv
    · rename_i t ht
      split at hv
      · rename_i v hl
        have hy := h.yielded ht hl want
        by_cases hb : v = .bool want
        · exact .inl ⟨by simp [Region.wanted, hg]; simpa using hy.2 hb, hv.1 hb⟩
        · refine .inr ⟨?_, hv.2 hb⟩
          have : ¬ (Go.yielded ops a.tmps j == some want) = true := fun e => hb (hy.1 e)
          simpa [Region.wanted, hg] using this
      · exact hv.elim
    · exact hv.elim
theorem vcList_sound {P : Program} {r : Option Nat} {n : Nat} {ops : Array Oper} {Q : Exit → Env → World → Prop} : ∀ (l : List Oper) (env : Env) (a : Act) (w : World), (∀ o ∈ l, dOk n o) → Ext n env a →
    vcList P ops l env w (fun env' w' => Q .normal env' w') → wpListIn (Fc r) 0 P ops (lift n Q) l a w
  | [], env, a, w, _, he, h => ⟨env, he, h⟩
  | o :: l, env, a, w, hd, he, h => by
    unfold wpListIn
    have hd0 := hd o (by simp)
    rcases wanted_of he h with ⟨hw, h1⟩ | ⟨hw, h1⟩
    · rw [if_pos hw]
      refine Goes.wpIn (vcOp_noDefer h1) (vcOp_sound (fun x v hv => he.eval hv) h1) ?_
      intro v w' hk
      exact vcList_sound l _ _ _ (fun o' ho' => hd o' (by simp [ho'])) (he.putE hd0 v) hk
    · rw [if_neg (by simp [hw])]
      exact ⟨fun _ _ => trivial, vcList_sound l _ _ _ (fun o' ho' => hd o' (by simp [ho'])) (he.putE hd0 undef) h1⟩
theorem dstOk_spec {n : Nat} {l : List Oper} (h : dstOk n l = true) : ∀ o ∈ l, dOk n o := by
  intro o ho d hd
  unfold dstOk at h
  rw [List.all_eq_true] at h
  have := h o ho
  rw [hd] at this
  simp only [Bool.and_eq_true, Bool.not_eq_true'] at this
  exact ⟨by simpa [Nat.blt_eq] using this.1, Nat.ne_of_beq_eq_false this.2⟩

/-! ### 2. A region that draws its order -/
inductive Plan where
  | fin
  | take (i : Nat) (p : Plan)
  | go (i : Nat) (p rest : Plan)
  deriving Inhabited
/-- Is the plan one for all orders? 'rs': in a chain, those that still have to be named. -/
def planOk (ops : Array Oper) : Plan → Option (List Nat) → Array Bool → Bool
  | .fin, none, listed => (Region.ready .any ops listed).isEmpty
  | .fin, some rs, _ => rs.isEmpty
  | .take i p, none, listed => (Region.ready .any ops listed).contains i && Region.free .any ops listed i && planOk ops p none (listed.setIfInBounds i true)
  | .take _ _, some _, _ => false
  | .go i p q, none, listed => match Region.ready .any ops listed with
    | j :: rs => Nat.beq j i && planOk ops p none (listed.setIfInBounds i true) && planOk ops q (some rs) listed
    | [] => false
  | .go i p q, some (j :: rs), listed => Nat.beq j i && planOk ops p none (listed.setIfInBounds i true) && planOk ops q (some rs) listed
  | .go _ _ _, some [], _ => false
/-- What looks into no memory. -/
def worldless (P : Program) (o : Oper) : Bool :=
  match o.op with
  | .move _ | .assign _ | .pick .. | .nilCheck _ | .fieldAddr .. | .indexAddr .. | .extract .. | .makeFunc .. => true
  | .binOp op t _ _ _ => isInt P t && plainInt op
  | .unOp .not _ _ => true
  | .convert s t _ => match P.underlying s, P.underlying t with | some (.int _), some (.int _) => true | _, _ => false
  | .call { callee := .builtin .len, args, argTypes } => ((argTypes[0]?).bind (sliceElem P)).isSome && Nat.beq args.size 1
  | _ => false
/-- A load that reads the same in whatever world there may be meanwhile. -/
def C.load1S (S : World → Prop) (p : Value) (w : World) (K : VK) : Prop := ∃ a v, p = .pointer (some a) ∧ (∀ w', S w' → w'.cell? a = some v) ∧ K v w
def C.loadAS (S : World → Prop) (n : Nat) (p : Value) (w : World) (K : VK) : Prop := ∃ a cs, p = .pointer (some a) ∧ (∀ w', S w' → rdCells w' a 0 n = some cs) ∧ K (.agg cs.toArray) w
def vcTake (P : Program) (S : World → Prop) (o : Oper) (ρ : Operand → Option Value) (w : World) (K : VK) : Prop :=
  cond (worldless P o) (vcOp P o ρ w K) (match o.op with
    | .load t x => match ρ x, aggOf P t, szOf P t with
      | some p, some true, some n => C.loadAS S n p w K
      | some p, some false, _ => C.load1S S p w K
      | _, _, _ => False
    | .binOp op t x y _ => match ρ x, ρ y with
      | some a, some b => ∃ v, (∀ w', S w' → (do eqGuard op t x y a b; binOp op t a b : Sem Value).run P w' = .ok v w') ∧ K v w
      | _, _ => False
    | .build t parts => match all2 (parts.toList.map fun p => ρ p.2) with
      | some vs => ∃ v, (∀ w', S w' → (Instr.build t ((parts.toList.map (·.1)).zip vs).toArray).run P w' = .ok v w') ∧ K v w
      | none => False
    | .slice t x lo hi none => match ρ x, lo.map ρ, hi.map ρ with
      | some _, some none, _ => False
      | some _, _, some none => False
      | some a, l, h => ∃ v, (∀ w', S w' → (Instr.sliceAt t a (l.bind id) (h.bind id) none).run P w' = .ok v w') ∧ K v w
      | none, _, _ => False
    | .call { callee := .builtin b, args, argTypes } => match all2 (args.toList.map ρ) with
      | some vs => ∃ v, (∀ w', S w' → (builtin b argTypes o.type (args.map fun | .const _ => true | _ => false) vs.toArray).run P w' = .ok (.value v) w') ∧ K v w
      | none => False
    | _ => False)
def C.plainFn (v : Value) (X : Prop) : Prop := (∀ l a b, v ≠ .func (.yield l) a b) ∧ X
/-- Its callee is no round. -/
def plainCall (o : Oper) (env : Env) (X : Prop) : Prop := match o.op with
  | .call { callee := .value (.func _), .. } => X
  | .call { callee := .value f, .. } => match ev env f with
    | some v => C.plainFn v X
    | none => False
  | _ => X
def vcPlan (P : Program) (ops : Array Oper) (S : World → Prop) (held : Bool) (K : EK) : Plan → Bool → Env → World → Prop
  | .fin, false, env, w => K env w
  | .fin, true, _, _ => True
  | .take i p, _, env, w => match ops[i]? with
    | none => False
    | some o => vcGuard ops o env (fun K' => vcTake P S o (ev env) w K') w (fun v w' => vcPlan P ops S held K p false (putE o.dst v env) w')
  | .go i p q, _, env, w => match ops[i]? with
    | none => False
    | some o => (cond held (plainCall o env (vcStep P ops o env w fun env' w' => S w' ∧ vcPlan P ops S held K p false env' w')) (vcStep P ops o env w fun env' w' => S w' ∧ vcPlan P ops S held K p false env' w')) ∧ vcPlan P ops S held K q true env w

section
variable {P : Program} {S : World → Prop} {ρ : Operand → Option Value} {a : Act} {w : World} {K : VK}
theorem sliceElem_spec {t e : TypeId} (he : sliceElem P t = some e) : P.underlying t = some (.slice e) := by
  unfold sliceElem at he
  split at he
  · cases he; assumption
  · cases he
theorem worldless_sound {o : Oper} (hρ : ∀ x v, ρ x = some v → a.eval x = v) (hwl : worldless P o = true) (h : vcOp P o ρ w K) :
    ∃ v, (∀ w', (execOp a.eval o).run P w' = .ok (.value v) w') ∧ K v w := by
  obtain ⟨dst, op, type, pos, after, guard⟩ := o
  cases op <;> simp only [worldless, Bool.false_eq_true] at hwl <;> simp only [vcOp] at h
  case move x =>
    split at h
    · rename_i v hv; exact ⟨v, fun w' => by simp [execOp, hρ x v hv], h⟩
    · exact h.elim
  case assign x =>
    split at h
    · rename_i v hv; exact ⟨v, fun w' => by simp [execOp, hρ x v hv], h⟩
    · exact h.elim
  case pick c x y =>
    obtain ⟨t, hc, v, hv, hk⟩ := h
    refine ⟨v, fun w' => ?_, hk⟩
    have hc' := hρ c _ hc
    cases t with
    | true => have := hρ x _ hv; simp [execOp, hc', asBool, this]
    | false => have := hρ y _ hv; simp [execOp, hc', asBool, this]
  case nilCheck x =>
    split at h
    · rename_i p hp
      obtain ⟨hn, hk⟩ := h
      refine ⟨p, fun w' => ?_, hk⟩
      have hx := hρ x _ hp
      cases p <;> simp_all [execOp, notNil]
      case pointer ad => cases ad <;> simp_all
      case func fn _ _ => cases fn <;> simp_all
    · exact h.elim
  case binOp op t x y yt =>
    split at h
    · rename_i u v hu hv
      have e1 := hρ x _ hu
      have e2 := hρ y _ hv
      rw [hwl] at h
      obtain ⟨k, m, n, r, rfl, rfl, hr, hk⟩ := h
      refine ⟨r, fun w' => ?_, hk⟩
      simp [execOp, e1, e2, run_eqGuard_int, run_binOp_int hr]
    · exact h.elim
  case unOp op t x =>
    cases op with
    | not =>
      simp only at h
      split at h
      · rename_i u hu
        obtain ⟨b, rfl, hk⟩ := h
        exact ⟨_, fun w' => by simp [execOp, hρ x _ hu, Op.unary], hk⟩
      · exact h.elim
    | _ => simp at hwl
  case convert s t x =>
    split at h
    · rename_i u hu
      split at h
      · rename_i k hs ht
        obtain ⟨k', n, rfl, hk⟩ := h
        refine ⟨_, fun w' => ?_, hk⟩
        simp [execOp, hρ x _ hu, convert, underlying, hs, ht, Conv.intToInt]
      · rename_i hno
        split at hwl
        · rename_i k1 k2 e1 e2; exact (hno _ _ e1 e2).elim
        · cases hwl
    · exact h.elim
  case makeFunc fn first captured =>
    split at h
    · rename_i l m hl hm
      refine ⟨_, fun w' => ?_, h⟩
      have h1 := all2_map hρ _ _ hl
      have h2 := all2_map hρ _ _ hm
      have h1' : first.map a.eval = l.toArray := by rw [← h1]; apply Array.ext'; simp
      have h2' : captured.map a.eval = m.toArray := by rw [← h2]; apply Array.ext'; simp
      simp [execOp, Instr.makeFunc, h1', h2']
    · exact h.elim
  case fieldAddr s x f =>
    split at h
    · rename_i p fl hp hf
      split at h
      · rename_i n hn
        obtain ⟨ad, rfl, hk⟩ := h
        refine ⟨_, fun w' => ?_, hk⟩
        have hs : ∃ fs, P.underlying s = some (.struct fs) ∧ fs[f]? = some fl := by
          unfold fieldOf at hf
          split at hf
          · exact ⟨_, ‹_›, hf⟩
          · cases hf
        obtain ⟨fs, hs, hfs⟩ := hs
        simp [execOp, Instr.fieldAt, underlying, hs, hfs, Instr.sureAddr, hρ x _ hp, fieldPlace, run_szOf hn]
      · exact h.elim
    · exact h.elim
  case indexAddr t x i =>
    split at h
    · rename_i u u' e hu hu' he
      split at h
      · rename_i n hn
        obtain ⟨g, len, cap, k, j, rfl, rfl, h0, h1, hk⟩ := h
        refine ⟨_, fun w' => ?_, hk⟩
        have hs := sliceElem_spec he
        simp [execOp, Instr.indexAt, asIntOf, underlying, hs, hρ x _ hu, hρ i _ hu', h0, h1, run_szOf hn]
      · exact h.elim
    · exact h.elim
  case extract x i =>
    split at h
    · rename_i u hu
      obtain ⟨vs, v, rfl, hv, hk⟩ := h
      exact ⟨v, fun w' => by simp [execOp, Instr.extract, hρ x _ hu, hv], hk⟩
    · exact h.elim
  case call c =>
    obtain ⟨callee, args, argTypes⟩ := c
    cases callee with
    | value f => simp at hwl
    | invoke r m => simp at hwl
    | builtin b =>
      cases b <;> simp only [Bool.false_eq_true] at hwl
      case len =>
        simp only [Bool.and_eq_true] at hwl
        obtain ⟨h1, h2⟩ := hwl
        cases hvs : all2 (args.toList.map ρ) with
        | none => simp only [hvs] at h
        | some vs =>
          have hargs := all2_map hρ _ _ hvs
          have hargs' : args.map a.eval = vs.toArray := by rw [← hargs]; apply Array.ext'; simp
          obtain ⟨e, he⟩ := Option.isSome_iff_exists.1 h1
          have hl : args.size = 1 := Nat.eq_of_beq_eq_true h2
          obtain ⟨x, rfl⟩ : ∃ x, vs = [x] := by
            have hv : vs.length = 1 := by rw [← hargs]; simpa using hl
            match vs, hv with
            | [x], _ => exact ⟨x, rfl⟩
          simp only [hvs, vcBuiltin, he] at h
          obtain ⟨g, n, c, rfl, hk⟩ := h
          refine ⟨_, fun w' => ?_, hk⟩
          simp only [Option.bind_eq_some_iff] at he
          obtain ⟨t, h0, he⟩ := he
          have hs := sliceElem_spec he
          simp only [execOp, resolve, hargs', invoke, Sem.run_bind, Sem.run_pure, Result.andThen_ok]
          simp [builtin, Builtin.len_, h0, underlying, hs, goInt]
/-- What a worldless operation, or one that reads under 'S', yields. -/
theorem vcTake_sound {o : Oper} (hρ : ∀ x v, ρ x = some v → a.eval x = v)
    (h : vcTake P S o ρ w K) : ∃ v, (∀ w', S w' → (execOp a.eval o).run P w' = .ok (.value v) w') ∧ K v w := by
  unfold vcTake at h
  cases hwl : worldless P o with
  | true =>
    rw [hwl] at h
    simp only [cond_true] at h
    obtain ⟨v, hv, hk⟩ := worldless_sound hρ hwl h
    exact ⟨v, fun w' _ => hv w', hk⟩
  | false =>
    rw [hwl] at h
    simp only [cond_false] at h
    obtain ⟨dst, op, type, pos, after, guard⟩ := o
    cases op <;> simp only at h <;> try exact h.elim
    case load t x =>
      split at h
      · rename_i p n hp hag hn
        obtain ⟨ad, cs, rfl, hc, hk⟩ := h
        refine ⟨_, fun w' hS => ?_, hk⟩
        simp [execOp, Instr.loadAt, Instr.sureAddr, hρ x _ hp, loadVar, run_aggOf hag, run_szOf hn, loadCells, rdCells_run P w' ad n 0 #[] cs (hc w' hS)]
      · rename_i p q hp hag
        obtain ⟨ad, v, rfl, hc, hk⟩ := h
        refine ⟨v, fun w' hS => ?_, hk⟩
        simp [execOp, Instr.loadAt, Instr.sureAddr, hρ x _ hp, loadVar, run_aggOf hag, hc w' hS]
      · exact h.elim
    case binOp op t x y yt =>
      split at h
      · rename_i u v hu hv
        have e1 := hρ x _ hu
        have e2 := hρ y _ hv
        obtain ⟨r, hr, hk⟩ := h
        refine ⟨r, fun w' hS => ?_, hk⟩
        have hr' := hr w' hS
        simp only [execOp, e1, e2]
        simp only [Sem.run_bind] at hr' ⊢
        rw [hr']; rfl
      · exact h.elim
    case build t parts =>
      split at h
      · rename_i vs hvs
        obtain ⟨v, hr, hk⟩ := h
        refine ⟨v, fun w' hS => ?_, hk⟩
        have := map_snd_map hρ _ _ hvs
        have hp : (parts.map fun (i, x) => (i, a.eval x)) = ((parts.toList.map (·.1)).zip vs).toArray := by
          rw [← this]; apply Array.ext' ; simp
        simp only [execOp, hp, Sem.run_bind, hr w' hS]; rfl
      · exact h.elim
    case slice t x lo hi mx =>
      cases mx with
      | some _ => exact h.elim
      | none =>
        simp only at h
        have hlo : ∀ l, lo.map ρ = l → l ≠ some none → lo.map a.eval = l.bind id := by
          intro l hl hne
          cases lo with
          | none => simp at hl; subst hl; rfl
          | some q =>
            simp at hl; subst hl
            cases hq : ρ q with
            | none => simp [hq] at hne
            | some z => simp [hρ q z hq]
        have hhi : ∀ l, hi.map ρ = l → l ≠ some none → hi.map a.eval = l.bind id := by
          intro l hl hne
          cases hi with
          | none => simp at hl; subst hl; rfl
          | some q =>
            simp at hl; subst hl
            cases hq : ρ q with
            | none => simp [hq] at hne
            | some z => simp [hρ q z hq]
        split at h
        · exact h.elim
        · exact h.elim
        · rename_i u l r hu h1 h2
          obtain ⟨v, hr, hk⟩ := h
          refine ⟨v, fun w' hS => ?_, hk⟩
          have e1 := hlo _ rfl (by assumption)
          have e2 := hhi _ rfl (by assumption)
          simp only [execOp, hρ x _ hu, e1, e2, Option.map_none, Sem.run_bind, hr w' hS]; rfl
        · exact h.elim
    case call c =>
      obtain ⟨callee, args, argTypes⟩ := c
      cases callee with
      | value f => exact h.elim
      | invoke r m => exact h.elim
      | builtin b =>
        simp only at h
        cases hvs : all2 (args.toList.map ρ) with
        | none => rw [hvs] at h; exact h.elim
        | some vs =>
          rw [hvs] at h
          obtain ⟨v, hr, hk⟩ := h
          have hargs := all2_map hρ _ _ hvs
          have hargs' : args.map a.eval = vs.toArray := by rw [← hargs]; apply Array.ext'; simp
          refine ⟨v, fun w' hS => ?_, hk⟩
          simp only [execOp, resolve, hargs', invoke, Sem.run_bind, Sem.run_pure, Result.andThen_ok]
          exact hr w' hS
theorem plainCall_spec {o : Oper} {env : Env} {n : Nat} {a : Act} {X : Prop} (he : Ext n env a) (h : plainCall o env X) : yieldsAt a.eval o = false ∧ X := by
  obtain ⟨dst, op, type, pos, after, guard⟩ := o
  cases op with
  | call c =>
    obtain ⟨callee, args, argTypes⟩ := c
    cases callee with
    | value f =>
      cases f with
      | func f' => exact ⟨by simp [yieldsAt, Act.eval], h⟩
      | tmp t =>
        simp only [plainCall] at h
        split at h
        · rename_i v hv
          have e := he.eval hv
          refine ⟨?_, h.2⟩
          simp only [yieldsAt, e]
          split
          · rename_i l a b; exact absurd rfl (h.1 l a b)
          · rfl
        · exact h.elim
      | const c =>
        simp only [plainCall] at h
        split at h
        · rename_i v hv
          have e := he.eval hv
          refine ⟨?_, h.2⟩
          simp only [yieldsAt, e]
          split
          · rename_i l a b; exact absurd rfl (h.1 l a b)
          · rfl
        · exact h.elim
      | global g =>
        simp only [plainCall] at h
        split at h
        · rename_i v hv
          have e := he.eval hv
          refine ⟨?_, h.2⟩
          simp only [yieldsAt, e]
          split
          · rename_i l a b; exact absurd rfl (h.1 l a b)
          · rfl
        · exact h.elim
    | _ => exact ⟨rfl, h⟩
  | _ => exact ⟨rfl, h⟩
theorem step_wpOp {n : Nat} {ops : Array Oper} {i : Nat} {o : Oper} {env : Env} {K : EK} {K' : Act → World → Prop} {Q : Exit → Act → World → Prop} (hi : ops[i]? = some o) (hc : yieldsAt a.eval o = false) (hd : dOk n o) (he : Ext n env a)
    (h : vcStep P ops o env w K) (hk : ∀ env' a' w', Ext n env' a' → K env' w' → K' a' w') : wpOp P ops Q i K' a w := by
  unfold wpOp
  simp only [hi]
  rcases wanted_of he h with ⟨hw, h1⟩ | ⟨hw, h1⟩
  · rw [if_pos hw]
    exact .inl (Goes.wp hc (vcOp_sound (fun x v hv => he.eval hv) h1) fun v w' hkv => hk _ _ _ (he.putE hd v) hkv)
  · rw [if_neg (by simp [hw])]
    exact hk _ _ _ (he.putE hd undef) h1
end
def plen : Plan → Nat
  | .fin => 0
  | .take _ p => plen p + 1
  | .go _ p q => max (plen p + 1) (plen q)
theorem plan_sound {P : Program} {n : Nat} {ops : Array Oper} {S : World → Prop} {Q : Exit → Env → World → Prop} (hs : Region.noSelect ops = true) (hd : ∀ o ∈ ops.toList, dOk n o) (p : Plan) :
    (∀ (fuel : Nat) (listed : Array Bool) (env : Env) (a : Act) (w : World), plen p ≤ fuel → planOk ops p none listed = true → Ext n env a → S w →
      vcPlan P ops S true (fun e w => Q .normal e w) p false env w → wpAnyH P .any ops (lift n Q) S fuel listed a w) ∧
    (∀ (fuel : Nat) (rs : List Nat) (listed : Array Bool) (env : Env) (a : Act) (w : World), plen p ≤ fuel + 1 → planOk ops p (some rs) listed = true → Ext n env a → S w →
      vcPlan P ops S true (fun e w => Q .normal e w) p true env w → ∀ i ∈ rs, wpOp P ops (lift n Q) i (fun a' w' => S w' ∧ wpAnyH P .any ops (lift n Q) S fuel (listed.setIfInBounds i true) a' w') a w) := by
  have hdi : ∀ (i : Nat) (o : Oper), ops[i]? = some o → dOk n o := fun i o ho => hd o (by simpa using Array.mem_of_getElem? ho)
  induction p with
  | fin =>
    refine ⟨?_, ?_⟩
    · intro fuel listed env a w _ hok he _ h
      exact wpAnyH_done (by simpa [planOk] using hok) ⟨env, he, h⟩ fuel
    · intro fuel rs listed env a w _ hok _ _ _ i hi
      simp only [planOk, List.isEmpty_iff] at hok
      subst hok
      cases hi
  | take i p ih =>
    refine ⟨?_, ?_⟩
    · intro fuel listed env a w hf hok he hS h
      obtain ⟨fuel, rfl⟩ : ∃ m, fuel = m + 1 := ⟨fuel - 1, by simp only [plen] at hf; omega⟩
      simp only [planOk, Bool.and_eq_true] at hok
      obtain ⟨⟨h1, h2⟩, h3⟩ := hok
      simp only [vcPlan] at h
      split at h
      · exact h.elim
      · rename_i o ho
        rcases wanted_of he h with ⟨hw, hv⟩ | ⟨hw, hv⟩
        · obtain ⟨v, hrun, hk⟩ := vcTake_sound (fun x v hv => he.eval hv) hv
          exact wpAnyH_take ho hs h2 h1 (fun c a w h => h) (.inl ⟨hw, hrun⟩) hS (ih.1 fuel _ _ _ _ (by simp only [plen] at hf; omega) h3 (he.putE (hdi i o ho) v) hS hk)
        · exact wpAnyH_take ho hs h2 h1 (fun c a w h => h) (.inr ⟨hw, rfl⟩) hS (ih.1 fuel _ _ _ _ (by simp only [plen] at hf; omega) h3 (he.putE (hdi i o ho) undef) hS hv)
    · intro fuel rs listed env a w _ hok
      simp [planOk] at hok
  | go i p q ih1 ih2 =>
    have one : ∀ (fuel : Nat) (listed : Array Bool) (env : Env) (a : Act) (w : World), plen p ≤ fuel → planOk ops p none (listed.setIfInBounds i true) = true → Ext n env a →
        vcPlan P ops S true (fun e w => Q .normal e w) (.go i p q) false env w →
        wpOp P ops (lift n Q) i (fun a' w' => S w' ∧ wpAnyH P .any ops (lift n Q) S fuel (listed.setIfInBounds i true) a' w') a w := by
      intro fuel listed env a w hf hok he h
      simp only [vcPlan] at h
      split at h
      · exact h.elim
      · rename_i o ho
        exact step_wpOp ho (plainCall_spec he h.1).1 (hdi i o ho) he (plainCall_spec he h.1).2 fun env' a' w' he' hk => ⟨hk.1, ih1.1 fuel _ env' a' w' hf hok he' hk.1 hk.2⟩
    have two : ∀ (env : Env) (w : World) (b : Bool), vcPlan P ops S true (fun e w => Q .normal e w) (.go i p q) b env w → vcPlan P ops S true (fun e w => Q .normal e w) (.go i p q) false env w ∧ vcPlan P ops S true (fun e w => Q .normal e w) q true env w := by
      intro env w b h
      refine ⟨by cases b <;> exact h, ?_⟩
      simp only [vcPlan] at h
      split at h
      · exact h.elim
      · exact h.2
    refine ⟨?_, ?_⟩
    · intro fuel listed env a w hf hok he hS h
      simp only [plen] at hf
      obtain ⟨fuel, rfl⟩ : ∃ m, fuel = m + 1 := ⟨fuel - 1, by omega⟩
      simp only [planOk] at hok
      split at hok
      · rename_i j rs hr
        simp only [Bool.and_eq_true] at hok
        obtain ⟨⟨h1, h2⟩, h3⟩ := hok
        obtain rfl : j = i := Nat.eq_of_beq_eq_true h1
        refine wpAnyH_all hr (by simp) fun m hm => ?_
        rcases List.mem_cons.1 hm with rfl | hm
        · exact one fuel listed env a w (by omega) h2 he (two env w false h).1
        · exact ih2.2 fuel rs listed env a w (by omega) h3 he hS (two env w false h).2 m hm
      · cases hok
    · intro fuel rs listed env a w hf hok he hS h m hm
      simp only [plen] at hf
      cases rs with
      | nil => cases hm
      | cons j rs =>
        simp only [planOk, Bool.and_eq_true] at hok
        obtain ⟨⟨h1, h2⟩, h3⟩ := hok
        obtain rfl : j = i := Nat.eq_of_beq_eq_true h1
        rcases List.mem_cons.1 hm with rfl | hm
        · exact one fuel listed env a w (by omega) h2 he (two env w true h).1
        · exact ih2.2 fuel rs listed env a w (by omega) h3 he hS (two env w true h).2 m hm

/-- A plan that names each order: it goes in whatever frame. -/
def goOnly : Plan → Bool
  | .fin => true
  | .take _ _ => false
  | .go _ p q => goOnly p && goOnly q
theorem step_wpOpIn {P : Program} {r : Option Nat} {n : Nat} {ops : Array Oper} {i : Nat} {o : Oper} {env : Env} {w : World} {a : Act} {K : EK} {K' : Act → World → Prop} {Q : Exit → Act → World → Prop} (hi : ops[i]? = some o) (hd : dOk n o) (he : Ext n env a)
    (h : vcStep P ops o env w K) (hk : ∀ env' a' w', Ext n env' a' → K env' w' → K' a' w') : wpOpIn (Fc r) 0 P ops Q i K' a w := by
  unfold wpOpIn
  simp only [hi]
  rcases wanted_of he h with ⟨hw, h1⟩ | ⟨hw, h1⟩
  · rw [if_pos hw]
    exact Goes.wpIn (vcOp_noDefer h1) (vcOp_sound (fun x v hv => he.eval hv) h1) fun v w' hkv => hk _ _ _ (he.putE hd v) hkv
  · rw [if_neg (by simp [hw])]
    exact ⟨fun _ _ => trivial, hk _ _ _ (he.putE hd undef) h1⟩
theorem plan_soundIn {P : Program} {r : Option Nat} {n : Nat} {ops : Array Oper} {S : World → Prop} {Q : Exit → Env → World → Prop} (hd : ∀ o ∈ ops.toList, dOk n o) (p : Plan) : goOnly p = true →
    (∀ (fuel : Nat) (listed : Array Bool) (env : Env) (a : Act) (w : World), plen p ≤ fuel → planOk ops p none listed = true → Ext n env a →
      vcPlan P ops S false (fun e w => Q .normal e w) p false env w → wpAnyIn (Fc r) 0 P .any ops (lift n Q) fuel listed a w) ∧
    (∀ (fuel : Nat) (rs : List Nat) (listed : Array Bool) (env : Env) (a : Act) (w : World), plen p ≤ fuel + 1 → planOk ops p (some rs) listed = true → Ext n env a →
      vcPlan P ops S false (fun e w => Q .normal e w) p true env w → ∀ i ∈ rs, wpOpIn (Fc r) 0 P ops (lift n Q) i (fun a' w' => wpAnyIn (Fc r) 0 P .any ops (lift n Q) fuel (listed.setIfInBounds i true) a' w') a w) := by
  have hdi : ∀ (i : Nat) (o : Oper), ops[i]? = some o → dOk n o := fun i o ho => hd o (by simpa using Array.mem_of_getElem? ho)
  induction p with
  | fin =>
    intro _
    refine ⟨?_, ?_⟩
    · intro fuel listed env a w _ hok he h
      exact wpAnyIn_done (by simpa [planOk] using hok) ⟨env, he, h⟩ fuel
    · intro fuel rs listed env a w _ hok _ _ i hi
      simp only [planOk, List.isEmpty_iff] at hok
      subst hok
      cases hi
  | take i p ih => intro h; cases h
  | go i p q ih1 ih2 =>
    intro hg
    simp only [goOnly, Bool.and_eq_true] at hg
    have ih1 := ih1 hg.1
    have ih2 := ih2 hg.2
    have one : ∀ (fuel : Nat) (listed : Array Bool) (env : Env) (a : Act) (w : World), plen p ≤ fuel → planOk ops p none (listed.setIfInBounds i true) = true → Ext n env a →
        vcPlan P ops S false (fun e w => Q .normal e w) (.go i p q) false env w →
        wpOpIn (Fc r) 0 P ops (lift n Q) i (fun a' w' => wpAnyIn (Fc r) 0 P .any ops (lift n Q) fuel (listed.setIfInBounds i true) a' w') a w := by
      intro fuel listed env a w hf hok he h
      simp only [vcPlan] at h
      split at h
      · exact h.elim
      · rename_i o ho
        have h1 : vcStep P ops o env w fun env' w' => S w' ∧ vcPlan P ops S false (fun e w => Q .normal e w) p false env' w' := h.1
        exact step_wpOpIn ho (hdi i o ho) he h1 fun env' a' w' he' hk => ih1.1 fuel _ env' a' w' hf hok he' hk.2
    have two : ∀ (env : Env) (w : World) (b : Bool), vcPlan P ops S false (fun e w => Q .normal e w) (.go i p q) b env w → vcPlan P ops S false (fun e w => Q .normal e w) (.go i p q) false env w ∧ vcPlan P ops S false (fun e w => Q .normal e w) q true env w := by
      intro env w b h
      refine ⟨by cases b <;> exact h, ?_⟩
      simp only [vcPlan] at h
      split at h
      · exact h.elim
      · exact h.2
    refine ⟨?_, ?_⟩
    · intro fuel listed env a w hf hok he h
      simp only [plen] at hf
      obtain ⟨fuel, rfl⟩ : ∃ m, fuel = m + 1 := ⟨fuel - 1, by omega⟩
      simp only [planOk] at hok
      split at hok
      · rename_i j rs hr
        simp only [Bool.and_eq_true] at hok
        obtain ⟨⟨h1, h2⟩, h3⟩ := hok
        obtain rfl : j = i := Nat.eq_of_beq_eq_true h1
        refine wpAnyIn_all hr (by simp) fun m hm => ?_
        rcases List.mem_cons.1 hm with rfl | hm
        · exact one fuel listed env a w (by omega) h2 he (two env w false h).1
        · exact ih2.2 fuel rs listed env a w (by omega) h3 he (two env w false h).2 m hm
      · cases hok
    · intro fuel rs listed env a w hf hok he h m hm
      simp only [plen] at hf
      cases rs with
      | nil => cases hm
      | cons j rs =>
        simp only [planOk, Bool.and_eq_true] at hok
        obtain ⟨⟨h1, h2⟩, h3⟩ := hok
        obtain rfl : j = i := Nat.eq_of_beq_eq_true h1
        rcases List.mem_cons.1 hm with rfl | hm
        · exact one fuel listed env a w (by omega) h2 he (two env w true h).1
        · exact ih2.2 fuel rs listed env a w (by omega) h3 he (two env w true h).2 m hm
end Go.Proofs.YtfdpmgddlaamcaaV
