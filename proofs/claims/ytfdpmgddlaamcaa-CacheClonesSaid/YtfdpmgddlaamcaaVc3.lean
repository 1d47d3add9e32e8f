/- THE ENGINE, part 3: what a piece of code asks, as a plain statement ('vcCode'), that it is sound, and how a call follows ('calls_of_vc'). Own work. -/
import Derived.Test.YtfdpmgddlaamcaaVc2
import Derived.RangeFuncIn
import Derived.RangeFuncLeaves
import Derived.RangeFuncRecord
namespace Go.Proofs.YtfdpmgddlaamcaaV
open Go

abbrev QE := Exit → Env → World → Prop
structure Ann where
  cuts : List (Nat × List Nat)
  loops : List (Nat × List Nat)
  labels : List (Nat × List Nat)
  plans : List (Nat × Plan)
  rd : Option Nat := none
def assoc {α : Type} : List (Nat × α) → Nat → Option α
  | [], _ => none
  | (k, v) :: r, t => cond (Nat.beq k t) (some v) (assoc r t)
def firstR : Code → Option Nat
  | .region id _ _ => some id
  | .seq a _ => firstR a
  | .block _ c | .loop c | .scope c => firstR c
  | _ => none
def sub : List Nat → Env → Option Env
  | [], _ => some []
  | t :: ts, env => match lk env t, sub ts env with
    | some v, some r => some ((t, v) :: r)
    | _, _ => none
theorem lk_sub : ∀ (ts : List Nat) (env env' : Env), sub ts env = some env' → ∀ t v, lk env' t = some v → lk env t = some v
  | [], env, env', h, t, v, hv => by simp [sub] at h; subst h; simp [lk] at hv
  | t0 :: ts, env, env', h, t, v, hv => by
    simp only [sub] at h
    split at h
    · rename_i v0 r h0 hr
      simp only [Option.some.injEq] at h
      subst h
      rw [lk_cons] at hv
      by_cases ht : t0 = t
      · subst ht; simp only [if_true, Option.some.injEq] at hv; subst hv; exact h0
      · rw [if_neg ht] at hv; exact lk_sub ts env r hr t v hv
    · cases h
/-- Whoever comes behind is told of these slots alone. -/
def cutE (live : Option (List Nat)) (env : Env) (K : Env → Prop) : Prop :=
  match live with
  | none => K env
  | some ts => match sub ts env with
    | some env' => match lk env mkT, lk env' mkT with
      | some _, none => False
      | _, _ => K env'
    | none => False
theorem cutE_spec {n : Nat} {live : Option (List Nat)} {env : Env} {K : Env → Prop} {a : Act} (h : cutE live env K) (he : Ext n env a) : ∃ env', Ext n env' a ∧ K env' := by
  unfold cutE at h
  split at h
  · exact ⟨env, he, h⟩
  · split at h
    · rename_i env' hs
      split at h
      · exact h.elim
      · rename_i hne
        refine ⟨env', he.mono (lk_sub _ _ _ hs) fun hm => ?_, h⟩
        cases h1 : lk env mkT with
        | none => rw [h1] at hm; cases hm
        | some v =>
          cases h2 : lk env' mkT with
          | some u => rfl
          | none => exact (hne v h1 h2).elim
    · exact h.elim
def cutOf (l : List (Nat × List Nat)) (r : Option Nat) : Option (List Nat) := match r with | some r => assoc l r | none => none
def thenQ (A : Ann) (r : Option Nat) (Y : EK) (Q : QE) : QE := fun e env w => match e with
  | .normal => cutE (cutOf A.cuts r) env fun env' => Y env' w
  | e => Q e env w
def blockQ (id : Nat) (Q : QE) : QE := fun e env w => match e with
  | .exit i => cond (Nat.beq i id) (Q .normal env w) (Q (.exit i) env w)
  | e => Q e env w
def LoopP (P : Program) (n : Nat) (r : Option Nat) (body : Code) (Q : QE) (env : Env) (w : World) : Prop :=
  ∀ a, Ext n env a → ∀ (b : Frame) (k : List Item) (cs : List Frame), b.roundOf = r → ∃ e a' w', lift n Q e a' w' ∧ ArrivesIn (Machine.fenced P (Fc r)) P (lone (b.atR a (.code body :: .inLoop body :: k)) cs w) b k cs e a' w'
def loopQ (A : Ann) (P : Program) (n : Nat) (body : Code) (Q : QE) : QE := fun e env w => match e with
  | .normal => cutE (some ((cutOf A.loops (firstR body)).getD [])) env fun env' => LoopP P n A.rd body Q env' w
  | e => Q e env w
def ScopeP (P : Program) (n : Nat) (r : Option Nat) (body c : Code) (Q : QE) (env : Env) (w : World) : Prop :=
  ∀ a, Ext n env a → ∀ (b : Frame) (k : List Item) (cs : List Frame), b.roundOf = r → ∃ e a' w', lift n Q e a' w' ∧ ArrivesIn (Machine.fenced P (Fc r)) P (lone (b.atR a (.code c :: .inScope body :: k)) cs w) b k cs e a' w'
def scopeQ (A : Ann) (P : Program) (n : Nat) (body : Code) (Q : QE) : QE := fun e env w => match e with
  | .goto l => match findLabel body l with
    | some rest => cutE (some ((assoc A.labels l).getD [])) env fun env' => ScopeP P n A.rd body rest Q env' w
    | none => Q (.goto l) env w
  | e => Q e env w
/-- A region that draws its order: a condition on the world is chosen, under which its loads read the same. -/
def C.draw (w : World) (F : (World → Prop) → World → Prop) : Prop := ∃ S : World → Prop, S { w with drawn := w.drawn + 1 } ∧ F S { w with drawn := w.drawn + 1 }
def drawOk (A : Ann) (P : Program) (n id : Nat) (ops : Array Oper) : Option Plan :=
  match assoc A.plans id with
  | some p => cond (dstOk n ops.toList && Region.noSelect ops && P.follows .mixedOrders && planOk ops p none (Array.replicate ops.size false) && Nat.ble (plen p) ops.size) (some p) none
  | none => none
def vcRegion (A : Ann) (P : Program) (n id : Nat) (ops : Array Oper) (draw : Bool) (K : EK) (env : Env) (w : World) : Prop :=
  match draw with
  | false => cond (dstOk n ops.toList) (vcList P ops ops.toList env w K) False
  | true => match drawOk A P n id ops with
    | some p => cond (goOnly p || A.rd.isNone) (C.draw w fun S w => vcPlan P ops S (!goOnly p) K p false env w) False
    | none => False
/-- A range over a function: its one call, at the yield of a loop's record that was laid; then what a round has left. -/
def C.range (P : Program) (n : Nat) (gv : Value) (ps : Array Tmp) (as bd : Code) (env : Env) (w : World) (K : Nat → Option Code → World → Prop) : Prop :=
  match gv with
  | .func (.func f) first captured => cond (bodied P f) (∀ fn tmps, tmps.size = n → (∀ t v, lkT env t = some v → tmps[t]? = some v) →
    C.call P f (first.toList ++ ([Value.func (.yield (w.heap.size + 1)) #[] #[]] ++ captured.toList)).toArray ((w.alloc (.deferred (some []))).alloc (.loop { state := .ready, pending := none, fn := fn, tmps := tmps, params := ps, assign := as, body := bd, defers := w.heap.size })) fun _ w' =>
      ∃ rec, w'.heap[w.heap.size + 1]? = some (.loop rec) ∧ rec.state ≠ .busy ∧ K w.heap.size rec.pending (w'.putObj (w.heap.size + 1) (.loop { rec with state := .exhausted }))) False
  | _ => False
def rangeQ (Q : QE) (env : Env) (D : Nat) (j : Option Code) (w : World) : Prop :=
  match j with
  | none => Q .normal ((mkT, .int .i64 (D : Int)) :: env) w
  | some .ret => Q .ret ((mkT, .int .i64 (D : Int)) :: env) w
  | some (.exit id) => Q (.exit id) ((mkT, .int .i64 (D : Int)) :: env) w
  | _ => False
def vcCode (A : Ann) (P : Program) (n : Nat) : Code → QE → Env → World → Prop
  | .skip, Q, env, w => Q .normal env w
  | .label _, Q, env, w => Q .normal env w
  | .region id ops draw, Q, env, w => vcRegion A P n id ops draw (fun env w => Q .normal env w) env w
  | .seq x y, Q, env, w => vcCode A P n x (thenQ A (firstR y) (fun env w => vcCode A P n y Q env w) Q) env w
  | .cond c x y, Q, env, w => match ev env c with
    | some v => C.ite v (vcCode A P n x Q env w) (vcCode A P n y Q env w)
    | none => False
  | .block id c, Q, env, w => vcCode A P n c (blockQ id Q) env w
  | .loop c, Q, env, w => cutE (some ((cutOf A.loops (firstR c)).getD [])) env fun env' => LoopP P n A.rd c Q env' w
  | .scope c, Q, env, w => vcCode A P n c (scopeQ A P n c Q) env w
  | .exit id, Q, env, w => Q (.exit id) env w
  | .goto l, Q, env, w => Q (.goto l) env w
  | .ret, Q, env, w => Q .ret env w
  | .rangeFunc g ps as bd, Q, env, w => match ev env g, lk env mkT with
    | some gv, none => cond A.rd.isNone (C.range P n gv ps as bd env w (rangeQ Q env)) False
    | _, _ => False
  | _, _, _, _ => False

section
variable {A : Ann} {P : Program} {n : Nat}
theorem lift_normal {Q : QE} {a : Act} {w : World} {env : Env} (he : Ext n env a) (h : Q .normal env w) : lift n Q .normal a w := ⟨env, he, h⟩
theorem vcRegion_sound {id : Nat} {ops : Array Oper} {draw : Bool} {Q : QE} {env : Env} {w : World} {a : Act} (he : Ext n env a)
    (h : vcRegion A P n id ops draw (fun env w => Q .normal env w) env w) : (Code.region id ops draw).wpIn (Fc A.rd) 0 P (lift n Q) a w := by
  cases draw with
  | false =>
    simp only [vcRegion] at h
    cases hd : dstOk n ops.toList with
    | false => rw [hd] at h; exact h.elim
    | true =>
      rw [hd] at h
      exact wpIn_region_list (vcList_sound _ _ _ _ (dstOk_spec hd) he h)
  | true =>
    simp only [vcRegion] at h
    split at h
    · rename_i p hp
      unfold drawOk at hp
      split at hp
      · rename_i p' hp'
        cases hc : (dstOk n ops.toList && Region.noSelect ops && P.follows .mixedOrders && planOk ops p' none (Array.replicate ops.size false) && Nat.ble (plen p') ops.size) with
        | false => rw [hc] at hp; cases hp
        | true =>
          rw [hc] at hp
          cases hp
          simp only [Bool.and_eq_true] at hc
          obtain ⟨⟨⟨⟨h1, h2⟩, h3⟩, h4⟩, h5⟩ := hc
          cases hg : goOnly p with
          | true =>
            rw [hg] at h
            obtain ⟨S, hS, h⟩ := h
            exact wpIn_region_any h3 (((plan_soundIn (dstOk_spec h1) p hg).1 ops.size _ env a _ (Nat.le_of_ble_eq_true h5) h4 he h))
          | false =>
            rw [hg] at h
            cases hr : A.rd.isNone with
            | false => rw [hr] at h; exact h.elim
            | true =>
              rw [hr] at h
              simp only [Option.isNone_iff_eq_none] at hr
              obtain ⟨S, hS, h⟩ := h
              rw [hr]
              exact wpIn_wide.2 (wp_region_held h3 ((plan_sound h2 (dstOk_spec h1) p).1 ops.size _ env a _ (Nat.le_of_ble_eq_true h5) h4 he hS h))
      · cases hp
    · exact h.elim
section
variable {b : Frame} {a : Act} {k : List Item} {cs : List Frame} {w : World}
theorem stepR_scope {c : Code} : step P (lone (b.atR a (.code (.scope c) :: k)) cs w) = .next (lone (b.atR a (.code c :: .inScope c :: k)) cs w) :=
  step_lone_go (by simp [stepG, stepG.exec, Frame.atR])
theorem stepR_inScope {c : Code} : step P (lone (b.atR a (.inScope c :: k)) cs w) = .next (lone (b.atR a k) cs w) :=
  step_lone_go (by simp [stepG, stepG.exec, Frame.atR])
end
theorem room_Fc (r : Option Nat) (m : Nat) : (Fc r).room m := fun d hd => by simp [Fc, Fence.wide] at hd
theorem LoopP_wp {r : Option Nat} {body : Code} {Q : QE} {env : Env} {w : World} {a : Act} (he : Ext n env a) (h : LoopP P n r body Q env w) : (Code.loop body).wpIn (Fc r) 0 P (lift n Q) a w := by
  intro b k cs hro hb hr
  obtain ⟨e, a', w', hq, harr⟩ := h a he b k cs hro
  exact ⟨e, a', w', hq, .of_steps (.one (fenced_calm (n := 0) hb hr rfl) stepR_loop) harr⟩
theorem then_lift {r : Option Nat} {rr : Option Nat} {Y : Code} {Q : QE} (hY : ∀ env a w, Ext n env a → vcCode A P n Y Q env w → Y.wpIn (Fc rr) 0 P (lift n Q) a w) (e : Exit) (a : Act) (w : World)
    (h : lift n (thenQ A r (fun env w => vcCode A P n Y Q env w) Q) e a w) : Exit.then (Y.wpIn (Fc rr) 0 P (lift n Q)) (lift n Q) e a w := by
  cases e with
  | normal =>
    obtain ⟨env, he, h⟩ := h
    simp only [thenQ] at h
    obtain ⟨env', he', h'⟩ := cutE_spec h he
    exact hY env' a w he' h'
  | panic c => exact h.elim
  | outgrown => exact h.elim
  | exit i => exact h
  | goto l => exact h
  | ret => exact h
theorem vcCode_sound : ∀ (c : Code) (Q : QE) (env : Env) (a : Act) (w : World), Ext n env a → vcCode A P n c Q env w → c.wpIn (Fc A.rd) 0 P (lift n Q) a w := by
  intro c
  induction c with
  | skip => intro Q env a w he h; exact wpIn_skip ⟨env, he, h⟩
  | label l => intro Q env a w he h; exact wpIn_label ⟨env, he, h⟩
  | region id ops draw => intro Q env a w he h; exact vcRegion_sound he h
  | seq x y ihx ihy =>
    intro Q env a w he h
    exact wpIn_seq (wpIn_mono (ihx _ env a w he h) fun e a w hq => then_lift (fun env a w he h => ihy Q env a w he h) e a w hq)
  | cond c x y ihx ihy =>
    intro Q env a w he h
    simp only [vcCode] at h
    split at h
    · rename_i v hv
      obtain ⟨t, rfl, h1, h2⟩ := h
      exact wpIn_cond_split (he.eval hv) (fun ht => ihx Q env a w he (h1 ht)) (fun ht => ihy Q env a w he (h2 ht))
    · exact h.elim
  | block id c ih =>
    intro Q env a w he h
    refine wpIn_block (wpIn_mono (ih _ env a w he h) fun e a w hq => ?_)
    cases e with
    | exit i =>
      obtain ⟨env', he', hq⟩ := hq
      simp only [blockQ] at hq
      simp only [Exit.inBlock]
      cases hb : Nat.beq i id with
      | true =>
        rw [hb] at hq
        rw [if_pos (Nat.eq_of_beq_eq_true hb)]
        exact ⟨env', he', hq⟩
      | false =>
        rw [hb] at hq
        rw [if_neg (Nat.ne_of_beq_eq_false hb)]
        exact ⟨env', he', hq⟩
    | normal => exact hq
    | goto l => exact hq
    | ret => exact hq
    | panic c => exact hq
    | outgrown => exact hq
  | loop c _ =>
    intro Q env a w he h
    obtain ⟨env', he', h'⟩ := cutE_spec h he
    exact LoopP_wp he' h'
  | scope c ih =>
    intro Q env a w he h
    intro b k cs hro hb hr
    obtain ⟨e, a₁, w₁, hq, harr⟩ := ih _ env a w he h b (.inScope c :: k) cs hro hb hr
    have i0 := fenced_calm (P := P) (F := Fc A.rd) (n := 0) (fr := b.atR a (.code (.scope c) :: k)) (cs := cs) (w := w) hb hr rfl
    cases e with
    | normal => exact ⟨.normal, a₁, w₁, hq, .head i0 stepR_scope (StepsIn.trans harr (.one (fenced_calm (n := 0) hb hr rfl) stepR_inScope))⟩
    | exit id =>
      have hx : exitTo id (.inScope c :: k) = exitTo id k := by simp [exitTo]
      exact ⟨.exit id, a₁, w₁, hq, fun k' hk => .head i0 stepR_scope (harr.1 k' (by rw [hx]; exact hk)),
        fun hr' hk => let ⟨k₁, h1, h2⟩ := harr.2 hr' (by rw [hx]; exact hk); ⟨k₁, h1, .head i0 stepR_scope h2⟩⟩
    | goto l =>
      obtain ⟨env₁, he₁, hq⟩ := hq
      simp only [scopeQ] at hq
      split at hq
      · rename_i rest hrest
        obtain ⟨env₂, he₂, hq⟩ := cutE_spec hq he₁
        obtain ⟨e₂, a₂, w₂, hq₂, harr₂⟩ := hq a₁ he₂ b k cs hro
        exact ⟨e₂, a₂, w₂, hq₂, .of_steps (.head i0 stepR_scope (harr.1 _ (by simp [gotoIn, hrest]))) harr₂⟩
      · rename_i hnone
        have hx : gotoIn l (.inScope c :: k) = gotoIn l k := by simp [gotoIn, hnone]
        exact ⟨.goto l, a₁, w₁, ⟨env₁, he₁, hq⟩, fun k' hk => .head i0 stepR_scope (harr.1 k' (by rw [hx]; exact hk)),
          fun hr' hk => let ⟨k₁, h1, h2⟩ := harr.2 hr' (by rw [hx]; exact hk); ⟨k₁, h1, .head i0 stepR_scope h2⟩⟩
    | ret => exact ⟨.ret, a₁, w₁, hq, .of_steps (.one i0 stepR_scope) harr⟩
    | panic ch => exact hq.elim
    | outgrown => exact hq.elim
  | exit id => intro Q env a w he h; exact wpIn_exit ⟨env, he, h⟩
  | goto l => intro Q env a w he h; exact wpIn_goto ⟨env, he, h⟩
  | ret => intro Q env a w he h; exact wpIn_ret ⟨env, he, h⟩
  | rangeFunc g ps as bd _ _ =>
    intro Q env a w he h
    simp only [vcCode] at h
    split at h
    · rename_i gv hgv hmk
      cases hr : A.rd.isNone with
      | false => rw [hr] at h; exact h.elim
      | true =>
        rw [hr] at h
        simp only [Option.isNone_iff_eq_none] at hr
        rw [hr]
        have hg := he.eval hgv
        refine wpIn_rangeFunc fun fn _ => ?_
        simp only [cond_true] at h
        unfold C.range at h
        split at h
        · rename_i f' first captured
          cases hb : bodied P f' with
          | false => rw [hb] at h; exact h.elim
          | true =>
            rw [hb] at h
            have h := h fn a.tmps he.size he.has
            have hent := run_enterLoop_outer (P := P) (w := w) fn a.tmps ps as bd
            generalize (w.alloc (.deferred (some []))).alloc (.loop { state := .ready, pending := none, fn := fn, tmps := a.tmps, params := ps, assign := as, body := bd, defers := w.heap.size }) = W1 at *
            refine ⟨w.heap.size + 1, [{ target := .collected w.heap.size, args := #[] }], W1, { target := .fn (.func f') captured, args := first ++ #[Value.func (.yield (w.heap.size + 1)) #[] #[]] }, W1, f', (first ++ #[Value.func (.yield (w.heap.size + 1)) #[] #[]]) ++ captured, W1, hent, ?_, fun _ _ => trivial, ?_, fun hd => by simp [Fc, Fence.wide] at hd, ?_⟩
            · simp only [resolve, Deferred.ofValue, hg, Sem.run_pure]
              simp [Act.eval]
            · unfold bodied at hb
              split at hb
              · rename_i fn' hfn
                simp only [Bool.and_eq_true, Bool.not_eq_true'] at hb
                obtain ⟨hb1, hb2⟩ := hb
                have hb3 : fn'.body.isNone = false := by cases hq : fn'.body <;> simp_all
                simp only [invoke, callFunc, Sem.run_bind, Sem.run_pure, Result.andThen_ok, run_program, hfn, hb2, hb3, Bool.false_eq_true, if_false]
              · cases hb
            · have ha : (first ++ #[Value.func (.yield (w.heap.size + 1)) #[] #[]]) ++ captured = (first.toList ++ ([Value.func (.yield (w.heap.size + 1)) #[] #[]] ++ captured.toList)).toArray := by apply Array.ext'; simp
              rw [ha]
              refine CallsIn.mono (callsIn_wide.2 h) ?_
              rintro e w' ⟨v, rfl, rec, hrec, hst, hq⟩
              refine ⟨_, _, run_endLoop hrec hst, ?_⟩
              have he' : Ext n ((mkT, .int .i64 (w.heap.size : Int)) :: env) { a with defers := [{ target := .collected w.heap.size, args := #[] }] ++ a.defers } := by
                refine ⟨?_, he.size, fun t v hv => ?_⟩
                · have hm0 : marks env = [] := by unfold marks; rw [hmk]
                  have hm1 : marks ((mkT, .int .i64 (w.heap.size : Int)) :: env) = [{ target := .collected w.heap.size, args := #[] }] := by
                    unfold marks
                    rw [lk_cons, if_pos rfl]
                    simp
                  rw [hm1, he.defers, hm0]
                  rfl
                · obtain ⟨ht, hv⟩ := lkT_some hv
                  rw [lk_cons, if_neg (Ne.symm ht)] at hv
                  exact he.has t v (lkT_of ht hv)
              unfold rangeQ at hq
              cases hp : rec.pending with
              | none => rw [hp] at hq; exact ⟨_, he', hq⟩
              | some c =>
                rw [hp] at hq
                cases c with
                | ret => exact wpIn_ret ⟨_, he', hq⟩
                | exit id => exact wpIn_exit ⟨_, he', hq⟩
                | _ => exact hq.elim
        · exact h.elim
    · exact h.elim
  | refuse why => intro Q env a w he h; exact h.elim
/-- One round more. -/
theorem LoopP_step {body : Code} {Q : QE} {env : Env} {w : World} (h : vcCode A P n body (loopQ A P n body Q) env w) : LoopP P n A.rd body Q env w := by
  intro a he b k cs hro
  obtain ⟨e, a₁, w₁, hq, harr⟩ := vcCode_sound body _ env a w he h b (.inLoop body :: k) cs hro trivial (room_Fc _ _)
  cases e with
  | normal =>
    obtain ⟨env₁, he₁, hq⟩ := hq
    simp only [loopQ] at hq
    obtain ⟨env₂, he₂, hq⟩ := cutE_spec hq he₁
    obtain ⟨e₂, a₂, w₂, hq₂, harr₂⟩ := hq a₁ he₂ b k cs hro
    exact ⟨e₂, a₂, w₂, hq₂, .of_steps (StepsIn.trans harr (.one (fenced_calm (n := 0) trivial (room_Fc _ _) rfl) stepR_inLoop)) harr₂⟩
  | exit id => exact ⟨.exit id, a₁, w₁, hq, .pass (x := .inLoop body) rfl (fun _ _ => .inl (by simp)) harr⟩
  | goto l => exact ⟨.goto l, a₁, w₁, hq, .pass (x := .inLoop body) rfl (fun _ _ => .inl (by simp)) harr⟩
  | ret => exact ⟨.ret, a₁, w₁, hq, .pass (x := .inLoop body) rfl (fun _ _ => .inl (by simp)) harr⟩
  | panic ch => exact hq.elim
  | outgrown => exact hq.elim
theorem ScopeP_step {body c : Code} {Q : QE} {env : Env} {w : World} (h : vcCode A P n c (scopeQ A P n body Q) env w) : ScopeP P n A.rd body c Q env w := by
  intro a he b k cs hro
  obtain ⟨e, a₁, w₁, hq, harr⟩ := vcCode_sound c _ env a w he h b (.inScope body :: k) cs hro trivial (room_Fc _ _)
  cases e with
  | normal => exact ⟨.normal, a₁, w₁, hq, StepsIn.trans harr (.one (fenced_calm (n := 0) trivial (room_Fc _ _) rfl) stepR_inScope)⟩
  | exit id =>
    have hx : exitTo id (.inScope body :: k) = exitTo id k := by simp [exitTo]
    exact ⟨.exit id, a₁, w₁, hq, fun k' hk => harr.1 k' (by rw [hx]; exact hk), fun hr' hk => harr.2 hr' (by rw [hx]; exact hk)⟩
  | goto l =>
    obtain ⟨env₁, he₁, hq⟩ := hq
    simp only [scopeQ] at hq
    split at hq
    · rename_i rest hrest
      obtain ⟨env₂, he₂, hq⟩ := cutE_spec hq he₁
      obtain ⟨e₂, a₂, w₂, hq₂, harr₂⟩ := hq a₁ he₂ b k cs hro
      exact ⟨e₂, a₂, w₂, hq₂, .of_steps (harr.1 _ (by simp [gotoIn, hrest])) harr₂⟩
    · rename_i hnone
      have hx : gotoIn l (.inScope body :: k) = gotoIn l k := by simp [gotoIn, hnone]
      exact ⟨.goto l, a₁, w₁, ⟨env₁, he₁, hq⟩, fun k' hk => harr.1 k' (by rw [hx]; exact hk), fun hr' hk => harr.2 hr' (by rw [hx]; exact hk)⟩
  | ret => exact ⟨.ret, a₁, w₁, hq, harr⟩
  | panic ch => exact hq.elim
  | outgrown => exact hq.elim
end

/-! ### A place inside of code, and what comes behind it -/
def nav (A : Ann) (P : Program) (n : Nat) (F : Code → QE → Prop) : List Nat → Code → QE → Prop
  | [], c, Q => F c Q
  | i :: p, c, Q => match c, i with
    | .seq x y, 0 => nav A P n F p x (thenQ A (firstR y) (fun env w => vcCode A P n y Q env w) Q)
    | .seq _ y, _ => nav A P n F p y Q
    | .cond _ x _, 0 => nav A P n F p x Q
    | .cond _ _ y, _ => nav A P n F p y Q
    | .block id c, _ => nav A P n F p c (blockQ id Q)
    | .loop c, _ => nav A P n F p c (loopQ A P n c Q)
    | .scope c, 0 => nav A P n F p c (scopeQ A P n c Q)
    | .scope c, l => match findLabel c (l - 1) with
      | some rest => nav A P n F p rest (scopeQ A P n c Q)
      | none => False
    | _, _ => False
theorem nav_mono {A : Ann} {P : Program} {n : Nat} {F G : Code → QE → Prop} (hFG : ∀ c Q, F c Q → G c Q) : ∀ (p : List Nat) (c : Code) (Q : QE), nav A P n F p c Q → nav A P n G p c Q
  | [], c, Q, h => hFG c Q h
  | i :: p, c, Q, h => by
    cases c with
    | seq x y => cases i with
      | zero => exact nav_mono hFG p _ _ h
      | succ i => exact nav_mono hFG p _ _ h
    | cond v x y => cases i with
      | zero => exact nav_mono hFG p _ _ h
      | succ i => exact nav_mono hFG p _ _ h
    | block id c => exact nav_mono hFG p _ _ h
    | loop c => exact nav_mono hFG p _ _ h
    | scope c => cases i with
      | zero => exact nav_mono hFG p _ _ h
      | succ i =>
        unfold nav at h ⊢
        simp only at h ⊢
        cases hl : findLabel c (i + 1 - 1) with
        | none => rw [hl] at h; exact h.elim
        | some rest => rw [hl] at h; exact nav_mono hFG p _ _ h
    | _ => exact h.elim
def isLoop (A : Ann) (P : Program) (n : Nat) (env : Env) (w : World) : Code → QE → Prop
  | .loop b, Q => LoopP P n A.rd b Q env w
  | _, _ => False
def isRound (A : Ann) (P : Program) (n : Nat) (env : Env) (w : World) : Code → QE → Prop
  | .loop b, Q => vcCode A P n b (loopQ A P n b Q) env w
  | _, _ => False
theorem nav_round {A : Ann} {P : Program} {n : Nat} {env : Env} {w : World} {p : List Nat} {c : Code} {Q : QE} (h : nav A P n (isRound A P n env w) p c Q) : nav A P n (isLoop A P n env w) p c Q :=
  nav_mono (fun c Q h => by cases c <;> first | exact LoopP_step h | exact h.elim) p c Q h
def isJump (A : Ann) (P : Program) (n l : Nat) (env : Env) (w : World) : Code → QE → Prop
  | .scope c, Q => match findLabel c l with
    | some rest => ScopeP P n A.rd c rest Q env w
    | none => False
  | _, _ => False
def isPass (A : Ann) (P : Program) (n l : Nat) (env : Env) (w : World) : Code → QE → Prop
  | .scope c, Q => match findLabel c l with
    | some rest => vcCode A P n rest (scopeQ A P n c Q) env w
    | none => False
  | _, _ => False
theorem nav_pass {A : Ann} {P : Program} {n l : Nat} {env : Env} {w : World} {p : List Nat} {c : Code} {Q : QE} (h : nav A P n (isPass A P n l env w) p c Q) : nav A P n (isJump A P n l env w) p c Q :=
  nav_mono (fun c Q h => by
    cases c with
    | scope c =>
      unfold isPass at h
      unfold isJump
      simp only at h ⊢
      cases hl : findLabel c l with
      | none => rw [hl] at h; exact h.elim
      | some rest => rw [hl] at h; exact ScopeP_step h
    | _ => exact h.elim) p c Q h

/-! ### A call -/
def single : List Value → Value
  | [v] => v
  | vs => .tuple vs.toArray
def resQ (P : Program) : List ResultVar → Env → World → (List Value → Prop) → Prop
  | [], _, _, k => k []
  | .tmp t :: r, env, w, k => match lkT env t with
    | some v => resQ P r env w fun vs => k (v :: vs)
    | none => False
  | .cell x t :: r, env, w, k => match lkT env x, aggOf P t, szOf P t with
    | some p, some true, some n => C.loadA n p w fun v _ => resQ P r env w fun vs => k (v :: vs)
    | some p, some false, _ => C.load1 p w fun v _ => resQ P r env w fun vs => k (v :: vs)
    | _, _, _ => False
/-- A function leaves: where it held a range over a function, the block for the rounds' deferred calls is shut first. -/
def leaveQ (P : Program) (rs : List ResultVar) (env : Env) (w : World) (K : VK) : Prop :=
  match lk env mkT with
  | none => resQ P rs env w fun vs => K (single vs) w
  | some (.int _ D) => w.heap[D.toNat]? = some (.deferred (some [])) ∧ resQ P rs env (w.putObj D.toNat (.deferred none)) fun vs => K (single vs) (w.putObj D.toNat (.deferred none))
  | some _ => False
def retQ (P : Program) (rs : List ResultVar) (K : VK) : QE := fun e env w => match e with
  | .normal => leaveQ P rs env w K
  | .ret => leaveQ P rs env w K
  | _ => False
def argsE : List Value → Nat → Env
  | [], _ => []
  | v :: r, i => (i, v) :: argsE r (i + 1)
def vcFun (A : Ann) (P : Program) (f : FuncId) (args : List Value) (w : World) (K : VK) : Prop :=
  match P.funcs[f]? with
  | some fn => match fn.body with
    | some c => cond (Nat.ble args.length fn.ntmps && Nat.ble args.length 1000 && A.rd.isNone) (vcCode A P fn.ntmps c (retQ P fn.results.toList K) (argsE args 0) w) False
    | none => False
  | none => False
def resRun (a : Act) : ResultVar → Sem Value
  | .tmp t => pure (a.tmps.getD t undef)
  | .cell x t => do loadVar t (← asAddr (a.tmps.getD x undef))
theorem resQ_run {P : Program} {n : Nat} {env : Env} {a : Act} {w : World} (he : Ext n env a) : ∀ (rs : List ResultVar) (k : List Value → Prop), resQ P rs env w k →
    ∃ vs, (rs.mapM (resRun a)).run P w = .ok vs w ∧ k vs
  | [], k, h => ⟨[], by simp, h⟩
  | .tmp t :: r, k, h => by
    simp only [resQ] at h
    split at h
    · rename_i v hv
      obtain ⟨vs, hr, hk⟩ := resQ_run he r _ h
      refine ⟨v :: vs, ?_, hk⟩
      have := he.has t v hv
      have e : a.tmps.getD t undef = v := by simp [this]
      simp only [List.mapM_cons, resRun, Sem.run_bind, Sem.run_pure, Result.andThen_ok, hr, e]
    · exact h.elim
  | .cell x t :: r, k, h => by
    simp only [resQ] at h
    split at h
    · rename_i p m hp hag hm
      obtain ⟨ad, cs, rfl, hc, h⟩ := h
      obtain ⟨vs, hr, hk⟩ := resQ_run he r _ h
      refine ⟨_, ?_, hk⟩
      have e : a.tmps.getD x undef = .pointer (some ad) := by simp [he.has x _ hp]
      simp only [List.mapM_cons, resRun, Sem.run_bind, e, asAddr, Sem.run_pure, Result.andThen_ok, loadVar, run_aggOf hag, if_true, run_szOf hm, loadCells, rdCells_run P w ad m 0 #[] cs hc, hr]
      simp
    · rename_i p q hp hag
      obtain ⟨ad, v, rfl, hc, h⟩ := h
      obtain ⟨vs, hr, hk⟩ := resQ_run he r _ h
      refine ⟨_, ?_, hk⟩
      have e : a.tmps.getD x undef = .pointer (some ad) := by simp [he.has x _ hp]
      simp only [List.mapM_cons, resRun, Sem.run_bind, e, asAddr, Sem.run_pure, Result.andThen_ok, loadVar, run_aggOf hag, Bool.false_eq_true, if_false, run_load, hc, hr]
    · exact h.elim
theorem results_run {P : Program} {n : Nat} {env : Env} {a : Act} {w : World} {fn : Func} {K : List Value → Prop} (he : Ext n env a) (h : resQ P fn.results.toList env w K) :
    ∃ vs, (results fn a.tmps).run P w = .ok (single vs) w ∧ K vs := by
  obtain ⟨vs, hr, hk⟩ := resQ_run he _ _ h
  refine ⟨vs, ?_, hk⟩
  have hres : results fn a.tmps = (do
      let vs ← fn.results.mapM (resRun a)
      pure (if h : vs.size = 1 then vs[0] else .tuple vs)) := by
    unfold results
    congr 1
  rw [hres, Array.mapM_eq_mapM_toList]
  simp only [Sem.run_bind, Sem.run_map]
  rw [hr]
  simp only [Result.andThen_ok, Sem.run_pure, Result.ok.injEq, and_true]
  match vs with
  | [] => rfl
  | [v] => rfl
  | v :: u :: r => simp [single]
theorem argsE_lk : ∀ (l : List Value) (i t : Nat) (v : Value), lk (argsE l i) t = some v → i ≤ t ∧ l[t - i]? = some v
  | [], i, t, v, h => by simp [argsE, lk] at h
  | u :: l, i, t, v, h => by
    simp only [argsE] at h
    rw [lk_cons] at h
    by_cases hit : i = t
    · subst hit; simp only [if_true, Option.some.injEq] at h; subst h; simp
    · rw [if_neg hit] at h
      obtain ⟨h1, h2⟩ := argsE_lk l (i + 1) t v h
      refine ⟨by omega, ?_⟩
      have : t - i = (t - (i + 1)) + 1 := by omega
      rw [this, List.getElem?_cons_succ]
      exact h2
theorem calls_of_vc {A : Ann} {P : Program} {f : FuncId} {args : List Value} {w : World} {K : VK} (h : vcFun A P f args w K) : C.call P f args.toArray w K := by
  unfold vcFun at h
  split at h
  · rename_i fn hfn
    split at h
    · rename_i c hc
      cases hb : (Nat.ble args.length fn.ntmps && Nat.ble args.length 1000 && A.rd.isNone) with
      | false => rw [hb] at h; exact h.elim
      | true =>
        rw [hb] at h
        simp only [cond_true] at h
        simp only [Bool.and_eq_true, Option.isNone_iff_eq_none] at hb
        obtain ⟨⟨hb1, hb2⟩, hrd⟩ := hb
        have hle : args.length ≤ fn.ntmps := Nat.le_of_ble_eq_true hb1
        have hle2 : args.length ≤ 1000 := Nat.le_of_ble_eq_true hb2
        unfold C.call
        refine callsIn_wide.1 (callsIn_of_wp_marks (n := 0) hfn hc trivial ?_)
        have hmk : marks (argsE args 0) = [] := by
          unfold marks
          cases hl : lk (argsE args 0) mkT with
          | none => rfl
          | some v =>
            have := (argsE_lk args 0 mkT v hl).2
            have := (List.getElem?_eq_some_iff.1 this).1
            simp only [mkT, Nat.sub_zero] at this
            omega
        have he : Ext fn.ntmps (argsE args 0) { tmps := args.toArray ++ Array.replicate (fn.ntmps - args.toArray.size) undef, defers := [] } := by
          refine ⟨hmk.symm, by simp; omega, fun t v hv => ?_⟩
          obtain ⟨_, h2⟩ := argsE_lk args 0 t v (lkT_some hv).2
          simp only [Nat.sub_zero] at h2
          have hlt : t < args.length := (List.getElem?_eq_some_iff.1 h2).1
          rw [Array.getElem?_append_left (by simpa using hlt)]
          simpa using h2
        have leave : ∀ (env : Env) (a : Act) (w : World), Ext fn.ntmps env a → leaveQ P fn.results.toList env w K → LeavesInM Fence.wide 0 P fn a.tmps (fun e w' => ∃ v, e = .returned v ∧ K v w') a.defers .returning w := by
          intro env a w he hq
          unfold leaveQ at hq
          rw [he.defers]
          unfold marks
          split at hq
          · rename_i hl
            obtain ⟨vs, hr, hk⟩ := results_run (fn := fn) he hq
            rw [hl]
            exact ⟨_, hr, _, rfl, hk⟩
          · rename_i D hl
            obtain ⟨hD, hq⟩ := hq
            obtain ⟨vs, hr, hk⟩ := results_run (fn := fn) he hq
            rw [hl]
            exact ⟨by simp, .inl ⟨_, _, rfl, run_takeDeferred hD, _, hr, _, rfl, hk⟩⟩
          · exact hq.elim
        have hs := vcCode_sound c _ _ _ w he h
        rw [hrd] at hs
        refine wpIn_mono hs fun e a w hq => ?_
        cases e with
        | normal =>
          obtain ⟨env, he, hq⟩ := hq
          exact leave env a w he hq
        | ret =>
          obtain ⟨env, he, hq⟩ := hq
          exact leave env a w he hq
        | exit id => obtain ⟨env, he, hq⟩ := hq; exact hq.elim
        | goto l => obtain ⟨env, he, hq⟩ := hq; exact hq.elim
        | panic ch => exact hq.elim
        | outgrown => exact hq.elim
    · exact h.elim
  · exact h.elim
end Go.Proofs.YtfdpmgddlaamcaaV
