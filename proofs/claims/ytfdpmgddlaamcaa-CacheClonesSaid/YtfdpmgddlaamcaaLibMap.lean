/- Maps of the call's own: looked up, written, struck, gone through. Own work. -/
import Derived.Test.YtfdpmgddlaamcaaOwn
import Derived.Maps.RangeRun
namespace Go.Proofs.YtfdpmgddlaamcaaV
open Go Go.RowKit
set_option linter.unusedVariables false
set_option linter.unusedSimpArgs false
section
variable {κ : Type}
def ent (kv : κ → Value) (x : κ × Value × Nat) : MapEntry := { key := kv x.1, val := x.2.1, born := x.2.2 }
/-- A map's block. -/
def MapAt (kv : κ → Value) (w : World) (b : Nat) (l : List (κ × Value × Nat)) (c : Nat) : Prop := w.heap[b]? = some (.map (l.map (ent kv)).toArray c)
theorem MapAt.keep {kv : κ → Value} {S : List Nat} {w w' : World} {b c : Nat} {l : List (κ × Value × Nat)} (h : MapAt kv w b l c) (hf : Fr S w w') (hS : b ∉ S) : MapAt kv w' b l c := hf.at_ h hS
theorem C.makeMap_of {P : Program} {w : World} {K : VK} {t : TypeId} {kv : κ → Value} (hk : ∀ w', Fr [] w w' → MapAt kv w' w.heap.size [] 0 → w'.heap.size = w.heap.size + 1 → K (.map (some w.heap.size)) w') : C.run P (Instr.makeMap t none) w K := by
  have hn := New.mk' w (.map #[] 0)
  refine C.run_of (v := .map (some w.heap.size)) (w' := w.alloc (.map #[] 0)) ?_ (hk _ hn.fr hn.at_ hn.sz)
  simp [Instr.makeMap, newObj, Sem.run]
end
section
variable {κ : Type} [DecidableEq κ]
/-- The first entry of a key. -/
def fnd (a : κ) : List (κ × Value × Nat) → Nat → Option (Nat × Value)
  | [], _ => none
  | x :: l, i => if x.1 = a then some (i, x.2.1) else fnd a l (i + 1)
theorem fnd_none {a : κ} : ∀ {l : List (κ × Value × Nat)} {i : Nat}, (∀ x ∈ l, x.1 ≠ a) → fnd a l i = none
  | [], _, _ => rfl
  | x :: l, i, h => by
    unfold fnd
    rw [if_neg (h x (by simp)), fnd_none fun y hy => h y (by simp [hy])]
theorem fnd_some {a : κ} : ∀ {l : List (κ × Value × Nat)} {i j : Nat} {x : κ × Value × Nat}, l[j]? = some x → x.1 = a → (∀ k y, k < j → l[k]? = some y → y.1 ≠ a) → fnd a l i = some (i + j, x.2.1)
  | [], _, _, _, h, _, _ => by simp at h
  | y :: l, i, 0, x, h, hx, _ => by
    simp only [List.getElem?_cons_zero, Option.some.injEq] at h
    subst h
    unfold fnd
    rw [if_pos hx]
    rfl
  | y :: l, i, j + 1, x, h, hx, hn => by
    simp only [List.getElem?_cons_succ] at h
    unfold fnd
    rw [if_neg (hn 0 y (by omega) rfl), fnd_some h hx fun k z hk hz => hn (k + 1) z (by omega) (by simpa using hz)]
    congr 2
    omega
theorem fnd_at {a : κ} : ∀ {l : List (κ × Value × Nat)} {i : Nat}, (∃ x ∈ l, x.1 = a) → ∃ (j : Nat) (x : κ × Value × Nat), l[j]? = some x ∧ x.1 = a ∧ (∀ k y, k < j → l[k]? = some y → y.1 ≠ a) ∧ fnd a l i = some (i + j, x.2.1)
  | [], _, h => by obtain ⟨x, hx, _⟩ := h; cases hx
  | y :: l, i, h => by
    by_cases c : y.1 = a
    · exact ⟨0, y, rfl, c, fun k _ hk => by omega, by unfold fnd; rw [if_pos c]; rfl⟩
    · have h' : ∃ x ∈ l, x.1 = a := by
        obtain ⟨x, hx, e⟩ := h
        rcases List.mem_cons.1 hx with d | d
        · subst d; exact absurd e c
        · exact ⟨x, d, e⟩
      obtain ⟨j, x, h1, h2, h3, h4⟩ := fnd_at (i := i + 1) h'
      refine ⟨j + 1, x, by simpa using h1, h2, fun k z hk hz => ?_, ?_⟩
      · cases k with
        | zero => simp at hz; subst hz; exact c
        | succ k => exact h3 k z (by omega) (by simpa using hz)
      · unfold fnd
        rw [if_neg c, h4]
        congr 2
        omega
/-- What the model asks of a key's type. -/
structure KeyOf (P : Program) (kt : TypeId) (kv : κ → Value) : Prop where
  check : ∀ e a w, (Instr.checkKey e 10000 kt (kv a)).run P w = .ok () w
  find : ∀ a l w, (Instr.findKey kt (kv a) (l.map (ent kv))).run P w = .ok (fnd a l 0) w
  same : ∀ a, Instr.sameBits 10000 (kv a) (kv a) = true
/-- Whole numbers. -/
theorem KeyOf.int {P : Program} {kt : TypeId} {k : IntKind} (hu : P.underlying kt = some (.int k)) : KeyOf P kt (fun a : Int => Value.int k a) where
  check := fun e a w => by
    have : ∀ n, (Instr.checkKey e (n + 1) kt (.int k a)).run P w = .ok () w := fun n => by simp [Instr.checkKey, run_underlying hu]
    exact this 9999
  find := fun a l w => by
    have key : ∀ (l : List (Int × Value × Nat)) (i : Nat), Instr.findNow (.int k) (.int k a) (l.map (ent fun a : Int => Value.int k a)) i = some (fnd a l i) := by
      intro l
      induction l with
      | nil => intro i; rfl
      | cons x l ih =>
        intro i
        simp only [List.map_cons, Instr.findNow, ent, Instr.sameNow, if_true, fnd]
        by_cases c : x.1 = a
        · have : (a == x.1) = true := by simp [c]
          simp [this, c]
        · have : (a == x.1) = false := by simp [Ne.symm c]
          simp only [this, if_neg c]
          exact ih (i + 1)
    simp [Instr.findKey, run_underlying hu, key]
  same := fun a => by
    show (k == k && a == a) = true
    simp
/-- Whatever is compared by the model's '=='. -/
theorem KeyOf.asked {P : Program} {kt : TypeId} {kv : κ → Value} {d : TypeDesc} (hu : P.underlying kt = some d) (hc : ∀ e a w, (Instr.checkKey e 10000 kt (kv a)).run P w = .ok () w) (hn : ∀ a b, Instr.sameNow d (kv a) (kv b) = none)
    (he : ∀ a b w, (Op.equal kt (kv a) (kv b)).run P w = .ok (decide (a = b)) w) (hs : ∀ a, Instr.sameBits 10000 (kv a) (kv a) = true) : KeyOf P kt kv where
  check := hc
  find := fun a l w => by
    have key : ∀ (l : List (κ × Value × Nat)) (i : Nat), (Instr.findAsking kt (kv a) (l.map (ent kv)) i).run P w = .ok (fnd a l i) w := by
      intro l
      induction l with
      | nil => intro i; rfl
      | cons x l ih =>
        intro i
        simp only [List.map_cons, Instr.findAsking, ent, Sem.run_bind, he, Result.andThen_ok, fnd]
        by_cases c : x.1 = a
        · simp [c]
        · simp only [Ne.symm c, decide_false, Bool.false_eq_true, if_false, if_neg c]
          exact ih (i + 1)
    cases l with
    | nil => simp [Instr.findKey, run_underlying hu, Instr.findNow, fnd]
    | cons x l =>
      have := key (x :: l) 0
      simp only [List.map_cons] at this ⊢
      simp [Instr.findKey, run_underlying hu, Instr.findNow, ent, hn] at this ⊢
      exact this
  same := hs
section
variable {P : Program} {w : World} {K : VK} {t kt et : TypeId} {kv : κ → Value} {b c : Nat} {l : List (κ × Value × Nat)}
theorem getObj_at {es : Array MapEntry} {k : Nat} (hb : w.heap[b]? = some (.map es k)) : (getObj b).run P w = .ok (.map es k) w := by simp [getObj, Sem.run, hb]
theorem upd_putObj {o : Obj} (hb : w.heap[b]? = some o) (o' : Obj) : Upd w b o' (w.putObj b o') := by
  have hlt := lt_of_at hb
  refine ⟨⟨rfl, rfl, rfl, by simp, fun i _ hi => ?_⟩, World.putObj_heap_same hlt, by simp⟩
  simp only [List.mem_singleton] at hi
  exact World.putObj_heap_other hi
theorem setObj_map (es : Array MapEntry) (k : Nat) {es' : Array MapEntry} {k' : Nat} (hb : w.heap[b]? = some (.map es' k')) : (setObj b (.map es k)).run P w = .ok () (w.putObj b (.map es k)) := by
  simp [setObj, Sem.run, World.putObj, hb]
theorem C.lookup_of (hK : KeyOf P kt kv) (ht : P.underlying t = some (.map kt et)) {z : Value} (hz : zeroOf P et = some z) (hb : MapAt kv w b l c) (a : κ) {ok : Bool} {v : Value} {is : Bool}
    (hv : (fnd a l 0 = none ∧ v = z ∧ is = false) ∨ (∃ j, fnd a l 0 = some (j, v) ∧ is = true)) (hk : K (if ok then .tuple #[v, .bool is] else v) w) : C.run P (Instr.lookup t (.map (some b)) (kv a) ok) w K := by
  refine C.run_of ?_ hk
  have hz' := run_zeroOf (w := w) hz
  rcases hv with ⟨h1, rfl, rfl⟩ | ⟨j, h1, rfl⟩
  · simp only [Instr.lookup, Sem.run_bind, run_underlying ht, Result.andThen_ok, getObj_at hb, hK.check, hK.find, h1, hz', Sem.run_pure]
  · simp only [Instr.lookup, Sem.run_bind, run_underlying ht, Result.andThen_ok, getObj_at hb, hK.check, hK.find, h1, hz', Sem.run_pure]
/-- A new key. -/
theorem C.mapNew_of {KU : World → Prop} (hK : KeyOf P kt kv) (ht : P.underlying t = some (.map kt et)) (hb : MapAt kv w b l c) (a : κ) (v : Value) (hn : fnd a l 0 = none)
    (hk : ∀ w', Fr [b] w w' → w'.heap.size = w.heap.size → MapAt kv w' b (l ++ [(a, v, c)]) (c + 1) → KU w') : C.runU P (Instr.mapUpdate t (.map (some b)) (kv a) v) w KU := by
  have hu := upd_putObj hb (.map ((l.map (ent kv)).toArray.push { key := kv a, val := v, born := c }) (c + 1))
  refine ⟨_, ?_, hk _ hu.fr hu.sz ?_⟩
  · simp only [Instr.mapUpdate, Sem.run_bind, run_underlying ht, Result.andThen_ok, getObj_at hb, hK.check, hK.find, hn, setObj_map _ _ hb]
  · have := hu.at_
    rw [List.push_toArray] at this
    simpa [MapAt, ent] using this
/-- A key that is there. -/
theorem C.mapSet_of {KU : World → Prop} (hK : KeyOf P kt kv) (ht : P.underlying t = some (.map kt et)) (hb : MapAt kv w b l c) (a : κ) (v : Value) {j : Nat} {x : κ × Value × Nat} (hj : l[j]? = some x) (hx : x.1 = a) (hf : fnd a l 0 = some (j, x.2.1))
    (hk : ∀ w', Fr [b] w w' → w'.heap.size = w.heap.size → MapAt kv w' b (l.set j (a, v, x.2.2)) c → KU w') : C.runU P (Instr.mapUpdate t (.map (some b)) (kv a) v) w KU := by
  subst hx
  have hjl : j < l.length := (List.getElem?_eq_some_iff.1 hj).1
  have hxj : l[j] = x := (List.getElem?_eq_some_iff.1 hj).2
  have hkey : ((((l.map (ent kv)).toArray)[j]?).map (·.key)).getD (kv x.1) = kv x.1 := by simp [hj, ent]
  have hu := upd_putObj hb (.map ((l.map (ent kv)).toArray.modify j fun e => { e with key := kv x.1, val := v }) c)
  refine ⟨_, ?_, hk _ hu.fr hu.sz ?_⟩
  · simp only [Instr.mapUpdate, Sem.run_bind, run_underlying ht, Result.andThen_ok, getObj_at hb, hK.check, hK.find, hf, hkey, Instr.keyThatStays, hK.same, if_true, Sem.run_pure, setObj_map _ _ hb]
  · have := hu.at_
    have e : (l.map (ent kv)).toArray.modify j (fun e => { e with key := kv x.1, val := v }) = ((l.set j (x.1, v, x.2.2)).map (ent kv)).toArray := by
      apply Array.ext
      · simp
      · intro i h1 h2
        simp only [Array.getElem_modify, List.getElem_toArray, List.getElem_map, List.getElem_set]
        split
        · rename_i e; subst e; simp [ent, hxj]
        · rfl
    exact this.trans (by rw [e])
/-- delete(m, k) -/
theorem C.delete_of {t' ty : TypeId} (hK : KeyOf P kt kv) (ht : P.underlying t = some (.map kt et)) (hb : MapAt kv w b l c) (a : κ) {l' : List (κ × Value × Nat)} (hl : l' = match fnd a l 0 with | some (j, _) => l.eraseIdx j | none => l)
    (hk : ∀ w', Fr [b] w w' → w'.heap.size = w.heap.size → MapAt kv w' b l' c → K (.tuple #[]) w') : C.run P (Builtin.delete_ #[t, t'] ty #[.map (some b), kv a]) w K := by
  have hu := upd_putObj hb (.map ((l'.map (ent kv)).toArray) c)
  refine C.run_of (v := .tuple #[]) ?_ (hk _ hu.fr hu.sz hu.at_)
  cases hf : fnd a l 0 with
  | none =>
    rw [hf] at hl
    subst hl
    simp [Builtin.delete_, run_underlying ht, getObj_at hb, hK.check, hK.find, hf, setObj_map _ _ hb]
  | some p =>
    obtain ⟨j, v⟩ := p
    rw [hf] at hl
    subst hl
    have e : (l.map (ent kv)).toArray.eraseIdxIfInBounds j = ((l.eraseIdx j).map (ent kv)).toArray := by
      apply Array.ext'
      simp [List.eraseIdx_eq_take_drop_succ]
    simp only [Builtin.delete_, List.getElem?_toArray, List.getElem?_cons_zero, List.getElem?_cons_succ, Sem.run_bind, run_underlying ht, Result.andThen_ok, getObj_at hb, hK.check, hK.find, hf, setObj_map _ _ hb, e, Sem.run_pure]
end
end
end Go.Proofs.YtfdpmgddlaamcaaV
