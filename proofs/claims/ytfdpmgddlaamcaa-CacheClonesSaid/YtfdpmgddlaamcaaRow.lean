/- THE ENGINE, part 6: slices that are read; a law's arguments opened; a law's row out of its call. Own work. -/
import Derived.Test.YtfdpmgddlaamcaaVc5
import Derived.Carry
import Derived.ChangeOld
import Derived.SizedLaws
import Derived.Deep.Slices
import Derived.OpenShut
import Derived.ProofKit
namespace Go.Proofs.YtfdpmgddlaamcaaV
open Go Go.RowKit Go.ChangeShapes Go.WideShapes Go.ChangeAt
set_option linter.unusedVariables false
set_option linter.unusedSimpArgs false

/-! ### 1. A slice that is read: its elements' cells -/
def RdS (w : World) (v : Value) (sz : Nat) (xs : List (List Value)) : Prop :=
  ∃ A c, v = .slice A xs.length c ∧ xs.length ≤ c ∧ c ≤ maxLen ∧ (xs ≠ [] → ∃ g o cs e fz, A = some ⟨g, o, none⟩ ∧ w.heap[g]? = some (.cells cs e fz) ∧ ∀ i x, xs[i]? = some x → x.length = sz ∧ ∀ j, j < sz → cs[o + (i * sz + j)]? = x[j]?)
theorem RdS.keep {w w' : World} {v : Value} {sz : Nat} {xs : List (List Value)} (h : RdS w v sz xs) (hf : Fr [] w w') : RdS w' v sz xs := by
  obtain ⟨A, c, rfl, h1, h2, h3⟩ := h
  refine ⟨A, c, rfl, h1, h2, fun hx => ?_⟩
  obtain ⟨g, o, cs, e, fz, rfl, hg, hc⟩ := h3 hx
  exact ⟨g, o, cs, e, fz, rfl, hf.at_ hg (by simp), hc⟩
theorem RdS.len_c {P : Program} {K : VK} {w : World} {v : Value} {sz : Nat} {xs : List (List Value)} (h : RdS w v sz xs) : ∃ A c, v = .slice A xs.length c ∧ xs.length ≤ c := by
  obtain ⟨A, c, rfl, h1, _⟩ := h
  exact ⟨A, c, rfl, h1⟩
theorem RdS.le {w : World} {v : Value} {sz : Nat} {xs : List (List Value)} (h : RdS w v sz xs) : xs.length ≤ 9223372036854775807 := by
  obtain ⟨A, c, rfl, h1, h2, _⟩ := h
  unfold maxLen at h2
  omega
theorem C.len_rd {K : VK} {w w1 : World} {v : Value} {sz : Nat} {xs : List (List Value)} (h : RdS w1 v sz xs) (hk : K (.int .i64 (xs.length : Int)) w) : C.len v w K := by
  obtain ⟨A, c, rfl, _⟩ := h
  simpa only [C.len_mk] using hk
/-- The element at an index: where its cells are. -/
theorem C.idx_rd {K : VK} {w : World} {v : Value} {sz : Nat} {xs : List (List Value)} {k : IntKind} {i : Int} (h : RdS w v sz xs) {x : List Value} (h0 : 0 ≤ i) (hx : xs[i.toNat]? = some x)
    (hk : ∀ g o cs e fz, w.heap[g]? = some (.cells cs e fz) → x.length = sz → (∀ j, j < sz → cs[o + j]? = x[j]?) → K (.pointer (some ⟨g, o, none⟩)) w) : C.idx sz v (.int k i) w K := by
  obtain ⟨A, c, rfl, h1, h2, h3⟩ := h
  have hlt : i.toNat < xs.length := (List.getElem?_eq_some_iff.1 hx).1
  obtain ⟨g, o, cs, e, fz, rfl, hg, hc⟩ := h3 (by intro he; rw [he] at hlt; simp at hlt)
  obtain ⟨hl, hj⟩ := hc _ _ hx
  rw [C.idx_mk]
  exact ⟨⟨h0, by omega⟩, hk g _ cs e fz hg hl fun j hjs => by rw [Nat.add_assoc]; exact hj j hjs⟩
theorem RdS.take {w : World} {A : Option Addr} {n c sz : Nat} {xs : List (List Value)} (h : RdS w (.slice A n c) sz xs) (m : Nat) (hm : m ≤ n) : RdS w (.slice A m c) sz (xs.take m) := by
  obtain ⟨A', c', he, h1, h2, h3⟩ := h
  simp only [Value.slice.injEq] at he
  obtain ⟨rfl, rfl, rfl⟩ := he
  have hl : (xs.take m).length = m := by rw [List.length_take]; omega
  refine ⟨A, c, by rw [hl], by rw [hl]; omega, h2, fun hx => ?_⟩
  obtain ⟨g, o, cs, e, fz, rfl, hg, hc⟩ := h3 (by intro e; rw [e] at hx; simp at hx)
  refine ⟨g, o, cs, e, fz, rfl, hg, fun i x hi => hc i x ?_⟩
  rw [List.getElem?_take] at hi
  split at hi
  · exact hi
  · cases hi

/-! ### 2. What a flat type's cells are -/
inductive CK where
  | int (k : IntKind)
  | bool
def CK.ok : CK → Value → Prop
  | .int k, v => ∃ n, v = .int k n ∧ (Lit.int k n).wf = true
  | .bool, v => ∃ b, v = .bool b
/-- Fields' kinds, one behind the other. -/
def flatF (kd : TypeId → Option (List CK)) (sz : TypeId → Nat) : List Field → Nat → Option (List CK)
  | [], _ => some []
  | f :: fs, off => cond (Nat.beq f.offset off) (match kd f.type with
    | some ks => cond (Nat.beq (sz f.type) ks.length) (match flatF kd sz fs (off + ks.length) with
      | some r => some (ks ++ r)
      | none => none) none
    | none => none) none
def flatK (P : Program) : Nat → TypeId → Option (List CK)
  | 0, _ => none
  | d + 1, t => match P.underlying t with
    | some (.int k) => some [.int k]
    | some .bool => some [.bool]
    | some (.struct fs) => match flatF (flatK P d) P.cellsOf fs.toList 0 with
      | some ks => cond (Nat.beq (P.cellsOf t) ks.length) (some ks) none
      | none => none
    | _ => none
def okCells : List CK → List Value → Prop
  | [], [] => True
  | k :: ks, v :: vs => k.ok v ∧ okCells ks vs
  | _, _ => False
theorem okCells_append : ∀ {ks ks' : List CK} {vs vs' : List Value}, okCells ks vs → okCells ks' vs' → okCells (ks ++ ks') (vs ++ vs')
  | [], _, [], _, _, h => h
  | k :: ks, _, v :: vs, _, h, h' => ⟨h.1, okCells_append h.2 h'⟩
  | [], _, _ :: _, _, h, _ => h.elim
  | _ :: _, _, [], _, h, _ => h.elim
theorem okCells_length : ∀ {ks : List CK} {vs : List Value}, okCells ks vs → vs.length = ks.length
  | [], [], _ => rfl
  | k :: ks, v :: vs, h => by simp [okCells_length h.2]
  | [], _ :: _, h => h.elim
  | _ :: _, [], h => h.elim
section
variable {H : Type} {enc : TypeId × Value → H} {P : Program} {w : World} {base : Nat} {spare : Nat → Bool} {held : Bool}
theorem trod_bool' {t : TypeId} {fuel : Nat} {cs : List Value} {x : DataW H × List MemPlace} (ht : P.underlying t = some .bool) (h : DataW.trod enc P w base spare held fuel t cs = some x) : ∃ b, cs = [.bool b] := by
  cases fuel with
  | zero => simp [DataW.trod] at h
  | succ n =>
    unfold DataW.trod at h
    rw [ht] at h
    split at h <;> simp_all
theorem flatF_ok {n : Nat} {kd : TypeId → Option (List CK)} {cs : List Value} (hkd : ∀ t ks cs' x, kd t = some ks → DataW.trod enc P w base spare held n t cs' = some x → okCells ks cs') :
    ∀ (fs : List Field) (off : Nat) (ks : List CK), flatF kd P.cellsOf fs off = some ks → off + ks.length = cs.length → (∀ f ∈ fs, ∃ x, DataW.trod enc P w base spare held n f.type ((cs.drop f.offset).take (P.cellsOf f.type)) = some x) → okCells ks (cs.drop off)
  | [], off, ks, hf, hl, _ => by
    simp only [flatF, Option.some.injEq] at hf
    subst hf
    simp only [List.length_nil, Nat.add_zero] at hl
    rw [List.drop_of_length_le (by omega)]
    trivial
  | f :: fs, off, ks, hf, hl, ht => by
    simp only [flatF] at hf
    cases h1 : Nat.beq f.offset off with
    | false => rw [h1] at hf; cases hf
    | true =>
      rw [h1] at hf
      simp only [cond_true] at hf
      have e1 : f.offset = off := Nat.eq_of_beq_eq_true h1
      cases hk : kd f.type with
      | none => rw [hk] at hf; cases hf
      | some k1 =>
        rw [hk] at hf
        simp only at hf
        cases h2 : Nat.beq (P.cellsOf f.type) k1.length with
        | false => rw [h2] at hf; cases hf
        | true =>
          rw [h2] at hf
          simp only [cond_true] at hf
          have e2 : P.cellsOf f.type = k1.length := Nat.eq_of_beq_eq_true h2
          cases hr : flatF kd P.cellsOf fs (off + k1.length) with
          | none => rw [hr] at hf; cases hf
          | some r =>
            rw [hr] at hf
            simp only [Option.some.injEq] at hf
            subst hf
            rw [List.length_append] at hl
            obtain ⟨x, hx⟩ := ht f (by simp)
            have a1 := hkd _ _ _ _ hk hx
            have a2 := flatF_ok hkd fs (off + k1.length) r hr (by omega) fun f' hf' => ht f' (by simp [hf'])
            rw [e1, e2] at a1
            have := okCells_append a1 a2
            rw [← List.drop_drop, List.take_append_drop] at this
            exact this
theorem trod_flat : ∀ (d : Nat) {t : TypeId} {ks : List CK} {fuel : Nat} {cs : List Value} {x : DataW H × List MemPlace}, flatK P d t = some ks → DataW.trod enc P w base spare held fuel t cs = some x → okCells ks cs
  | 0, _, _, _, _, _, hk, _ => by simp [flatK] at hk
  | d + 1, t, ks, fuel, cs, x, hk, h => by
    simp only [flatK] at hk
    split at hk
    · rename_i k hu
      simp only [Option.some.injEq] at hk
      subst hk
      obtain ⟨n, rfl, _, hw⟩ := DataW.trod_int hu h
      exact ⟨⟨n, rfl, hw⟩, trivial⟩
    · rename_i hu
      simp only [Option.some.injEq] at hk
      subst hk
      obtain ⟨b, rfl⟩ := trod_bool' hu h
      exact ⟨⟨b, rfl⟩, trivial⟩
    · rename_i fs hu
      split at hk
      · rename_i ks' hf
        cases hb : Nat.beq (P.cellsOf t) ks'.length with
        | false => rw [hb] at hk; cases hk
        | true =>
          rw [hb] at hk
          simp only [cond_true, Option.some.injEq] at hk
          subst hk
          obtain ⟨xs, n, rfl, rfl, hl, hxl, hx⟩ := DataW.trod_struct hu h
          have := flatF_ok (n := n) (cs := cs) (fun t ks cs' x hk hx => trod_flat d hk hx) fs.toList 0 ks' hf (by rw [hl, Nat.eq_of_beq_eq_true hb]; omega) fun f hf => by
            obtain ⟨i, hi, rfl⟩ := List.getElem_of_mem hf
            have hi' : i < fs.size := by simpa using hi
            have := hx i fs[i] (by simp [hi'])
            simp only [Array.getElem_toList]
            rw [this, List.getElem?_eq_getElem (by omega)]
            exact ⟨_, rfl⟩
          simpa using this
      · cases hk
    · cases hk
/-- A slice of flat elements, opened. -/
theorem open_flat {t e : TypeId} {d : Nat} {ks : List CK} {v : Value} {dd : DataW H} {ps : List MemPlace} (ht : P.underlying t = some (.slice e)) (hk : flatK P d e = some ks) (hc : P.cellsOf e = ks.length) (hpos : 0 < ks.length)
    (h : DataW.Trod enc P w base spare held t v dd ps) (hv : v.cells.toList = [v]) : ∃ xs, RdS w v ks.length xs ∧ ∀ x ∈ xs, okCells ks x := by
  obtain ⟨fuel, h⟩ := h
  rw [hv] at h
  rcases Deep.open_slice ht h with ⟨h1, _⟩ | ⟨a, len, cap, m, n, D, Pl, h1, hb, hl, hm, rfl, _, hx⟩
  · simp only [List.cons.injEq, and_true] at h1
    subst h1
    exact ⟨[], ⟨none, 0, rfl, by simp, by simp [maxLen], fun h => absurd rfl h⟩, by simp⟩
  · simp only [List.cons.injEq, and_true] at h1
    subst h1
    have hx' : ∀ i, i < len → ∃ cs', w.cells? base (a.add (i * P.cellsOf e)) (P.cellsOf e) = some cs' ∧ okCells ks cs' := fun i hi => by
      obtain ⟨cs', h1, h2⟩ := hx i (by split <;> omega)
      exact ⟨cs', h1, trod_flat d hk h2⟩
    rw [hc] at hx'
    obtain ⟨X, hX⟩ := Deep.choose_lt (α := List Value) hx'
    have hlen : ((List.range len).map X).length = len := by simp
    refine ⟨(List.range len).map X, ⟨some a, cap, by rw [hlen], by rw [hlen]; exact hl, hm, fun hne => ?_⟩, fun x hx => ?_⟩
    · have h0 : 0 < len := by
        rcases Nat.eq_zero_or_pos len with h0 | h0
        · subst h0; simp at hne
        · exact h0
      obtain ⟨hc0, hok⟩ := hX 0 h0
      obtain ⟨_, _, hcell⟩ := World.cells?_some hc0
      have hl0 := okCells_length hok
      have h00 := hcell 0 hpos
      simp only [Nat.zero_mul] at h00
      have ha0 : (a.add 0).add 0 = a := by simp [Addr.add]
      rw [ha0, List.getElem?_eq_getElem (by omega)] at h00
      obtain ⟨g, o, sp⟩ := a
      have hsp : sp = none := by
        cases sp with
        | none => rfl
        | some s => simp [World.cell?] at h00; split at h00 <;> simp_all
      subst hsp
      have hblk : ∃ cs e fz, w.heap[g]? = some (.cells cs e fz) := by
        simp only [World.cell?] at h00
        split at h00
        · rename_i c e' fz hg; exact ⟨c, e', fz, hg⟩
        · cases h00
      obtain ⟨cs, e', fz, hg⟩ := hblk
      refine ⟨g, o, cs, e', fz, rfl, hg, fun i x hi => ?_⟩
      have hi' : i < len := by have := (List.getElem?_eq_some_iff.1 hi).1; simpa using this
      simp only [List.getElem?_map, List.getElem?_range hi', Option.map_some, Option.some.injEq] at hi
      subst hi
      obtain ⟨hci, hoki⟩ := hX i hi'
      obtain ⟨_, _, hcelli⟩ := World.cells?_some hci
      refine ⟨okCells_length hoki, fun j hj => ?_⟩
      have := hcelli j hj
      rw [add_mk, add_mk, cell_mk hg] at this
      rw [← this, Nat.add_assoc]
    · obtain ⟨i, hi, rfl⟩ := List.mem_map.1 hx
      exact (hX i (by simpa using hi)).2
end

theorem open_flat_arg {H : Type} {enc : TypeId × Value → H} {P : Program} {w : World} {base b0 : Nat} {r : Reach} {spare : Nat → Bool} {held : Bool} {t e : TypeId} {d : Nat} {ks : List CK} {v : Value} {dd : DataW H} {ps : List MemPlace}
    (ht : P.underlying t = some (.slice e)) (hk : flatK P d e = some ks) (hc : P.cellsOf e = ks.length) (hpos : 0 < ks.length) (hv : Value.okWide P w r b0 t v) (h : DataW.Trod enc P w base spare held t v dd ps) :
    ∃ xs, RdS w v ks.length xs ∧ ∀ x ∈ xs, okCells ks x := by
  obtain ⟨a, len, cap, rfl⟩ := okWide_slice ht hv
  exact open_flat ht hk hc hpos h rfl
theorem open_struct_arg {H : Type} {enc : TypeId × Value → H} {P : Program} {w : World} {base b0 : Nat} {r : Reach} {spare : Nat → Bool} {held : Bool} {t : TypeId} {fs : Array Field} {d : Nat} {ks : List CK} {v : Value} {dd : DataW H} {ps : List MemPlace}
    (ht : P.underlying t = some (.struct fs)) (hk : flatK P d t = some ks) (hv : Value.okWide P w r b0 t v) (h : DataW.Trod enc P w base spare held t v dd ps) :
    ∃ cs, v = .agg cs ∧ okCells ks cs.toList := by
  obtain ⟨cs, rfl, _⟩ := okWide_struct ht hv
  obtain ⟨fuel, h⟩ := h
  exact ⟨cs, rfl, trod_flat d hk h⟩
/-- Two numbers of one kind. -/
theorem ok2 {k1 k2 : IntKind} {x : List Value} (h : okCells [.int k1, .int k2] x) : ∃ n m, x = [.int k1 n, .int k2 m] ∧ (Lit.int k1 n).wf = true ∧ (Lit.int k2 m).wf = true := by
  match x with
  | [] => exact h.elim
  | [_] => exact h.2.elim
  | _ :: _ :: _ :: _ => exact h.2.2.elim
  | [a, b] =>
    obtain ⟨⟨n, ha, h1⟩, ⟨m, hb, h2⟩, _⟩ := h
    exact ⟨n, m, by rw [ha, hb], h1, h2⟩
theorem ok1 {k1 : IntKind} {x : List Value} (h : okCells [.int k1] x) : ∃ n, x = [.int k1 n] ∧ (Lit.int k1 n).wf = true := by
  match x with
  | [] => exact h.elim
  | _ :: _ :: _ => exact h.2.elim
  | [a] =>
    obtain ⟨⟨n, ha, h1⟩, _⟩ := h
    exact ⟨n, by rw [ha], h1⟩
theorem okB {x : List Value} (h : okCells [.bool] x) : ∃ b, x = [.bool b] := by
  match x with
  | [] => exact h.elim
  | _ :: _ :: _ => exact h.2.elim
  | [a] =>
    obtain ⟨⟨n, ha⟩, _⟩ := h
    exact ⟨n, by rw [ha]⟩
/-! ### 3. A law's row -/
theorem trodAll_len {H : Type} {enc : TypeId × Value → H} {P : Program} {w : World} {base : Nat} {spare : Nat → Bool} {held : Bool} : ∀ (ts : List TypeId) (vs : List Value) (ds : List (DataW H)) (ps : List MemPlace),
    DataW.TrodAll enc P w base spare held ts vs ds ps → vs.length = ts.length ∧ ds.length = ts.length
  | [], vs, ds, ps, h => by obtain ⟨rfl, rfl, _⟩ := trodAll_nil h; exact ⟨rfl, rfl⟩
  | t :: ts, vs, ds, ps, h => by
    obtain ⟨v, vs', d, ds', p, q, rfl, rfl, _, _, h'⟩ := trodAll_cons h
    have := trodAll_len ts vs' ds' q h'
    simp [this]
theorem trodAll_stays {H : Type} {enc : TypeId × Value → H} {P : Program} {W W' : World} (hl : laidOutB P = true) (hb : Below W.heap.size W W') : ∀ (ts : List TypeId) (vs : List Value) (ds : List (DataW H)) (ps : List MemPlace),
    (∀ t ∈ ts, P.readableRec t = true ∧ t < P.types.size) → DataW.TrodAll enc P W 0 (fun _ => true) true ts vs ds ps → (∀ x ∈ ps, x.block < W.heap.size) →
    DataW.TrodAll enc P W' 0 (fun b => decide (b < W.heap.size)) true ts vs ds ps
  | [], vs, ds, ps, _, h, _ => by obtain ⟨rfl, rfl, rfl⟩ := trodAll_nil h; exact rfl
  | t :: ts, vs, ds, ps, hr, h, hlt => by
    obtain ⟨v, vs', d, ds', p, q, rfl, rfl, rfl, h0, h'⟩ := trodAll_cons h
    obtain ⟨h1, h2⟩ := hr t (by simp)
    exact ⟨p, q, Below.trod hl h1 h2 h0 hb (fun x hx => hlt x (by simp [hx])), trodAll_stays hl hb ts vs' ds' q (fun t ht => hr t (by simp [ht])) h' (fun x hx => hlt x (by simp [hx])), rfl⟩
/-- What is known of a law's arguments. -/
structure ArgsOk {H : Type} (enc : TypeId × Value → H) (P : Program) (fn : Func) (W : World) (args : Array Value) (ds : List (DataW H)) (ps : List MemPlace) : Prop where
  trod : DataW.TrodAll enc P W 0 (fun _ => true) true fn.params.toList args.toList ds ps
  wide : ∃ base, ∀ (j : Nat) t v, fn.params[j]? = some t → args[j]? = some v → Value.okWide P W .any base t v
  reach : (DataW.weightsEach P fn.params.toList ds).all (· ≤ reachBytes) = true
  lt : ∀ x ∈ ps, x.block < W.heap.size
theorem law_lifted {M : Checked} {os : Os} {f : FuncId} {fn : Func} {s : ChangeSpec} {H : Type} {enc : TypeId × Value → H}
    (own : ownKnob M.prog.godebug = none) (started : os.Started) (noInit : M.prog.inits.idxOf? f = none) (hfn : M.prog.funcs[f]? = some fn) {conds : List PathCond}
    (witness : ∃ (w : World) (tape : Tape) (i : Input), w.os = os ∧ (w.forCall tape i).Shaped M.prog ∧ i.vars = [] ∧ Input.okWide M.prog (w.forCall tape i) .any w.heap.size f i ∧
      s.pre6 enc M.prog fn conds false (w.forCall tape i).memory i.args ∧ ({} : Assume).holds M.prog (lone (Frame.enter M.prog f i.args .normal) [] (w.forCall tape i)))
    (hvars : s.vars = []) (hpv : s.plain.varTypes M.prog = []) (hlaid : laidOutB M.prog = true) (hread : (fn.params.toList.all fun t => M.prog.readableRec t && Nat.blt t M.prog.types.size) = true)
    {tb : TypeId} (hres : fn.resultTypes = #[tb]) (hub : M.prog.underlying tb = some .bool) (hspec : ∀ ds : List (DataW H), ds.length = fn.params.toList.length → s.fn H ds = { results := [.lit (.bool true)], args := ds })
    (contract : ∀ (W : World) (args : Array Value) (ds : List (DataW H)) (ps : List MemPlace), ArgsOk enc M.prog fn W args ds ps → C.call M.prog f args W fun v W' => v = .bool true ∧ Fr [] W W') :
    ReturnsInHanded {} M os f .any (s.pre6 enc M.prog fn conds false) (s.post enc M.prog fn false true false false) := by
  refine returnsInHanded_of_change_sized own started noInit hfn witness ?_
  intro W base args ds gs before hval hW hcnd hsz _
  have hW' := hW
  obtain ⟨p, q, hA, hV, rfl, hfz, hnd⟩ := hW
  rw [hvars] at hV
  obtain ⟨rfl, rfl⟩ := trodVars_none hV
  simp only [List.append_nil] at *
  have hlt : ∀ x ∈ p, x.block < W.heap.size := fun x hx => hW'.lt x hx
  rw [hpv, List.append_nil] at hsz
  refine Calls.mono (contract W args ds p ⟨hA, ⟨base, hval⟩, hsz, hlt⟩) ?_
  rintro e W' ⟨v, rfl, rfl, hf⟩
  refine ⟨_, rfl, ds, [], p, [], p, [], hW', ?_, ?_, ?_, hf.below.frame _, fun h => by cases h⟩
  · rw [List.append_nil, hspec ds (trodAll_len _ _ _ _ hA).2, hres]
    exact trodAll_mk1 (shut_bool hub _)
  · rw [List.append_nil, hspec ds (trodAll_len _ _ _ _ hA).2]
    refine trodAll_stays hlaid hf.below _ _ _ _ (fun t ht => ?_) hA hlt
    have := List.all_eq_true.1 hread t ht
    simp only [Bool.and_eq_true] at this
    exact ⟨this.1, by simpa [Nat.blt_eq] using this.2⟩
  · rw [List.append_nil, hspec ds (trodAll_len _ _ _ _ hA).2, hvars]
    rfl
end Go.Proofs.YtfdpmgddlaamcaaV
