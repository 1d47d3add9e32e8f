/- THE ENGINE: a law's row under a condition of the specification's own. Own work. -/
import Derived.Test.YtfdpmgddlaamcaaRow
import Derived.Deep.CondSized
namespace Go.Proofs.YtfdpmgddlaamcaaV
open Go Go.Proofs Go.RowKit Go.ChangeShapes Go.WideShapes Go.ChangeAt
set_option linter.unusedVariables false
set_option linter.unusedSimpArgs false
theorem law_lifted_cond {M : Checked} {os : Os} {f : FuncId} {fn : Func} {s : ChangeSpec} {k : (H : Type) → List (DataW H) → Bool} {F : Stop.Interp} {H : Type} {enc : TypeId × Value → H}
    (own : ownKnob M.prog.godebug = none) (started : os.Started) (noInit : M.prog.inits.idxOf? f = none) (hfn : M.prog.funcs[f]? = some fn) {conds : List PathCond}
    (witness : ∃ (w : World) (tape : Tape) (i : Input), w.os = os ∧ (w.forCall tape i).Shaped M.prog ∧ i.vars = [] ∧ Input.okWide M.prog (w.forCall tape i) .any w.heap.size f i ∧
      ({ OpenSpec.ofChange s with cond := some k } : OpenSpec).pre6 enc M.prog fn conds false (w.forCall tape i).memory i.args ∧ ({} : Assume).holds M.prog (lone (Frame.enter M.prog f i.args .normal) [] (w.forCall tape i)))
    (hvars : s.vars = []) (hpv : s.plain.varTypes M.prog = []) (hlaid : laidOutB M.prog = true) (hread : (fn.params.toList.all fun t => M.prog.readableRec t && Nat.blt t M.prog.types.size) = true)
    {tb : TypeId} (hres : fn.resultTypes = #[tb]) (hub : M.prog.underlying tb = some .bool) (hspec : ∀ ds : List (DataW H), ds.length = fn.params.toList.length → s.fn H ds = { results := [.lit (.bool true)], args := ds })
    (contract : ∀ (W : World) (args : Array Value) (ds : List (DataW H)) (ps : List MemPlace), ArgsOk enc M.prog fn W args ds ps → k H ds = true → C.call M.prog f args W fun v W' => v = .bool true ∧ Fr [] W W') :
    ReturnsInHanded {} M os f .any (({ OpenSpec.ofChange s with cond := some k } : OpenSpec).pre6 enc M.prog fn conds false) ((({ OpenSpec.ofChange s with cond := some k } : OpenSpec).at F).post enc M.prog fn false true false false) := by
  refine returnsInHanded_of_cond_sized (s := { OpenSpec.ofChange s with cond := some k }) (k := k) rfl own started noInit hfn witness ?_
  intro W base args ds gs before hval hW hcnd hkk hsz _
  have hW' := hW
  obtain ⟨p, q, hA, hV, rfl, hfz, hnd⟩ := hW
  have hv' : ({ OpenSpec.ofChange s with cond := some k } : OpenSpec).vars = [] := hvars
  rw [hv'] at hV
  obtain ⟨rfl, rfl⟩ := trodVars_none hV
  simp only [List.append_nil] at *
  have hlt : ∀ x ∈ p, x.block < W.heap.size := fun x hx => hW'.lt x hx
  have hsz2 : (DataW.weightsEach M.prog (fn.params.toList ++ s.plain.varTypes M.prog) ds).all (· ≤ reachBytes) = true := hsz
  rw [hpv, List.append_nil] at hsz2
  refine Calls.mono (contract W args ds p ⟨hA, ⟨base, hval⟩, hsz2, hlt⟩ hkk) ?_
  rintro e W' ⟨v, rfl, rfl, hf⟩
  refine ⟨_, rfl, ds, [], p, [], p, [], hW', ?_, ?_, ?_, hf.below.frame _, fun h => by cases h⟩
  · rw [List.append_nil]
    have e : (({ OpenSpec.ofChange s with cond := some k } : OpenSpec).at F).fn H ds = { results := [.lit (.bool true)], args := ds } := hspec ds (trodAll_len _ _ _ _ hA).2
    rw [e, hres]
    exact trodAll_mk1 (shut_bool hub _)
  · rw [List.append_nil]
    have e : (({ OpenSpec.ofChange s with cond := some k } : OpenSpec).at F).fn H ds = { results := [.lit (.bool true)], args := ds } := hspec ds (trodAll_len _ _ _ _ hA).2
    rw [e]
    refine trodAll_stays hlaid hf.below _ _ _ _ (fun t ht => ?_) hA hlt
    have := List.all_eq_true.1 hread t ht
    simp only [Bool.and_eq_true] at this
    exact ⟨this.1, by simpa [Nat.blt_eq] using this.2⟩
  · rw [List.append_nil]
    have e : (({ OpenSpec.ofChange s with cond := some k } : OpenSpec).at F).fn H ds = { results := [.lit (.bool true)], args := ds } := hspec ds (trodAll_len _ _ _ _ hA).2
    have e2 : (({ OpenSpec.ofChange s with cond := some k } : OpenSpec).at F).vars = [] := hvars
    rw [e, e2]
    rfl
end Go.Proofs.YtfdpmgddlaamcaaV
