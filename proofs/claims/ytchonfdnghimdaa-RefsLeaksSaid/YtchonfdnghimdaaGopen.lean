/- A law's graph, out of what is known of its argument. -/
import Derived.Test.YtchonfdnghimdaaGrf
import Derived.Test.YtchonfdnghimdaaRow
namespace Go.Proofs.YtchonfdnghimdaaV
open Go Go.Proofs Go.RowKit Go.ChangeShapes Go.WideShapes Go.ChangeAt
set_option linter.unusedVariables false
set_option linter.unusedSimpArgs false
set_option maxRecDepth 10000
/-- Cells read one by one: a slice that is read. -/
theorem RdS.of_cells {w : World} {a : Addr} {len cap : Nat} {V : Nat → Value} (hl : len ≤ cap) (hm : cap ≤ maxLen) (h : ∀ i, i < len → w.cell? (a.add i) = some (V i)) : RdS w (.slice (some a) len cap) 1 (slC ((List.range len).map V)) := by
  have hlen : (slC ((List.range len).map V)).length = len := by simp [slC]
  refine ⟨some a, cap, by rw [hlen], by rw [hlen]; exact hl, hm, fun hne => ?_⟩
  have h0 : 0 < len := by
    rcases Nat.eq_zero_or_pos len with h0 | h0
    · subst h0; simp [slC] at hne
    · exact h0
  have h00 := h 0 h0
  have ha0 : a.add 0 = a := by simp [Addr.add]
  rw [ha0] at h00
  obtain ⟨g, o, sp⟩ := a
  have hsp : sp = none := by
    cases sp with
    | none => rfl
    | some s => simp [World.cell?] at h00; split at h00 <;> simp_all
  subst hsp
  have hblk : ∃ cs e fz, w.heap[g]? = some (.cells cs e fz) := by
    simp only [World.cell?] at h00
    split at h00
    · rename_i c e' fz hg; exact ⟨c, e', fz, hg⟩
    · cases h00
  obtain ⟨cs, e', fz, hg⟩ := hblk
  refine ⟨g, o, cs, e', fz, rfl, hg, fun i x hi => ?_⟩
  have hi' : i < len := by have := (List.getElem?_eq_some_iff.1 hi).1; rw [hlen] at this; exact this
  have hx : x = [V i] := by
    rw [slC_get (by simpa using hi')] at hi
    simp only [List.getElem_map, List.getElem_range, Option.some.injEq] at hi
    exact hi.symm
  subst hx
  refine ⟨rfl, fun j hj => ?_⟩
  obtain rfl : j = 0 := by omega
  have := h i hi'
  rw [add_mk, cell_mk hg] at this
  simpa using this
section
variable {H : Type} {enc : TypeId × Value → H} {w : World} {base : Nat} {spare : Nat → Bool} {held : Bool}
theorem open_int1 {fuel : Nat} {v : Value} {x : DataW H × List MemPlace} (h : DataW.trod enc Try.prog w base spare held fuel 3 [v] = some x) : ∃ n, v = .int .i64 n := by
  have := trod_flat (enc := enc) (P := Try.prog) 1 (t := 3) (ks := [.int .i64]) (by kernel_rfl) h
  obtain ⟨n, hn, _⟩ := ok1 this
  simp only [List.cons.injEq, and_true] at hn
  exact ⟨n, hn⟩
theorem bytes_int : Try.prog.bytesOf 3 = 8 := by kernel_rfl
theorem cells_int : Try.prog.cellsOf 3 = 1 := by kernel_rfl
theorem cells_ints : Try.prog.cellsOf 23 = 1 := by kernel_rfl
theorem cells_rows : Try.prog.cellsOf 22 = 1 := by kernel_rfl
theorem open_ints {fuel : Nat} {cs : List Value} {x : DataW H × List MemPlace} (h : DataW.trod enc Try.prog w base spare held fuel 23 cs = some x) :
    ∃ v l, cs = [v] ∧ RdS w v 1 (intC l) ∧ ((∀ n ∈ x.1.weights Try.prog 23, n ≤ reachBytes) → l.length ≤ 17592186044416) := by
  rcases Deep.open_slice1 Try.underlying23 cells_int h with ⟨rfl, _⟩ | ⟨a, len, cap, m, n, V, D, Pl, rfl, _, hl, hm, hmm, rfl, hx⟩
  · exact ⟨_, [], rfl, (OwnS.nil w 3 1).rd, by simp⟩
  · have hlm : len ≤ m := by rw [hmm]; split <;> omega
    have hc : ∀ i, ∃ n : Int, i < len → V i = .int .i64 n := fun i => by
      by_cases c : i < len
      · obtain ⟨n, hn⟩ := open_int1 (hx i (by omega)).2
        exact ⟨n, fun _ => hn⟩
      · exact ⟨0, fun e => absurd e c⟩
    have hr := RdS.of_cells hl hm fun i hi => (hx i (by omega)).1
    have e : slC ((List.range len).map V) = intC ((List.range len).map fun i => (hc i).choose) := by
      unfold slC intC
      rw [List.map_map, List.map_map]
      refine List.map_congr_left fun i hi => ?_
      exact congrArg (fun v : Value => [v]) ((hc i).choose_spec (List.mem_range.1 hi))
    rw [e] at hr
    refine ⟨_, _, rfl, hr, fun hw => ?_⟩
    have := hw ((len + (m - len)) * 8) (by simp [DataW.weights, Try.underlying23, bytes_int])
    simp only [List.length_map, List.length_range]
    unfold reachBytes at this
    omega
theorem weights_all_mem {P : Program} {e : TypeId} : ∀ {ds : List (DataW H)} {d : DataW H}, d ∈ ds → ∀ n ∈ d.weights P e, n ∈ DataW.weightsAll P e ds
  | a :: ds, d, hd, n, hn => by
    simp only [DataW.weightsAll, List.mem_append]
    rcases List.mem_cons.1 hd with rfl | hd
    · exact .inl hn
    · exact .inr (weights_all_mem hd n hn)
theorem open_rows {fuel : Nat} {cs : List Value} {x : DataW H × List MemPlace} (h : DataW.trod enc Try.prog w base spare held fuel 22 cs = some x) :
    ∃ v L, cs = [v] ∧ RowsAt w v L ∧ ((∀ n ∈ x.1.weights Try.prog 22, n ≤ reachBytes) → ∀ r ∈ L, r.length ≤ 17592186044416) := by
  rcases Deep.open_slice1 Try.underlying22 cells_ints h with ⟨rfl, _⟩ | ⟨a, len, cap, m, n, V, D, Pl, rfl, _, hl, hm, hmm, rfl, hx⟩
  · exact ⟨_, [], rfl, ⟨[], (OwnS.nil w 23 1).rd, rfl, fun i h => by simp at h⟩, by simp⟩
  · have hlm : len ≤ m := by rw [hmm]; split <;> omega
    have hc : ∀ i, ∃ l : List Int, i < len → RdS w (V i) 1 (intC l) ∧ ((∀ n ∈ (D i).weights Try.prog 23, n ≤ reachBytes) → l.length ≤ 17592186044416) := fun i => by
      by_cases c : i < len
      · obtain ⟨v, l, hv, h1, h2⟩ := open_ints (hx i (by omega)).2
        simp only [List.cons.injEq, and_true] at hv
        subst hv
        exact ⟨l, fun _ => ⟨h1, h2⟩⟩
      · exact ⟨[], fun e => absurd e c⟩
    have hr := RdS.of_cells hl hm fun i hi => (hx i (by omega)).1
    refine ⟨_, (List.range len).map fun i => (hc i).choose, rfl, ⟨_, hr, by simp, fun i a b => ?_⟩, fun hw r hr => ?_⟩
    · have hi : i < len := by simpa using a
      simp only [List.getElem_map, List.getElem_range]
      exact ((hc i).choose_spec hi).1
    · obtain ⟨i, hi, rfl⟩ := List.mem_map.1 hr
      have hi := List.mem_range.1 hi
      refine ((hc i).choose_spec hi).2 fun n hn => hw n ?_
      have := weights_all_mem (P := Try.prog) (e := 23) (ds := (List.range len).map D) (d := D i) (List.mem_map.2 ⟨i, List.mem_range.2 hi, rfl⟩) n hn
      simp only [DataW.weights, Try.underlying22, List.mem_cons, List.mem_append]
      exact .inr (.inl this)
theorem open_graph {b0 : Nat} {r : Reach} {v : Value} {dd : DataW H} {ps : List MemPlace} (hv : Value.okWide Try.prog w r b0 25 v) (h : DataW.Trod enc Try.prog w base spare held 25 v dd ps) :
    ∃ nv rv G, v = .agg #[nv, rv] ∧ ((∀ n ∈ dd.weights Try.prog 25, n ≤ reachBytes) → IsG0 w nv rv G) := by
  obtain ⟨cs, rfl, _⟩ := okWide_struct Try.underlying25 hv
  obtain ⟨fuel, h⟩ := h
  obtain ⟨xs, n, rfl, hxe, hlen, hxl, hx⟩ := DataW.trod_struct Try.underlying25 h
  have hcs : (Value.cells (.agg cs)).toList = cs.toList := by rfl
  rw [hcs] at hlen hx
  have h0 : DataW.trod enc Try.prog w base spare held n 22 ((cs.toList.drop 0).take (Try.prog.cellsOf 22)) = xs[0]? := hx 0 _ rfl
  have h1 : DataW.trod enc Try.prog w base spare held n 23 ((cs.toList.drop 1).take (Try.prog.cellsOf 23)) = xs[1]? := hx 1 _ rfl
  rw [cells_rows] at h0
  rw [cells_ints] at h1
  match xs, hxl with
  | [x0, x1], _ =>
    simp only [List.getElem?_cons_zero, List.getElem?_cons_succ] at h0 h1
    obtain ⟨nv, L, e0, hR, hw0⟩ := open_rows h0
    obtain ⟨rv, l, e1, hr, hw1⟩ := open_ints h1
    have hcells : cs = #[nv, rv] := by
      have hl2 : cs.toList.length = 2 := by rw [hlen]; kernel_rfl
      obtain ⟨cl⟩ := cs
      match cl, hl2 with
      | [a, b], _ =>
        simp at e0 e1
        rw [e0, e1]
    subst hcells
    obtain ⟨rfl, _⟩ := Prod.mk.injEq .. ▸ hxe
    have hall : ∀ n, n ∈ x0.1.weights Try.prog 22 ∨ n ∈ x1.1.weights Try.prog 23 → n ∈ (DataW.agg [x0.1, x1.1] : DataW H).weights Try.prog 25 := fun n hn => by
      simp only [DataW.weights, Try.underlying25, List.map_cons, List.map_nil, DataW.weightsEach, List.mem_append]
      rcases hn with hn | hn
      · exact .inl hn
      · exact .inr (.inl hn)
    exact ⟨nv, rv, ⟨L, l⟩, rfl, fun hw => ⟨hR, hr, hw1 fun n hn => hw n (hall n (.inr hn)), hw0 fun n hn => hw n (hall n (.inl hn))⟩⟩
end
end Go.Proofs.YtchonfdnghimdaaV
