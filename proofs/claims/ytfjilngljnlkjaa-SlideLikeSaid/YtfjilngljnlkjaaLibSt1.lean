/- Sorting that keeps the order of equals: plain Lean. Own work. -/
import Derived.Test.YtfjilngljnlkjaaVc5
namespace Go.Proofs.YtfjilngljnlkjaaV
open Go Go.Proofs
set_option linter.unusedVariables false
set_option linter.unusedSimpArgs false
/-- By a key; of equal ones the lesser number first. -/
def lexS (ser : Nat → Int) (i j : Nat) : Prop := ser i < ser j ∨ ser i = ser j ∧ i ≤ j
theorem lexS_le {ser : Nat → Int} {i j : Nat} (h : lexS ser i j) : ser i ≤ ser j := by unfold lexS at h; omega
theorem lexS_trans {ser : Nat → Int} {i j k : Nat} (h : lexS ser i j) (h' : lexS ser j k) : lexS ser i k := by unfold lexS at *; omega
def SrtL (ser : Nat → Int) (l : List Nat) : Prop := l.Pairwise (lexS ser)
/-- All of the first are lesser numbers than all of the second. -/
def Low (U V : List Nat) : Prop := ∀ u ∈ U, ∀ v ∈ V, u < v
theorem srt_get {ser : Nat → Int} {l : List Nat} (h : SrtL ser l) {i j : Nat} (hi : i < l.length) (hj : j < l.length) (hij : i ≤ j) : ser l[i] ≤ ser l[j] := by
  rcases Nat.lt_or_ge i j with c | c
  · exact lexS_le (List.pairwise_iff_getElem.1 h i j hi hj c)
  · have : i = j := by omega
    subst this
    exact Int.le_refl _
/-- One, put into a sorted list behind all that are less. -/
theorem ins_low {ser : Nat → Int} {u : Nat} {V : List Nat} (hV : SrtL ser V) (hL : Low [u] V) {i : Nat} (hi : i ≤ V.length) (h1 : ∀ k (h : k < V.length), k < i → ser V[k] < ser u) (h2 : ∀ k (h : k < V.length), i ≤ k → ser u ≤ ser V[k]) :
    SrtL ser (V.take i ++ [u] ++ V.drop i) ∧ (V.take i ++ [u] ++ V.drop i).Perm ([u] ++ V) := by
  refine ⟨?_, ?_⟩
  · unfold SrtL
    rw [List.append_assoc, List.singleton_append, List.pairwise_append]
    refine ⟨hV.sublist (List.take_sublist _ _), List.pairwise_cons.2 ⟨fun v hv => ?_, hV.sublist (List.drop_sublist _ _)⟩, fun v hv x hx => ?_⟩
    · obtain ⟨k, hk, rfl⟩ := List.getElem_of_mem hv
      rw [List.getElem_drop]
      rw [List.length_drop] at hk
      have := h2 (i + k) (by omega) (by omega)
      have hlt := hL u (by simp) V[i + k] (List.getElem_mem _)
      unfold lexS
      omega
    · obtain ⟨k, hk, rfl⟩ := List.getElem_of_mem hv
      rw [List.length_take] at hk
      rw [List.getElem_take]
      have hk1 := h1 k (by omega) (by omega)
      rcases List.mem_cons.1 hx with c | c
      · subst c
        exact .inl hk1
      · obtain ⟨q, hq, rfl⟩ := List.getElem_of_mem c
        rw [List.length_drop] at hq
        rw [List.getElem_drop]
        have := h2 (i + q) (by omega) (by omega)
        exact .inl (by omega)
  · have e : (V.take i ++ [u] ++ V.drop i).Perm ([u] ++ V.take i ++ V.drop i) := List.Perm.append_right _ List.perm_append_comm
    have e2 : [u] ++ V.take i ++ V.drop i = [u] ++ V := by rw [List.append_assoc, List.take_append_drop]
    rwa [e2] at e
/-- One, put into a sorted list behind all that are not greater. -/
theorem ins_high {ser : Nat → Int} {v : Nat} {U : List Nat} (hU : SrtL ser U) (hL : Low U [v]) {i : Nat} (hi : i ≤ U.length) (h1 : ∀ k (h : k < U.length), k < i → ser U[k] ≤ ser v) (h2 : ∀ k (h : k < U.length), i ≤ k → ser v < ser U[k]) :
    SrtL ser (U.take i ++ [v] ++ U.drop i) ∧ (U.take i ++ [v] ++ U.drop i).Perm (U ++ [v]) := by
  refine ⟨?_, ?_⟩
  · unfold SrtL
    rw [List.append_assoc, List.singleton_append, List.pairwise_append]
    refine ⟨hU.sublist (List.take_sublist _ _), List.pairwise_cons.2 ⟨fun u hu => ?_, hU.sublist (List.drop_sublist _ _)⟩, fun u hu x hx => ?_⟩
    · obtain ⟨k, hk, rfl⟩ := List.getElem_of_mem hu
      rw [List.getElem_drop]
      rw [List.length_drop] at hk
      exact .inl (h2 (i + k) (by omega) (by omega))
    · obtain ⟨k, hk, rfl⟩ := List.getElem_of_mem hu
      rw [List.length_take] at hk
      rw [List.getElem_take]
      have hk1 := h1 k (by omega) (by omega)
      rcases List.mem_cons.1 hx with c | c
      · subst c
        have := hL U[k] (List.getElem_mem _) x (by simp)
        unfold lexS
        omega
      · obtain ⟨q, hq, rfl⟩ := List.getElem_of_mem c
        rw [List.length_drop] at hq
        rw [List.getElem_drop]
        have := h2 (i + q) (by omega) (by omega)
        exact .inl (by omega)
  · have e : (U.take i ++ [v] ++ U.drop i).Perm (U.take i ++ U.drop i ++ [v]) := by
      rw [List.append_assoc, List.append_assoc]
      exact List.Perm.append_left _ List.perm_append_comm
    rwa [List.take_append_drop] at e
/-- Two halves. -/
theorem halves {ser : Nat → Int} {U1 U2 V1 V2 W1 W2 : List Nat} (hU : SrtL ser (U1 ++ U2)) (hV : SrtL ser (V1 ++ V2)) (hL : Low (U1 ++ U2) (V1 ++ V2)) (p1 : W1.Perm (U1 ++ V1)) (p2 : W2.Perm (U2 ++ V2)) (s1 : SrtL ser W1) (s2 : SrtL ser W2)
    (hvu : ∀ v ∈ V1, ∀ u ∈ U2, ser v < ser u) (huv : ∀ u ∈ U1, ∀ v ∈ V2, ser u ≤ ser v) : SrtL ser (W1 ++ W2) ∧ (W1 ++ W2).Perm (U1 ++ U2 ++ (V1 ++ V2)) := by
  refine ⟨List.pairwise_append.2 ⟨s1, s2, fun x hx y hy => ?_⟩, ?_⟩
  · have hU' := (List.pairwise_append.1 hU).2.2
    have hV' := (List.pairwise_append.1 hV).2.2
    rcases List.mem_append.1 (p1.mem_iff.1 hx) with a | a <;> rcases List.mem_append.1 (p2.mem_iff.1 hy) with b | b
    · exact hU' x a y b
    · have h1 := huv x a y b
      have h2 := hL x (by simp [a]) y (by simp [b])
      unfold lexS
      omega
    · exact .inl (hvu x a y b)
    · exact hV' x a y b
  · have e := p1.append p2
    refine e.trans ?_
    rw [List.append_assoc, List.append_assoc]
    refine List.Perm.append_left _ ?_
    rw [← List.append_assoc, ← List.append_assoc]
    exact List.Perm.append_right _ List.perm_append_comm
/-- What the search for the middle has found. -/
theorem mid_vu {ser : Nat → Int} {U V : List Nat} (hU : SrtL ser U) (hV : SrtL ser V) {s e : Nat} (hs : s ≤ U.length) (he : e ≤ V.length) (h : ∀ (h1 : s < U.length) (h2 : e - 1 < V.length), 0 < e → ser V[e - 1] < ser U[s]) :
    ∀ v ∈ V.take e, ∀ u ∈ U.drop s, ser v < ser u := by
  intro v hv u hu
  obtain ⟨i, hi, rfl⟩ := List.getElem_of_mem hv
  obtain ⟨j, hj, rfl⟩ := List.getElem_of_mem hu
  rw [List.length_take] at hi
  rw [List.length_drop] at hj
  rw [List.getElem_take, List.getElem_drop]
  have h1 := h (by omega) (by omega) (by omega)
  have h2 := srt_get hV (i := i) (j := e - 1) (by omega) (by omega) (by omega)
  have h3 := srt_get hU (i := s) (j := s + j) (by omega) (by omega) (by omega)
  omega
theorem mid_uv {ser : Nat → Int} {U V : List Nat} (hU : SrtL ser U) (hV : SrtL ser V) {s e : Nat} (hs : s ≤ U.length) (he : e ≤ V.length) (h : ∀ (h1 : s - 1 < U.length) (h2 : e < V.length), 0 < s → ser U[s - 1] ≤ ser V[e]) :
    ∀ u ∈ U.take s, ∀ v ∈ V.drop e, ser u ≤ ser v := by
  intro u hu v hv
  obtain ⟨i, hi, rfl⟩ := List.getElem_of_mem hu
  obtain ⟨j, hj, rfl⟩ := List.getElem_of_mem hv
  rw [List.length_take] at hi
  rw [List.length_drop] at hj
  rw [List.getElem_take, List.getElem_drop]
  have h1 := h (by omega) (by omega) (by omega)
  have h2 := srt_get hU (i := i) (j := s - 1) (by omega) (by omega) (by omega)
  have h3 := srt_get hV (i := e) (j := e + j) (by omega) (by omega) (by omega)
  omega
end Go.Proofs.YtfjilngljnlkjaaV
