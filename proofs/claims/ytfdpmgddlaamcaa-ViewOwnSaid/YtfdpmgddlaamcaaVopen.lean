/- A law's view, out of what is known of its argument. -/
import Derived.Test.YtfdpmgddlaamcaaVw12
import Derived.Test.YtfdpmgddlaamcaaRow
import Derived.Test.YtfdpmgddlaamcaaRows
import Derived.Deep.SlicePairs
namespace Go.Proofs.YtfdpmgddlaamcaaV
open Go Go.Proofs Go.RowKit Go.ChangeShapes Go.WideShapes Go.ChangeAt Go.Proofs.Ytfdpmgddlaamcaa
set_option linter.unusedVariables false
set_option linter.unusedSimpArgs false
set_option maxRecDepth 10000
section
variable {H : Type}
theorem pair_eq {a b c d : Value} (h1 : a = c) (h2 : b = d) : [a, b] = [c, d] := by rw [h1, h2]
theorem bulk_slice (A B : List (DataW H)) : Rows.uptoBulk (.slice A B) = Rows.uptoBulkAll A + Rows.uptoBulkAll B + 1 := by simp only [Rows.uptoBulk]
theorem bulk_one (d : DataW H) : 1 ≤ Rows.uptoBulk d := by
  cases d with
  | lit l => cases l <;> simp [Rows.uptoBulk]
  | nil => simp [Rows.uptoBulk]
  | ptr d => simp [Rows.uptoBulk]
  | slice elems spare => simp [Rows.uptoBulk]
  | agg parts => simp [Rows.uptoBulk]
  | iface t d => simp [Rows.uptoBulk]
  | map entries => simp [Rows.uptoBulk]
  | held h => simp [Rows.uptoBulk]
/-- A list's bulk, from below. -/
theorem bulk_ge {α : Type} (f : α → DataW H) (g : α → Nat) : ∀ (l : List α), (∀ x ∈ l, g x ≤ Rows.uptoBulk (f x)) → (l.map g).sum ≤ Rows.uptoBulkAll (l.map f)
  | [], _ => by simp [Rows.uptoBulkAll]
  | x :: l, h => by
    have h1 := h x (by simp)
    have h2 := bulk_ge f g l fun y hy => h y (by simp [hy])
    simp only [List.map_cons, List.sum_cons, Rows.uptoBulkAll]
    omega
theorem sum_one {α : Type} : ∀ (l : List α), (l.map fun _ => 1).sum = l.length
  | [] => rfl
  | x :: l => by
    have := sum_one l
    simp only [List.map_cons, List.sum_cons, List.length_cons]
    omega
/-- Cells read two by two: a slice that is read. -/
theorem RdS.of_pairs {w : World} {a : Addr} {len cap : Nat} {V0 V1 : Nat → Value} (hl : len ≤ cap) (hm : cap ≤ maxLen) (h : ∀ i, i < len → w.cell? (a.add (i * 2)) = some (V0 i) ∧ w.cell? (a.add (i * 2 + 1)) = some (V1 i)) :
    RdS w (.slice (some a) len cap) 2 ((List.range len).map fun i => [V0 i, V1 i]) := by
  have hlen : ((List.range len).map fun i => [V0 i, V1 i]).length = len := by simp
  refine ⟨some a, cap, by rw [hlen], by rw [hlen]; exact hl, hm, fun hne => ?_⟩
  have h0 : 0 < len := by
    rcases Nat.eq_zero_or_pos len with h0 | h0
    · subst h0; simp at hne
    · exact h0
  have h00 := (h 0 h0).1
  have ha0 : a.add (0 * 2) = a := by simp [Addr.add]
  rw [ha0] at h00
  obtain ⟨g, o, sp⟩ := a
  have hsp : sp = none := by
    cases sp with
    | none => rfl
    | some s => simp [World.cell?] at h00; split at h00 <;> simp_all
  subst hsp
  have hblk : ∃ cs e fz, w.heap[g]? = some (.cells cs e fz) := by
    simp only [World.cell?] at h00
    split at h00
    · rename_i c e' fz hg; exact ⟨c, e', fz, hg⟩
    · cases h00
  obtain ⟨cs, e', fz, hg⟩ := hblk
  refine ⟨g, o, cs, e', fz, rfl, hg, fun i x hi => ?_⟩
  have hi' : i < len := by have := (List.getElem?_eq_some_iff.1 hi).1; rw [hlen] at this; exact this
  simp only [List.getElem?_map, List.getElem?_range hi', Option.map_some, Option.some.injEq] at hi
  subst hi
  refine ⟨rfl, fun j hj => ?_⟩
  obtain ⟨h1, h2⟩ := h i hi'
  rw [Addr.add_lit, cell_mk hg] at h1 h2
  match j, hj with
  | 0, _ => simpa using h1
  | 1, _ => simpa [Nat.add_assoc] using h2
/-- Cells read one by one. -/
theorem RdS.of_cells {w : World} {a : Addr} {len cap : Nat} {V : Nat → Value} (hl : len ≤ cap) (hm : cap ≤ maxLen) (h : ∀ i, i < len → w.cell? (a.add i) = some (V i)) : RdS w (.slice (some a) len cap) 1 (slC ((List.range len).map V)) := by
  have hlen : (slC ((List.range len).map V)).length = len := by simp [slC]
  refine ⟨some a, cap, by rw [hlen], by rw [hlen]; exact hl, hm, fun hne => ?_⟩
  have h0 : 0 < len := by
    rcases Nat.eq_zero_or_pos len with h0 | h0
    · subst h0; simp [slC] at hne
    · exact h0
  have h00 := h 0 h0
  have ha0 : a.add 0 = a := by simp [Addr.add]
  rw [ha0] at h00
  obtain ⟨g, o, sp⟩ := a
  have hsp : sp = none := by
    cases sp with
    | none => rfl
    | some s => simp [World.cell?] at h00; split at h00 <;> simp_all
  subst hsp
  have hblk : ∃ cs e fz, w.heap[g]? = some (.cells cs e fz) := by
    simp only [World.cell?] at h00
    split at h00
    · rename_i c e' fz hg; exact ⟨c, e', fz, hg⟩
    · cases h00
  obtain ⟨cs, e', fz, hg⟩ := hblk
  refine ⟨g, o, cs, e', fz, rfl, hg, fun i x hi => ?_⟩
  have hi' : i < len := by have := (List.getElem?_eq_some_iff.1 hi).1; rw [hlen] at this; exact this
  have hx : x = [V i] := by
    rw [slC_get (by simpa using hi')] at hi
    simp only [List.getElem_map, List.getElem_range, Option.some.injEq] at hi
    exact hi.symm
  subst hx
  refine ⟨rfl, fun j hj => ?_⟩
  obtain rfl : j = 0 := by omega
  have := h i hi'
  rw [Addr.add_lit, cell_mk hg] at this
  simpa using this
variable {enc : TypeId × Value → H} {w : World} {base : Nat} {spare : Nat → Bool} {held : Bool}
theorem open_i1 {t : TypeId} {fuel : Nat} {v : Value} {x : DataW H × List MemPlace} (hk : flatK Try.prog 1 t = some [.int .i64]) (h : DataW.trod enc Try.prog w base spare held fuel t [v] = some x) : ∃ n, v = .int .i64 n := by
  have := trod_flat (enc := enc) (P := Try.prog) 1 (t := t) (ks := [.int .i64]) hk h
  obtain ⟨n, hn, _⟩ := ok1 this
  simp only [List.cons.injEq, and_true] at hn
  exact ⟨n, hn⟩
theorem cells_v : Try.prog.cellsOf 71 = 2 := by kernel_rfl
theorem cells_n : Try.prog.cellsOf 61 = 2 := by kernel_rfl
theorem cells_i : Try.prog.cellsOf 3 = 1 := by kernel_rfl
theorem cells_w : Try.prog.cellsOf 2 = 1 := by kernel_rfl
theorem cells_vs : Try.prog.cellsOf 59 = 1 := by kernel_rfl
theorem cells_rs : Try.prog.cellsOf 48 = 1 := by kernel_rfl
theorem cells_ns : Try.prog.cellsOf 49 = 1 := by kernel_rfl
theorem bytes_v : Try.prog.bytesOf 71 = 16 := by kernel_rfl
theorem bytes_n : Try.prog.bytesOf 61 = 32 := by kernel_rfl
theorem bytes_vs : Try.prog.bytesOf 59 = 24 := by kernel_rfl
theorem weights_all_mem {P : Program} {e : TypeId} : ∀ {ds : List (DataW H)} {d : DataW H}, d ∈ ds → ∀ n ∈ d.weights P e, n ∈ DataW.weightsAll P e ds
  | a :: ds, d, hd, n, hn => by
    simp only [DataW.weightsAll, List.mem_append]
    rcases List.mem_cons.1 hd with rfl | hd
    · exact .inl hn
    · exact .inr (weights_all_mem hd n hn)
/-- A list of values. -/
theorem open_vals {fuel : Nat} {cs : List Value} {x : DataW H × List MemPlace} (h : DataW.trod enc Try.prog w base spare held fuel 59 cs = some x) :
    ∃ v l, cs = [v] ∧ RdS w v 2 (valC l) ∧ ((∀ n ∈ x.1.weights Try.prog 59, n ≤ reachBytes) → l.length * 16 ≤ 140737488355328) ∧ l.length + 1 ≤ Rows.uptoBulk x.1 := by
  rcases Deep.open_slice_pairs Try.underlying59 Try.underlying71 cells_v rfl rfl cells_i cells_w h with ⟨rfl, rfl⟩ | ⟨a, len, cap, m, n, V0, V1, D0, D1, P0, P1, rfl, _, hl, hm, hmm, rfl, hx⟩
  · exact ⟨_, [], rfl, (OwnS.nil w 71 2).rd, fun _ => by simp, bulk_one _⟩
  · have hlm : len ≤ m := by rw [hmm]; split <;> omega
    have hc : ∀ i, ∃ q : Int × Int, i < len → V0 i = .int .i64 q.1 ∧ V1 i = .int .i64 q.2 := fun i => by
      by_cases c : i < len
      · obtain ⟨_, _, h1, h2⟩ := hx i (by omega)
        obtain ⟨n1, e1⟩ := open_i1 (by kernel_rfl) h1
        obtain ⟨n2, e2⟩ := open_i1 (by kernel_rfl) h2
        exact ⟨(n1, n2), fun _ => ⟨e1, e2⟩⟩
      · exact ⟨(0, 0), fun e => absurd e c⟩
    have hr := RdS.of_pairs hl hm fun i hi => ⟨(hx i (by omega)).1, (hx i (by omega)).2.1⟩
    have e : (List.range len).map (fun i => [V0 i, V1 i]) = valC ((List.range len).map fun i => (hc i).choose) := by
      unfold valC
      rw [List.map_map]
      refine List.map_congr_left fun i hi => ?_
      obtain ⟨a1, a2⟩ := (hc i).choose_spec (List.mem_range.1 hi)
      exact pair_eq a1 a2
    rw [e] at hr
    refine ⟨_, _, rfl, hr, fun hw => ?_, ?_⟩
    · have := hw ((len + (m - len)) * 16) (by simp [DataW.weights, Try.underlying59, bytes_v])
      simp only [List.length_map, List.length_range]
      unfold reachBytes at this
      omega
    · have h1 := bulk_ge (fun i => (DataW.agg [D0 i, D1 i] : DataW H)) (fun _ => 1) (List.range len) fun i _ => bulk_one _
      rw [sum_one] at h1
      simp only [Rows.uptoBulk, List.length_map]
      omega
/-- Lists of values. -/
theorem open_rowsV {fuel : Nat} {cs : List Value} {x : DataW H × List MemPlace} (h : DataW.trod enc Try.prog w base spare held fuel 48 cs = some x) :
    ∃ v L, cs = [v] ∧ RowsV w v L ∧ ((∀ n ∈ x.1.weights Try.prog 48, n ≤ reachBytes) → L.length * 24 ≤ 140737488355328 ∧ ∀ i (h : i < L.length), L[i].length * 16 ≤ 140737488355328) ∧ L.flatten.length + L.length + 1 ≤ Rows.uptoBulk x.1 := by
  rcases Deep.open_slice1 Try.underlying48 cells_vs h with ⟨rfl, rfl⟩ | ⟨a, len, cap, m, n, V, D, Pl, rfl, _, hl, hm, hmm, rfl, hx⟩
  · exact ⟨_, [], rfl, ⟨[], (OwnS.nil w 59 1).rd, rfl, fun i h => by simp at h⟩, fun _ => by simp, bulk_one _⟩
  · have hlm : len ≤ m := by rw [hmm]; split <;> omega
    have hc : ∀ i, ∃ l : List Va, i < len → RdS w (V i) 2 (valC l) ∧ ((∀ n ∈ (D i).weights Try.prog 59, n ≤ reachBytes) → l.length * 16 ≤ 140737488355328) ∧ l.length + 1 ≤ Rows.uptoBulk (D i) := fun i => by
      by_cases c : i < len
      · obtain ⟨v, l, hv, h1, h2, h3⟩ := open_vals (hx i (by omega)).2
        simp only [List.cons.injEq, and_true] at hv
        subst hv
        exact ⟨l, fun _ => ⟨h1, h2, h3⟩⟩
      · exact ⟨[], fun e => absurd e c⟩
    have hr := RdS.of_cells hl hm fun i hi => (hx i (by omega)).1
    refine ⟨_, (List.range len).map fun i => (hc i).choose, rfl, ⟨_, hr, by simp, fun i a b => ?_⟩, fun hw => ⟨?_, fun i hi => ?_⟩, ?_⟩
    · have hi : i < len := by simpa using a
      simp only [List.getElem_map, List.getElem_range]
      exact ((hc i).choose_spec hi).1
    · have := hw ((len + (m - len)) * 24) (by simp [DataW.weights, Try.underlying48, bytes_vs])
      simp only [List.length_map, List.length_range]
      unfold reachBytes at this
      omega
    · have hi' : i < len := by simpa using hi
      simp only [List.getElem_map, List.getElem_range]
      refine ((hc i).choose_spec hi').2.1 fun n hn => hw n ?_
      have := weights_all_mem (P := Try.prog) (e := 59) (ds := (List.range len).map D) (d := D i) (List.mem_map.2 ⟨i, List.mem_range.2 hi', rfl⟩) n hn
      simp only [DataW.weights, Try.underlying48, List.mem_cons, List.mem_append]
      exact .inr (.inl this)
    · have h1 := bulk_ge D (fun i => (hc i).choose.length + 1) (List.range len) fun i hi => ((hc i).choose_spec (List.mem_range.1 hi)).2.2
      have h2 : ∀ (l : List Nat), (l.map fun i => (hc i).choose.length + 1).sum = (l.map fun i => (hc i).choose).flatten.length + l.length := by
        intro l
        induction l with
        | nil => rfl
        | cons x l ih =>
          simp only [List.map_cons, List.sum_cons, List.flatten_cons, List.length_append, List.length_cons]
          omega
      rw [h2, List.length_range] at h1
      simp only [Rows.uptoBulk, List.length_map, List.length_range]
      omega
/-- Nodes. -/
theorem open_nodes {fuel : Nat} {cs : List Value} {x : DataW H × List MemPlace} (h : DataW.trod enc Try.prog w base spare held fuel 49 cs = some x) :
    ∃ v N, cs = [v] ∧ NodesAt w v N ∧ ((∀ n ∈ x.1.weights Try.prog 49, n ≤ reachBytes) → N.length * 32 ≤ 140737488355328 ∧ ∀ i (h : i < N.length), N[i].2.length * 16 ≤ 140737488355328) ∧ (N.flatMap Prod.snd).length + N.length + 1 ≤ Rows.uptoBulk x.1 := by
  rcases Deep.open_slice_pairs Try.underlying49 Try.underlying61 cells_n rfl rfl cells_w cells_vs h with ⟨rfl, rfl⟩ | ⟨a, len, cap, m, n, V0, V1, D0, D1, P0, P1, rfl, _, hl, hm, hmm, rfl, hx⟩
  · exact ⟨_, [], rfl, ⟨[], rfl, (OwnS.nil w 61 2).rd, fun i h => by simp at h⟩, fun _ => by simp, bulk_one _⟩
  · have hlm : len ≤ m := by rw [hmm]; split <;> omega
    have hc : ∀ i, ∃ q : Nd, i < len → V0 i = .int .i64 q.1 ∧ RdS w (V1 i) 2 (valC q.2) ∧ ((∀ n ∈ (D1 i).weights Try.prog 59, n ≤ reachBytes) → q.2.length * 16 ≤ 140737488355328) ∧ q.2.length + 1 ≤ Rows.uptoBulk (DataW.agg [D0 i, D1 i] : DataW H) := fun i => by
      by_cases c : i < len
      · obtain ⟨_, _, h1, h2⟩ := hx i (by omega)
        obtain ⟨n1, e1⟩ := open_i1 (by kernel_rfl) h1
        obtain ⟨v, l, hv, h3, h4, h5⟩ := open_vals h2
        simp only [List.cons.injEq, and_true] at hv
        rw [← hv] at h3
        refine ⟨(n1, l), fun _ => ⟨e1, h3, h4, ?_⟩⟩
        have h6 : l.length + 1 ≤ Rows.uptoBulk (D1 i) := h5
        simp only [Rows.uptoBulk, Rows.uptoBulkAll]
        omega
      · exact ⟨(0, []), fun e => absurd e c⟩
    have hr := RdS.of_pairs hl hm fun i hi => ⟨(hx i (by omega)).1, (hx i (by omega)).2.1⟩
    have e : (List.range len).map (fun i => [V0 i, V1 i]) = ndC ((List.range len).map fun i => (hc i).choose) ((List.range len).map V1) := by
      unfold ndC
      rw [List.zipWith_map, List.zipWith_self]
      refine List.map_congr_left fun i hi => ?_
      obtain ⟨a1, _⟩ := (hc i).choose_spec (List.mem_range.1 hi)
      exact pair_eq a1 rfl
    rw [e] at hr
    refine ⟨_, (List.range len).map fun i => (hc i).choose, rfl, ⟨_, by simp, hr, fun i a b => ?_⟩, fun hw => ⟨?_, fun i hi => ?_⟩, ?_⟩
    · have hi : i < len := by simpa using a
      simp only [List.getElem_map, List.getElem_range]
      exact ((hc i).choose_spec hi).2.1
    · have := hw ((len + (m - len)) * 32) (by simp [DataW.weights, Try.underlying49, bytes_n])
      simp only [List.length_map, List.length_range]
      unfold reachBytes at this
      omega
    · have hi' : i < len := by simpa using hi
      simp only [List.getElem_map, List.getElem_range]
      refine ((hc i).choose_spec hi').2.2.1 fun n hn => hw n ?_
      have h3 : n ∈ (DataW.agg [D0 i, D1 i] : DataW H).weights Try.prog 61 := by
        simp only [DataW.weights, Try.underlying61, List.map_cons, List.map_nil, DataW.weightsEach, List.mem_append]
        exact .inr (.inl hn)
      have := weights_all_mem (P := Try.prog) (e := 61) (ds := (List.range len).map fun i => (DataW.agg [D0 i, D1 i] : DataW H)) (d := DataW.agg [D0 i, D1 i]) (List.mem_map.2 ⟨i, List.mem_range.2 hi', rfl⟩) n h3
      simp only [DataW.weights, Try.underlying49, List.mem_cons, List.mem_append]
      exact .inr (.inl this)
    · have h1 := bulk_ge (fun i => (DataW.agg [D0 i, D1 i] : DataW H)) (fun i => (hc i).choose.2.length + 1) (List.range len) fun i hi => ((hc i).choose_spec (List.mem_range.1 hi)).2.2.2
      have h2 : ∀ (l : List Nat), (l.map fun i => (hc i).choose.2.length + 1).sum = ((l.map fun i => (hc i).choose).flatMap Prod.snd).length + l.length := by
        intro l
        induction l with
        | nil => rfl
        | cons x l ih =>
          simp only [List.map_cons, List.sum_cons, List.flatMap_cons, List.length_append, List.length_cons]
          omega
      rw [h2, List.length_range] at h1
      rw [bulk_slice, List.length_map, List.length_range]
      omega
/-- A view. -/
theorem open_view {b0 : Nat} {r : Reach} {v : Value} {dd : DataW H} {ps : List MemPlace} (hv : Value.okWide Try.prog w r b0 51 v) (h : DataW.Trod enc Try.prog w base spare held 51 v dd ps) :
    ∃ rv nv V, v = .agg #[rv, nv] ∧ IsV w rv nv V ∧ ((∀ n ∈ dd.weights Try.prog 51, n ≤ reachBytes) → FitV V) ∧ (allOf V).length + V.1.length + V.2.length ≤ Rows.uptoBulk dd := by
  obtain ⟨cs, rfl, _⟩ := okWide_struct Try.underlying51 hv
  obtain ⟨fuel, h⟩ := h
  obtain ⟨xs, n, rfl, hxe, hlen, hxl, hx⟩ := DataW.trod_struct Try.underlying51 h
  have hcs : (Value.cells (.agg cs)).toList = cs.toList := by rfl
  rw [hcs] at hlen hx
  have h0 : DataW.trod enc Try.prog w base spare held n 48 ((cs.toList.drop 0).take (Try.prog.cellsOf 48)) = xs[0]? := hx 0 _ rfl
  have h1 : DataW.trod enc Try.prog w base spare held n 49 ((cs.toList.drop 1).take (Try.prog.cellsOf 49)) = xs[1]? := hx 1 _ rfl
  rw [cells_rs] at h0
  rw [cells_ns] at h1
  match xs, hxl with
  | [x0, x1], _ =>
    simp only [List.getElem?_cons_zero, List.getElem?_cons_succ] at h0 h1
    obtain ⟨rv, L, e0, hR, hw0, hb0⟩ := open_rowsV h0
    obtain ⟨nv, N, e1, hN, hw1, hb1⟩ := open_nodes h1
    have hcells : cs = #[rv, nv] := by
      have hl2 : cs.toList.length = 2 := by rw [hlen]; kernel_rfl
      obtain ⟨cl⟩ := cs
      match cl, hl2 with
      | [a, b], _ =>
        simp at e0 e1
        rw [e0, e1]
    subst hcells
    obtain ⟨rfl, _⟩ := Prod.mk.injEq .. ▸ hxe
    have hall : ∀ n, n ∈ x0.1.weights Try.prog 48 ∨ n ∈ x1.1.weights Try.prog 49 → n ∈ (DataW.agg [x0.1, x1.1] : DataW H).weights Try.prog 51 := fun n hn => by
      simp only [DataW.weights, Try.underlying51, List.map_cons, List.map_nil, DataW.weightsEach, List.mem_append]
      rcases hn with hn | hn
      · exact .inl hn
      · exact .inr (.inl hn)
    refine ⟨rv, nv, (L, N), rfl, ⟨hR, hN⟩, fun hw => ?_, ?_⟩
    · obtain ⟨a1, a2⟩ := hw0 fun n hn => hw n (hall n (.inl hn))
      obtain ⟨b1, b2⟩ := hw1 fun n hn => hw n (hall n (.inr hn))
      exact ⟨a1, b1, a2, b2⟩
    · simp only [allOf, Rows.uptoBulk, Rows.uptoBulkAll, List.map_cons, List.map_nil, List.length_append]
      omega
theorem FitT.of {V : Vw} (h : (allOf V).length + V.1.length + V.2.length ≤ 1048576) : FitT V := by
  have ha : (allOf V).length = V.1.flatten.length + (V.2.flatMap Prod.snd).length := by unfold allOf; rw [List.length_append]
  have h1 : ∀ (L : List (List Va)) i (hi : i < L.length), L[i].length ≤ L.flatten.length := fun L i hi => by
    have := flat_take_le L (i + 1)
    rw [flat_succ hi, List.length_append] at this
    omega
  have h2 : ∀ (N : List Nd) i (hi : i < N.length), N[i].2.length ≤ (N.flatMap Prod.snd).length := fun N i hi => by
    have := flatm_take_le N (i + 1)
    rw [flatm_succ hi, List.length_append] at this
    omega
  exact ⟨⟨by omega, by omega, fun i hi => by have := h1 V.1 i hi; omega, fun i hi => by have := h2 V.2 i hi; omega⟩, by omega, by omega⟩
end
end Go.Proofs.YtfdpmgddlaamcaaV
