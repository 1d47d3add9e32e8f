/- A queue of ints: one put behind, the first taken away. -/
import Derived.Test.YtfdpmgddlaamcaaLibApp
import Derived.Test.YtfdpmgddlaamcaaSl
import Derived.Laws.AppendOwn
import Derived.Test.YtfdpmgddlaamcaaProg
namespace Go.Proofs.YtfdpmgddlaamcaaV
open Go Go.Proofs Go.RowKit
set_option linter.unusedVariables false
set_option linter.unusedSimpArgs false
def qC (l : List Int) : List (List Value) := l.map fun n => [.int .i64 n]
/-- A slice of ints, somewhere in a block of the call's own. -/
def OffS (w : World) (v : Value) (xs : List Int) : Prop :=
  (v = .slice none 0 0 ∧ xs = []) ∨ ∃ g o cap cur, v = .slice (some ⟨g, o, none⟩) xs.length cap ∧ w.heap[g]? = some (.cells cur 3 (0, 0)) ∧ xs.length ≤ cap ∧ o + cap ≤ cur.size ∧ cap ≤ maxLen ∧ ∀ j (h : j < xs.length), cur[o + j]? = some (.int .i64 xs[j])
theorem OffS.nil (w : World) : OffS w (.slice none 0 0) [] := .inl ⟨rfl, rfl⟩
theorem OffS.rd {w : World} {v : Value} {xs : List Int} (h : OffS w v xs) : RdS w v 1 (qC xs) := by
  have hl : (qC xs).length = xs.length := by simp [qC]
  rcases h with ⟨rfl, rfl⟩ | ⟨g, o, cap, cur, rfl, hg, h1, h2, h3, h4⟩
  · exact ⟨none, 0, rfl, by simp [qC], by simp, fun h => absurd rfl h⟩
  · refine ⟨_, cap, by rw [hl], by rw [hl]; exact h1, h3, fun _ => ⟨g, o, cur, _, _, rfl, hg, fun i x hi => ?_⟩⟩
    have hi' : i < xs.length := by have := (List.getElem?_eq_some_iff.1 hi).1; omega
    have hx : x = [.int .i64 xs[i]] := by
      simp only [qC, List.getElem?_map, List.getElem?_eq_getElem hi', Option.map_some, Option.some.injEq] at hi
      exact hi.symm
    subst hx
    refine ⟨rfl, fun j hj => ?_⟩
    obtain rfl : j = 0 := by omega
    simpa using h4 i hi'
theorem OffS.keep' {S : List Nat} {w w' : World} {v : Value} {xs : List Int} (h : OffS w v xs) (hf : Fr S w w') (hS : ∀ g ∈ blkS v, g ∉ S) : OffS w' v xs := by
  rcases h with h | ⟨g, o, cap, cur, rfl, hg, r⟩
  · exact .inl h
  · exact .inr ⟨g, o, cap, cur, rfl, hf.at_ hg (hS g (mem_blkS.2 rfl)), r⟩
theorem OffS.keep {w w' : World} {v : Value} {xs : List Int} (h : OffS w v xs) (hf : Fr [] w w') : OffS w' v xs := h.keep' hf fun g _ => by simp
theorem OffS.one {w : World} {v : Value} {xs : List Int} (h : OffS w v xs) : v.oneCell' = true ∧ v.cells = #[v] := by
  rcases h with ⟨rfl, _⟩ | ⟨g, o, cap, cur, rfl, _⟩
  · exact ⟨rfl, rfl⟩
  · exact ⟨rfl, rfl⟩
theorem OffS.nb {w : World} {v : Value} {xs : List Int} {g : Nat} {cs : Array Value} {e' : TypeId} {fz : Nat × Nat} (h : OffS w v xs) (hg : w.heap[g]? = some (.cells cs e' fz)) (he : 3 ≠ e') : g ∉ blkS v := by
  intro hg'
  rw [mem_blkS] at hg'
  rcases h with ⟨rfl, _⟩ | ⟨k, o, cap, cur, rfl, hh, _⟩
  · simp [Value.ownBlock] at hg'
  · simp only [Value.ownBlock, Option.some.injEq] at hg'
    rw [hg', hg] at hh
    simp only [Option.some.injEq, Obj.cells.injEq] at hh
    exact he hh.2.1.symm
theorem OffS.ne {w : World} {v v' : Value} {xs : List Int} {e' : TypeId} {sz' : Nat} {ys : List (List Value)} (h : OffS w v xs) (h' : OwnS w v' e' sz' ys) (he : 3 ≠ e') : ∀ g ∈ blkS v, g ∉ blkS v' := by
  intro g hg hg'
  obtain ⟨⟨_, h3'⟩, _⟩ := h'
  rcases h3' with ⟨rfl, _⟩ | ⟨k', cap', cur', rfl, _, hh', _⟩
  · simp [blkS, Value.ownBlock] at hg'
  · simp [blkS, Value.ownBlock] at hg'
    subst hg'
    exact h.nb hh' he hg
theorem OffS.of_own {w : World} {v : Value} {xs : List Int} (h : OwnS w v 3 1 (qC xs)) : OffS w v xs := by
  have hl : (qC xs).length = xs.length := by simp [qC]
  obtain ⟨⟨h1, h2⟩, h3⟩ := h
  rcases h2 with ⟨rfl, h2⟩ | ⟨g, cap, cur, rfl, _, hg, h4, h5, h6, h7⟩
  · exact .inl ⟨rfl, List.eq_nil_of_length_eq_zero (by omega)⟩
  · refine .inr ⟨g, 0, cap, cur, by rw [hl], hg, by omega, by omega, h5, fun j hj => ?_⟩
    have hf := flatten_get (sz := 1) (qC xs) (fun x hx => (h3 x hx).1) j [.int .i64 xs[j]] (by simp [qC, hj]) 0 (by omega)
    have e : (cur.toList.take ((qC xs).length * 1))[j * 1 + 0]? = some (.int .i64 xs[j]) := by rw [h7, hf]; rfl
    rw [List.getElem?_take_of_lt (by omega)] at e
    simpa using e
section
variable {K : VK} {w : World}
theorem bsQ (n : Int) : (Instr.buildSlice 34 1 #[(0, .int .i64 n)]).run Try.prog w = .ok (.slice (some ⟨w.heap.size, 0, none⟩) 1 1) (w.alloc (.cells #[.int .i64 n] 3)) := by kernel_rfl
theorem run_append_room_at {P : Program} (t ty e : TypeId) (i : TypeInfo) (ht : P.underlying t = some (.slice e)) (hi : P.info? e = some i) (h1i : i.size = 1)
    (g o sLen sCap : Nat) (cur : Array Value) (hg : w.heap[g]? = some (.cells cur e (0, 0)))
    (a : Addr) (c : Nat) (u : Value) (hu : w.cell? a = some u) (h1 : u.oneCell' = true)
    (hroom : sLen + 1 ≤ sCap) (hfit : o + sLen + 1 ≤ cur.size) :
    (Builtin.append_ #[t, t] ty #[.slice (some ⟨g, o, none⟩) sLen sCap, .slice (some a) 1 c]).run P w =
      .ok (.slice (some ⟨g, o, none⟩) (sLen + 1) sCap) (w.setRow g (cur.toList.take (o + sLen) ++ [u] ++ cur.toList.drop (o + sLen + 1)).toArray) := by
  have hadd : a.add 0 = a := addr_add0 a
  have hf := run_firstCells_some (P := P) w 1 1 a 1 c [u] rfl (fun j v hj => by
    match j, hj with
    | 0, hj => simp only [List.getElem?_cons_zero, Option.some.injEq] at hj; subst hj; rw [hadd]; exact hu
    | j + 1, hj => simp at hj)
  have hst := run_storeCells_at P g (o + sLen) e [u] 0 cur w hg (by simp; omega) (by simpa using h1)
  simp only [Nat.add_zero, List.length_cons, List.length_nil, Nat.zero_add] at hst
  simp [Builtin.append_, run_underlying ht, sizeOf, typeInfo, hi, h1i, Builtin.lenOf, hroom, hf, Addr.add_lit, hst]
/-- One put behind. -/
theorem C.push {W0 : World} {v : Value} {xs : List Int} {n : Int} (hf : Fr [] W0 w) (hn : NewS W0 v) (hv : OffS w v xs) (hl : xs.length ≤ 17592186044415)
    (hk : ∀ v' w', Fr [] W0 w' → NewS W0 v' → OffS w' v' (xs ++ [n]) → Fr (blkS v) w w' → (∀ g ∈ blkS v', g ∈ blkS v ∨ w.heap.size ≤ g) → K v' w') :
    C.run Try.prog (Instr.buildSlice 34 1 #[(0, .int .i64 n)]) w fun x w1 => C.run Try.prog (Builtin.append_ #[34, 34] 34 #[v, x]) w1 K := by
  have happ : qC (xs ++ [n]) = qC xs ++ [[.int .i64 n]] := by simp [qC]
  rcases hv with ⟨rfl, rfl⟩ | ⟨g, o, cap, cur, rfl, hg, h1, h2, h3, h4⟩
  · refine C.app1 (x := [.int .i64 n]) (e := 3) (sz := 1) (bytes := 8) (z := .int .i64 0) Try.underlying34 (by kernel_rfl) rfl (by decide) (bsQ n) rfl (by simp [Value.oneCell']) hf hn (OwnS.nil _ _ _) (by simp) (by simp) fun v' w' a b c d e => hk v' w' a b (.of_own c) d e
  · refine C.run_of (bsQ n) ?_
    have hw := New.mk' w (.cells #[.int .i64 n] 3)
    have hg1 := hw.fr.at_ hg (by simp)
    have hf1 := hf.trans hw.fr
    have hcell : (w.alloc (.cells #[.int .i64 n] 3)).cell? ⟨w.heap.size, 0, none⟩ = some (.int .i64 n) := by rw [cell_mk hw.at_]; rfl
    have lg := lt_of_at hg
    generalize w.alloc (.cells #[.int .i64 n] 3) = w1 at *
    have hsz := hw.fr.size
    obtain ⟨i0, hi, hzz⟩ : ∃ i0, Try.prog.info? 3 = some i0 ∧ (i0.zero, i0.size, i0.bytes) = (some (.int .i64 0), 1, 8) := by
      have : (Try.prog.info? 3).map (fun i => (i.zero, i.size, i.bytes)) = some (some (.int .i64 0), 1, 8) := by kernel_rfl
      exact Option.map_eq_some_iff.1 this
    simp only [Prod.mk.injEq] at hzz
    by_cases hroom : xs.length + 1 ≤ cap
    · have hr := run_append_room_at (P := Try.prog) (w := w1) 34 34 3 i0 Try.underlying34 hi hzz.2.1 g o xs.length cap cur hg1 ⟨w.heap.size, 0, none⟩ 1 (.int .i64 n) hcell rfl hroom (by omega)
      refine C.run_of hr ?_
      have hu := upd_setRow (cs' := (cur.toList.take (o + xs.length) ++ [Value.int .i64 n] ++ cur.toList.drop (o + xs.length + 1)).toArray) hg1
      refine hk _ _ (hf1.then hu.fr fun z hz => .inr (by simp only [List.mem_singleton] at hz; rw [hz]; exact hn g rfl)) hn (.inr ⟨g, o, cap, _, by simp, hu.at_, by simpa using hroom, by simp; omega, h3, fun j hj => ?_⟩) (by
        have := hw.fr.w (S := [g])
        exact this.trans hu.fr) fun z hz => .inl hz
      rw [List.getElem?_toArray, List.append_assoc]
      by_cases hjl : j < xs.length
      · rw [List.getElem?_append_left (by simp; omega), List.getElem?_take_of_lt (by omega), Array.getElem?_toList, h4 j hjl, List.getElem_append_left hjl]
      · have ej : j = xs.length := by simp at hj; omega
        subst ej
        rw [List.getElem?_append_right (by simp; omega)]
        have e0 : o + xs.length - (cur.toList.take (o + xs.length)).length = 0 := by simp; omega
        rw [e0]
        simp
    · have hr := run_append_grow (P := Try.prog) w1 34 34 3 i0 (.int .i64 0) Try.underlying34 hi hzz.1 ⟨g, o, none⟩ xs.length cap (xs.map (Value.int .i64)) (by rw [hzz.2.1]; simp) (fun j v hj => by
          simp only [List.getElem?_map, Option.map_eq_some_iff] at hj
          obtain ⟨k, hk1, rfl⟩ := hj
          obtain ⟨hj', rfl⟩ := List.getElem?_eq_some_iff.1 hk1
          rw [Addr.add_lit, cell_mk hg1]
          exact h4 j hj') ⟨w.heap.size, 0, none⟩ 1 1 [.int .i64 n] (by rw [hzz.2.1]; simp) (fun j v hj => by
          match j, hj with
          | 0, hj => simp only [List.getElem?_cons_zero, Option.some.injEq] at hj; subst hj; rw [addr_add0]; exact hcell
          | j + 1, hj => simp at hj) (by omega) (by omega) (growslice_fits (by omega) (by rw [hzz.2.2]; omega))
      refine C.run_of hr ?_
      have hge := grownCap_ge w1 (xs.length + 1) cap 3
      have hle := grownCap_le_maxLen w1 (xs.length + 1) cap 3 (by unfold maxLen; omega)
      generalize hcap : grownCap w1 (xs.length + 1) cap 3 = cap' at *
      have hn2 := New.mk' w1.drew (.cells ((xs.map (Value.int .i64)).toArray ++ [Value.int .i64 n].toArray ++ Builtin.zeroCells (Value.int .i64 0).cells (cap' - (xs.length + 1))) 3)
      have fd : Fr [] w1 w1.drew := Fr.drew w1
      have i2 := hn2.is
      have z2 : w1.drew.heap.size = w1.heap.size := rfl
      have z1 := hf1.size
      rw [show w1.heap.size = w1.drew.heap.size from rfl]
      refine hk _ _ (hf1.trans (fd.trans hn2.fr)) (fun z hz => ?_) (.inr ⟨_, 0, cap', _, by simp, hn2.at_, by simpa using hge, by simp [Builtin.zeroCells, Value.cells]; omega, hle, fun j hj => ?_⟩) ((hw.fr.trans (fd.trans hn2.fr)).w) fun z hz => ?_
      · simp only [Value.ownBlock, Option.some.injEq] at hz
        omega
      · simp only [Nat.zero_add]
        have hj' : j < xs.length + 1 := by simpa using hj
        rw [Array.getElem?_append_left (by simp; omega)]
        by_cases hjl : j < xs.length
        · rw [Array.getElem?_append_left (by simpa using hjl), List.getElem_append_left hjl]
          simp [hjl]
        · have ej : j = xs.length := by omega
          subst ej
          rw [Array.getElem?_append_right (by simp)]
          simp
      · simp only [blkS, Value.ownBlock, List.mem_singleton] at hz
        exact .inr (by omega)
/-- The first taken away. -/
theorem C.pop {v : Value} {x : Int} {xs : List Int} (hv : OffS w v (x :: xs)) (hk : ∀ v', OffS w v' xs → (∀ g ∈ blkS v', g ∈ blkS v) → K v' w) : C.run Try.prog (Instr.sliceAt 34 v (some (.int .i64 1)) none none) w K := by
  rcases hv with ⟨_, h⟩ | ⟨g, o, cap, cur, rfl, hg, h1, h2, h3, h4⟩
  · cases h
  · refine C.run_of (sliceFrom_run (e := 3) (sz := 1) _ _ _ .i64 1 Try.underlying34 (by kernel_rfl) (by omega) (by simp; omega)) ?_
    simp only [List.length_cons] at h1 ⊢
    by_cases hc : cap = 1
    · have e : xs = [] := List.eq_nil_of_length_eq_zero (by omega)
      subst e hc
      refine hk _ (.inr ⟨g, o, 0, cur, ?_, hg, by simp, by omega, by simp [maxLen], fun j hj => by simp at hj⟩) fun z hz => hz
      simp
    · refine hk _ (.inr ⟨g, o + 1, cap - 1, cur, ?_, hg, by omega, by omega, by omega, fun j hj => ?_⟩) fun z hz => ?_
      · rw [if_neg (by omega)]
        simp [Addr.add_lit]
      · have := h4 (j + 1) (by simp; omega)
        rw [show o + 1 + j = o + (j + 1) by omega, this]
        simp
      · rw [if_neg (by omega)] at hz
        simpa [blkS, Value.ownBlock, Addr.add_lit] using hz
end
end Go.Proofs.YtfdpmgddlaamcaaV
