/- Lists of numbers, sorted by their first ones: what the call comes to. Own work (over the kit's contract, laid in Esortf). -/
import Derived.Test.YtchonfdnghimdaaEsortf
import Derived.Test.YtchonfdnghimdaaSc6
namespace Go.Proofs.YtchonfdnghimdaaV
open Go Go.Proofs Go.RowKit Go.Sort Go.Shelf
set_option linter.unusedVariables false
set_option linter.unusedSimpArgs false
set_option maxRecDepth 10000
section
variable {α : Type} [Inhabited α]
theorem heap_sw {enc : α → Value} {w : World} {g n : Nat} {os : Array Obj} {cur : Array Value} {e : TypeId} {fr : Nat × Nat} (d : Array α) (hb : w.heap[g]? = some (.cells cur e fr)) :
    (sortWorld enc w g 0 n d os).heap[g]? = some (.cells (putCells enc 0 d cur) e fr) := by
  have hg : g < w.heap.size := (Array.getElem?_eq_some_iff.1 hb).1
  unfold sortWorld
  rw [heap_grow_old _ _ (by simpa using hg)]
  simp [putRow, mapBlock, Sort.ahead, Array.getElem?_modify, hb, onCells]
theorem fr_sw {enc : α → Value} {w : World} {g n : Nat} {os : Array Obj} (d : Array α) : Fr [g] w (sortWorld enc w g 0 n d os) := by
  refine ⟨rfl, rfl, rfl, by simp [sortWorld], fun k hk hne => ?_⟩
  unfold sortWorld
  rw [heap_grow_old _ _ (by simpa using hk)]
  have : g ≠ k := fun e => hne (by simp [e])
  simp [putRow, mapBlock, Sort.ahead, Array.getElem?_modify, this]
theorem take_pc {enc : α → Value} (cur : Array Value) (d : Array α) (h : d.size ≤ cur.size) : (putCells enc 0 d cur).toList.take d.size = d.toList.map enc := by
  apply List.ext_getElem?
  intro j
  by_cases hj : j < d.size
  · rw [List.getElem?_take_of_lt hj, Array.getElem?_toList]
    have h1 : d[j]! = d[j] := getElem!_pos d j hj
    simp [putCells, hj, show j < cur.size by omega, h1]
  · rw [List.getElem?_take_eq_none (by omega), List.getElem?_eq_none (by simp; omega)]
end
section
variable {K : VK} {w : World}
theorem flat1 : ∀ l : List Value, (slC l).flatten = l
  | [] => rfl
  | x :: l => by
    have := flat1 l
    simp only [slC, List.map_cons, List.flatten_cons, List.cons_append, List.nil_append] at *
    rw [this]
/-- The first number of a list. -/
def fst0 (r : List Int) : Int := r.headD 0
theorem cmp_c {x y : Value} {a b : List Int} (hx : RdS w x 1 (intC a)) (hy : RdS w y 1 (intC b)) (ha : a ≠ []) (hb : b ≠ []) (hra : 0 ≤ fst0 a ∧ fst0 a ≤ 1000000) (hrb : 0 ≤ fst0 b ∧ fst0 b ≤ 1000000) (h : K (.int .i64 (fst0 a - fst0 b)) { w with drawn := w.drawn + 1 }) : C.call Try.prog 28 #[x, y] w K := by
  have hx' := hx.keep (Fr.drew w)
  have hy' := hy.keep (Fr.drew w)
  obtain ⟨p, ta, rfl⟩ := List.exists_cons_of_ne_nil ha
  obtain ⟨q, tb, rfl⟩ := List.exists_cons_of_ne_nil hb
  refine F28.sh ⟨fun w' => w' = { w with drawn := w.drawn + 1 }, rfl, ?_⟩
  refine C.idx_intS (i := 0) (S := fun w' => w' = { w with drawn := w.drawn + 1 }) (fun w' hw => by subst hw; exact hx') rfl (by simp) fun g1 o1 hs1 => ?_
  refine C.idx_intS (i := 0) (S := fun w' => w' = { w with drawn := w.drawn + 1 }) (fun w' hw => by subst hw; exact hy') rfl (by simp) fun g2 o2 hs2 => ?_
  refine C.load1S_of hs1 (C.load1S_of hs2 ?_)
  simp only [List.getElem_cons_zero, C.ite_true, C.ite_false, C.pick_true, C.pick_false, C.not_bool, C.field_ptr, C.nilCheck_ptr, C.add_mk, C.sub_mk, C.mul_mk, C.eql_mk, C.neq_mk, C.lss_mk, C.leq_mk, C.gtr_mk, C.geq_mk, C.conv_mk, C.len_mk, C.ext_0, C.ext_1, C.ext3_0, C.ext3_1, C.ext3_2, C.guarded_yes, C.guarded_tf, C.guarded_ft, C.guarded_undef, Bool.not_true, Bool.not_false, Nat.zero_add, eq_self, decide_true, decide_false]
  simp only [fst0, List.headD_cons] at h hra hrb
  rw [wrap64_id (n := p - q) (by omega)]
  exact h
theorem enters28 : ∀ args w, (callFunc 28 args).run Try.prog w = .ok (.enter 28 args) w := by
  intro args w
  exact enters_of Try.func28 (by kernel_rfl) rfl args w
theorem SortF_c {vs : List Value} {L : List (List Int)} {ov : Value} (ho : OwnS w ov 23 1 (slC vs)) (hl : vs.length = L.length) (hlen : L.length ≤ 1000000) (hr : ∀ i (h : i < L.length) (h' : i < vs.length), OwnS w vs[i] 3 1 (intC L[i]))
    (hne : ∀ r ∈ L, r ≠ [] ∧ 0 ≤ fst0 r ∧ fst0 r ≤ 1000000)
    (h : ∀ (A : List Nat) (w' : World), Fr (blkS ov) w w' → A.Perm (List.range L.length) → A.Pairwise (fun i j => fst0 (L.getD i []) ≤ fst0 (L.getD j [])) → OwnS w' ov 23 1 (slC (A.map fun i => vs.getD i (.slice none 0 0))) → K (.tuple #[]) w') :
    C.call Try.prog 27 #[ov, .func (.func 28) #[] #[]] w K := by
  by_cases hz : L.length = 0
  · have hv : vs = [] := List.eq_nil_of_length_eq_zero (by omega)
    subst hv
    have hk := h [] w (Fr.refl _ _) (by rw [hz]; simp) (by simp) ho
    obtain ⟨A, c, e⟩ := ho.len
    rw [show (slC []).length = 0 from rfl] at e
    subst e
    refine (AnyF.slices_SortFunc_none { sortF with } A c _ w).mono ?_
    rintro e w' ⟨rfl, rfl⟩
    exact ⟨_, rfl, hk⟩
  · obtain ⟨⟨h1, h2⟩, h3⟩ := id ho
    rw [slC_len] at h1 h2
    rcases h2 with ⟨rfl, h2⟩ | ⟨g, cap, cur, rfl, hb, hg, h4, h5, h6, h7⟩
    · omega
    · have hn0 : 0 < vs.length := by omega
      letI : Inhabited (Fin vs.length) := ⟨⟨0, hn0⟩⟩
      have hvt : cur.toList.take vs.length = vs := by
        rw [Nat.mul_one] at h7
        rw [h7]
        simp [slC]
        exact List.flatMap_singleton' vs
      have hlt : ∀ i : Fin vs.length, (i : Nat) < L.length := fun i => by omega
      have hreal : (Array.ofFn (fun i : Fin vs.length => i)).size = vs.length := by simp
      have hrd : ∀ {W : World}, Fr [g] w W → ∀ i : Fin vs.length, RdS W vs[i] 1 (intC (L[(i : Nat)]'(hlt i))) := fun hf i => by
        have hi := hr i (hlt i) i.2
        refine (hi.keep' hf fun x hx c => ?_).rd
        exact (ho.ne hi (by decide)) x (by simp only [List.mem_singleton] at c; subst c; exact mem_blkS.2 rfl) hx
      have main := Any.slices_SortFunc (P := Try.prog) (ρ := sortF_ren) sortF (fun i : Fin vs.length => vs[i]) (fun i => (hr i (hlt i) i.2).one.1) (fun i j => fst0 (L[(i : Nat)]'(hlt i)) - fst0 (L[(j : Nat)]'(hlt j)))
        ⟨fun x => by simp [ltOf], fun x y z a b => by simp only [ltOf, decide_eq_true_eq] at *; omega, fun x y z a b => by simp only [ltOf, decide_eq_false_iff_not] at *; omega⟩
        28 #[] g 0 cap (Array.ofFn fun i : Fin vs.length => i) w enters28 (fun m os dk hs x y => by
          have hf := fr_sw (enc := fun i : Fin vs.length => vs[i]) (w := w) (g := g) (n := m) (os := os) dk
          have hx := hne _ (List.getElem_mem (hlt x))
          have hy := hne _ (List.getElem_mem (hlt y))
          have := cmp_c (K := fun v W => v = .int .i64 (fst0 (L[(x : Nat)]'(hlt x)) - fst0 (L[(y : Nat)]'(hlt y))) ∧ W = { (sortWorld (fun i : Fin vs.length => vs[i]) w g 0 m dk os) with drawn := (sortWorld (fun i : Fin vs.length => vs[i]) w g 0 m dk os).drawn + 1 }) (hrd hf x) (hrd hf y) hx.1 hy.1 hx.2 hy.2 ⟨rfl, rfl⟩
          refine Calls.mono this ?_
          rintro e W ⟨v, rfl, rfl, rfl⟩
          exact ⟨rfl, 1, #[], by rw [grow_empty]; rfl⟩)
        (fun j hj => by
          have hj' : j < vs.length := by simpa using hj
          refine ⟨?_, by simp [World.frozen?, hg]⟩
          have e1 : (cur.toList.take vs.length)[j]? = vs[j]? := by rw [hvt]
          rw [List.getElem?_take_of_lt hj'] at e1
          simp only [World.cell?, hg, Nat.zero_add, Option.isSome_none, Bool.false_eq_true, if_false]
          rw [← Array.getElem?_toList, e1, List.getElem?_eq_getElem hj']
          rw [getElem!_pos _ j hj]
          simp)
        (lt_of_at hg) (by rw [hreal]; omega)
      rw [hreal] at main
      have main' : Calls Try.prog 27 #[.slice (some ⟨g, 0, none⟩) vs.length cap, .func (.func 28) #[] #[]] w _ := main
      refine main'.mono ?_
      rintro e w' ⟨rfl, d', n, os, ⟨p1, _, p3⟩, hs, rfl⟩
      have ds : d'.size = vs.length := by rw [p1, hreal]
      have dl : d'.toList.length = vs.length := by simpa using ds
      have hperm : d'.toList.Perm (Array.ofFn fun i : Fin vs.length => i).toList := by
        have e1 : d'.extract 0 vs.length = d' := by
          have : d'.extract 0 d'.size = d' := by simp
          rwa [ds] at this
        have e2 : (Array.ofFn fun i : Fin vs.length => i).extract 0 vs.length = Array.ofFn fun i : Fin vs.length => i := by
          have : (Array.ofFn fun i : Fin vs.length => i).extract 0 (Array.ofFn fun i : Fin vs.length => i).size = Array.ofFn fun i : Fin vs.length => i := by simp
          rwa [hreal] at this
        rw [e1, e2] at p3
        exact p3
      refine ⟨_, rfl, h (d'.toList.map fun i : Fin vs.length => (i : Nat)) _ (by simpa [blkS, Value.ownBlock] using fr_sw d') ?_ ?_ ?_⟩
      · refine (hperm.map _).trans ?_
        have : (Array.ofFn fun i : Fin vs.length => i).toList.map (fun i : Fin vs.length => (i : Nat)) = List.range L.length := by
          rw [← hl]
          apply List.ext_getElem
          · simp
          · intro i h1 h2; simp
        rw [this]
      · rw [List.pairwise_map, List.pairwise_iff_getElem]
        intro i j hi hj hij
        have := hs i j (Nat.zero_le _) hij (by omega)
        rw [getElem!_pos d' i (by omega), getElem!_pos d' j (by omega)] at this
        simp only [ltOf, decide_eq_false_iff_not] at this
        have g1 : L.getD (d'[i]'(by omega) : Nat) [] = L[(d'[i]'(by omega) : Nat)]'(hlt _) := by simp [List.getD_eq_getElem?_getD, List.getElem?_eq_getElem (hlt _)]
        have g2 : L.getD (d'[j]'(by omega) : Nat) [] = L[(d'[j]'(by omega) : Nat)]'(hlt _) := by simp [List.getD_eq_getElem?_getD, List.getElem?_eq_getElem (hlt _)]
        simp only [Array.getElem_toList]
        rw [g1, g2]
        omega
      · have et : (d'.toList.map fun i : Fin vs.length => (i : Nat)).map (fun i => vs.getD i (.slice none 0 0)) = d'.toList.map fun i : Fin vs.length => vs[i] := by
          rw [List.map_map]
          apply List.map_congr_left
          intro i _
          simp [List.getD_eq_getElem?_getD]
        rw [et]
        refine OwnS.of_block (heap_sw d' hg) (by rw [slC_len, List.length_map, dl]) h4 (by unfold maxLen at h5; omega) (by simp [putCells, h6]) ?_ ?_
        · intro x hx
          simp only [slC, List.mem_map] at hx
          obtain ⟨v, ⟨i, _, rfl⟩, rfl⟩ := hx
          refine ⟨rfl, fun u hu => ?_⟩
          simp only [List.mem_singleton] at hu
          subst hu
          exact (hr i (hlt i) i.2).one.1
        · have := take_pc (enc := fun i : Fin vs.length => vs[i]) cur d' (by rw [ds, h6]; omega)
          rw [ds] at this
          rw [Nat.mul_one, this]
          exact (flat1 _).symm
end
end Go.Proofs.YtchonfdnghimdaaV
