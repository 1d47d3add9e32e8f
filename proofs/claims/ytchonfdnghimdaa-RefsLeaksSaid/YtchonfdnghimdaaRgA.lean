/- Lists of numbers of the call's own: appended to, cloned, reversed, thinned out: what each call comes to. · slices.Repeat of one element: what it comes to. · How far each node is, by a row of nodes met; which nodes can be reached: what the calls come to. · How far each node is; which nodes can be reached: what the calls come to. -/
import Derived.Test.YtchonfdnghimdaaSc11
import Derived.Test.YtchonfdnghimdaaGRefs
import Derived.Lib.SliceRun
import Derived.Test.YtchonfdnghimdaaGRep
import Derived.Test.YtchonfdnghimdaaBits
namespace Go.Proofs.YtchonfdnghimdaaV
open Go Go.Proofs Go.RowKit
set_option linter.unusedVariables false
set_option linter.unusedSimpArgs false
theorem RdS.keep' {S : List Nat} {w w' : World} {v : Value} {sz : Nat} {xs : List (List Value)} (h : RdS w v sz xs) (hf : Fr S w w') (hS : ∀ g ∈ blkS v, g ∉ S) : RdS w' v sz xs := by
  obtain ⟨A, c, rfl, h1, h2, h3⟩ := h
  refine ⟨A, c, rfl, h1, h2, fun hx => ?_⟩
  obtain ⟨g, o, cs, e, fz, rfl, hg, hc⟩ := h3 hx
  exact ⟨g, o, cs, e, fz, rfl, hf.at_ hg (hS g (mem_blkS.2 rfl)), hc⟩
theorem intC_oneR {l : List Int} : ∀ y ∈ intC l, ∀ u ∈ y, u.oneCell' = true := by
  intro y hy u hu
  simp only [intC, List.mem_map] at hy
  obtain ⟨x, _, rfl⟩ := hy
  simp only [List.mem_cons, List.not_mem_nil, or_false] at hu
  subst hu
  rfl
theorem intC_setR (l : List Int) (j : Nat) (n : Int) : (intC l).set j [.int .i64 n] = intC (l.set j n) := by simp [intC, List.map_set]
theorem intC_take (l : List Int) (j : Nat) : (intC l).take j = intC (l.take j) := by simp [intC, List.map_take]
theorem intC_flat (l : List Int) : (intC l).flatten = l.map (Value.int .i64) := by
  induction l with
  | nil => rfl
  | cons x l ih => simp only [intC, List.map_cons, List.flatten_cons, List.cons_append, List.nil_append] at *; rw [ih]
theorem intC_rep (n : Nat) (x : Int) : List.replicate n [.int .i64 x] = intC (List.replicate n x) := by simp [intC]
/-- A call of a function at hand. -/
theorem vcCall_ofR {f : FuncId} {cap : Array Value} {args : List Value} {w : World} {K : VK} (hb : bodied Try.prog f = true) (h : C.call Try.prog f (args ++ cap.toList).toArray w K) : vcCall Try.prog (.func (.func f) #[] cap) args w K := by
  simp only [vcCall, hb, cond_true, List.nil_append]
  exact h
theorem upd_setCells {g : Nat} {e : TypeId} : ∀ (vs : List Value) (o : Nat) (w : World) (cs : Array Value), w.heap[g]? = some (.cells cs e (0, 0)) →
    ∃ cs', Upd w g (.cells cs' e (0, 0)) (w.setCells g o vs) ∧ cs'.size = cs.size ∧ ∀ j, j < o → cs'[j]? = cs[j]?
  | [], o, w, cs, h => ⟨cs, ⟨Fr.refl _ _, h, rfl⟩, rfl, fun _ _ => rfl⟩
  | v :: vs, o, w, cs, h => by
    have hu := upd_setCell (o := o) h v
    obtain ⟨cs', h1, h2, h3⟩ := upd_setCells vs (o + 1) _ _ hu.at_
    refine ⟨cs', hu.trans h1, by simpa using h2, fun j hj => ?_⟩
    rw [h3 j (by omega), Array.getElem?_setIfInBounds_ne (by omega)]
section
variable {K : VK} {w : World}
theorem bsIR (a : Int) : (Instr.buildSlice 23 1 #[(0, .int .i64 a)]).run Try.prog w = .ok (.slice (some ⟨w.heap.size, 0, none⟩) 1 1) (w.alloc (.cells #[.int .i64 a] 3)) := by kernel_rfl
theorem bsI0 : (Instr.buildSlice 23 0 #[]).run Try.prog w = .ok (.slice (some ⟨w.heap.size, 0, none⟩) 0 0) (w.alloc (.cells #[] 3)) := by kernel_rfl
/-- append(v, n), v a list of the call's own. -/
theorem C.appInt {W0 : World} {v : Value} {l : List Int} {n : Int} (hf : Fr [] W0 w) (hn : NewS W0 v) (hv : OwnS w v 3 1 (intC l)) (hl : l.length ≤ 17592186044415)
    (hk : ∀ v' w', Fr [] W0 w' → NewS W0 v' → OwnS w' v' 3 1 (intC (l ++ [n])) → Fr (blkS v) w w' → K v' w') :
    C.run Try.prog (Instr.buildSlice 23 1 #[(0, .int .i64 n)]) w fun x w1 => C.run Try.prog (Builtin.append_ #[23, 23] 23 #[v, x]) w1 K := by
  refine C.run_of (bsIR n) ?_
  have hw := New.mk' w (.cells #[.int .i64 n] 3)
  refine C.append_of (xs := intC l) (ys := intC [n]) (e := 3) (sz := 1) (bytes := 8) (z := .int .i64 0) Try.underlying23 (by kernel_rfl) rfl (by decide) (hv.keep hw.fr (by simp)) (RdS.of_block hw.at_ rfl (by simp) (by simp) (by simp [intC]) (by simp [intC])) intC_oneR
    (by rw [intC_len, intC_len]; simp; omega) (by rw [intC_len, intC_len]; simp; omega) fun v' w' ho hf' hb _ => ?_
  refine hk v' w' ((hf.trans hw.fr).then hf' fun x hx => .inr (hn x (mem_blkS.1 hx))) (fun g hg => ?_) (by rw [intC_app]; exact ho) (hw.fr.w.trans hf')
  rcases hb with hb | ⟨g', hb, hle⟩
  · rw [hb] at hg
    exact hn g hg
  · rw [hg] at hb
    simp only [Option.some.injEq] at hb
    have := hf.size
    have := hw.fr.size
    omega
/-- append(v, n), the slice's block told: it is v's, or new. -/
theorem C.appInt' {v : Value} {l : List Int} {n : Int} (hv : OwnS w v 3 1 (intC l)) (hl : l.length ≤ 17592186044415)
    (hk : ∀ v' w', Fr (blkS v) w w' → (v'.ownBlock = v.ownBlock ∨ ∃ g, v'.ownBlock = some g ∧ w.heap.size ≤ g) → OwnS w' v' 3 1 (intC (l ++ [n])) → K v' w') :
    C.run Try.prog (Instr.buildSlice 23 1 #[(0, .int .i64 n)]) w fun x w1 => C.run Try.prog (Builtin.append_ #[23, 23] 23 #[v, x]) w1 K := by
  refine C.run_of (bsIR n) ?_
  have hw := New.mk' w (.cells #[.int .i64 n] 3)
  refine C.append_of (xs := intC l) (ys := intC [n]) (e := 3) (sz := 1) (bytes := 8) (z := .int .i64 0) Try.underlying23 (by kernel_rfl) rfl (by decide) (hv.keep hw.fr (by simp)) (RdS.of_block hw.at_ rfl (by simp) (by simp) (by simp [intC]) (by simp [intC])) intC_oneR
    (by rw [intC_len, intC_len]; simp; omega) (by rw [intC_len, intC_len]; simp; omega) fun v' w' ho hf' hb _ => ?_
  refine hk v' w' (hw.fr.w.trans hf') ?_ (by rw [intC_app]; exact ho)
  rcases hb with hb | ⟨g', hb, hle⟩
  · exact .inl hb
  · exact .inr ⟨g', hb, Nat.le_trans hw.fr.size hle⟩
theorem IndexFunc_loop {W0 : World} {v f : Value} {l : List Int} {p : Int → Bool} (hv : RdS W0 v 1 (intC l))
    (hp : ∀ w' n (K' : VK), Fr [] W0 w' → n ∈ l → (∀ w'', Fr [] w' w'' → K' (.bool (p n)) w'') → vcCall Try.prog f [.int .i64 n] w' K')
    (h1 : ∀ w', Fr [] W0 w' → (∀ n ∈ l, p n = false) → K (.int .i64 (-1)) w')
    (h2 : ∀ i w', Fr [] W0 w' → (hi : i < l.length) → p l[i] = true → (∀ k (h : k < l.length), k < i → p l[k] = false) → K (.int .i64 (i : Int)) w') :
    ∀ (d j : Nat) (w : World), l.length = j + d → Fr [] W0 w → (∀ i (h : i < l.length), i < j → p l[i] = false) → F49.l2 K v f (.int .i64 (l.length : Int)) (.int .i64 (j : Int)) w := by
  intro d
  induction d with
  | zero =>
    intro j w hd hf hj
    refine F49.l2.to ?_
    simp only [C.ite_true, C.ite_false, C.pick_true, C.pick_false, C.not_bool, C.field_ptr, C.nilCheck_ptr, C.add_mk, C.sub_mk, C.mul_mk, C.eql_mk, C.neq_mk, C.lss_mk, C.leq_mk, C.gtr_mk, C.geq_mk, C.conv_mk, C.len_mk, C.ext_0, C.ext_1, C.ext3_0, C.ext3_1, C.ext3_2, C.guarded_yes, C.guarded_tf, C.guarded_ft, C.guarded_undef, Bool.not_true, Bool.not_false, Nat.zero_add, eq_self, decide_true, decide_false, show ¬ ((j : Int) < (l.length : Int)) by omega]
    refine F49.k7.to (h1 w hf fun n hn => ?_)
    obtain ⟨i, hi, rfl⟩ := List.getElem_of_mem hn
    exact hj i hi (by omega)
  | succ d ih =>
    intro j w hd hf hj
    have hle := hv.le
    rw [intC_len] at hle
    have jl : j < l.length := by omega
    refine F49.l2.to ?_
    simp only [C.ite_true, C.ite_false, C.pick_true, C.pick_false, C.not_bool, C.field_ptr, C.nilCheck_ptr, C.add_mk, C.sub_mk, C.mul_mk, C.eql_mk, C.neq_mk, C.lss_mk, C.leq_mk, C.gtr_mk, C.geq_mk, C.conv_mk, C.len_mk, C.ext_0, C.ext_1, C.ext3_0, C.ext3_1, C.ext3_2, C.guarded_yes, C.guarded_tf, C.guarded_ft, C.guarded_undef, Bool.not_true, Bool.not_false, Nat.zero_add, eq_self, decide_true, decide_false, show ((j : Int) < (l.length : Int)) by omega]
    refine F49.k3.to (C.idx_int (hv.keep hf) jl fun g o cs e fz hg hc => C.load1_of hg hc (hp _ _ _ hf (List.getElem_mem _) fun w1 hf1 => ?_))
    cases hpj : p l[j] with
    | true =>
      simp only [C.ite_true, C.ite_false, C.pick_true, C.pick_false, C.not_bool, C.field_ptr, C.nilCheck_ptr, C.add_mk, C.sub_mk, C.mul_mk, C.eql_mk, C.neq_mk, C.lss_mk, C.leq_mk, C.gtr_mk, C.geq_mk, C.conv_mk, C.len_mk, C.ext_0, C.ext_1, C.ext3_0, C.ext3_1, C.ext3_2, C.guarded_yes, C.guarded_tf, C.guarded_ft, C.guarded_undef, Bool.not_true, Bool.not_false, Nat.zero_add, eq_self, decide_true, decide_false]
      exact h2 j w1 (hf.trans hf1) jl hpj hj
    | false =>
      simp only [C.ite_true, C.ite_false, C.pick_true, C.pick_false, C.not_bool, C.field_ptr, C.nilCheck_ptr, C.add_mk, C.sub_mk, C.mul_mk, C.eql_mk, C.neq_mk, C.lss_mk, C.leq_mk, C.gtr_mk, C.geq_mk, C.conv_mk, C.len_mk, C.ext_0, C.ext_1, C.ext3_0, C.ext3_1, C.ext3_2, C.guarded_yes, C.guarded_tf, C.guarded_ft, C.guarded_undef, Bool.not_true, Bool.not_false, Nat.zero_add, eq_self, decide_true, decide_false]
      refine F49.k6.to ?_
      simp only [C.ite_true, C.ite_false, C.pick_true, C.pick_false, C.not_bool, C.field_ptr, C.nilCheck_ptr, C.add_mk, C.sub_mk, C.mul_mk, C.eql_mk, C.neq_mk, C.lss_mk, C.leq_mk, C.gtr_mk, C.geq_mk, C.conv_mk, C.len_mk, C.ext_0, C.ext_1, C.ext3_0, C.ext3_1, C.ext3_2, C.guarded_yes, C.guarded_tf, C.guarded_ft, C.guarded_undef, Bool.not_true, Bool.not_false, Nat.zero_add, eq_self, decide_true, decide_false]
      rw [wrap64_id (n := (j : Int) + 1) (by omega), show (j : Int) + 1 = ((j + 1 : Nat) : Int) by omega]
      refine ih (j + 1) w1 (by omega) (hf.trans hf1) fun i hi hij => ?_
      rcases Nat.lt_or_ge i j with h | h
      · exact hj i hi h
      · obtain rfl : i = j := by omega
        exact hpj
theorem take_filter_succ {p : Int → Bool} {l : List Int} {j : Nat} (h : j < l.length) : (l.take (j + 1)).filter p = (l.take j).filter p ++ if p l[j] = true then [l[j]] else [] := by
  rw [List.take_succ_eq_append_getElem h, List.filter_append]
  congr 1
  cases hp : p l[j] <;> simp [hp]
theorem filter_take_le {p : Int → Bool} {l : List Int} {j : Nat} : ((l.take j).filter p).length ≤ j := Nat.le_trans (List.length_filter_le _ _) (by simp; omega)
theorem DeleteFunc_end {W0 : World} {v : Value} {l m : List Int} {i : Nat} (hf : Fr (blkS v) W0 w) (hm : OwnS w v 3 1 (intC m)) (hi : i < m.length) (hl : m.take i = l)
    (h : ∀ v' w', Fr (blkS v) W0 w' → OwnS w' v' 3 1 (intC l) → v'.ownBlock = v.ownBlock → K v' w') : F37.k11 K v (.int .i64 (i : Int)) w := by
  refine F37.k11.to ?_
  have hle := hm.rd.le
  rw [intC_len] at hle
  obtain ⟨⟨h2, h3⟩, h4⟩ := hm
  rcases h3 with ⟨rfl, h3⟩ | ⟨g, cap, cur, rfl, hb, hh, h5, h6, h7, h8⟩
  · rw [intC_len] at h3; omega
  · rw [intC_len] at h5 h8
    simp only [Nat.mul_one] at h7 h8
    have r1 := sliceFrom_run (P := Try.prog) (w := w) (t := 23) (e := 3) (sz := 1) (some ⟨g, 0, none⟩) (intC m).length cap .i64 (i : Int) Try.underlying23 (by kernel_rfl) (by omega) (by rw [intC_len]; omega)
    rw [Int.toNat_natCast, if_neg (by omega)] at r1
    simp only [Option.map_some, add_mk, Nat.zero_add, Nat.mul_one, intC_len] at r1
    have r1' : (Instr.sliceAt 23 (.slice (some ⟨g, 0, none⟩) (intC m).length cap) (some (.int .i64 (i : Int))) none none).run Try.prog w = .ok (.slice (some ⟨g, i, none⟩) (m.length - i) (cap - i)) w := by rw [intC_len]; exact r1
    refine C.run_of r1' ?_
    have r2 := Go.Lib.run_clear_slice (P := Try.prog) w 23 3 0 (.int .i64 0) Try.underlying23 (fun w => by kernel_rfl) rfl rfl g i (m.length - i) (cap - i) (by omega) (fun j hj => by rw [cell_mk hh, Array.getElem?_eq_getElem (by omega)]; rfl) (fun j hj => frozen_mk hh)
    refine C.run_of r2 ?_
    obtain ⟨cs', hu, hs', hc'⟩ := upd_setCells (List.replicate (m.length - i) (.int .i64 0)) i w cur hh
    have r3 := fun w' => sliceTo_run (P := Try.prog) (w := w') (t := 23) (e := 3) (sz := 1) (some ⟨g, 0, none⟩) (intC m).length cap .i64 (i : Int) Try.underlying23 (by kernel_rfl) (by omega) (by omega)
    simp only [Int.toNat_natCast] at r3
    refine C.run_of (r3 _) ?_
    refine h _ _ (hf.trans (hu.fr.mono (by simp [blkS, Value.ownBlock]))) ?_ rfl
    have hlen : l.length = i := by rw [← hl, List.length_take]; omega
    refine OwnS.of_block hu.at_ (by rw [intC_len, hlen]) (by omega) (by unfold maxLen at h6; omega) (by rw [hs', h7, Nat.mul_one]) (fun y hy => ⟨by simp only [intC, List.mem_map] at hy; obtain ⟨_, _, rfl⟩ := hy; rfl, intC_oneR y hy⟩) ?_
    rw [Nat.mul_one, intC_flat, ← hl]
    have e1 : cur.toList.take i = (cur.toList.take m.length).take i := by rw [List.take_take, Nat.min_eq_left (by omega)]
    rw [h8, intC_flat] at e1
    rw [List.map_take, ← e1]
    apply List.ext_getElem?
    intro k
    rw [List.getElem?_take, List.getElem?_take]
    split
    · rename_i hk
      simpa using hc' k hk
    · rfl
theorem DeleteFunc_loop {W0 : World} {v f : Value} {l : List Int} {p : Int → Bool}
    (hp : ∀ w' n (K' : VK), Fr (blkS v) W0 w' → n ∈ l → (∀ w'', Fr [] w' w'' → K' (.bool (p n)) w'') → vcCall Try.prog f [.int .i64 n] w' K')
    (h : ∀ v' w', Fr (blkS v) W0 w' → OwnS w' v' 3 1 (intC (l.filter fun n => !p n)) → v'.ownBlock = v.ownBlock → K v' w') :
    ∀ (d j i : Nat) (m : List Int) (w : World), l.length = j + d → Fr (blkS v) W0 w → OwnS w v 3 1 (intC m) → m.length = l.length → i < j → m.take i = (l.take j).filter (fun n => !p n) → m.drop j = l.drop j →
      F37.l5 K v f (.int .i64 (i : Int)) (.int .i64 (j : Int)) w := by
  intro d
  induction d with
  | zero =>
    intro j i m w hd hf hm hml hij ht hdr
    refine F37.l5.to (C.len_rd hm.rd ?_)
    simp only [C.ite_true, C.ite_false, C.pick_true, C.pick_false, C.not_bool, C.field_ptr, C.nilCheck_ptr, C.add_mk, C.sub_mk, C.mul_mk, C.eql_mk, C.neq_mk, C.lss_mk, C.leq_mk, C.gtr_mk, C.geq_mk, C.conv_mk, C.len_mk, C.ext_0, C.ext_1, C.ext3_0, C.ext3_1, C.ext3_2, C.guarded_yes, C.guarded_tf, C.guarded_ft, C.guarded_undef, Bool.not_true, Bool.not_false, Nat.zero_add, eq_self, decide_true, decide_false, intC_len, hml, show ¬ ((j : Int) < (l.length : Int)) by omega]
    refine DeleteFunc_end hf hm (by omega) ?_ h
    rw [ht, List.take_of_length_le (by omega)]
  | succ d ih =>
    intro j i m w hd hf hm hml hij ht hdr
    have hle := hm.rd.le
    rw [intC_len] at hle
    have jl : j < l.length := by omega
    refine F37.l5.to (C.len_rd hm.rd ?_)
    simp only [C.ite_true, C.ite_false, C.pick_true, C.pick_false, C.not_bool, C.field_ptr, C.nilCheck_ptr, C.add_mk, C.sub_mk, C.mul_mk, C.eql_mk, C.neq_mk, C.lss_mk, C.leq_mk, C.gtr_mk, C.geq_mk, C.conv_mk, C.len_mk, C.ext_0, C.ext_1, C.ext3_0, C.ext3_1, C.ext3_2, C.guarded_yes, C.guarded_tf, C.guarded_ft, C.guarded_undef, Bool.not_true, Bool.not_false, Nat.zero_add, eq_self, decide_true, decide_false, intC_len, hml, show ((j : Int) < (l.length : Int)) by omega]
    have ej : m[j]'(by omega) = l[j] := by
      have := congrArg (fun x : List Int => x[0]?) hdr
      simpa [List.getElem?_drop, List.getElem?_eq_getElem (show j < m.length by omega), List.getElem?_eq_getElem jl] using this
    refine F37.k7.to (C.idx_int hm.rd (by omega) fun g o cs e fz hg hc => C.load1_of hg (by rw [hc, ej]) (hp _ _ _ hf (List.getElem_mem jl) fun w1 hf1 => ?_))
    have nx : ∀ (i' : Nat) (m' : List Int) (w' : World), Fr (blkS v) W0 w' → OwnS w' v 3 1 (intC m') → m'.length = l.length → i' ≤ j → m'.take i' = (l.take (j + 1)).filter (fun n => !p n) → m'.drop (j + 1) = l.drop (j + 1) →
        F37.k6 K v f (.int .i64 (i' : Int)) (.int .i64 (j : Int)) w' := by
      intro i' m' w' a b c dd e ff
      refine F37.k6.to ?_
      simp only [C.ite_true, C.ite_false, C.pick_true, C.pick_false, C.not_bool, C.field_ptr, C.nilCheck_ptr, C.add_mk, C.sub_mk, C.mul_mk, C.eql_mk, C.neq_mk, C.lss_mk, C.leq_mk, C.gtr_mk, C.geq_mk, C.conv_mk, C.len_mk, C.ext_0, C.ext_1, C.ext3_0, C.ext3_1, C.ext3_2, C.guarded_yes, C.guarded_tf, C.guarded_ft, C.guarded_undef, Bool.not_true, Bool.not_false, Nat.zero_add, eq_self, decide_true, decide_false]
      rw [wrap64_id (n := (j : Int) + 1) (by omega), show (j : Int) + 1 = ((j + 1 : Nat) : Int) by omega]
      exact ih (j + 1) i' m' w' (by omega) a b c (by omega) e ff
    have hdr1 : m.drop (j + 1) = l.drop (j + 1) := by
      have := congrArg (List.drop 1) hdr
      simpa [List.drop_drop] using this
    have hts := take_filter_succ (p := fun n => !p n) jl
    cases hpj : p l[j] with
    | true =>
      simp only [C.ite_true, C.ite_false, C.pick_true, C.pick_false, C.not_bool, C.field_ptr, C.nilCheck_ptr, C.add_mk, C.sub_mk, C.mul_mk, C.eql_mk, C.neq_mk, C.lss_mk, C.leq_mk, C.gtr_mk, C.geq_mk, C.conv_mk, C.len_mk, C.ext_0, C.ext_1, C.ext3_0, C.ext3_1, C.ext3_2, C.guarded_yes, C.guarded_tf, C.guarded_ft, C.guarded_undef, Bool.not_true, Bool.not_false, Nat.zero_add, eq_self, decide_true, decide_false]
      refine nx i m w1 (hf.trans hf1.w) (hm.keep hf1 (by simp)) hml (by omega) ?_ hdr1
      rw [hts, hpj, ht]
      simp
    | false =>
      simp only [C.ite_true, C.ite_false, C.pick_true, C.pick_false, C.not_bool, C.field_ptr, C.nilCheck_ptr, C.add_mk, C.sub_mk, C.mul_mk, C.eql_mk, C.neq_mk, C.lss_mk, C.leq_mk, C.gtr_mk, C.geq_mk, C.conv_mk, C.len_mk, C.ext_0, C.ext_1, C.ext3_0, C.ext3_1, C.ext3_2, C.guarded_yes, C.guarded_tf, C.guarded_ft, C.guarded_undef, Bool.not_true, Bool.not_false, Nat.zero_add, eq_self, decide_true, decide_false]
      have hm1 := hm.keep hf1 (by simp)
      refine C.storeAt_own hm1 (by omega) (by rw [intC_len]; omega) rfl (by intro u hu; simp [Value.cells] at hu; subst hu; rfl) fun w2 ho hf2 _ => ?_
      try simp only [C.ite_true, C.ite_false, C.pick_true, C.pick_false, C.not_bool, C.field_ptr, C.nilCheck_ptr, C.add_mk, C.sub_mk, C.mul_mk, C.eql_mk, C.neq_mk, C.lss_mk, C.leq_mk, C.gtr_mk, C.geq_mk, C.conv_mk, C.len_mk, C.ext_0, C.ext_1, C.ext3_0, C.ext3_1, C.ext3_2, C.guarded_yes, C.guarded_tf, C.guarded_ft, C.guarded_undef, Bool.not_true, Bool.not_false, Nat.zero_add, eq_self, decide_true, decide_false]
      rw [wrap64_id (n := (i : Int) + 1) (by omega), show (i : Int) + 1 = ((i + 1 : Nat) : Int) by omega]
      have ho' : OwnS w2 v 3 1 (intC (m.set i l[j])) := by
        rw [← intC_setR]
        exact ho
      refine nx (i + 1) (m.set i l[j]) w2 ((hf.trans hf1.w).trans hf2) ho' (by simpa using hml) (by omega) ?_ ?_
      · rw [hts, hpj, ← ht, List.take_succ_eq_append_getElem (by simp; omega), List.take_set_of_le (Nat.le_refl i)]
        simp
      · rw [List.drop_set_of_lt (by omega)]
        exact hdr1
theorem DeleteFunc_c {v f : Value} {l : List Int} {p : Int → Bool} (hv : OwnS w v 3 1 (intC l))
    (hp : ∀ w' n (K' : VK), Fr (blkS v) w w' → n ∈ l → (∀ w'', Fr [] w' w'' → K' (.bool (p n)) w'') → vcCall Try.prog f [.int .i64 n] w' K')
    (h : ∀ v' w', Fr (blkS v) w w' → OwnS w' v' 3 1 (intC (l.filter fun n => !p n)) → v'.ownBlock = v.ownBlock → K v' w') : C.call Try.prog 37 #[v, f] w K := by
  refine F37.sh (F49.sh (C.len_rd hv.rd ?_))
  have hle := hv.rd.le
  rw [intC_len] at hle
  rw [intC_len]
  refine IndexFunc_loop hv.rd (fun w' n K' hf => hp w' n K' hf.w) (fun w' hf hno => ?_) (fun i w' hf hi hpi hno => ?_) l.length 0 w (by omega) (Fr.refl _ _) (by omega)
  · simp only [C.ite_true, C.ite_false, C.pick_true, C.pick_false, C.not_bool, C.field_ptr, C.nilCheck_ptr, C.add_mk, C.sub_mk, C.mul_mk, C.eql_mk, C.neq_mk, C.lss_mk, C.leq_mk, C.gtr_mk, C.geq_mk, C.conv_mk, C.len_mk, C.ext_0, C.ext_1, C.ext3_0, C.ext3_1, C.ext3_2, C.guarded_yes, C.guarded_tf, C.guarded_ft, C.guarded_undef, Bool.not_true, Bool.not_false, Nat.zero_add, eq_self, decide_true, decide_false]
    refine h v w' hf.w ?_ rfl
    have : l.filter (fun n => !p n) = l := List.filter_eq_self.2 fun n hn => by simp [hno n hn]
    rw [this]
    exact hv.keep hf (by simp)
  · have e : ¬ ((i : Int) = -1) := by omega
    simp only [C.ite_true, C.ite_false, C.pick_true, C.pick_false, C.not_bool, C.field_ptr, C.nilCheck_ptr, C.add_mk, C.sub_mk, C.mul_mk, C.eql_mk, C.neq_mk, C.lss_mk, C.leq_mk, C.gtr_mk, C.geq_mk, C.conv_mk, C.len_mk, C.ext_0, C.ext_1, C.ext3_0, C.ext3_1, C.ext3_2, C.guarded_yes, C.guarded_tf, C.guarded_ft, C.guarded_undef, Bool.not_true, Bool.not_false, Nat.zero_add, eq_self, decide_true, decide_false, e]
    refine F37.k4.to ?_
    simp only [C.ite_true, C.ite_false, C.pick_true, C.pick_false, C.not_bool, C.field_ptr, C.nilCheck_ptr, C.add_mk, C.sub_mk, C.mul_mk, C.eql_mk, C.neq_mk, C.lss_mk, C.leq_mk, C.gtr_mk, C.geq_mk, C.conv_mk, C.len_mk, C.ext_0, C.ext_1, C.ext3_0, C.ext3_1, C.ext3_2, C.guarded_yes, C.guarded_tf, C.guarded_ft, C.guarded_undef, Bool.not_true, Bool.not_false, Nat.zero_add, eq_self, decide_true, decide_false]
    rw [wrap64_id (n := (i : Int) + 1) (by omega), show (i : Int) + 1 = ((i + 1 : Nat) : Int) by omega]
    refine DeleteFunc_loop hp h (l.length - (i + 1)) (i + 1) i l w' (by omega) hf.w (hv.keep hf (by simp)) rfl (by omega) ?_ rfl
    rw [take_filter_succ hi, hpi]
    have : (l.take i).filter (fun n => !p n) = l.take i := List.filter_eq_self.2 fun n hn => by
      obtain ⟨k, hk, rfl⟩ := List.getElem_of_mem hn
      rw [List.getElem_take]
      rw [List.length_take] at hk
      simp [hno k (by omega) (by omega)]
    rw [this]
    simp
/-- What is reversed so far. -/
def Rev (l m : List Int) (i : Nat) : Prop := m.length = l.length ∧ ∀ k (h : k < m.length) (h' : k < l.length) (h'' : l.length - 1 - k < l.length), m[k] = if k < i ∨ l.length - 1 - k < i then l[l.length - 1 - k] else l[k]
end
end Go.Proofs.YtchonfdnghimdaaV
namespace Go.Proofs.YtchonfdnghimdaaV
open Go Go.Proofs Go.RowKit
set_option linter.unusedVariables false
set_option linter.unusedSimpArgs false
section
variable {K : VK} {w : World}
/-- 1 times a number. -/
theorem Mul_one (n : Int) (h0 : 0 ≤ n) (h1 : n < 4294967296) (h : K (.tuple #[.int .u64 0, .int .u64 n]) w) : C.call Try.prog 90 #[.int .u64 1, .int .u64 n] w K := by
  refine F90.sh ?_
  simp only [C.ite_true, C.ite_false, C.pick_true, C.pick_false, C.not_bool, C.field_ptr, C.nilCheck_ptr, C.add_mk, C.sub_mk, C.mul_mk, C.eql_mk, C.neq_mk, C.lss_mk, C.leq_mk, C.gtr_mk, C.geq_mk, C.conv_mk, C.len_mk, C.ext_0, C.ext_1, C.ext3_0, C.ext3_1, C.ext3_2, C.guarded_yes, C.guarded_tf, C.guarded_ft, C.guarded_undef, Bool.not_true, Bool.not_false, Nat.zero_add, eq_self, decide_true, decide_false]
  refine F90.k3.to (F92.sh ⟨_, and32_run _ _ 1 (by omega) (by omega), _, shr32_run _ _ 1, _, and32_run _ _ n h0 (by omega), _, shr32_run _ _ n, ?_⟩)
  have e1 : n % 4294967296 = n := by omega
  have e2 : n / 4294967296 = 0 := by omega
  simp only [C.ite_true, C.ite_false, C.pick_true, C.pick_false, C.not_bool, C.field_ptr, C.nilCheck_ptr, C.add_mk, C.sub_mk, C.mul_mk, C.eql_mk, C.neq_mk, C.lss_mk, C.leq_mk, C.gtr_mk, C.geq_mk, C.conv_mk, C.len_mk, C.ext_0, C.ext_1, C.ext3_0, C.ext3_1, C.ext3_2, C.guarded_yes, C.guarded_tf, C.guarded_ft, C.guarded_undef, Bool.not_true, Bool.not_false, Nat.zero_add, eq_self, decide_true, decide_false, e1, e2, show (1 : Int) % 4294967296 = 1 by decide, show (1 : Int) / 4294967296 = 0 by decide, Int.one_mul, Int.zero_mul, Int.mul_zero]
  rw [wrapu64_id (n := n) (by omega), wrapu64_id (n := 0) (by omega)]
  refine ⟨_, shr32_run _ _ n, ?_⟩
  simp only [C.ite_true, C.ite_false, C.pick_true, C.pick_false, C.not_bool, C.field_ptr, C.nilCheck_ptr, C.add_mk, C.sub_mk, C.mul_mk, C.eql_mk, C.neq_mk, C.lss_mk, C.leq_mk, C.gtr_mk, C.geq_mk, C.conv_mk, C.len_mk, C.ext_0, C.ext_1, C.ext3_0, C.ext3_1, C.ext3_2, C.guarded_yes, C.guarded_tf, C.guarded_ft, C.guarded_undef, Bool.not_true, Bool.not_false, Nat.zero_add, eq_self, decide_true, decide_false, e2, Int.add_zero]
  rw [wrapu64_id (n := 0) (by omega)]
  refine ⟨_, and32_run _ _ 0 (by omega) (by omega), _, shr32_run _ _ 0, ?_⟩
  simp only [C.ite_true, C.ite_false, C.pick_true, C.pick_false, C.not_bool, C.field_ptr, C.nilCheck_ptr, C.add_mk, C.sub_mk, C.mul_mk, C.eql_mk, C.neq_mk, C.lss_mk, C.leq_mk, C.gtr_mk, C.geq_mk, C.conv_mk, C.len_mk, C.ext_0, C.ext_1, C.ext3_0, C.ext3_1, C.ext3_2, C.guarded_yes, C.guarded_tf, C.guarded_ft, C.guarded_undef, Bool.not_true, Bool.not_false, Nat.zero_add, eq_self, decide_true, decide_false, show (0 : Int) % 4294967296 = 0 by decide, show (0 : Int) / 4294967296 = 0 by decide, Int.add_zero]
  rw [wrapu64_id (n := 0) (by omega)]
  refine ⟨_, shr32_run _ _ 0, ?_⟩
  simp only [C.ite_true, C.ite_false, C.pick_true, C.pick_false, C.not_bool, C.field_ptr, C.nilCheck_ptr, C.add_mk, C.sub_mk, C.mul_mk, C.eql_mk, C.neq_mk, C.lss_mk, C.leq_mk, C.gtr_mk, C.geq_mk, C.conv_mk, C.len_mk, C.ext_0, C.ext_1, C.ext3_0, C.ext3_1, C.ext3_2, C.guarded_yes, C.guarded_tf, C.guarded_ft, C.guarded_undef, Bool.not_true, Bool.not_false, Nat.zero_add, eq_self, decide_true, decide_false, show (0 : Int) / 4294967296 = 0 by decide, Int.add_zero]
  rw [wrapu64_id (n := 0) (by omega)]
  exact h
theorem copyB_of {g k m n : Nat} {cs : Array Value} {x : Value} (hg : w.heap[g]? = some (.cells cs 3 (0, 0))) (hcs : cs.size = n) (hk : 0 < k) (hkn : k < n) (hx : x.oneCell' = true) (ht : cs.toList.take k = List.replicate k x) (hm : m = min k (n - k))
    {F : VK} (h : ∀ w' cs', Upd w g (.cells cs' 3 (0, 0)) w' → cs'.size = n → cs'.toList.take (k + m) = List.replicate (k + m) x → F (.int .i64 (m : Int)) w') :
    C.run Try.prog (Builtin.copy_ #[23, 23] 3 #[.slice (some ⟨g, k, none⟩) (n - k) (n - k), .slice (some ⟨g, 0, none⟩) k n]) w F := by
  have hr := run_copy_row (P := Try.prog) w 23 23 3 3 g k (n - k) (n - k) ⟨g, 0, none⟩ k n cs 3 (List.replicate m x) Try.underlying23 (by kernel_rfl) hg (by rw [List.length_replicate, hm])
    (fun j v hj => by
      rw [List.getElem?_replicate] at hj
      split at hj
      · rename_i hjm
        rw [add_mk, cell_mk hg, ← Array.getElem?_toList, Nat.zero_add, ← hj]
        have := congrArg (fun l : List Value => l[j]?) ht
        simp only [List.getElem?_take, List.getElem?_replicate] at this
        rw [if_pos (by omega), if_pos (by omega)] at this
        exact this
      · cases hj) (by rw [List.length_replicate]; omega) (fun v hv => by rw [List.eq_of_mem_replicate hv]; exact hx)
  refine C.run_of hr ?_
  rw [List.length_replicate]
  refine h _ _ (upd_setRow hg) ?_ ?_
  · simp; omega
  · rw [ht]
    rw [List.take_append_of_le_length (by simp), List.replicate_append_replicate, List.take_of_length_le (by simp)]
theorem rep_loop {W0 : World} {g n : Nat} {x : Value} (hx : x.oneCell' = true) (hn : n ≤ 1000000) (hg0 : W0.heap.size ≤ g) :
    ∀ (d k : Nat) (w : World) (cs : Array Value), n ≤ k + d → 0 < k → k ≤ n → Fr [] W0 w → w.heap[g]? = some (.cells cs 3 (0, 0)) → cs.size = n → cs.toList.take k = List.replicate k x →
      (∀ w', Fr [] W0 w' → OwnS w' (.slice (some ⟨g, 0, none⟩) n n) 3 1 (List.replicate n [x]) → K (.slice (some ⟨g, 0, none⟩) n n) w') → F86.l8 K (.slice (some ⟨g, 0, none⟩) n n) (.int .i64 (k : Int)) w := by
  intro d
  induction d with
  | zero =>
    intro k w cs hd h0 hk hf hg hcs ht h
    have hkn : k = n := by omega
    subst hkn
    refine F86.l8.to ?_
    simp only [C.ite_true, C.ite_false, C.pick_true, C.pick_false, C.not_bool, C.field_ptr, C.nilCheck_ptr, C.add_mk, C.sub_mk, C.mul_mk, C.eql_mk, C.neq_mk, C.lss_mk, C.leq_mk, C.gtr_mk, C.geq_mk, C.conv_mk, C.len_mk, C.ext_0, C.ext_1, C.ext3_0, C.ext3_1, C.ext3_2, C.guarded_yes, C.guarded_tf, C.guarded_ft, C.guarded_undef, Bool.not_true, Bool.not_false, Nat.zero_add, eq_self, decide_true, decide_false, show ¬ ((k : Int) < (k : Int)) by omega]
    refine F86.k10.to (h w hf ?_)
    refine OwnS.of_block hg (by simp) (Nat.le_refl _) (by omega) (by omega) (fun y hy => ?_) ?_
    · rw [List.eq_of_mem_replicate hy]
      exact ⟨rfl, by simpa using hx⟩
    · rw [Nat.mul_one, ht]
      have : ∀ m : Nat, List.replicate m x = (List.replicate m [x]).flatten := fun m => by
        induction m with
        | zero => rfl
        | succ m ih => rw [List.replicate_succ, List.replicate_succ, List.flatten_cons, ← ih]; rfl
      exact this k
  | succ d ih =>
    intro k w cs hd h0 hk hf hg hcs ht h
    rcases Nat.lt_or_ge k n with hlt | hge
    · refine F86.l8.to ?_
      simp only [C.ite_true, C.ite_false, C.pick_true, C.pick_false, C.not_bool, C.field_ptr, C.nilCheck_ptr, C.add_mk, C.sub_mk, C.mul_mk, C.eql_mk, C.neq_mk, C.lss_mk, C.leq_mk, C.gtr_mk, C.geq_mk, C.conv_mk, C.len_mk, C.ext_0, C.ext_1, C.ext3_0, C.ext3_1, C.ext3_2, C.guarded_yes, C.guarded_tf, C.guarded_ft, C.guarded_undef, Bool.not_true, Bool.not_false, Nat.zero_add, eq_self, decide_true, decide_false, show ((k : Int) < (n : Int)) by omega]
      refine F86.k9.to (C.draw_of (fun _ => True) fun w1 hf1 he1 => ⟨trivial, ?_⟩)
      have hg1 := hf1.at_ hg (by simp)
      have r1 : ∀ w' : World, (Instr.sliceAt 23 (.slice (some ⟨g, 0, none⟩) n n) (some (.int .i64 (k : Int))) none none).run Try.prog w' = .ok (.slice (some ⟨g, k, none⟩) (n - k) (n - k)) w' := fun w' => by
        have := sliceFrom_run (P := Try.prog) (w := w') (t := 23) (e := 3) (sz := 1) (some ⟨g, 0, none⟩) n n .i64 (k : Int) Try.underlying23 (by kernel_rfl) (by omega) (by omega)
        rw [Int.toNat_natCast, if_neg (by omega)] at this
        simpa [add_mk] using this
      have r2 : ∀ w' : World, (Instr.sliceAt 23 (.slice (some ⟨g, 0, none⟩) n n) none (some (.int .i64 (k : Int))) none).run Try.prog w' = .ok (.slice (some ⟨g, 0, none⟩) k n) w' := fun w' => by
        have := sliceTo_run (P := Try.prog) (w := w') (t := 23) (e := 3) (sz := 1) (some ⟨g, 0, none⟩) n n .i64 (k : Int) Try.underlying23 (by kernel_rfl) (by omega) (by omega)
        rwa [Int.toNat_natCast] at this
      refine ⟨_, fun w' _ => r1 w', _, fun w' _ => r2 w', copyB_of hg1 hcs h0 hlt hx ht rfl fun w2 cs2 hu hcs2 ht2 => ⟨trivial, ?_⟩, trivial⟩
      simp only [C.ite_true, C.ite_false, C.pick_true, C.pick_false, C.not_bool, C.field_ptr, C.nilCheck_ptr, C.add_mk, C.sub_mk, C.mul_mk, C.eql_mk, C.neq_mk, C.lss_mk, C.leq_mk, C.gtr_mk, C.geq_mk, C.conv_mk, C.len_mk, C.ext_0, C.ext_1, C.ext3_0, C.ext3_1, C.ext3_2, C.guarded_yes, C.guarded_tf, C.guarded_ft, C.guarded_undef, Bool.not_true, Bool.not_false, Nat.zero_add, eq_self, decide_true, decide_false]
      rw [wrap64_id (by omega), show (k : Int) + ((min k (n - k) : Nat) : Int) = ((k + min k (n - k) : Nat) : Int) by omega]
      refine ih _ w2 cs2 (by omega) (by omega) (by omega) ((hf.trans hf1).then hu.fr fun y hy => ?_) hu.at_ hcs2 ht2 h
      simp only [List.mem_singleton] at hy
      exact .inr (by omega)
    · exact ih k w cs (by omega) h0 hk hf hg hcs ht h
theorem RepInt_c {v x : Value} {n : Nat} (hv : RdS w v 1 [[x]]) (hx : x.oneCell' = true) (hn : n ≤ 1000000) (h : ∀ v' w', Fr [] w w' → OwnS w' v' 3 1 (List.replicate n [x]) → NewS w v' → K v' w') : C.call Try.prog 86 #[v, .int .i64 (n : Int)] w K := by
  refine F86.sh ?_
  simp only [C.ite_true, C.ite_false, C.pick_true, C.pick_false, C.not_bool, C.field_ptr, C.nilCheck_ptr, C.add_mk, C.sub_mk, C.mul_mk, C.eql_mk, C.neq_mk, C.lss_mk, C.leq_mk, C.gtr_mk, C.geq_mk, C.conv_mk, C.len_mk, C.ext_0, C.ext_1, C.ext3_0, C.ext3_1, C.ext3_2, C.guarded_yes, C.guarded_tf, C.guarded_ft, C.guarded_undef, Bool.not_true, Bool.not_false, Nat.zero_add, eq_self, decide_true, decide_false, show ¬ ((n : Int) < 0) by omega]
  refine F86.k3.to (C.len_rd hv ?_)
  simp only [C.ite_true, C.ite_false, C.pick_true, C.pick_false, C.not_bool, C.field_ptr, C.nilCheck_ptr, C.add_mk, C.sub_mk, C.mul_mk, C.eql_mk, C.neq_mk, C.lss_mk, C.leq_mk, C.gtr_mk, C.geq_mk, C.conv_mk, C.len_mk, C.ext_0, C.ext_1, C.ext3_0, C.ext3_1, C.ext3_2, C.guarded_yes, C.guarded_tf, C.guarded_ft, C.guarded_undef, Bool.not_true, Bool.not_false, Nat.zero_add, eq_self, decide_true, decide_false, List.length_singleton]
  rw [wrapu64_id (n := (n : Int)) (by omega), wrapu64_id (n := ((1 : Nat) : Int)) (by omega)]
  refine Mul_one (n : Int) (by omega) (by omega) ?_
  simp only [C.ite_true, C.ite_false, C.pick_true, C.pick_false, C.not_bool, C.field_ptr, C.nilCheck_ptr, C.add_mk, C.sub_mk, C.mul_mk, C.eql_mk, C.neq_mk, C.lss_mk, C.leq_mk, C.gtr_mk, C.geq_mk, C.conv_mk, C.len_mk, C.ext_0, C.ext_1, C.ext3_0, C.ext3_1, C.ext3_2, C.guarded_yes, C.guarded_tf, C.guarded_ft, C.guarded_undef, Bool.not_true, Bool.not_false, Nat.zero_add, eq_self, decide_true, decide_false, show ¬ ((0 : Int) > 0) by omega, show ¬ ((n : Int) > 9223372036854775807) by omega]
  refine F86.k6.to ?_
  simp only [C.ite_true, C.ite_false, C.pick_true, C.pick_false, C.not_bool, C.field_ptr, C.nilCheck_ptr, C.add_mk, C.sub_mk, C.mul_mk, C.eql_mk, C.neq_mk, C.lss_mk, C.leq_mk, C.gtr_mk, C.geq_mk, C.conv_mk, C.len_mk, C.ext_0, C.ext_1, C.ext3_0, C.ext3_1, C.ext3_2, C.guarded_yes, C.guarded_tf, C.guarded_ft, C.guarded_undef, Bool.not_true, Bool.not_false, Nat.zero_add, eq_self, decide_true, decide_false]
  rw [wrap64_id (by omega)]
  refine C.make_of (e := 3) (sz := 1) (bytes := 8) (z := .int .i64 0) n Try.underlying23 (by kernel_rfl) rfl (by decide) (by intro u hu; simp [Value.cells] at hu; subst hu; rfl) (by omega) (by omega) fun g w1 hn1 ho1 => ?_
  have hg0 : w.heap.size ≤ g := by have := hn1.is; omega
  have fin : ∀ w', Fr [] w w' → OwnS w' (.slice (some ⟨g, 0, none⟩) n n) 3 1 (List.replicate n [x]) → K (.slice (some ⟨g, 0, none⟩) n n) w' := fun w' hf ho => h _ w' hf ho fun g' hg' => by
    simp only [Value.ownBlock, Option.some.injEq] at hg'
    omega
  obtain ⟨A, c, rfl, hc, hm, hcell⟩ := hv.keep hn1.fr
  obtain ⟨g', o, cs', e', fz', rfl, hg', hcc⟩ := hcell (by simp)
  have hx0 := (hcc 0 [x] rfl).2 0 (by omega)
  simp only [Nat.zero_mul, Nat.add_zero, List.getElem?_cons_zero] at hx0
  rcases Nat.eq_zero_or_pos n with rfl | hpos
  · refine C.run_of (run_copy_none (P := Try.prog) w1 23 23 3 3 _ _ 0 0 _ c Try.underlying23 (by kernel_rfl) (by simp)) ?_
    refine F86.l8.to ?_
    have e : ¬ ((0 : Int) < ((0 : Nat) : Int)) := by omega
    simp only [goInt, C.ite_true, C.ite_false, C.pick_true, C.pick_false, C.not_bool, C.field_ptr, C.nilCheck_ptr, C.add_mk, C.sub_mk, C.mul_mk, C.eql_mk, C.neq_mk, C.lss_mk, C.leq_mk, C.gtr_mk, C.geq_mk, C.conv_mk, C.len_mk, C.ext_0, C.ext_1, C.ext3_0, C.ext3_1, C.ext3_2, C.guarded_yes, C.guarded_tf, C.guarded_ft, C.guarded_undef, Bool.not_true, Bool.not_false, Nat.zero_add, eq_self, decide_true, decide_false, e]
    exact F86.k10.to (fin w1 hn1.fr ho1)
  · have hr := run_copy_row (P := Try.prog) w1 23 23 3 3 g 0 n n ⟨g', o, none⟩ [[x]].length c _ 3 [x] Try.underlying23 (by kernel_rfl) hn1.at_ (show 1 = min 1 n by omega)
      (fun j y hj => by
        rcases j with _ | j
        · simp only [List.getElem?_cons_zero, Option.some.injEq] at hj
          subst hj
          rw [add_mk, cell_mk hg', Nat.add_zero]
          exact hx0
        · simp at hj) (by simp [size_madeCells]; omega) (by intro y hy; simp at hy; subst hy; exact hx)
    refine C.run_of hr ?_
    have hu := upd_setRow (cs' := ((madeCells (.int .i64 0 : Value).cells (n * 1)).toList.take 0 ++ [x] ++ (madeCells (.int .i64 0 : Value).cells (n * 1)).toList.drop (0 + [x].length)).toArray) hn1.at_
    refine rep_loop (W0 := w) (x := x) hx hn hg0 n 1 _ _ (by omega) (by omega) (by omega) (hn1.fr.then hu.fr fun y hy => ?_) hu.at_ ?_ ?_ fin
    · simp only [List.mem_singleton] at hy
      exact .inr (by omega)
    · simp [size_madeCells]; omega
    · simp
end
end Go.Proofs.YtchonfdnghimdaaV
namespace Go.Proofs.YtchonfdnghimdaaV
open Go Go.Proofs Go.RowKit
set_option linter.unusedVariables false
set_option linter.unusedSimpArgs false
set_option maxRecDepth 10000
def natC (q : List Nat) : List Int := q.map fun (x : Nat) => (x : Int)
theorem natC_len (q : List Nat) : (natC q).length = q.length := by simp [natC]
theorem natC_get {q : List Nat} {i : Nat} (h : i < (natC q).length) : (natC q)[i] = ((q[i]'(by simpa [natC] using h) : Nat) : Int) := by simp [natC]
theorem natC_app (q : List Nat) (r : Nat) : natC (q ++ [r]) = natC q ++ [(r : Int)] := by simp [natC]
theorem natC_mem {q : List Nat} {i : Int} : i ∈ natC q ↔ ∃ r : Nat, r ∈ q ∧ i = (r : Int) := by
  simp only [natC, List.mem_map]
  constructor
  · rintro ⟨a, h, rfl⟩; exact ⟨a, h, rfl⟩
  · rintro ⟨a, h, rfl⟩; exact ⟨a, h, rfl⟩
/-- The blocks of a search. -/
structure BS (W1 w : World) (bo bq : Nat) (ov : Value) (out : List Int) (q : List Nat) : Prop where
  fr : Fr [] W1 w
  hbo : w.heap[bo]? = some (.cells #[ov] 23 (0, 0))
  ho : OwnS w ov 3 1 (intC out)
  no : NewS W1 ov
  l1 : W1.heap.size ≤ bo
  l2 : W1.heap.size ≤ bq
  ne : bo ≠ bq
  do' : ∀ g ∈ blkS ov, g ≠ bo ∧ g ≠ bq
  que : ∃ qv, w.heap[bq]? = some (.cells #[qv] 23 (0, 0)) ∧ OwnS w qv 3 1 (intC (natC q)) ∧ NewS W1 qv ∧ ∀ g ∈ blkS qv, g ≠ bo ∧ g ≠ bq ∧ g ∉ blkS ov
theorem BS.keep {W1 w w' : World} {bo bq : Nat} {ov : Value} {out : List Int} {q : List Nat} (h : BS W1 w bo bq ov out q) (hf : Fr [] w w') : BS W1 w' bo bq ov out q := by
  obtain ⟨qv, h1, h2, h3, h4⟩ := h.que
  exact ⟨h.fr.trans hf, hf.at_ h.hbo (by simp), h.ho.keep hf (by simp), h.no, h.l1, h.l2, h.ne, h.do', qv, hf.at_ h1 (by simp), h2.keep hf (by simp), h3, h4⟩
theorem Asked.push {G : Gr} {f f' : Int} {D : Nat → Int → Prop} {out : List Int} {q : List Nat} {n j : Nat} (h : BI G f D out q) (hA : Asked G out q n) (hn : n ≤ q.length) (hj : ∀ hj : j < out.length, out[j] = -1) : Asked G (out.set j f') (q ++ [j]) n := by
  intro p hp hpn x he hx
  have hpq : p < q.length := by omega
  have e : (q ++ [j])[p] = q[p] := List.getElem_append_left hpq
  rw [e] at he
  obtain ⟨h1, h2, h3, h4⟩ := hA p hpq hpn x he hx
  have hqp : 0 ≤ out[q[p]] := by
    rcases h.iff _ h2 with c | c
    · exact absurd (List.getElem_mem _) c.2
    · exact c.1
  refine ⟨by simpa using h1, by rw [e]; simpa using h2, ?_⟩
  simp only [e]
  rw [List.getElem_set, List.getElem_set, if_neg (by rintro rfl; have := hj h1; omega), if_neg (by intro c; subst c; have := hj h2; omega)]
  exact ⟨h3, h4⟩
theorem vcCall_to {f : FuncId} {cap : Array Value} {args : List Value} {all : Array Value} {w : World} {K : VK} (hb : bodied Try.prog f = true) (he : (args ++ cap.toList).toArray = all) (h : C.call Try.prog f all w K) : vcCall Try.prog (.func (.func f) #[] cap) args w K := vcCall_ofR hb (by rw [he]; exact h)
theorem bodied69 : bodied Try.prog 87 = true := by kernel_rfl
section
variable {K : VK} {w : World}
theorem GBlk.rowK {W1 : World} {b : Nat} {e : TypeId} {nv rv : Value} {G : Gr} {i : Nat} (h : GBlk w b e nv rv) (hG : IsG W1 nv rv G) (hf : Fr [] W1 w) (hi : i < G.n) (hk : ∀ v, (∀ w', Fr [] W1 w' → RdS w' v 1 (intC (G.row i))) → K v w) :
    C.field 0 (.pointer (some ⟨b, 0, none⟩)) w fun p w1 => C.load1 p w1 fun x w2 => C.idx 1 x (.int .i64 (i : Int)) w2 fun q w3 => C.load1 q w3 K := by
  refine h.next ?_
  obtain ⟨vs, h1, h2, h3⟩ := hG.next
  have hi' : i < vs.length := by have : G.n = G.next.length := rfl; omega
  refine C.idx_rd (h1.keep hf) (by omega) (by rw [Int.toNat_natCast]; exact slC_get hi') fun g o cs e fz hg _ hc => C.load1_of hg (v := vs[i]) ?_ (hk _ fun w' hw' => ?_)
  · have := hc 0 (by omega)
    simpa using this
  · rw [row_get hi]
    exact (h3 i hi hi').keep hw'
/-- A node met. -/
theorem meet_c {W1 : World} {G : Gr} {bg bo bq : Nat} {nv rv ov : Value} {out : List Int} {q : List Nat} {i far : Int} (hG : IsG W1 nv rv G) (hb : GBlk W1 bg 25 nv rv) (hB : BS W1 w bo bq ov out q) (hl : out.length = G.n) (hq : q.length ≤ 1000)
    (h1 : ∀ (r : Nat) (hr : r < out.length), i = (r : Int) → out[r] = -1 → ∀ w', BS W1 w' bo bq ov (out.set r far) (q ++ [r]) → K (.tuple #[]) w')
    (h2 : (∀ (r : Nat) (hr : r < out.length), i = (r : Int) → out[r] ≠ -1) → ∀ w', BS W1 w' bo bq ov out q → K (.tuple #[]) w') :
    vcCall Try.prog (.func (.func 87) #[] #[.pointer (some ⟨bg, 0, none⟩), .pointer (some ⟨bo, 0, none⟩), .pointer (some ⟨bq, 0, none⟩)]) [.int .i64 i, .int .i64 far] w K := by
  refine vcCall_to bodied69 rfl ?_
  refine F87.sh ((hb.keep hB.fr (by simp)).all (is_c (hG.keep hB.fr) fun w1 hf1 => ?_))
  have hB1 := hB.keep hf1
  by_cases hn : 0 ≤ i ∧ i < (G.n : Int)
  · obtain ⟨r, rfl⟩ : ∃ r : Nat, i = (r : Int) := ⟨i.toNat, by omega⟩
    have hr : r < out.length := by omega
    rw [decide_eq_true hn]
    simp only [C.ite_true, C.ite_false, C.pick_true, C.pick_false, C.not_bool, C.field_ptr, C.nilCheck_ptr, C.add_mk, C.sub_mk, C.mul_mk, C.eql_mk, C.neq_mk, C.lss_mk, C.leq_mk, C.gtr_mk, C.geq_mk, C.conv_mk, C.len_mk, C.ext_0, C.ext_1, C.ext3_0, C.ext3_1, C.ext3_2, C.guarded_yes, C.guarded_tf, C.guarded_ft, C.guarded_undef, Bool.not_true, Bool.not_false, Nat.zero_add, eq_self, decide_true, decide_false]
    refine C.load1_of (v := ov) hB1.hbo rfl (C.idx_int hB1.ho.rd hr fun g o cs e fz hg hc => C.load1_of hg hc ?_)
    by_cases hm : out[r] = -1
    · simp only [C.ite_true, C.ite_false, C.pick_true, C.pick_false, C.not_bool, C.field_ptr, C.nilCheck_ptr, C.add_mk, C.sub_mk, C.mul_mk, C.eql_mk, C.neq_mk, C.lss_mk, C.leq_mk, C.gtr_mk, C.geq_mk, C.conv_mk, C.len_mk, C.ext_0, C.ext_1, C.ext3_0, C.ext3_1, C.ext3_2, C.guarded_yes, C.guarded_tf, C.guarded_ft, C.guarded_undef, Bool.not_true, Bool.not_false, Nat.zero_add, eq_self, decide_true, decide_false, hm]
      refine C.load1_of (v := ov) hB1.hbo rfl ?_
      refine C.storeAt_own hB1.ho (by omega) (by rw [intC_len]; omega) rfl (by intro u hu; simp [Value.cells] at hu; subst hu; rfl) fun w2 ho2 hf2 _ => ?_
      have ho2' : OwnS w2 ov 3 1 (intC (out.set r far)) := by rw [Int.toNat_natCast] at ho2; rw [← intC_setR]; exact ho2
      obtain ⟨qv, q1, q2, q3, q4⟩ := hB1.que
      have q1' := hf2.at_ q1 (fun c => (hB1.do' bq c).2 rfl)
      have q2' := q2.keep' hf2 fun g hg c => (q4 g hg).2.2 c
      refine C.load1_of (v := qv) q1' rfl (C.appInt' q2' (by rw [natC_len]; omega) fun qv' w3 hf3 hblk ho3 => ?_)
      have hov : ∀ g ∈ blkS ov, g ∉ blkS qv := fun g hg c => (q4 g c).2.2 hg
      have q1'' := hf3.at_ q1' (fun c => (q4 bq c).2.1 rfl)
      have hlt2 : ∀ g ∈ blkS ov, g < w2.heap.size := fun g hg => ho2'.mem_lt g hg
      have hbo2 : w2.heap[bo]? = some (.cells #[ov] 23 (0, 0)) := hf2.at_ hB1.hbo (fun c => (hB1.do' bo c).1 rfl)
      have hbq2 := lt_of_at q1'
      have hbo2' := lt_of_at hbo2
      have hqb : ∀ g ∈ blkS qv', g ∈ blkS qv ∨ w2.heap.size ≤ g := fun g hg => by
        rw [mem_blkS] at hg
        rcases hblk with c | ⟨g', c, d⟩
        · exact .inl (mem_blkS.2 (by rw [← c]; exact hg))
        · rw [hg] at c
          simp only [Option.some.injEq] at c
          exact .inr (by omega)
      refine C.store1_of q1'' (ho3.one.2) (ho3.one.1) (by simp) fun w4 hu => h1 r hr rfl hm w4 ?_
      have hne : ∀ g ∈ blkS qv', g ≠ bo ∧ g ≠ bq ∧ g ∉ blkS ov := fun g hg => by
        rcases hqb g hg with c | c
        · exact q4 g c
        · refine ⟨by omega, by omega, fun d => ?_⟩
          have := hlt2 g d
          omega
      have hbo3 : w3.heap[bo]? = some (.cells #[ov] 23 (0, 0)) := hf3.at_ hbo2 (fun c => (q4 bo c).1 rfl)
      refine ⟨?_, hu.fr.at_ hbo3 (by simp; exact hB1.ne), (ho2'.keep' hf3 hov).keep' hu.fr fun g hg c => ?_, hB1.no, hB1.l1, hB1.l2, hB1.ne, hB1.do', qv', hu.at_, ?_, fun g hg => ?_, hne⟩
      · refine ((hB1.fr.then hf2 fun g hg => .inr (hB1.no.blk g hg)).then hf3 fun g hg => .inr (q3.blk g hg)).then hu.fr fun g hg => .inr ?_
        simp only [List.mem_singleton] at hg
        have := hB1.l2
        omega
      · simp only [List.mem_singleton] at c
        exact (hB1.do' g hg).2 c
      · rw [natC_app]
        exact ho3.keep' hu.fr fun g hg c => by
          simp only [List.mem_singleton] at c
          exact (hne g hg).2.1 c
      · rcases hqb g (mem_blkS.2 hg) with c | c
        · exact q3.blk g c
        · have := (hB1.fr.then hf2 fun g hg => .inr (hB1.no.blk g hg)).size
          omega
    · simp only [C.ite_true, C.ite_false, C.pick_true, C.pick_false, C.not_bool, C.field_ptr, C.nilCheck_ptr, C.add_mk, C.sub_mk, C.mul_mk, C.eql_mk, C.neq_mk, C.lss_mk, C.leq_mk, C.gtr_mk, C.geq_mk, C.conv_mk, C.len_mk, C.ext_0, C.ext_1, C.ext3_0, C.ext3_1, C.ext3_2, C.guarded_yes, C.guarded_tf, C.guarded_ft, C.guarded_undef, Bool.not_true, Bool.not_false, Nat.zero_add, eq_self, decide_true, decide_false, hm]
      refine h2 (fun r' hr' e => ?_) w1 hB1
      obtain rfl : r' = r := by omega
      exact hm
  · rw [decide_eq_false hn]
    simp only [C.ite_true, C.ite_false, C.pick_true, C.pick_false, C.not_bool, C.field_ptr, C.nilCheck_ptr, C.add_mk, C.sub_mk, C.mul_mk, C.eql_mk, C.neq_mk, C.lss_mk, C.leq_mk, C.gtr_mk, C.geq_mk, C.conv_mk, C.len_mk, C.ext_0, C.ext_1, C.ext3_0, C.ext3_1, C.ext3_2, C.guarded_yes, C.guarded_tf, C.guarded_ft, C.guarded_undef, Bool.not_true, Bool.not_false, Nat.zero_add, eq_self, decide_true, decide_false]
    exact h2 (fun r hr e => absurd ⟨by omega, by omega⟩ hn) w1 hB1
theorem d35_row {W1 : World} {G : Gr} {bg bo bq at_ i : Nat} {nv rv ov : Value} {c : Int} {D : Nat → Int → Prop} {rw_ : Value} (hG : IsG W1 nv rv G) (hb : GBlk W1 bg 25 nv rv) (hi : i < G.n) (hc : 0 ≤ c ∧ c ≤ (at_ : Int) ∧ at_ ≤ 1000) (hw0 : ∀ w, Fr [] W1 w → RdS w rw_ 1 (intC (G.row i)))
    (h : ∀ w out q, BS W1 w bo bq ov out q → BI G (c + 1) (fun j b => D j b ∨ (b = c + 1 ∧ (j : Int) ∈ G.row i ∧ j < G.n)) out q → Asked G out q at_ → (∃ h : at_ < q.length, q[at_] = i) → (∃ h : i < out.length, out[i] = c) →
      F75.k11 K (.pointer (some ⟨bg, 0, none⟩)) (.pointer (some ⟨bo, 0, none⟩)) (.pointer (some ⟨bq, 0, none⟩)) (.func (.func 87) #[] #[.pointer (some ⟨bg, 0, none⟩), .pointer (some ⟨bo, 0, none⟩), .pointer (some ⟨bq, 0, none⟩)]) (.int .i64 (at_ : Int)) w) :
    ∀ (d k : Nat) (out : List Int) (q : List Nat) (w : World), (G.row i).length = k + d → BS W1 w bo bq ov out q → BI G (c + 1) (fun j b => D j b ∨ (b = c + 1 ∧ (j : Int) ∈ (G.row i).take k ∧ j < G.n)) out q → Asked G out q at_ → (∃ h : at_ < q.length, q[at_] = i) → (∃ h : i < out.length, out[i] = c) →
      F75.l14 K (.pointer (some ⟨bg, 0, none⟩)) (.pointer (some ⟨bo, 0, none⟩)) (.pointer (some ⟨bq, 0, none⟩)) (.func (.func 87) #[] #[.pointer (some ⟨bg, 0, none⟩), .pointer (some ⟨bo, 0, none⟩), .pointer (some ⟨bq, 0, none⟩)]) (.int .i64 (at_ : Int)) (.int .i64 (i : Int)) rw_ (.int .i64 ((G.row i).length : Int)) (.int .i64 (k : Int)) w := by
  intro d
  induction d with
  | zero =>
    intro k out q w hk hB hI hA hq hci
    refine F75.l14.to ?_
    simp only [C.ite_true, C.ite_false, C.pick_true, C.pick_false, C.not_bool, C.field_ptr, C.nilCheck_ptr, C.add_mk, C.sub_mk, C.mul_mk, C.eql_mk, C.neq_mk, C.lss_mk, C.leq_mk, C.gtr_mk, C.geq_mk, C.conv_mk, C.len_mk, C.ext_0, C.ext_1, C.ext3_0, C.ext3_1, C.ext3_2, C.guarded_yes, C.guarded_tf, C.guarded_ft, C.guarded_undef, Bool.not_true, Bool.not_false, Nat.zero_add, eq_self, decide_true, decide_false, show ¬ ((k : Int) < ((G.row i).length : Int)) by omega]
    refine h w out q hB (hI.weak fun j b e => ?_) hA hq hci
    rw [List.take_of_length_le (by omega)]
    exact e
  | succ d ih =>
    intro k out q w hk hB hI hA hq hci
    have hkl : k < (G.row i).length := by omega
    have hrl := row_len hG i
    have hfew := hG.few
    have hql := hI.qlen
    refine F75.l14.to ?_
    simp only [C.ite_true, C.ite_false, C.pick_true, C.pick_false, C.not_bool, C.field_ptr, C.nilCheck_ptr, C.add_mk, C.sub_mk, C.mul_mk, C.eql_mk, C.neq_mk, C.lss_mk, C.leq_mk, C.gtr_mk, C.geq_mk, C.conv_mk, C.len_mk, C.ext_0, C.ext_1, C.ext3_0, C.ext3_1, C.ext3_2, C.guarded_yes, C.guarded_tf, C.guarded_ft, C.guarded_undef, Bool.not_true, Bool.not_false, Nat.zero_add, eq_self, decide_true, decide_false, show ((k : Int) < ((G.row i).length : Int)) by omega]
    have nx : ∀ (out' : List Int) (q' : List Nat) (w' : World), BS W1 w' bo bq ov out' q' → BI G (c + 1) (fun j b => D j b ∨ (b = c + 1 ∧ (j : Int) ∈ (G.row i).take (k + 1) ∧ j < G.n)) out' q' → Asked G out' q' at_ → (∃ h : at_ < q'.length, q'[at_] = i) → (∃ h : i < out'.length, out'[i] = c) →
        F75.k17 K (.pointer (some ⟨bg, 0, none⟩)) (.pointer (some ⟨bo, 0, none⟩)) (.pointer (some ⟨bq, 0, none⟩)) (.func (.func 87) #[] #[.pointer (some ⟨bg, 0, none⟩), .pointer (some ⟨bo, 0, none⟩), .pointer (some ⟨bq, 0, none⟩)]) (.int .i64 (at_ : Int)) (.int .i64 (i : Int)) rw_ (.int .i64 ((G.row i).length : Int)) (.int .i64 (k : Int)) w' := by
      intro out' q' w' a1 a2 a3 a4 a5
      refine F75.k17.to ?_
      simp only [C.ite_true, C.ite_false, C.pick_true, C.pick_false, C.not_bool, C.field_ptr, C.nilCheck_ptr, C.add_mk, C.sub_mk, C.mul_mk, C.eql_mk, C.neq_mk, C.lss_mk, C.leq_mk, C.gtr_mk, C.geq_mk, C.conv_mk, C.len_mk, C.ext_0, C.ext_1, C.ext3_0, C.ext3_1, C.ext3_2, C.guarded_yes, C.guarded_tf, C.guarded_ft, C.guarded_undef, Bool.not_true, Bool.not_false, Nat.zero_add, eq_self, decide_true, decide_false]
      rw [wrap64_id (n := (k : Int) + 1) (by omega), show (k : Int) + 1 = ((k + 1 : Nat) : Int) by omega]
      exact ih (k + 1) out' q' w' (by omega) a1 a2 a3 a4 a5
    obtain ⟨hio, hic⟩ := hci
    refine F75.k15.to (C.idx_int (hw0 w hB.fr) hkl fun g o cs e fz hg hcell => C.load1_of hg hcell (C.load1_of (v := ov) hB.hbo rfl (C.idx_int hB.ho.rd hio fun g o cs e fz hg hc2 => C.load1_of hg hc2 ?_)))
    simp only [C.ite_true, C.ite_false, C.pick_true, C.pick_false, C.not_bool, C.field_ptr, C.nilCheck_ptr, C.add_mk, C.sub_mk, C.mul_mk, C.eql_mk, C.neq_mk, C.lss_mk, C.leq_mk, C.gtr_mk, C.geq_mk, C.conv_mk, C.len_mk, C.ext_0, C.ext_1, C.ext3_0, C.ext3_1, C.ext3_2, C.guarded_yes, C.guarded_tf, C.guarded_ft, C.guarded_undef, Bool.not_true, Bool.not_false, Nat.zero_add, eq_self, decide_true, decide_false]
    rw [hic, wrap64_id (n := c + 1) (by omega)]
    have hcx : ∃ x : Nat, G.dst i ≤ c := ⟨0, by
      rcases hI.iff i hio with e | e
      · omega
      · have := dst_le e.2.2.1; omega⟩
    have hwk : G.wk c.toNat i = true := by
      rcases hI.iff i hio with e | e
      · omega
      · rw [← hic]; exact e.2.2.1
    refine meet_c hG hb hB hI.len (by omega) (fun r hr e hm w' hB' => ?_) (fun hno w' hB' => ?_)
    · have hrn : r < G.n := by rw [← hI.len]; exact hr
      have he : G.edge i r = true := by rw [edge_row hi, ← row_get hi, ← e]; exact List.getElem_mem _
      refine nx _ _ w' hB' ((hI.push hr hm (by omega) (by have := hq.1; omega) ?_).weak fun j b hj => ?_) (hA.push hI (Nat.le_of_lt hq.1) (fun _ => hm)) ?_ ⟨by simpa using hio, ?_⟩
      · rw [show (c + 1).toNat = c.toNat + 1 by omega]
        exact wk_succ.2 ⟨hrn, i, hwk, he⟩
      · rcases hj with hj | ⟨h1, h2, h3⟩
        · exact .inl (.inl hj)
        · rw [List.take_succ_eq_append_getElem hkl, List.mem_append, List.mem_singleton, e] at h2
          rcases h2 with h2 | h2
          · exact .inl (.inr ⟨h1, h2, h3⟩)
          · exact .inr ⟨by omega, h1⟩
      · obtain ⟨ha, hqa⟩ := hq
        exact ⟨by simp; omega, by rw [List.getElem_append_left ha]; exact hqa⟩
      · rw [List.getElem_set, if_neg (by rintro rfl; omega)]
        exact hic
    · refine nx out q w' hB' ?_ hA hq ⟨hio, hic⟩
      by_cases hx : ∃ r : Nat, (G.row i)[k] = (r : Int)
      · obtain ⟨r, hr⟩ := hx
        refine (hI.skip (j := r) fun hj => hno r hj hr).weak fun j b hj => ?_
        rcases hj with hj | ⟨h1, h2, h3⟩
        · exact .inl (.inl hj)
        · rw [List.take_succ_eq_append_getElem hkl, List.mem_append, List.mem_singleton, hr] at h2
          rcases h2 with h2 | h2
          · exact .inl (.inr ⟨h1, h2, h3⟩)
          · exact .inr ⟨by omega, h1, by rw [hI.len]; omega⟩
      · refine hI.weak fun j b hj => ?_
        rcases hj with hj | ⟨h1, h2, h3⟩
        · exact .inl hj
        · rw [List.take_succ_eq_append_getElem hkl, List.mem_append, List.mem_singleton] at h2
          rcases h2 with h2 | h2
          · exact .inr ⟨h1, h2, h3⟩
          · exact absurd ⟨j, h2.symm⟩ hx
/-- The row of nodes met, gone through. -/
theorem d35_at {W1 : World} {G : Gr} {bg bo bq : Nat} {nv rv ov : Value} (hG : IsG W1 nv rv G) (hb : GBlk W1 bg 25 nv rv)
    (h : ∀ w, Fr [] W1 w → OwnS w ov 3 1 (intC G.distL) → K ov w) :
    ∀ (d at_ : Nat) (f : Int) (out : List Int) (q : List Nat) (w : World), G.n = at_ + d → BS W1 w bo bq ov out q → BI G f (fun j b => b = 0 ∧ (j : Int) ∈ G.roots ∧ j < G.n) out q → Asked G out q at_ → at_ ≤ q.length →
      (∀ p (hp : p < q.length), at_ ≤ p → ∀ x ∈ q, ∀ (h1 : x < out.length) (h2 : q[p] < out.length), out[x] ≤ out[q[p]] + 1) →
      F75.l10 K (.pointer (some ⟨bg, 0, none⟩)) (.pointer (some ⟨bo, 0, none⟩)) (.pointer (some ⟨bq, 0, none⟩)) (.func (.func 87) #[] #[.pointer (some ⟨bg, 0, none⟩), .pointer (some ⟨bo, 0, none⟩), .pointer (some ⟨bq, 0, none⟩)]) (.int .i64 (at_ : Int)) w := by
  have hfew := hG.few
  intro d
  have fin : ∀ (at_ : Nat) (f : Int) (out : List Int) (q : List Nat) (w : World), BS W1 w bo bq ov out q → BI G f (fun j b => b = 0 ∧ (j : Int) ∈ G.roots ∧ j < G.n) out q → Asked G out q at_ → at_ = q.length →
      F75.l10 K (.pointer (some ⟨bg, 0, none⟩)) (.pointer (some ⟨bo, 0, none⟩)) (.pointer (some ⟨bq, 0, none⟩)) (.func (.func 87) #[] #[.pointer (some ⟨bg, 0, none⟩), .pointer (some ⟨bo, 0, none⟩), .pointer (some ⟨bq, 0, none⟩)]) (.int .i64 (at_ : Int)) w := by
    intro at_ f out q w hB hI hA he
    obtain ⟨qv, q1, q2, q3, q4⟩ := hB.que
    refine F75.l10.to (C.load1_of (v := qv) q1 rfl (C.len_rd q2.rd ?_))
    simp only [C.ite_true, C.ite_false, C.pick_true, C.pick_false, C.not_bool, C.field_ptr, C.nilCheck_ptr, C.add_mk, C.sub_mk, C.mul_mk, C.eql_mk, C.neq_mk, C.lss_mk, C.leq_mk, C.gtr_mk, C.geq_mk, C.conv_mk, C.len_mk, C.ext_0, C.ext_1, C.ext3_0, C.ext3_1, C.ext3_2, C.guarded_yes, C.guarded_tf, C.guarded_ft, C.guarded_undef, Bool.not_true, Bool.not_false, Nat.zero_add, eq_self, decide_true, decide_false, intC_len, natC_len, show ¬ ((at_ : Int) < (q.length : Int)) by omega]
    refine F75.k18.to (C.load1_of (v := ov) hB.hbo rfl (h w hB.fr ?_))
    subst he
    rw [← hI.fin (fun j hj hr => ⟨rfl, hr, hj⟩) hA]
    exact hB.ho
  induction d with
  | zero =>
    intro at_ f out q w hd hB hI hA hle hT
    exact fin at_ f out q w hB hI hA (by have := hI.qlen; omega)
  | succ d ih =>
    intro at_ f out q w hd hB hI hA hle hT
    rcases Nat.lt_or_ge at_ q.length with hlt | hge
    · obtain ⟨qv, q1, q2, q3, q4⟩ := hB.que
      have hql := hI.qlen
      have hin : q[at_] < G.n := hI.lt _ (List.getElem_mem _)
      have hio : q[at_] < out.length := by rw [hI.len]; exact hin
      have hqs : 0 ≤ out[q[at_]] ∧ G.wk out[q[at_]].toNat q[at_] = true := by
        rcases hI.iff _ hio with e | e
        · exact absurd (List.getElem_mem _) e.2
        · exact ⟨e.1, e.2.2.1⟩
      refine F75.l10.to (C.load1_of (v := qv) q1 rfl (C.len_rd q2.rd ?_))
      simp only [C.ite_true, C.ite_false, C.pick_true, C.pick_false, C.not_bool, C.field_ptr, C.nilCheck_ptr, C.add_mk, C.sub_mk, C.mul_mk, C.eql_mk, C.neq_mk, C.lss_mk, C.leq_mk, C.gtr_mk, C.geq_mk, C.conv_mk, C.len_mk, C.ext_0, C.ext_1, C.ext3_0, C.ext3_1, C.ext3_2, C.guarded_yes, C.guarded_tf, C.guarded_ft, C.guarded_undef, Bool.not_true, Bool.not_false, Nat.zero_add, eq_self, decide_true, decide_false, intC_len, natC_len, show ((at_ : Int) < (q.length : Int)) by omega]
      refine F75.k12.to (C.load1_of (v := qv) q1 rfl (C.idx_int q2.rd (by rw [natC_len]; exact hlt) fun g o cs e fz hg hc => C.load1_of hg (by rw [hc, natC_get]) ((hb.keep hB.fr (by simp)).rowK hG hB.fr hin fun rw_ hrw => C.len_rd (hrw w hB.fr) ?_)))
      rw [intC_len]
      have hdl := dst_le hqs.2
      have hcn : out[q[at_]] ≤ f := by
        rcases hI.iff _ hio with e | e
        · omega
        · exact e.2.2.2
      have hcb : out[q[at_]] ≤ (at_ : Int) := hI.pos at_ hlt hio
      refine d35_row (c := out[q[at_]]) (D := fun j b => b = 0 ∧ (j : Int) ∈ G.roots ∧ j < G.n) (at_ := at_) (i := q[at_]) hG hb hin ⟨hqs.1, hcb, by omega⟩ hrw (fun w' out' q' hB' hI' hA' hq' hc' => ?_) (G.row q[at_]).length 0 out q w (by omega) hB ?_ hA ⟨hlt, rfl⟩ ⟨hio, rfl⟩
      · refine F75.k11.to ?_
        simp only [C.ite_true, C.ite_false, C.pick_true, C.pick_false, C.not_bool, C.field_ptr, C.nilCheck_ptr, C.add_mk, C.sub_mk, C.mul_mk, C.eql_mk, C.neq_mk, C.lss_mk, C.leq_mk, C.gtr_mk, C.geq_mk, C.conv_mk, C.len_mk, C.ext_0, C.ext_1, C.ext3_0, C.ext3_1, C.ext3_2, C.guarded_yes, C.guarded_tf, C.guarded_ft, C.guarded_undef, Bool.not_true, Bool.not_false, Nat.zero_add, eq_self, decide_true, decide_false]
        rw [wrap64_id (n := (at_ : Int) + 1) (by omega), show (at_ : Int) + 1 = ((at_ + 1 : Nat) : Int) by omega]
        obtain ⟨hlt', hq''⟩ := hq'
        obtain ⟨hio', hc''⟩ := hc'
        refine ih (at_ + 1) _ out' q' w' (by omega) hB' (hI'.weak fun j b e => .inl e) (fun p hp hpn x he hx => ?_) (by omega) (fun p hp hpa x hxq h1 h2 => ?_)
        · rcases Nat.lt_or_ge p at_ with c | c
          · exact hA' p hp c x he hx
          · obtain rfl : p = at_ := by omega
            rw [hq''] at he
            obtain ⟨y1, y2, y3⟩ := hI'.done x (out[q[p]] + 1) (.inr ⟨rfl, by rw [edge_row hin, ← row_get hin] at he; exact he, hx⟩)
            refine ⟨y1, by rw [hq'']; exact hio', y2, ?_⟩
            simp only [hq'', hc'']
            exact y3
        · have e1 : out'[x] ≤ out[q[at_]] + 1 := by
            rcases hI'.iff x h1 with e | e
            · exact absurd hxq e.2
            · exact e.2.2.2
          have e2 := hI'.sorted at_ p hlt' hp (by rw [hq'']; exact hio') h2 (by omega)
          simp only [hq'', hc''] at e2
          omega
      · refine (hI.raise (f' := out[q[at_]] + 1) fun x hx hx' => hT at_ hlt (Nat.le_refl _) x hx hx' hio).weak fun j b e => ?_
        rcases e with e | ⟨_, e, _⟩
        · exact e
        · simp at e
    · exact fin at_ f out q w hB hI hA (by omega)
end
end Go.Proofs.YtchonfdnghimdaaV
namespace Go.Proofs.YtchonfdnghimdaaV
open Go Go.Proofs Go.RowKit
set_option linter.unusedVariables false
set_option linter.unusedSimpArgs false
set_option maxRecDepth 10000
section
variable {K : VK} {w : World}
theorem d35_roots {W1 : World} {G : Gr} {bg bo bq : Nat} {nv rv ov : Value} (hG : IsG W1 nv rv G) (hb : GBlk W1 bg 25 nv rv)
    (h : ∀ w out q, BS W1 w bo bq ov out q → BI G 0 (fun j b => b = 0 ∧ (j : Int) ∈ G.roots ∧ j < G.n) out q →
      F75.k9 K (.pointer (some ⟨bg, 0, none⟩)) (.pointer (some ⟨bo, 0, none⟩)) (.pointer (some ⟨bq, 0, none⟩)) (.func (.func 87) #[] #[.pointer (some ⟨bg, 0, none⟩), .pointer (some ⟨bo, 0, none⟩), .pointer (some ⟨bq, 0, none⟩)]) w) :
    ∀ (d k : Nat) (out : List Int) (q : List Nat) (w : World), G.roots.length = k + d → BS W1 w bo bq ov out q → BI G 0 (fun j b => b = 0 ∧ (j : Int) ∈ G.roots.take k ∧ j < G.n) out q →
      F75.l5 K (.pointer (some ⟨bg, 0, none⟩)) (.pointer (some ⟨bo, 0, none⟩)) (.pointer (some ⟨bq, 0, none⟩)) (.func (.func 87) #[] #[.pointer (some ⟨bg, 0, none⟩), .pointer (some ⟨bo, 0, none⟩), .pointer (some ⟨bq, 0, none⟩)]) rv (.int .i64 (G.roots.length : Int)) (.int .i64 (k : Int)) w := by
  intro d
  induction d with
  | zero =>
    intro k out q w hk hB hI
    refine F75.l5.to ?_
    simp only [C.ite_true, C.ite_false, C.pick_true, C.pick_false, C.not_bool, C.field_ptr, C.nilCheck_ptr, C.add_mk, C.sub_mk, C.mul_mk, C.eql_mk, C.neq_mk, C.lss_mk, C.leq_mk, C.gtr_mk, C.geq_mk, C.conv_mk, C.len_mk, C.ext_0, C.ext_1, C.ext3_0, C.ext3_1, C.ext3_2, C.guarded_yes, C.guarded_tf, C.guarded_ft, C.guarded_undef, Bool.not_true, Bool.not_false, Nat.zero_add, eq_self, decide_true, decide_false, show ¬ ((k : Int) < (G.roots.length : Int)) by omega]
    refine h w out q hB (hI.weak fun j b e => ?_)
    rw [List.take_of_length_le (by omega)]
    exact e
  | succ d ih =>
    intro k out q w hk hB hI
    have hkl : k < G.roots.length := by omega
    have hrl := hG.rlen
    have hfew := hG.few
    have hql := hI.qlen
    refine F75.l5.to ?_
    simp only [C.ite_true, C.ite_false, C.pick_true, C.pick_false, C.not_bool, C.field_ptr, C.nilCheck_ptr, C.add_mk, C.sub_mk, C.mul_mk, C.eql_mk, C.neq_mk, C.lss_mk, C.leq_mk, C.gtr_mk, C.geq_mk, C.conv_mk, C.len_mk, C.ext_0, C.ext_1, C.ext3_0, C.ext3_1, C.ext3_2, C.guarded_yes, C.guarded_tf, C.guarded_ft, C.guarded_undef, Bool.not_true, Bool.not_false, Nat.zero_add, eq_self, decide_true, decide_false, show ((k : Int) < (G.roots.length : Int)) by omega]
    have nx : ∀ (out' : List Int) (q' : List Nat) (w' : World), BS W1 w' bo bq ov out' q' → BI G 0 (fun j b => b = 0 ∧ (j : Int) ∈ G.roots.take (k + 1) ∧ j < G.n) out' q' →
        F75.k8 K (.pointer (some ⟨bg, 0, none⟩)) (.pointer (some ⟨bo, 0, none⟩)) (.pointer (some ⟨bq, 0, none⟩)) (.func (.func 87) #[] #[.pointer (some ⟨bg, 0, none⟩), .pointer (some ⟨bo, 0, none⟩), .pointer (some ⟨bq, 0, none⟩)]) rv (.int .i64 (G.roots.length : Int)) (.int .i64 (k : Int)) w' := by
      intro out' q' w' a1 a2
      refine F75.k8.to ?_
      simp only [C.ite_true, C.ite_false, C.pick_true, C.pick_false, C.not_bool, C.field_ptr, C.nilCheck_ptr, C.add_mk, C.sub_mk, C.mul_mk, C.eql_mk, C.neq_mk, C.lss_mk, C.leq_mk, C.gtr_mk, C.geq_mk, C.conv_mk, C.len_mk, C.ext_0, C.ext_1, C.ext3_0, C.ext3_1, C.ext3_2, C.guarded_yes, C.guarded_tf, C.guarded_ft, C.guarded_undef, Bool.not_true, Bool.not_false, Nat.zero_add, eq_self, decide_true, decide_false]
      rw [wrap64_id (n := (k : Int) + 1) (by omega), show (k : Int) + 1 = ((k + 1 : Nat) : Int) by omega]
      exact ih (k + 1) out' q' w' (by omega) a1 a2
    refine F75.k6.to (C.idx_int (hG.keep hB.fr).roots hkl fun g o cs e fz hg hc => C.load1_of hg hc ?_)
    refine meet_c hG hb hB hI.len (by omega) (fun r hr e hm w' hB' => ?_) (fun hno w' hB' => ?_)
    · have hrn : r < G.n := by rw [← hI.len]; exact hr
      refine nx _ _ w' hB' ((hI.push hr hm (by omega) (by omega) ?_).weak fun j b hj => ?_)
      · exact wk_zero.2 ⟨hrn, by rw [← e]; exact List.getElem_mem _⟩
      · obtain ⟨h1, h2, h3⟩ := hj
        rw [List.take_succ_eq_append_getElem hkl, List.mem_append, List.mem_singleton, e] at h2
        rcases h2 with h2 | h2
        · exact .inl ⟨h1, h2, h3⟩
        · exact .inr ⟨by omega, h1⟩
    · refine nx out q w' hB' ?_
      by_cases hx : ∃ r : Nat, G.roots[k] = (r : Int)
      · obtain ⟨r, hr⟩ := hx
        refine (hI.skip (j := r) fun hj => hno r hj hr).weak fun j b hj => ?_
        obtain ⟨h1, h2, h3⟩ := hj
        rw [List.take_succ_eq_append_getElem hkl, List.mem_append, List.mem_singleton, hr] at h2
        rcases h2 with h2 | h2
        · exact .inl ⟨h1, h2, h3⟩
        · exact .inr ⟨by omega, h1, by rw [hI.len]; omega⟩
      · refine hI.weak fun j b hj => ?_
        obtain ⟨h1, h2, h3⟩ := hj
        rw [List.take_succ_eq_append_getElem hkl, List.mem_append, List.mem_singleton] at h2
        rcases h2 with h2 | h2
        · exact ⟨h1, h2, h3⟩
        · exact absurd ⟨j, h2.symm⟩ hx
theorem Dist_c {nv rv : Value} {G : Gr} (hG : IsG w nv rv G) (h : ∀ v w', Fr [] w w' → NewS w v → OwnS w' v 3 1 (intC G.distL) → K v w') : C.call Try.prog 75 #[.agg #[nv, rv]] w K := by
  have hfew := hG.few
  refine F75.sh (GBlk.new hG fun b w1 hf1 hb1 hb hG1 => C.run_of (bsIR (-1)) ?_)
  have hw2 := New.mk' w1 (.cells #[.int .i64 (-1)] 3)
  have hb2 := hb.keep hw2.fr (by simp)
  refine hb2.next ((hG1.keep hw2.fr).len_next (RepInt_c (n := G.n) (x := .int .i64 (-1)) (RdS.of_block hw2.at_ rfl (by simp) (by simp) (by simp) (by simp)) rfl (by omega) fun ov w3 hf3 ho3 hn3 => ?_))
  refine C.new_of fun bo w4 hw4 => C.store1_of hw4.at_ ho3.one.2 ho3.one.1 (by simp) fun w5 hu5 => C.new_of fun bq w6 hw6 => ?_
  have hs2 := hw2.fr.size
  have hs3 := hf3.size
  have e4 := hw4.is
  have e4' := hw4.sz
  have e5 := hu5.sz
  have e6 := hw6.is
  have f13 := hw2.fr.trans hf3
  have f15 : Fr [] w1 w5 := (f13.trans hw4.fr).then hu5.fr fun x hx => .inr (by simp only [List.mem_singleton] at hx; omega)
  have f16 := f15.trans hw6.fr
  have lo := ho3.mem_lt
  refine GBlk.roots (hb.keep f16 (by simp)) (C.len_rd (hG1.keep f16).roots ?_)
  rw [intC_len]
  have hB : BS w1 w6 bo bq ov (List.replicate G.n (-1)) [] := by
    refine ⟨f16, hw6.fr.at_ hu5.at_ (by simp), ?_, hn3.mono hw2.fr.size, by omega, by omega, by omega, fun g hg => ?_, .slice none 0 0, hw6.at_, OwnS.nil _ _ _, NewS.nil _, fun g hg => ?_⟩
    · rw [← intC_rep]
      exact ((ho3.keep hw4.fr (by simp)).keep' hu5.fr fun g hg c => by
        simp only [List.mem_singleton] at c
        have := lo g hg
        omega).keep hw6.fr (by simp)
    · have := lo g hg
      exact ⟨by omega, by omega⟩
    · simp [blkS, Value.ownBlock] at hg
  refine d35_roots hG1 hb (fun w7 out q hB7 hI7 => F75.k9.to ?_) G.roots.length 0 _ _ w6 (by omega) hB ?_
  · refine d35_at hG1 hb (fun w8 hf8 ho8 => h ov w8 (hf1.trans hf8) (hn3.mono (Nat.le_trans hf1.size hw2.fr.size)) ho8) G.n 0 0 out q w7 (by omega) hB7 hI7 (fun p hp hp0 => by omega) (by omega) (fun p hp _ x hx h1 h2 => ?_)
    rcases hI7.iff x h1 with c | c
    · exact absurd hx c.2
    · rcases hI7.iff _ h2 with c' | c'
      · exact absurd (List.getElem_mem _) c'.2
      · omega
  · refine ⟨by simp, by simp, by simp, fun j hj => .inl ⟨by simp, by simp⟩, fun a b ha => by simp at ha, fun j b e => by simp at e, fun p hp => by simp at hp⟩
def Gr.where_ (G : Gr) (p : Int → Bool) : List Nat := (List.range G.n).filter fun i => p (G.dst i)
def Gr.nodes (G : Gr) : List Nat := (List.range G.n).filter fun i => G.rch i
def Gr.dead (G : Gr) : List Nat := (List.range G.n).filter fun i => !G.rch i
theorem range_take {n i : Nat} (h : i ≤ n) : (List.range n).take i = List.range i := by
  apply List.ext_getElem
  · simp; omega
  · intro j h1 h2
    simp
theorem filter_range_succ (p : Nat → Bool) (i : Nat) : (List.range (i + 1)).filter p = (List.range i).filter p ++ if p i = true then [i] else [] := by
  rw [List.range_succ, List.filter_append]
  congr 1
  cases hp : p i <;> simp [hp]
theorem where_loop {W1 : World} {f dv : Value} {L : List Int} {p : Int → Bool} (hp : ∀ (n : Int) (w' : World) (K' : VK), K' (.bool (p n)) w' → vcCall Try.prog f [.int .i64 n] w' K') (hd : RdS W1 dv 1 (intC L)) (hL : L.length ≤ 1000)
    (h : ∀ v w', Fr [] W1 w' → NewS W1 v → OwnS w' v 3 1 (intC (natC ((List.range L.length).filter fun i => p (L[i]?.getD 0)))) → K v w') :
    ∀ (d i : Nat) (v : Value) (w : World), L.length = i + d → Fr [] W1 w → NewS W1 v → OwnS w v 3 1 (intC (natC ((List.range i).filter fun i => p (L[i]?.getD 0)))) → F53.l3 K f v dv (.int .i64 (L.length : Int)) (.int .i64 (i : Int)) w := by
  intro d
  induction d with
  | zero =>
    intro i v w hi hf hn ho
    refine F53.l3.to ?_
    simp only [C.ite_true, C.ite_false, C.pick_true, C.pick_false, C.not_bool, C.field_ptr, C.nilCheck_ptr, C.add_mk, C.sub_mk, C.mul_mk, C.eql_mk, C.neq_mk, C.lss_mk, C.leq_mk, C.gtr_mk, C.geq_mk, C.conv_mk, C.len_mk, C.ext_0, C.ext_1, C.ext3_0, C.ext3_1, C.ext3_2, C.guarded_yes, C.guarded_tf, C.guarded_ft, C.guarded_undef, Bool.not_true, Bool.not_false, Nat.zero_add, eq_self, decide_true, decide_false, show ¬ ((i : Int) < (L.length : Int)) by omega]
    refine F53.k8.to (h v w hf hn ?_)
    rw [hi]; exact ho
  | succ d ih =>
    intro i v w hi hf hn ho
    have il : i < L.length := by omega
    refine F53.l3.to ?_
    simp only [C.ite_true, C.ite_false, C.pick_true, C.pick_false, C.not_bool, C.field_ptr, C.nilCheck_ptr, C.add_mk, C.sub_mk, C.mul_mk, C.eql_mk, C.neq_mk, C.lss_mk, C.leq_mk, C.gtr_mk, C.geq_mk, C.conv_mk, C.len_mk, C.ext_0, C.ext_1, C.ext3_0, C.ext3_1, C.ext3_2, C.guarded_yes, C.guarded_tf, C.guarded_ft, C.guarded_undef, Bool.not_true, Bool.not_false, Nat.zero_add, eq_self, decide_true, decide_false, show ((i : Int) < (L.length : Int)) by omega]
    have nx : ∀ (v' : Value) (w' : World), Fr [] W1 w' → NewS W1 v' → OwnS w' v' 3 1 (intC (natC ((List.range (i + 1)).filter fun i => p (L[i]?.getD 0)))) → F53.k7 K f v' dv (.int .i64 (L.length : Int)) (.int .i64 (i : Int)) w' := by
      intro v' w' a b c
      refine F53.k7.to ?_
      simp only [C.ite_true, C.ite_false, C.pick_true, C.pick_false, C.not_bool, C.field_ptr, C.nilCheck_ptr, C.add_mk, C.sub_mk, C.mul_mk, C.eql_mk, C.neq_mk, C.lss_mk, C.leq_mk, C.gtr_mk, C.geq_mk, C.conv_mk, C.len_mk, C.ext_0, C.ext_1, C.ext3_0, C.ext3_1, C.ext3_2, C.guarded_yes, C.guarded_tf, C.guarded_ft, C.guarded_undef, Bool.not_true, Bool.not_false, Nat.zero_add, eq_self, decide_true, decide_false]
      rw [wrap64_id (n := (i : Int) + 1) (by omega), show (i : Int) + 1 = ((i + 1 : Nat) : Int) by omega]
      exact ih (i + 1) v' w' (by omega) a b c
    refine F53.k4.to (C.idx_int (hd.keep hf) il fun g o cs e fz hg hc => C.load1_of hg hc (hp _ _ _ ?_))
    have e : L[i]?.getD 0 = L[i] := by rw [List.getElem?_eq_getElem il]; rfl
    have hs := filter_range_succ (fun i => p (L[i]?.getD 0)) i
    simp only [e] at hs
    have hlen : (natC ((List.range i).filter fun i => p (L[i]?.getD 0))).length ≤ i := by rw [natC_len]; exact Nat.le_trans (List.length_filter_le _ _) (by simp)
    cases hpi : p L[i] with
    | true =>
      simp only [C.ite_true, C.ite_false, C.pick_true, C.pick_false, C.not_bool, C.field_ptr, C.nilCheck_ptr, C.add_mk, C.sub_mk, C.mul_mk, C.eql_mk, C.neq_mk, C.lss_mk, C.leq_mk, C.gtr_mk, C.geq_mk, C.conv_mk, C.len_mk, C.ext_0, C.ext_1, C.ext3_0, C.ext3_1, C.ext3_2, C.guarded_yes, C.guarded_tf, C.guarded_ft, C.guarded_undef, Bool.not_true, Bool.not_false, Nat.zero_add, eq_self, decide_true, decide_false]
      refine C.appInt hf hn ho (by omega) fun v' w' hf' hn' ho' _ => nx v' w' hf' hn' ?_
      rw [hs, if_pos hpi, natC_app]
      exact ho'
    | false =>
      simp only [C.ite_true, C.ite_false, C.pick_true, C.pick_false, C.not_bool, C.field_ptr, C.nilCheck_ptr, C.add_mk, C.sub_mk, C.mul_mk, C.eql_mk, C.neq_mk, C.lss_mk, C.leq_mk, C.gtr_mk, C.geq_mk, C.conv_mk, C.len_mk, C.ext_0, C.ext_1, C.ext3_0, C.ext3_1, C.ext3_2, C.guarded_yes, C.guarded_tf, C.guarded_ft, C.guarded_undef, Bool.not_true, Bool.not_false, Nat.zero_add, eq_self, decide_true, decide_false]
      refine nx v w hf hn ?_
      rw [hs, if_neg (by simp [hpi]), List.append_nil]
      exact ho
theorem distL_len (G : Gr) : G.distL.length = G.n := by simp [Gr.distL]
theorem distL_get {G : Gr} {i : Nat} (h : i < G.distL.length) : G.distL[i] = G.dst i := by simp [Gr.distL]
theorem where_c {nv rv f : Value} {G : Gr} {p : Int → Bool} (hG : IsG w nv rv G) (hp : ∀ (n : Int) (w' : World) (K' : VK), K' (.bool (p n)) w' → vcCall Try.prog f [.int .i64 n] w' K')
    (h : ∀ v w', Fr [] w w' → NewS w v → OwnS w' v 3 1 (intC (natC (G.where_ p))) → K v w') : C.call Try.prog 53 #[.agg #[nv, rv], f] w K := by
  have hfew := hG.few
  refine F53.sh (GBlk.new hG fun b w1 hf1 hb1 hb hG1 => hb.all (Dist_c hG1 fun dv w2 hf2 hn2 ho2 => C.len_rd ho2.rd ?_))
  rw [intC_len]
  have e : (List.range G.distL.length).filter (fun i => p (G.distL[i]?.getD 0)) = G.where_ p := by
    unfold Gr.where_
    rw [distL_len]
    refine List.filter_congr fun i hi => ?_
    have hi' := List.mem_range.1 hi
    rw [List.getElem?_eq_getElem (by rw [distL_len]; exact hi'), Option.getD_some, distL_get]
  refine where_loop hp ho2.rd (by rw [distL_len]; exact hfew) (fun v w' hf hn ho => h v w' ((hf1.trans hf2).trans hf) (hn.mono (hf1.trans hf2).size) ?_) G.distL.length 0 _ w2 (by omega) (Fr.refl _ _) (NewS.nil _) (OwnS.nil _ _ _)
  rw [← e]
  exact ho
theorem bodied73 : bodied Try.prog 54 = true := by kernel_rfl
theorem Dead_c {nv rv : Value} {G : Gr} (hG : IsG w nv rv G) (h : ∀ v w', Fr [] w w' → NewS w v → OwnS w' v 3 1 (intC (natC G.dead)) → K v w') : C.call Try.prog 38 #[.agg #[nv, rv]] w K := by
  refine F38.sh (GBlk.new hG fun b w1 hf1 hb1 hb hG1 => hb.all (where_c (p := fun n => decide (n = -1)) hG1 (fun n w' K' hk => vcCall_ofR bodied73 (F54.sh ?_)) fun v w' hf hn ho => h v w' (hf1.trans hf) (hn.mono hf1.size) ?_))
  · simp only [C.ite_true, C.ite_false, C.pick_true, C.pick_false, C.not_bool, C.field_ptr, C.nilCheck_ptr, C.add_mk, C.sub_mk, C.mul_mk, C.eql_mk, C.neq_mk, C.lss_mk, C.leq_mk, C.gtr_mk, C.geq_mk, C.conv_mk, C.len_mk, C.ext_0, C.ext_1, C.ext3_0, C.ext3_1, C.ext3_2, C.guarded_yes, C.guarded_tf, C.guarded_ft, C.guarded_undef, Bool.not_true, Bool.not_false, Nat.zero_add, eq_self, decide_true, decide_false]
    exact hk
  · have : G.where_ (fun n => decide (n = -1)) = G.dead := by
      refine List.filter_congr fun i _ => ?_
      have := dst_ge (G := G) i
      unfold Gr.rch
      rw [← decide_not]
      exact decide_eq_decide.2 (by omega)
    rw [← this]
    exact ho
/-! ### Tables -/
theorem bsS (A : Option Addr) (n c : Nat) : (Instr.buildSlice 22 1 #[(0, .slice A n c)]).run Try.prog w = .ok (.slice (some ⟨w.heap.size, 0, none⟩) 1 1) (w.alloc (.cells #[.slice A n c] 23)) := by kernel_rfl
theorem slC_one {vs : List Value} (h : ∀ v ∈ vs, v.oneCell' = true) : ∀ y ∈ slC vs, ∀ u ∈ y, u.oneCell' = true := by
  intro y hy u hu
  simp only [slC, List.mem_map] at hy
  obtain ⟨x, hx, rfl⟩ := hy
  simp only [List.mem_cons, List.not_mem_nil, or_false] at hu
  subst hu
  exact h _ hx
theorem dec_bool {p : Prop} [Decidable p] {b : Bool} (h : p ↔ b = true) : decide p = b := by cases b <;> simp_all
theorem build33 (A B : Option Addr) (n c m d : Nat) : (Instr.build 30 #[(0, .slice A n c), (1, .slice B m d)]).run Try.prog w = .ok (.agg #[.slice A n c, .slice B m d]) w := by kernel_rfl
def upd {α : Type} (f : Nat → α) (t : Nat) (x : α) : Nat → α := fun u => if u = t then x else f u
theorem upd_ap {α : Type} (f : Nat → α) (t : Nat) (x : α) (u : Nat) : upd f t x u = if u = t then x else f u := rfl
def tab {α : Type} (n : Nat) (f : Nat → α) : List α := (List.range n).map f
theorem tab_len {α : Type} (n : Nat) (f : Nat → α) : (tab n f).length = n := by simp [tab]
theorem tab_get {α : Type} {n : Nat} {f : Nat → α} {i : Nat} (h : i < (tab n f).length) : (tab n f)[i] = f i := by simp [tab]
theorem tab_set {α : Type} (n : Nat) (f : Nat → α) (j : Nat) (x : α) : (tab n f).set j x = tab n (upd f j x) := by
  refine List.ext_getElem (by simp [tab]) fun i h1 h2 => ?_
  rw [List.getElem_set, tab_get, tab_get, upd_ap]
  by_cases c : j = i
  · rw [if_pos c, if_pos c.symm]
  · rw [if_neg c, if_neg (fun e : i = j => c e.symm)]
theorem tab_congr {α : Type} {n : Nat} {f g : Nat → α} (h : ∀ i, i < n → f i = g i) : tab n f = tab n g := List.map_congr_left fun i hi => h i (List.mem_range.1 hi)
theorem C.idx_slS {S : World → Prop} {v : Value} {l : List Value} {i : Nat} (h : ∀ w', S w' → RdS w' v 1 (slC l)) (hS : S w) (hi : i < l.length) (hk : ∀ g o, (∀ w', S w' → ∃ cs e fz, w'.heap[g]? = some (.cells cs e fz) ∧ cs[o]? = some l[i]) → K (.pointer (some ⟨g, o, none⟩)) w) :
    C.idx 1 v (.int .i64 (i : Int)) w K :=
  C.idx_rdS h hS (by omega) (by rw [Int.toNat_natCast]; exact slC_get hi) fun g o _ hs => hk g o fun w' hw => by
    obtain ⟨cs, e, fz, hg, hc⟩ := hs w' hw
    exact ⟨cs, e, fz, hg, by simpa using hc 0 (by omega)⟩
theorem C.idx_sl {v : Value} {l : List Value} {i : Nat} (h : RdS w v 1 (slC l)) (hi : i < l.length) (hk : ∀ g o cs e fz, w.heap[g]? = some (.cells cs e fz) → cs[o]? = some l[i] → K (.pointer (some ⟨g, o, none⟩)) w) :
    C.idx 1 v (.int .i64 (i : Int)) w K := by
  refine C.idx_rd h (by omega) (by rw [Int.toNat_natCast]; exact slC_get hi) fun g o cs e fz hg _ hc => hk g o cs e fz hg ?_
  have := hc 0 (by omega)
  simpa using this
theorem build46R (A B : Option Addr) (n c m d : Nat) : (Instr.build 25 #[(0, .slice A n c), (1, .slice B m d)]).run Try.prog w = .ok (.agg #[.slice A n c, .slice B m d]) w := by kernel_rfl
end
end Go.Proofs.YtchonfdnghimdaaV
