/- Lists of numbers of the call's own: appended to, cloned, reversed, thinned out: what each call comes to. -/
import Derived.Test.YtfhgjncbhjjbfaaLib2
import Derived.Test.YtfhgjncbhjjbfaaOwn3
import Derived.Lib.SliceRun
namespace Go.Proofs.YtfhgjncbhjjbfaaV
open Go Go.Proofs Go.RowKit
set_option linter.unusedVariables false
set_option linter.unusedSimpArgs false
theorem RdS.keep' {S : List Nat} {w w' : World} {v : Value} {sz : Nat} {xs : List (List Value)} (h : RdS w v sz xs) (hf : Fr S w w') (hS : ∀ g ∈ blkS v, g ∉ S) : RdS w' v sz xs := by
  obtain ⟨A, c, rfl, h1, h2, h3⟩ := h
  refine ⟨A, c, rfl, h1, h2, fun hx => ?_⟩
  obtain ⟨g, o, cs, e, fz, rfl, hg, hc⟩ := h3 hx
  exact ⟨g, o, cs, e, fz, rfl, hf.at_ hg (hS g (mem_blkS.2 rfl)), hc⟩
theorem intC_one {l : List Int} : ∀ y ∈ intC l, ∀ u ∈ y, u.oneCell' = true := by
  intro y hy u hu
  simp only [intC, List.mem_map] at hy
  obtain ⟨x, _, rfl⟩ := hy
  simp only [List.mem_cons, List.not_mem_nil, or_false] at hu
  subst hu
  rfl
theorem intC_set (l : List Int) (j : Nat) (n : Int) : (intC l).set j [.int .i64 n] = intC (l.set j n) := by simp [intC, List.map_set]
theorem intC_take (l : List Int) (j : Nat) : (intC l).take j = intC (l.take j) := by simp [intC, List.map_take]
theorem intC_flat (l : List Int) : (intC l).flatten = l.map (Value.int .i64) := by
  induction l with
  | nil => rfl
  | cons x l ih => simp only [intC, List.map_cons, List.flatten_cons, List.cons_append, List.nil_append] at *; rw [ih]
theorem intC_rep (n : Nat) (x : Int) : List.replicate n [.int .i64 x] = intC (List.replicate n x) := by simp [intC]
/-- A call of a function at hand. -/
theorem vcCall_of {f : FuncId} {cap : Array Value} {args : List Value} {w : World} {K : VK} (hb : bodied Try.prog f = true) (h : C.call Try.prog f (args ++ cap.toList).toArray w K) : vcCall Try.prog (.func (.func f) #[] cap) args w K := by
  simp only [vcCall, hb, cond_true, List.nil_append]
  exact h
theorem upd_setCells {g : Nat} {e : TypeId} : ∀ (vs : List Value) (o : Nat) (w : World) (cs : Array Value), w.heap[g]? = some (.cells cs e (0, 0)) →
    ∃ cs', Upd w g (.cells cs' e (0, 0)) (w.setCells g o vs) ∧ cs'.size = cs.size ∧ ∀ j, j < o → cs'[j]? = cs[j]?
  | [], o, w, cs, h => ⟨cs, ⟨Fr.refl _ _, h, rfl⟩, rfl, fun _ _ => rfl⟩
  | v :: vs, o, w, cs, h => by
    have hu := upd_setCell (o := o) h v
    obtain ⟨cs', h1, h2, h3⟩ := upd_setCells vs (o + 1) _ _ hu.at_
    refine ⟨cs', hu.trans h1, by simpa using h2, fun j hj => ?_⟩
    rw [h3 j (by omega), Array.getElem?_setIfInBounds_ne (by omega)]
section
variable {K : VK} {w : World}
theorem bsI (a : Int) : (Instr.buildSlice 44 1 #[(0, .int .i64 a)]).run Try.prog w = .ok (.slice (some ⟨w.heap.size, 0, none⟩) 1 1) (w.alloc (.cells #[.int .i64 a] 3)) := by kernel_rfl
theorem bsI0 : (Instr.buildSlice 44 0 #[]).run Try.prog w = .ok (.slice (some ⟨w.heap.size, 0, none⟩) 0 0) (w.alloc (.cells #[] 3)) := by kernel_rfl
/-- append(v, n), v a list of the call's own. -/
theorem C.appInt {W0 : World} {v : Value} {l : List Int} {n : Int} (hf : Fr [] W0 w) (hn : NewS W0 v) (hv : OwnS w v 3 1 (intC l)) (hl : l.length ≤ 17592186044415)
    (hk : ∀ v' w', Fr [] W0 w' → NewS W0 v' → OwnS w' v' 3 1 (intC (l ++ [n])) → Fr (blkS v) w w' → K v' w') :
    C.run Try.prog (Instr.buildSlice 44 1 #[(0, .int .i64 n)]) w fun x w1 => C.run Try.prog (Builtin.append_ #[44, 44] 44 #[v, x]) w1 K := by
  refine C.run_of (bsI n) ?_
  have hw := New.mk' w (.cells #[.int .i64 n] 3)
  refine C.append_of (xs := intC l) (ys := intC [n]) (e := 3) (sz := 1) (bytes := 8) (z := .int .i64 0) Try.underlying44 (by kernel_rfl) rfl (by decide) (hv.keep hw.fr (by simp)) (RdS.of_block hw.at_ rfl (by simp) (by simp) (by simp [intC]) (by simp [intC])) intC_one
    (by rw [intC_len, intC_len]; simp; omega) (by rw [intC_len, intC_len]; simp; omega) fun v' w' ho hf' hb _ => ?_
  refine hk v' w' ((hf.trans hw.fr).then hf' fun x hx => .inr (hn x (mem_blkS.1 hx))) (fun g hg => ?_) (by rw [intC_app]; exact ho) (hw.fr.w.trans hf')
  rcases hb with hb | ⟨g', hb, hle⟩
  · rw [hb] at hg
    exact hn g hg
  · rw [hg] at hb
    simp only [Option.some.injEq] at hb
    have := hf.size
    have := hw.fr.size
    omega
/-- append(v, n), the slice's block told: it is v's, or new. -/
theorem C.appInt' {v : Value} {l : List Int} {n : Int} (hv : OwnS w v 3 1 (intC l)) (hl : l.length ≤ 17592186044415)
    (hk : ∀ v' w', Fr (blkS v) w w' → (v'.ownBlock = v.ownBlock ∨ ∃ g, v'.ownBlock = some g ∧ w.heap.size ≤ g) → OwnS w' v' 3 1 (intC (l ++ [n])) → K v' w') :
    C.run Try.prog (Instr.buildSlice 44 1 #[(0, .int .i64 n)]) w fun x w1 => C.run Try.prog (Builtin.append_ #[44, 44] 44 #[v, x]) w1 K := by
  refine C.run_of (bsI n) ?_
  have hw := New.mk' w (.cells #[.int .i64 n] 3)
  refine C.append_of (xs := intC l) (ys := intC [n]) (e := 3) (sz := 1) (bytes := 8) (z := .int .i64 0) Try.underlying44 (by kernel_rfl) rfl (by decide) (hv.keep hw.fr (by simp)) (RdS.of_block hw.at_ rfl (by simp) (by simp) (by simp [intC]) (by simp [intC])) intC_one
    (by rw [intC_len, intC_len]; simp; omega) (by rw [intC_len, intC_len]; simp; omega) fun v' w' ho hf' hb _ => ?_
  refine hk v' w' (hw.fr.w.trans hf') ?_ (by rw [intC_app]; exact ho)
  rcases hb with hb | ⟨g', hb, hle⟩
  · exact .inl hb
  · exact .inr ⟨g', hb, Nat.le_trans hw.fr.size hle⟩
theorem CloneI_c {v : Value} {l : List Int} (hv : RdS w v 1 (intC l)) (hl : l.length ≤ 17592186044416) (h : ∀ v' w', Fr [] w w' → OwnS w' v' 3 1 (intC l) → NewS w v' → K v' w') : C.call Try.prog 95 #[v] w K := by
  have hv' := hv
  obtain ⟨A, c, rfl, h1, h2, h3⟩ := hv
  refine F95.sh ⟨_, eq_slice_nil (e := 3) _ _ _ _ _ Try.underlying44, ?_⟩
  cases A with
  | none =>
    have : l = [] := by
      cases l with
      | nil => rfl
      | cons x l => obtain ⟨g, o, cs, e, fz, hA, _⟩ := h3 (by simp [intC]); cases hA
    subst this
    simp only [Option.isNone_none, C.ite_true, C.ite_false, C.pick_true, C.pick_false, C.not_bool, C.field_ptr, C.nilCheck_ptr, C.add_mk, C.sub_mk, C.mul_mk, C.eql_mk, C.neq_mk, C.lss_mk, C.leq_mk, C.gtr_mk, C.geq_mk, C.conv_mk, C.len_mk, C.ext_0, C.ext_1, C.ext3_0, C.ext3_1, C.ext3_2, C.guarded_yes, C.guarded_tf, C.guarded_ft, C.guarded_undef, Bool.not_true, Bool.not_false, Nat.zero_add, eq_self, decide_true, decide_false]
    exact h _ w (Fr.refl _ _) (OwnS.nil w 3 1) (NewS.nil w)
  | some a =>
    simp only [Option.isNone_some, C.ite_true, C.ite_false, C.pick_true, C.pick_false, C.not_bool, C.field_ptr, C.nilCheck_ptr, C.add_mk, C.sub_mk, C.mul_mk, C.eql_mk, C.neq_mk, C.lss_mk, C.leq_mk, C.gtr_mk, C.geq_mk, C.conv_mk, C.len_mk, C.ext_0, C.ext_1, C.ext3_0, C.ext3_1, C.ext3_2, C.guarded_yes, C.guarded_tf, C.guarded_ft, C.guarded_undef, Bool.not_true, Bool.not_false, Nat.zero_add, eq_self, decide_true, decide_false]
    refine F95.k3.to (C.run_of bsI0 ?_)
    have hn := New.mk' w (.cells #[] 3)
    refine C.append_of (xs := []) (e := 3) (sz := 1) (bytes := 8) (z := .int .i64 0) Try.underlying44 (by kernel_rfl) rfl (by decide) (OwnS.of_block hn.at_ rfl (by simp) (by simp) rfl (by simp) (by simp)) (hv'.keep hn.fr) intC_one (by rw [intC_len]; simp; omega) (by rw [intC_len]; simp; omega) fun v' w' ho hf hb _ => ?_
    refine h v' w' (hn.fr.then hf fun x hx => ?_) (by simpa using ho) fun g hg => ?_
    · rw [mem_blkS] at hx
      simp only [Value.ownBlock, Option.some.injEq] at hx
      exact .inr (by omega)
    · rcases hb with hb | ⟨g', hb, hle⟩
      · rw [hb] at hg
        simp only [Value.ownBlock, Option.some.injEq] at hg
        omega
      · rw [hg] at hb
        simp only [Option.some.injEq] at hb
        have := hn.fr.size
        omega
theorem IndexFunc_loop {W0 : World} {v f : Value} {l : List Int} {p : Int → Bool} (hv : RdS W0 v 1 (intC l))
    (hp : ∀ w' n (K' : VK), Fr [] W0 w' → n ∈ l → (∀ w'', Fr [] w' w'' → K' (.bool (p n)) w'') → vcCall Try.prog f [.int .i64 n] w' K')
    (h1 : ∀ w', Fr [] W0 w' → (∀ n ∈ l, p n = false) → K (.int .i64 (-1)) w')
    (h2 : ∀ i w', Fr [] W0 w' → (hi : i < l.length) → p l[i] = true → (∀ k (h : k < l.length), k < i → p l[k] = false) → K (.int .i64 (i : Int)) w') :
    ∀ (d j : Nat) (w : World), l.length = j + d → Fr [] W0 w → (∀ i (h : i < l.length), i < j → p l[i] = false) → F99.l2 K v f (.int .i64 (l.length : Int)) (.int .i64 (j : Int)) w := by
  intro d
  induction d with
  | zero =>
    intro j w hd hf hj
    refine F99.l2.to ?_
    simp only [C.ite_true, C.ite_false, C.pick_true, C.pick_false, C.not_bool, C.field_ptr, C.nilCheck_ptr, C.add_mk, C.sub_mk, C.mul_mk, C.eql_mk, C.neq_mk, C.lss_mk, C.leq_mk, C.gtr_mk, C.geq_mk, C.conv_mk, C.len_mk, C.ext_0, C.ext_1, C.ext3_0, C.ext3_1, C.ext3_2, C.guarded_yes, C.guarded_tf, C.guarded_ft, C.guarded_undef, Bool.not_true, Bool.not_false, Nat.zero_add, eq_self, decide_true, decide_false, show ¬ ((j : Int) < (l.length : Int)) by omega]
    refine F99.k7.to (h1 w hf fun n hn => ?_)
    obtain ⟨i, hi, rfl⟩ := List.getElem_of_mem hn
    exact hj i hi (by omega)
  | succ d ih =>
    intro j w hd hf hj
    have hle := hv.le
    rw [intC_len] at hle
    have jl : j < l.length := by omega
    refine F99.l2.to ?_
    simp only [C.ite_true, C.ite_false, C.pick_true, C.pick_false, C.not_bool, C.field_ptr, C.nilCheck_ptr, C.add_mk, C.sub_mk, C.mul_mk, C.eql_mk, C.neq_mk, C.lss_mk, C.leq_mk, C.gtr_mk, C.geq_mk, C.conv_mk, C.len_mk, C.ext_0, C.ext_1, C.ext3_0, C.ext3_1, C.ext3_2, C.guarded_yes, C.guarded_tf, C.guarded_ft, C.guarded_undef, Bool.not_true, Bool.not_false, Nat.zero_add, eq_self, decide_true, decide_false, show ((j : Int) < (l.length : Int)) by omega]
    refine F99.k3.to (C.idx_int (hv.keep hf) jl fun g o cs e fz hg hc => C.load1_of hg hc (hp _ _ _ hf (List.getElem_mem _) fun w1 hf1 => ?_))
    cases hpj : p l[j] with
    | true =>
      simp only [C.ite_true, C.ite_false, C.pick_true, C.pick_false, C.not_bool, C.field_ptr, C.nilCheck_ptr, C.add_mk, C.sub_mk, C.mul_mk, C.eql_mk, C.neq_mk, C.lss_mk, C.leq_mk, C.gtr_mk, C.geq_mk, C.conv_mk, C.len_mk, C.ext_0, C.ext_1, C.ext3_0, C.ext3_1, C.ext3_2, C.guarded_yes, C.guarded_tf, C.guarded_ft, C.guarded_undef, Bool.not_true, Bool.not_false, Nat.zero_add, eq_self, decide_true, decide_false]
      exact h2 j w1 (hf.trans hf1) jl hpj hj
    | false =>
      simp only [C.ite_true, C.ite_false, C.pick_true, C.pick_false, C.not_bool, C.field_ptr, C.nilCheck_ptr, C.add_mk, C.sub_mk, C.mul_mk, C.eql_mk, C.neq_mk, C.lss_mk, C.leq_mk, C.gtr_mk, C.geq_mk, C.conv_mk, C.len_mk, C.ext_0, C.ext_1, C.ext3_0, C.ext3_1, C.ext3_2, C.guarded_yes, C.guarded_tf, C.guarded_ft, C.guarded_undef, Bool.not_true, Bool.not_false, Nat.zero_add, eq_self, decide_true, decide_false]
      refine F99.k6.to ?_
      simp only [C.ite_true, C.ite_false, C.pick_true, C.pick_false, C.not_bool, C.field_ptr, C.nilCheck_ptr, C.add_mk, C.sub_mk, C.mul_mk, C.eql_mk, C.neq_mk, C.lss_mk, C.leq_mk, C.gtr_mk, C.geq_mk, C.conv_mk, C.len_mk, C.ext_0, C.ext_1, C.ext3_0, C.ext3_1, C.ext3_2, C.guarded_yes, C.guarded_tf, C.guarded_ft, C.guarded_undef, Bool.not_true, Bool.not_false, Nat.zero_add, eq_self, decide_true, decide_false]
      rw [wrap64_id (n := (j : Int) + 1) (by omega), show (j : Int) + 1 = ((j + 1 : Nat) : Int) by omega]
      refine ih (j + 1) w1 (by omega) (hf.trans hf1) fun i hi hij => ?_
      rcases Nat.lt_or_ge i j with h | h
      · exact hj i hi h
      · obtain rfl : i = j := by omega
        exact hpj
theorem take_filter_succ {p : Int → Bool} {l : List Int} {j : Nat} (h : j < l.length) : (l.take (j + 1)).filter p = (l.take j).filter p ++ if p l[j] = true then [l[j]] else [] := by
  rw [List.take_succ_eq_append_getElem h, List.filter_append]
  congr 1
  cases hp : p l[j] <;> simp [hp]
theorem filter_take_le {p : Int → Bool} {l : List Int} {j : Nat} : ((l.take j).filter p).length ≤ j := Nat.le_trans (List.length_filter_le _ _) (by simp; omega)
theorem DeleteFunc_end {W0 : World} {v : Value} {l m : List Int} {i : Nat} (hf : Fr (blkS v) W0 w) (hm : OwnS w v 3 1 (intC m)) (hi : i < m.length) (hl : m.take i = l)
    (h : ∀ v' w', Fr (blkS v) W0 w' → OwnS w' v' 3 1 (intC l) → v'.ownBlock = v.ownBlock → K v' w') : F79.k11 K v (.int .i64 (i : Int)) w := by
  refine F79.k11.to ?_
  have hle := hm.rd.le
  rw [intC_len] at hle
  obtain ⟨⟨h2, h3⟩, h4⟩ := hm
  rcases h3 with ⟨rfl, h3⟩ | ⟨g, cap, cur, rfl, hb, hh, h5, h6, h7, h8⟩
  · rw [intC_len] at h3; omega
  · rw [intC_len] at h5 h8
    simp only [Nat.mul_one] at h7 h8
    have r1 := sliceFrom_run (P := Try.prog) (w := w) (t := 44) (e := 3) (sz := 1) (some ⟨g, 0, none⟩) (intC m).length cap .i64 (i : Int) Try.underlying44 (by kernel_rfl) (by omega) (by rw [intC_len]; omega)
    rw [Int.toNat_natCast, if_neg (by omega)] at r1
    simp only [Option.map_some, add_mk, Nat.zero_add, Nat.mul_one, intC_len] at r1
    have r1' : (Instr.sliceAt 44 (.slice (some ⟨g, 0, none⟩) (intC m).length cap) (some (.int .i64 (i : Int))) none none).run Try.prog w = .ok (.slice (some ⟨g, i, none⟩) (m.length - i) (cap - i)) w := by rw [intC_len]; exact r1
    refine C.run_of r1' ?_
    have r2 := Go.Lib.run_clear_slice (P := Try.prog) w 44 3 0 (.int .i64 0) Try.underlying44 (fun w => by kernel_rfl) rfl rfl g i (m.length - i) (cap - i) (by omega) (fun j hj => by rw [cell_mk hh, Array.getElem?_eq_getElem (by omega)]; rfl) (fun j hj => frozen_mk hh)
    refine C.run_of r2 ?_
    obtain ⟨cs', hu, hs', hc'⟩ := upd_setCells (List.replicate (m.length - i) (.int .i64 0)) i w cur hh
    have r3 := fun w' => sliceTo_run (P := Try.prog) (w := w') (t := 44) (e := 3) (sz := 1) (some ⟨g, 0, none⟩) (intC m).length cap .i64 (i : Int) Try.underlying44 (by kernel_rfl) (by omega) (by omega)
    simp only [Int.toNat_natCast] at r3
    refine C.run_of (r3 _) ?_
    refine h _ _ (hf.trans (hu.fr.mono (by simp [blkS, Value.ownBlock]))) ?_ rfl
    have hlen : l.length = i := by rw [← hl, List.length_take]; omega
    refine OwnS.of_block hu.at_ (by rw [intC_len, hlen]) (by omega) (by unfold maxLen at h6; omega) (by rw [hs', h7, Nat.mul_one]) (fun y hy => ⟨by simp only [intC, List.mem_map] at hy; obtain ⟨_, _, rfl⟩ := hy; rfl, intC_one y hy⟩) ?_
    rw [Nat.mul_one, intC_flat, ← hl]
    have e1 : cur.toList.take i = (cur.toList.take m.length).take i := by rw [List.take_take, Nat.min_eq_left (by omega)]
    rw [h8, intC_flat] at e1
    rw [List.map_take, ← e1]
    apply List.ext_getElem?
    intro k
    rw [List.getElem?_take, List.getElem?_take]
    split
    · rename_i hk
      simpa using hc' k hk
    · rfl
theorem DeleteFunc_loop {W0 : World} {v f : Value} {l : List Int} {p : Int → Bool}
    (hp : ∀ w' n (K' : VK), Fr (blkS v) W0 w' → n ∈ l → (∀ w'', Fr [] w' w'' → K' (.bool (p n)) w'') → vcCall Try.prog f [.int .i64 n] w' K')
    (h : ∀ v' w', Fr (blkS v) W0 w' → OwnS w' v' 3 1 (intC (l.filter fun n => !p n)) → v'.ownBlock = v.ownBlock → K v' w') :
    ∀ (d j i : Nat) (m : List Int) (w : World), l.length = j + d → Fr (blkS v) W0 w → OwnS w v 3 1 (intC m) → m.length = l.length → i < j → m.take i = (l.take j).filter (fun n => !p n) → m.drop j = l.drop j →
      F79.l5 K v f (.int .i64 (i : Int)) (.int .i64 (j : Int)) w := by
  intro d
  induction d with
  | zero =>
    intro j i m w hd hf hm hml hij ht hdr
    refine F79.l5.to (C.len_rd hm.rd ?_)
    simp only [C.ite_true, C.ite_false, C.pick_true, C.pick_false, C.not_bool, C.field_ptr, C.nilCheck_ptr, C.add_mk, C.sub_mk, C.mul_mk, C.eql_mk, C.neq_mk, C.lss_mk, C.leq_mk, C.gtr_mk, C.geq_mk, C.conv_mk, C.len_mk, C.ext_0, C.ext_1, C.ext3_0, C.ext3_1, C.ext3_2, C.guarded_yes, C.guarded_tf, C.guarded_ft, C.guarded_undef, Bool.not_true, Bool.not_false, Nat.zero_add, eq_self, decide_true, decide_false, intC_len, hml, show ¬ ((j : Int) < (l.length : Int)) by omega]
    refine DeleteFunc_end hf hm (by omega) ?_ h
    rw [ht, List.take_of_length_le (by omega)]
  | succ d ih =>
    intro j i m w hd hf hm hml hij ht hdr
    have hle := hm.rd.le
    rw [intC_len] at hle
    have jl : j < l.length := by omega
    refine F79.l5.to (C.len_rd hm.rd ?_)
    simp only [C.ite_true, C.ite_false, C.pick_true, C.pick_false, C.not_bool, C.field_ptr, C.nilCheck_ptr, C.add_mk, C.sub_mk, C.mul_mk, C.eql_mk, C.neq_mk, C.lss_mk, C.leq_mk, C.gtr_mk, C.geq_mk, C.conv_mk, C.len_mk, C.ext_0, C.ext_1, C.ext3_0, C.ext3_1, C.ext3_2, C.guarded_yes, C.guarded_tf, C.guarded_ft, C.guarded_undef, Bool.not_true, Bool.not_false, Nat.zero_add, eq_self, decide_true, decide_false, intC_len, hml, show ((j : Int) < (l.length : Int)) by omega]
    have ej : m[j]'(by omega) = l[j] := by
      have := congrArg (fun x : List Int => x[0]?) hdr
      simpa [List.getElem?_drop, List.getElem?_eq_getElem (show j < m.length by omega), List.getElem?_eq_getElem jl] using this
    refine F79.k7.to (C.idx_int hm.rd (by omega) fun g o cs e fz hg hc => C.load1_of hg (by rw [hc, ej]) (hp _ _ _ hf (List.getElem_mem jl) fun w1 hf1 => ?_))
    have nx : ∀ (i' : Nat) (m' : List Int) (w' : World), Fr (blkS v) W0 w' → OwnS w' v 3 1 (intC m') → m'.length = l.length → i' ≤ j → m'.take i' = (l.take (j + 1)).filter (fun n => !p n) → m'.drop (j + 1) = l.drop (j + 1) →
        F79.k6 K v f (.int .i64 (i' : Int)) (.int .i64 (j : Int)) w' := by
      intro i' m' w' a b c dd e ff
      refine F79.k6.to ?_
      simp only [C.ite_true, C.ite_false, C.pick_true, C.pick_false, C.not_bool, C.field_ptr, C.nilCheck_ptr, C.add_mk, C.sub_mk, C.mul_mk, C.eql_mk, C.neq_mk, C.lss_mk, C.leq_mk, C.gtr_mk, C.geq_mk, C.conv_mk, C.len_mk, C.ext_0, C.ext_1, C.ext3_0, C.ext3_1, C.ext3_2, C.guarded_yes, C.guarded_tf, C.guarded_ft, C.guarded_undef, Bool.not_true, Bool.not_false, Nat.zero_add, eq_self, decide_true, decide_false]
      rw [wrap64_id (n := (j : Int) + 1) (by omega), show (j : Int) + 1 = ((j + 1 : Nat) : Int) by omega]
      exact ih (j + 1) i' m' w' (by omega) a b c (by omega) e ff
    have hdr1 : m.drop (j + 1) = l.drop (j + 1) := by
      have := congrArg (List.drop 1) hdr
      simpa [List.drop_drop] using this
    have hts := take_filter_succ (p := fun n => !p n) jl
    cases hpj : p l[j] with
    | true =>
      simp only [C.ite_true, C.ite_false, C.pick_true, C.pick_false, C.not_bool, C.field_ptr, C.nilCheck_ptr, C.add_mk, C.sub_mk, C.mul_mk, C.eql_mk, C.neq_mk, C.lss_mk, C.leq_mk, C.gtr_mk, C.geq_mk, C.conv_mk, C.len_mk, C.ext_0, C.ext_1, C.ext3_0, C.ext3_1, C.ext3_2, C.guarded_yes, C.guarded_tf, C.guarded_ft, C.guarded_undef, Bool.not_true, Bool.not_false, Nat.zero_add, eq_self, decide_true, decide_false]
      refine nx i m w1 (hf.trans hf1.w) (hm.keep hf1 (by simp)) hml (by omega) ?_ hdr1
      rw [hts, hpj, ht]
      simp
    | false =>
      simp only [C.ite_true, C.ite_false, C.pick_true, C.pick_false, C.not_bool, C.field_ptr, C.nilCheck_ptr, C.add_mk, C.sub_mk, C.mul_mk, C.eql_mk, C.neq_mk, C.lss_mk, C.leq_mk, C.gtr_mk, C.geq_mk, C.conv_mk, C.len_mk, C.ext_0, C.ext_1, C.ext3_0, C.ext3_1, C.ext3_2, C.guarded_yes, C.guarded_tf, C.guarded_ft, C.guarded_undef, Bool.not_true, Bool.not_false, Nat.zero_add, eq_self, decide_true, decide_false]
      have hm1 := hm.keep hf1 (by simp)
      refine C.storeAt_own hm1 (by omega) (by rw [intC_len]; omega) rfl (by intro u hu; simp [Value.cells] at hu; subst hu; rfl) fun w2 ho hf2 _ => ?_
      try simp only [C.ite_true, C.ite_false, C.pick_true, C.pick_false, C.not_bool, C.field_ptr, C.nilCheck_ptr, C.add_mk, C.sub_mk, C.mul_mk, C.eql_mk, C.neq_mk, C.lss_mk, C.leq_mk, C.gtr_mk, C.geq_mk, C.conv_mk, C.len_mk, C.ext_0, C.ext_1, C.ext3_0, C.ext3_1, C.ext3_2, C.guarded_yes, C.guarded_tf, C.guarded_ft, C.guarded_undef, Bool.not_true, Bool.not_false, Nat.zero_add, eq_self, decide_true, decide_false]
      rw [wrap64_id (n := (i : Int) + 1) (by omega), show (i : Int) + 1 = ((i + 1 : Nat) : Int) by omega]
      have ho' : OwnS w2 v 3 1 (intC (m.set i l[j])) := by
        rw [← intC_set]
        exact ho
      refine nx (i + 1) (m.set i l[j]) w2 ((hf.trans hf1.w).trans hf2) ho' (by simpa using hml) (by omega) ?_ ?_
      · rw [hts, hpj, ← ht, List.take_succ_eq_append_getElem (by simp; omega), List.take_set_of_le (Nat.le_refl i)]
        simp
      · rw [List.drop_set_of_lt (by omega)]
        exact hdr1
theorem DeleteFunc_c {v f : Value} {l : List Int} {p : Int → Bool} (hv : OwnS w v 3 1 (intC l))
    (hp : ∀ w' n (K' : VK), Fr (blkS v) w w' → n ∈ l → (∀ w'', Fr [] w' w'' → K' (.bool (p n)) w'') → vcCall Try.prog f [.int .i64 n] w' K')
    (h : ∀ v' w', Fr (blkS v) w w' → OwnS w' v' 3 1 (intC (l.filter fun n => !p n)) → v'.ownBlock = v.ownBlock → K v' w') : C.call Try.prog 79 #[v, f] w K := by
  refine F79.sh (F99.sh (C.len_rd hv.rd ?_))
  have hle := hv.rd.le
  rw [intC_len] at hle
  rw [intC_len]
  refine IndexFunc_loop hv.rd (fun w' n K' hf => hp w' n K' hf.w) (fun w' hf hno => ?_) (fun i w' hf hi hpi hno => ?_) l.length 0 w (by omega) (Fr.refl _ _) (by omega)
  · simp only [C.ite_true, C.ite_false, C.pick_true, C.pick_false, C.not_bool, C.field_ptr, C.nilCheck_ptr, C.add_mk, C.sub_mk, C.mul_mk, C.eql_mk, C.neq_mk, C.lss_mk, C.leq_mk, C.gtr_mk, C.geq_mk, C.conv_mk, C.len_mk, C.ext_0, C.ext_1, C.ext3_0, C.ext3_1, C.ext3_2, C.guarded_yes, C.guarded_tf, C.guarded_ft, C.guarded_undef, Bool.not_true, Bool.not_false, Nat.zero_add, eq_self, decide_true, decide_false]
    refine h v w' hf.w ?_ rfl
    have : l.filter (fun n => !p n) = l := List.filter_eq_self.2 fun n hn => by simp [hno n hn]
    rw [this]
    exact hv.keep hf (by simp)
  · have e : ¬ ((i : Int) = -1) := by omega
    simp only [C.ite_true, C.ite_false, C.pick_true, C.pick_false, C.not_bool, C.field_ptr, C.nilCheck_ptr, C.add_mk, C.sub_mk, C.mul_mk, C.eql_mk, C.neq_mk, C.lss_mk, C.leq_mk, C.gtr_mk, C.geq_mk, C.conv_mk, C.len_mk, C.ext_0, C.ext_1, C.ext3_0, C.ext3_1, C.ext3_2, C.guarded_yes, C.guarded_tf, C.guarded_ft, C.guarded_undef, Bool.not_true, Bool.not_false, Nat.zero_add, eq_self, decide_true, decide_false, e]
    refine F79.k4.to ?_
    simp only [C.ite_true, C.ite_false, C.pick_true, C.pick_false, C.not_bool, C.field_ptr, C.nilCheck_ptr, C.add_mk, C.sub_mk, C.mul_mk, C.eql_mk, C.neq_mk, C.lss_mk, C.leq_mk, C.gtr_mk, C.geq_mk, C.conv_mk, C.len_mk, C.ext_0, C.ext_1, C.ext3_0, C.ext3_1, C.ext3_2, C.guarded_yes, C.guarded_tf, C.guarded_ft, C.guarded_undef, Bool.not_true, Bool.not_false, Nat.zero_add, eq_self, decide_true, decide_false]
    rw [wrap64_id (n := (i : Int) + 1) (by omega), show (i : Int) + 1 = ((i + 1 : Nat) : Int) by omega]
    refine DeleteFunc_loop hp h (l.length - (i + 1)) (i + 1) i l w' (by omega) hf.w (hv.keep hf (by simp)) rfl (by omega) ?_ rfl
    rw [take_filter_succ hi, hpi]
    have : (l.take i).filter (fun n => !p n) = l.take i := List.filter_eq_self.2 fun n hn => by
      obtain ⟨k, hk, rfl⟩ := List.getElem_of_mem hn
      rw [List.getElem_take]
      rw [List.length_take] at hk
      simp [hno k (by omega) (by omega)]
    rw [this]
    simp
/-- What is reversed so far. -/
def Rev (l m : List Int) (i : Nat) : Prop := m.length = l.length ∧ ∀ k (h : k < m.length) (h' : k < l.length) (h'' : l.length - 1 - k < l.length), m[k] = if k < i ∨ l.length - 1 - k < i then l[l.length - 1 - k] else l[k]
theorem Reverse_loop {W0 : World} {v : Value} {l : List Int} (h : ∀ w', Fr (blkS v) W0 w' → OwnS w' v 3 1 (intC l.reverse) → K (.tuple #[]) w') :
    ∀ (d i : Nat) (m : List Int) (w : World), l.length ≤ i + d → i ≤ l.length → Fr (blkS v) W0 w → OwnS w v 3 1 (intC m) → Rev l m i → F74.l1 K v (.int .i64 (i : Int)) (.int .i64 ((l.length : Int) - 1 - (i : Int))) w := by
  intro d
  have fin : ∀ (i : Nat) (m : List Int) (w : World), l.length ≤ 2 * i + 1 → Fr (blkS v) W0 w → OwnS w v 3 1 (intC m) → Rev l m i → F74.l1 K v (.int .i64 (i : Int)) (.int .i64 ((l.length : Int) - 1 - (i : Int))) w := by
    intro i m w hi hf hm hr
    refine F74.l1.to ?_
    simp only [C.ite_true, C.ite_false, C.pick_true, C.pick_false, C.not_bool, C.field_ptr, C.nilCheck_ptr, C.add_mk, C.sub_mk, C.mul_mk, C.eql_mk, C.neq_mk, C.lss_mk, C.leq_mk, C.gtr_mk, C.geq_mk, C.conv_mk, C.len_mk, C.ext_0, C.ext_1, C.ext3_0, C.ext3_1, C.ext3_2, C.guarded_yes, C.guarded_tf, C.guarded_ft, C.guarded_undef, Bool.not_true, Bool.not_false, Nat.zero_add, eq_self, decide_true, decide_false, show ¬ ((i : Int) < (l.length : Int) - 1 - (i : Int)) by omega]
    refine h w hf ?_
    have : m = l.reverse := by
      refine list_eq_of_get (by simpa using hr.1) fun k h1 h2 => ?_
      have hl := hr.1
      rw [hr.2 k h1 (by omega) (by omega), List.getElem_reverse]
      split
      · rfl
      · congr 1; omega
    rw [← this]
    exact hm
  induction d with
  | zero =>
    intro i m w hd hi hf hm hr
    exact fin i m w (by omega) hf hm hr
  | succ d ih =>
    intro i m w hd hi hf hm hr
    rcases Nat.lt_or_ge (2 * i + 1) l.length with hlt | hge
    · have hle := hm.rd.le
      rw [intC_len] at hle
      have hl := hr.1
      refine F74.l1.to ?_
      simp only [C.ite_true, C.ite_false, C.pick_true, C.pick_false, C.not_bool, C.field_ptr, C.nilCheck_ptr, C.add_mk, C.sub_mk, C.mul_mk, C.eql_mk, C.neq_mk, C.lss_mk, C.leq_mk, C.gtr_mk, C.geq_mk, C.conv_mk, C.len_mk, C.ext_0, C.ext_1, C.ext3_0, C.ext3_1, C.ext3_2, C.guarded_yes, C.guarded_tf, C.guarded_ft, C.guarded_undef, Bool.not_true, Bool.not_false, Nat.zero_add, eq_self, decide_true, decide_false, show ((i : Int) < (l.length : Int) - 1 - (i : Int)) by omega]
      have ej : (l.length : Int) - 1 - (i : Int) = ((l.length - 1 - i : Nat) : Int) := by omega
      rw [ej]
      generalize hj : l.length - 1 - i = j at *
      have mi : m[i]'(by omega) = l[i]'(by omega) := by rw [hr.2 i (by omega) (by omega) (by omega), if_neg (by omega)]
      have mj : m[j]'(by omega) = l[j]'(by omega) := by rw [hr.2 j (by omega) (by omega) (by omega), if_neg (by omega)]
      have last : ∀ w', Fr (blkS v) W0 w' → OwnS w' v 3 1 (intC ((m.set i (m[j]'(by omega))).set j (m[i]'(by omega)))) → F74.k2 K v (.int .i64 (i : Int)) (.int .i64 (j : Int)) w' := by
        intro w' hf' hm'
        refine F74.k2.to ?_
        simp only [C.ite_true, C.ite_false, C.pick_true, C.pick_false, C.not_bool, C.field_ptr, C.nilCheck_ptr, C.add_mk, C.sub_mk, C.mul_mk, C.eql_mk, C.neq_mk, C.lss_mk, C.leq_mk, C.gtr_mk, C.geq_mk, C.conv_mk, C.len_mk, C.ext_0, C.ext_1, C.ext3_0, C.ext3_1, C.ext3_2, C.guarded_yes, C.guarded_tf, C.guarded_ft, C.guarded_undef, Bool.not_true, Bool.not_false, Nat.zero_add, eq_self, decide_true, decide_false]
        rw [wrap64_id (n := (i : Int) + 1) (by omega), wrap64_id (n := (j : Int) - 1) (by omega), show (i : Int) + 1 = ((i + 1 : Nat) : Int) by omega, show (j : Int) - 1 = (l.length : Int) - 1 - ((i + 1 : Nat) : Int) by omega]
        refine ih (i + 1) _ w' (by omega) (by omega) hf' hm' ⟨by simpa using hl, fun k h1 h2 h3 => ?_⟩
        simp only [List.length_set] at h1
        rw [List.getElem_set, List.getElem_set]
        by_cases hkj : j = k
        · subst hkj
          rw [if_pos rfl, if_pos (by omega), mi]
          congr 1; omega
        · rw [if_neg hkj]
          by_cases hki : i = k
          · subst hki
            rw [if_pos rfl, if_pos (by omega), mj]
            congr 1; omega
          · rw [if_neg hki, hr.2 k h1 h2 h3]
            by_cases hc : k < i ∨ l.length - 1 - k < i
            · rw [if_pos hc, if_pos (by omega)]
            · rw [if_neg hc, if_neg (by omega)]
      have fin2 : ∀ w', Fr (blkS v) W0 w' → OwnS w' v 3 1 (intC m) → C.idx 1 v (.int .i64 (i : Int)) w' fun x26 w5 => C.store 1 x26 (.int .i64 (m[j]'(by omega))) w5 fun w6 => C.idx 1 v (.int .i64 (j : Int)) w6 fun x27 w7 => C.store 1 x27 (.int .i64 (m[i]'(by omega))) w7 fun w8 => F74.k2 K v (.int .i64 (i : Int)) (.int .i64 (j : Int)) w8 := by
        intro w' hf' hm'
        refine C.storeAt_own hm' (by omega) (by rw [intC_len]; omega) rfl (by intro u hu; simp [Value.cells] at hu; subst hu; rfl) fun w6 ho6 hf6 _ => ?_
        have ho6' : OwnS w6 v 3 1 (intC (m.set i (m[j]'(by omega)))) := by rw [← intC_set]; exact ho6
        exact C.storeAt_own ho6' (by omega) (by rw [intC_len]; simp; omega) rfl (by intro u hu; simp [Value.cells] at hu; subst hu; rfl) fun w8 ho8 hf8 _ => last w8 ((hf'.trans hf6).trans hf8) (by rw [← intC_set]; exact ho8)
      refine F74.k3.to (C.draw_of (fun _ => True) fun w1 hf1 he1 => ⟨trivial, ?_⟩)
      have hm1 := hm.keep hf1 (by simp)
      refine C.idx_int hm1.rd (by omega) fun g o cs e fz hg hc => C.idx_int hm1.rd (by omega) fun g' o' cs' e' fz' hg' hc' => ⟨?_, ?_, trivial⟩
      · refine C.load1_of hg hc ⟨trivial, C.load1_of hg' hc' ⟨trivial, ?_⟩, trivial⟩
        simpa only [and_true, true_and] using fin2 w1 (hf.trans hf1.w) hm1
      · refine C.load1_of hg' hc' ⟨trivial, C.load1_of hg hc ⟨trivial, ?_⟩, trivial⟩
        simpa only [and_true, true_and] using fin2 w1 (hf.trans hf1.w) hm1
    · exact fin i m w (by omega) hf hm hr
theorem Reverse_c {v : Value} {l : List Int} (hv : OwnS w v 3 1 (intC l)) (h : ∀ w', Fr (blkS v) w w' → OwnS w' v 3 1 (intC l.reverse) → K (.tuple #[]) w') : C.call Try.prog 74 #[v] w K := by
  have hle := hv.rd.le
  rw [intC_len] at hle
  refine F74.sh (C.len_rd hv.rd ?_)
  simp only [C.ite_true, C.ite_false, C.pick_true, C.pick_false, C.not_bool, C.field_ptr, C.nilCheck_ptr, C.add_mk, C.sub_mk, C.mul_mk, C.eql_mk, C.neq_mk, C.lss_mk, C.leq_mk, C.gtr_mk, C.geq_mk, C.conv_mk, C.len_mk, C.ext_0, C.ext_1, C.ext3_0, C.ext3_1, C.ext3_2, C.guarded_yes, C.guarded_tf, C.guarded_ft, C.guarded_undef, Bool.not_true, Bool.not_false, Nat.zero_add, eq_self, decide_true, decide_false, intC_len]
  rw [wrap64_id (n := (l.length : Int) - 1) (by omega)]
  have := Reverse_loop h l.length 0 l w (by omega) (by omega) (Fr.refl _ _) hv ⟨rfl, fun k h1 h2 h3 => by rw [if_neg (by omega)]⟩
  simpa using this
end
end Go.Proofs.YtfhgjncbhjjbfaaV
