/- The law's own functions over ledgers: what each comes to. -/
import Derived.Test.YtckageghbhkklaaLed3
namespace Go.Proofs.YtckageghbhkklaaV
open Go Go.Proofs Go.RowKit
set_option linter.unusedVariables false
set_option linter.unusedSimpArgs false
section
variable {K : VK} {w : World}
theorem build109 (a b : Int) (A : Option Addr) (n c : Nat) : (Instr.build 109 #[(0, .int .i64 a), (1, .int .i64 b), (2, .slice A n c)]).run Try.prog w = .ok (.agg #[.int .i64 a, .int .i64 b, .slice A n c]) w := by kernel_rfl
theorem LedNew_c (T : Nat) (hT : T ≤ 8) (win most : Int) (hw : 1 ≤ win ∧ win ≤ 64) (hm : 0 ≤ most ∧ most ≤ win) (h : ∀ g bb w', Fr [] w w' → w.heap.size ≤ g → w.heap.size ≤ bb → Led w' g bb T win most (fun _ => .slice none 0 0) (fun _ => []) → K (.pointer (some ⟨g, 0, none⟩)) w') :
    C.call Try.prog 51 #[.int .i64 (T : Int), .int .i64 win, .int .i64 most] w K := by
  refine F51.sh (Clamp_c _ _ _ ?_)
  rw [show clamp win 1 64 = win by unfold clamp; omega]
  refine Clamp_c _ _ _ ?_
  rw [show clamp most 0 win = most by unfold clamp; omega]
  refine Clamp_c _ _ _ ?_
  rw [show clamp (T : Int) 0 8 = T by unfold clamp; omega]
  refine C.make_of (e := 114) (sz := 3) (bytes := 40) (z := .agg #[.slice none 0 0, .int .i64 0, .int .i64 0]) T Try.underlying107 (by kernel_rfl) rfl (by decide) (by intro u hu; simp only [Value.cells, List.mem_cons, List.not_mem_nil, or_false] at hu; rcases hu with rfl | rfl | rfl <;> rfl) (by omega) (by omega) fun bb w1 hn1 ho1 => ?_
  refine C.run_of (build109 _ _ _ _ _) (C.new_of fun g w2 hn2 => ?_)
  have lb := lt_of_at hn1.at_
  refine h g bb w2 (hn1.fr.trans hn2.fr) (by have := hn2.is; have := hn1.fr.size; omega) (by have := hn1.is; omega) ⟨hn2.at_, ⟨_, hn2.fr.at_ hn1.at_ (by simp), ?_, fun t ht => ?_⟩, fun t _ => OwnS.nil _ _ _, by have := hn2.is; omega, by simp [blkS, Value.ownBlock], by simp [blkS, Value.ownBlock]⟩
  · simp [size_madeCells]
  · have e : ∀ k, k < 3 → (madeCells #[.slice none 0 0, .int .i64 0, .int .i64 0] (T * 3))[t * 3 + k]? = (#[.slice none 0 0, .int .i64 0, .int .i64 0] : Array Value)[k]? := fun k hk => by
      unfold madeCells
      rw [Array.getElem?_map, Array.getElem?_range, if_pos (by omega)]
      simp only [Option.map_some]
      have : (t * 3 + k) % (#[.slice none 0 0, .int .i64 0, .int .i64 0] : Array Value).size = k := by
        show (t * 3 + k) % 3 = k
        omega
      rw [this]
      match k, hk with
      | 0, _ => rfl
      | 1, _ => rfl
      | 2, _ => rfl
    exact ⟨e 0 (by omega), ⟨0, e 1 (by omega)⟩, ⟨0, e 2 (by omega)⟩⟩
structure LOp where
  k : Int
  t : Int
  n : Int
def lopC (l : List LOp) : List (List Value) := l.map fun x => [.int .i64 x.k, .int .i64 x.t, .int .i64 x.n]
theorem lopC_len (l : List LOp) : (lopC l).length = l.length := by simp [lopC]
theorem lopC_get {l : List LOp} {j : Nat} (h : j < l.length) : (lopC l)[j]? = some [.int .i64 l[j].k, .int .i64 l[j].t, .int .i64 l[j].n] := by simp [lopC, h]
theorem ok3 {k1 k2 k3 : IntKind} {x : List Value} (h : okCells [.int k1, .int k2, .int k3] x) : ∃ a b c, x = [.int k1 a, .int k2 b, .int k3 c] := by
  match x with
  | [] => exact h.elim
  | [_] => exact h.2.elim
  | [_, _] => exact h.2.2.elim
  | _ :: _ :: _ :: _ :: _ => exact h.2.2.2.elim
  | [a, b, c] =>
    obtain ⟨⟨n, ha, _⟩, ⟨m, hb, _⟩, ⟨o, hc, _⟩, _⟩ := h
    exact ⟨n, m, o, by rw [ha, hb, hc]⟩
theorem lopC_of : ∀ (xs : List (List Value)), (∀ x ∈ xs, okCells [.int .i64, .int .i64, .int .i64] x) → ∃ l, xs = lopC l
  | [], _ => ⟨[], rfl⟩
  | x :: xs, h => by
    obtain ⟨l, hl⟩ := lopC_of xs fun y hy => h y (by simp [hy])
    obtain ⟨a, b, c, hx⟩ := ok3 (h x (by simp))
    exact ⟨⟨a, b, c⟩ :: l, by rw [hl, hx]; rfl⟩
theorem few_l {W : World} {v : Value} {l : List LOp} (hr : RdS W v 3 (lopC l)) (h : ∀ v', RdS W v' 3 (lopC (l.take 60)) → K v' w) : C.call Try.prog 52 #[v] w K := by
  refine F52.sh (C.len_rd hr ?_)
  simp only [C.ite_true, C.ite_false, C.pick_true, C.pick_false, C.not_bool, C.field_ptr, C.nilCheck_ptr, C.add_mk, C.sub_mk, C.mul_mk, C.eql_mk, C.neq_mk, C.lss_mk, C.leq_mk, C.gtr_mk, C.geq_mk, C.conv_mk, C.len_mk, C.ext_0, C.ext_1, C.ext3_0, C.ext3_1, C.ext3_2, C.guarded_yes, C.guarded_tf, C.guarded_ft, C.guarded_undef, Bool.not_true, Bool.not_false, Nat.zero_add, eq_self, decide_true, decide_false, C.ite_bool, decide_eq_true_eq, decide_eq_false_iff_not, lopC_len]
  refine ⟨fun h1 => ?_, fun h1 => ?_⟩
  · obtain ⟨A, c, rfl, hc⟩ := hr.len_c (P := Try.prog) (K := K)
    rw [lopC_len] at hc
    refine C.run_of (sliceTo_run (e := 88) (sz := 3) A _ c .i64 60 Try.underlying82 (by kernel_rfl) (by omega) (by omega)) (h _ ?_)
    have := hr.take 60 (by rw [lopC_len]; omega)
    have e : lopC (l.take 60) = (lopC l).take 60 := by simp [lopC, List.map_take]
    rw [e]
    exact this
  · refine F52.k3.to (h _ ?_)
    rw [List.take_of_length_le (by omega)]
    exact hr
/-- Letters behind others: a new list. -/
theorem put_loop {W0 : World} {n : Nat} {b : Bool} {H : List Bool} (hn : n ≤ 64) (hH : H.length ≤ 100000) :
    ∀ (d j : Nat) (w : World) (v : Value), n = j + d → Fr [] W0 w → NewS W0 v → OwnS w v 4 1 (boolC (H ++ List.replicate j b)) →
      (∀ v' w', Fr [] W0 w' → NewS W0 v' → OwnS w' v' 4 1 (boolC (H ++ List.replicate n b)) → K v' w') → F54.l4 K (.int .i64 (n : Int)) (.bool b) v (.int .i64 (j : Int)) w := by
  intro d
  induction d with
  | zero =>
    intro j w v hd hf hnw ho h
    refine F54.l4.to ?_
    simp only [C.ite_true, C.ite_false, C.pick_true, C.pick_false, C.not_bool, C.field_ptr, C.nilCheck_ptr, C.add_mk, C.sub_mk, C.mul_mk, C.eql_mk, C.neq_mk, C.lss_mk, C.leq_mk, C.gtr_mk, C.geq_mk, C.conv_mk, C.len_mk, C.ext_0, C.ext_1, C.ext3_0, C.ext3_1, C.ext3_2, C.guarded_yes, C.guarded_tf, C.guarded_ft, C.guarded_undef, Bool.not_true, Bool.not_false, Nat.zero_add, eq_self, decide_true, decide_false, show ¬ ((j : Int) < (n : Int)) by omega]
    obtain rfl : n = j := by omega
    exact F54.k7.to (h v w hf hnw ho)
  | succ d ih =>
    intro j w v hd hf hnw ho h
    refine F54.l4.to ?_
    simp only [C.ite_true, C.ite_false, C.pick_true, C.pick_false, C.not_bool, C.field_ptr, C.nilCheck_ptr, C.add_mk, C.sub_mk, C.mul_mk, C.eql_mk, C.neq_mk, C.lss_mk, C.leq_mk, C.gtr_mk, C.geq_mk, C.conv_mk, C.len_mk, C.ext_0, C.ext_1, C.ext3_0, C.ext3_1, C.ext3_2, C.guarded_yes, C.guarded_tf, C.guarded_ft, C.guarded_undef, Bool.not_true, Bool.not_false, Nat.zero_add, eq_self, decide_true, decide_false, show ((j : Int) < (n : Int)) by omega]
    refine F54.k6.to (C.run_of (bs90 b) ?_)
    have hw := New.mk' w (.cells #[.bool b] 4)
    refine C.append_of (xs := boolC (H ++ List.replicate j b)) (ys := boolC [b]) (e := 4) (sz := 1) (bytes := 1) (z := .bool false) Try.underlying90 (by kernel_rfl) rfl (by decide) (ho.keep hw.fr (by simp)) (RdS.of_block hw.at_ rfl (by simp) (by simp) (by simp [boolC]) (by simp [boolC])) boolC_one
      (by rw [boolC_len, boolC_len]; simp; omega) (by rw [boolC_len, boolC_len]; simp; omega) fun v' w' ho' hf' hb _ => ?_
    refine F54.k5.to ?_
    simp only [C.ite_true, C.ite_false, C.pick_true, C.pick_false, C.not_bool, C.field_ptr, C.nilCheck_ptr, C.add_mk, C.sub_mk, C.mul_mk, C.eql_mk, C.neq_mk, C.lss_mk, C.leq_mk, C.gtr_mk, C.geq_mk, C.conv_mk, C.len_mk, C.ext_0, C.ext_1, C.ext3_0, C.ext3_1, C.ext3_2, C.guarded_yes, C.guarded_tf, C.guarded_ft, C.guarded_undef, Bool.not_true, Bool.not_false, Nat.zero_add, eq_self, decide_true, decide_false]
    rw [wrap64_id (n := (j : Int) + 1) (by omega), show (j : Int) + 1 = ((j + 1 : Nat) : Int) by omega]
    refine ih (j + 1) w' v' (by omega) ((hf.trans hw.fr).then hf' fun x hx => .inr (hnw x (mem_blkS.1 hx))) (fun g hg => ?_) ?_ h
    · rcases hb with hb | ⟨g', hb, hle⟩
      · rw [hb] at hg
        exact hnw g hg
      · rw [hg] at hb
        simp only [Option.some.injEq] at hb
        have := hf.size
        have := hw.fr.size
        omega
    · rw [← boolC_app, List.append_assoc] at ho'
      rw [List.replicate_succ']
      exact ho'
theorem put54_c {v : Value} {n : Nat} {b : Bool} {H : List Bool} (hn : n ≤ 64) (hH : H.length ≤ 100000) (hv : RdS w v 1 (boolC H)) (h : ∀ v' w', Fr [] w w' → NewS w v' → OwnS w' v' 4 1 (boolC (H ++ List.replicate n b)) → K v' w') :
    C.call Try.prog 54 #[v, .int .i64 (n : Int), .bool b] w K := by
  refine F54.sh ?_
  refine C.append_of (xs := []) (ys := boolC H) (e := 4) (sz := 1) (bytes := 1) (z := .bool false) Try.underlying90 (by kernel_rfl) rfl (by decide) (OwnS.nil _ _ _) hv boolC_one (by rw [boolC_len]; simp; omega) (by rw [boolC_len]; simp; omega) fun v' w' ho hf hb _ => ?_
  have hf' : Fr [] w w' := hf.mono (by simp [blkS, Value.ownBlock])
  have := put_loop (K := K) (W0 := w) (n := n) (b := b) (H := H) hn hH n 0 w' v' (by omega) hf' (fun g hg => ?_) (by simpa using ho) fun v2 w2 hf2 hn2 ho2 => h v2 w2 hf2 hn2 ho2
  · exact this
  · rcases hb with hb | ⟨g', hb, hle⟩
    · rw [hb] at hg
      simp [Value.ownBlock] at hg
    · rw [hg] at hb
      simp only [Option.some.injEq] at hb
      omega
theorem count56_loop {v : Value} {l : List Bool} (hv : RdS w v 1 (boolC l)) (m : Nat) :
    ∀ (d j : Nat), l.length = j + d → m ≤ j → K (.int .i64 (cnt (l.drop m) : Int)) w → F56.l3 K v (.int .i64 (cnt ((l.drop m).take (j - m)) : Int)) (.int .i64 (j : Int)) w := by
  intro d
  induction d with
  | zero =>
    intro j hd hm h
    refine F56.l3.to (C.len_rd hv ?_)
    simp only [C.ite_true, C.ite_false, C.pick_true, C.pick_false, C.not_bool, C.field_ptr, C.nilCheck_ptr, C.add_mk, C.sub_mk, C.mul_mk, C.eql_mk, C.neq_mk, C.lss_mk, C.leq_mk, C.gtr_mk, C.geq_mk, C.conv_mk, C.len_mk, C.ext_0, C.ext_1, C.ext3_0, C.ext3_1, C.ext3_2, C.guarded_yes, C.guarded_tf, C.guarded_ft, C.guarded_undef, Bool.not_true, Bool.not_false, Nat.zero_add, eq_self, decide_true, decide_false, boolC_len, show ¬ ((j : Int) < (l.length : Int)) by omega]
    rw [List.take_of_length_le (by rw [List.length_drop]; omega)]
    exact F56.k7.to h
  | succ d ih =>
    intro j hd hm h
    have jl : j < l.length := by omega
    have hle := hv.le
    rw [boolC_len] at hle
    have hc := cnt_step (l := l.drop m) (j := j - m) (by rw [List.length_drop]; omega)
    have e1 : (l.drop m)[j - m]'(by rw [List.length_drop]; omega) = l[j] := by
      rw [List.getElem_drop]
      congr 1
      omega
    rw [e1, show j - m + 1 = j + 1 - m by omega] at hc
    have hc2 := cnt_le ((l.drop m).take (j - m))
    rw [List.length_take, List.length_drop] at hc2
    refine F56.l3.to (C.len_rd hv ?_)
    simp only [C.ite_true, C.ite_false, C.pick_true, C.pick_false, C.not_bool, C.field_ptr, C.nilCheck_ptr, C.add_mk, C.sub_mk, C.mul_mk, C.eql_mk, C.neq_mk, C.lss_mk, C.leq_mk, C.gtr_mk, C.geq_mk, C.conv_mk, C.len_mk, C.ext_0, C.ext_1, C.ext3_0, C.ext3_1, C.ext3_2, C.guarded_yes, C.guarded_tf, C.guarded_ft, C.guarded_undef, Bool.not_true, Bool.not_false, Nat.zero_add, eq_self, decide_true, decide_false, boolC_len, show ((j : Int) < (l.length : Int)) by omega]
    refine F56.k5.to (C.idx_rd hv (by omega) (by rw [Int.toNat_natCast]; exact boolC_get jl) fun g o cs e fz hg hl' hcc => C.load1_of (v := .bool l[j]) hg (by simpa using hcc 0 (by omega)) ?_)
    have next : F56.k4 K v (.int .i64 (cnt ((l.drop m).take (j + 1 - m)) : Int)) (.int .i64 (j : Int)) w := by
      refine F56.k4.to ?_
      simp only [C.ite_true, C.ite_false, C.pick_true, C.pick_false, C.not_bool, C.field_ptr, C.nilCheck_ptr, C.add_mk, C.sub_mk, C.mul_mk, C.eql_mk, C.neq_mk, C.lss_mk, C.leq_mk, C.gtr_mk, C.geq_mk, C.conv_mk, C.len_mk, C.ext_0, C.ext_1, C.ext3_0, C.ext3_1, C.ext3_2, C.guarded_yes, C.guarded_tf, C.guarded_ft, C.guarded_undef, Bool.not_true, Bool.not_false, Nat.zero_add, eq_self, decide_true, decide_false]
      rw [wrap64_id (n := (j : Int) + 1) (by omega), show (j : Int) + 1 = ((j + 1 : Nat) : Int) by omega]
      exact ih (j + 1) (by omega) (by omega) h
    cases hb : l[j] with
    | true =>
      simp only [C.ite_true, C.ite_false, C.pick_true, C.pick_false, C.not_bool, C.field_ptr, C.nilCheck_ptr, C.add_mk, C.sub_mk, C.mul_mk, C.eql_mk, C.neq_mk, C.lss_mk, C.leq_mk, C.gtr_mk, C.geq_mk, C.conv_mk, C.len_mk, C.ext_0, C.ext_1, C.ext3_0, C.ext3_1, C.ext3_2, C.guarded_yes, C.guarded_tf, C.guarded_ft, C.guarded_undef, Bool.not_true, Bool.not_false, Nat.zero_add, eq_self, decide_true, decide_false]
      rw [hb, if_pos rfl] at hc
      rw [wrap64_id (by omega), show (cnt ((l.drop m).take (j - m)) : Int) + 1 = ((cnt ((l.drop m).take (j + 1 - m)) : Nat) : Int) by omega]
      exact next
    | false =>
      simp only [C.ite_true, C.ite_false, C.pick_true, C.pick_false, C.not_bool, C.field_ptr, C.nilCheck_ptr, C.add_mk, C.sub_mk, C.mul_mk, C.eql_mk, C.neq_mk, C.lss_mk, C.leq_mk, C.gtr_mk, C.geq_mk, C.conv_mk, C.len_mk, C.ext_0, C.ext_1, C.ext3_0, C.ext3_1, C.ext3_2, C.guarded_yes, C.guarded_tf, C.guarded_ft, C.guarded_undef, Bool.not_true, Bool.not_false, Nat.zero_add, eq_self, decide_true, decide_false]
      rw [hb, if_neg (by simp)] at hc
      rw [show cnt ((l.drop m).take (j - m)) = cnt ((l.drop m).take (j + 1 - m)) by omega]
      exact next
theorem count56_c {v : Value} {l : List Bool} (hv : RdS w v 1 (boolC l)) (win : Int) (hw : 0 ≤ win ∧ win ≤ 64) (h : K (.int .i64 (cnt (lastN win.toNat l) : Int)) w) : C.call Try.prog 56 #[v, .int .i64 win] w K := by
  have hle := hv.le
  rw [boolC_len] at hle
  refine F56.sh (C.len_rd hv ?_)
  simp only [C.ite_true, C.ite_false, C.pick_true, C.pick_false, C.not_bool, C.field_ptr, C.nilCheck_ptr, C.add_mk, C.sub_mk, C.mul_mk, C.eql_mk, C.neq_mk, C.lss_mk, C.leq_mk, C.gtr_mk, C.geq_mk, C.conv_mk, C.len_mk, C.ext_0, C.ext_1, C.ext3_0, C.ext3_1, C.ext3_2, C.guarded_yes, C.guarded_tf, C.guarded_ft, C.guarded_undef, Bool.not_true, Bool.not_false, Nat.zero_add, eq_self, decide_true, decide_false, boolC_len]
  rw [wrap64_id (by omega)]
  refine C.run_of (max2_run _ _ _ _ _) ?_
  rw [show max ((l.length : Int) - win) 0 = ((l.length - win.toNat : Nat) : Int) by omega]
  have := count56_loop (K := K) hv (l.length - win.toNat) (l.length - (l.length - win.toNat)) (l.length - win.toNat) (by omega) (Nat.le_refl _) h
  rw [Nat.sub_self, List.take_zero] at this
  exact this
theorem Count_c {g bb T t : Nat} {win most : Int} {S : Nat → Value} {L : Nat → List Bool} (hL : Led w g bb T win most S L) (ht : t < T) (h : ∀ w', Fr [] w w' → K (.int .i64 (cnt (L t) : Int)) w') : C.call Try.prog 71 #[.pointer (some ⟨g, 0, none⟩), .int .i64 (t : Int)] w K := by
  refine F71.sh (of_c hL ht ⟨_, eq_ptr_nil _ _ _ Try.underlying110, ?_⟩)
  simp only [C.ite_true, C.ite_false, C.pick_true, C.pick_false, C.not_bool, C.field_ptr, C.nilCheck_ptr, C.add_mk, C.sub_mk, C.mul_mk, C.eql_mk, C.neq_mk, C.lss_mk, C.leq_mk, C.gtr_mk, C.geq_mk, C.conv_mk, C.len_mk, C.ext_0, C.ext_1, C.ext3_0, C.ext3_1, C.ext3_2, C.guarded_yes, C.guarded_tf, C.guarded_ft, C.guarded_undef, Bool.not_true, Bool.not_false, Nat.zero_add, eq_self, decide_true, decide_false]
  have := bookcount_c (K := K) hL ht 0 (by omega) (by simpa using h)
  exact F71.k4.to this
theorem Last_c {g bb T t : Nat} {win most : Int} {S : Nat → Value} {L : Nat → List Bool} (hL : Led w g bb T win most S L) (ht : t < T) (hl : (L t).length ≤ 64) (h : ∀ v w', Fr [] w w' → OwnS w' v 4 1 (boolC (L t)) → K v w') : C.call Try.prog 72 #[.pointer (some ⟨g, 0, none⟩), .int .i64 (t : Int)] w K := by
  refine F72.sh (of_c hL ht ⟨_, eq_ptr_nil _ _ _ Try.underlying110, ?_⟩)
  simp only [C.ite_true, C.ite_false, C.pick_true, C.pick_false, C.not_bool, C.field_ptr, C.nilCheck_ptr, C.add_mk, C.sub_mk, C.mul_mk, C.eql_mk, C.neq_mk, C.lss_mk, C.leq_mk, C.gtr_mk, C.geq_mk, C.conv_mk, C.len_mk, C.ext_0, C.ext_1, C.ext3_0, C.ext3_1, C.ext3_2, C.guarded_yes, C.guarded_tf, C.guarded_ft, C.guarded_undef, Bool.not_true, Bool.not_false, Nat.zero_add, eq_self, decide_true, decide_false]
  obtain ⟨cs, hbb, hc⟩ := hL.bk
  refine F72.k4.to ?_
  simp only [C.ite_true, C.ite_false, C.pick_true, C.pick_false, C.not_bool, C.field_ptr, C.nilCheck_ptr, C.add_mk, C.sub_mk, C.mul_mk, C.eql_mk, C.neq_mk, C.lss_mk, C.leq_mk, C.gtr_mk, C.geq_mk, C.conv_mk, C.len_mk, C.ext_0, C.ext_1, C.ext3_0, C.ext3_1, C.ext3_2, C.guarded_yes, C.guarded_tf, C.guarded_ft, C.guarded_undef, Bool.not_true, Bool.not_false, Nat.zero_add, eq_self, decide_true, decide_false, Nat.add_zero]
  exact C.load1_of hbb (hc.2 t ht).1 (CloneB_c (hL.own t ht).rd (by omega) fun v' w' hf ho _ => h v' w' hf ho)
theorem alive_l (h : ∀ w', Fr [] w w' → K (.bool true) w') : C.call Try.prog 50 #[] w K := by
  refine F50.sh (LedNew_c 1 (by omega) 4 2 (by omega) (by omega) fun g bb w1 hf1 hg hb hL1 => ?_)
  have upds : ∀ (L : Nat → List Bool) (l : List Bool), (upd L 0 l) 0 = l := fun L l => upd_same _ _ _
  have step : ∀ {w0 w2 w3 : World} {S : Nat → Value} {s : Value}, Fr [] w w2 → (∀ x ∈ blkS (S 0), w.heap.size ≤ x) → LNx w2 w3 bb 0 S s → Fr [] w w3 ∧ ∀ x ∈ blkS (upd S 0 s 0), w.heap.size ≤ x := by
    intro w0 w2 w3 S s hf hs hx
    refine ⟨hf.then hx.fr fun x hx' => ?_, fun x hx' => ?_⟩
    · rcases List.mem_cons.1 hx' with rfl | hx'
      · exact .inr hb
      · exact .inr (hs x hx')
    · rw [upd_same] at hx'
      exact Nat.le_trans hf.size (hx.new x hx')
  refine Work_c (t := 0) hL1 (by omega) (by omega) (by omega) (by omega) (by simp) (fun h => absurd h (by decide)) fun _ s2 w2 hx2 hL2 => ?_
  obtain ⟨hf2, hs2⟩ := step (w0 := w) hf1 (by simp [blkS, Value.ownBlock]) hx2
  refine Run_yes (t := 0) hL2 (by omega) (by omega) (by omega) (by omega) (by omega) (by rw [upds]; decide) fun s3 w3 hx3 hL3 => ?_
  obtain ⟨hf3, hs3⟩ := step (w0 := w) hf2 hs2 hx3
  refine Work_c (t := 0) hL3 (by omega) (by omega) (by omega) (by omega) (by rw [upds]; decide) (fun _ w4 hf4 => ?_) fun h => absurd h (by rw [upds]; decide)
  have hL4 := hL3.keep0 hf4
  have hf4' := hf3.trans hf4
  refine Run_yes (t := 0) hL4 (by omega) (by omega) (by omega) (by omega) (by omega) (by rw [upds]; decide) fun s5 w5 hx5 hL5 => ?_
  obtain ⟨hf5, hs5⟩ := step (w0 := w) hf4' hs3 hx5
  refine Work_c (t := 0) hL5 (by omega) (by omega) (by omega) (by omega) (by rw [upds]; decide) (fun h => absurd h (by rw [upds]; decide)) fun _ s6 w6 hx6 hL6 => ?_
  obtain ⟨hf6, hs6⟩ := step (w0 := w) hf5 hs5 hx6
  try simp only [C.ite_true, C.ite_false, C.pick_true, C.pick_false, C.not_bool, C.field_ptr, C.nilCheck_ptr, C.add_mk, C.sub_mk, C.mul_mk, C.eql_mk, C.neq_mk, C.lss_mk, C.leq_mk, C.gtr_mk, C.geq_mk, C.conv_mk, C.len_mk, C.ext_0, C.ext_1, C.ext3_0, C.ext3_1, C.ext3_2, C.guarded_yes, C.guarded_tf, C.guarded_ft, C.guarded_undef, Bool.not_true, Bool.not_false, Nat.zero_add, eq_self, decide_true, decide_false]
  have key : ∀ {S6 : Nat → Value} (Lf : Nat → List Bool), Led w6 g bb 1 4 2 S6 Lf → cnt (Lf 0) = 2 → (Lf 0).length = 4 → admits 4 2 3 (Lf 0) = false → C.call Try.prog 71 #[.pointer (some ⟨g, 0, none⟩), .int .i64 0] w6 fun x34_17 w17 => C.int .eql x34_17 (.int .i64 2) w17 fun x36_19 w19 =>
      C.guarded true x36_19 (fun K => K (.pointer (some ⟨g, 0, none⟩)) w19) w19 fun x38_20 w20 =>
      C.guarded true x36_19 (fun K => C.call Try.prog 72 #[x38_20, (.int .i64 0)] w20 K) w20 fun x39_21 w21 =>
      C.guarded true x36_19 (fun K => C.len x39_21 w21 K) w21 fun x40_22 w22 =>
      C.guarded true x36_19 (fun K => C.int .eql x40_22 (.int .i64 4) w22 K) w22 fun x41_23 w23 =>
      C.pick (some x36_19) (some x41_23) (some (.bool false)) w23 fun x42_24 w24 =>
      C.guarded true x42_24 (fun K => K (.pointer (some ⟨g, 0, none⟩)) w24) w24 fun x44_25 w25 =>
      C.guarded true x42_24 (fun K => C.call Try.prog 73 #[x44_25, (.int .i64 0), (.int .i64 3)] w25 K) w25 fun x45_26 w26 =>
      C.guarded true x42_24 (fun K => C.not x45_26 w26 K) w26 fun x46_27 w27 =>
      C.pick (some x42_24) (some x46_27) (some (.bool false)) w27 fun x47_28 w28 =>
      K x47_28 w28 := by
    intro S6 Lf hL6 e2 e4 ea
    refine Count_c (t := 0) hL6 (by omega) fun w7 hf7 => ?_
    rw [e2]
    simp only [C.ite_true, C.ite_false, C.pick_true, C.pick_false, C.not_bool, C.field_ptr, C.nilCheck_ptr, C.add_mk, C.sub_mk, C.mul_mk, C.eql_mk, C.neq_mk, C.lss_mk, C.leq_mk, C.gtr_mk, C.geq_mk, C.conv_mk, C.len_mk, C.ext_0, C.ext_1, C.ext3_0, C.ext3_1, C.ext3_2, C.guarded_yes, C.guarded_tf, C.guarded_ft, C.guarded_undef, Bool.not_true, Bool.not_false, Nat.zero_add, eq_self, decide_true, decide_false, show (((2 : Nat) : Int) = 2) = True from by simp]
    have hL7 := hL6.keep0 hf7
    refine Last_c (t := 0) hL7 (by omega) (by omega) fun v w8 hf8 ho8 => C.len_rd ho8.rd ?_
    rw [boolC_len, e4]
    simp only [C.ite_true, C.ite_false, C.pick_true, C.pick_false, C.not_bool, C.field_ptr, C.nilCheck_ptr, C.add_mk, C.sub_mk, C.mul_mk, C.eql_mk, C.neq_mk, C.lss_mk, C.leq_mk, C.gtr_mk, C.geq_mk, C.conv_mk, C.len_mk, C.ext_0, C.ext_1, C.ext3_0, C.ext3_1, C.ext3_2, C.guarded_yes, C.guarded_tf, C.guarded_ft, C.guarded_undef, Bool.not_true, Bool.not_false, Nat.zero_add, eq_self, decide_true, decide_false, show (((4 : Nat) : Int) = 4) = True from by simp]
    refine Admit_c (t := 0) (hL7.keep0 hf8) (by omega) (by omega) (by omega) (by omega) (by omega) fun w9 hf9 => ?_
    rw [ea]
    simp only [C.ite_true, C.ite_false, C.pick_true, C.pick_false, C.not_bool, C.field_ptr, C.nilCheck_ptr, C.add_mk, C.sub_mk, C.mul_mk, C.eql_mk, C.neq_mk, C.lss_mk, C.leq_mk, C.gtr_mk, C.geq_mk, C.conv_mk, C.len_mk, C.ext_0, C.ext_1, C.ext3_0, C.ext3_1, C.ext3_2, C.guarded_yes, C.guarded_tf, C.guarded_ft, C.guarded_undef, Bool.not_true, Bool.not_false, Nat.zero_add, eq_self, decide_true, decide_false]
    exact h w9 (hf6.trans (hf7.trans (hf8.trans hf9)))
  exact key _ hL6 (by decide) (by decide) (by decide)
end
end Go.Proofs.YtckageghbhkklaaV
