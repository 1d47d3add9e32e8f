/- slices.Repeat of one element: what it comes to. -/
import Derived.Test.YtfhgjncbhjjbfaaGAud
import Derived.Test.YtfhgjncbhjjbfaaOwn3
import Derived.Test.YtfhgjncbhjjbfaaBits
namespace Go.Proofs.YtfhgjncbhjjbfaaV
open Go Go.Proofs Go.RowKit
set_option linter.unusedVariables false
set_option linter.unusedSimpArgs false
section
variable {K : VK} {w : World}
/-- 1 times a number. -/
theorem Mul_one (n : Int) (h0 : 0 ≤ n) (h1 : n < 4294967296) (h : K (.tuple #[.int .u64 0, .int .u64 n]) w) : C.call Try.prog 83 #[.int .u64 1, .int .u64 n] w K := by
  refine F83.sh ?_
  simp only [C.ite_true, C.ite_false, C.pick_true, C.pick_false, C.not_bool, C.field_ptr, C.nilCheck_ptr, C.add_mk, C.sub_mk, C.mul_mk, C.eql_mk, C.neq_mk, C.lss_mk, C.leq_mk, C.gtr_mk, C.geq_mk, C.conv_mk, C.len_mk, C.ext_0, C.ext_1, C.ext3_0, C.ext3_1, C.ext3_2, C.guarded_yes, C.guarded_tf, C.guarded_ft, C.guarded_undef, Bool.not_true, Bool.not_false, Nat.zero_add, eq_self, decide_true, decide_false]
  refine F83.k3.to (F108.sh ⟨_, and32_run _ _ 1 (by omega) (by omega), _, shr32_run _ _ 1, _, and32_run _ _ n h0 (by omega), _, shr32_run _ _ n, ?_⟩)
  have e1 : n % 4294967296 = n := by omega
  have e2 : n / 4294967296 = 0 := by omega
  simp only [C.ite_true, C.ite_false, C.pick_true, C.pick_false, C.not_bool, C.field_ptr, C.nilCheck_ptr, C.add_mk, C.sub_mk, C.mul_mk, C.eql_mk, C.neq_mk, C.lss_mk, C.leq_mk, C.gtr_mk, C.geq_mk, C.conv_mk, C.len_mk, C.ext_0, C.ext_1, C.ext3_0, C.ext3_1, C.ext3_2, C.guarded_yes, C.guarded_tf, C.guarded_ft, C.guarded_undef, Bool.not_true, Bool.not_false, Nat.zero_add, eq_self, decide_true, decide_false, e1, e2, show (1 : Int) % 4294967296 = 1 by decide, show (1 : Int) / 4294967296 = 0 by decide, Int.one_mul, Int.zero_mul, Int.mul_zero]
  rw [wrapu64_id (n := n) (by omega), wrapu64_id (n := 0) (by omega)]
  refine ⟨_, shr32_run _ _ n, ?_⟩
  simp only [C.ite_true, C.ite_false, C.pick_true, C.pick_false, C.not_bool, C.field_ptr, C.nilCheck_ptr, C.add_mk, C.sub_mk, C.mul_mk, C.eql_mk, C.neq_mk, C.lss_mk, C.leq_mk, C.gtr_mk, C.geq_mk, C.conv_mk, C.len_mk, C.ext_0, C.ext_1, C.ext3_0, C.ext3_1, C.ext3_2, C.guarded_yes, C.guarded_tf, C.guarded_ft, C.guarded_undef, Bool.not_true, Bool.not_false, Nat.zero_add, eq_self, decide_true, decide_false, e2, Int.add_zero]
  rw [wrapu64_id (n := 0) (by omega)]
  refine ⟨_, and32_run _ _ 0 (by omega) (by omega), _, shr32_run _ _ 0, ?_⟩
  simp only [C.ite_true, C.ite_false, C.pick_true, C.pick_false, C.not_bool, C.field_ptr, C.nilCheck_ptr, C.add_mk, C.sub_mk, C.mul_mk, C.eql_mk, C.neq_mk, C.lss_mk, C.leq_mk, C.gtr_mk, C.geq_mk, C.conv_mk, C.len_mk, C.ext_0, C.ext_1, C.ext3_0, C.ext3_1, C.ext3_2, C.guarded_yes, C.guarded_tf, C.guarded_ft, C.guarded_undef, Bool.not_true, Bool.not_false, Nat.zero_add, eq_self, decide_true, decide_false, show (0 : Int) % 4294967296 = 0 by decide, show (0 : Int) / 4294967296 = 0 by decide, Int.add_zero]
  rw [wrapu64_id (n := 0) (by omega)]
  refine ⟨_, shr32_run _ _ 0, ?_⟩
  simp only [C.ite_true, C.ite_false, C.pick_true, C.pick_false, C.not_bool, C.field_ptr, C.nilCheck_ptr, C.add_mk, C.sub_mk, C.mul_mk, C.eql_mk, C.neq_mk, C.lss_mk, C.leq_mk, C.gtr_mk, C.geq_mk, C.conv_mk, C.len_mk, C.ext_0, C.ext_1, C.ext3_0, C.ext3_1, C.ext3_2, C.guarded_yes, C.guarded_tf, C.guarded_ft, C.guarded_undef, Bool.not_true, Bool.not_false, Nat.zero_add, eq_self, decide_true, decide_false, show (0 : Int) / 4294967296 = 0 by decide, Int.add_zero]
  rw [wrapu64_id (n := 0) (by omega)]
  exact h
theorem copyB_of {g k m n : Nat} {cs : Array Value} {x : Value} (hg : w.heap[g]? = some (.cells cs 4 (0, 0))) (hcs : cs.size = n) (hk : 0 < k) (hkn : k < n) (hx : x.oneCell' = true) (ht : cs.toList.take k = List.replicate k x) (hm : m = min k (n - k))
    {F : VK} (h : ∀ w' cs', Upd w g (.cells cs' 4 (0, 0)) w' → cs'.size = n → cs'.toList.take (k + m) = List.replicate (k + m) x → F (.int .i64 (m : Int)) w') :
    C.run Try.prog (Builtin.copy_ #[33, 33] 3 #[.slice (some ⟨g, k, none⟩) (n - k) (n - k), .slice (some ⟨g, 0, none⟩) k n]) w F := by
  have hr := run_copy_row (P := Try.prog) w 33 33 3 4 g k (n - k) (n - k) ⟨g, 0, none⟩ k n cs 4 (List.replicate m x) Try.underlying33 (by kernel_rfl) hg (by rw [List.length_replicate, hm])
    (fun j v hj => by
      rw [List.getElem?_replicate] at hj
      split at hj
      · rename_i hjm
        rw [add_mk, cell_mk hg, ← Array.getElem?_toList, Nat.zero_add, ← hj]
        have := congrArg (fun l : List Value => l[j]?) ht
        simp only [List.getElem?_take, List.getElem?_replicate] at this
        rw [if_pos (by omega), if_pos (by omega)] at this
        exact this
      · cases hj) (by rw [List.length_replicate]; omega) (fun v hv => by rw [List.eq_of_mem_replicate hv]; exact hx)
  refine C.run_of hr ?_
  rw [List.length_replicate]
  refine h _ _ (upd_setRow hg) ?_ ?_
  · simp; omega
  · rw [ht]
    rw [List.take_append_of_le_length (by simp), List.replicate_append_replicate, List.take_of_length_le (by simp)]
theorem rep_loop {W0 : World} {g n : Nat} {x : Value} (hx : x.oneCell' = true) (hn : n ≤ 1000000) (hg0 : W0.heap.size ≤ g) :
    ∀ (d k : Nat) (w : World) (cs : Array Value), n ≤ k + d → 0 < k → k ≤ n → Fr [] W0 w → w.heap[g]? = some (.cells cs 4 (0, 0)) → cs.size = n → cs.toList.take k = List.replicate k x →
      (∀ w', Fr [] W0 w' → OwnS w' (.slice (some ⟨g, 0, none⟩) n n) 4 1 (List.replicate n [x]) → K (.slice (some ⟨g, 0, none⟩) n n) w') → F53.l8 K (.slice (some ⟨g, 0, none⟩) n n) (.int .i64 (k : Int)) w := by
  intro d
  induction d with
  | zero =>
    intro k w cs hd h0 hk hf hg hcs ht h
    have hkn : k = n := by omega
    subst hkn
    refine F53.l8.to ?_
    simp only [C.ite_true, C.ite_false, C.pick_true, C.pick_false, C.not_bool, C.field_ptr, C.nilCheck_ptr, C.add_mk, C.sub_mk, C.mul_mk, C.eql_mk, C.neq_mk, C.lss_mk, C.leq_mk, C.gtr_mk, C.geq_mk, C.conv_mk, C.len_mk, C.ext_0, C.ext_1, C.ext3_0, C.ext3_1, C.ext3_2, C.guarded_yes, C.guarded_tf, C.guarded_ft, C.guarded_undef, Bool.not_true, Bool.not_false, Nat.zero_add, eq_self, decide_true, decide_false, show ¬ ((k : Int) < (k : Int)) by omega]
    refine F53.k10.to (h w hf ?_)
    refine OwnS.of_block hg (by simp) (Nat.le_refl _) (by omega) (by omega) (fun y hy => ?_) ?_
    · rw [List.eq_of_mem_replicate hy]
      exact ⟨rfl, by simpa using hx⟩
    · rw [Nat.mul_one, ht]
      have : ∀ m : Nat, List.replicate m x = (List.replicate m [x]).flatten := fun m => by
        induction m with
        | zero => rfl
        | succ m ih => rw [List.replicate_succ, List.replicate_succ, List.flatten_cons, ← ih]; rfl
      exact this k
  | succ d ih =>
    intro k w cs hd h0 hk hf hg hcs ht h
    rcases Nat.lt_or_ge k n with hlt | hge
    · refine F53.l8.to ?_
      simp only [C.ite_true, C.ite_false, C.pick_true, C.pick_false, C.not_bool, C.field_ptr, C.nilCheck_ptr, C.add_mk, C.sub_mk, C.mul_mk, C.eql_mk, C.neq_mk, C.lss_mk, C.leq_mk, C.gtr_mk, C.geq_mk, C.conv_mk, C.len_mk, C.ext_0, C.ext_1, C.ext3_0, C.ext3_1, C.ext3_2, C.guarded_yes, C.guarded_tf, C.guarded_ft, C.guarded_undef, Bool.not_true, Bool.not_false, Nat.zero_add, eq_self, decide_true, decide_false, show ((k : Int) < (n : Int)) by omega]
      refine F53.k9.to (C.draw_of (fun _ => True) fun w1 hf1 he1 => ⟨trivial, ?_⟩)
      have hg1 := hf1.at_ hg (by simp)
      have r1 : ∀ w' : World, (Instr.sliceAt 33 (.slice (some ⟨g, 0, none⟩) n n) (some (.int .i64 (k : Int))) none none).run Try.prog w' = .ok (.slice (some ⟨g, k, none⟩) (n - k) (n - k)) w' := fun w' => by
        have := sliceFrom_run (P := Try.prog) (w := w') (t := 33) (e := 4) (sz := 1) (some ⟨g, 0, none⟩) n n .i64 (k : Int) Try.underlying33 (by kernel_rfl) (by omega) (by omega)
        rw [Int.toNat_natCast, if_neg (by omega)] at this
        simpa [add_mk] using this
      have r2 : ∀ w' : World, (Instr.sliceAt 33 (.slice (some ⟨g, 0, none⟩) n n) none (some (.int .i64 (k : Int))) none).run Try.prog w' = .ok (.slice (some ⟨g, 0, none⟩) k n) w' := fun w' => by
        have := sliceTo_run (P := Try.prog) (w := w') (t := 33) (e := 4) (sz := 1) (some ⟨g, 0, none⟩) n n .i64 (k : Int) Try.underlying33 (by kernel_rfl) (by omega) (by omega)
        rwa [Int.toNat_natCast] at this
      refine ⟨_, fun w' _ => r1 w', _, fun w' _ => r2 w', copyB_of hg1 hcs h0 hlt hx ht rfl fun w2 cs2 hu hcs2 ht2 => ⟨trivial, ?_⟩, trivial⟩
      simp only [C.ite_true, C.ite_false, C.pick_true, C.pick_false, C.not_bool, C.field_ptr, C.nilCheck_ptr, C.add_mk, C.sub_mk, C.mul_mk, C.eql_mk, C.neq_mk, C.lss_mk, C.leq_mk, C.gtr_mk, C.geq_mk, C.conv_mk, C.len_mk, C.ext_0, C.ext_1, C.ext3_0, C.ext3_1, C.ext3_2, C.guarded_yes, C.guarded_tf, C.guarded_ft, C.guarded_undef, Bool.not_true, Bool.not_false, Nat.zero_add, eq_self, decide_true, decide_false]
      rw [wrap64_id (by omega), show (k : Int) + ((min k (n - k) : Nat) : Int) = ((k + min k (n - k) : Nat) : Int) by omega]
      refine ih _ w2 cs2 (by omega) (by omega) (by omega) ((hf.trans hf1).then hu.fr fun y hy => ?_) hu.at_ hcs2 ht2 h
      simp only [List.mem_singleton] at hy
      exact .inr (by omega)
    · exact ih k w cs (by omega) h0 hk hf hg hcs ht h
theorem RepBool_c {v x : Value} {n : Nat} (hv : RdS w v 1 [[x]]) (hx : x.oneCell' = true) (hn : n ≤ 1000000) (h : ∀ v' w', Fr [] w w' → OwnS w' v' 4 1 (List.replicate n [x]) → NewS w v' → K v' w') : C.call Try.prog 53 #[v, .int .i64 (n : Int)] w K := by
  refine F53.sh ?_
  simp only [C.ite_true, C.ite_false, C.pick_true, C.pick_false, C.not_bool, C.field_ptr, C.nilCheck_ptr, C.add_mk, C.sub_mk, C.mul_mk, C.eql_mk, C.neq_mk, C.lss_mk, C.leq_mk, C.gtr_mk, C.geq_mk, C.conv_mk, C.len_mk, C.ext_0, C.ext_1, C.ext3_0, C.ext3_1, C.ext3_2, C.guarded_yes, C.guarded_tf, C.guarded_ft, C.guarded_undef, Bool.not_true, Bool.not_false, Nat.zero_add, eq_self, decide_true, decide_false, show ¬ ((n : Int) < 0) by omega]
  refine F53.k3.to (C.len_rd hv ?_)
  simp only [C.ite_true, C.ite_false, C.pick_true, C.pick_false, C.not_bool, C.field_ptr, C.nilCheck_ptr, C.add_mk, C.sub_mk, C.mul_mk, C.eql_mk, C.neq_mk, C.lss_mk, C.leq_mk, C.gtr_mk, C.geq_mk, C.conv_mk, C.len_mk, C.ext_0, C.ext_1, C.ext3_0, C.ext3_1, C.ext3_2, C.guarded_yes, C.guarded_tf, C.guarded_ft, C.guarded_undef, Bool.not_true, Bool.not_false, Nat.zero_add, eq_self, decide_true, decide_false, List.length_singleton]
  rw [wrapu64_id (n := (n : Int)) (by omega), wrapu64_id (n := ((1 : Nat) : Int)) (by omega)]
  refine Mul_one (n : Int) (by omega) (by omega) ?_
  simp only [C.ite_true, C.ite_false, C.pick_true, C.pick_false, C.not_bool, C.field_ptr, C.nilCheck_ptr, C.add_mk, C.sub_mk, C.mul_mk, C.eql_mk, C.neq_mk, C.lss_mk, C.leq_mk, C.gtr_mk, C.geq_mk, C.conv_mk, C.len_mk, C.ext_0, C.ext_1, C.ext3_0, C.ext3_1, C.ext3_2, C.guarded_yes, C.guarded_tf, C.guarded_ft, C.guarded_undef, Bool.not_true, Bool.not_false, Nat.zero_add, eq_self, decide_true, decide_false, show ¬ ((0 : Int) > 0) by omega, show ¬ ((n : Int) > 9223372036854775807) by omega]
  refine F53.k6.to ?_
  simp only [C.ite_true, C.ite_false, C.pick_true, C.pick_false, C.not_bool, C.field_ptr, C.nilCheck_ptr, C.add_mk, C.sub_mk, C.mul_mk, C.eql_mk, C.neq_mk, C.lss_mk, C.leq_mk, C.gtr_mk, C.geq_mk, C.conv_mk, C.len_mk, C.ext_0, C.ext_1, C.ext3_0, C.ext3_1, C.ext3_2, C.guarded_yes, C.guarded_tf, C.guarded_ft, C.guarded_undef, Bool.not_true, Bool.not_false, Nat.zero_add, eq_self, decide_true, decide_false]
  rw [wrap64_id (by omega)]
  refine C.make_of (e := 4) (sz := 1) (bytes := 1) (z := .bool false) n Try.underlying33 (by kernel_rfl) rfl (by decide) (by intro u hu; simp [Value.cells] at hu; subst hu; rfl) (by omega) (by omega) fun g w1 hn1 ho1 => ?_
  have hg0 : w.heap.size ≤ g := by have := hn1.is; omega
  have fin : ∀ w', Fr [] w w' → OwnS w' (.slice (some ⟨g, 0, none⟩) n n) 4 1 (List.replicate n [x]) → K (.slice (some ⟨g, 0, none⟩) n n) w' := fun w' hf ho => h _ w' hf ho fun g' hg' => by
    simp only [Value.ownBlock, Option.some.injEq] at hg'
    omega
  obtain ⟨A, c, rfl, hc, hm, hcell⟩ := hv.keep hn1.fr
  obtain ⟨g', o, cs', e', fz', rfl, hg', hcc⟩ := hcell (by simp)
  have hx0 := (hcc 0 [x] rfl).2 0 (by omega)
  simp only [Nat.zero_mul, Nat.add_zero, List.getElem?_cons_zero] at hx0
  rcases Nat.eq_zero_or_pos n with rfl | hpos
  · refine C.run_of (run_copy_none (P := Try.prog) w1 33 33 3 4 _ _ 0 0 _ c Try.underlying33 (by kernel_rfl) (by simp)) ?_
    refine F53.l8.to ?_
    have e : ¬ ((0 : Int) < ((0 : Nat) : Int)) := by omega
    simp only [goInt, C.ite_true, C.ite_false, C.pick_true, C.pick_false, C.not_bool, C.field_ptr, C.nilCheck_ptr, C.add_mk, C.sub_mk, C.mul_mk, C.eql_mk, C.neq_mk, C.lss_mk, C.leq_mk, C.gtr_mk, C.geq_mk, C.conv_mk, C.len_mk, C.ext_0, C.ext_1, C.ext3_0, C.ext3_1, C.ext3_2, C.guarded_yes, C.guarded_tf, C.guarded_ft, C.guarded_undef, Bool.not_true, Bool.not_false, Nat.zero_add, eq_self, decide_true, decide_false, e]
    exact F53.k10.to (fin w1 hn1.fr ho1)
  · have hr := run_copy_row (P := Try.prog) w1 33 33 3 4 g 0 n n ⟨g', o, none⟩ [[x]].length c _ 4 [x] Try.underlying33 (by kernel_rfl) hn1.at_ (show 1 = min 1 n by omega)
      (fun j y hj => by
        rcases j with _ | j
        · simp only [List.getElem?_cons_zero, Option.some.injEq] at hj
          subst hj
          rw [add_mk, cell_mk hg', Nat.add_zero]
          exact hx0
        · simp at hj) (by simp [size_madeCells]; omega) (by intro y hy; simp at hy; subst hy; exact hx)
    refine C.run_of hr ?_
    have hu := upd_setRow (cs' := ((madeCells (.bool false : Value).cells (n * 1)).toList.take 0 ++ [x] ++ (madeCells (.bool false : Value).cells (n * 1)).toList.drop (0 + [x].length)).toArray) hn1.at_
    refine rep_loop (W0 := w) (x := x) hx hn hg0 n 1 _ _ (by omega) (by omega) (by omega) (hn1.fr.then hu.fr fun y hy => ?_) hu.at_ ?_ ?_ fin
    · simp only [List.mem_singleton] at hy
      exact .inr (by omega)
    · simp [size_madeCells]; omega
    · simp
end
end Go.Proofs.YtfhgjncbhjjbfaaV
