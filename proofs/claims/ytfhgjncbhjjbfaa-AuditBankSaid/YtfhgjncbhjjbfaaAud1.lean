/- Steps and their answers, one by one: what the iterator comes to. -/
import Derived.Test.YtfhgjncbhjjbfaaAudBank
import Derived.Test.YtfhgjncbhjjbfaaVc6
import Derived.Test.YtfhgjncbhjjbfaaOwn3
import Derived.Test.YtfhgjncbhjjbfaaRow
import Derived.Test.YtfhgjncbhjjbfaaSl
namespace Go.Proofs.YtfhgjncbhjjbfaaV
open Go Go.Proofs Go.RowKit
set_option linter.unusedVariables false
set_option linter.unusedSimpArgs false
set_option maxRecDepth 10000
structure Stp where
  k : Int
  t : Int
  i : Int
  f : Int
  j : Int
  c : Int
  n : Int
structure Ans where
  c : Int
  k : Int
  n : Int
  d : Int
  r : Int
def stpL (x : Stp) : List Value := [.int .i64 x.k, .int .i64 x.t, .int .i64 x.i, .int .i64 x.f, .int .i64 x.j, .int .i64 x.c, .int .i64 x.n]
def ansL (y : Ans) : List Value := [.int .i64 y.c, .int .i64 y.k, .int .i64 y.n, .int .i64 y.d, .int .i64 y.r]
def stpV (x : Stp) : Value := .agg #[.int .i64 x.k, .int .i64 x.t, .int .i64 x.i, .int .i64 x.f, .int .i64 x.j, .int .i64 x.c, .int .i64 x.n]
def ansV (y : Ans) : Value := .agg #[.int .i64 y.c, .int .i64 y.k, .int .i64 y.n, .int .i64 y.d, .int .i64 y.r]
def stpB (x : Stp) : Obj := .cells #[.int .i64 x.k, .int .i64 x.t, .int .i64 x.i, .int .i64 x.f, .int .i64 x.j, .int .i64 x.c, .int .i64 x.n] 27 (0, 0)
def ansB (y : Ans) : Obj := .cells #[.int .i64 y.c, .int .i64 y.k, .int .i64 y.n, .int .i64 y.d, .int .i64 y.r] 31 (0, 0)
def stpC (l : List Stp) : List (List Value) := l.map stpL
def ansC (l : List Ans) : List (List Value) := l.map ansL
theorem stpC_len (l : List Stp) : (stpC l).length = l.length := by simp [stpC]
theorem ansC_len (l : List Ans) : (ansC l).length = l.length := by simp [ansC]
theorem stpC_get {l : List Stp} {j : Nat} (h : j < l.length) : (stpC l)[j]? = some (stpL l[j]) := by simp [stpC, h]
theorem ansC_get {l : List Ans} {j : Nat} (h : j < l.length) : (ansC l)[j]? = some (ansL l[j]) := by simp [ansC, h]
/-- As the audit takes them. -/
def Stp.cl (x : Stp) : Stp := ⟨x.k, x.t, x.i, x.f, x.j, clamp x.c 0 16, x.n⟩
def Ans.cl (y : Ans) : Ans := ⟨y.c, y.k, y.n, clamp y.d 0 64, clamp y.r 0 64⟩
theorem stpV_ones (x : Stp) : ∀ v ∈ (stpV x).cells.toList, v.oneCell' = true := by
  intro v hv
  simp [stpV, Value.cells] at hv
  rcases hv with rfl | rfl | rfl | rfl | rfl | rfl | rfl <;> rfl
theorem ansV_ones (y : Ans) : ∀ v ∈ (ansV y).cells.toList, v.oneCell' = true := by
  intro v hv
  simp [ansV, Value.cells] at hv
  rcases hv with rfl | rfl | rfl | rfl | rfl <;> rfl
section
variable {K : VK} {w : World}
/-- One step and its answer handed over. -/
theorem both_step {l p1 p2 i : Nat} {n : Int} {L : List Stp} {A : List Ans} {lv av : Value} {S : World → Prop} {K' : VK} (hi : i < L.length) (hi' : i < A.length)
    (h1 : w.heap[p1]? = some (.cells #[lv] 22 (0, 0))) (h2 : w.heap[p2]? = some (.cells #[av] 23 (0, 0))) (r1 : RdS w lv 7 (stpC L)) (r2 : RdS w av 5 (ansC A))
    (h : ∀ w', Fr [] w w' → C.yield Try.prog l #[stpV L[i].cl, ansV A[i].cl] w' fun x38 w3 => C.not x38 w3 fun x39 w4 => C.ite x39 (K (.tuple #[]) w4) (F84.k7 K (.func (.yield l) #[] #[]) (.pointer (some ⟨p1, 0, none⟩)) (.pointer (some ⟨p2, 0, none⟩)) (.int .i64 n) (.int .i64 (i : Int)) w4)) :
    F84.k2 K (.func (.yield l) #[] #[]) (.pointer (some ⟨p1, 0, none⟩)) (.pointer (some ⟨p2, 0, none⟩)) (.int .i64 n) (.int .i64 (i : Int)) w := by
  generalize hx : L[i] = x at *
  generalize hy : A[i] = y at *
  -- the loads behind, the clamps, the stores
  have tail : ∀ {b5 b6 : Nat} {w' : World}, Fr [] w w' → w.heap.size ≤ b5 → w.heap.size ≤ b6 → b5 ≠ b6 → w'.heap[b5]? = some (stpB x) → w'.heap[b6]? = some (ansB y) →
      F84.k4 K (.func (.yield l) #[] #[]) (.pointer (some ⟨p1, 0, none⟩)) (.pointer (some ⟨p2, 0, none⟩)) (.pointer (some ⟨b5, 0, none⟩)) (.pointer (some ⟨b6, 0, none⟩)) (.int .i64 n) (.int .i64 (i : Int)) w' := by
    intro b5 b6 w' hf hb5 hb6 hne h5 h6
    refine F84.k4.to ?_
    simp only [C.ite_true, C.ite_false, C.pick_true, C.pick_false, C.not_bool, C.field_ptr, C.nilCheck_ptr, C.add_mk, C.sub_mk, C.mul_mk, C.eql_mk, C.neq_mk, C.lss_mk, C.leq_mk, C.gtr_mk, C.geq_mk, C.conv_mk, C.len_mk, C.ext_0, C.ext_1, C.ext3_0, C.ext3_1, C.ext3_2, C.guarded_yes, C.guarded_tf, C.guarded_ft, C.guarded_undef, Bool.not_true, Bool.not_false, Nat.zero_add, eq_self, decide_true, decide_false]
    refine C.load1_of (v := .int .i64 x.c) h5 rfl (Clamp_c _ _ _ ?_)
    refine C.store1_of h5 rfl rfl (by simp) fun w2 hu => ?_
    have h5' : w2.heap[b5]? = some (stpB x.cl) := hu.at_
    have h6' : w2.heap[b6]? = some (ansB y) := hu.fr.at_ h6 (by simp; omega)
    have f2 : Fr [] w w2 := hf.then hu.fr fun z hz => .inr (by simp only [List.mem_singleton] at hz; omega)
    refine C.draw_of (fun _ => True) fun w3 hf3 he3 => ⟨trivial, ?_⟩
    simp only [C.ite_true, C.ite_false, C.pick_true, C.pick_false, C.not_bool, C.field_ptr, C.nilCheck_ptr, C.add_mk, C.sub_mk, C.mul_mk, C.eql_mk, C.neq_mk, C.lss_mk, C.leq_mk, C.gtr_mk, C.geq_mk, C.conv_mk, C.len_mk, C.ext_0, C.ext_1, C.ext3_0, C.ext3_1, C.ext3_2, C.guarded_yes, C.guarded_tf, C.guarded_ft, C.guarded_undef, Bool.not_true, Bool.not_false, Nat.zero_add, eq_self, decide_true, decide_false, and_true, true_and]
    have h5'' := hf3.at_ h5' (by simp)
    have h6'' := hf3.at_ h6' (by simp)
    have f3 := f2.trans hf3
    have fin : C.store 1 (.pointer (some ⟨b6, 3, none⟩)) (.int .i64 (clamp y.d 0 64)) w3 fun w29 => C.store 1 (.pointer (some ⟨b6, 4, none⟩)) (.int .i64 (clamp y.r 0 64)) w29 fun w31 =>
        F84.k6 K (.func (.yield l) #[] #[]) (.pointer (some ⟨p1, 0, none⟩)) (.pointer (some ⟨p2, 0, none⟩)) (.pointer (some ⟨b5, 0, none⟩)) (.pointer (some ⟨b6, 0, none⟩)) (.int .i64 n) (.int .i64 (i : Int)) w31 := by
      refine C.store1_of h6'' rfl rfl (by simp) fun w4 hu4 => C.store1_of hu4.at_ rfl rfl (by simp) fun w5 hu5 => ?_
      have h6f : w5.heap[b6]? = some (ansB y.cl) := hu5.at_
      have h5f : w5.heap[b5]? = some (stpB x.cl) := hu5.fr.at_ (hu4.fr.at_ h5'' (by simp; omega)) (by simp; omega)
      have f5 : Fr [] w w5 := (f3.then hu4.fr fun z hz => .inr (by simp only [List.mem_singleton] at hz; omega)).then hu5.fr fun z hz => .inr (by simp only [List.mem_singleton] at hz; omega)
      refine F84.k6.to (C.loadA_all h5f rfl (C.loadA_all h6f rfl ?_))
      exact h w5 f5
    refine ⟨C.load1_of (v := .int .i64 y.d) h6'' rfl ⟨Clamp_c _ _ _ (C.load1_of (v := .int .i64 y.r) h6'' rfl ?_), C.load1_of (v := .int .i64 y.r) h6'' rfl (Clamp_c _ _ _ ?_)⟩, C.load1_of (v := .int .i64 y.r) h6'' rfl (C.load1_of (v := .int .i64 y.d) h6'' rfl (Clamp_c _ _ _ ?_))⟩
    · try simp only [C.ite_true, C.ite_false, C.pick_true, C.pick_false, C.not_bool, C.field_ptr, C.nilCheck_ptr, C.add_mk, C.sub_mk, C.mul_mk, C.eql_mk, C.neq_mk, C.lss_mk, C.leq_mk, C.gtr_mk, C.geq_mk, C.conv_mk, C.len_mk, C.ext_0, C.ext_1, C.ext3_0, C.ext3_1, C.ext3_2, C.guarded_yes, C.guarded_tf, C.guarded_ft, C.guarded_undef, Bool.not_true, Bool.not_false, Nat.zero_add, eq_self, decide_true, decide_false]
      exact Clamp_c _ _ _ fin
    · try simp only [C.ite_true, C.ite_false, C.pick_true, C.pick_false, C.not_bool, C.field_ptr, C.nilCheck_ptr, C.add_mk, C.sub_mk, C.mul_mk, C.eql_mk, C.neq_mk, C.lss_mk, C.leq_mk, C.gtr_mk, C.geq_mk, C.conv_mk, C.len_mk, C.ext_0, C.ext_1, C.ext3_0, C.ext3_1, C.ext3_2, C.guarded_yes, C.guarded_tf, C.guarded_ft, C.guarded_undef, Bool.not_true, Bool.not_false, Nat.zero_add, eq_self, decide_true, decide_false]
      exact Clamp_c _ _ _ fin
    · try simp only [C.ite_true, C.ite_false, C.pick_true, C.pick_false, C.not_bool, C.field_ptr, C.nilCheck_ptr, C.add_mk, C.sub_mk, C.mul_mk, C.eql_mk, C.neq_mk, C.lss_mk, C.leq_mk, C.gtr_mk, C.geq_mk, C.conv_mk, C.len_mk, C.ext_0, C.ext_1, C.ext3_0, C.ext3_1, C.ext3_2, C.guarded_yes, C.guarded_tf, C.guarded_ft, C.guarded_undef, Bool.not_true, Bool.not_false, Nat.zero_add, eq_self, decide_true, decide_false]
      exact Clamp_c _ _ _ fin
  refine F84.k2.to (C.draw_of (fun w' => Fr [] w w') fun w1 hf1 he1 => ⟨hf1, ?_⟩)
  simp only [C.ite_true, C.ite_false, C.pick_true, C.pick_false, C.not_bool, C.field_ptr, C.nilCheck_ptr, C.add_mk, C.sub_mk, C.mul_mk, C.eql_mk, C.neq_mk, C.lss_mk, C.leq_mk, C.gtr_mk, C.geq_mk, C.conv_mk, C.len_mk, C.ext_0, C.ext_1, C.ext3_0, C.ext3_1, C.ext3_2, C.guarded_yes, C.guarded_tf, C.guarded_ft, C.guarded_undef, Bool.not_true, Bool.not_false, Nat.zero_add, eq_self, decide_true, decide_false, and_true]
  refine C.load1S_of (v := lv) (fun w' hw => ⟨_, _, _, hw.at_ h1 (by simp), rfl⟩) ?_
  refine C.idx_rdS (S := fun w' => Fr [] w w') (fun w' hw => r1.keep hw) hf1 (by omega) (by rw [Int.toNat_natCast]; exact stpC_get hi) fun g o hl1 hs1 => C.loadAS_cells hl1 (by decide) hs1 ?_
  refine C.load1S_of (v := av) (fun w' hw => ⟨_, _, _, hw.at_ h2 (by simp), rfl⟩) ?_
  refine C.idx_rdS (S := fun w' => Fr [] w w') (fun w' hw => r2.keep hw) hf1 (by omega) (by rw [Int.toNat_natCast]; exact ansC_get hi') fun g o hl2 hs2 => C.loadAS_cells hl2 (by decide) hs2 ?_
  rw [hx, hy]
  have s1 := hf1.size
  refine ⟨C.new_of fun b5 w2 hw2 => ⟨hf1.trans hw2.fr, C.new_of fun b6 w3 hw3 => ⟨(hf1.trans hw2.fr).trans hw3.fr, ?_⟩⟩, C.new_of fun b6 w2 hw2 => ⟨hf1.trans hw2.fr, C.new_of fun b5 w3 hw3 => ⟨(hf1.trans hw2.fr).trans hw3.fr, ?_⟩⟩⟩
  · have e2 := hw2.is
    have e3 := hw3.is
    have e2' := hw2.sz
    refine C.store_all (x := stpV x) (hw3.fr.at_ hw2.at_ (by simp)) rfl (stpV_ones x) rfl fun w4 hu4 => ?_
    have f4 : Fr [] w w4 := ((hf1.trans hw2.fr).trans hw3.fr).then hu4.fr fun z hz => .inr (by simp only [List.mem_singleton] at hz; omega)
    refine ⟨f4, C.store_all (x := ansV y) (hu4.fr.at_ hw3.at_ (by simp; omega)) rfl (ansV_ones y) rfl fun w5 hu5 => ?_⟩
    have f5 : Fr [] w w5 := f4.then hu5.fr fun z hz => .inr (by simp only [List.mem_singleton] at hz; omega)
    exact ⟨f5, tail f5 (by omega) (by omega) (by omega) (hu5.fr.at_ hu4.at_ (by simp; omega)) hu5.at_⟩
  · have e2 := hw2.is
    have e3 := hw3.is
    have e2' := hw2.sz
    refine C.store_all (x := stpV x) hw3.at_ rfl (stpV_ones x) rfl fun w4 hu4 => ?_
    have f4 : Fr [] w w4 := ((hf1.trans hw2.fr).trans hw3.fr).then hu4.fr fun z hz => .inr (by simp only [List.mem_singleton] at hz; omega)
    refine ⟨f4, C.store_all (x := ansV y) (hu4.fr.at_ (hw3.fr.at_ hw2.at_ (by simp)) (by simp; omega)) rfl (ansV_ones y) rfl fun w5 hu5 => ?_⟩
    have f5 : Fr [] w w5 := f4.then hu5.fr fun z hz => .inr (by simp only [List.mem_singleton] at hz; omega)
    exact ⟨f5, tail f5 (by omega) (by omega) (by omega) (hu5.fr.at_ hu4.at_ (by simp; omega)) hu5.at_⟩
theorem both_loop {l p1 p2 : Nat} {L : List Stp} {A : List Ans} {lv av : Value} {I : Nat → World → Prop} {Stop : World → Prop} {n : Nat} (hn : n = min L.length A.length) (hn2 : n ≤ 1000000)
    (hI : ∀ i w, I i w → w.heap[p1]? = some (.cells #[lv] 22 (0, 0)) ∧ w.heap[p2]? = some (.cells #[av] 23 (0, 0)) ∧ RdS w lv 7 (stpC L) ∧ RdS w av 5 (ansC A)) (hk : ∀ i w w', I i w → Fr [] w w' → I i w')
    (hy : ∀ i w (K' : VK) (hi : i < L.length) (hi' : i < A.length), I i w → (∀ w', I (i + 1) w' → K' (.bool true) w') → (∀ w', Stop w' → K' (.bool false) w') → C.yield Try.prog l #[stpV L[i].cl, ansV A[i].cl] w K')
    (hend : ∀ w', I n w' → K (.tuple #[]) w') (hstop : ∀ w', Stop w' → K (.tuple #[]) w') :
    ∀ (d i : Nat) (w : World), n = i + d → I i w → F84.l1 K (.func (.yield l) #[] #[]) (.pointer (some ⟨p1, 0, none⟩)) (.pointer (some ⟨p2, 0, none⟩)) (.int .i64 (n : Int)) (.int .i64 (i : Int)) w := by
  intro d
  induction d with
  | zero =>
    intro i w hi hIi
    refine F84.l1.to ?_
    simp only [C.ite_true, C.ite_false, C.pick_true, C.pick_false, C.not_bool, C.field_ptr, C.nilCheck_ptr, C.add_mk, C.sub_mk, C.mul_mk, C.eql_mk, C.neq_mk, C.lss_mk, C.leq_mk, C.gtr_mk, C.geq_mk, C.conv_mk, C.len_mk, C.ext_0, C.ext_1, C.ext3_0, C.ext3_1, C.ext3_2, C.guarded_yes, C.guarded_tf, C.guarded_ft, C.guarded_undef, Bool.not_true, Bool.not_false, Nat.zero_add, eq_self, decide_true, decide_false, show ¬ ((i : Int) < (n : Int)) by omega]
    obtain rfl : i = n := by omega
    exact hend w hIi
  | succ d ih =>
    intro i w hi hIi
    refine F84.l1.to ?_
    simp only [C.ite_true, C.ite_false, C.pick_true, C.pick_false, C.not_bool, C.field_ptr, C.nilCheck_ptr, C.add_mk, C.sub_mk, C.mul_mk, C.eql_mk, C.neq_mk, C.lss_mk, C.leq_mk, C.gtr_mk, C.geq_mk, C.conv_mk, C.len_mk, C.ext_0, C.ext_1, C.ext3_0, C.ext3_1, C.ext3_2, C.guarded_yes, C.guarded_tf, C.guarded_ft, C.guarded_undef, Bool.not_true, Bool.not_false, Nat.zero_add, eq_self, decide_true, decide_false, show ((i : Int) < (n : Int)) by omega]
    obtain ⟨a1, a2, a3, a4⟩ := hI i w hIi
    refine both_step (S := fun _ => True) (K' := K) (by omega) (by omega) a1 a2 a3 a4 fun w' hf => hy i w' _ (by omega) (by omega) (hk i w w' hIi hf) (fun w2 h2 => ?_) (fun w2 h2 => ?_)
    · simp only [C.ite_true, C.ite_false, C.pick_true, C.pick_false, C.not_bool, C.field_ptr, C.nilCheck_ptr, C.add_mk, C.sub_mk, C.mul_mk, C.eql_mk, C.neq_mk, C.lss_mk, C.leq_mk, C.gtr_mk, C.geq_mk, C.conv_mk, C.len_mk, C.ext_0, C.ext_1, C.ext3_0, C.ext3_1, C.ext3_2, C.guarded_yes, C.guarded_tf, C.guarded_ft, C.guarded_undef, Bool.not_true, Bool.not_false, Nat.zero_add, eq_self, decide_true, decide_false]
      refine F84.k7.to ?_
      simp only [C.ite_true, C.ite_false, C.pick_true, C.pick_false, C.not_bool, C.field_ptr, C.nilCheck_ptr, C.add_mk, C.sub_mk, C.mul_mk, C.eql_mk, C.neq_mk, C.lss_mk, C.leq_mk, C.gtr_mk, C.geq_mk, C.conv_mk, C.len_mk, C.ext_0, C.ext_1, C.ext3_0, C.ext3_1, C.ext3_2, C.guarded_yes, C.guarded_tf, C.guarded_ft, C.guarded_undef, Bool.not_true, Bool.not_false, Nat.zero_add, eq_self, decide_true, decide_false]
      rw [wrap64_id (n := (i : Int) + 1) (by omega), show (i : Int) + 1 = ((i + 1 : Nat) : Int) by omega]
      exact ih (i + 1) w2 (by omega) h2
    · simp only [C.ite_true, C.ite_false, C.pick_true, C.pick_false, C.not_bool, C.field_ptr, C.nilCheck_ptr, C.add_mk, C.sub_mk, C.mul_mk, C.eql_mk, C.neq_mk, C.lss_mk, C.leq_mk, C.gtr_mk, C.geq_mk, C.conv_mk, C.len_mk, C.ext_0, C.ext_1, C.ext3_0, C.ext3_1, C.ext3_2, C.guarded_yes, C.guarded_tf, C.guarded_ft, C.guarded_undef, Bool.not_true, Bool.not_false, Nat.zero_add, eq_self, decide_true, decide_false]
      exact hstop w2 h2
theorem both_c {l p1 p2 : Nat} {L : List Stp} {A : List Ans} {lv av : Value} {I : Nat → World → Prop} {Stop : World → Prop} (hn2 : min L.length A.length ≤ 1000000)
    (hI : ∀ i w, I i w → w.heap[p1]? = some (.cells #[lv] 22 (0, 0)) ∧ w.heap[p2]? = some (.cells #[av] 23 (0, 0)) ∧ RdS w lv 7 (stpC L) ∧ RdS w av 5 (ansC A)) (hk : ∀ i w w', I i w → Fr [] w w' → I i w')
    (hy : ∀ i w (K' : VK) (hi : i < L.length) (hi' : i < A.length), I i w → (∀ w', I (i + 1) w' → K' (.bool true) w') → (∀ w', Stop w' → K' (.bool false) w') → C.yield Try.prog l #[stpV L[i].cl, ansV A[i].cl] w K')
    (h0 : I 0 w) (hend : ∀ w', I (min L.length A.length) w' → K (.tuple #[]) w') (hstop : ∀ w', Stop w' → K (.tuple #[]) w') :
    C.call Try.prog 84 #[.func (.yield l) #[] #[], .pointer (some ⟨p1, 0, none⟩), .pointer (some ⟨p2, 0, none⟩)] w K := by
  obtain ⟨a1, a2, a3, a4⟩ := hI 0 w h0
  refine F84.sh (C.load1_of (v := lv) a1 rfl (C.len_rd a3 (C.load1_of (v := av) a2 rfl (C.len_rd a4 (C.run_of (min2_run _ _ _ _ _) ?_)))))
  rw [stpC_len, ansC_len, show min (L.length : Int) (A.length : Int) = ((min L.length A.length : Nat) : Int) by omega]
  exact both_loop rfl hn2 hI hk hy hend hstop (min L.length A.length) 0 w (by omega) h0
theorem bodied84 : bodied Try.prog 84 = true := by kernel_rfl
/-- What a round's record is, while the steps are gone through. -/
structure LoopOk (r : Loop) (nt : Nat) (ps : Array Tmp) (as_ bd : Code) (env : Env) (D : Nat) : Prop where
  st : r.state = .ready
  pe : r.pending = none
  sz : r.tmps.size = nt
  ps : r.params = ps
  as_ : r.assign = as_
  bd : r.body = bd
  env : ∀ t v, lkT env t = some v → r.tmps[t]? = some v
theorem range_both {p1 p2 nt : Nat} {ps : Array Tmp} {as_ bd : Code} {env : Env} {L : List Stp} {A : List Ans} {lv av : Value} {KR : Nat → Option Code → World → Prop} {I : Nat → Nat → Nat → World → Prop} {Stop : Nat → Nat → World → Prop} (hn2 : min L.length A.length ≤ 1000000)
    (hI : ∀ D l i w, I D l i w → w.heap[p1]? = some (.cells #[lv] 22 (0, 0)) ∧ w.heap[p2]? = some (.cells #[av] 23 (0, 0)) ∧ RdS w lv 7 (stpC L) ∧ RdS w av 5 (ansC A)) (hk : ∀ D l i w w', I D l i w → Fr [] w w' → I D l i w')
    (hy : ∀ D l i w (K' : VK) (hi : i < L.length) (hi' : i < A.length), I D l i w → (∀ w', I D l (i + 1) w' → K' (.bool true) w') → (∀ w', Stop D l w' → K' (.bool false) w') → C.yield Try.prog l #[stpV L[i].cl, ansV A[i].cl] w K')
    (h0 : ∀ r w', LoopOk r nt ps as_ bd env w.heap.size → Fr [] w w' → w'.heap[w.heap.size]? = some (.deferred (some [])) → w'.heap[w.heap.size + 1]? = some (.loop r) → w'.heap.size = w.heap.size + 2 → I w.heap.size (w.heap.size + 1) 0 w')
    (hend : ∀ w', I w.heap.size (w.heap.size + 1) (min L.length A.length) w' → ∃ rec, w'.heap[w.heap.size + 1]? = some (.loop rec) ∧ rec.state ≠ .busy ∧ KR w.heap.size rec.pending (w'.putObj (w.heap.size + 1) (.loop { rec with state := .exhausted })))
    (hstop : ∀ w', Stop w.heap.size (w.heap.size + 1) w' → ∃ rec, w'.heap[w.heap.size + 1]? = some (.loop rec) ∧ rec.state ≠ .busy ∧ KR w.heap.size rec.pending (w'.putObj (w.heap.size + 1) (.loop { rec with state := .exhausted }))) :
    C.range Try.prog nt (.func (.func 84) #[] #[.pointer (some ⟨p1, 0, none⟩), .pointer (some ⟨p2, 0, none⟩)]) ps as_ bd env w KR := by
  simp only [C.range, bodied84, cond_true]
  intro fn tmps hsz henv
  have hw1 := New.mk' w (.deferred (some []))
  have hw2 := New.mk' (w.alloc (.deferred (some []))) (.loop { state := .ready, pending := none, fn := fn, tmps := tmps, params := ps, assign := as_, body := bd, defers := w.heap.size })
  have e2 := hw2.is
  have e1 := hw1.sz
  have hl : (w.alloc (.deferred (some []))).heap.size = w.heap.size + 1 := e1
  refine both_c (l := w.heap.size + 1) (I := I w.heap.size (w.heap.size + 1)) (Stop := Stop w.heap.size (w.heap.size + 1)) hn2 (hI _ _) (hk _ _) (hy _ _) (h0 { state := .ready, pending := none, fn := fn, tmps := tmps, params := ps, assign := as_, body := bd, defers := w.heap.size } _ ⟨rfl, rfl, hsz, rfl, rfl, rfl, henv⟩ (hw1.fr.trans hw2.fr) (hw2.fr.at_ hw1.at_ (by simp)) (by rw [← hl]; exact hw2.at_) (by rw [hw2.sz, hl])) hend hstop
end
end Go.Proofs.YtfhgjncbhjjbfaaV
