/- BankRuns: each call of any script answers, and all is told behind it, as in a book. BankBalances: whatever is asked, what there is is what came less what went; never below 0, nor above what may be; what was put was kept or lost. For every int and every slice of operations, no condition. -/
import Derived.Test.YtckageghbhkklaaBank2
import Derived.Test.YtckageghbhkklaaSl
import Derived.Test.YtckageghbhkklaaRows
namespace Go.Proofs.YtckageghbhkklaaV
open Go Go.Proofs Go.RowKit Go.ChangeShapes Go.WideShapes Go.ChangeAt
set_option linter.unusedVariables false
set_option linter.unusedSimpArgs false

/-- Operations, as cells. -/
def opsC (l : List (Int × Int)) : List (List Value) := l.map fun x => [.int .i64 x.1, .int .i64 x.2]
theorem opsC_len (l : List (Int × Int)) : (opsC l).length = l.length := by simp [opsC]
theorem opsC_of : ∀ (xs : List (List Value)), (∀ x ∈ xs, okCells [.int .i64, .int .i64] x) → ∃ l, xs = opsC l
  | [], _ => ⟨[], rfl⟩
  | x :: xs, h => by
    obtain ⟨l, hl⟩ := opsC_of xs fun y hy => h y (by simp [hy])
    obtain ⟨n, m, hx, _⟩ := ok2 (h x (by simp))
    exact ⟨(n, m) :: l, by rw [hl, hx]; rfl⟩
theorem opsC_get {l : List (Int × Int)} {j : Nat} (h : j < l.length) : (opsC l)[j]? = some [.int .i64 l[j].1, .int .i64 l[j].2] := by simp [opsC, h]
structure St where
  i : Int
  o : Int
  l : Int
def stepS (m : Int) (s : St) (x : Int × Int) : St := ⟨stepI m s.i s.o x.1 x.2, stepO m s.i s.o x.1 x.2, stepL m s.i s.o s.l x.1 x.2⟩
def runS (m : Int) (s : St) (l : List (Int × Int)) : St := l.foldl (stepS m) s
section
variable {K : VK} {w : World}
theorem few_c {W : World} {v : Value} {l : List (Int × Int)} (hr : RdS W v 2 (opsC l)) (h : ∀ v', RdS W v' 2 (opsC (l.take 60)) → K v' w) : C.call Try.prog 18 #[v] w K := by
  refine F18.sh (C.len_rd hr ?_)
  simp only [C.ite_true, C.ite_false, C.pick_true, C.pick_false, C.not_bool, C.field_ptr, C.nilCheck_ptr, C.add_mk, C.sub_mk, C.mul_mk, C.eql_mk, C.neq_mk, C.lss_mk, C.leq_mk, C.gtr_mk, C.geq_mk, C.conv_mk, C.len_mk, C.ext_0, C.ext_1, C.ext3_0, C.ext3_1, C.ext3_2, C.guarded_yes, C.guarded_tf, C.guarded_ft, C.guarded_undef, Bool.not_true, Bool.not_false, Nat.zero_add, eq_self, decide_true, decide_false, C.ite_bool, decide_eq_true_eq, decide_eq_false_iff_not, opsC_len]
  refine ⟨fun h1 => ?_, fun h1 => ?_⟩
  · obtain ⟨A, c, rfl, hc⟩ := hr.len_c (P := Try.prog) (K := K)
    rw [opsC_len] at hc
    refine C.run_of (sliceTo_run (e := 34) (sz := 2) A _ c .i64 60 Try.underlying22 (by kernel_rfl) (by omega) (by omega)) (h _ ?_)
    have := hr.take 60 (by rw [opsC_len]; omega)
    have e : opsC (l.take 60) = (opsC l).take 60 := by simp [opsC, List.map_take]
    rw [e]
    exact this
  · refine F18.k3.to (h _ ?_)
    rw [List.take_of_length_le (by omega)]
    exact hr
theorem run_loop {g b r : Nat} {m B : Int} {v : Value} {l : List (Int × Int)} {W : World} (hgb : g ≠ b) (hgr : g ≠ r) (hbr : b ≠ r) (hrd : ∀ w', Fr [g, b, r] W w' → RdS w' v 2 (opsC l)) :
    ∀ (d j : Nat) (s : St) (w : World), l.length = j + d → Fr [g, b, r] W w → w.heap[g]? = some (bk s.i s.o s.l true m) → w.heap[b]? = some (bookB m s.i s.o s.l) →
      (∃ cs, cs.size = 5 ∧ w.heap[r]? = some (.cells cs 25 (0, 0))) → BkIn B s.i s.o s.l m → B + 2147483648 * d ≤ 1000000000000000000 →
      (∀ w', Fr [g, b, r] W w' → w'.heap[g]? = some (bk (runS m s (l.drop j)).i (runS m s (l.drop j)).o (runS m s (l.drop j)).l true m) → K (.tuple #[bookV m (runS m s (l.drop j)).i (runS m s (l.drop j)).o (runS m s (l.drop j)).l, .bool true]) w') →
      F15.l3 K (.pointer (some ⟨g, 0, none⟩)) v (.pointer (some ⟨b, 0, none⟩)) (.pointer (some ⟨r, 0, none⟩)) (.bool true) (.int .i64 (j : Int)) w := by
  intro d
  induction d generalizing B with
  | zero =>
    intro j s w hl hf hg hb hr hk hB h
    refine F15.l3.to (C.len_rd (hrd w hf) ?_)
    have e : ¬ ((j : Int) < ((opsC l).length : Int)) := by rw [opsC_len]; omega
    simp only [C.ite_true, C.ite_false, C.pick_true, C.pick_false, C.not_bool, C.field_ptr, C.nilCheck_ptr, C.add_mk, C.sub_mk, C.mul_mk, C.eql_mk, C.neq_mk, C.lss_mk, C.leq_mk, C.gtr_mk, C.geq_mk, C.conv_mk, C.len_mk, C.ext_0, C.ext_1, C.ext3_0, C.ext3_1, C.ext3_2, C.guarded_yes, C.guarded_tf, C.guarded_ft, C.guarded_undef, Bool.not_true, Bool.not_false, Nat.zero_add, eq_self, decide_true, decide_false, e]
    refine F15.k7.to ?_
    obtain ⟨cs, hcs, hr⟩ := hr
    refine C.loadA_all hb rfl (C.store_all hr rfl int5_cells hcs fun w1 hu => ?_)
    refine C.loadA_all hu.at_ rfl ?_
    have e2 : l.drop j = [] := List.drop_of_length_le (by omega)
    rw [e2] at h
    exact h w1 (hf.then hu.fr (by simp)) (hu.fr.at_ hg (by simp; omega))
  | succ d ih =>
    intro j s w hl hf hg hb hr hk hB h
    have hj : j < l.length := by omega
    have hrd0 := hrd w hf
    have hle := hrd0.le
    rw [opsC_len] at hle
    refine F15.l3.to (C.len_rd hrd0 ?_)
    have e : ((j : Int) < ((opsC l).length : Int)) := by rw [opsC_len]; omega
    simp only [C.ite_true, C.ite_false, C.pick_true, C.pick_false, C.not_bool, C.field_ptr, C.nilCheck_ptr, C.add_mk, C.sub_mk, C.mul_mk, C.eql_mk, C.neq_mk, C.lss_mk, C.leq_mk, C.gtr_mk, C.geq_mk, C.conv_mk, C.len_mk, C.ext_0, C.ext_1, C.ext3_0, C.ext3_1, C.ext3_2, C.guarded_yes, C.guarded_tf, C.guarded_ft, C.guarded_undef, Bool.not_true, Bool.not_false, Nat.zero_add, eq_self, decide_true, decide_false, e]
    refine F15.k5.to ?_
    refine C.draw_of (fun w' => Fr [g, b, r] W w') fun w1 hf1 he1 => ⟨hf.trans hf1.w, ?_⟩
    have hf1' := hf.trans (hf1.w (S := [g, b, r]))
    refine C.idx_rdS hrd hf1' (by omega) (by rw [Int.toNat_natCast]; exact opsC_get hj) fun ga oa hl2 hcell => ?_
    refine C.loadAS_cells hl2 (by omega) hcell ⟨C.loadA_all (hf1.at_ hb (by simp)) rfl ⟨hf1', ?_⟩, trivial⟩
    refine ⟨step_c l[j].1 l[j].2 (hf1.at_ hg (by simp)) hk (by omega) fun w2 hf2 hg2 => ?_, trivial⟩
    have hf2' := hf1'.trans (hf2.mono (T := [g, b, r]) (by simp))
    refine ⟨hf2', ?_⟩
    have hb2 : w2.heap[b]? = some (bookB m s.i s.o s.l) := hf2.at_ (hf1.at_ hb (by simp)) (by simp; omega)
    try simp only [C.ite_true, C.ite_false, C.pick_true, C.pick_false, C.not_bool, C.field_ptr, C.nilCheck_ptr, C.add_mk, C.sub_mk, C.mul_mk, C.eql_mk, C.neq_mk, C.lss_mk, C.leq_mk, C.gtr_mk, C.geq_mk, C.conv_mk, C.len_mk, C.ext_0, C.ext_1, C.ext3_0, C.ext3_1, C.ext3_2, C.guarded_yes, C.guarded_tf, C.guarded_ft, C.guarded_undef, Bool.not_true, Bool.not_false, Nat.zero_add, eq_self, decide_true, decide_false]
    refine ⟨C.store_all hb2 rfl int5_cells rfl fun w3 hu3 => ?_, trivial⟩
    have hf3' := hf2'.trans (hu3.fr.mono (T := [g, b, r]) (by simp))
    refine ⟨hf3', ?_⟩
    have hg3 := hu3.fr.at_ hg2 (by simp; omega)
    have hk3 := hk.step l[j].1 l[j].2 (by omega)
    try simp only [C.ite_true, C.ite_false, C.pick_true, C.pick_false, C.not_bool, C.field_ptr, C.nilCheck_ptr, C.add_mk, C.sub_mk, C.mul_mk, C.eql_mk, C.neq_mk, C.lss_mk, C.leq_mk, C.gtr_mk, C.geq_mk, C.conv_mk, C.len_mk, C.ext_0, C.ext_1, C.ext3_0, C.ext3_1, C.ext3_2, C.guarded_yes, C.guarded_tf, C.guarded_ft, C.guarded_undef, Bool.not_true, Bool.not_false, Nat.zero_add, eq_self, decide_true, decide_false]
    refine C.loadA_all hu3.at_ rfl ?_
    refine told_c hg3 hk3.toBkOk fun w4 hf4 => ?_
    try simp only [C.ite_true, C.ite_false, C.pick_true, C.pick_false, C.not_bool, C.field_ptr, C.nilCheck_ptr, C.add_mk, C.sub_mk, C.mul_mk, C.eql_mk, C.neq_mk, C.lss_mk, C.leq_mk, C.gtr_mk, C.geq_mk, C.conv_mk, C.len_mk, C.ext_0, C.ext_1, C.ext3_0, C.ext3_1, C.ext3_2, C.guarded_yes, C.guarded_tf, C.guarded_ft, C.guarded_undef, Bool.not_true, Bool.not_false, Nat.zero_add, eq_self, decide_true, decide_false]
    refine F15.k4.to ?_
    try simp only [C.ite_true, C.ite_false, C.pick_true, C.pick_false, C.not_bool, C.field_ptr, C.nilCheck_ptr, C.add_mk, C.sub_mk, C.mul_mk, C.eql_mk, C.neq_mk, C.lss_mk, C.leq_mk, C.gtr_mk, C.geq_mk, C.conv_mk, C.len_mk, C.ext_0, C.ext_1, C.ext3_0, C.ext3_1, C.ext3_2, C.guarded_yes, C.guarded_tf, C.guarded_ft, C.guarded_undef, Bool.not_true, Bool.not_false, Nat.zero_add, eq_self, decide_true, decide_false]
    rw [wrap64_id (n := (j : Int) + 1) (by omega)]
    have hr4 : ∃ cs, cs.size = 5 ∧ w4.heap[r]? = some (.cells cs 25 (0, 0)) := by
      obtain ⟨cs, hcs, hr⟩ := hr
      exact ⟨cs, hcs, hf4.at_ (hu3.fr.at_ (hf2.at_ (hf1.at_ hr (by simp)) (by simp; omega)) (by simp; omega)) (by simp)⟩
    have hrun : runS m s (l.drop j) = runS m (stepS m s l[j]) (l.drop (j + 1)) := by
      rw [List.drop_eq_getElem_cons hj]; rfl
    rw [hrun] at h
    have := ih (B := B + 2147483648) (j + 1) (stepS m s l[j]) w4 (by omega) (hf3'.trans hf4.w) (hf4.at_ hg3 (by simp)) (hf4.at_ hu3.at_ (by simp)) hr4 hk3 (by omega) h
    rw [show ((j + 1 : Nat) : Int) = (j : Int) + 1 by omega] at this
    exact this
theorem run_c {g : Nat} {m B : Int} {v : Value} {l : List (Int × Int)} (s : St) (hg : w.heap[g]? = some (bk s.i s.o s.l true m)) (hk : BkIn B s.i s.o s.l m) (hrd : ∀ w', Fr [g] w w' → RdS w' v 2 (opsC l)) (hB : B + 2147483648 * l.length ≤ 1000000000000000000)
    (h : ∀ w', Fr [g] w w' → w'.heap[g]? = some (bk (runS m s l).i (runS m s l).o (runS m s l).l true m) → K (.tuple #[bookV m (runS m s l).i (runS m s l).o (runS m s l).l, .bool true]) w') :
    C.call Try.prog 15 #[.pointer (some ⟨g, 0, none⟩), bookV m s.i s.o s.l, v] w K := by
  refine F15.sh (C.new_of fun b w1 hn1 => C.new_of fun r w2 hn2 => ?_)
  have lg := lt_of_at hg
  have hgb : g ≠ b := hn1.ne lg
  have hgr : g ≠ r := hn2.ne (hn1.fr.lt lg)
  have hbr : b ≠ r := hn2.ne (lt_of_at hn1.at_)
  have lb : w.heap.size ≤ b := by have := hn1.is; omega
  have lr : w.heap.size ≤ r := by have := hn2.is; have := hn1.fr.size; omega
  have hb2 : w2.heap[b]? = some (bookB m s.i s.o s.l) := hn2.fr.at_ hn1.at_ (by simp)
  have hg2 := hn2.fr.at_ (hn1.fr.at_ hg (by simp)) (by simp)
  refine C.loadA_all hb2 rfl (told_c hg2 hk.toBkOk fun w3 hf3 => ?_)
  have hf : Fr [] w w3 := hn1.fr.trans (hn2.fr.trans hf3)
  have := run_loop (K := K) (v := v) (l := l) (m := m) (W := w3) hgb hgr hbr (fun w' hf' => hrd w' (hf.w.then hf' (by simp; omega))) l.length 0 s w3 (by omega) (Fr.refl _ _) (hf3.at_ hg2 (by simp)) (hf3.at_ hb2 (by simp)) ⟨_, rfl, hf3.at_ hn2.at_ (by simp)⟩ hk hB
    (fun w' hf' hg' => by
      simp only [List.drop_zero] at hg' ⊢
      exact h w' (hf.w.then hf' (by simp; omega)) hg')
  exact this
theorem build25_1 (a : Int) : (Instr.build 25 #[(0, .int .i64 a)]).run Try.prog w = .ok (bookV a 0 0 0) w := by kernel_rfl
theorem BankRuns_c (n : Int) {v : Value} {l : List (Int × Int)} (hr : RdS w v 2 (opsC l)) (h : ∀ w', Fr [] w w' → K (.bool true) w') : C.call Try.prog 3 #[.int .i64 n, v] w K := by
  refine F3.sh (Alive_c fun w1 hf1 => ?_)
  try simp only [C.ite_true, C.ite_false, C.pick_true, C.pick_false, C.not_bool, C.field_ptr, C.nilCheck_ptr, C.add_mk, C.sub_mk, C.mul_mk, C.eql_mk, C.neq_mk, C.lss_mk, C.leq_mk, C.gtr_mk, C.geq_mk, C.conv_mk, C.len_mk, C.ext_0, C.ext_1, C.ext3_0, C.ext3_1, C.ext3_2, C.guarded_yes, C.guarded_tf, C.guarded_ft, C.guarded_undef, Bool.not_true, Bool.not_false, Nat.zero_add, eq_self, decide_true, decide_false]
  refine F3.k3.to (New_c n fun g w2 hn2 => Near_c _ _ _ (C.run_of (build25_1 _) (few_c hr fun v' hr' => ?_)))
  have hl : (l.take 60).length ≤ 60 := by rw [List.length_take]; omega
  have lg : w.heap.size ≤ g := by have := hn2.is; have := hf1.size; omega
  have hrd : ∀ w', Fr [g] w2 w' → RdS w' v' 2 (opsC (l.take 60)) := fun w' hf' => hr'.keep ((hf1.trans hn2.fr).then hf' (by simp; omega))
  refine run_c ⟨0, 0, 0⟩ hn2.at_ (B := 0) ⟨BkOk.new n, Int.le_refl 0, Int.le_refl 0⟩ hrd (by omega) fun w3 hf3 hg3 => ?_
  try simp only [C.ite_true, C.ite_false, C.pick_true, C.pick_false, C.not_bool, C.field_ptr, C.nilCheck_ptr, C.add_mk, C.sub_mk, C.mul_mk, C.eql_mk, C.neq_mk, C.lss_mk, C.leq_mk, C.gtr_mk, C.geq_mk, C.conv_mk, C.len_mk, C.ext_0, C.ext_1, C.ext3_0, C.ext3_1, C.ext3_2, C.guarded_yes, C.guarded_tf, C.guarded_ft, C.guarded_undef, Bool.not_true, Bool.not_false, Nat.zero_add, eq_self, decide_true, decide_false]
  refine C.new_of fun x w4 hn4 => C.store_all hn4.at_ rfl int5_cells rfl fun w5 hu5 => ?_
  refine h w5 ?_
  have lx : w.heap.size ≤ x := by have := hn4.is; have := hf3.size; have := hn2.fr.size; have := hf1.size; omega
  exact (((hf1.trans hn2.fr).then hf3 (by simp; omega)).trans hn4.fr).then hu5.fr (by simp; omega)
theorem BB_loop {g : Nat} {n m B : Int} (hm : m = clamp n 0 65535) {v : Value} {l : List (Int × Int)} {W : World} (hrd : ∀ w', Fr [g] W w' → RdS w' v 2 (opsC l)) :
    ∀ (d j : Nat) (s : St) (w : World), l.length = j + d → Fr [g] W w → w.heap[g]? = some (bk s.i s.o s.l true m) → BkIn B s.i s.o s.l m → B + 2147483648 * d ≤ 1000000000000000000 →
      (∀ w', Fr [g] W w' → K (.bool true) w') →
      F4.l6 K (.int .i64 n) v (.pointer (some ⟨g, 0, none⟩)) (.int .i64 (s.i + s.l)) (.int .i64 (j : Int)) w := by
  intro d
  induction d generalizing B with
  | zero =>
    intro j s w hl hf hg hk hB h
    refine F4.l6.to (C.len_rd (hrd w hf) ?_)
    have e : ¬ ((j : Int) < ((opsC l).length : Int)) := by rw [opsC_len]; omega
    simp only [C.ite_true, C.ite_false, C.pick_true, C.pick_false, C.not_bool, C.field_ptr, C.nilCheck_ptr, C.add_mk, C.sub_mk, C.mul_mk, C.eql_mk, C.neq_mk, C.lss_mk, C.leq_mk, C.gtr_mk, C.geq_mk, C.conv_mk, C.len_mk, C.ext_0, C.ext_1, C.ext3_0, C.ext3_1, C.ext3_2, C.guarded_yes, C.guarded_tf, C.guarded_ft, C.guarded_undef, Bool.not_true, Bool.not_false, Nat.zero_add, eq_self, decide_true, decide_false, e]
    exact F4.k17.to (h w hf)
  | succ d ih =>
    intro j s w hl hf hg hk hB h
    have hj : j < l.length := by omega
    have hrd0 := hrd w hf
    have hle := hrd0.le
    rw [opsC_len] at hle
    refine F4.l6.to (C.len_rd hrd0 ?_)
    have e : ((j : Int) < ((opsC l).length : Int)) := by rw [opsC_len]; omega
    simp only [C.ite_true, C.ite_false, C.pick_true, C.pick_false, C.not_bool, C.field_ptr, C.nilCheck_ptr, C.add_mk, C.sub_mk, C.mul_mk, C.eql_mk, C.neq_mk, C.lss_mk, C.leq_mk, C.gtr_mk, C.geq_mk, C.conv_mk, C.len_mk, C.ext_0, C.ext_1, C.ext3_0, C.ext3_1, C.ext3_2, C.guarded_yes, C.guarded_tf, C.guarded_ft, C.guarded_undef, Bool.not_true, Bool.not_false, Nat.zero_add, eq_self, decide_true, decide_false, e]
    rcases hq : l[j] with ⟨k, q⟩
    have hget : (opsC l)[((j : Int)).toNat]? = some [.int .i64 k, .int .i64 q] := by rw [Int.toNat_natCast, opsC_get hj, hq]
    -- what follows each call
    have rest : ∀ (w2 : World), Fr [g] W w2 → w2.heap[g]? = some (bk (stepI m s.i s.o k q) (stepO m s.i s.o k q) (stepL m s.i s.o s.l k q) true m) →
        F4.k14 K (.int .i64 n) v (.pointer (some ⟨g, 0, none⟩)) (.int .i64 (stepI m s.i s.o k q + stepL m s.i s.o s.l k q)) (.int .i64 (j : Int)) w2 := by
      intro w2 hf2 hg2
      have hk2 := hk.step k q (by omega)
      obtain ⟨⟨h1, h2, h3, h4, h5, h6, h7, h8⟩, h9, h10⟩ := hk2
      refine F4.k14.to (Balance_c hg2 fun w3 hf3 he3 => ?_)
      have hg3 := hf3.at_ hg2 (by simp)
      refine In_c hg3 (Out_c hg3 ?_)
      rw [wrap64_id (n := stepI m s.i s.o k q - stepO m s.i s.o k q) (by omega)]
      have e1 : ¬ (stepI m s.i s.o k q - stepO m s.i s.o k q < 0) := by omega
      simp only [C.ite_true, C.ite_false, C.pick_true, C.pick_false, C.not_bool, C.field_ptr, C.nilCheck_ptr, C.add_mk, C.sub_mk, C.mul_mk, C.eql_mk, C.neq_mk, C.lss_mk, C.leq_mk, C.gtr_mk, C.geq_mk, C.conv_mk, C.len_mk, C.ext_0, C.ext_1, C.ext3_0, C.ext3_1, C.ext3_2, C.guarded_yes, C.guarded_tf, C.guarded_ft, C.guarded_undef, Bool.not_true, Bool.not_false, Nat.zero_add, eq_self, decide_true, decide_false, ne_eq, not_true_eq_false, e1]
      rw [wrap64_id (n := stepI m s.i s.o k q - stepO m s.i s.o k q) (by omega)]
      simp only [C.ite_true, C.ite_false, C.pick_true, C.pick_false, C.not_bool, C.field_ptr, C.nilCheck_ptr, C.add_mk, C.sub_mk, C.mul_mk, C.eql_mk, C.neq_mk, C.lss_mk, C.leq_mk, C.gtr_mk, C.geq_mk, C.conv_mk, C.len_mk, C.ext_0, C.ext_1, C.ext3_0, C.ext3_1, C.ext3_2, C.guarded_yes, C.guarded_tf, C.guarded_ft, C.guarded_undef, Bool.not_true, Bool.not_false, Nat.zero_add, eq_self, decide_true, decide_false, ne_eq, not_true_eq_false, e1]
      refine Near_c _ _ _ ?_
      rw [← hm]
      have e2 : ¬ (stepI m s.i s.o k q - stepO m s.i s.o k q > m) := by omega
      simp only [C.ite_true, C.ite_false, C.pick_true, C.pick_false, C.not_bool, C.field_ptr, C.nilCheck_ptr, C.add_mk, C.sub_mk, C.mul_mk, C.eql_mk, C.neq_mk, C.lss_mk, C.leq_mk, C.gtr_mk, C.geq_mk, C.conv_mk, C.len_mk, C.ext_0, C.ext_1, C.ext3_0, C.ext3_1, C.ext3_2, C.guarded_yes, C.guarded_tf, C.guarded_ft, C.guarded_undef, Bool.not_true, Bool.not_false, Nat.zero_add, eq_self, decide_true, decide_false, e2]
      refine In_c hg3 ?_
      try simp only [C.ite_true, C.ite_false, C.pick_true, C.pick_false, C.not_bool, C.field_ptr, C.nilCheck_ptr, C.add_mk, C.sub_mk, C.mul_mk, C.eql_mk, C.neq_mk, C.lss_mk, C.leq_mk, C.gtr_mk, C.geq_mk, C.conv_mk, C.len_mk, C.ext_0, C.ext_1, C.ext3_0, C.ext3_1, C.ext3_2, C.guarded_yes, C.guarded_tf, C.guarded_ft, C.guarded_undef, Bool.not_true, Bool.not_false, Nat.zero_add, eq_self, decide_true, decide_false]
      refine Lost_c hg3 ?_
      try simp only [C.ite_true, C.ite_false, C.pick_true, C.pick_false, C.not_bool, C.field_ptr, C.nilCheck_ptr, C.add_mk, C.sub_mk, C.mul_mk, C.eql_mk, C.neq_mk, C.lss_mk, C.leq_mk, C.gtr_mk, C.geq_mk, C.conv_mk, C.len_mk, C.ext_0, C.ext_1, C.ext3_0, C.ext3_1, C.ext3_2, C.guarded_yes, C.guarded_tf, C.guarded_ft, C.guarded_undef, Bool.not_true, Bool.not_false, Nat.zero_add, eq_self, decide_true, decide_false]
      rw [wrap64_id (n := stepI m s.i s.o k q + stepL m s.i s.o s.l k q) (by omega)]
      simp only [C.ite_true, C.ite_false, C.pick_true, C.pick_false, C.not_bool, C.field_ptr, C.nilCheck_ptr, C.add_mk, C.sub_mk, C.mul_mk, C.eql_mk, C.neq_mk, C.lss_mk, C.leq_mk, C.gtr_mk, C.geq_mk, C.conv_mk, C.len_mk, C.ext_0, C.ext_1, C.ext3_0, C.ext3_1, C.ext3_2, C.guarded_yes, C.guarded_tf, C.guarded_ft, C.guarded_undef, Bool.not_true, Bool.not_false, Nat.zero_add, eq_self, decide_true, decide_false, ne_eq, not_true_eq_false]
      refine F4.k7.to ?_
      try simp only [C.ite_true, C.ite_false, C.pick_true, C.pick_false, C.not_bool, C.field_ptr, C.nilCheck_ptr, C.add_mk, C.sub_mk, C.mul_mk, C.eql_mk, C.neq_mk, C.lss_mk, C.leq_mk, C.gtr_mk, C.geq_mk, C.conv_mk, C.len_mk, C.ext_0, C.ext_1, C.ext3_0, C.ext3_1, C.ext3_2, C.guarded_yes, C.guarded_tf, C.guarded_ft, C.guarded_undef, Bool.not_true, Bool.not_false, Nat.zero_add, eq_self, decide_true, decide_false]
      rw [wrap64_id (n := (j : Int) + 1) (by omega)]
      have := ih (B := B + 2147483648) (j + 1) (stepS m s (k, q)) w3 (by omega) (hf2.trans hf3.w) hg3 ⟨⟨h1, h2, h3, h4, h5, h6, h7, h8⟩, h9, h10⟩ (by omega) h
      rw [show ((j + 1 : Nat) : Int) = (j : Int) + 1 by omega] at this
      exact this
    have c1 := clamp_bd q 0 2147483648 (by omega)
    have hk' := hk
    obtain ⟨⟨h1, h2, h3, h4, h5, h6, h7, h8⟩, h9, h10⟩ := hk'
    refine F4.k8.to (C.idx_rd hrd0 (by omega) hget fun ga oa cs te fz hga hl2 hcell => ?_)
    have c0 := hcell 0 (by omega)
    have cc1 := hcell 1 (by omega)
    simp only [List.getElem?_cons_zero, List.getElem?_cons_succ, Nat.add_zero] at c0 cc1
    try simp only [C.ite_true, C.ite_false, C.pick_true, C.pick_false, C.not_bool, C.field_ptr, C.nilCheck_ptr, C.add_mk, C.sub_mk, C.mul_mk, C.eql_mk, C.neq_mk, C.lss_mk, C.leq_mk, C.gtr_mk, C.geq_mk, C.conv_mk, C.len_mk, C.ext_0, C.ext_1, C.ext3_0, C.ext3_1, C.ext3_2, C.guarded_yes, C.guarded_tf, C.guarded_ft, C.guarded_undef, Bool.not_true, Bool.not_false, Nat.zero_add, eq_self, decide_true, decide_false]
    refine C.load1_of hga c0 ?_
    simp only [C.ite_true, C.ite_false, C.pick_true, C.pick_false, C.not_bool, C.field_ptr, C.nilCheck_ptr, C.add_mk, C.sub_mk, C.mul_mk, C.eql_mk, C.neq_mk, C.lss_mk, C.leq_mk, C.gtr_mk, C.geq_mk, C.conv_mk, C.len_mk, C.ext_0, C.ext_1, C.ext3_0, C.ext3_1, C.ext3_2, C.guarded_yes, C.guarded_tf, C.guarded_ft, C.guarded_undef, Bool.not_true, Bool.not_false, Nat.zero_add, eq_self, decide_true, decide_false, C.ite_bool, decide_eq_true_eq, decide_eq_false_iff_not]
    refine ⟨fun k1 => ?_, fun k1 => ?_⟩
    · refine C.idx_rd hrd0 (by omega) hget fun ga oa cs te fz hga hl2 hcell => ?_
      have cc1 := hcell 1 (by omega)
      simp only [List.getElem?_cons_zero, List.getElem?_cons_succ] at cc1
      try simp only [C.ite_true, C.ite_false, C.pick_true, C.pick_false, C.not_bool, C.field_ptr, C.nilCheck_ptr, C.add_mk, C.sub_mk, C.mul_mk, C.eql_mk, C.neq_mk, C.lss_mk, C.leq_mk, C.gtr_mk, C.geq_mk, C.conv_mk, C.len_mk, C.ext_0, C.ext_1, C.ext3_0, C.ext3_1, C.ext3_2, C.guarded_yes, C.guarded_tf, C.guarded_ft, C.guarded_undef, Bool.not_true, Bool.not_false, Nat.zero_add, eq_self, decide_true, decide_false]
      refine C.load1_of hga cc1 (Put_c q hg hk.toBkOk fun w2 hf2 hg2 => ?_)
      refine C.idx_rd (hrd _ (hf.trans hf2)) (by omega) hget fun ga oa cs te fz hga hl2 hcell => ?_
      have cc1 := hcell 1 (by omega)
      simp only [List.getElem?_cons_zero, List.getElem?_cons_succ] at cc1
      try simp only [C.ite_true, C.ite_false, C.pick_true, C.pick_false, C.not_bool, C.field_ptr, C.nilCheck_ptr, C.add_mk, C.sub_mk, C.mul_mk, C.eql_mk, C.neq_mk, C.lss_mk, C.leq_mk, C.gtr_mk, C.geq_mk, C.conv_mk, C.len_mk, C.ext_0, C.ext_1, C.ext3_0, C.ext3_1, C.ext3_2, C.guarded_yes, C.guarded_tf, C.guarded_ft, C.guarded_undef, Bool.not_true, Bool.not_false, Nat.zero_add, eq_self, decide_true, decide_false]
      refine C.load1_of hga cc1 (Near_c _ _ _ ?_)
      try simp only [C.ite_true, C.ite_false, C.pick_true, C.pick_false, C.not_bool, C.field_ptr, C.nilCheck_ptr, C.add_mk, C.sub_mk, C.mul_mk, C.eql_mk, C.neq_mk, C.lss_mk, C.leq_mk, C.gtr_mk, C.geq_mk, C.conv_mk, C.len_mk, C.ext_0, C.ext_1, C.ext3_0, C.ext3_1, C.ext3_2, C.guarded_yes, C.guarded_tf, C.guarded_ft, C.guarded_undef, Bool.not_true, Bool.not_false, Nat.zero_add, eq_self, decide_true, decide_false]
      rw [wrap64_id (n := s.i + s.l + clamp q 0 2147483648) (by omega)]
      have e1 : stepI m s.i s.o k q = s.i + min (clamp q 0 2147483648) (m - (s.i - s.o)) := by unfold stepI; rw [if_pos k1]
      have e2 : stepO m s.i s.o k q = s.o := by unfold stepO; rw [if_pos k1]
      have e3 : stepL m s.i s.o s.l k q = s.l + (clamp q 0 2147483648 - min (clamp q 0 2147483648) (m - (s.i - s.o))) := by unfold stepL; rw [if_pos k1]
      have := rest w2 (hf.trans hf2) (by rw [e1, e2, e3]; exact hg2)
      rw [e1, e3] at this
      rw [show s.i + s.l + clamp q 0 2147483648 = s.i + min (clamp q 0 2147483648) (m - (s.i - s.o)) + (s.l + (clamp q 0 2147483648 - min (clamp q 0 2147483648) (m - (s.i - s.o)))) by omega]
      exact this
    · have e1 : stepI m s.i s.o k q = s.i := by unfold stepI; rw [if_neg k1]
      have e3 : stepL m s.i s.o s.l k q = s.l := by unfold stepL; rw [if_neg k1]
      rw [e1, e3] at rest
      refine C.idx_rd hrd0 (by omega) hget fun ga oa cs te fz hga hl2 hcell => ?_
      have c0 := hcell 0 (by omega)
      simp only [List.getElem?_cons_zero, Nat.add_zero] at c0
      try simp only [C.ite_true, C.ite_false, C.pick_true, C.pick_false, C.not_bool, C.field_ptr, C.nilCheck_ptr, C.add_mk, C.sub_mk, C.mul_mk, C.eql_mk, C.neq_mk, C.lss_mk, C.leq_mk, C.gtr_mk, C.geq_mk, C.conv_mk, C.len_mk, C.ext_0, C.ext_1, C.ext3_0, C.ext3_1, C.ext3_2, C.guarded_yes, C.guarded_tf, C.guarded_ft, C.guarded_undef, Bool.not_true, Bool.not_false, Nat.zero_add, eq_self, decide_true, decide_false]
      refine C.load1_of hga c0 ?_
      simp only [C.ite_true, C.ite_false, C.pick_true, C.pick_false, C.not_bool, C.field_ptr, C.nilCheck_ptr, C.add_mk, C.sub_mk, C.mul_mk, C.eql_mk, C.neq_mk, C.lss_mk, C.leq_mk, C.gtr_mk, C.geq_mk, C.conv_mk, C.len_mk, C.ext_0, C.ext_1, C.ext3_0, C.ext3_1, C.ext3_2, C.guarded_yes, C.guarded_tf, C.guarded_ft, C.guarded_undef, Bool.not_true, Bool.not_false, Nat.zero_add, eq_self, decide_true, decide_false, C.ite_bool, decide_eq_true_eq, decide_eq_false_iff_not]
      refine ⟨fun k2 => ?_, fun k2 => ?_⟩
      · refine C.idx_rd hrd0 (by omega) hget fun ga oa cs te fz hga hl2 hcell => ?_
        have cc1 := hcell 1 (by omega)
        simp only [List.getElem?_cons_zero, List.getElem?_cons_succ] at cc1
        try simp only [C.ite_true, C.ite_false, C.pick_true, C.pick_false, C.not_bool, C.field_ptr, C.nilCheck_ptr, C.add_mk, C.sub_mk, C.mul_mk, C.eql_mk, C.neq_mk, C.lss_mk, C.leq_mk, C.gtr_mk, C.geq_mk, C.conv_mk, C.len_mk, C.ext_0, C.ext_1, C.ext3_0, C.ext3_1, C.ext3_2, C.guarded_yes, C.guarded_tf, C.guarded_ft, C.guarded_undef, Bool.not_true, Bool.not_false, Nat.zero_add, eq_self, decide_true, decide_false]
        by_cases hn : q < 0 ∨ q > s.i - s.o
        · have e2 : stepO m s.i s.o k q = s.o := by unfold stepO; rw [if_neg k1, if_pos k2, if_pos hn]
          rw [e2] at rest
          exact C.load1_of hga cc1 (Take_no q hg hk.toBkOk hn fun w2 hf2 he2 => rest w2 (hf.trans hf2.w) (hf2.at_ hg (by simp)))
        · have e2 : stepO m s.i s.o k q = s.o + q := by unfold stepO; rw [if_neg k1, if_pos k2, if_neg hn]
          rw [e2] at rest
          exact C.load1_of hga cc1 (Take_yes q hg hk.toBkOk (by omega) fun w2 hf2 hg2 => rest w2 (hf.trans hf2) hg2)
      · refine C.idx_rd hrd0 (by omega) hget fun ga oa cs te fz hga hl2 hcell => ?_
        have cc1 := hcell 1 (by omega)
        simp only [List.getElem?_cons_zero, List.getElem?_cons_succ] at cc1
        try simp only [C.ite_true, C.ite_false, C.pick_true, C.pick_false, C.not_bool, C.field_ptr, C.nilCheck_ptr, C.add_mk, C.sub_mk, C.mul_mk, C.eql_mk, C.neq_mk, C.lss_mk, C.leq_mk, C.gtr_mk, C.geq_mk, C.conv_mk, C.len_mk, C.ext_0, C.ext_1, C.ext3_0, C.ext3_1, C.ext3_2, C.guarded_yes, C.guarded_tf, C.guarded_ft, C.guarded_undef, Bool.not_true, Bool.not_false, Nat.zero_add, eq_self, decide_true, decide_false]
        have e2 : stepO m s.i s.o k q = s.o + clamp q 0 (s.i - s.o) := by unfold stepO; rw [if_neg k1, if_neg k2]
        rw [e2] at rest
        exact C.load1_of hga cc1 (Spend_c q hg hk.toBkOk fun w2 hf2 hg2 => rest w2 (hf.trans hf2) hg2)
theorem BankBalances_c (n : Int) {v : Value} {l : List (Int × Int)} (hr : RdS w v 2 (opsC l)) (h : ∀ w', Fr [] w w' → K (.bool true) w') : C.call Try.prog 4 #[.int .i64 n, v] w K := by
  refine F4.sh (Alive_c fun w1 hf1 => ?_)
  try simp only [C.ite_true, C.ite_false, C.pick_true, C.pick_false, C.not_bool, C.field_ptr, C.nilCheck_ptr, C.add_mk, C.sub_mk, C.mul_mk, C.eql_mk, C.neq_mk, C.lss_mk, C.leq_mk, C.gtr_mk, C.geq_mk, C.conv_mk, C.len_mk, C.ext_0, C.ext_1, C.ext3_0, C.ext3_1, C.ext3_2, C.guarded_yes, C.guarded_tf, C.guarded_ft, C.guarded_undef, Bool.not_true, Bool.not_false, Nat.zero_add, eq_self, decide_true, decide_false]
  refine F4.k3.to (New_c n fun g w2 hn2 => few_c hr fun v' hr' => ?_)
  have hl : (l.take 60).length ≤ 60 := by rw [List.length_take]; omega
  have lg : w.heap.size ≤ g := by have := hn2.is; have := hf1.size; omega
  have hrd : ∀ w', Fr [g] w2 w' → RdS w' v' 2 (opsC (l.take 60)) := fun w' hf' => hr'.keep ((hf1.trans hn2.fr).then hf' (by simp; omega))
  exact BB_loop (K := K) (n := n) rfl hrd (l.take 60).length 0 ⟨0, 0, 0⟩ w2 (by omega) (Fr.refl _ _) hn2.at_ (B := 0) ⟨BkOk.new n, Int.le_refl 0, Int.le_refl 0⟩ (by omega)
    fun w' hf' => h w' ((hf1.trans hn2.fr).then hf' (by simp; omega))
end
end Go.Proofs.YtckageghbhkklaaV
