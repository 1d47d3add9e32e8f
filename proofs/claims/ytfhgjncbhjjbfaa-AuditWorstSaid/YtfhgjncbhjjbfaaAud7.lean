/- What a bank tells at last: what the call comes to. -/
import Derived.Test.YtfhgjncbhjjbfaaAud6
import Derived.Test.YtfhgjncbhjjbfaaEq
namespace Go.Proofs.YtfhgjncbhjjbfaaV
open Go Go.Proofs Go.RowKit
set_option linter.unusedVariables false
set_option linter.unusedSimpArgs false
set_option maxRecDepth 10000
/-- What a bank has counted. -/
structure BS where
  i : Int
  o : Int
  l : Int
def bsStep (m : Int) (x : Stp) (y : Ans) (s : BS) : BS :=
  if x.k = 3 then ⟨s.i, s.o + min (clamp y.r 0 64) (s.i - s.o), s.l⟩
  else if (x.k = 15 ∨ x.k = 16) ∧ y.c = 0 then ⟨s.i + min (clamp y.d 0 64) (m - (s.i - s.o)), s.o, s.l + (clamp y.d 0 64 - min (clamp y.d 0 64) (m - (s.i - s.o)))⟩ else s
def bsAt (m : Int) (L : List Stp) (A : List Ans) (i : Nat) (s : BS) : BS := match L[i]?, A[i]? with
  | some x, some y => bsStep m x y s
  | _, _ => s
def bsRun (m : Int) (L : List Stp) (A : List Ans) : Nat → BS
  | 0 => ⟨0, 0, 0⟩
  | j + 1 => bsAt m L A j (bsRun m L A j)
theorem bsAt_get {m : Int} {L : List Stp} {A : List Ans} {i : Nat} {s : BS} (h : i < L.length) (h' : i < A.length) : bsAt m L A i s = bsStep m L[i] A[i] s := by
  unfold bsAt
  rw [List.getElem?_eq_getElem h, List.getElem?_eq_getElem h']
/-- What may be of a bank behind some steps. -/
structure BsOk (m : Int) (j : Nat) (s : BS) : Prop where
  b0 : 0 ≤ s.i - s.o
  b1 : s.i - s.o ≤ m
  i0 : 0 ≤ s.i
  o0 : 0 ≤ s.o
  l0 : 0 ≤ s.l
  i1 : s.i ≤ 64 * j
  l1 : s.l ≤ 64 * j
theorem BsOk.step {m : Int} {j : Nat} {s : BS} {x : Stp} {y : Ans} (h : BsOk m j s) : BsOk m (j + 1) (bsStep m x y s) := by
  obtain ⟨h1, h2, h3, h4, h5, h6, h7⟩ := h
  have c1 := clamp_bd y.d 0 64 (by omega)
  have c2 := clamp_bd y.r 0 64 (by omega)
  unfold bsStep
  split
  · exact ⟨by simp only; omega, by simp only; omega, by simp only; omega, by simp only; omega, by simp only; omega, by simp only; omega, by simp only; omega⟩
  · split
    · exact ⟨by simp only; omega, by simp only; omega, by simp only; omega, by simp only; omega, by simp only; omega, by simp only; omega, by simp only; omega⟩
    · exact ⟨h1, h2, h3, h4, h5, by omega, by omega⟩
theorem bsRun_ok {m : Int} (hm : 0 ≤ m) (L : List Stp) (A : List Ans) : ∀ j, BsOk m j (bsRun m L A j)
  | 0 => ⟨by simp [bsRun], by simp [bsRun]; omega, by simp [bsRun], by simp [bsRun], by simp [bsRun], by simp [bsRun], by simp [bsRun]⟩
  | j + 1 => by
    have ih := bsRun_ok hm L A j
    show BsOk m (j + 1) (bsAt m L A j _)
    unfold bsAt
    split
    · exact ih.step
    · obtain ⟨h1, h2, h3, h4, h5, h6, h7⟩ := ih
      exact ⟨h1, h2, h3, h4, h5, by omega, by omega⟩
theorem BsOk.bk {m : Int} {j : Nat} {s : BS} (hm : m ≤ 65535) (hj : j ≤ 1000000) (h : BsOk m j s) : BkOk s.i s.o s.l m := by
  obtain ⟨h1, h2, h3, h4, h5, h6, h7⟩ := h
  exact ⟨hm, h1, h2, h3, h4, h5, by omega, by omega⟩
def sumsV (s : BS) : Value := .agg #[.int .i64 (s.i - s.o), .int .i64 s.i, .int .i64 s.o, .int .i64 s.l]
def sumsB (s : BS) : Obj := .cells #[.int .i64 (s.i - s.o), .int .i64 s.i, .int .i64 s.o, .int .i64 s.l] 40 (0, 0)
theorem sumsV_ones (s : BS) : ∀ v ∈ (sumsV s).cells.toList, v.oneCell' = true := by
  intro v hv
  simp [sumsV, Value.cells] at hv
  rcases hv with rfl | rfl | rfl | rfl <;> rfl
theorem build40 {w : World} (a b c d : Int) : (Instr.build 40 #[(0, .int .i64 a), (1, .int .i64 b), (2, .int .i64 c), (3, .int .i64 d)]).run Try.prog w = .ok (.agg #[.int .i64 a, .int .i64 b, .int .i64 c, .int .i64 d]) w := by kernel_rfl
/-- What stands between the rounds of Bank. -/
structure BnkI (W0 : World) (env : Env) (p1 p2 b6 b7 g : Nat) (lv av : Value) (L : List Stp) (A : List Ans) (m : Int) (D l i : Nat) (w : World) : Prop where
  fr : Fr [] W0 w
  hl : l = D + 1
  n : W0.heap.size ≤ b6 ∧ W0.heap.size ≤ b7 ∧ W0.heap.size ≤ g ∧ W0.heap.size ≤ D
  hi : b6 < D ∧ b7 < D ∧ g < D ∧ p1 < D ∧ p2 < D
  ne : g ≠ b6 ∧ g ≠ b7 ∧ g ≠ p1 ∧ g ≠ p2 ∧ b6 ≠ b7
  r : ∃ r, w.heap[l]? = some (.loop r) ∧ LoopOk r 52 #[15, 16] F22.as3 F22.bd3 env D
  d : w.heap[D]? = some (.deferred (some []))
  p1 : w.heap[p1]? = some (.cells #[lv] 22 (0, 0))
  p2 : w.heap[p2]? = some (.cells #[av] 23 (0, 0))
  h6 : w.heap[b6]? = some (.cells #[.int .i64 0, .int .i64 0, .int .i64 0, .int .i64 0] 40 (0, 0))
  h7 : w.heap[b7]? = some (.cells #[.pointer (some ⟨g, 0, none⟩)] 70 (0, 0))
  hg : w.heap[g]? = some (bk (bsRun m L A i).i (bsRun m L A i).o (bsRun m L A i).l true m)
theorem BnkI.keep {W0 w w' : World} {env : Env} {p1 p2 b6 b7 g : Nat} {lv av : Value} {L : List Stp} {A : List Ans} {m : Int} {D l i : Nat} (h : BnkI W0 env p1 p2 b6 b7 g lv av L A m D l i w) (hf : Fr [] w w') : BnkI W0 env p1 p2 b6 b7 g lv av L A m D l i w' := by
  obtain ⟨r, hr, hr2⟩ := h.r
  exact ⟨h.fr.trans hf, h.hl, h.n, h.hi, h.ne, ⟨r, hf.at_ hr (by simp), hr2⟩, hf.at_ h.d (by simp), hf.at_ h.p1 (by simp), hf.at_ h.p2 (by simp), hf.at_ h.h6 (by simp), hf.at_ h.h7 (by simp), hf.at_ h.hg (by simp)⟩
section
variable {K : VK} {w : World}
theorem bnk_round {W0 : World} {env : Env} {p1 p2 b6 b7 g : Nat} {lv av : Value} {L : List Stp} {A : List Ans} {m : Int} {D l i : Nat} {K' : VK} (he7 : lkT env 7 = some (.pointer (some ⟨b7, 0, none⟩))) (hm : 0 ≤ m ∧ m ≤ 65535)
    (hL : L.length ≤ 1000000) (hI : BnkI W0 env p1 p2 b6 b7 g lv av L A m D l i w) (hi : i < L.length) (hi' : i < A.length) (hgo : ∀ w', BnkI W0 env p1 p2 b6 b7 g lv av L A m D l (i + 1) w' → K' (.bool true) w') :
    C.yield Try.prog l #[stpV L[i].cl, ansV A[i].cl] w K' := by
  obtain ⟨r, hr, hr2⟩ := hI.r
  have hsucc : bsRun m L A (i + 1) = bsStep m L[i] A[i] (bsRun m L A i) := bsAt_get hi hi'
  have hok := (bsRun_ok hm.1 L A i).bk hm.2 (by omega)
  have hhg := hI.hg
  generalize hX : L[i] = X at *
  generalize hY : A[i] = Y at *
  generalize hs : bsRun m L A i = s at *
  obtain ⟨n1, n2, n3, n4⟩ := hI.n
  have hhi := hI.hi
  obtain ⟨i1, i2, i3, i4, i5⟩ := hI.hi
  have hne := hI.ne
  obtain ⟨m1, m2, m3, m4, m5⟩ := hI.ne
  have hl := hI.hl
  refine R22_3.yield (y7 := .pointer (some ⟨b7, 0, none⟩)) hr hr2.sz hr2.ps hr2.as_ hr2.bd (env_of fun z hz => ?_) ?_
  · simp only [List.mem_cons, List.not_mem_nil, or_false] at hz
    subst hz
    exact hr2.env _ _ he7
  refine C.new_of fun b8 w1 hw1 => C.store_all (x := stpV X.cl) hw1.at_ rfl (stpV_ones X.cl) rfl fun w2 hu2 => C.new_of fun b9 w3 hw3 => C.store_all (x := ansV Y.cl) hw3.at_ rfl (ansV_ones Y.cl) rfl fun w4 hu4 => ?_
  have e8 := hw1.is
  have e8' := hw1.sz
  have e9 := hw3.is
  have s2 := hu2.sz
  have lr := lt_of_at hr
  have f2 : Fr [] w w2 := hw1.fr.then hu2.fr fun z hz => .inr (by simp only [List.mem_singleton] at hz; omega)
  have f4 : Fr [] w w4 := (f2.trans hw3.fr).then hu4.fr fun z hz => .inr (by simp only [List.mem_singleton] at hz; omega)
  have hI4 := hI.keep f4
  have hr4 := f4.at_ hr (by simp)
  have h8 : w4.heap[b8]? = some (stpB X.cl) := hu4.fr.at_ (hw3.fr.at_ hu2.at_ (by simp)) (by simp; omega)
  have h9 : w4.heap[b9]? = some (ansB Y.cl) := hu4.at_
  refine ⟨r, hr4, hr2.st, ?_⟩
  have hu5 := upd_put (o := .loop { r with state := .busy }) hr4
  generalize w4.putObj l (.loop { r with state := .busy }) = w5 at *
  have keep : ∀ {b : Nat} {o : Obj}, w4.heap[b]? = some o → b ≠ l → w5.heap[b]? = some o := fun hb h1 => hu5.fr.at_ hb (by simp; exact h1)
  have h8' := keep h8 (by omega)
  have h9' := keep h9 (by omega)
  have hg5 := keep (f4.at_ hhg (by simp)) (by omega)
  have h75 := keep hI4.h7 (by omega)
  -- the round's end
  have fin : ∀ {s' : BS} {w' : World}, Fr [g] w5 w' → w'.heap[g]? = some (bk s'.i s'.o s'.l true m) → bsStep m X Y s = s' → C.endr l none true .ready w' K' := by
    intro s' w' hf hg' hs'
    have hl6 : w'.heap[l]? = some (.loop { r with state := .busy }) := hf.at_ hu5.at_ (by simp; omega)
    refine ⟨_, hl6, hgo _ ?_⟩
    have hu7 := upd_put (o := .loop { r with state := .ready, pending := none }) hl6
    generalize w'.putObj l (.loop { r with state := .ready, pending := none }) = w7 at *
    have k7 : ∀ {b : Nat} {o : Obj}, w4.heap[b]? = some o → b ≠ l → b ≠ g → w7.heap[b]? = some o := fun hb h1 h2 => hu7.fr.at_ (hf.at_ (keep hb h1) (by simp; exact h2)) (by simp; exact h1)
    exact ⟨((hI4.fr.then hu5.fr fun z hz => .inr (by simp only [List.mem_singleton] at hz; omega)).then hf fun z hz => .inr (by simp only [List.mem_singleton] at hz; omega)).then hu7.fr fun z hz => .inr (by simp only [List.mem_singleton] at hz; omega), hl, hI.n, hI.hi, hI.ne, ⟨_, hu7.at_, ⟨rfl, rfl, hr2.sz, hr2.ps, hr2.as_, hr2.bd, hr2.env⟩⟩, k7 hI4.d (by omega) (by omega), k7 hI4.p1 (by omega) (Ne.symm m3), k7 hI4.p2 (by omega) (Ne.symm m4), k7 hI4.h6 (by omega) (Ne.symm m1), k7 hI4.h7 (by omega) (Ne.symm m2), by rw [hsucc, hs']; exact hu7.fr.at_ hg' (by simp; omega)⟩
  have c1 := clamp_bd Y.d 0 64 (by omega)
  have c2 := clamp_bd Y.r 0 64 (by omega)
  obtain ⟨q1, q2, q3, q4, q5, q6, q7, q8⟩ := hok
  simp only [C.ite_true, C.ite_false, C.pick_true, C.pick_false, C.not_bool, C.field_ptr, C.nilCheck_ptr, C.add_mk, C.sub_mk, C.mul_mk, C.eql_mk, C.neq_mk, C.lss_mk, C.leq_mk, C.gtr_mk, C.geq_mk, C.conv_mk, C.len_mk, C.ext_0, C.ext_1, C.ext3_0, C.ext3_1, C.ext3_2, C.guarded_yes, C.guarded_tf, C.guarded_ft, C.guarded_undef, Bool.not_true, Bool.not_false, Nat.zero_add, eq_self, decide_true, decide_false]
  refine C.load1_of (v := .int .i64 X.k) h8' rfl ?_
  simp only [C.ite_true, C.ite_false, C.pick_true, C.pick_false, C.not_bool, C.field_ptr, C.nilCheck_ptr, C.add_mk, C.sub_mk, C.mul_mk, C.eql_mk, C.neq_mk, C.lss_mk, C.leq_mk, C.gtr_mk, C.geq_mk, C.conv_mk, C.len_mk, C.ext_0, C.ext_1, C.ext3_0, C.ext3_1, C.ext3_2, C.guarded_yes, C.guarded_tf, C.guarded_ft, C.guarded_undef, Bool.not_true, Bool.not_false, Nat.zero_add, eq_self, decide_true, decide_false]
  by_cases hk : X.k = 3
  · simp only [C.ite_true, C.ite_false, C.pick_true, C.pick_false, C.not_bool, C.field_ptr, C.nilCheck_ptr, C.add_mk, C.sub_mk, C.mul_mk, C.eql_mk, C.neq_mk, C.lss_mk, C.leq_mk, C.gtr_mk, C.geq_mk, C.conv_mk, C.len_mk, C.ext_0, C.ext_1, C.ext3_0, C.ext3_1, C.ext3_2, C.guarded_yes, C.guarded_tf, C.guarded_ft, C.guarded_undef, Bool.not_true, Bool.not_false, Nat.zero_add, eq_self, decide_true, decide_false, hk]
    refine C.load1_of (v := .pointer (some ⟨g, 0, none⟩)) h75 rfl ?_
    try simp only [C.ite_true, C.ite_false, C.pick_true, C.pick_false, C.not_bool, C.field_ptr, C.nilCheck_ptr, C.add_mk, C.sub_mk, C.mul_mk, C.eql_mk, C.neq_mk, C.lss_mk, C.leq_mk, C.gtr_mk, C.geq_mk, C.conv_mk, C.len_mk, C.ext_0, C.ext_1, C.ext3_0, C.ext3_1, C.ext3_2, C.guarded_yes, C.guarded_tf, C.guarded_ft, C.guarded_undef, Bool.not_true, Bool.not_false, Nat.zero_add, eq_self, decide_true, decide_false]
    refine C.load1_of (v := .int .i64 (clamp Y.r 0 64)) h9' rfl ?_
    refine Spend_c _ hg5 ⟨q1, q2, q3, q4, q5, q6, q7, q8⟩ fun w' hf hg' => ?_
    have e : clamp (clamp Y.r 0 64) 0 (s.i - s.o) = min (clamp Y.r 0 64) (s.i - s.o) := by
      generalize clamp Y.r 0 64 = z at *
      unfold clamp
      omega
    rw [e] at hg'
    exact fin (s' := ⟨s.i, s.o + min (clamp Y.r 0 64) (s.i - s.o), s.l⟩) hf hg' (by unfold bsStep; rw [if_pos hk])
  · simp only [C.ite_true, C.ite_false, C.pick_true, C.pick_false, C.not_bool, C.field_ptr, C.nilCheck_ptr, C.add_mk, C.sub_mk, C.mul_mk, C.eql_mk, C.neq_mk, C.lss_mk, C.leq_mk, C.gtr_mk, C.geq_mk, C.conv_mk, C.len_mk, C.ext_0, C.ext_1, C.ext3_0, C.ext3_1, C.ext3_2, C.guarded_yes, C.guarded_tf, C.guarded_ft, C.guarded_undef, Bool.not_true, Bool.not_false, Nat.zero_add, eq_self, decide_true, decide_false, hk]
    refine C.load1_of (v := .int .i64 X.k) h8' rfl ?_
    simp only [C.ite_true, C.ite_false, C.pick_true, C.pick_false, C.not_bool, C.field_ptr, C.nilCheck_ptr, C.add_mk, C.sub_mk, C.mul_mk, C.eql_mk, C.neq_mk, C.lss_mk, C.leq_mk, C.gtr_mk, C.geq_mk, C.conv_mk, C.len_mk, C.ext_0, C.ext_1, C.ext3_0, C.ext3_1, C.ext3_2, C.guarded_yes, C.guarded_tf, C.guarded_ft, C.guarded_undef, Bool.not_true, Bool.not_false, Nat.zero_add, eq_self, decide_true, decide_false]
    have no : ¬ ((X.k = 15 ∨ X.k = 16) ∧ Y.c = 0) → C.endr l none true .ready w5 K' := fun hc => fin (s' := s) (Fr.refl _ _) hg5 (by unfold bsStep; rw [if_neg hk, if_neg hc])
    have yes : (X.k = 15 ∨ X.k = 16) → C.load1 (.pointer (some ⟨b9, 0, none⟩)) w5 fun x36 w21 => C.int .eql x36 (.int .i64 0) w21 fun x37 w22 => C.pick (some (.bool true)) (some x37) (some (.bool false)) w22 fun x38 w23 => C.ite x38 (C.load1 (.pointer (some ⟨b7, 0, none⟩)) w23 fun x39 w24 => C.load1 (.pointer (some ⟨b9, 3, none⟩)) w24 fun x41 w26 => C.call Try.prog 57 #[x39, x41] w26 fun x42 w27 => C.endr l none true .ready w27 K') (C.endr l none true .ready w23 K') := fun hk2 => by
      refine C.load1_of (v := .int .i64 Y.c) h9' rfl ?_
      simp only [C.ite_true, C.ite_false, C.pick_true, C.pick_false, C.not_bool, C.field_ptr, C.nilCheck_ptr, C.add_mk, C.sub_mk, C.mul_mk, C.eql_mk, C.neq_mk, C.lss_mk, C.leq_mk, C.gtr_mk, C.geq_mk, C.conv_mk, C.len_mk, C.ext_0, C.ext_1, C.ext3_0, C.ext3_1, C.ext3_2, C.guarded_yes, C.guarded_tf, C.guarded_ft, C.guarded_undef, Bool.not_true, Bool.not_false, Nat.zero_add, eq_self, decide_true, decide_false]
      by_cases hc : Y.c = 0
      · simp only [C.ite_true, C.ite_false, C.pick_true, C.pick_false, C.not_bool, C.field_ptr, C.nilCheck_ptr, C.add_mk, C.sub_mk, C.mul_mk, C.eql_mk, C.neq_mk, C.lss_mk, C.leq_mk, C.gtr_mk, C.geq_mk, C.conv_mk, C.len_mk, C.ext_0, C.ext_1, C.ext3_0, C.ext3_1, C.ext3_2, C.guarded_yes, C.guarded_tf, C.guarded_ft, C.guarded_undef, Bool.not_true, Bool.not_false, Nat.zero_add, eq_self, decide_true, decide_false, hc]
        refine C.load1_of (v := .pointer (some ⟨g, 0, none⟩)) h75 rfl (C.load1_of (v := .int .i64 (clamp Y.d 0 64)) h9' rfl ?_)
        refine Put_c _ hg5 ⟨q1, q2, q3, q4, q5, q6, q7, q8⟩ fun w' hf hg' => ?_
        have e : clamp (clamp Y.d 0 64) 0 2147483648 = clamp Y.d 0 64 := by
          generalize clamp Y.d 0 64 = z at *
          unfold clamp
          omega
        rw [e] at hg'
        exact fin (s' := ⟨s.i + min (clamp Y.d 0 64) (m - (s.i - s.o)), s.o, s.l + (clamp Y.d 0 64 - min (clamp Y.d 0 64) (m - (s.i - s.o)))⟩) hf hg' (by unfold bsStep; rw [if_neg hk, if_pos ⟨hk2, hc⟩])
      · simp only [C.ite_true, C.ite_false, C.pick_true, C.pick_false, C.not_bool, C.field_ptr, C.nilCheck_ptr, C.add_mk, C.sub_mk, C.mul_mk, C.eql_mk, C.neq_mk, C.lss_mk, C.leq_mk, C.gtr_mk, C.geq_mk, C.conv_mk, C.len_mk, C.ext_0, C.ext_1, C.ext3_0, C.ext3_1, C.ext3_2, C.guarded_yes, C.guarded_tf, C.guarded_ft, C.guarded_undef, Bool.not_true, Bool.not_false, Nat.zero_add, eq_self, decide_true, decide_false, hc]
        exact no fun c => hc c.2
    by_cases h15 : X.k = 15
    · have := yes (.inl h15)
      simp only [C.ite_true, C.ite_false, C.pick_true, C.pick_false, C.not_bool, C.field_ptr, C.nilCheck_ptr, C.add_mk, C.sub_mk, C.mul_mk, C.eql_mk, C.neq_mk, C.lss_mk, C.leq_mk, C.gtr_mk, C.geq_mk, C.conv_mk, C.len_mk, C.ext_0, C.ext_1, C.ext3_0, C.ext3_1, C.ext3_2, C.guarded_yes, C.guarded_tf, C.guarded_ft, C.guarded_undef, Bool.not_true, Bool.not_false, Nat.zero_add, eq_self, decide_true, decide_false, h15] at this ⊢
      exact this
    · simp only [C.ite_true, C.ite_false, C.pick_true, C.pick_false, C.not_bool, C.field_ptr, C.nilCheck_ptr, C.add_mk, C.sub_mk, C.mul_mk, C.eql_mk, C.neq_mk, C.lss_mk, C.leq_mk, C.gtr_mk, C.geq_mk, C.conv_mk, C.len_mk, C.ext_0, C.ext_1, C.ext3_0, C.ext3_1, C.ext3_2, C.guarded_yes, C.guarded_tf, C.guarded_ft, C.guarded_undef, Bool.not_true, Bool.not_false, Nat.zero_add, eq_self, decide_true, decide_false, h15]
      refine C.load1_of (v := .int .i64 X.k) h8' rfl ?_
      simp only [C.ite_true, C.ite_false, C.pick_true, C.pick_false, C.not_bool, C.field_ptr, C.nilCheck_ptr, C.add_mk, C.sub_mk, C.mul_mk, C.eql_mk, C.neq_mk, C.lss_mk, C.leq_mk, C.gtr_mk, C.geq_mk, C.conv_mk, C.len_mk, C.ext_0, C.ext_1, C.ext3_0, C.ext3_1, C.ext3_2, C.guarded_yes, C.guarded_tf, C.guarded_ft, C.guarded_undef, Bool.not_true, Bool.not_false, Nat.zero_add, eq_self, decide_true, decide_false]
      by_cases h16 : X.k = 16
      · have := yes (.inr h16)
        simp only [C.ite_true, C.ite_false, C.pick_true, C.pick_false, C.not_bool, C.field_ptr, C.nilCheck_ptr, C.add_mk, C.sub_mk, C.mul_mk, C.eql_mk, C.neq_mk, C.lss_mk, C.leq_mk, C.gtr_mk, C.geq_mk, C.conv_mk, C.len_mk, C.ext_0, C.ext_1, C.ext3_0, C.ext3_1, C.ext3_2, C.guarded_yes, C.guarded_tf, C.guarded_ft, C.guarded_undef, Bool.not_true, Bool.not_false, Nat.zero_add, eq_self, decide_true, decide_false, h16] at this ⊢
        exact this
      · simp only [C.ite_true, C.ite_false, C.pick_true, C.pick_false, C.not_bool, C.field_ptr, C.nilCheck_ptr, C.add_mk, C.sub_mk, C.mul_mk, C.eql_mk, C.neq_mk, C.lss_mk, C.leq_mk, C.gtr_mk, C.geq_mk, C.conv_mk, C.len_mk, C.ext_0, C.ext_1, C.ext3_0, C.ext3_1, C.ext3_2, C.guarded_yes, C.guarded_tf, C.guarded_ft, C.guarded_undef, Bool.not_true, Bool.not_false, Nat.zero_add, eq_self, decide_true, decide_false, h16]
        exact no fun c => c.1.elim h15 h16
theorem Bank_c {room : Int} {lv av : Value} {L : List Stp} {A : List Ans} (r1 : RdS w lv 7 (stpC L)) (r2 : RdS w av 5 (ansC A)) (hL : L.length ≤ 1000000) (h : ∀ w', Fr [] w w' → K (sumsV (bsRun (clamp room 0 65535) L A (min L.length A.length))) w') : C.call Try.prog 22 #[.int .i64 room, lv, av] w K := by
  have hm := clamp_bd room 0 65535 (by omega)
  refine F22.sh (C.new_of fun b6 w1 hw1 => bank_New_c _ fun g w2 hw2 => C.new_of fun b7 w3 hw3 => C.store1_of hw3.at_ rfl rfl (by simp) fun w4 hu4 => ?_)
  generalize clamp room 0 65535 = m at *
  have e6 := hw1.is
  have e6' := hw1.sz
  have eg := hw2.is
  have eg' := hw2.sz
  have e7 := hw3.is
  have e7' := hw3.sz
  have s4 := hu4.sz
  have f3 := (hw1.fr.trans hw2.fr).trans hw3.fr
  have f4 : Fr [] w w4 := f3.then hu4.fr fun z hz => .inr (by simp only [List.mem_singleton] at hz; omega)
  refine both_new (r1.keep f4) (r2.keep f4) fun p1 p2 w5 hf5 q1 q2 hp1 hp2 => ?_
  have f5 := f4.trans hf5
  have lp1 := lt_of_at hp1
  have lp2 := lt_of_at hp2
  have hb6 : w5.heap[b6]? = some (.cells #[.int .i64 0, .int .i64 0, .int .i64 0, .int .i64 0] 40 (0, 0)) := hf5.at_ (hu4.fr.at_ (hw3.fr.at_ (hw2.fr.at_ hw1.at_ (by simp)) (by simp)) (by simp; omega)) (by simp)
  have hbg : w5.heap[g]? = some (bk 0 0 0 true m) := hf5.at_ (hu4.fr.at_ (hw3.fr.at_ hw2.at_ (by simp)) (by simp; omega)) (by simp)
  have hb7 : w5.heap[b7]? = some (.cells #[.pointer (some ⟨g, 0, none⟩)] 70 (0, 0)) := hf5.at_ hu4.at_ (by simp)
  have sz5 := hf5.size
  generalize henv : [(14, Value.func (.func 84) #[] #[.pointer (some ⟨p1, 0, none⟩), .pointer (some ⟨p2, 0, none⟩)]), (13, av), (12, lv), (7, Value.pointer (some ⟨b7, 0, none⟩)), (11, Value.pointer (some ⟨g, 0, none⟩)), (10, Value.int .i64 room), (6, Value.pointer (some ⟨b6, 0, none⟩)), (0, Value.int .i64 room), (1, lv), (2, av)] = env
  have he7 : lkT env 7 = some (.pointer (some ⟨b7, 0, none⟩)) := by rw [← henv]; rfl
  refine range_both (L := L) (A := A) (lv := lv) (av := av) (I := fun D l i w' => BnkI w env p1 p2 b6 b7 g lv av L A m D l i w') (Stop := fun D l w' => False) (by omega) (fun D l i w' hI => ⟨hI.p1, hI.p2, r1.keep hI.fr, r2.keep hI.fr⟩) (fun D l i w' w'' hI hf => hI.keep hf)
    (fun D l i w' K' hi hi' hI hgo hst => bnk_round he7 hm hL hI hi hi' hgo) (fun r w' hr hf hd hl hs => ?_) (fun w' hI => ?_) (fun w' hS => hS.elim)
  · exact ⟨f5.trans hf, rfl, ⟨by omega, by omega, by omega, by omega⟩, ⟨by omega, by omega, by omega, lp1, lp2⟩, ⟨by omega, by omega, by omega, by omega, by omega⟩, ⟨r, hl, hr⟩, hd, hf.at_ hp1 (by simp), hf.at_ hp2 (by simp), hf.at_ hb6 (by simp), hf.at_ hb7 (by simp), hf.at_ hbg (by simp)⟩
  · obtain ⟨r, hr, hr2⟩ := hI.r
    obtain ⟨n1, n2, n3, n4⟩ := hI.n
    obtain ⟨i1, i2, i3, i4, i5⟩ := hI.hi
    obtain ⟨m1, m2, m3, m4, m5⟩ := hI.ne
    have hok := (bsRun_ok hm.1 L A (min L.length A.length)).bk hm.2 (by omega)
    have hIg := hI.hg
    generalize bsRun m L A (min L.length A.length) = s at *
    refine ⟨r, hr, by rw [hr2.st]; simp, ?_⟩
    have hu := upd_put (o := .loop { r with state := .exhausted }) hr
    generalize w'.putObj (w5.heap.size + 1) (.loop { r with state := .exhausted }) = w6 at *
    rw [hr2.pe]
    have k6 : ∀ {b : Nat} {o : Obj}, w'.heap[b]? = some o → b ≠ w5.heap.size + 1 → w6.heap[b]? = some o := fun hb h1 => hu.fr.at_ hb (by simp; exact h1)
    have f6 : Fr [] w w6 := hI.fr.then hu.fr fun z hz => .inr (by simp only [List.mem_singleton] at hz; omega)
    have g6 := k6 hIg (by omega)
    have h76 := k6 hI.h7 (by omega)
    refine F22.k9.to (C.draw_of (fun w' => w'.heap[b7]? = some (.cells #[.pointer (some ⟨g, 0, none⟩)] 70 (0, 0)) ∧ w'.heap[g]? = some (bk s.i s.o s.l true m)) fun w7 hf7 he7 => ⟨⟨by rw [he7]; exact h76, by rw [he7]; exact g6⟩, ?_⟩)
    refine C.load1S_of (v := .pointer (some ⟨g, 0, none⟩)) (fun w' hw => ⟨_, _, _, hw.1, rfl⟩) (C.load1S_of (v := .pointer (some ⟨g, 0, none⟩)) (fun w' hw => ⟨_, _, _, hw.1, rfl⟩) (C.load1S_of (v := .pointer (some ⟨g, 0, none⟩)) (fun w' hw => ⟨_, _, _, hw.1, rfl⟩) (C.load1S_of (v := .pointer (some ⟨g, 0, none⟩)) (fun w' hw => ⟨_, _, _, hw.1, rfl⟩) ?_)))
    have g7 : w7.heap[g]? = some (bk s.i s.o s.l true m) := by rw [he7]; exact g6
    have h77 : w7.heap[b7]? = some (.cells #[.pointer (some ⟨g, 0, none⟩)] 70 (0, 0)) := by rw [he7]; exact h76
    refine ⟨Balance_c g7 fun w8 hf8 he8 => ?_, trivial⟩
    have g8 : w8.heap[g]? = some (bk s.i s.o s.l true m) := by rw [he8]; exact g7
    have h78 : w8.heap[b7]? = some (.cells #[.pointer (some ⟨g, 0, none⟩)] 70 (0, 0)) := by rw [he8]; exact h77
    have hh : w8.heap = w6.heap := he8.trans he7
    obtain ⟨q1, q2, q3, q4, q5, q6, q7, q8⟩ := hok
    rw [wrap64_id (n := s.i - s.o) (by omega)]
    refine ⟨⟨h78, g8⟩, ⟨bank_In_c g8 ⟨⟨h78, g8⟩, ⟨bank_Out_c g8 ⟨⟨h78, g8⟩, ⟨Lost_c g8 ⟨⟨h78, g8⟩, ⟨_, fun w' _ => build40 _ _ _ _, ?_, trivial⟩⟩, trivial⟩⟩, trivial⟩⟩, trivial⟩⟩
    have h68 : w8.heap[b6]? = some (.cells #[.int .i64 0, .int .i64 0, .int .i64 0, .int .i64 0] 40 (0, 0)) := by rw [hh]; exact k6 hI.h6 (by omega)
    have d8 : w8.heap[w5.heap.size]? = some (.deferred (some [])) := by rw [hh]; exact k6 hI.d (by omega)
    refine C.store_all (x := sumsV s) h68 rfl (sumsV_ones s) rfl fun w9 hu9 => ⟨⟨hu9.fr.at_ h78 (by simp; omega), hu9.fr.at_ g8 (by simp; omega)⟩, ?_⟩
    have d9 := hu9.fr.at_ d8 (by simp; omega)
    refine ⟨d9, ?_⟩
    have hu10 := upd_put (o := .deferred none) d9
    rw [Int.toNat_natCast]
    generalize w9.putObj w5.heap.size (.deferred none) = w10 at *
    refine C.loadA_all (hu10.fr.at_ hu9.at_ (by simp; omega)) rfl ?_
    exact h w10 ((((f6.trans hf7).trans hf8).then hu9.fr fun z hz => .inr (by simp only [List.mem_singleton] at hz; omega)).then hu10.fr fun z hz => .inr (by simp only [List.mem_singleton] at hz; omega))
/-- Sums, compared. -/
theorem eq40 (x y : Operand) (s t : BS) : (do eqGuard .eql 40 x y (sumsV s) (sumsV t); binOp .eql 40 (sumsV s) (sumsV t) : Sem Value).run Try.prog w = .ok (.bool ([s.i - s.o, s.i, s.o, s.l] == [t.i - t.o, t.i, t.o, t.l])) w :=
  eq_ints (ks := [.i64, .i64, .i64, .i64]) x y Try.underlying40 (by kernel_rfl) (by kernel_rfl) (by kernel_rfl) [s.i - s.o, s.i, s.o, s.l] [t.i - t.o, t.i, t.o, t.l] rfl rfl
end
end Go.Proofs.YtfhgjncbhjjbfaaV
