/- A thread's letters, as the audit tells them: what the call comes to. -/
import Derived.Test.YtfhgjncbhjjbfaaAud3
namespace Go.Proofs.YtfhgjncbhjjbfaaV
open Go Go.Proofs Go.RowKit
set_option linter.unusedVariables false
set_option linter.unusedSimpArgs false
set_option maxRecDepth 10000
/-- What stands between the rounds of Letters. -/
structure LtrI (W0 : World) (env : Env) (p1 p2 b5 b7 b8 : Nat) (lv av : Value) (L : List Stp) (A : List Ans) (t : Int) (D l i : Nat) (w : World) : Prop where
  fr : Fr [] W0 w
  hl : l = D + 1
  n : W0.heap.size ≤ b5 ∧ W0.heap.size ≤ b7 ∧ W0.heap.size ≤ b8 ∧ W0.heap.size ≤ D
  hi : b5 < D ∧ b7 < D ∧ b8 < D ∧ p1 < D ∧ p2 < D
  ne : b7 ≠ b5 ∧ b7 ≠ b8 ∧ b7 ≠ p1 ∧ b7 ≠ p2
  r : ∃ r, w.heap[l]? = some (.loop r) ∧ LoopOk r 69 #[16, 17] F18.as4 F18.bd4 env D
  d : w.heap[D]? = some (.deferred (some []))
  p1 : w.heap[p1]? = some (.cells #[lv] 22 (0, 0))
  p2 : w.heap[p2]? = some (.cells #[av] 23 (0, 0))
  h5 : w.heap[b5]? = some (.cells #[.int .i64 t] 3 (0, 0))
  h8 : w.heap[b8]? = some (.cells #[.func (.func 52) #[] #[.pointer (some ⟨b7, 0, none⟩)]] 67 (0, 0))
  o : ∃ ov, w.heap[b7]? = some (.cells #[ov] 33 (0, 0)) ∧ OwnS w ov 4 1 (boolC (ltrL t L A i)) ∧ ∀ g ∈ blkS ov, D + 2 ≤ g
theorem LtrI.keep {W0 w w' : World} {env : Env} {p1 p2 b5 b7 b8 : Nat} {lv av : Value} {L : List Stp} {A : List Ans} {t : Int} {D l i : Nat} (h : LtrI W0 env p1 p2 b5 b7 b8 lv av L A t D l i w) (hf : Fr [] w w') : LtrI W0 env p1 p2 b5 b7 b8 lv av L A t D l i w' := by
  obtain ⟨r, hr, hr2⟩ := h.r
  obtain ⟨ov, o1, o2, o3⟩ := h.o
  exact ⟨h.fr.trans hf, h.hl, h.n, h.hi, h.ne, ⟨r, hf.at_ hr (by simp), hr2⟩, hf.at_ h.d (by simp), hf.at_ h.p1 (by simp), hf.at_ h.p2 (by simp), hf.at_ h.h5 (by simp), hf.at_ h.h8 (by simp), ov, hf.at_ o1 (by simp), o2.keep hf (by simp), o3⟩
/-- In a round: the step and the answer lie in blocks of their own; some letters are there. -/
structure LtrR (W0 : World) (env : Env) (p1 p2 b5 b7 b8 : Nat) (lv av : Value) (t : Int) (D l : Nat) (r : Loop) (b9 b10 : Nat) (x : Stp) (y : Ans) (out : List Bool) (w : World) : Prop where
  fr : Fr [] W0 w
  r : w.heap[l]? = some (.loop { r with state := .busy })
  d : w.heap[D]? = some (.deferred (some []))
  p1 : w.heap[p1]? = some (.cells #[lv] 22 (0, 0))
  p2 : w.heap[p2]? = some (.cells #[av] 23 (0, 0))
  h5 : w.heap[b5]? = some (.cells #[.int .i64 t] 3 (0, 0))
  h8 : w.heap[b8]? = some (.cells #[.func (.func 52) #[] #[.pointer (some ⟨b7, 0, none⟩)]] 67 (0, 0))
  h9 : w.heap[b9]? = some (stpB x)
  h10 : w.heap[b10]? = some (ansB y)
  o : ∃ ov, w.heap[b7]? = some (.cells #[ov] 33 (0, 0)) ∧ OwnS w ov 4 1 (boolC out) ∧ (∀ g ∈ blkS ov, D + 2 ≤ g) ∧ b9 ∉ blkS ov ∧ b10 ∉ blkS ov
section
variable {K : VK} {w : World}
theorem LtrR.put {W0 : World} {env : Env} {p1 p2 b5 b7 b8 : Nat} {lv av : Value} {t : Int} {D l : Nat} {r : Loop} {b9 b10 n : Nat} {x : Stp} {y : Ans} {out : List Bool} {b : Bool} (h : LtrR W0 env p1 p2 b5 b7 b8 lv av t D l r b9 b10 x y out w) (hl : l = D + 1) (hn0 : W0.heap.size ≤ b7 ∧ W0.heap.size ≤ D) (hi : b5 < D ∧ b7 < D ∧ b8 < D ∧ p1 < D ∧ p2 < D) (ne : b7 ≠ b5 ∧ b7 ≠ b8 ∧ b7 ≠ p1 ∧ b7 ≠ p2) (h9 : D + 2 ≤ b9 ∧ D + 2 ≤ b10) (hn : n ≤ 1024) (ho : out.length ≤ 1000000)
    (hk : ∀ w', LtrR W0 env p1 p2 b5 b7 b8 lv av t D l r b9 b10 x y (out ++ List.replicate n b) w' → K (.tuple #[]) w') : vcCall Try.prog (.func (.func 52) #[] #[.pointer (some ⟨b7, 0, none⟩)]) [.int .i64 (n : Int), .bool b] w K := by
  obtain ⟨ov, o1, o2, o3, o4, o5⟩ := h.o
  have ll := lt_of_at h.r
  have l9 := lt_of_at h.h9
  have l10 := lt_of_at h.h10
  obtain ⟨i1, i2, i3, i4, i5⟩ := hi
  obtain ⟨n1, n2, n3, n4⟩ := ne
  refine put_c (lo := D + 2) (W0 := W0) hn ho h.fr o1 hn0.1 o2 o3 ⟨by omega, by omega, by omega⟩ fun ov' w' f1 k1 k2 _ q1 q2 q3 q4 => hk w' ⟨f1, k1 _ _ (by omega) (by omega) h.r, k1 _ _ (by omega) (by omega) h.d, k1 _ _ (by omega) (Ne.symm n3) h.p1, k1 _ _ (by omega) (Ne.symm n4) h.p2, k1 _ _ (by omega) (Ne.symm n1) h.h5, k1 _ _ (by omega) (Ne.symm n2) h.h8, k2 _ _ o4 (by omega) h.h9, k2 _ _ o5 (by omega) h.h10, ov', q1, q2, q3, fun c => ?_, fun c => ?_⟩
  · rcases q4 _ c with d | d
    · exact o4 d
    · omega
  · rcases q4 _ c with d | d
    · exact o5 d
    · omega
theorem ltr_round {W0 : World} {env : Env} {p1 p2 b5 b7 b8 : Nat} {lv av : Value} {L : List Stp} {A : List Ans} {t : Int} {D l i : Nat} {K' : VK} (he5 : lkT env 5 = some (.pointer (some ⟨b5, 0, none⟩))) (he8 : lkT env 8 = some (.pointer (some ⟨b8, 0, none⟩)))
    (hL : L.length ≤ 60) (hI : LtrI W0 env p1 p2 b5 b7 b8 lv av L A t D l i w) (hi : i < L.length) (hi' : i < A.length) (hgo : ∀ w', LtrI W0 env p1 p2 b5 b7 b8 lv av L A t D l (i + 1) w' → K' (.bool true) w') :
    C.yield Try.prog l #[stpV L[i].cl, ansV A[i].cl] w K' := by
  obtain ⟨r, hr, hr2⟩ := hI.r
  have hsucc : ltrL t L A (i + 1) = ltrL t L A i ++ ltrS t L[i] A[i] := by show _ ++ _ = _; rw [ltrAt_get hi hi']
  have hlen := ltrL_len t L A i
  have hmul := mul_bd A[i].d L[i].c
  generalize hout : ltrL t L A i = out at *
  generalize hX : L[i] = X at *
  generalize hY : A[i] = Y at *
  obtain ⟨n1, n2, n3, n4⟩ := hI.n
  have hhi := hI.hi
  obtain ⟨i1, i2, i3, i4, i5⟩ := hI.hi
  have hne := hI.ne
  have hl := hI.hl
  refine R18_4.yield (y5 := .pointer (some ⟨b5, 0, none⟩)) (y8 := .pointer (some ⟨b8, 0, none⟩)) hr hr2.sz hr2.ps hr2.as_ hr2.bd (env_of fun z hz => ?_) ?_
  · simp only [List.mem_cons, List.not_mem_nil, or_false] at hz
    rcases hz with rfl | rfl
    · exact hr2.env _ _ he5
    · exact hr2.env _ _ he8
  refine C.new_of fun b9 w1 hw1 => C.store_all (x := stpV X.cl) hw1.at_ rfl (stpV_ones X.cl) rfl fun w2 hu2 => C.new_of fun b10 w3 hw3 => C.store_all (x := ansV Y.cl) hw3.at_ rfl (ansV_ones Y.cl) rfl fun w4 hu4 => ?_
  have e9 := hw1.is
  have e9' := hw1.sz
  have e10 := hw3.is
  have s2 := hu2.sz
  have ll := lt_of_at hr
  have f2 : Fr [] w w2 := hw1.fr.then hu2.fr fun z hz => .inr (by simp only [List.mem_singleton] at hz; omega)
  have f4 : Fr [] w w4 := (f2.trans hw3.fr).then hu4.fr fun z hz => .inr (by simp only [List.mem_singleton] at hz; omega)
  have hI4 := hI.keep f4
  have hr4 := f4.at_ hr (by simp)
  have h9 : w4.heap[b9]? = some (stpB X.cl) := hu4.fr.at_ (hw3.fr.at_ hu2.at_ (by simp)) (by simp; omega)
  have h10 : w4.heap[b10]? = some (ansB Y.cl) := hu4.at_
  refine ⟨r, hr4, hr2.st, ?_⟩
  have hu5 := upd_put (o := .loop { r with state := .busy }) hr4
  generalize w4.putObj l (.loop { r with state := .busy }) = w5 at *
  have keep : ∀ {b : Nat} {o : Obj}, w4.heap[b]? = some o → b ≠ l → w5.heap[b]? = some o := fun hb hne => hu5.fr.at_ hb (by simp; exact hne)
  have hR : LtrR W0 env p1 p2 b5 b7 b8 lv av t D l r b9 b10 X.cl Y.cl out w5 := by
    obtain ⟨ov, o1, o2, o3⟩ := hI4.o
    obtain ⟨ovx, ox1, ox2, ox3⟩ := hI.o
    have eov : ovx = ov := by
      have := f4.at_ ox1 (by simp)
      rw [o1] at this
      simp only [Option.some.injEq, Obj.cells.injEq, and_true] at this
      exact (by simpa using this.symm)
    subst eov
    rw [hout] at o2
    have lov := ox2.mem_lt
    exact ⟨hI4.fr.then hu5.fr fun z hz => .inr (by simp only [List.mem_singleton] at hz; omega), hu5.at_, keep hI4.d (by omega), keep hI4.p1 (by omega), keep hI4.p2 (by omega), keep hI4.h5 (by omega), keep hI4.h8 (by omega), keep h9 (by omega), keep h10 (by omega), ovx, keep o1 (by omega), o2.keep' hu5.fr fun g hg c => by simp only [List.mem_singleton] at c; have := o3 g hg; omega, o3, fun c => by have := lov _ c; omega, fun c => by have := lov _ c; omega⟩
  -- the round's end
  have fin : ∀ w', LtrR W0 env p1 p2 b5 b7 b8 lv av t D l r b9 b10 X.cl Y.cl (out ++ ltrS t X Y) w' → C.endr l none true .ready w' K' := by
    intro w' h
    refine ⟨_, h.r, hgo _ ?_⟩
    have hu7 := upd_put (o := .loop { r with state := .ready, pending := none }) h.r
    generalize w'.putObj l (.loop { r with state := .ready, pending := none }) = w7 at *
    have k7 : ∀ {b : Nat} {o : Obj}, w'.heap[b]? = some o → b ≠ l → w7.heap[b]? = some o := fun hb h1 => hu7.fr.at_ hb (by simp; exact h1)
    obtain ⟨ov, o1, o2, o3, _⟩ := h.o
    exact ⟨h.fr.then hu7.fr fun z hz => .inr (by simp only [List.mem_singleton] at hz; omega), hl, hI.n, hI.hi, hne, ⟨_, hu7.at_, ⟨rfl, rfl, hr2.sz, hr2.ps, hr2.as_, hr2.bd, hr2.env⟩⟩, k7 h.d (by omega), k7 h.p1 (by omega), k7 h.p2 (by omega), k7 h.h5 (by omega), k7 h.h8 (by omega), ov, k7 o1 (by omega), by rw [hsucc]; exact o2.keep' hu7.fr fun g hg c => by simp only [List.mem_singleton] at c; have := o3 g hg; omega, o3⟩
  simp only [C.ite_true, C.ite_false, C.pick_true, C.pick_false, C.not_bool, C.field_ptr, C.nilCheck_ptr, C.add_mk, C.sub_mk, C.mul_mk, C.eql_mk, C.neq_mk, C.lss_mk, C.leq_mk, C.gtr_mk, C.geq_mk, C.conv_mk, C.len_mk, C.ext_0, C.ext_1, C.ext3_0, C.ext3_1, C.ext3_2, C.guarded_yes, C.guarded_tf, C.guarded_ft, C.guarded_undef, Bool.not_true, Bool.not_false, Nat.zero_add, eq_self, decide_true, decide_false]
  refine C.load1_of (v := .int .i64 X.t) hR.h9 rfl (C.load1_of (v := .int .i64 t) hR.h5 rfl ?_)
  by_cases hT : X.t = t
  · have e : ¬ (X.t ≠ t) := fun c => c hT
    simp only [C.ite_true, C.ite_false, C.pick_true, C.pick_false, C.not_bool, C.field_ptr, C.nilCheck_ptr, C.add_mk, C.sub_mk, C.mul_mk, C.eql_mk, C.neq_mk, C.lss_mk, C.leq_mk, C.gtr_mk, C.geq_mk, C.conv_mk, C.len_mk, C.ext_0, C.ext_1, C.ext3_0, C.ext3_1, C.ext3_2, C.guarded_yes, C.guarded_tf, C.guarded_ft, C.guarded_undef, Bool.not_true, Bool.not_false, Nat.zero_add, eq_self, decide_true, decide_false, e]
    have hS : ltrS t X Y = ltrA X Y ++ ltrB X Y ++ ltrC X Y := if_pos hT
    rw [hS] at fin
    have lA : (ltrA X Y).length ≤ 1024 := by unfold ltrA; split <;> simp; omega
    have lB : (ltrB X Y).length ≤ 1 := by unfold ltrB; split <;> simp
    -- a halt
    have pC : ∀ w', LtrR W0 env p1 p2 b5 b7 b8 lv av t D l r b9 b10 X.cl Y.cl (out ++ ltrA X Y ++ ltrB X Y) w' → R18_4.k12 l K' (.pointer (some ⟨b8, 0, none⟩)) (.pointer (some ⟨b9, 0, none⟩)) (.bool (decide (Y.c = 0))) w' := by
      intro w' h
      refine R18_4.k12.to ?_
      simp only [C.ite_true, C.ite_false, C.pick_true, C.pick_false, C.not_bool, C.field_ptr, C.nilCheck_ptr, C.add_mk, C.sub_mk, C.mul_mk, C.eql_mk, C.neq_mk, C.lss_mk, C.leq_mk, C.gtr_mk, C.geq_mk, C.conv_mk, C.len_mk, C.ext_0, C.ext_1, C.ext3_0, C.ext3_1, C.ext3_2, C.guarded_yes, C.guarded_tf, C.guarded_ft, C.guarded_undef, Bool.not_true, Bool.not_false, Nat.zero_add, eq_self, decide_true, decide_false]
      refine C.load1_of (v := .int .i64 X.k) h.h9 rfl ?_
      simp only [C.ite_true, C.ite_false, C.pick_true, C.pick_false, C.not_bool, C.field_ptr, C.nilCheck_ptr, C.add_mk, C.sub_mk, C.mul_mk, C.eql_mk, C.neq_mk, C.lss_mk, C.leq_mk, C.gtr_mk, C.geq_mk, C.conv_mk, C.len_mk, C.ext_0, C.ext_1, C.ext3_0, C.ext3_1, C.ext3_2, C.guarded_yes, C.guarded_tf, C.guarded_ft, C.guarded_undef, Bool.not_true, Bool.not_false, Nat.zero_add, eq_self, decide_true, decide_false]
      have no : ¬ (X.k = 13 ∧ Y.c = 0) → C.endr l none true .ready w' K' := fun hc => by
        refine fin w' ?_
        have : ltrC X Y = [] := if_neg hc
        rw [this, List.append_nil, ← List.append_assoc]
        exact h
      by_cases hk : X.k = 13
      · simp only [C.ite_true, C.ite_false, C.pick_true, C.pick_false, C.not_bool, C.field_ptr, C.nilCheck_ptr, C.add_mk, C.sub_mk, C.mul_mk, C.eql_mk, C.neq_mk, C.lss_mk, C.leq_mk, C.gtr_mk, C.geq_mk, C.conv_mk, C.len_mk, C.ext_0, C.ext_1, C.ext3_0, C.ext3_1, C.ext3_2, C.guarded_yes, C.guarded_tf, C.guarded_ft, C.guarded_undef, Bool.not_true, Bool.not_false, Nat.zero_add, eq_self, decide_true, decide_false, hk]
        by_cases hc : Y.c = 0
        · simp only [C.ite_true, C.ite_false, C.pick_true, C.pick_false, C.not_bool, C.field_ptr, C.nilCheck_ptr, C.add_mk, C.sub_mk, C.mul_mk, C.eql_mk, C.neq_mk, C.lss_mk, C.leq_mk, C.gtr_mk, C.geq_mk, C.conv_mk, C.len_mk, C.ext_0, C.ext_1, C.ext3_0, C.ext3_1, C.ext3_2, C.guarded_yes, C.guarded_tf, C.guarded_ft, C.guarded_undef, Bool.not_true, Bool.not_false, Nat.zero_add, eq_self, decide_true, decide_false, hc]
          refine C.load1_of (v := .func (.func 52) #[] #[.pointer (some ⟨b7, 0, none⟩)]) h.h8 rfl ?_
          refine C.load1_of (v := .int .i64 X.n) h.h9 rfl (C.run_of (max2_run _ _ _ _ _) (C.run_of (min2_run _ _ _ _ _) ?_))
          have e2 : min (max X.n 0) 64 = (((min (max X.n 0) 64).toNat : Nat) : Int) := by omega
          rw [e2]
          refine h.put hl ⟨n2, n4⟩ hhi hne ⟨by omega, by omega⟩ (by omega) (by simp; omega) fun w'' h'' => fin w'' ?_
          have : ltrC X Y = List.replicate (min (max X.n 0) 64).toNat false := if_pos ⟨hk, hc⟩
          rw [this, ← List.append_assoc, ← List.append_assoc]
          exact h''
        · simp only [C.ite_true, C.ite_false, C.pick_true, C.pick_false, C.not_bool, C.field_ptr, C.nilCheck_ptr, C.add_mk, C.sub_mk, C.mul_mk, C.eql_mk, C.neq_mk, C.lss_mk, C.leq_mk, C.gtr_mk, C.geq_mk, C.conv_mk, C.len_mk, C.ext_0, C.ext_1, C.ext3_0, C.ext3_1, C.ext3_2, C.guarded_yes, C.guarded_tf, C.guarded_ft, C.guarded_undef, Bool.not_true, Bool.not_false, Nat.zero_add, eq_self, decide_true, decide_false, hc]
          exact no fun c => hc c.2
      · simp only [C.ite_true, C.ite_false, C.pick_true, C.pick_false, C.not_bool, C.field_ptr, C.nilCheck_ptr, C.add_mk, C.sub_mk, C.mul_mk, C.eql_mk, C.neq_mk, C.lss_mk, C.leq_mk, C.gtr_mk, C.geq_mk, C.conv_mk, C.len_mk, C.ext_0, C.ext_1, C.ext3_0, C.ext3_1, C.ext3_2, C.guarded_yes, C.guarded_tf, C.guarded_ft, C.guarded_undef, Bool.not_true, Bool.not_false, Nat.zero_add, eq_self, decide_true, decide_false, hk]
        exact no fun c => hk c.1
    -- an allocation, or the like
    have pB : ∀ w', LtrR W0 env p1 p2 b5 b7 b8 lv av t D l r b9 b10 X.cl Y.cl (out ++ ltrA X Y) w' → R18_4.k10 l K' (.pointer (some ⟨b8, 0, none⟩)) (.pointer (some ⟨b9, 0, none⟩)) (.bool (decide (Y.c = 0))) w' := by
      intro w' h
      refine R18_4.k10.to ?_
      simp only [C.ite_true, C.ite_false, C.pick_true, C.pick_false, C.not_bool, C.field_ptr, C.nilCheck_ptr, C.add_mk, C.sub_mk, C.mul_mk, C.eql_mk, C.neq_mk, C.lss_mk, C.leq_mk, C.gtr_mk, C.geq_mk, C.conv_mk, C.len_mk, C.ext_0, C.ext_1, C.ext3_0, C.ext3_1, C.ext3_2, C.guarded_yes, C.guarded_tf, C.guarded_ft, C.guarded_undef, Bool.not_true, Bool.not_false, Nat.zero_add, eq_self, decide_true, decide_false]
      refine C.load1_of (v := .int .i64 X.k) h.h9 rfl ?_
      simp only [C.ite_true, C.ite_false, C.pick_true, C.pick_false, C.not_bool, C.field_ptr, C.nilCheck_ptr, C.add_mk, C.sub_mk, C.mul_mk, C.eql_mk, C.neq_mk, C.lss_mk, C.leq_mk, C.gtr_mk, C.geq_mk, C.conv_mk, C.len_mk, C.ext_0, C.ext_1, C.ext3_0, C.ext3_1, C.ext3_2, C.guarded_yes, C.guarded_tf, C.guarded_ft, C.guarded_undef, Bool.not_true, Bool.not_false, Nat.zero_add, eq_self, decide_true, decide_false]
      have no : ¬ ((X.k ≥ 3 ∧ X.k ≤ 12) ∧ Y.c = 0) → R18_4.k12 l K' (.pointer (some ⟨b8, 0, none⟩)) (.pointer (some ⟨b9, 0, none⟩)) (.bool (decide (Y.c = 0))) w' := fun hc => by
        refine pC w' ?_
        have : ltrB X Y = [] := if_neg hc
        rw [this, List.append_nil]
        exact h
      by_cases h3 : X.k ≥ 3
      · simp only [C.ite_true, C.ite_false, C.pick_true, C.pick_false, C.not_bool, C.field_ptr, C.nilCheck_ptr, C.add_mk, C.sub_mk, C.mul_mk, C.eql_mk, C.neq_mk, C.lss_mk, C.leq_mk, C.gtr_mk, C.geq_mk, C.conv_mk, C.len_mk, C.ext_0, C.ext_1, C.ext3_0, C.ext3_1, C.ext3_2, C.guarded_yes, C.guarded_tf, C.guarded_ft, C.guarded_undef, Bool.not_true, Bool.not_false, Nat.zero_add, eq_self, decide_true, decide_false, h3]
        refine C.load1_of (v := .int .i64 X.k) h.h9 rfl ?_
        simp only [C.ite_true, C.ite_false, C.pick_true, C.pick_false, C.not_bool, C.field_ptr, C.nilCheck_ptr, C.add_mk, C.sub_mk, C.mul_mk, C.eql_mk, C.neq_mk, C.lss_mk, C.leq_mk, C.gtr_mk, C.geq_mk, C.conv_mk, C.len_mk, C.ext_0, C.ext_1, C.ext3_0, C.ext3_1, C.ext3_2, C.guarded_yes, C.guarded_tf, C.guarded_ft, C.guarded_undef, Bool.not_true, Bool.not_false, Nat.zero_add, eq_self, decide_true, decide_false]
        by_cases h12 : X.k ≤ 12
        · simp only [C.ite_true, C.ite_false, C.pick_true, C.pick_false, C.not_bool, C.field_ptr, C.nilCheck_ptr, C.add_mk, C.sub_mk, C.mul_mk, C.eql_mk, C.neq_mk, C.lss_mk, C.leq_mk, C.gtr_mk, C.geq_mk, C.conv_mk, C.len_mk, C.ext_0, C.ext_1, C.ext3_0, C.ext3_1, C.ext3_2, C.guarded_yes, C.guarded_tf, C.guarded_ft, C.guarded_undef, Bool.not_true, Bool.not_false, Nat.zero_add, eq_self, decide_true, decide_false, h12]
          by_cases hc : Y.c = 0
          · simp only [C.ite_true, C.ite_false, C.pick_true, C.pick_false, C.not_bool, C.field_ptr, C.nilCheck_ptr, C.add_mk, C.sub_mk, C.mul_mk, C.eql_mk, C.neq_mk, C.lss_mk, C.leq_mk, C.gtr_mk, C.geq_mk, C.conv_mk, C.len_mk, C.ext_0, C.ext_1, C.ext3_0, C.ext3_1, C.ext3_2, C.guarded_yes, C.guarded_tf, C.guarded_ft, C.guarded_undef, Bool.not_true, Bool.not_false, Nat.zero_add, eq_self, decide_true, decide_false, hc]
            refine C.load1_of (v := .func (.func 52) #[] #[.pointer (some ⟨b7, 0, none⟩)]) h.h8 rfl ?_
            refine h.put (n := 1) hl ⟨n2, n4⟩ hhi hne ⟨by omega, by omega⟩ (by omega) (by simp; omega) fun w'' h'' => ?_
            rw [show (true : Bool) = decide (Y.c = 0) from (decide_eq_true hc).symm]
            refine pC w'' ?_
            have : ltrB X Y = [false] := if_pos ⟨⟨h3, h12⟩, hc⟩
            rw [this]
            exact h''
          · simp only [C.ite_true, C.ite_false, C.pick_true, C.pick_false, C.not_bool, C.field_ptr, C.nilCheck_ptr, C.add_mk, C.sub_mk, C.mul_mk, C.eql_mk, C.neq_mk, C.lss_mk, C.leq_mk, C.gtr_mk, C.geq_mk, C.conv_mk, C.len_mk, C.ext_0, C.ext_1, C.ext3_0, C.ext3_1, C.ext3_2, C.guarded_yes, C.guarded_tf, C.guarded_ft, C.guarded_undef, Bool.not_true, Bool.not_false, Nat.zero_add, eq_self, decide_true, decide_false, hc]
            rw [show (false : Bool) = decide (Y.c = 0) from (decide_eq_false hc).symm]
            exact no fun c => hc c.2
        · simp only [C.ite_true, C.ite_false, C.pick_true, C.pick_false, C.not_bool, C.field_ptr, C.nilCheck_ptr, C.add_mk, C.sub_mk, C.mul_mk, C.eql_mk, C.neq_mk, C.lss_mk, C.leq_mk, C.gtr_mk, C.geq_mk, C.conv_mk, C.len_mk, C.ext_0, C.ext_1, C.ext3_0, C.ext3_1, C.ext3_2, C.guarded_yes, C.guarded_tf, C.guarded_ft, C.guarded_undef, Bool.not_true, Bool.not_false, Nat.zero_add, eq_self, decide_true, decide_false, h12]
          exact no fun c => h12 c.1.2
      · simp only [C.ite_true, C.ite_false, C.pick_true, C.pick_false, C.not_bool, C.field_ptr, C.nilCheck_ptr, C.add_mk, C.sub_mk, C.mul_mk, C.eql_mk, C.neq_mk, C.lss_mk, C.leq_mk, C.gtr_mk, C.geq_mk, C.conv_mk, C.len_mk, C.ext_0, C.ext_1, C.ext3_0, C.ext3_1, C.ext3_2, C.guarded_yes, C.guarded_tf, C.guarded_ft, C.guarded_undef, Bool.not_true, Bool.not_false, Nat.zero_add, eq_self, decide_true, decide_false, h3]
        exact no fun c => h3 c.1.1
    refine R18_4.k7.to ?_
    simp only [C.ite_true, C.ite_false, C.pick_true, C.pick_false, C.not_bool, C.field_ptr, C.nilCheck_ptr, C.add_mk, C.sub_mk, C.mul_mk, C.eql_mk, C.neq_mk, C.lss_mk, C.leq_mk, C.gtr_mk, C.geq_mk, C.conv_mk, C.len_mk, C.ext_0, C.ext_1, C.ext3_0, C.ext3_1, C.ext3_2, C.guarded_yes, C.guarded_tf, C.guarded_ft, C.guarded_undef, Bool.not_true, Bool.not_false, Nat.zero_add, eq_self, decide_true, decide_false]
    refine C.load1_of (v := .int .i64 Y.c) hR.h10 rfl ?_
    simp only [C.ite_true, C.ite_false, C.pick_true, C.pick_false, C.not_bool, C.field_ptr, C.nilCheck_ptr, C.add_mk, C.sub_mk, C.mul_mk, C.eql_mk, C.neq_mk, C.lss_mk, C.leq_mk, C.gtr_mk, C.geq_mk, C.conv_mk, C.len_mk, C.ext_0, C.ext_1, C.ext3_0, C.ext3_1, C.ext3_2, C.guarded_yes, C.guarded_tf, C.guarded_ft, C.guarded_undef, Bool.not_true, Bool.not_false, Nat.zero_add, eq_self, decide_true, decide_false]
    refine C.load1_of (v := .int .i64 X.k) hR.h9 rfl ?_
    simp only [C.ite_true, C.ite_false, C.pick_true, C.pick_false, C.not_bool, C.field_ptr, C.nilCheck_ptr, C.add_mk, C.sub_mk, C.mul_mk, C.eql_mk, C.neq_mk, C.lss_mk, C.leq_mk, C.gtr_mk, C.geq_mk, C.conv_mk, C.len_mk, C.ext_0, C.ext_1, C.ext3_0, C.ext3_1, C.ext3_2, C.guarded_yes, C.guarded_tf, C.guarded_ft, C.guarded_undef, Bool.not_true, Bool.not_false, Nat.zero_add, eq_self, decide_true, decide_false]
    have no : ¬ (X.k = 3 ∨ (X.k = 15 ∧ Y.c = 0)) → R18_4.k10 l K' (.pointer (some ⟨b8, 0, none⟩)) (.pointer (some ⟨b9, 0, none⟩)) (.bool (decide (Y.c = 0))) w5 := fun hc => by
      refine pB w5 ?_
      have : ltrA X Y = [] := if_neg hc
      rw [this, List.append_nil]
      exact hR
    have yes : (X.k = 3 ∨ (X.k = 15 ∧ Y.c = 0)) → C.load1 (.pointer (some ⟨b8, 0, none⟩)) w5 fun x36 w14 => C.load1 (.pointer (some ⟨b10, 3, none⟩)) w14 fun x38 w16 => C.load1 (.pointer (some ⟨b9, 5, none⟩)) w16 fun x40 w18 => C.int .mul x38 x40 w18 fun x41 w19 => vcCall Try.prog x36 [x41, (.bool true)] w19 fun x42 w20 => R18_4.k10 l K' (.pointer (some ⟨b8, 0, none⟩)) (.pointer (some ⟨b9, 0, none⟩)) (.bool (decide (Y.c = 0))) w20 := fun hc => by
      refine C.load1_of (v := .func (.func 52) #[] #[.pointer (some ⟨b7, 0, none⟩)]) hR.h8 rfl (C.load1_of (v := .int .i64 (clamp Y.d 0 64)) hR.h10 rfl (C.load1_of (v := .int .i64 (clamp X.c 0 16)) hR.h9 rfl ?_))
      rw [C.mul_mk, wrap64_id (by omega)]
      have e2 : clamp Y.d 0 64 * clamp X.c 0 16 = (((clamp Y.d 0 64 * clamp X.c 0 16).toNat : Nat) : Int) := by omega
      rw [e2]
      refine hR.put hl ⟨n2, n4⟩ hhi hne ⟨by omega, by omega⟩ (by omega) (by omega) fun w'' h'' => pB w'' ?_
      have : ltrA X Y = List.replicate (clamp Y.d 0 64 * clamp X.c 0 16).toNat true := if_pos hc
      rw [this]
      exact h''
    by_cases h3 : X.k = 3
    · have := yes (.inl h3)
      simp only [C.ite_true, C.ite_false, C.pick_true, C.pick_false, C.not_bool, C.field_ptr, C.nilCheck_ptr, C.add_mk, C.sub_mk, C.mul_mk, C.eql_mk, C.neq_mk, C.lss_mk, C.leq_mk, C.gtr_mk, C.geq_mk, C.conv_mk, C.len_mk, C.ext_0, C.ext_1, C.ext3_0, C.ext3_1, C.ext3_2, C.guarded_yes, C.guarded_tf, C.guarded_ft, C.guarded_undef, Bool.not_true, Bool.not_false, Nat.zero_add, eq_self, decide_true, decide_false, h3] at this ⊢
      exact this
    · simp only [C.ite_true, C.ite_false, C.pick_true, C.pick_false, C.not_bool, C.field_ptr, C.nilCheck_ptr, C.add_mk, C.sub_mk, C.mul_mk, C.eql_mk, C.neq_mk, C.lss_mk, C.leq_mk, C.gtr_mk, C.geq_mk, C.conv_mk, C.len_mk, C.ext_0, C.ext_1, C.ext3_0, C.ext3_1, C.ext3_2, C.guarded_yes, C.guarded_tf, C.guarded_ft, C.guarded_undef, Bool.not_true, Bool.not_false, Nat.zero_add, eq_self, decide_true, decide_false, h3]
      refine C.load1_of (v := .int .i64 X.k) hR.h9 rfl ?_
      simp only [C.ite_true, C.ite_false, C.pick_true, C.pick_false, C.not_bool, C.field_ptr, C.nilCheck_ptr, C.add_mk, C.sub_mk, C.mul_mk, C.eql_mk, C.neq_mk, C.lss_mk, C.leq_mk, C.gtr_mk, C.geq_mk, C.conv_mk, C.len_mk, C.ext_0, C.ext_1, C.ext3_0, C.ext3_1, C.ext3_2, C.guarded_yes, C.guarded_tf, C.guarded_ft, C.guarded_undef, Bool.not_true, Bool.not_false, Nat.zero_add, eq_self, decide_true, decide_false]
      by_cases h15 : X.k = 15
      · simp only [C.ite_true, C.ite_false, C.pick_true, C.pick_false, C.not_bool, C.field_ptr, C.nilCheck_ptr, C.add_mk, C.sub_mk, C.mul_mk, C.eql_mk, C.neq_mk, C.lss_mk, C.leq_mk, C.gtr_mk, C.geq_mk, C.conv_mk, C.len_mk, C.ext_0, C.ext_1, C.ext3_0, C.ext3_1, C.ext3_2, C.guarded_yes, C.guarded_tf, C.guarded_ft, C.guarded_undef, Bool.not_true, Bool.not_false, Nat.zero_add, eq_self, decide_true, decide_false, h15]
        by_cases hc : Y.c = 0
        · have := yes (.inr ⟨h15, hc⟩)
          simp only [C.ite_true, C.ite_false, C.pick_true, C.pick_false, C.not_bool, C.field_ptr, C.nilCheck_ptr, C.add_mk, C.sub_mk, C.mul_mk, C.eql_mk, C.neq_mk, C.lss_mk, C.leq_mk, C.gtr_mk, C.geq_mk, C.conv_mk, C.len_mk, C.ext_0, C.ext_1, C.ext3_0, C.ext3_1, C.ext3_2, C.guarded_yes, C.guarded_tf, C.guarded_ft, C.guarded_undef, Bool.not_true, Bool.not_false, Nat.zero_add, eq_self, decide_true, decide_false, hc] at this ⊢
          exact this
        · have := no fun c => c.elim h3 fun c => hc c.2
          simp only [C.ite_true, C.ite_false, C.pick_true, C.pick_false, C.not_bool, C.field_ptr, C.nilCheck_ptr, C.add_mk, C.sub_mk, C.mul_mk, C.eql_mk, C.neq_mk, C.lss_mk, C.leq_mk, C.gtr_mk, C.geq_mk, C.conv_mk, C.len_mk, C.ext_0, C.ext_1, C.ext3_0, C.ext3_1, C.ext3_2, C.guarded_yes, C.guarded_tf, C.guarded_ft, C.guarded_undef, Bool.not_true, Bool.not_false, Nat.zero_add, eq_self, decide_true, decide_false, hc] at this ⊢
          exact this
      · simp only [C.ite_true, C.ite_false, C.pick_true, C.pick_false, C.not_bool, C.field_ptr, C.nilCheck_ptr, C.add_mk, C.sub_mk, C.mul_mk, C.eql_mk, C.neq_mk, C.lss_mk, C.leq_mk, C.gtr_mk, C.geq_mk, C.conv_mk, C.len_mk, C.ext_0, C.ext_1, C.ext3_0, C.ext3_1, C.ext3_2, C.guarded_yes, C.guarded_tf, C.guarded_ft, C.guarded_undef, Bool.not_true, Bool.not_false, Nat.zero_add, eq_self, decide_true, decide_false, h15]
        have := no fun c => c.elim h3 fun c => h15 c.1
        exact this
  · have e : (X.t ≠ t) := hT
    simp only [C.ite_true, C.ite_false, C.pick_true, C.pick_false, C.not_bool, C.field_ptr, C.nilCheck_ptr, C.add_mk, C.sub_mk, C.mul_mk, C.eql_mk, C.neq_mk, C.lss_mk, C.leq_mk, C.gtr_mk, C.geq_mk, C.conv_mk, C.len_mk, C.ext_0, C.ext_1, C.ext3_0, C.ext3_1, C.ext3_2, C.guarded_yes, C.guarded_tf, C.guarded_ft, C.guarded_undef, Bool.not_true, Bool.not_false, Nat.zero_add, eq_self, decide_true, decide_false, e, ne_eq, hT, not_false_eq_true]
    refine fin w5 ?_
    have : ltrS t X Y = [] := if_neg hT
    rw [this, List.append_nil]
    exact hR
end
end Go.Proofs.YtfhgjncbhjjbfaaV
