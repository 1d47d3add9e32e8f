/- The first tax that was too dear: what the call comes to. -/
import Derived.Test.YtfhgjncbhjjbfaaAud1
namespace Go.Proofs.YtfhgjncbhjjbfaaV
open Go Go.Proofs Go.RowKit
set_option linter.unusedVariables false
set_option linter.unusedSimpArgs false
set_option maxRecDepth 10000
theorem upd_put {w : World} {l : Nat} {o o' : Obj} (h : w.heap[l]? = some o') : Upd w l o (w.putObj l o) := by
  have hl := lt_of_at h
  refine ⟨⟨rfl, rfl, rfl, by simp [World.putObj], fun b hb hS => ?_⟩, ?_, by simp [World.putObj]⟩
  · simp only [List.mem_singleton] at hS
    simp [World.putObj, Array.getElem?_setIfInBounds, Ne.symm hS]
  · simp [World.putObj, Array.getElem?_setIfInBounds, hl]
theorem lk_mem : ∀ {env : Env} {t : Nat} {v : Value}, lk env t = some v → (t, v) ∈ env
  | [], t, v, h => by simp [lk] at h
  | (s, u) :: env, t, v, h => by
    simp only [lk] at h
    cases hb : Nat.beq s t with
    | true =>
      rw [hb] at h
      simp only [cond_true, Option.some.injEq] at h
      rw [Nat.eq_of_beq_eq_true hb] at *
      rw [h]; simp
    | false =>
      rw [hb] at h
      simp only [cond_false] at h
      exact List.mem_cons_of_mem _ (lk_mem h)
theorem env_of {tmps : Array Value} {env : Env} (h : ∀ x ∈ env, tmps[x.1]? = some x.2) : ∀ t v, lkT env t = some v → tmps[t]? = some v := fun t v ht => h (t, v) (lk_mem (lkT_some ht).2)
theorem find_range_succ (p : Nat → Bool) (m : Nat) : (List.range (m + 1)).find? p = ((List.range m).find? p).or (if p m = true then some m else none) := by
  rw [List.range_succ, List.find?_append]
  congr 1
  cases hp : p m <;> simp [hp]
def dearB (tax : Int) (L : List Stp) (A : List Ans) (i : Nat) : Bool := match L[i]?, A[i]? with
  | some x, some y => decide (x.k = 3) && decide (clamp y.d 0 64 + clamp y.r 0 64 > tax)
  | _, _ => false
def dearI (tax : Int) (L : List Stp) (A : List Ans) (m : Nat) : Int := match (List.range m).find? (dearB tax L A) with
  | some i => (i : Int)
  | none => -1
theorem dearB_get {tax : Int} {L : List Stp} {A : List Ans} {i : Nat} (h : i < L.length) (h' : i < A.length) : dearB tax L A i = (decide (L[i].k = 3) && decide (clamp A[i].d 0 64 + clamp A[i].r 0 64 > tax)) := by
  unfold dearB
  rw [List.getElem?_eq_getElem h, List.getElem?_eq_getElem h']
theorem dearI_succ (tax : Int) (L : List Stp) (A : List Ans) (m : Nat) : dearI tax L A (m + 1) = if 0 ≤ dearI tax L A m then dearI tax L A m else if dearB tax L A m = true then (m : Int) else -1 := by
  unfold dearI
  rw [find_range_succ]
  cases h : (List.range m).find? (dearB tax L A) with
  | some i => simp
  | none =>
    cases hb : dearB tax L A m <;> simp
theorem dearI_stays {tax : Int} {L : List Stp} {A : List Ans} {i m : Nat} (h : dearI tax L A i = -1) (hd : dearB tax L A i = true) (hm : i < m) : dearI tax L A m = i := by
  obtain ⟨e, rfl⟩ : ∃ e, m = i + 1 + e := ⟨m - (i + 1), by omega⟩
  clear hm
  induction e with
  | zero => rw [Nat.add_zero, dearI_succ, h, if_neg (by omega), if_pos hd]
  | succ e ih => rw [show i + 1 + (e + 1) = (i + 1 + e) + 1 by omega, dearI_succ, ih, if_pos (by omega)]
section
variable {K : VK} {w : World}
theorem RdS.one' {v : Value} {sz : Nat} {xs : List (List Value)} (h : RdS w v sz xs) : v.oneCell' = true ∧ v.cells = #[v] := by
  obtain ⟨A, c, rfl, _⟩ := h
  exact ⟨rfl, rfl⟩
/-- The iterator made. -/
theorem both_new {lv av : Value} {L : List Stp} {A : List Ans} (r1 : RdS w lv 7 (stpC L)) (r2 : RdS w av 5 (ansC A)) (h : ∀ p1 p2 w', Fr [] w w' → w.heap.size ≤ p1 → w.heap.size ≤ p2 → w'.heap[p1]? = some (.cells #[lv] 22 (0, 0)) → w'.heap[p2]? = some (.cells #[av] 23 (0, 0)) → K (.func (.func 84) #[] #[.pointer (some ⟨p1, 0, none⟩), .pointer (some ⟨p2, 0, none⟩)]) w') :
    C.call Try.prog 54 #[lv, av] w K := by
  refine F54.sh (C.new_of fun p1 w1 hw1 => C.new_of fun p2 w2 hw2 => h p1 p2 w2 (hw1.fr.trans hw2.fr) (by have := hw1.is; omega) (by have := hw2.is; have := hw1.fr.size; omega) ?_ ?_)
  · have := hw1.at_
    rw [r1.one'.2] at this
    exact hw2.fr.at_ this (by simp)
  · have := hw2.at_
    rw [r2.one'.2] at this
    exact this
/-- What stands between the rounds of Dear. -/
structure DearI (W0 : World) (env : Env) (p1 p2 b3 b6 b7 : Nat) (lv av : Value) (L : List Stp) (A : List Ans) (tax : Int) (D l i : Nat) (w : World) : Prop where
  fr : Fr [] W0 w
  n : W0.heap.size ≤ b3 ∧ W0.heap.size ≤ b6 ∧ W0.heap.size ≤ b7 ∧ W0.heap.size ≤ l
  ne : b6 ≠ b3 ∧ b7 ≠ b3 ∧ b6 ≠ b7 ∧ p1 ≠ b6 ∧ p1 ≠ b7 ∧ p2 ≠ b6 ∧ p2 ≠ b7 ∧ D ≠ b6 ∧ D ≠ b7 ∧ l ≠ b3 ∧ l ≠ b6 ∧ l ≠ b7 ∧ l ≠ p1 ∧ l ≠ p2 ∧ l ≠ D
  r : ∃ r, w.heap[l]? = some (.loop r) ∧ LoopOk r 30 #[13, 14] F20.as3 F20.bd3 env D
  d : w.heap[D]? = some (.deferred (some []))
  p1 : w.heap[p1]? = some (.cells #[lv] 22 (0, 0))
  p2 : w.heap[p2]? = some (.cells #[av] 23 (0, 0))
  h3 : w.heap[b3]? = some (.cells #[.int .i64 tax] 3 (0, 0))
  h6 : w.heap[b6]? = some (.cells #[.int .i64 0] 3 (0, 0))
  h7 : w.heap[b7]? = some (.cells #[.int .i64 (i : Int)] 3 (0, 0))
  no : dearI tax L A i = -1
theorem DearI.keep {W0 w w' : World} {env : Env} {p1 p2 b3 b6 b7 : Nat} {lv av : Value} {L : List Stp} {A : List Ans} {tax : Int} {D l i : Nat} (h : DearI W0 env p1 p2 b3 b6 b7 lv av L A tax D l i w) (hf : Fr [] w w') : DearI W0 env p1 p2 b3 b6 b7 lv av L A tax D l i w' := by
  obtain ⟨r, hr, hr2⟩ := h.r
  exact ⟨h.fr.trans hf, h.n, h.ne, ⟨r, hf.at_ hr (by simp), hr2⟩, hf.at_ h.d (by simp), hf.at_ h.p1 (by simp), hf.at_ h.p2 (by simp), hf.at_ h.h3 (by simp), hf.at_ h.h6 (by simp), hf.at_ h.h7 (by simp), h.no⟩
/-- Dear has told. -/
structure DearS (W0 : World) (b6 D l : Nat) (z : Int) (w : World) : Prop where
  fr : Fr [] W0 w
  n : W0.heap.size ≤ l ∧ l ≠ D ∧ l ≠ b6 ∧ W0.heap.size ≤ D ∧ D ≠ b6
  r : ∃ r, w.heap[l]? = some (.loop r) ∧ r.state ≠ .busy ∧ r.pending = some .ret
  d : w.heap[D]? = some (.deferred (some []))
  h6 : w.heap[b6]? = some (.cells #[.int .i64 z] 3 (0, 0))
theorem dear_round {W0 : World} {env : Env} {p1 p2 b3 b6 b7 : Nat} {lv av : Value} {L : List Stp} {A : List Ans} {tax : Int} {D l i : Nat} {K' : VK} (he3 : lkT env 3 = some (.pointer (some ⟨b3, 0, none⟩))) (he6 : lkT env 6 = some (.pointer (some ⟨b6, 0, none⟩))) (he7 : lkT env 7 = some (.pointer (some ⟨b7, 0, none⟩)))
    (hL : L.length ≤ 1000000) (hD : W0.heap.size ≤ D) (hI : DearI W0 env p1 p2 b3 b6 b7 lv av L A tax D l i w) (hi : i < L.length) (hi' : i < A.length) (hgo : ∀ w', DearI W0 env p1 p2 b3 b6 b7 lv av L A tax D l (i + 1) w' → K' (.bool true) w') (hstop : ∀ w', DearS W0 b6 D l (i : Int) w' → dearB tax L A i = true → K' (.bool false) w') :
    C.yield Try.prog l #[stpV L[i].cl, ansV A[i].cl] w K' := by
  obtain ⟨r, hr, hr2⟩ := hI.r
  have hdb := dearB_get (tax := tax) hi hi'
  have hsucc := dearI_succ tax L A i
  rw [hI.no, if_neg (by omega)] at hsucc
  generalize hx : L[i].cl = x at *
  generalize hy : A[i].cl = y at *
  have hxk : x.k = L[i].k := by rw [← hx]; rfl
  have hyd : y.d = clamp A[i].d 0 64 := by rw [← hy]; rfl
  have hyr : y.r = clamp A[i].r 0 64 := by rw [← hy]; rfl
  have bd1 := clamp_bd A[i].d 0 64 (by omega)
  have bd2 := clamp_bd A[i].r 0 64 (by omega)
  obtain ⟨n1, n2, n3, n4⟩ := hI.n
  obtain ⟨m1, m2, m3, m4, m5, m6, m7, m8, m9, m10, m11, m12, m13, m14, m15⟩ := hI.ne
  refine R20_3.yield (y3 := .pointer (some ⟨b3, 0, none⟩)) (y6 := .pointer (some ⟨b6, 0, none⟩)) (y7 := .pointer (some ⟨b7, 0, none⟩)) hr hr2.sz hr2.ps hr2.as_ hr2.bd (env_of fun z hz => ?_) ?_
  · simp only [List.mem_cons, List.not_mem_nil, or_false] at hz
    rcases hz with rfl | rfl | rfl
    · exact hr2.env _ _ he3
    · exact hr2.env _ _ he6
    · exact hr2.env _ _ he7
  refine C.new_of fun b8 w1 hw1 => C.store_all (x := stpV x) hw1.at_ rfl (stpV_ones x) rfl fun w2 hu2 => C.new_of fun b9 w3 hw3 => C.store_all (x := ansV y) hw3.at_ rfl (ansV_ones y) rfl fun w4 hu4 => ?_
  have e8 := hw1.is
  have e8' := hw1.sz
  have e9 := hw3.is
  have s2 := hu2.sz
  have f2 : Fr [] w w2 := hw1.fr.then hu2.fr fun z hz => .inr (by simp only [List.mem_singleton] at hz; omega)
  have f4 : Fr [] w w4 := (f2.trans hw3.fr).then hu4.fr fun z hz => .inr (by simp only [List.mem_singleton] at hz; omega)
  have hI4 := hI.keep f4
  have hr4 := f4.at_ hr (by simp)
  have h8 : w4.heap[b8]? = some (stpB x) := hu4.fr.at_ (hw3.fr.at_ hu2.at_ (by simp)) (by simp; omega)
  have h9 : w4.heap[b9]? = some (ansB y) := hu4.at_
  have hl := lt_of_at hr
  refine ⟨r, hr4, hr2.st, ?_⟩
  have hu5 := upd_put (o := .loop { r with state := .busy }) hr4
  generalize w4.putObj l (.loop { r with state := .busy }) = w5 at *
  have keep : ∀ {b : Nat} {o : Obj}, w4.heap[b]? = some o → b ≠ l → w5.heap[b]? = some o := fun hb hne => hu5.fr.at_ hb (by simp; exact hne)
  have h8' := keep h8 (by omega)
  have h9' := keep h9 (by omega)
  have f5 : Fr [] W0 w5 := hI4.fr.then hu5.fr fun z hz => .inr (by simp only [List.mem_singleton] at hz; omega)
  have hz7 := keep hI4.h7 (Ne.symm m12)
  have go : dearB tax L A i = false → R20_3.k7 l K' (.pointer (some ⟨b7, 0, none⟩)) w5 := fun hdf => by
    refine R20_3.k7.to (C.load1_of (v := .int .i64 (i : Int)) hz7 rfl ?_)
    simp only [C.ite_true, C.ite_false, C.pick_true, C.pick_false, C.not_bool, C.field_ptr, C.nilCheck_ptr, C.add_mk, C.sub_mk, C.mul_mk, C.eql_mk, C.neq_mk, C.lss_mk, C.leq_mk, C.gtr_mk, C.geq_mk, C.conv_mk, C.len_mk, C.ext_0, C.ext_1, C.ext3_0, C.ext3_1, C.ext3_2, C.guarded_yes, C.guarded_tf, C.guarded_ft, C.guarded_undef, Bool.not_true, Bool.not_false, Nat.zero_add, eq_self, decide_true, decide_false]
    rw [wrap64_id (n := (i : Int) + 1) (by omega), show (i : Int) + 1 = ((i + 1 : Nat) : Int) by omega]
    refine C.store1_of hz7 rfl rfl (by simp) fun w6 hu6 => ?_
    have hl6 : w6.heap[l]? = some (.loop { r with state := .busy }) := hu6.fr.at_ hu5.at_ (by simp; omega)
    refine ⟨_, hl6, hgo _ ?_⟩
    have hu7 := upd_put (o := .loop { r with state := .ready, pending := none }) hl6
    generalize w6.putObj l (.loop { r with state := .ready, pending := none }) = w7 at *
    have keep6 : ∀ {b : Nat} {o : Obj}, w5.heap[b]? = some o → b ≠ l → b ≠ b7 → w7.heap[b]? = some o := fun hb h1 h2 => hu7.fr.at_ (hu6.fr.at_ hb (by simp; exact h2)) (by simp; exact h1)
    refine ⟨(f5.then hu6.fr fun z hz => .inr (by simp only [List.mem_singleton] at hz; omega)).then hu7.fr fun z hz => .inr (by simp only [List.mem_singleton] at hz; omega), hI.n, hI.ne, ⟨_, hu7.at_, ⟨rfl, rfl, hr2.sz, hr2.ps, hr2.as_, hr2.bd, hr2.env⟩⟩, keep6 (keep hI4.d (Ne.symm m15)) (Ne.symm m15) m9, keep6 (keep hI4.p1 (Ne.symm m13)) (Ne.symm m13) m5, keep6 (keep hI4.p2 (Ne.symm m14)) (Ne.symm m14) m7, keep6 (keep hI4.h3 (Ne.symm m10)) (Ne.symm m10) (Ne.symm m2), keep6 (keep hI4.h6 (Ne.symm m11)) (Ne.symm m11) m3, hu7.fr.at_ hu6.at_ (by simp; omega), ?_⟩
    rw [hsucc, if_neg (by rw [hdf]; simp)]
  simp only [C.ite_true, C.ite_false, C.pick_true, C.pick_false, C.not_bool, C.field_ptr, C.nilCheck_ptr, C.add_mk, C.sub_mk, C.mul_mk, C.eql_mk, C.neq_mk, C.lss_mk, C.leq_mk, C.gtr_mk, C.geq_mk, C.conv_mk, C.len_mk, C.ext_0, C.ext_1, C.ext3_0, C.ext3_1, C.ext3_2, C.guarded_yes, C.guarded_tf, C.guarded_ft, C.guarded_undef, Bool.not_true, Bool.not_false, Nat.zero_add, eq_self, decide_true, decide_false]
  refine C.load1_of (v := .int .i64 x.k) h8' rfl ?_
  simp only [C.ite_true, C.ite_false, C.pick_true, C.pick_false, C.not_bool, C.field_ptr, C.nilCheck_ptr, C.add_mk, C.sub_mk, C.mul_mk, C.eql_mk, C.neq_mk, C.lss_mk, C.leq_mk, C.gtr_mk, C.geq_mk, C.conv_mk, C.len_mk, C.ext_0, C.ext_1, C.ext3_0, C.ext3_1, C.ext3_2, C.guarded_yes, C.guarded_tf, C.guarded_ft, C.guarded_undef, Bool.not_true, Bool.not_false, Nat.zero_add, eq_self, decide_true, decide_false]
  by_cases hk : x.k = 3
  · simp only [C.ite_true, C.ite_false, C.pick_true, C.pick_false, C.not_bool, C.field_ptr, C.nilCheck_ptr, C.add_mk, C.sub_mk, C.mul_mk, C.eql_mk, C.neq_mk, C.lss_mk, C.leq_mk, C.gtr_mk, C.geq_mk, C.conv_mk, C.len_mk, C.ext_0, C.ext_1, C.ext3_0, C.ext3_1, C.ext3_2, C.guarded_yes, C.guarded_tf, C.guarded_ft, C.guarded_undef, Bool.not_true, Bool.not_false, Nat.zero_add, eq_self, decide_true, decide_false, hk]
    refine C.load1_of (v := .int .i64 y.d) h9' rfl ?_
    try simp only [C.ite_true, C.ite_false, C.pick_true, C.pick_false, C.not_bool, C.field_ptr, C.nilCheck_ptr, C.add_mk, C.sub_mk, C.mul_mk, C.eql_mk, C.neq_mk, C.lss_mk, C.leq_mk, C.gtr_mk, C.geq_mk, C.conv_mk, C.len_mk, C.ext_0, C.ext_1, C.ext3_0, C.ext3_1, C.ext3_2, C.guarded_yes, C.guarded_tf, C.guarded_ft, C.guarded_undef, Bool.not_true, Bool.not_false, Nat.zero_add, eq_self, decide_true, decide_false]
    refine C.load1_of (v := .int .i64 y.r) h9' rfl ?_
    simp only [C.ite_true, C.ite_false, C.pick_true, C.pick_false, C.not_bool, C.field_ptr, C.nilCheck_ptr, C.add_mk, C.sub_mk, C.mul_mk, C.eql_mk, C.neq_mk, C.lss_mk, C.leq_mk, C.gtr_mk, C.geq_mk, C.conv_mk, C.len_mk, C.ext_0, C.ext_1, C.ext3_0, C.ext3_1, C.ext3_2, C.guarded_yes, C.guarded_tf, C.guarded_ft, C.guarded_undef, Bool.not_true, Bool.not_false, Nat.zero_add, eq_self, decide_true, decide_false]
    rw [wrap64_id (n := y.d + y.r) (by omega)]
    refine C.load1_of (v := .int .i64 tax) (keep hI4.h3 (Ne.symm m10)) rfl ?_
    simp only [C.ite_true, C.ite_false, C.pick_true, C.pick_false, C.not_bool, C.field_ptr, C.nilCheck_ptr, C.add_mk, C.sub_mk, C.mul_mk, C.eql_mk, C.neq_mk, C.lss_mk, C.leq_mk, C.gtr_mk, C.geq_mk, C.conv_mk, C.len_mk, C.ext_0, C.ext_1, C.ext3_0, C.ext3_1, C.ext3_2, C.guarded_yes, C.guarded_tf, C.guarded_ft, C.guarded_undef, Bool.not_true, Bool.not_false, Nat.zero_add, eq_self, decide_true, decide_false]
    have hdec : dearB tax L A i = decide (y.d + y.r > tax) := by rw [hdb, ← hxk, hk, hyd, hyr]; simp
    by_cases hgt : y.d + y.r > tax
    · simp only [C.ite_true, C.ite_false, C.pick_true, C.pick_false, C.not_bool, C.field_ptr, C.nilCheck_ptr, C.add_mk, C.sub_mk, C.mul_mk, C.eql_mk, C.neq_mk, C.lss_mk, C.leq_mk, C.gtr_mk, C.geq_mk, C.conv_mk, C.len_mk, C.ext_0, C.ext_1, C.ext3_0, C.ext3_1, C.ext3_2, C.guarded_yes, C.guarded_tf, C.guarded_ft, C.guarded_undef, Bool.not_true, Bool.not_false, Nat.zero_add, eq_self, decide_true, decide_false, hgt]
      refine C.load1_of (v := .int .i64 (i : Int)) hz7 rfl ?_
      try simp only [C.ite_true, C.ite_false, C.pick_true, C.pick_false, C.not_bool, C.field_ptr, C.nilCheck_ptr, C.add_mk, C.sub_mk, C.mul_mk, C.eql_mk, C.neq_mk, C.lss_mk, C.leq_mk, C.gtr_mk, C.geq_mk, C.conv_mk, C.len_mk, C.ext_0, C.ext_1, C.ext3_0, C.ext3_1, C.ext3_2, C.guarded_yes, C.guarded_tf, C.guarded_ft, C.guarded_undef, Bool.not_true, Bool.not_false, Nat.zero_add, eq_self, decide_true, decide_false]
      refine C.store1_of (keep hI4.h6 (Ne.symm m11)) rfl rfl (by simp) fun w6 hu6 => ?_
      have hl6 : w6.heap[l]? = some (.loop { r with state := .busy }) := hu6.fr.at_ hu5.at_ (by simp; omega)
      refine ⟨_, hl6, hstop _ ?_ (by rw [hdec]; exact decide_eq_true hgt)⟩
      have hu7 := upd_put (o := .loop { r with state := .done, pending := some .ret }) hl6
      generalize w6.putObj l (.loop { r with state := .done, pending := some .ret }) = w7 at *
      exact ⟨(f5.then hu6.fr fun z hz => .inr (by simp only [List.mem_singleton] at hz; omega)).then hu7.fr fun z hz => .inr (by simp only [List.mem_singleton] at hz; omega), ⟨n4, m15, m11, hD, m8⟩, ⟨_, hu7.at_, by simp, rfl⟩, hu7.fr.at_ (hu6.fr.at_ (keep hI4.d (Ne.symm m15)) (by simp; omega)) (by simp; omega), hu7.fr.at_ hu6.at_ (by simp; omega)⟩
    · simp only [C.ite_true, C.ite_false, C.pick_true, C.pick_false, C.not_bool, C.field_ptr, C.nilCheck_ptr, C.add_mk, C.sub_mk, C.mul_mk, C.eql_mk, C.neq_mk, C.lss_mk, C.leq_mk, C.gtr_mk, C.geq_mk, C.conv_mk, C.len_mk, C.ext_0, C.ext_1, C.ext3_0, C.ext3_1, C.ext3_2, C.guarded_yes, C.guarded_tf, C.guarded_ft, C.guarded_undef, Bool.not_true, Bool.not_false, Nat.zero_add, eq_self, decide_true, decide_false, hgt]
      exact go (by rw [hdec]; exact decide_eq_false hgt)
  · simp only [C.ite_true, C.ite_false, C.pick_true, C.pick_false, C.not_bool, C.field_ptr, C.nilCheck_ptr, C.add_mk, C.sub_mk, C.mul_mk, C.eql_mk, C.neq_mk, C.lss_mk, C.leq_mk, C.gtr_mk, C.geq_mk, C.conv_mk, C.len_mk, C.ext_0, C.ext_1, C.ext3_0, C.ext3_1, C.ext3_2, C.guarded_yes, C.guarded_tf, C.guarded_ft, C.guarded_undef, Bool.not_true, Bool.not_false, Nat.zero_add, eq_self, decide_true, decide_false, hk]
    exact go (by rw [hdb, ← hxk, decide_eq_false hk]; rfl)
theorem Dear_c {lv av : Value} {L : List Stp} {A : List Ans} {tax : Int} (r1 : RdS w lv 7 (stpC L)) (r2 : RdS w av 5 (ansC A)) (hL : L.length ≤ 1000000) (h : ∀ w', Fr [] w w' → K (.int .i64 (dearI tax L A (min L.length A.length))) w') : C.call Try.prog 20 #[.int .i64 tax, lv, av] w K := by
  refine F20.sh (C.new_of fun b3 w1 hw1 => C.new_of fun b6 w2 hw2 => C.new_of fun b7 w3 hw3 => C.store1_of hw3.at_ rfl rfl (by simp) fun w4 hu4 => ?_)
  have e3 := hw1.is
  have e3' := hw1.sz
  have e6 := hw2.is
  have e6' := hw2.sz
  have e7 := hw3.is
  have e7' := hw3.sz
  have s4 := hu4.sz
  have f3 := (hw1.fr.trans hw2.fr).trans hw3.fr
  have f4 : Fr [] w w4 := f3.then hu4.fr fun z hz => .inr (by simp only [List.mem_singleton] at hz; omega)
  refine both_new (r1.keep f4) (r2.keep f4) fun p1 p2 w5 hf5 q1 q2 hp1 hp2 => ?_
  have f5 := f4.trans hf5
  have lp1 := lt_of_at hp1
  have lp2 := lt_of_at hp2
  have hb3 : w5.heap[b3]? = some (.cells #[.int .i64 tax] 3 (0, 0)) := hf5.at_ (hu4.fr.at_ (hw3.fr.at_ (hw2.fr.at_ hw1.at_ (by simp)) (by simp)) (by simp; omega)) (by simp)
  have hb6 : w5.heap[b6]? = some (.cells #[.int .i64 0] 3 (0, 0)) := hf5.at_ (hu4.fr.at_ (hw3.fr.at_ hw2.at_ (by simp)) (by simp; omega)) (by simp)
  have hb7 : w5.heap[b7]? = some (.cells #[.int .i64 ((0 : Nat) : Int)] 3 (0, 0)) := hf5.at_ hu4.at_ (by simp)
  have sz5 := hf5.size
  generalize henv : [(12, Value.func (.func 84) #[] #[.pointer (some ⟨p1, 0, none⟩), .pointer (some ⟨p2, 0, none⟩)]), (11, av), (10, lv), (7, Value.pointer (some ⟨b7, 0, none⟩)), (6, Value.pointer (some ⟨b6, 0, none⟩)), (3, Value.pointer (some ⟨b3, 0, none⟩)), (0, Value.int .i64 tax), (1, lv), (2, av)] = env
  have he3 : lkT env 3 = some (.pointer (some ⟨b3, 0, none⟩)) := by rw [← henv]; rfl
  have he6 : lkT env 6 = some (.pointer (some ⟨b6, 0, none⟩)) := by rw [← henv]; rfl
  have he7 : lkT env 7 = some (.pointer (some ⟨b7, 0, none⟩)) := by rw [← henv]; rfl
  refine range_both (L := L) (A := A) (lv := lv) (av := av) (I := fun D l i w' => w.heap.size ≤ D ∧ DearI w env p1 p2 b3 b6 b7 lv av L A tax D l i w') (Stop := fun D l w' => ∃ i, i < min L.length A.length ∧ dearI tax L A i = -1 ∧ dearB tax L A i = true ∧ DearS w b6 D l (i : Int) w') (by omega) (fun D l i w' hI => ⟨hI.2.p1, hI.2.p2, r1.keep hI.2.fr, r2.keep hI.2.fr⟩) (fun D l i w' w'' hI hf => ⟨hI.1, hI.2.keep hf⟩)
    (fun D l i w' K' hi hi' hI hgo hst => dear_round he3 he6 he7 hL hI.1 hI.2 hi hi' (fun w'' h'' => hgo w'' ⟨hI.1, h''⟩) fun w'' h'' hd => hst w'' ⟨i, by omega, hI.2.no, hd, h''⟩) (fun r w' hr hf hd hl hs => ⟨f5.size, ?_⟩) (fun w' hI => ?_) (fun w' hS => ?_)
  · refine ⟨f5.trans hf, ⟨by omega, by omega, by omega, by omega⟩, ⟨by omega, by omega, by omega, by omega, by omega, by omega, by omega, by omega, by omega, by omega, by omega, by omega, by omega, by omega, by omega⟩, ⟨r, hl, hr⟩, hd, hf.at_ hp1 (by simp), hf.at_ hp2 (by simp), hf.at_ hb3 (by simp), hf.at_ hb6 (by simp), hf.at_ hb7 (by simp), rfl⟩
  · obtain ⟨hD, hI⟩ := hI
    obtain ⟨r, hr, hr2⟩ := hI.r
    obtain ⟨n1, n2, n3, n4⟩ := hI.n
    obtain ⟨m1, m2, m3, m4, m5, m6, m7, m8, m9, m10, m11, m12, m13, m14, m15⟩ := hI.ne
    refine ⟨r, hr, by rw [hr2.st]; simp, ?_⟩
    have hu := upd_put (o := .loop { r with state := .exhausted }) hr
    generalize w'.putObj (w5.heap.size + 1) (.loop { r with state := .exhausted }) = w6 at *
    rw [hr2.pe]
    refine F20.k8.to (C.store1_of (hu.fr.at_ hI.h6 (by simp; omega)) rfl rfl (by simp) fun w7 hu7 => ⟨hu7.fr.at_ (hu.fr.at_ hI.d (by simp)) (by simp; omega), ?_⟩)
    have hu8 := upd_put (o := .deferred none) (hu7.fr.at_ (hu.fr.at_ hI.d (by simp)) (by simp; omega))
    rw [Int.toNat_natCast]
    generalize w7.putObj w5.heap.size (.deferred none) = w8 at *
    refine C.load1_of (v := .int .i64 (-1)) (hu8.fr.at_ hu7.at_ (by simp; omega)) rfl ?_
    have := h w8 (((hI.fr.then hu.fr fun z hz => .inr (by simp only [List.mem_singleton] at hz; omega)).then hu7.fr fun z hz => .inr (by simp only [List.mem_singleton] at hz; omega)).then hu8.fr fun z hz => .inr (by simp only [List.mem_singleton] at hz; omega))
    rw [hI.no] at this
    exact this
  · obtain ⟨i, hi, hno, hd, hS⟩ := hS
    obtain ⟨r, hr, hst, hpe⟩ := hS.r
    obtain ⟨n1, n2, n3, n4, n5⟩ := hS.n
    refine ⟨r, hr, hst, ?_⟩
    have hu := upd_put (o := .loop { r with state := .exhausted }) hr
    generalize w'.putObj (w5.heap.size + 1) (.loop { r with state := .exhausted }) = w6 at *
    rw [hpe]
    have hd6 := hu.fr.at_ hS.d (by simp)
    refine ⟨hd6, ?_⟩
    have hu8 := upd_put (o := .deferred none) hd6
    rw [Int.toNat_natCast]
    generalize w6.putObj w5.heap.size (.deferred none) = w8 at *
    refine C.load1_of (v := .int .i64 (i : Int)) (hu8.fr.at_ (hu.fr.at_ hS.h6 (by simp; omega)) (by simp; omega)) rfl ?_
    have := h w8 ((hS.fr.then hu.fr fun z hz => .inr (by simp only [List.mem_singleton] at hz; omega)).then hu8.fr fun z hz => .inr (by simp only [List.mem_singleton] at hz; omega))
    rw [dearI_stays hno hd hi] at this
    exact this
end
end Go.Proofs.YtfhgjncbhjjbfaaV
