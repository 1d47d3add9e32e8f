/- Images opened, by the program: what the calls come to. -/
import Derived.Test.YtfjilngljnlkjaaEv1
import Derived.Test.YtfjilngljnlkjaaGEvac
import Derived.Test.YtfjilngljnlkjaaLibApp
import Derived.Test.YtfjilngljnlkjaaLib2
import Derived.Test.YtfjilngljnlkjaaLibSl
namespace Go.Proofs.YtfjilngljnlkjaaV
open Go Go.Proofs Go.RowKit
set_option linter.unusedVariables false
set_option linter.unusedSimpArgs false
set_option maxRecDepth 10000
/-! ### 1. Plain -/
/-- Whole numbers that a word can have. -/
def Rng (l : List Int) : Prop := ∀ w ∈ l, -9223372036854775808 ≤ w ∧ w ≤ 9223372036854775807
def atL (m : List Ob) : List Int := m.map fun o => (o.at_ : Int)
theorem atL_len (m : List Ob) : (atL m).length = m.length := by simp [atL]
theorem atL_get {m : List Ob} {j : Nat} (h : j < m.length) (h' : j < (atL m).length) : (atL m)[j] = (m[j].at_ : Int) := by simp [atL]
theorem atL_app (a b : List Ob) : atL (a ++ b) = atL a ++ atL b := by simp [atL]
/-- How words are opened. -/
def Cd (l : List Int) (c : Int) (m : List Ob) : Prop := (c = 5 ∧ 2048 < l.length ∧ m = []) ∨ (c = 16 ∧ l.length ≤ 2048 ∧ m = [] ∧ ¬ ∃ m', Spl 0 l m' ∧ fineM m') ∨ (c = 0 ∧ l.length ≤ 2048 ∧ Spl 0 l m ∧ fineM m)
theorem Cd.det {l : List Int} {c c' : Int} {m m' : List Ob} (h : Cd l c m) (h' : Cd l c' m') : c = c' ∧ m = m' := by
  rcases h with ⟨a1, a2, a3⟩ | ⟨a1, a2, a3, a4⟩ | ⟨a1, a2, a3, a4⟩ <;> rcases h' with ⟨b1, b2, b3⟩ | ⟨b1, b2, b3, b4⟩ | ⟨b1, b2, b3, b4⟩
  · exact ⟨a1.trans b1.symm, a3.trans b3.symm⟩
  · omega
  · omega
  · omega
  · exact ⟨a1.trans b1.symm, a3.trans b3.symm⟩
  · exact absurd ⟨m', b3, b4⟩ a4
  · omega
  · exact absurd ⟨m, a3, a4⟩ b4
  · exact ⟨a1.trans b1.symm, a3.det b3⟩
/-- The first objects were found. -/
structure SI (l : List Int) (at_ : Nat) (m : List Ob) : Prop where
  le : at_ ≤ l.length
  fwd : ∀ m', Spl at_ (l.drop at_) m' → Spl 0 l (m ++ m')
  bwd : ∀ M, Spl 0 l M → ∃ m', M = m ++ m' ∧ Spl at_ (l.drop at_) m'
  len : m.length ≤ at_
theorem SI.start (l : List Int) : SI l 0 [] := ⟨Nat.zero_le _, fun m' h => by simpa using h, fun M h => ⟨M, by simp, by simpa using h⟩, by simp⟩
theorem SI.done {l : List Int} {m : List Ob} (h : SI l l.length m) : Spl 0 l m := by
  have := h.fwd [] (by rw [List.drop_length]; exact .nil)
  simpa using this
def okHd (w : Int) (n : Nat) : Prop := 0 ≤ w ∧ w < 140737488355328 ∧ w % 128 < (n : Int)
instance (w : Int) (n : Nat) : Decidable (okHd w n) := inferInstanceAs (Decidable (_ ∧ _ ∧ _))
theorem SI.bad {l : List Int} {at_ : Nat} {m : List Ob} (h : SI l at_ m) (hl : at_ < l.length) (hw : ¬ okHd l[at_] (l.length - at_)) : ¬ ∃ M, Spl 0 l M ∧ fineM M := by
  rintro ⟨M, hM, _⟩
  obtain ⟨m', _, h2⟩ := h.bwd M hM
  rw [List.drop_eq_getElem_cons hl] at h2
  generalize e : l[at_] :: l.drop (at_ + 1) = x at h2
  cases h2 with
  | nil => cases e
  | @cons _ o t m2 g1 g2 g3 g4 g5 =>
    simp only [List.cons.injEq] at e
    have d := hd_div g4
    have d3 := congrArg List.length e.2
    simp only [List.length_drop, List.length_append] at d3
    refine hw ?_
    rw [e.1]
    unfold okHd
    have : o.hd = o.ser * 128 + (o.fs.length : Int) := rfl
    omega
theorem SI.step {l : List Int} {at_ : Nat} {m : List Ob} (h : SI l at_ m) (hl : at_ < l.length) (hw : okHd l[at_] (l.length - at_)) :
    SI l (at_ + 1 + (l[at_] % 128).toNat) (m ++ [⟨at_, l[at_] / 128, (l.drop (at_ + 1)).take (l[at_] % 128).toNat⟩]) := by
  obtain ⟨h0, h1, h2⟩ := hw
  generalize hn : (l[at_] % 128).toNat = n at *
  have hle : at_ + 1 + n ≤ l.length := by omega
  have hfl : ((l.drop (at_ + 1)).take n).length = n := by rw [List.length_take, List.length_drop]; omega
  have ehd : Ob.hd ⟨at_, l[at_] / 128, (l.drop (at_ + 1)).take n⟩ = l[at_] := by unfold Ob.hd; simp only [hfl]; omega
  have esz : Ob.sz ⟨at_, l[at_] / 128, (l.drop (at_ + 1)).take n⟩ = 1 + n := by unfold Ob.sz; simp only [hfl]
  have edrop : l.drop at_ = l[at_] :: ((l.drop (at_ + 1)).take n ++ l.drop (at_ + 1 + n)) := by
    rw [List.drop_eq_getElem_cons hl]
    congr 1
    have := (List.take_append_drop n (l.drop (at_ + 1))).symm
    rwa [List.drop_drop] at this
  refine ⟨hle, fun m' hm' => ?_, fun M hM => ?_, by have := h.len; simp; omega⟩
  · have := Spl.cons (at_ := at_) (o := ⟨at_, l[at_] / 128, (l.drop (at_ + 1)).take n⟩) (t := l.drop (at_ + 1 + n)) (m := m') rfl (show 0 ≤ l[at_] / 128 by omega) (show l[at_] / 128 < 1099511627776 by omega) (by simp only [hfl]; omega) (by rw [esz, ← Nat.add_assoc]; exact hm')
    rw [ehd, ← edrop] at this
    have := h.fwd _ this
    rwa [List.append_assoc]
  · obtain ⟨m', e1, h2'⟩ := h.bwd M hM
    rw [edrop] at h2'
    generalize e : l[at_] :: ((l.drop (at_ + 1)).take n ++ l.drop (at_ + 1 + n)) = x at h2'
    cases h2' with
    | nil => cases e
    | @cons _ o t m2 g1 g2 g3 g4 g5 =>
      simp only [List.cons.injEq] at e
      obtain ⟨e2, e3⟩ := e
      have d := hd_div g4
      rw [← e2] at d
      have e4 : ((l.drop (at_ + 1)).take n).length = o.fs.length := by rw [hfl]; omega
      obtain ⟨e5, e6⟩ := List.append_inj e3 e4
      have e7 : (⟨at_, l[at_] / 128, (l.drop (at_ + 1)).take n⟩ : Ob) = o := by
        cases o
        simp only [Ob.mk.injEq]
        exact ⟨g1.symm, d.1, e5⟩
      refine ⟨m2, ?_, ?_⟩
      · rw [e1, ← e7]; simp
      · have es : o.sz = 1 + n := by rw [← e7]; exact esz
        rw [es, ← Nat.add_assoc, ← e6] at g5
        exact g5
/-! ### 2. Walks -/
section
variable {K : VK} {w : World}
theorem vcCall_of {f : FuncId} {cap : Array Value} {args : List Value} {w : World} {K : VK} (hb : bodied Try.prog f = true) (h : C.call Try.prog f (args ++ cap.toList).toArray w K) : vcCall Try.prog (.func (.func f) #[] cap) args w K := by
  simp only [vcCall, hb, cond_true, List.nil_append]
  exact h
theorem intC_one {l : List Int} : ∀ y ∈ intC l, ∀ u ∈ y, u.oneCell' = true := by
  intro y hy u hu
  simp only [intC, List.mem_map] at hy
  obtain ⟨x, _, rfl⟩ := hy
  simp only [List.mem_cons, List.not_mem_nil, or_false] at hu
  subst hu
  rfl
theorem RdS.one {w : World} {v : Value} {sz : Nat} {xs : List (List Value)} (h : RdS w v sz xs) : v.oneCell' = true ∧ v.cells = #[v] := by
  obtain ⟨A, c, rfl, _⟩ := h
  exact ⟨rfl, rfl⟩
theorem bsW (n : Int) : (Instr.buildSlice 22 1 #[(0, .int .i64 n)]).run Try.prog w = .ok (.slice (some ⟨w.heap.size, 0, none⟩) 1 1) (w.alloc (.cells #[.int .i64 n] 2)) := by kernel_rfl
theorem bsI (n : Int) : (Instr.buildSlice 26 1 #[(0, .int .i64 n)]).run Try.prog w = .ok (.slice (some ⟨w.heap.size, 0, none⟩) 1 1) (w.alloc (.cells #[.int .i64 n] 3)) := by kernel_rfl
theorem C.appW {W0 : World} {v : Value} {l : List Int} {n : Int} (hf : Fr [] W0 w) (hn : NewS W0 v) (hv : OwnS w v 2 1 (intC l)) (hl : l.length ≤ 17592186044415)
    (hk : ∀ v' w', Fr [] W0 w' → NewS W0 v' → OwnS w' v' 2 1 (intC (l ++ [n])) → Fr (blkS v) w w' → (∀ g ∈ blkS v', g ∈ blkS v ∨ w.heap.size ≤ g) → K v' w') :
    C.run Try.prog (Instr.buildSlice 22 1 #[(0, .int .i64 n)]) w fun x w1 => C.run Try.prog (Builtin.append_ #[22, 22] 22 #[v, x]) w1 K :=
  C.app1 (x := [.int .i64 n]) (e := 2) (sz := 1) (bytes := 8) (z := .int .i64 0) Try.underlying22 (by kernel_rfl) rfl (by decide) (bsW n) rfl (by simp [Value.oneCell']) hf hn hv (by rw [intC_len]; omega) (by rw [intC_len]; omega) fun v' w' a b c d e => hk v' w' a b (by rw [intC_app]; exact c) d e
theorem C.appWs {W0 : World} {v src : Value} {l k : List Int} (hf : Fr [] W0 w) (hn : NewS W0 v) (hv : OwnS w v 2 1 (intC l)) (hs : RdS w src 1 (intC k)) (hl : l.length + k.length ≤ 17592186044415)
    (hk : ∀ v' w', Fr [] W0 w' → NewS W0 v' → OwnS w' v' 2 1 (intC (l ++ k)) → Fr (blkS v) w w' → (∀ g ∈ blkS v', g ∈ blkS v ∨ w.heap.size ≤ g) → K v' w') :
    C.run Try.prog (Builtin.append_ #[22, 22] 22 #[v, src]) w K :=
  C.appN (e := 2) (sz := 1) (bytes := 8) (z := .int .i64 0) Try.underlying22 (by kernel_rfl) rfl (by decide) hf hn hv hs intC_one (by rw [intC_len, intC_len]; omega) (by rw [intC_len, intC_len]; omega) fun v' w' a b c d e => hk v' w' a b (by rw [intC_app]; exact c) d e
theorem C.appI {W0 : World} {v : Value} {l : List Int} {n : Int} (hf : Fr [] W0 w) (hn : NewS W0 v) (hv : OwnS w v 3 1 (intC l)) (hl : l.length ≤ 17592186044415)
    (hk : ∀ v' w', Fr [] W0 w' → NewS W0 v' → OwnS w' v' 3 1 (intC (l ++ [n])) → Fr (blkS v) w w' → (∀ g ∈ blkS v', g ∈ blkS v ∨ w.heap.size ≤ g) → K v' w') :
    C.run Try.prog (Instr.buildSlice 26 1 #[(0, .int .i64 n)]) w fun x w1 => C.run Try.prog (Builtin.append_ #[26, 26] 26 #[v, x]) w1 K :=
  C.app1 (x := [.int .i64 n]) (e := 3) (sz := 1) (bytes := 8) (z := .int .i64 0) Try.underlying26 (by kernel_rfl) rfl (by decide) (bsI n) rfl (by simp [Value.oneCell']) hf hn hv (by rw [intC_len]; omega) (by rw [intC_len]; omega) fun v' w' a b c d e => hk v' w' a b (by rw [intC_app]; exact c) d e
/-- An object's first word, taken apart. -/
theorem Split_c {x : Int} (hx : x ≤ 9223372036854775807) (h1 : 0 ≤ x → x < 140737488355328 → K (.tuple #[.int .i64 (x / 128), .int .i64 (x % 128), .bool true]) w) (h2 : ¬ (0 ≤ x ∧ x < 140737488355328) → K (.tuple #[.int .i64 0, .int .i64 0, .bool false]) w) :
    C.call Try.prog 40 #[.int .i64 x] w K := by
  refine F40.sh ?_
  by_cases c : x < 0
  · simp only [C.ite_true, C.ite_false, C.pick_true, C.pick_false, C.not_bool, C.field_ptr, C.nilCheck_ptr, C.add_mk, C.sub_mk, C.mul_mk, C.eql_mk, C.neq_mk, C.lss_mk, C.leq_mk, C.gtr_mk, C.geq_mk, C.conv_mk, C.len_mk, C.ext_0, C.ext_1, C.ext3_0, C.ext3_1, C.ext3_2, C.guarded_yes, C.guarded_tf, C.guarded_ft, C.guarded_undef, Bool.not_true, Bool.not_false, Nat.zero_add, eq_self, decide_true, decide_false, c]
    exact h2 (by omega)
  · have et : x.tdiv 128 = x / 128 := Int.tdiv_eq_ediv_of_nonneg (by omega)
    have em : x.tmod 128 = x % 128 := by rw [Int.tmod_eq_emod_of_nonneg (by omega)]
    simp only [C.ite_true, C.ite_false, C.pick_true, C.pick_false, C.not_bool, C.field_ptr, C.nilCheck_ptr, C.add_mk, C.sub_mk, C.mul_mk, C.eql_mk, C.neq_mk, C.lss_mk, C.leq_mk, C.gtr_mk, C.geq_mk, C.conv_mk, C.len_mk, C.ext_0, C.ext_1, C.ext3_0, C.ext3_1, C.ext3_2, C.guarded_yes, C.guarded_tf, C.guarded_ft, C.guarded_undef, Bool.not_true, Bool.not_false, Nat.zero_add, eq_self, decide_true, decide_false, c]
    refine ⟨_, quo_run _ _ _ _ (by decide), ?_⟩
    rw [et, wrap64_id (n := x / 128) (by omega)]
    by_cases d : x / 128 ≥ 1099511627776
    · simp only [C.ite_true, C.ite_false, C.pick_true, C.pick_false, C.not_bool, C.field_ptr, C.nilCheck_ptr, C.add_mk, C.sub_mk, C.mul_mk, C.eql_mk, C.neq_mk, C.lss_mk, C.leq_mk, C.gtr_mk, C.geq_mk, C.conv_mk, C.len_mk, C.ext_0, C.ext_1, C.ext3_0, C.ext3_1, C.ext3_2, C.guarded_yes, C.guarded_tf, C.guarded_ft, C.guarded_undef, Bool.not_true, Bool.not_false, Nat.zero_add, eq_self, decide_true, decide_false, d]
      exact h2 (by omega)
    · simp only [C.ite_true, C.ite_false, C.pick_true, C.pick_false, C.not_bool, C.field_ptr, C.nilCheck_ptr, C.add_mk, C.sub_mk, C.mul_mk, C.eql_mk, C.neq_mk, C.lss_mk, C.leq_mk, C.gtr_mk, C.geq_mk, C.conv_mk, C.len_mk, C.ext_0, C.ext_1, C.ext3_0, C.ext3_1, C.ext3_2, C.guarded_yes, C.guarded_tf, C.guarded_ft, C.guarded_undef, Bool.not_true, Bool.not_false, Nat.zero_add, eq_self, decide_true, decide_false, d]
      refine F40.k3.to ⟨_, quo_run _ _ _ _ (by decide), _, rem_run _ _ _ _ (by decide), ?_⟩
      rw [et, em, wrap64_id (n := x / 128) (by omega)]
      exact h1 (by omega) (by omega)
/-- slices.IndexFunc, of words. -/
theorem IdxW_loop {W0 : World} {v f : Value} {l : List Int} {p : Int → Bool} (hv : RdS W0 v 1 (intC l))
    (hp : ∀ w' n (K' : VK), Fr [] W0 w' → n ∈ l → (∀ w'', Fr [] w' w'' → K' (.bool (p n)) w'') → vcCall Try.prog f [.int .i64 n] w' K')
    (h1 : ∀ w', Fr [] W0 w' → l.any p = false → K (.int .i64 (-1)) w') (h2 : ∀ i w', Fr [] W0 w' → l.any p = true → K (.int .i64 ((i : Nat) : Int)) w') :
    ∀ (d j : Nat) (w : World), l.length = j + d → Fr [] W0 w → (∀ i (h : i < l.length), i < j → p l[i] = false) → F70.l2 K v f (.int .i64 (l.length : Int)) (.int .i64 (j : Int)) w := by
  intro d
  induction d with
  | zero =>
    intro j w hd hf hj
    refine F70.l2.to ?_
    simp only [C.ite_true, C.ite_false, C.pick_true, C.pick_false, C.not_bool, C.field_ptr, C.nilCheck_ptr, C.add_mk, C.sub_mk, C.mul_mk, C.eql_mk, C.neq_mk, C.lss_mk, C.leq_mk, C.gtr_mk, C.geq_mk, C.conv_mk, C.len_mk, C.ext_0, C.ext_1, C.ext3_0, C.ext3_1, C.ext3_2, C.guarded_yes, C.guarded_tf, C.guarded_ft, C.guarded_undef, Bool.not_true, Bool.not_false, Nat.zero_add, eq_self, decide_true, decide_false, show ¬ ((j : Int) < (l.length : Int)) by omega]
    refine F70.k7.to (h1 w hf ?_)
    rw [List.any_eq_false]
    intro n hn
    obtain ⟨i, hi, rfl⟩ := List.getElem_of_mem hn
    simp [hj i hi (by omega)]
  | succ d ih =>
    intro j w hd hf hj
    have hle := hv.le
    rw [intC_len] at hle
    have jl : j < l.length := by omega
    refine F70.l2.to ?_
    simp only [C.ite_true, C.ite_false, C.pick_true, C.pick_false, C.not_bool, C.field_ptr, C.nilCheck_ptr, C.add_mk, C.sub_mk, C.mul_mk, C.eql_mk, C.neq_mk, C.lss_mk, C.leq_mk, C.gtr_mk, C.geq_mk, C.conv_mk, C.len_mk, C.ext_0, C.ext_1, C.ext3_0, C.ext3_1, C.ext3_2, C.guarded_yes, C.guarded_tf, C.guarded_ft, C.guarded_undef, Bool.not_true, Bool.not_false, Nat.zero_add, eq_self, decide_true, decide_false, show ((j : Int) < (l.length : Int)) by omega]
    refine F70.k3.to (C.idx_int (hv.keep hf) jl fun g o cs e fz hg hc => C.load1_of hg hc (hp _ _ _ hf (List.getElem_mem _) fun w1 hf1 => ?_))
    cases hpj : p l[j] with
    | true =>
      simp only [C.ite_true, C.ite_false, C.pick_true, C.pick_false, C.not_bool, C.field_ptr, C.nilCheck_ptr, C.add_mk, C.sub_mk, C.mul_mk, C.eql_mk, C.neq_mk, C.lss_mk, C.leq_mk, C.gtr_mk, C.geq_mk, C.conv_mk, C.len_mk, C.ext_0, C.ext_1, C.ext3_0, C.ext3_1, C.ext3_2, C.guarded_yes, C.guarded_tf, C.guarded_ft, C.guarded_undef, Bool.not_true, Bool.not_false, Nat.zero_add, eq_self, decide_true, decide_false]
      exact h2 j w1 (hf.trans hf1) (List.any_eq_true.2 ⟨_, List.getElem_mem jl, hpj⟩)
    | false =>
      simp only [C.ite_true, C.ite_false, C.pick_true, C.pick_false, C.not_bool, C.field_ptr, C.nilCheck_ptr, C.add_mk, C.sub_mk, C.mul_mk, C.eql_mk, C.neq_mk, C.lss_mk, C.leq_mk, C.gtr_mk, C.geq_mk, C.conv_mk, C.len_mk, C.ext_0, C.ext_1, C.ext3_0, C.ext3_1, C.ext3_2, C.guarded_yes, C.guarded_tf, C.guarded_ft, C.guarded_undef, Bool.not_true, Bool.not_false, Nat.zero_add, eq_self, decide_true, decide_false]
      refine F70.k6.to ?_
      simp only [C.ite_true, C.ite_false, C.pick_true, C.pick_false, C.not_bool, C.field_ptr, C.nilCheck_ptr, C.add_mk, C.sub_mk, C.mul_mk, C.eql_mk, C.neq_mk, C.lss_mk, C.leq_mk, C.gtr_mk, C.geq_mk, C.conv_mk, C.len_mk, C.ext_0, C.ext_1, C.ext3_0, C.ext3_1, C.ext3_2, C.guarded_yes, C.guarded_tf, C.guarded_ft, C.guarded_undef, Bool.not_true, Bool.not_false, Nat.zero_add, eq_self, decide_true, decide_false]
      rw [wrap64_id (n := (j : Int) + 1) (by omega), show (j : Int) + 1 = ((j + 1 : Nat) : Int) by omega]
      refine ih (j + 1) w1 (by omega) (hf.trans hf1) fun i hi hij => ?_
      rcases Nat.lt_or_ge i j with h | h
      · exact hj i hi h
      · obtain rfl : i = j := by omega
        exact hpj
theorem HasW_c {v f : Value} {l : List Int} {p : Int → Bool} (hv : RdS w v 1 (intC l))
    (hp : ∀ w' n (K' : VK), Fr [] w w' → n ∈ l → (∀ w'', Fr [] w' w'' → K' (.bool (p n)) w'') → vcCall Try.prog f [.int .i64 n] w' K')
    (h : ∀ w', Fr [] w w' → K (.bool (l.any p)) w') : C.call Try.prog 51 #[v, f] w K := by
  refine F51.sh (F70.sh (C.len_rd hv ?_))
  rw [intC_len]
  refine IdxW_loop hv hp (fun w' hf ha => ?_) (fun i w' hf ha => ?_) l.length 0 w (by omega) (Fr.refl _ _) fun i hi hj => by omega
  · simp only [C.ite_true, C.ite_false, C.pick_true, C.pick_false, C.not_bool, C.field_ptr, C.nilCheck_ptr, C.add_mk, C.sub_mk, C.mul_mk, C.eql_mk, C.neq_mk, C.lss_mk, C.leq_mk, C.gtr_mk, C.geq_mk, C.conv_mk, C.len_mk, C.ext_0, C.ext_1, C.ext3_0, C.ext3_1, C.ext3_2, C.guarded_yes, C.guarded_tf, C.guarded_ft, C.guarded_undef, Bool.not_true, Bool.not_false, Nat.zero_add, eq_self, decide_true, decide_false, show ¬ ((-1 : Int) ≥ 0) by omega]
    have := h w' hf
    rwa [ha] at this
  · simp only [C.ite_true, C.ite_false, C.pick_true, C.pick_false, C.not_bool, C.field_ptr, C.nilCheck_ptr, C.add_mk, C.sub_mk, C.mul_mk, C.eql_mk, C.neq_mk, C.lss_mk, C.leq_mk, C.gtr_mk, C.geq_mk, C.conv_mk, C.len_mk, C.ext_0, C.ext_1, C.ext3_0, C.ext3_1, C.ext3_2, C.guarded_yes, C.guarded_tf, C.guarded_ft, C.guarded_undef, Bool.not_true, Bool.not_false, Nat.zero_add, eq_self, decide_true, decide_false, show ((i : Int) ≥ 0) by omega]
    have := h w' hf
    rwa [ha] at this
/-- Is it a value's word, that leads to one of some addresses, if to any? -/
def fineS (S : List Int) (x : Int) : Bool := okW x && match wRef x with
  | some a => decide ((a : Int) ∈ S)
  | none => true
theorem fineS_eq (m : List Ob) (x : Int) : fineS (atL m) x = fineW m x := by
  unfold fineS fineW
  congr 1
  cases wRef x with
  | none => rfl
  | some a =>
    simp only
    rw [Bool.eq_iff_iff, decide_eq_true_eq]
    constructor
    · intro h
      simp only [atL, List.mem_map] at h
      obtain ⟨o, ho, e⟩ := h
      cases hp : pl m a with
      | some p => rfl
      | none => exact absurd (by omega) (pl_none.1 hp o ho)
    · intro h
      obtain ⟨p, hp⟩ := Option.isSome_iff_exists.1 h
      obtain ⟨h1, h2, _⟩ := pl_some hp
      exact List.mem_map.2 ⟨m[p], List.getElem_mem h1, by rw [h2]⟩
/-- The image's block. -/
theorem may_c {lv sv : Value} {S : List Int} {x : Int} (h1 : lv.cells = #[lv]) (hS : RdS w sv 1 (intC S)) (hx : -9223372036854775808 ≤ x ∧ x ≤ 9223372036854775807) (h : ∀ w', Fr [] w w' → K (.bool (fineS S x)) w') :
    C.call Try.prog 53 #[.agg #[lv, sv], .int .i64 x] w K := by
  have hc : Value.cells (.agg #[lv, sv]) = #[lv, sv] := by simp [Value.cells, h1, hS.one.2]
  refine F53.sh ?_
  rw [hc]
  refine C.new_of fun b w1 hn1 => ?_
  have hb := hn1.at_
  have fin : ∀ (k n : Int) (ok : Bool) w2, Fr [] w1 w2 → (∀ w', Fr [] w1 w' → (ok = true → F53.k4 K (.int .i64 x) (.pointer (some ⟨b, 0, none⟩)) w') ∧ (ok = false → K (.bool false) w')) →
      (C.ext 0 (.tuple #[V k n, .bool ok]) w2 fun x12 w3 => C.ext 1 (.tuple #[V k n, .bool ok]) w3 fun x13 w4 => C.new (.cells #[.int .i64 0, .int .i64 0] 75) w4 fun x5 w5 => C.store 2 x5 x12 w5 fun w6 => C.not x13 w6 fun x15 w7 => C.ite x15 (K (.bool false) w7) (F53.k4 K (.int .i64 x) (.pointer (some ⟨b, 0, none⟩)) w7)) := by
    intro k n ok w2 hf2 hk
    simp only [C.ite_true, C.ite_false, C.pick_true, C.pick_false, C.not_bool, C.field_ptr, C.nilCheck_ptr, C.add_mk, C.sub_mk, C.mul_mk, C.eql_mk, C.neq_mk, C.lss_mk, C.leq_mk, C.gtr_mk, C.geq_mk, C.conv_mk, C.len_mk, C.ext_0, C.ext_1, C.ext3_0, C.ext3_1, C.ext3_2, C.guarded_yes, C.guarded_tf, C.guarded_ft, C.guarded_undef, Bool.not_true, Bool.not_false, Nat.zero_add, eq_self, decide_true, decide_false]
    refine C.new_of fun c w3 hn3 => C.store_all hn3.at_ rfl v2_cells rfl fun w4 hu4 => ?_
    have l3 := hn3.is
    have hf4 : Fr [] w1 w4 := (hf2.trans hn3.fr).then hu4.fr fun z hz => .inr (by have := hf2.size; simp only [List.mem_singleton] at hz; omega)
    obtain ⟨k1, k2⟩ := hk w4 hf4
    cases ok with
    | true => simp only [C.ite_true, C.ite_false, C.pick_true, C.pick_false, C.not_bool, C.field_ptr, C.nilCheck_ptr, C.add_mk, C.sub_mk, C.mul_mk, C.eql_mk, C.neq_mk, C.lss_mk, C.leq_mk, C.gtr_mk, C.geq_mk, C.conv_mk, C.len_mk, C.ext_0, C.ext_1, C.ext3_0, C.ext3_1, C.ext3_2, C.guarded_yes, C.guarded_tf, C.guarded_ft, C.guarded_undef, Bool.not_true, Bool.not_false, Nat.zero_add, eq_self, decide_true, decide_false]; exact k1 rfl
    | false => simp only [C.ite_true, C.ite_false, C.pick_true, C.pick_false, C.not_bool, C.field_ptr, C.nilCheck_ptr, C.add_mk, C.sub_mk, C.mul_mk, C.eql_mk, C.neq_mk, C.lss_mk, C.leq_mk, C.gtr_mk, C.geq_mk, C.conv_mk, C.len_mk, C.ext_0, C.ext_1, C.ext3_0, C.ext3_1, C.ext3_2, C.guarded_yes, C.guarded_tf, C.guarded_ft, C.guarded_undef, Bool.not_true, Bool.not_false, Nat.zero_add, eq_self, decide_true, decide_false]; exact k2 rfl
  refine Read_c x hx (fun hc0 w2 hf2 => fin _ _ true w2 hf2 fun w' hf' => ⟨fun _ => ?_, fun h => by cases h⟩) (fun hc0 w2 hf2 => fin 0 0 false w2 hf2 fun w' hf' => ⟨(fun h => by cases h), fun _ => ?_⟩)
  · have f0 := hn1.fr.trans hf'
    have ok : okW x = true := by simp [okW, hc0]
    refine F53.k4.to (Address_c x hx (fun hr w3 hf3 => ?_) (fun hr w3 hf3 => ?_))
    · have hr' : wRef x = some (rdN x).toNat := by unfold wRef; rw [if_pos hr]
      have hn := (wRef_ok hr').2.2
      simp only [C.ite_true, C.ite_false, C.pick_true, C.pick_false, C.not_bool, C.field_ptr, C.nilCheck_ptr, C.add_mk, C.sub_mk, C.mul_mk, C.eql_mk, C.neq_mk, C.lss_mk, C.leq_mk, C.gtr_mk, C.geq_mk, C.conv_mk, C.len_mk, C.ext_0, C.ext_1, C.ext3_0, C.ext3_1, C.ext3_2, C.guarded_yes, C.guarded_tf, C.guarded_ft, C.guarded_undef, Bool.not_true, Bool.not_false, Nat.zero_add, eq_self, decide_true, decide_false]
      refine C.load1_of (v := sv) ((hf'.trans hf3).at_ hb (by simp)) rfl ?_
      rw [hn]
      refine Contains_c ((hS.keep hn1.fr).keep (hf'.trans hf3)) ?_
      try simp only [C.ite_true, C.ite_false, C.pick_true, C.pick_false, C.not_bool, C.field_ptr, C.nilCheck_ptr, C.add_mk, C.sub_mk, C.mul_mk, C.eql_mk, C.neq_mk, C.lss_mk, C.leq_mk, C.gtr_mk, C.geq_mk, C.conv_mk, C.len_mk, C.ext_0, C.ext_1, C.ext3_0, C.ext3_1, C.ext3_2, C.guarded_yes, C.guarded_tf, C.guarded_ft, C.guarded_undef, Bool.not_true, Bool.not_false, Nat.zero_add, eq_self, decide_true, decide_false]
      have := h w3 (f0.trans hf3)
      unfold fineS at this
      rw [ok, hr'] at this
      exact this
    · have hr' : wRef x = none := by unfold wRef; rw [if_neg hr]
      simp only [C.ite_true, C.ite_false, C.pick_true, C.pick_false, C.not_bool, C.field_ptr, C.nilCheck_ptr, C.add_mk, C.sub_mk, C.mul_mk, C.eql_mk, C.neq_mk, C.lss_mk, C.leq_mk, C.gtr_mk, C.geq_mk, C.conv_mk, C.len_mk, C.ext_0, C.ext_1, C.ext3_0, C.ext3_1, C.ext3_2, C.guarded_yes, C.guarded_tf, C.guarded_ft, C.guarded_undef, Bool.not_true, Bool.not_false, Nat.zero_add, eq_self, decide_true, decide_false]
      have := h w3 (f0.trans hf3)
      unfold fineS at this
      rw [ok, hr'] at this
      exact this
  · have ok : okW x = false := by simp [okW, hc0]
    have := h w' (hn1.fr.trans hf')
    unfold fineS at this
    rw [ok] at this
    exact this
/-- An object's fields. -/
theorem fields_c {lv sv : Value} {l : List Int} {o : Ob} (hl : RdS w lv 1 (intC l)) (h2 : sv.cells = #[sv]) (hr : Rng l) (ho : ObAt 0 l o) (h : ∀ v w', Fr [] w w' → RdS w' v 1 (intC o.fs) → (∀ g ∈ blkS v, g ∈ blkS lv) → K v w') :
    C.call Try.prog 35 #[.agg #[lv, sv], .int .i64 (o.at_ : Int)] w K := by
  have hc : Value.cells (.agg #[lv, sv]) = #[lv, sv] := by simp [Value.cells, hl.one.2, h2]
  have he := ho.end_
  rw [Nat.sub_zero] at he
  have hle := hl.le
  rw [intC_len] at hle
  have hal : o.at_ < l.length := by omega
  have hhd : l[o.at_] = o.hd := by have := ho.hd; rw [Nat.sub_zero, List.getElem?_eq_getElem hal] at this; exact Option.some.inj this
  obtain ⟨d1, d2⟩ := hd_div ho.n
  have hhd' : o.hd = o.ser * 128 + (o.fs.length : Int) := rfl
  have := ho.s0; have := ho.s1; have := ho.n
  refine F35.sh ?_
  rw [hc]
  refine C.new_of fun b w1 hn1 => ?_
  have hl1 := hl.keep hn1.fr
  simp only [C.ite_true, C.ite_false, C.pick_true, C.pick_false, C.not_bool, C.field_ptr, C.nilCheck_ptr, C.add_mk, C.sub_mk, C.mul_mk, C.eql_mk, C.neq_mk, C.lss_mk, C.leq_mk, C.gtr_mk, C.geq_mk, C.conv_mk, C.len_mk, C.ext_0, C.ext_1, C.ext3_0, C.ext3_1, C.ext3_2, C.guarded_yes, C.guarded_tf, C.guarded_ft, C.guarded_undef, Bool.not_true, Bool.not_false, Nat.zero_add, eq_self, decide_true, decide_false]
  refine C.load1_of (v := lv) hn1.at_ rfl (C.idx_int hl1 hal fun g oo cs e fz hg hv => C.load1_of hg hv ?_)
  rw [hhd]
  refine Split_c (by omega) (fun _ _ => ?_) (fun c => absurd ⟨by omega, by omega⟩ c)
  rw [d1, d2]
  simp only [C.ite_true, C.ite_false, C.pick_true, C.pick_false, C.not_bool, C.field_ptr, C.nilCheck_ptr, C.add_mk, C.sub_mk, C.mul_mk, C.eql_mk, C.neq_mk, C.lss_mk, C.leq_mk, C.gtr_mk, C.geq_mk, C.conv_mk, C.len_mk, C.ext_0, C.ext_1, C.ext3_0, C.ext3_1, C.ext3_2, C.guarded_yes, C.guarded_tf, C.guarded_ft, C.guarded_undef, Bool.not_true, Bool.not_false, Nat.zero_add, eq_self, decide_true, decide_false]
  refine C.load1_of (v := lv) hn1.at_ rfl ?_
  rw [wrap64_id (n := (o.at_ : Int) + 1) (by omega), wrap64_id (n := (o.at_ : Int) + 1 + (o.fs.length : Int)) (by omega)]
  rw [show (o.at_ : Int) + 1 = ((o.at_ + 1 : Nat) : Int) by omega, show ((o.at_ + 1 : Nat) : Int) + (o.fs.length : Int) = ((o.at_ + 1 + o.fs.length : Nat) : Int) by omega]
  refine C.mid_of hl1 Try.underlying22 (by kernel_rfl : szOf Try.prog 2 = some 1) (by omega) (by rw [intC_len]; omega) fun v' hv' hb' => h v' w1 hn1.fr ?_ hb'
  have e : ((intC l).drop (o.at_ + 1)).take (o.at_ + 1 + o.fs.length - (o.at_ + 1)) = intC o.fs := by
    have h1 := ho.fs
    rw [Nat.sub_zero] at h1
    rw [show o.at_ + 1 + o.fs.length - (o.at_ + 1) = o.fs.length by omega]
    conv => rhs; rw [← h1]
    simp [intC, List.map_take, List.map_drop]
  rw [e] at hv'
  exact hv'
end
end Go.Proofs.YtfjilngljnlkjaaV
