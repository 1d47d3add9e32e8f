/- Images opened, by the program: what the calls come to. · Images opened, by the program: open, Check, Objects, start. · Objects moved, by the program: start, move, moved. · Objects copied, by the program: moved, start, Copy. -/
import Derived.Test.YtfjilngljnlkjaaEvA
import Derived.Test.YtfjilngljnlkjaaGEvac
import Derived.Test.YtfjilngljnlkjaaLibApp
import Derived.Test.YtfjilngljnlkjaaLib2
import Derived.Test.YtfjilngljnlkjaaLibSl
import Derived.Test.YtfjilngljnlkjaaLibOwn
import Derived.Test.YtfjilngljnlkjaaLibMap
namespace Go.Proofs.YtfjilngljnlkjaaV
open Go Go.Proofs Go.RowKit
set_option linter.unusedVariables false
set_option linter.unusedSimpArgs false
set_option maxRecDepth 10000
/-! ### 1. Plain -/
/-- Whole numbers that a word can have. -/
def Rng (l : List Int) : Prop := ∀ w ∈ l, -9223372036854775808 ≤ w ∧ w ≤ 9223372036854775807
def atL (m : List Ob) : List Int := m.map fun o => (o.at_ : Int)
theorem atL_len (m : List Ob) : (atL m).length = m.length := by simp [atL]
theorem atL_get {m : List Ob} {j : Nat} (h : j < m.length) (h' : j < (atL m).length) : (atL m)[j] = (m[j].at_ : Int) := by simp [atL]
theorem atL_app (a b : List Ob) : atL (a ++ b) = atL a ++ atL b := by simp [atL]
/-- How words are opened. -/
def Cd (l : List Int) (c : Int) (m : List Ob) : Prop := (c = 5 ∧ 2048 < l.length ∧ m = []) ∨ (c = 16 ∧ l.length ≤ 2048 ∧ m = [] ∧ ¬ ∃ m', Spl 0 l m' ∧ fineM m') ∨ (c = 0 ∧ l.length ≤ 2048 ∧ Spl 0 l m ∧ fineM m)
theorem Cd.det {l : List Int} {c c' : Int} {m m' : List Ob} (h : Cd l c m) (h' : Cd l c' m') : c = c' ∧ m = m' := by
  rcases h with ⟨a1, a2, a3⟩ | ⟨a1, a2, a3, a4⟩ | ⟨a1, a2, a3, a4⟩ <;> rcases h' with ⟨b1, b2, b3⟩ | ⟨b1, b2, b3, b4⟩ | ⟨b1, b2, b3, b4⟩
  · exact ⟨a1.trans b1.symm, a3.trans b3.symm⟩
  · omega
  · omega
  · omega
  · exact ⟨a1.trans b1.symm, a3.trans b3.symm⟩
  · exact absurd ⟨m', b3, b4⟩ a4
  · omega
  · exact absurd ⟨m, a3, a4⟩ b4
  · exact ⟨a1.trans b1.symm, a3.det b3⟩
/-- The first objects were found. -/
structure SI (l : List Int) (at_ : Nat) (m : List Ob) : Prop where
  le : at_ ≤ l.length
  fwd : ∀ m', Spl at_ (l.drop at_) m' → Spl 0 l (m ++ m')
  bwd : ∀ M, Spl 0 l M → ∃ m', M = m ++ m' ∧ Spl at_ (l.drop at_) m'
  len : m.length ≤ at_
theorem SI.start (l : List Int) : SI l 0 [] := ⟨Nat.zero_le _, fun m' h => by simpa using h, fun M h => ⟨M, by simp, by simpa using h⟩, by simp⟩
theorem SI.done {l : List Int} {m : List Ob} (h : SI l l.length m) : Spl 0 l m := by
  have := h.fwd [] (by rw [List.drop_length]; exact .nil)
  simpa using this
def okHd (w : Int) (n : Nat) : Prop := 0 ≤ w ∧ w < 140737488355328 ∧ w % 128 < (n : Int)
instance (w : Int) (n : Nat) : Decidable (okHd w n) := inferInstanceAs (Decidable (_ ∧ _ ∧ _))
theorem SI.bad {l : List Int} {at_ : Nat} {m : List Ob} (h : SI l at_ m) (hl : at_ < l.length) (hw : ¬ okHd l[at_] (l.length - at_)) : ¬ ∃ M, Spl 0 l M ∧ fineM M := by
  rintro ⟨M, hM, _⟩
  obtain ⟨m', _, h2⟩ := h.bwd M hM
  rw [List.drop_eq_getElem_cons hl] at h2
  generalize e : l[at_] :: l.drop (at_ + 1) = x at h2
  cases h2 with
  | nil => cases e
  | @cons _ o t m2 g1 g2 g3 g4 g5 =>
    simp only [List.cons.injEq] at e
    have d := hd_div g4
    have d3 := congrArg List.length e.2
    simp only [List.length_drop, List.length_append] at d3
    refine hw ?_
    rw [e.1]
    unfold okHd
    have : o.hd = o.ser * 128 + (o.fs.length : Int) := rfl
    omega
theorem SI.step {l : List Int} {at_ : Nat} {m : List Ob} (h : SI l at_ m) (hl : at_ < l.length) (hw : okHd l[at_] (l.length - at_)) :
    SI l (at_ + 1 + (l[at_] % 128).toNat) (m ++ [⟨at_, l[at_] / 128, (l.drop (at_ + 1)).take (l[at_] % 128).toNat⟩]) := by
  obtain ⟨h0, h1, h2⟩ := hw
  generalize hn : (l[at_] % 128).toNat = n at *
  have hle : at_ + 1 + n ≤ l.length := by omega
  have hfl : ((l.drop (at_ + 1)).take n).length = n := by rw [List.length_take, List.length_drop]; omega
  have ehd : Ob.hd ⟨at_, l[at_] / 128, (l.drop (at_ + 1)).take n⟩ = l[at_] := by unfold Ob.hd; simp only [hfl]; omega
  have esz : Ob.sz ⟨at_, l[at_] / 128, (l.drop (at_ + 1)).take n⟩ = 1 + n := by unfold Ob.sz; simp only [hfl]
  have edrop : l.drop at_ = l[at_] :: ((l.drop (at_ + 1)).take n ++ l.drop (at_ + 1 + n)) := by
    rw [List.drop_eq_getElem_cons hl]
    congr 1
    have := (List.take_append_drop n (l.drop (at_ + 1))).symm
    rwa [List.drop_drop] at this
  refine ⟨hle, fun m' hm' => ?_, fun M hM => ?_, by have := h.len; simp; omega⟩
  · have := Spl.cons (at_ := at_) (o := ⟨at_, l[at_] / 128, (l.drop (at_ + 1)).take n⟩) (t := l.drop (at_ + 1 + n)) (m := m') rfl (show 0 ≤ l[at_] / 128 by omega) (show l[at_] / 128 < 1099511627776 by omega) (by simp only [hfl]; omega) (by rw [esz, ← Nat.add_assoc]; exact hm')
    rw [ehd, ← edrop] at this
    have := h.fwd _ this
    rwa [List.append_assoc]
  · obtain ⟨m', e1, h2'⟩ := h.bwd M hM
    rw [edrop] at h2'
    generalize e : l[at_] :: ((l.drop (at_ + 1)).take n ++ l.drop (at_ + 1 + n)) = x at h2'
    cases h2' with
    | nil => cases e
    | @cons _ o t m2 g1 g2 g3 g4 g5 =>
      simp only [List.cons.injEq] at e
      obtain ⟨e2, e3⟩ := e
      have d := hd_div g4
      rw [← e2] at d
      have e4 : ((l.drop (at_ + 1)).take n).length = o.fs.length := by rw [hfl]; omega
      obtain ⟨e5, e6⟩ := List.append_inj e3 e4
      have e7 : (⟨at_, l[at_] / 128, (l.drop (at_ + 1)).take n⟩ : Ob) = o := by
        cases o
        simp only [Ob.mk.injEq]
        exact ⟨g1.symm, d.1, e5⟩
      refine ⟨m2, ?_, ?_⟩
      · rw [e1, ← e7]; simp
      · have es : o.sz = 1 + n := by rw [← e7]; exact esz
        rw [es, ← Nat.add_assoc, ← e6] at g5
        exact g5
/-! ### 2. Walks -/
section
variable {K : VK} {w : World}
theorem vcCall_of {f : FuncId} {cap : Array Value} {args : List Value} {w : World} {K : VK} (hb : bodied Try.prog f = true) (h : C.call Try.prog f (args ++ cap.toList).toArray w K) : vcCall Try.prog (.func (.func f) #[] cap) args w K := by
  simp only [vcCall, hb, cond_true, List.nil_append]
  exact h
theorem intC_one {l : List Int} : ∀ y ∈ intC l, ∀ u ∈ y, u.oneCell' = true := by
  intro y hy u hu
  simp only [intC, List.mem_map] at hy
  obtain ⟨x, _, rfl⟩ := hy
  simp only [List.mem_cons, List.not_mem_nil, or_false] at hu
  subst hu
  rfl
theorem RdS.one {w : World} {v : Value} {sz : Nat} {xs : List (List Value)} (h : RdS w v sz xs) : v.oneCell' = true ∧ v.cells = #[v] := by
  obtain ⟨A, c, rfl, _⟩ := h
  exact ⟨rfl, rfl⟩
theorem bsW (n : Int) : (Instr.buildSlice 22 1 #[(0, .int .i64 n)]).run Try.prog w = .ok (.slice (some ⟨w.heap.size, 0, none⟩) 1 1) (w.alloc (.cells #[.int .i64 n] 2)) := by kernel_rfl
theorem bsI (n : Int) : (Instr.buildSlice 26 1 #[(0, .int .i64 n)]).run Try.prog w = .ok (.slice (some ⟨w.heap.size, 0, none⟩) 1 1) (w.alloc (.cells #[.int .i64 n] 3)) := by kernel_rfl
theorem C.appW {W0 : World} {v : Value} {l : List Int} {n : Int} (hf : Fr [] W0 w) (hn : NewS W0 v) (hv : OwnS w v 2 1 (intC l)) (hl : l.length ≤ 17592186044415)
    (hk : ∀ v' w', Fr [] W0 w' → NewS W0 v' → OwnS w' v' 2 1 (intC (l ++ [n])) → Fr (blkS v) w w' → (∀ g ∈ blkS v', g ∈ blkS v ∨ w.heap.size ≤ g) → K v' w') :
    C.run Try.prog (Instr.buildSlice 22 1 #[(0, .int .i64 n)]) w fun x w1 => C.run Try.prog (Builtin.append_ #[22, 22] 22 #[v, x]) w1 K :=
  C.app1 (x := [.int .i64 n]) (e := 2) (sz := 1) (bytes := 8) (z := .int .i64 0) Try.underlying22 (by kernel_rfl) rfl (by decide) (bsW n) rfl (by simp [Value.oneCell']) hf hn hv (by rw [intC_len]; omega) (by rw [intC_len]; omega) fun v' w' a b c d e => hk v' w' a b (by rw [intC_app]; exact c) d e
theorem C.appWs {W0 : World} {v src : Value} {l k : List Int} (hf : Fr [] W0 w) (hn : NewS W0 v) (hv : OwnS w v 2 1 (intC l)) (hs : RdS w src 1 (intC k)) (hl : l.length + k.length ≤ 17592186044415)
    (hk : ∀ v' w', Fr [] W0 w' → NewS W0 v' → OwnS w' v' 2 1 (intC (l ++ k)) → Fr (blkS v) w w' → (∀ g ∈ blkS v', g ∈ blkS v ∨ w.heap.size ≤ g) → K v' w') :
    C.run Try.prog (Builtin.append_ #[22, 22] 22 #[v, src]) w K :=
  C.appN (e := 2) (sz := 1) (bytes := 8) (z := .int .i64 0) Try.underlying22 (by kernel_rfl) rfl (by decide) hf hn hv hs intC_one (by rw [intC_len, intC_len]; omega) (by rw [intC_len, intC_len]; omega) fun v' w' a b c d e => hk v' w' a b (by rw [intC_app]; exact c) d e
theorem C.appI {W0 : World} {v : Value} {l : List Int} {n : Int} (hf : Fr [] W0 w) (hn : NewS W0 v) (hv : OwnS w v 3 1 (intC l)) (hl : l.length ≤ 17592186044415)
    (hk : ∀ v' w', Fr [] W0 w' → NewS W0 v' → OwnS w' v' 3 1 (intC (l ++ [n])) → Fr (blkS v) w w' → (∀ g ∈ blkS v', g ∈ blkS v ∨ w.heap.size ≤ g) → K v' w') :
    C.run Try.prog (Instr.buildSlice 26 1 #[(0, .int .i64 n)]) w fun x w1 => C.run Try.prog (Builtin.append_ #[26, 26] 26 #[v, x]) w1 K :=
  C.app1 (x := [.int .i64 n]) (e := 3) (sz := 1) (bytes := 8) (z := .int .i64 0) Try.underlying26 (by kernel_rfl) rfl (by decide) (bsI n) rfl (by simp [Value.oneCell']) hf hn hv (by rw [intC_len]; omega) (by rw [intC_len]; omega) fun v' w' a b c d e => hk v' w' a b (by rw [intC_app]; exact c) d e
/-- An object's first word, taken apart. -/
theorem Split_c {x : Int} (hx : x ≤ 9223372036854775807) (h1 : 0 ≤ x → x < 140737488355328 → K (.tuple #[.int .i64 (x / 128), .int .i64 (x % 128), .bool true]) w) (h2 : ¬ (0 ≤ x ∧ x < 140737488355328) → K (.tuple #[.int .i64 0, .int .i64 0, .bool false]) w) :
    C.call Try.prog 40 #[.int .i64 x] w K := by
  refine F40.sh ?_
  by_cases c : x < 0
  · simp only [C.ite_true, C.ite_false, C.pick_true, C.pick_false, C.not_bool, C.field_ptr, C.nilCheck_ptr, C.add_mk, C.sub_mk, C.mul_mk, C.eql_mk, C.neq_mk, C.lss_mk, C.leq_mk, C.gtr_mk, C.geq_mk, C.conv_mk, C.len_mk, C.ext_0, C.ext_1, C.ext3_0, C.ext3_1, C.ext3_2, C.guarded_yes, C.guarded_tf, C.guarded_ft, C.guarded_undef, Bool.not_true, Bool.not_false, Nat.zero_add, eq_self, decide_true, decide_false, c]
    exact h2 (by omega)
  · have et : x.tdiv 128 = x / 128 := Int.tdiv_eq_ediv_of_nonneg (by omega)
    have em : x.tmod 128 = x % 128 := by rw [Int.tmod_eq_emod_of_nonneg (by omega)]
    simp only [C.ite_true, C.ite_false, C.pick_true, C.pick_false, C.not_bool, C.field_ptr, C.nilCheck_ptr, C.add_mk, C.sub_mk, C.mul_mk, C.eql_mk, C.neq_mk, C.lss_mk, C.leq_mk, C.gtr_mk, C.geq_mk, C.conv_mk, C.len_mk, C.ext_0, C.ext_1, C.ext3_0, C.ext3_1, C.ext3_2, C.guarded_yes, C.guarded_tf, C.guarded_ft, C.guarded_undef, Bool.not_true, Bool.not_false, Nat.zero_add, eq_self, decide_true, decide_false, c]
    refine ⟨_, quo_run _ _ _ _ (by decide), ?_⟩
    rw [et, wrap64_id (n := x / 128) (by omega)]
    by_cases d : x / 128 ≥ 1099511627776
    · simp only [C.ite_true, C.ite_false, C.pick_true, C.pick_false, C.not_bool, C.field_ptr, C.nilCheck_ptr, C.add_mk, C.sub_mk, C.mul_mk, C.eql_mk, C.neq_mk, C.lss_mk, C.leq_mk, C.gtr_mk, C.geq_mk, C.conv_mk, C.len_mk, C.ext_0, C.ext_1, C.ext3_0, C.ext3_1, C.ext3_2, C.guarded_yes, C.guarded_tf, C.guarded_ft, C.guarded_undef, Bool.not_true, Bool.not_false, Nat.zero_add, eq_self, decide_true, decide_false, d]
      exact h2 (by omega)
    · simp only [C.ite_true, C.ite_false, C.pick_true, C.pick_false, C.not_bool, C.field_ptr, C.nilCheck_ptr, C.add_mk, C.sub_mk, C.mul_mk, C.eql_mk, C.neq_mk, C.lss_mk, C.leq_mk, C.gtr_mk, C.geq_mk, C.conv_mk, C.len_mk, C.ext_0, C.ext_1, C.ext3_0, C.ext3_1, C.ext3_2, C.guarded_yes, C.guarded_tf, C.guarded_ft, C.guarded_undef, Bool.not_true, Bool.not_false, Nat.zero_add, eq_self, decide_true, decide_false, d]
      refine F40.k3.to ⟨_, quo_run _ _ _ _ (by decide), _, rem_run _ _ _ _ (by decide), ?_⟩
      rw [et, em, wrap64_id (n := x / 128) (by omega)]
      exact h1 (by omega) (by omega)
/-- slices.IndexFunc, of words. -/
theorem IdxW_loop {W0 : World} {v f : Value} {l : List Int} {p : Int → Bool} (hv : RdS W0 v 1 (intC l))
    (hp : ∀ w' n (K' : VK), Fr [] W0 w' → n ∈ l → (∀ w'', Fr [] w' w'' → K' (.bool (p n)) w'') → vcCall Try.prog f [.int .i64 n] w' K')
    (h1 : ∀ w', Fr [] W0 w' → l.any p = false → K (.int .i64 (-1)) w') (h2 : ∀ i w', Fr [] W0 w' → l.any p = true → K (.int .i64 ((i : Nat) : Int)) w') :
    ∀ (d j : Nat) (w : World), l.length = j + d → Fr [] W0 w → (∀ i (h : i < l.length), i < j → p l[i] = false) → F70.l2 K v f (.int .i64 (l.length : Int)) (.int .i64 (j : Int)) w := by
  intro d
  induction d with
  | zero =>
    intro j w hd hf hj
    refine F70.l2.to ?_
    simp only [C.ite_true, C.ite_false, C.pick_true, C.pick_false, C.not_bool, C.field_ptr, C.nilCheck_ptr, C.add_mk, C.sub_mk, C.mul_mk, C.eql_mk, C.neq_mk, C.lss_mk, C.leq_mk, C.gtr_mk, C.geq_mk, C.conv_mk, C.len_mk, C.ext_0, C.ext_1, C.ext3_0, C.ext3_1, C.ext3_2, C.guarded_yes, C.guarded_tf, C.guarded_ft, C.guarded_undef, Bool.not_true, Bool.not_false, Nat.zero_add, eq_self, decide_true, decide_false, show ¬ ((j : Int) < (l.length : Int)) by omega]
    refine F70.k7.to (h1 w hf ?_)
    rw [List.any_eq_false]
    intro n hn
    obtain ⟨i, hi, rfl⟩ := List.getElem_of_mem hn
    simp [hj i hi (by omega)]
  | succ d ih =>
    intro j w hd hf hj
    have hle := hv.le
    rw [intC_len] at hle
    have jl : j < l.length := by omega
    refine F70.l2.to ?_
    simp only [C.ite_true, C.ite_false, C.pick_true, C.pick_false, C.not_bool, C.field_ptr, C.nilCheck_ptr, C.add_mk, C.sub_mk, C.mul_mk, C.eql_mk, C.neq_mk, C.lss_mk, C.leq_mk, C.gtr_mk, C.geq_mk, C.conv_mk, C.len_mk, C.ext_0, C.ext_1, C.ext3_0, C.ext3_1, C.ext3_2, C.guarded_yes, C.guarded_tf, C.guarded_ft, C.guarded_undef, Bool.not_true, Bool.not_false, Nat.zero_add, eq_self, decide_true, decide_false, show ((j : Int) < (l.length : Int)) by omega]
    refine F70.k3.to (C.idx_int (hv.keep hf) jl fun g o cs e fz hg hc => C.load1_of hg hc (hp _ _ _ hf (List.getElem_mem _) fun w1 hf1 => ?_))
    cases hpj : p l[j] with
    | true =>
      simp only [C.ite_true, C.ite_false, C.pick_true, C.pick_false, C.not_bool, C.field_ptr, C.nilCheck_ptr, C.add_mk, C.sub_mk, C.mul_mk, C.eql_mk, C.neq_mk, C.lss_mk, C.leq_mk, C.gtr_mk, C.geq_mk, C.conv_mk, C.len_mk, C.ext_0, C.ext_1, C.ext3_0, C.ext3_1, C.ext3_2, C.guarded_yes, C.guarded_tf, C.guarded_ft, C.guarded_undef, Bool.not_true, Bool.not_false, Nat.zero_add, eq_self, decide_true, decide_false]
      exact h2 j w1 (hf.trans hf1) (List.any_eq_true.2 ⟨_, List.getElem_mem jl, hpj⟩)
    | false =>
      simp only [C.ite_true, C.ite_false, C.pick_true, C.pick_false, C.not_bool, C.field_ptr, C.nilCheck_ptr, C.add_mk, C.sub_mk, C.mul_mk, C.eql_mk, C.neq_mk, C.lss_mk, C.leq_mk, C.gtr_mk, C.geq_mk, C.conv_mk, C.len_mk, C.ext_0, C.ext_1, C.ext3_0, C.ext3_1, C.ext3_2, C.guarded_yes, C.guarded_tf, C.guarded_ft, C.guarded_undef, Bool.not_true, Bool.not_false, Nat.zero_add, eq_self, decide_true, decide_false]
      refine F70.k6.to ?_
      simp only [C.ite_true, C.ite_false, C.pick_true, C.pick_false, C.not_bool, C.field_ptr, C.nilCheck_ptr, C.add_mk, C.sub_mk, C.mul_mk, C.eql_mk, C.neq_mk, C.lss_mk, C.leq_mk, C.gtr_mk, C.geq_mk, C.conv_mk, C.len_mk, C.ext_0, C.ext_1, C.ext3_0, C.ext3_1, C.ext3_2, C.guarded_yes, C.guarded_tf, C.guarded_ft, C.guarded_undef, Bool.not_true, Bool.not_false, Nat.zero_add, eq_self, decide_true, decide_false]
      rw [wrap64_id (n := (j : Int) + 1) (by omega), show (j : Int) + 1 = ((j + 1 : Nat) : Int) by omega]
      refine ih (j + 1) w1 (by omega) (hf.trans hf1) fun i hi hij => ?_
      rcases Nat.lt_or_ge i j with h | h
      · exact hj i hi h
      · obtain rfl : i = j := by omega
        exact hpj
theorem HasW_c {v f : Value} {l : List Int} {p : Int → Bool} (hv : RdS w v 1 (intC l))
    (hp : ∀ w' n (K' : VK), Fr [] w w' → n ∈ l → (∀ w'', Fr [] w' w'' → K' (.bool (p n)) w'') → vcCall Try.prog f [.int .i64 n] w' K')
    (h : ∀ w', Fr [] w w' → K (.bool (l.any p)) w') : C.call Try.prog 51 #[v, f] w K := by
  refine F51.sh (F70.sh (C.len_rd hv ?_))
  rw [intC_len]
  refine IdxW_loop hv hp (fun w' hf ha => ?_) (fun i w' hf ha => ?_) l.length 0 w (by omega) (Fr.refl _ _) fun i hi hj => by omega
  · simp only [C.ite_true, C.ite_false, C.pick_true, C.pick_false, C.not_bool, C.field_ptr, C.nilCheck_ptr, C.add_mk, C.sub_mk, C.mul_mk, C.eql_mk, C.neq_mk, C.lss_mk, C.leq_mk, C.gtr_mk, C.geq_mk, C.conv_mk, C.len_mk, C.ext_0, C.ext_1, C.ext3_0, C.ext3_1, C.ext3_2, C.guarded_yes, C.guarded_tf, C.guarded_ft, C.guarded_undef, Bool.not_true, Bool.not_false, Nat.zero_add, eq_self, decide_true, decide_false, show ¬ ((-1 : Int) ≥ 0) by omega]
    have := h w' hf
    rwa [ha] at this
  · simp only [C.ite_true, C.ite_false, C.pick_true, C.pick_false, C.not_bool, C.field_ptr, C.nilCheck_ptr, C.add_mk, C.sub_mk, C.mul_mk, C.eql_mk, C.neq_mk, C.lss_mk, C.leq_mk, C.gtr_mk, C.geq_mk, C.conv_mk, C.len_mk, C.ext_0, C.ext_1, C.ext3_0, C.ext3_1, C.ext3_2, C.guarded_yes, C.guarded_tf, C.guarded_ft, C.guarded_undef, Bool.not_true, Bool.not_false, Nat.zero_add, eq_self, decide_true, decide_false, show ((i : Int) ≥ 0) by omega]
    have := h w' hf
    rwa [ha] at this
/-- Is it a value's word, that leads to one of some addresses, if to any? -/
def fineS (S : List Int) (x : Int) : Bool := okW x && match wRef x with
  | some a => decide ((a : Int) ∈ S)
  | none => true
theorem fineS_eq (m : List Ob) (x : Int) : fineS (atL m) x = fineW m x := by
  unfold fineS fineW
  congr 1
  cases wRef x with
  | none => rfl
  | some a =>
    simp only
    rw [Bool.eq_iff_iff, decide_eq_true_eq]
    constructor
    · intro h
      simp only [atL, List.mem_map] at h
      obtain ⟨o, ho, e⟩ := h
      cases hp : pl m a with
      | some p => rfl
      | none => exact absurd (by omega) (pl_none.1 hp o ho)
    · intro h
      obtain ⟨p, hp⟩ := Option.isSome_iff_exists.1 h
      obtain ⟨h1, h2, _⟩ := pl_some hp
      exact List.mem_map.2 ⟨m[p], List.getElem_mem h1, by rw [h2]⟩
/-- The image's block. -/
theorem may_c {lv sv : Value} {S : List Int} {x : Int} (h1 : lv.cells = #[lv]) (hS : RdS w sv 1 (intC S)) (hx : -9223372036854775808 ≤ x ∧ x ≤ 9223372036854775807) (h : ∀ w', Fr [] w w' → K (.bool (fineS S x)) w') :
    C.call Try.prog 53 #[.agg #[lv, sv], .int .i64 x] w K := by
  have hc : Value.cells (.agg #[lv, sv]) = #[lv, sv] := by simp [Value.cells, h1, hS.one.2]
  refine F53.sh ?_
  rw [hc]
  refine C.new_of fun b w1 hn1 => ?_
  have hb := hn1.at_
  have fin : ∀ (k n : Int) (ok : Bool) w2, Fr [] w1 w2 → (∀ w', Fr [] w1 w' → (ok = true → F53.k4 K (.int .i64 x) (.pointer (some ⟨b, 0, none⟩)) w') ∧ (ok = false → K (.bool false) w')) →
      (C.ext 0 (.tuple #[V k n, .bool ok]) w2 fun x12 w3 => C.ext 1 (.tuple #[V k n, .bool ok]) w3 fun x13 w4 => C.new (.cells #[.int .i64 0, .int .i64 0] 75) w4 fun x5 w5 => C.store 2 x5 x12 w5 fun w6 => C.not x13 w6 fun x15 w7 => C.ite x15 (K (.bool false) w7) (F53.k4 K (.int .i64 x) (.pointer (some ⟨b, 0, none⟩)) w7)) := by
    intro k n ok w2 hf2 hk
    simp only [C.ite_true, C.ite_false, C.pick_true, C.pick_false, C.not_bool, C.field_ptr, C.nilCheck_ptr, C.add_mk, C.sub_mk, C.mul_mk, C.eql_mk, C.neq_mk, C.lss_mk, C.leq_mk, C.gtr_mk, C.geq_mk, C.conv_mk, C.len_mk, C.ext_0, C.ext_1, C.ext3_0, C.ext3_1, C.ext3_2, C.guarded_yes, C.guarded_tf, C.guarded_ft, C.guarded_undef, Bool.not_true, Bool.not_false, Nat.zero_add, eq_self, decide_true, decide_false]
    refine C.new_of fun c w3 hn3 => C.store_all hn3.at_ rfl v2_cells rfl fun w4 hu4 => ?_
    have l3 := hn3.is
    have hf4 : Fr [] w1 w4 := (hf2.trans hn3.fr).then hu4.fr fun z hz => .inr (by have := hf2.size; simp only [List.mem_singleton] at hz; omega)
    obtain ⟨k1, k2⟩ := hk w4 hf4
    cases ok with
    | true => simp only [C.ite_true, C.ite_false, C.pick_true, C.pick_false, C.not_bool, C.field_ptr, C.nilCheck_ptr, C.add_mk, C.sub_mk, C.mul_mk, C.eql_mk, C.neq_mk, C.lss_mk, C.leq_mk, C.gtr_mk, C.geq_mk, C.conv_mk, C.len_mk, C.ext_0, C.ext_1, C.ext3_0, C.ext3_1, C.ext3_2, C.guarded_yes, C.guarded_tf, C.guarded_ft, C.guarded_undef, Bool.not_true, Bool.not_false, Nat.zero_add, eq_self, decide_true, decide_false]; exact k1 rfl
    | false => simp only [C.ite_true, C.ite_false, C.pick_true, C.pick_false, C.not_bool, C.field_ptr, C.nilCheck_ptr, C.add_mk, C.sub_mk, C.mul_mk, C.eql_mk, C.neq_mk, C.lss_mk, C.leq_mk, C.gtr_mk, C.geq_mk, C.conv_mk, C.len_mk, C.ext_0, C.ext_1, C.ext3_0, C.ext3_1, C.ext3_2, C.guarded_yes, C.guarded_tf, C.guarded_ft, C.guarded_undef, Bool.not_true, Bool.not_false, Nat.zero_add, eq_self, decide_true, decide_false]; exact k2 rfl
  refine Read_c x hx (fun hc0 w2 hf2 => fin _ _ true w2 hf2 fun w' hf' => ⟨fun _ => ?_, fun h => by cases h⟩) (fun hc0 w2 hf2 => fin 0 0 false w2 hf2 fun w' hf' => ⟨(fun h => by cases h), fun _ => ?_⟩)
  · have f0 := hn1.fr.trans hf'
    have ok : okW x = true := by simp [okW, hc0]
    refine F53.k4.to (Address_c x hx (fun hr w3 hf3 => ?_) (fun hr w3 hf3 => ?_))
    · have hr' : wRef x = some (rdN x).toNat := by unfold wRef; rw [if_pos hr]
      have hn := (wRef_ok hr').2.2
      simp only [C.ite_true, C.ite_false, C.pick_true, C.pick_false, C.not_bool, C.field_ptr, C.nilCheck_ptr, C.add_mk, C.sub_mk, C.mul_mk, C.eql_mk, C.neq_mk, C.lss_mk, C.leq_mk, C.gtr_mk, C.geq_mk, C.conv_mk, C.len_mk, C.ext_0, C.ext_1, C.ext3_0, C.ext3_1, C.ext3_2, C.guarded_yes, C.guarded_tf, C.guarded_ft, C.guarded_undef, Bool.not_true, Bool.not_false, Nat.zero_add, eq_self, decide_true, decide_false]
      refine C.load1_of (v := sv) ((hf'.trans hf3).at_ hb (by simp)) rfl ?_
      rw [hn]
      refine Contains_c ((hS.keep hn1.fr).keep (hf'.trans hf3)) ?_
      try simp only [C.ite_true, C.ite_false, C.pick_true, C.pick_false, C.not_bool, C.field_ptr, C.nilCheck_ptr, C.add_mk, C.sub_mk, C.mul_mk, C.eql_mk, C.neq_mk, C.lss_mk, C.leq_mk, C.gtr_mk, C.geq_mk, C.conv_mk, C.len_mk, C.ext_0, C.ext_1, C.ext3_0, C.ext3_1, C.ext3_2, C.guarded_yes, C.guarded_tf, C.guarded_ft, C.guarded_undef, Bool.not_true, Bool.not_false, Nat.zero_add, eq_self, decide_true, decide_false]
      have := h w3 (f0.trans hf3)
      unfold fineS at this
      rw [ok, hr'] at this
      exact this
    · have hr' : wRef x = none := by unfold wRef; rw [if_neg hr]
      simp only [C.ite_true, C.ite_false, C.pick_true, C.pick_false, C.not_bool, C.field_ptr, C.nilCheck_ptr, C.add_mk, C.sub_mk, C.mul_mk, C.eql_mk, C.neq_mk, C.lss_mk, C.leq_mk, C.gtr_mk, C.geq_mk, C.conv_mk, C.len_mk, C.ext_0, C.ext_1, C.ext3_0, C.ext3_1, C.ext3_2, C.guarded_yes, C.guarded_tf, C.guarded_ft, C.guarded_undef, Bool.not_true, Bool.not_false, Nat.zero_add, eq_self, decide_true, decide_false]
      have := h w3 (f0.trans hf3)
      unfold fineS at this
      rw [ok, hr'] at this
      exact this
  · have ok : okW x = false := by simp [okW, hc0]
    have := h w' (hn1.fr.trans hf')
    unfold fineS at this
    rw [ok] at this
    exact this
/-- An object's fields. -/
theorem fields_c {lv sv : Value} {l : List Int} {o : Ob} (hl : RdS w lv 1 (intC l)) (h2 : sv.cells = #[sv]) (hr : Rng l) (ho : ObAt 0 l o) (h : ∀ v w', Fr [] w w' → RdS w' v 1 (intC o.fs) → (∀ g ∈ blkS v, g ∈ blkS lv) → K v w') :
    C.call Try.prog 35 #[.agg #[lv, sv], .int .i64 (o.at_ : Int)] w K := by
  have hc : Value.cells (.agg #[lv, sv]) = #[lv, sv] := by simp [Value.cells, hl.one.2, h2]
  have he := ho.end_
  rw [Nat.sub_zero] at he
  have hle := hl.le
  rw [intC_len] at hle
  have hal : o.at_ < l.length := by omega
  have hhd : l[o.at_] = o.hd := by have := ho.hd; rw [Nat.sub_zero, List.getElem?_eq_getElem hal] at this; exact Option.some.inj this
  obtain ⟨d1, d2⟩ := hd_div ho.n
  have hhd' : o.hd = o.ser * 128 + (o.fs.length : Int) := rfl
  have := ho.s0; have := ho.s1; have := ho.n
  refine F35.sh ?_
  rw [hc]
  refine C.new_of fun b w1 hn1 => ?_
  have hl1 := hl.keep hn1.fr
  simp only [C.ite_true, C.ite_false, C.pick_true, C.pick_false, C.not_bool, C.field_ptr, C.nilCheck_ptr, C.add_mk, C.sub_mk, C.mul_mk, C.eql_mk, C.neq_mk, C.lss_mk, C.leq_mk, C.gtr_mk, C.geq_mk, C.conv_mk, C.len_mk, C.ext_0, C.ext_1, C.ext3_0, C.ext3_1, C.ext3_2, C.guarded_yes, C.guarded_tf, C.guarded_ft, C.guarded_undef, Bool.not_true, Bool.not_false, Nat.zero_add, eq_self, decide_true, decide_false]
  refine C.load1_of (v := lv) hn1.at_ rfl (C.idx_int hl1 hal fun g oo cs e fz hg hv => C.load1_of hg hv ?_)
  rw [hhd]
  refine Split_c (by omega) (fun _ _ => ?_) (fun c => absurd ⟨by omega, by omega⟩ c)
  rw [d1, d2]
  simp only [C.ite_true, C.ite_false, C.pick_true, C.pick_false, C.not_bool, C.field_ptr, C.nilCheck_ptr, C.add_mk, C.sub_mk, C.mul_mk, C.eql_mk, C.neq_mk, C.lss_mk, C.leq_mk, C.gtr_mk, C.geq_mk, C.conv_mk, C.len_mk, C.ext_0, C.ext_1, C.ext3_0, C.ext3_1, C.ext3_2, C.guarded_yes, C.guarded_tf, C.guarded_ft, C.guarded_undef, Bool.not_true, Bool.not_false, Nat.zero_add, eq_self, decide_true, decide_false]
  refine C.load1_of (v := lv) hn1.at_ rfl ?_
  rw [wrap64_id (n := (o.at_ : Int) + 1) (by omega), wrap64_id (n := (o.at_ : Int) + 1 + (o.fs.length : Int)) (by omega)]
  rw [show (o.at_ : Int) + 1 = ((o.at_ + 1 : Nat) : Int) by omega, show ((o.at_ + 1 : Nat) : Int) + (o.fs.length : Int) = ((o.at_ + 1 + o.fs.length : Nat) : Int) by omega]
  refine C.mid_of hl1 Try.underlying22 (by kernel_rfl : szOf Try.prog 2 = some 1) (by omega) (by rw [intC_len]; omega) fun v' hv' hb' => h v' w1 hn1.fr ?_ hb'
  have e : ((intC l).drop (o.at_ + 1)).take (o.at_ + 1 + o.fs.length - (o.at_ + 1)) = intC o.fs := by
    have h1 := ho.fs
    rw [Nat.sub_zero] at h1
    rw [show o.at_ + 1 + o.fs.length - (o.at_ + 1) = o.fs.length by omega]
    conv => rhs; rw [← h1]
    simp [intC, List.map_take, List.map_drop]
  rw [e] at hv'
  exact hv'
end
end Go.Proofs.YtfjilngljnlkjaaV
namespace Go.Proofs.YtfjilngljnlkjaaV
open Go Go.Proofs Go.RowKit
set_option linter.unusedVariables false
set_option linter.unusedSimpArgs false
set_option maxRecDepth 10000
section
variable {K : VK} {w : World}
theorem bImg0 : (Instr.build 61 #[]).run Try.prog w = .ok (.agg #[.slice none 0 0, .slice none 0 0]) w := by kernel_rfl
theorem bImg (A : Option Addr) (n c : Nat) : (Instr.build 61 #[(0, .slice A n c)]).run Try.prog w = .ok (.agg #[.slice A n c, .slice none 0 0]) w := by kernel_rfl
/-- What stands while words are opened. -/
structure OI (W0 w : World) (b2 b4 : Nat) (lv sv : Value) (m : List Ob) : Prop where
  fr : Fr [] W0 w
  h2 : w.heap[b2]? = some (.cells #[.slice none 0 0, .slice none 0 0] 61 (0, 0))
  h4 : w.heap[b4]? = some (.cells #[lv, sv] 61 (0, 0))
  lo : W0.heap.size ≤ b2 ∧ W0.heap.size ≤ b4 ∧ b2 ≠ b4
  own : OwnS w sv 3 1 (intC (atL m))
  new : NewS W0 sv
theorem OI.keep {W0 w w' : World} {b2 b4 : Nat} {lv sv : Value} {m : List Ob} (h : OI W0 w b2 b4 lv sv m) (hf : Fr [] w w') : OI W0 w' b2 b4 lv sv m :=
  ⟨h.fr.trans hf, hf.at_ h.h2 (by simp), hf.at_ h.h4 (by simp), h.lo, h.own.keep hf (by simp), h.new⟩
theorem img_cells {a b : Value} (ha : a.cells = #[a]) (hb : b.cells = #[b]) : Value.cells (.agg #[a, b]) = #[a, b] := by simp [Value.cells, ha, hb]
theorem img_ones {a b : Value} (ha : a.cells = #[a]) (hb : b.cells = #[b]) (ha' : a.oneCell' = true) (hb' : b.oneCell' = true) : ∀ u ∈ (Value.cells (.agg #[a, b])).toList, u.oneCell' = true := by
  rw [img_cells ha hb]
  intro u hu
  simp only [List.mem_cons, List.not_mem_nil, or_false] at hu
  rcases hu with rfl | rfl
  · exact ha'
  · exact hb'
/-- An image goes out. -/
theorem img_out {b g : Nat} {a c a' c' : Value} {n : Int} (hb : w.heap[b]? = some (.cells #[a', c'] 61 (0, 0))) (ha : a.cells = #[a]) (hc : c.cells = #[c]) (ha' : a.oneCell' = true) (hc' : c.oneCell' = true)
    (hk : ∀ w', Fr [b] w w' → K (.tuple #[.agg #[a, c], .int .i64 n]) w') : C.store 2 (.pointer (some ⟨b, 0, none⟩)) (.agg #[a, c]) w fun w7 => C.loadA 2 (.pointer (some ⟨b, 0, none⟩)) w7 fun r8 _ => K (.tuple #[r8, .int .i64 n]) w7 := by
  have e := img_cells ha hc
  refine C.store_all (x := .agg #[a, c]) hb (by rw [e]; rfl) (img_ones ha hc ha' hc') rfl fun w1 hu => ?_
  have := hu.at_
  rw [e] at this
  exact C.loadA_all this rfl (hk w1 hu.fr)
theorem bodied_o1 : bodied Try.prog 52 = true := by kernel_rfl
theorem bodied_s1 : bodied Try.prog 54 = true := by kernel_rfl
theorem open_fine {W0 : World} {lv sv : Value} {l : List Int} {m : List Ob} {b2 b4 : Nat} (hl : RdS W0 lv 1 (intC l)) (hr : Rng l) (hlen : l.length ≤ 2048) (hS : Spl 0 l m) (h16 : ∀ w', Fr [] W0 w' → ¬ fineM m → K (.tuple #[.agg #[.slice none 0 0, .slice none 0 0], .int .i64 16]) w')
    (h0 : ∀ w', Fr [] W0 w' → fineM m → OwnS w' sv 3 1 (intC (atL m)) → K (.tuple #[.agg #[lv, sv], .int .i64 0]) w') :
    ∀ (d j : Nat) (w : World), m.length = j + d → OI W0 w b2 b4 lv sv m → (∀ i (h : i < m.length), i < j → fineL m m[i].fs) → F31.l12 K (.pointer (some ⟨b2, 0, none⟩)) (.pointer (some ⟨b4, 0, none⟩)) sv (.int .i64 (m.length : Int)) (.int .i64 (j : Int)) w := by
  have hml := hS.len
  intro d
  induction d with
  | zero =>
    intro j w hj hI hd
    refine F31.l12.to ?_
    simp only [C.ite_true, C.ite_false, C.pick_true, C.pick_false, C.not_bool, C.field_ptr, C.nilCheck_ptr, C.add_mk, C.sub_mk, C.mul_mk, C.eql_mk, C.neq_mk, C.lss_mk, C.leq_mk, C.gtr_mk, C.geq_mk, C.conv_mk, C.len_mk, C.ext_0, C.ext_1, C.ext3_0, C.ext3_1, C.ext3_2, C.guarded_yes, C.guarded_tf, C.guarded_ft, C.guarded_undef, Bool.not_true, Bool.not_false, Nat.zero_add, eq_self, decide_true, decide_false, show ¬ ((j : Int) < (m.length : Int)) by omega]
    have hl' := hl.keep hI.fr
    have hlo := hI.lo
    refine F31.k17.to (C.loadA_all hI.h4 rfl (img_out (g := 0) hI.h2 hl'.one.2 hI.own.one.2 hl'.one.1 hI.own.one.1 fun w' hf' => h0 w' (hI.fr.then hf' fun z hz => .inr (by simp only [List.mem_singleton] at hz; omega)) (fun o ho => ?_) (hI.own.keep' hf' fun g hg => by
      simp only [List.mem_singleton]
      intro e
      subst e
      exact hI.own.nb hI.h2 (by decide) hg)))
    obtain ⟨i, hi, rfl⟩ := List.getElem_of_mem ho
    exact hd i hi (by omega)
  | succ d ih =>
    intro j w hj hI hd
    have jl : j < m.length := by omega
    have jl' : j < (atL m).length := by rw [atL_len]; exact jl
    refine F31.l12.to ?_
    simp only [C.ite_true, C.ite_false, C.pick_true, C.pick_false, C.not_bool, C.field_ptr, C.nilCheck_ptr, C.add_mk, C.sub_mk, C.mul_mk, C.eql_mk, C.neq_mk, C.lss_mk, C.leq_mk, C.gtr_mk, C.geq_mk, C.conv_mk, C.len_mk, C.ext_0, C.ext_1, C.ext3_0, C.ext3_1, C.ext3_2, C.guarded_yes, C.guarded_tf, C.guarded_ft, C.guarded_undef, Bool.not_true, Bool.not_false, Nat.zero_add, eq_self, decide_true, decide_false, show ((j : Int) < (m.length : Int)) by omega]
    refine F31.k13.to (C.idx_int hI.own.rd jl' fun g o cs e fz hg hv => C.load1_of hg hv (C.loadA_all hI.h4 rfl ?_))
    rw [atL_get jl jl']
    refine fields_c (hl.keep hI.fr) hI.own.one.2 hr (hS.get j jl).1 fun fv w1 hf1 hfv _ => ?_
    have hI1 := hI.keep hf1
    have hrf : Rng m[j].fs := fun x hx => by
      have := (hS.get j jl).1.fs
      rw [← this] at hx
      exact hr x (List.mem_of_mem_drop (List.mem_of_mem_take hx))
    refine HasW_c (p := fun x => !fineS (atL m) x) hfv (fun w' n K' hf' hn hk => vcCall_of bodied_o1 (F52.sh (C.loadA_all (hf'.at_ hI1.h4 (by simp)) rfl (may_c (hl.one.2) (hI1.own.keep hf' (by simp)).rd (hrf n hn) fun w'' hf'' => ?_)))) fun w2 hf2 => ?_
    · simp only [C.ite_true, C.ite_false, C.pick_true, C.pick_false, C.not_bool, C.field_ptr, C.nilCheck_ptr, C.add_mk, C.sub_mk, C.mul_mk, C.eql_mk, C.neq_mk, C.lss_mk, C.leq_mk, C.gtr_mk, C.geq_mk, C.conv_mk, C.len_mk, C.ext_0, C.ext_1, C.ext3_0, C.ext3_1, C.ext3_2, C.guarded_yes, C.guarded_tf, C.guarded_ft, C.guarded_undef, Bool.not_true, Bool.not_false, Nat.zero_add, eq_self, decide_true, decide_false]
      exact hk w'' hf''
    · have hI2 := hI1.keep hf2
      cases ha : m[j].fs.any fun x => !fineS (atL m) x with
      | true =>
        simp only [C.ite_true, C.ite_false, C.pick_true, C.pick_false, C.not_bool, C.field_ptr, C.nilCheck_ptr, C.add_mk, C.sub_mk, C.mul_mk, C.eql_mk, C.neq_mk, C.lss_mk, C.leq_mk, C.gtr_mk, C.geq_mk, C.conv_mk, C.len_mk, C.ext_0, C.ext_1, C.ext3_0, C.ext3_1, C.ext3_2, C.guarded_yes, C.guarded_tf, C.guarded_ft, C.guarded_undef, Bool.not_true, Bool.not_false, Nat.zero_add, eq_self, decide_true, decide_false]
        refine C.run_of bImg0 (img_out (g := 0) hI2.h2 rfl rfl rfl rfl fun w' hf' => h16 w' (hI2.fr.then hf' fun z hz => .inr (by simp only [List.mem_singleton] at hz; have := hI.lo; omega)) fun hfm => ?_)
        obtain ⟨x, hx, hbad⟩ := List.any_eq_true.1 ha
        rw [fineS_eq, hfm m[j] (List.getElem_mem jl) x hx] at hbad
        cases hbad
      | false =>
        simp only [C.ite_true, C.ite_false, C.pick_true, C.pick_false, C.not_bool, C.field_ptr, C.nilCheck_ptr, C.add_mk, C.sub_mk, C.mul_mk, C.eql_mk, C.neq_mk, C.lss_mk, C.leq_mk, C.gtr_mk, C.geq_mk, C.conv_mk, C.len_mk, C.ext_0, C.ext_1, C.ext3_0, C.ext3_1, C.ext3_2, C.guarded_yes, C.guarded_tf, C.guarded_ft, C.guarded_undef, Bool.not_true, Bool.not_false, Nat.zero_add, eq_self, decide_true, decide_false]
        refine F31.k16.to ?_
        simp only [C.ite_true, C.ite_false, C.pick_true, C.pick_false, C.not_bool, C.field_ptr, C.nilCheck_ptr, C.add_mk, C.sub_mk, C.mul_mk, C.eql_mk, C.neq_mk, C.lss_mk, C.leq_mk, C.gtr_mk, C.geq_mk, C.conv_mk, C.len_mk, C.ext_0, C.ext_1, C.ext3_0, C.ext3_1, C.ext3_2, C.guarded_yes, C.guarded_tf, C.guarded_ft, C.guarded_undef, Bool.not_true, Bool.not_false, Nat.zero_add, eq_self, decide_true, decide_false]
        rw [wrap64_id (n := (j : Int) + 1) (by omega), show (j : Int) + 1 = ((j + 1 : Nat) : Int) by omega]
        refine ih (j + 1) w2 (by omega) hI2 fun i hi hij x hx => ?_
        by_cases c : i = j
        · subst c
          have := List.any_eq_false.1 ha x hx
          rw [fineS_eq] at this
          simpa using this
        · exact hd i hi (by omega) x hx
theorem open_loop {W0 : World} {lv : Value} {l : List Int} {b2 b4 : Nat} (hl : RdS W0 lv 1 (intC l)) (hr : Rng l) (hlen : l.length ≤ 2048) (h16 : ∀ w', Fr [] W0 w' → (¬ ∃ m, Spl 0 l m ∧ fineM m) → K (.tuple #[.agg #[.slice none 0 0, .slice none 0 0], .int .i64 16]) w')
    (h0 : ∀ m sv w', Fr [] W0 w' → Spl 0 l m → fineM m → NewS W0 sv → OwnS w' sv 3 1 (intC (atL m)) → K (.tuple #[.agg #[lv, sv], .int .i64 0]) w') :
    ∀ (d at_ : Nat) (w : World) (sv : Value) (m : List Ob), l.length ≤ at_ + d → OI W0 w b2 b4 lv sv m → SI l at_ m → F31.l5 K lv (.pointer (some ⟨b2, 0, none⟩)) (.pointer (some ⟨b4, 0, none⟩)) (.int .i64 (at_ : Int)) w := by
  have fin : ∀ (at_ : Nat) (w : World) (sv : Value) (m : List Ob), l.length = at_ → OI W0 w b2 b4 lv sv m → SI l at_ m → F31.l5 K lv (.pointer (some ⟨b2, 0, none⟩)) (.pointer (some ⟨b4, 0, none⟩)) (.int .i64 (at_ : Int)) w := by
    intro at_ w sv m ha hI hs
    subst ha
    have hS := hs.done
    have hml := hS.len
    refine F31.l5.to (C.len_rd (hl.keep hI.fr) ?_)
    rw [intC_len]
    simp only [C.ite_true, C.ite_false, C.pick_true, C.pick_false, C.not_bool, C.field_ptr, C.nilCheck_ptr, C.add_mk, C.sub_mk, C.mul_mk, C.eql_mk, C.neq_mk, C.lss_mk, C.leq_mk, C.gtr_mk, C.geq_mk, C.conv_mk, C.len_mk, C.ext_0, C.ext_1, C.ext3_0, C.ext3_1, C.ext3_2, C.guarded_yes, C.guarded_tf, C.guarded_ft, C.guarded_undef, Bool.not_true, Bool.not_false, Nat.zero_add, eq_self, decide_true, decide_false, show ¬ ((l.length : Int) < (l.length : Int)) by omega]
    refine F31.k11.to ?_
    simp only [C.ite_true, C.ite_false, C.pick_true, C.pick_false, C.not_bool, C.field_ptr, C.nilCheck_ptr, C.add_mk, C.sub_mk, C.mul_mk, C.eql_mk, C.neq_mk, C.lss_mk, C.leq_mk, C.gtr_mk, C.geq_mk, C.conv_mk, C.len_mk, C.ext_0, C.ext_1, C.ext3_0, C.ext3_1, C.ext3_2, C.guarded_yes, C.guarded_tf, C.guarded_ft, C.guarded_undef, Bool.not_true, Bool.not_false, Nat.zero_add, eq_self, decide_true, decide_false]
    refine C.load1_of (v := sv) hI.h4 rfl (C.len_rd hI.own.rd ?_)
    rw [intC_len, atL_len]
    exact open_fine hl hr hlen hS (fun w' hf hn => h16 w' hf fun ⟨m', h1, h2⟩ => by have := hS.det h1; subst this; exact hn h2) (fun w' hf hm ho => h0 m sv w' hf hS hm hI.new ho) m.length 0 w (by omega) hI fun i hi hij => by omega
  intro d
  induction d with
  | zero => exact fun at_ w sv m ha hI hs => fin at_ w sv m (by have := hs.le; omega) hI hs
  | succ d ih =>
    intro at_ w sv m ha hI hs
    by_cases hend : l.length = at_
    · exact fin at_ w sv m hend hI hs
    have hle := hs.le
    have hal : at_ < l.length := by omega
    have hml := hs.len
    have hrx := hr l[at_] (List.getElem_mem hal)
    refine F31.l5.to (C.len_rd (hl.keep hI.fr) ?_)
    rw [intC_len]
    simp only [C.ite_true, C.ite_false, C.pick_true, C.pick_false, C.not_bool, C.field_ptr, C.nilCheck_ptr, C.add_mk, C.sub_mk, C.mul_mk, C.eql_mk, C.neq_mk, C.lss_mk, C.leq_mk, C.gtr_mk, C.geq_mk, C.conv_mk, C.len_mk, C.ext_0, C.ext_1, C.ext3_0, C.ext3_1, C.ext3_2, C.guarded_yes, C.guarded_tf, C.guarded_ft, C.guarded_undef, Bool.not_true, Bool.not_false, Nat.zero_add, eq_self, decide_true, decide_false, show ((at_ : Int) < (l.length : Int)) by omega]
    have bad : ∀ w', Fr [] w w' → ¬ okHd l[at_] (l.length - at_) → C.run Try.prog (Instr.build 61 #[]) w' fun x w3 => C.store 2 (.pointer (some ⟨b2, 0, none⟩)) x w3 fun w4 => C.loadA 2 (.pointer (some ⟨b2, 0, none⟩)) w4 fun r17 _ => K (.tuple #[r17, .int .i64 16]) w4 := fun w' hf' hb =>
      C.run_of bImg0 (img_out (g := 0) (hI.keep hf').h2 rfl rfl rfl rfl fun w'' hf'' => h16 w'' ((hI.fr.trans hf').then hf'' fun z hz => .inr (by simp only [List.mem_singleton] at hz; have := hI.lo; omega)) (hs.bad hal hb))
    refine F31.k6.to (C.idx_int (hl.keep hI.fr) hal fun g o cs e fz hg hv => C.load1_of hg hv (Split_c hrx.2 (fun h0 h1 => ?_) (fun hno => ?_)))
    · simp only [C.ite_true, C.ite_false, C.pick_true, C.pick_false, C.not_bool, C.field_ptr, C.nilCheck_ptr, C.add_mk, C.sub_mk, C.mul_mk, C.eql_mk, C.neq_mk, C.lss_mk, C.leq_mk, C.gtr_mk, C.geq_mk, C.conv_mk, C.len_mk, C.ext_0, C.ext_1, C.ext3_0, C.ext3_1, C.ext3_2, C.guarded_yes, C.guarded_tf, C.guarded_ft, C.guarded_undef, Bool.not_true, Bool.not_false, Nat.zero_add, eq_self, decide_true, decide_false]
      refine C.len_rd (hl.keep hI.fr) ?_
      rw [intC_len]
      simp only [C.ite_true, C.ite_false, C.pick_true, C.pick_false, C.not_bool, C.field_ptr, C.nilCheck_ptr, C.add_mk, C.sub_mk, C.mul_mk, C.eql_mk, C.neq_mk, C.lss_mk, C.leq_mk, C.gtr_mk, C.geq_mk, C.conv_mk, C.len_mk, C.ext_0, C.ext_1, C.ext3_0, C.ext3_1, C.ext3_2, C.guarded_yes, C.guarded_tf, C.guarded_ft, C.guarded_undef, Bool.not_true, Bool.not_false, Nat.zero_add, eq_self, decide_true, decide_false]
      rw [wrap64_id (n := (l.length : Int) - (at_ : Int)) (by omega)]
      by_cases hc : l[at_] % 128 ≥ (l.length : Int) - (at_ : Int)
      · simp only [C.ite_true, C.ite_false, C.pick_true, C.pick_false, C.not_bool, C.field_ptr, C.nilCheck_ptr, C.add_mk, C.sub_mk, C.mul_mk, C.eql_mk, C.neq_mk, C.lss_mk, C.leq_mk, C.gtr_mk, C.geq_mk, C.conv_mk, C.len_mk, C.ext_0, C.ext_1, C.ext3_0, C.ext3_1, C.ext3_2, C.guarded_yes, C.guarded_tf, C.guarded_ft, C.guarded_undef, Bool.not_true, Bool.not_false, Nat.zero_add, eq_self, decide_true, decide_false, hc]
        exact bad w (Fr.refl _ _) fun h => by unfold okHd at h; omega
      · simp only [C.ite_true, C.ite_false, C.pick_true, C.pick_false, C.not_bool, C.field_ptr, C.nilCheck_ptr, C.add_mk, C.sub_mk, C.mul_mk, C.eql_mk, C.neq_mk, C.lss_mk, C.leq_mk, C.gtr_mk, C.geq_mk, C.conv_mk, C.len_mk, C.ext_0, C.ext_1, C.ext3_0, C.ext3_1, C.ext3_2, C.guarded_yes, C.guarded_tf, C.guarded_ft, C.guarded_undef, Bool.not_true, Bool.not_false, Nat.zero_add, eq_self, decide_true, decide_false, hc]
        refine F31.k9.to ?_
        simp only [C.ite_true, C.ite_false, C.pick_true, C.pick_false, C.not_bool, C.field_ptr, C.nilCheck_ptr, C.add_mk, C.sub_mk, C.mul_mk, C.eql_mk, C.neq_mk, C.lss_mk, C.leq_mk, C.gtr_mk, C.geq_mk, C.conv_mk, C.len_mk, C.ext_0, C.ext_1, C.ext3_0, C.ext3_1, C.ext3_2, C.guarded_yes, C.guarded_tf, C.guarded_ft, C.guarded_undef, Bool.not_true, Bool.not_false, Nat.zero_add, eq_self, decide_true, decide_false]
        refine C.load1_of (v := sv) hI.h4 rfl (C.appI hI.fr hI.new hI.own (by rw [atL_len]; omega) fun v' w1 hf1 hn1 ho1 hb1 hg1 => ?_)
        have hs1 := hs.step hal (show okHd l[at_] (l.length - at_) from ⟨h0, h1, by omega⟩)
        have h4' := hb1.at_ hI.h4 (hI.own.nb hI.h4 (by decide))
        have h2' := hb1.at_ hI.h2 (hI.own.nb hI.h2 (by decide))
        obtain ⟨l1, l2, l3⟩ := hI.lo
        refine C.store1_of h4' ho1.one.2 ho1.one.1 (by simp) fun w2 hu2 => ?_
        have hle1 := hs1.le
        try simp only [C.ite_true, C.ite_false, C.pick_true, C.pick_false, C.not_bool, C.field_ptr, C.nilCheck_ptr, C.add_mk, C.sub_mk, C.mul_mk, C.eql_mk, C.neq_mk, C.lss_mk, C.leq_mk, C.gtr_mk, C.geq_mk, C.conv_mk, C.len_mk, C.ext_0, C.ext_1, C.ext3_0, C.ext3_1, C.ext3_2, C.guarded_yes, C.guarded_tf, C.guarded_ft, C.guarded_undef, Bool.not_true, Bool.not_false, Nat.zero_add, eq_self, decide_true, decide_false]
        rw [wrap64_id (n := 1 + l[at_] % 128) (by omega), wrap64_id (n := (at_ : Int) + (1 + l[at_] % 128)) (by omega), show (at_ : Int) + (1 + l[at_] % 128) = ((at_ + 1 + (l[at_] % 128).toNat : Nat) : Int) by omega]
        refine ih _ w2 v' _ (by omega) ⟨hf1.then hu2.fr fun z hz => .inr (by simp only [List.mem_singleton] at hz; omega), hu2.fr.at_ h2' (by simp; omega), hu2.at_, hI.lo, ?_, hn1⟩ hs1
        rw [atL_app]
        exact ho1.keep' hu2.fr fun g hg => by
          simp only [List.mem_singleton]
          intro e
          subst e
          exact ho1.nb h4' (by decide) hg
    · simp only [C.ite_true, C.ite_false, C.pick_true, C.pick_false, C.not_bool, C.field_ptr, C.nilCheck_ptr, C.add_mk, C.sub_mk, C.mul_mk, C.eql_mk, C.neq_mk, C.lss_mk, C.leq_mk, C.gtr_mk, C.geq_mk, C.conv_mk, C.len_mk, C.ext_0, C.ext_1, C.ext3_0, C.ext3_1, C.ext3_2, C.guarded_yes, C.guarded_tf, C.guarded_ft, C.guarded_undef, Bool.not_true, Bool.not_false, Nat.zero_add, eq_self, decide_true, decide_false]
      exact bad w (Fr.refl _ _) fun h => hno ⟨h.1, h.2.1⟩
theorem open_c {lv : Value} {l : List Int} (hl : RdS w lv 1 (intC l)) (hr : Rng l) (h : ∀ c m lv' sv w', Cd l c m → Fr [] w w' → (c = 0 → lv' = lv ∧ NewS w sv ∧ OwnS w' sv 3 1 (intC (atL m))) → (c ≠ 0 → lv' = .slice none 0 0 ∧ sv = .slice none 0 0) → K (.tuple #[.agg #[lv', sv], .int .i64 c]) w') :
    C.call Try.prog 31 #[lv] w K := by
  refine F31.sh (C.new_of fun b2 w1 hn1 => C.len_rd (hl.keep hn1.fr) ?_)
  rw [intC_len]
  have hle := hl.le
  rw [intC_len] at hle
  have i1 := hn1.is
  by_cases hc : (l.length : Int) > 2048
  · simp only [C.ite_true, C.ite_false, C.pick_true, C.pick_false, C.not_bool, C.field_ptr, C.nilCheck_ptr, C.add_mk, C.sub_mk, C.mul_mk, C.eql_mk, C.neq_mk, C.lss_mk, C.leq_mk, C.gtr_mk, C.geq_mk, C.conv_mk, C.len_mk, C.ext_0, C.ext_1, C.ext3_0, C.ext3_1, C.ext3_2, C.guarded_yes, C.guarded_tf, C.guarded_ft, C.guarded_undef, Bool.not_true, Bool.not_false, Nat.zero_add, eq_self, decide_true, decide_false, hc]
    exact C.run_of bImg0 (img_out (g := 0) hn1.at_ rfl rfl rfl rfl fun w' hf' => h 5 [] _ _ w' (.inl ⟨rfl, by omega, rfl⟩) (hn1.fr.then hf' fun z hz => .inr (by simp only [List.mem_singleton] at hz; omega)) (fun e => by cases e) fun _ => ⟨rfl, rfl⟩)
  · simp only [C.ite_true, C.ite_false, C.pick_true, C.pick_false, C.not_bool, C.field_ptr, C.nilCheck_ptr, C.add_mk, C.sub_mk, C.mul_mk, C.eql_mk, C.neq_mk, C.lss_mk, C.leq_mk, C.gtr_mk, C.geq_mk, C.conv_mk, C.len_mk, C.ext_0, C.ext_1, C.ext3_0, C.ext3_1, C.ext3_2, C.guarded_yes, C.guarded_tf, C.guarded_ft, C.guarded_undef, Bool.not_true, Bool.not_false, Nat.zero_add, eq_self, decide_true, decide_false, hc]
    have hl1 := hl.keep hn1.fr
    have hl1' := hl1
    obtain ⟨A, c, rfl, _⟩ := hl1'
    refine F31.k3.to (C.run_of (bImg A _ c) (C.new_of fun b4 w2 hn2 => C.store_all (x := .agg #[.slice A (intC l).length c, .slice none 0 0]) hn2.at_ rfl (by simp [Value.cells, Value.oneCell']) rfl fun w3 hu3 => ?_))
    have i2 := hn2.is
    have z1 := hn1.sz
    have f3 : Fr [] w1 w3 := hn2.fr.then hu3.fr fun z hz => .inr (by simp only [List.mem_singleton] at hz; omega)
    exact open_loop (W0 := w) hl hr (by omega) (fun w' hf hn => h 16 [] _ _ w' (.inr (.inl ⟨rfl, by omega, rfl, hn⟩)) hf (fun e => by cases e) fun _ => ⟨rfl, rfl⟩) (fun m sv w' hf hS hm hn ho => h 0 m _ sv w' (.inr (.inr ⟨rfl, by omega, hS, hm⟩)) hf (fun _ => ⟨rfl, hn, ho⟩) fun e => absurd rfl e) l.length 0 w3 (.slice none 0 0) [] (by omega)
      ⟨hn1.fr.trans f3, f3.at_ hn1.at_ (by simp), hu3.at_, ⟨by omega, by omega, by omega⟩, OwnS.nil _ _ _, NewS.nil _⟩ (SI.start l)
theorem img_put {a c : Value} {F : Value → World → Prop} (ha : a.cells = #[a]) (hc : c.cells = #[c]) (ha' : a.oneCell' = true) (hc' : c.oneCell' = true)
    (hk : ∀ b w', Fr [] w w' → w.heap.size ≤ b → w'.heap[b]? = some (.cells #[a, c] 61 (0, 0)) → F (.pointer (some ⟨b, 0, none⟩)) w') : C.new (.cells #[.slice none 0 0, .slice none 0 0] 61) w fun x w1 => C.store 2 x (.agg #[a, c]) w1 fun w2 => F x w2 := by
  have e := img_cells ha hc
  refine C.new_of fun b w1 hn => C.store_all (x := .agg #[a, c]) hn.at_ (by rw [e]; rfl) (img_ones ha hc ha' hc') rfl fun w2 hu => ?_
  have i := hn.is
  have := hu.at_
  rw [e] at this
  exact hk b w2 (hn.fr.then hu.fr fun z hz => .inr (by simp only [List.mem_singleton] at hz; omega)) (by omega) this
theorem one_of {c : Int} {lv lv' sv : Value} {l : List Int} {w' : World} {X : List (List Value)} (hl : RdS w lv 1 (intC l)) (h1 : c = 0 → lv' = lv ∧ OwnS w' sv 3 1 X) (h2 : c ≠ 0 → lv' = .slice none 0 0 ∧ sv = .slice none 0 0) :
    lv'.cells = #[lv'] ∧ sv.cells = #[sv] ∧ lv'.oneCell' = true ∧ sv.oneCell' = true := by
  by_cases c0 : c = 0
  · obtain ⟨rfl, h⟩ := h1 c0
    exact ⟨hl.one.2, h.one.2, hl.one.1, h.one.1⟩
  · obtain ⟨rfl, rfl⟩ := h2 c0
    exact ⟨rfl, rfl, rfl, rfl⟩
theorem ECheck_c {lv : Value} {l : List Int} (hl : RdS w lv 1 (intC l)) (hr : Rng l) (h : ∀ c m w', Cd l c m → Fr [] w w' → K (.int .i64 c) w') : C.call Try.prog 11 #[lv] w K := by
  refine F11.sh (open_c hl hr fun c m lv' sv w1 hc hf1 h1 h2 => ?_)
  obtain ⟨e1, e2, e3, e4⟩ := one_of (X := intC (atL m)) hl (fun c0 => ⟨(h1 c0).1, (h1 c0).2.2⟩) h2
  simp only [C.ite_true, C.ite_false, C.pick_true, C.pick_false, C.not_bool, C.field_ptr, C.nilCheck_ptr, C.add_mk, C.sub_mk, C.mul_mk, C.eql_mk, C.neq_mk, C.lss_mk, C.leq_mk, C.gtr_mk, C.geq_mk, C.conv_mk, C.len_mk, C.ext_0, C.ext_1, C.ext3_0, C.ext3_1, C.ext3_2, C.guarded_yes, C.guarded_tf, C.guarded_ft, C.guarded_undef, Bool.not_true, Bool.not_false, Nat.zero_add, eq_self, decide_true, decide_false]
  exact img_put e1 e2 e3 e4 fun b w2 hf2 _ hb => h c m w2 hc (hf1.trans hf2)
theorem Objects_c {lv : Value} {l : List Int} (hl : RdS w lv 1 (intC l)) (hr : Rng l) (h : ∀ c m sv w', Cd l c m → Fr [] w w' → RdS w' sv 1 (intC (atL m)) → K sv w') : C.call Try.prog 12 #[lv] w K := by
  refine F12.sh (open_c hl hr fun c m lv' sv w1 hc hf1 h1 h2 => ?_)
  obtain ⟨e1, e2, e3, e4⟩ := one_of (X := intC (atL m)) hl (fun c0 => ⟨(h1 c0).1, (h1 c0).2.2⟩) h2
  simp only [C.ite_true, C.ite_false, C.pick_true, C.pick_false, C.not_bool, C.field_ptr, C.nilCheck_ptr, C.add_mk, C.sub_mk, C.mul_mk, C.eql_mk, C.neq_mk, C.lss_mk, C.leq_mk, C.gtr_mk, C.geq_mk, C.conv_mk, C.len_mk, C.ext_0, C.ext_1, C.ext3_0, C.ext3_1, C.ext3_2, C.guarded_yes, C.guarded_tf, C.guarded_ft, C.guarded_undef, Bool.not_true, Bool.not_false, Nat.zero_add, eq_self, decide_true, decide_false]
  refine img_put e1 e2 e3 e4 fun b w2 hf2 _ hb => ?_
  simp only [C.ite_true, C.ite_false, C.pick_true, C.pick_false, C.not_bool, C.field_ptr, C.nilCheck_ptr, C.add_mk, C.sub_mk, C.mul_mk, C.eql_mk, C.neq_mk, C.lss_mk, C.leq_mk, C.gtr_mk, C.geq_mk, C.conv_mk, C.len_mk, C.ext_0, C.ext_1, C.ext3_0, C.ext3_1, C.ext3_2, C.guarded_yes, C.guarded_tf, C.guarded_ft, C.guarded_undef, Bool.not_true, Bool.not_false, Nat.zero_add, eq_self, decide_true, decide_false]
  refine C.load1_of (v := sv) hb rfl (h c m sv w2 hc (hf1.trans hf2) ?_)
  by_cases c0 : c = 0
  · exact ((h1 c0).2.2.keep hf2 (by simp)).rd
  · obtain ⟨_, rfl⟩ := h2 c0
    have : m = [] := by
      rcases hc with ⟨_, _, e⟩ | ⟨_, _, e, _⟩ | ⟨e, _⟩
      · exact e
      · exact e
      · exact absurd e c0
    subst this
    exact (OwnS.nil w2 3 1).rd
end
end Go.Proofs.YtfjilngljnlkjaaV
namespace Go.Proofs.YtfjilngljnlkjaaV
open Go Go.Proofs Go.RowKit
set_option linter.unusedVariables false
set_option linter.unusedSimpArgs false
set_option maxRecDepth 10000
/-! ### 1. Plain -/
def atA (m : List Ob) (p : Nat) : Nat := (m[p]?.map Ob.at_).getD 0
theorem atA_get {m : List Ob} {p : Nat} (h : p < m.length) : atA m p = m[p].at_ := by simp [atA, List.getElem?_eq_getElem h]
def ordL (m : List Ob) (o : List Nat) : List Int := o.map fun p => (atA m p : Int)
theorem ordL_len (m : List Ob) (o : List Nat) : (ordL m o).length = o.length := by simp [ordL]
theorem ordL_get {m : List Ob} {o : List Nat} {j : Nat} (h : j < o.length) (h' : j < (ordL m o).length) : (ordL m o)[j] = (atA m o[j] : Int) := by simp [ordL]
theorem ordL_app (m : List Ob) (a b : List Nat) : ordL m (a ++ b) = ordL m a ++ ordL m b := by simp [ordL]
/-- Where those that were met go, as the map has it. -/
def entA (m : List Ob) (o : List Nat) (i : Nat) : Int × Value × Nat := ((atA m (o.getD i 0) : Int), .int .i64 (szS m (o.take i) : Int), i)
def ents (m : List Ob) (o : List Nat) : List (Int × Value × Nat) := (List.range o.length).map (entA m o)
theorem ents_snoc (m : List Ob) (o : List Nat) (p : Nat) : ents m (o ++ [p]) = ents m o ++ [((atA m p : Int), .int .i64 (szS m o : Int), o.length)] := by
  unfold ents
  rw [List.length_append, List.length_singleton, List.range_succ, List.map_append]
  congr 1
  · apply List.map_congr_left
    intro i hi
    have hi' := List.mem_range.1 hi
    simp only [entA, List.getD_eq_getElem?_getD, List.getElem?_append_left hi', List.take_append_of_le_length (Nat.le_of_lt hi')]
  · simp [entA]
theorem ents_get {m : List Ob} {o : List Nat} {i : Nat} (h : i < o.length) : (ents m o)[i]? = some ((atA m o[i] : Int), .int .i64 (szS m (o.take i) : Int), i) := by
  simp [ents, entA, h]
section
variable {l : List Int} {m : List Ob} {o : List Nat}
theorem at_inj (h : Spl 0 l m) {p q : Nat} (hp : p < m.length) (hq : q < m.length) (e : atA m p = atA m q) : p = q := by
  rw [atA_get hp, atA_get hq] at e
  rcases Nat.lt_trichotomy p q with c | c | c
  · have := h.mono c hq; omega
  · exact c
  · have := h.mono c hp; omega
theorem ents_hit (h : Spl 0 l m) (hP : Pls m o) {p : Nat} (hp : p ∈ o) : fnd (atA m p : Int) (ents m o) 0 = some (o.idxOf p, .int .i64 (pos m o p : Int)) := by
  have hi := idx_lt hp
  have hg := idx_get hp
  have := fnd_some (a := (atA m p : Int)) (l := ents m o) (i := 0) (j := o.idxOf p) (ents_get hi) (by simp only [hg]) (fun k y hk hy e => by
    have hk' : k < o.length := by omega
    rw [ents_get hk'] at hy
    simp only [Option.some.injEq] at hy
    subst hy
    simp only at e
    have := at_inj h (hP.2 _ (List.getElem_mem hk')) (hP.2 p hp) (by omega)
    have hne := List.pairwise_iff_getElem.1 (List.nodup_iff_pairwise_ne.1 hP.1) k (o.idxOf p) hk' hi hk
    exact hne (this.trans hg.symm))
  rw [this]
  have e := pos_get (m := m) hP.1 hi
  rw [hg] at e
  simp [e]
theorem ents_miss (h : Spl 0 l m) (hP : Pls m o) {p : Nat} (hm : p < m.length) (hp : p ∉ o) : fnd (atA m p : Int) (ents m o) 0 = none := by
  refine fnd_none fun x hx e => ?_
  obtain ⟨i, hi, rfl⟩ := List.getElem_of_mem hx
  have hi' : i < o.length := by simpa [ents] using hi
  have := ents_get (m := m) hi'
  rw [List.getElem?_eq_getElem hi] at this
  simp only [Option.some.injEq] at this
  rw [this] at e
  simp only at e
  have e2 := at_inj h (hP.2 _ (List.getElem_mem hi')) hm (by omega)
  exact hp (e2 ▸ List.getElem_mem hi')
theorem movW_pre {x : Int} {o' : List Nat} (hpre : o <+: o') (hin : ∀ p, wPl m x = some p → p ∈ o) : movW m o' x = movW m o x := by
  obtain ⟨t, rfl⟩ := hpre
  cases hw : wPl m x with
  | none => rw [mov_none hw, mov_none hw]
  | some p => rw [mov_some hw, mov_some hw, pos_app (hin p hw)]
theorem vis1_in {x : Int} {p : Nat} (h : wPl m x = some p) : p ∈ vis1 m o x := by
  unfold vis1
  rw [h]
  simp only
  split
  · assumption
  · simp
end
/-! ### 2. The mover -/
structure MV (Wb w : World) (mb tb : Nat) (lv sv ov : Value) (m : List Ob) (o : List Nat) : Prop where
  fr : Fr [] Wb w
  blk : w.heap[mb]? = some (.cells #[lv, sv, .map (some tb), ov, .int .i64 (szS m o : Int)] 72 (0, 0))
  map : MapAt (fun a : Int => Value.int .i64 a) w tb (ents m o) o.length
  own : OwnS w ov 3 1 (intC (ordL m o))
  lo : Wb.heap.size ≤ mb ∧ Wb.heap.size ≤ tb ∧ mb ≠ tb
  new : NewS Wb ov
theorem MV.keep {Wb w w' : World} {mb tb : Nat} {lv sv ov : Value} {m : List Ob} {o : List Nat} (h : MV Wb w mb tb lv sv ov m o) (hf : Fr [] w w') : MV Wb w' mb tb lv sv ov m o :=
  ⟨h.fr.trans hf, hf.at_ h.blk (by simp), h.map.keep hf (by simp), h.own.keep hf (by simp), h.lo, h.new⟩
theorem MV.rebase {Wb W w : World} {mb tb : Nat} {lv sv ov : Value} {m : List Ob} {o : List Nat} (h : MV Wb w mb tb lv sv ov m o) (hf : Fr [] W Wb) : MV W w mb tb lv sv ov m o :=
  ⟨hf.trans h.fr, h.blk, h.map, h.own, ⟨by have := hf.size; have := h.lo; omega, by have := hf.size; have := h.lo; omega, h.lo.2.2⟩, h.new.mono hf.size⟩
/-- All that changes is the mover's. -/
theorem MV.off {Wb w : World} {mb tb : Nat} {lv sv ov v : Value} {m : List Ob} {o : List Nat} {e : TypeId} {sz : Nat} {xs : List (List Value)} (h : MV Wb w mb tb lv sv ov m o) (ho : OwnS w v e sz xs) (h1 : e ≠ 72) (h2 : e ≠ 3) : ∀ g ∈ blkS v, g ∉ mb :: tb :: blkS ov := fun g hg c => by
  rcases List.mem_cons.1 c with c | c
  · subst c; exact ho.nb h.blk h1 hg
  · rcases List.mem_cons.1 c with c | c
    · subst c
      obtain ⟨⟨_, hx⟩, _⟩ := ho
      rcases hx with ⟨rfl, _⟩ | ⟨k, cap, cur, rfl, _, hh, _⟩
      · simp [blkS, Value.ownBlock] at hg
      · simp [blkS, Value.ownBlock] at hg
        subst hg
        have := h.map
        unfold MapAt at this
        rw [hh] at this
        cases this
    · exact ho.ne h.own h2 g hg c
section
variable {K : VK} {w : World}
theorem Reference_c {a : Nat} (ha : a < 2048) (h : ∀ w', Fr [] w w' → K (V 2 (a : Int)) w') : C.call Try.prog 67 #[.int .i64 (a : Int)] w K := by
  refine F67.sh (C.new_of fun b w1 hn1 => C.run_of (buildV _ _) (F86.sh (C.new_of fun c w2 hn2 => C.new_of fun d w3 hn3 => ?_)))
  have i1 := hn1.is; have i2 := hn2.is; have i3 := hn3.is
  have z1 := hn1.sz; have z2 := hn2.sz
  have hc : w3.heap[c]? = some (vB 2 (a : Int)) := hn3.fr.at_ hn2.at_ (by simp)
  refine C.loadA_all hc rfl (Check_c 2 (a : Int) fun w4 hf4 => ?_)
  have e : chk 2 (a : Int) = 0 := by unfold chk; rw [if_neg (by decide), if_neg (by decide), if_pos rfl, if_pos (by omega)]
  rw [e]
  simp only [C.ite_true, C.ite_false, C.pick_true, C.pick_false, C.not_bool, C.field_ptr, C.nilCheck_ptr, C.add_mk, C.sub_mk, C.mul_mk, C.eql_mk, C.neq_mk, C.lss_mk, C.leq_mk, C.gtr_mk, C.geq_mk, C.conv_mk, C.len_mk, C.ext_0, C.ext_1, C.ext3_0, C.ext3_1, C.ext3_2, C.guarded_yes, C.guarded_tf, C.guarded_ft, C.guarded_undef, Bool.not_true, Bool.not_false, Nat.zero_add, eq_self, decide_true, decide_false, ne_eq, not_true_eq_false]
  refine F86.k3.to (C.loadA_all (hf4.at_ hc (by simp)) rfl (C.store_all (hf4.at_ hn3.at_ (by simp)) rfl v2_cells rfl fun w5 hu5 => C.loadA_all hu5.at_ rfl ?_))
  have f15 : Fr [] w1 w5 := ((hn2.fr.trans hn3.fr).trans hf4).then hu5.fr fun z hz => .inr (by simp only [List.mem_singleton] at hz; omega)
  refine C.store_all (f15.at_ hn1.at_ (by simp)) rfl v2_cells rfl fun w6 hu6 => C.loadA_all hu6.at_ rfl (h w6 ?_)
  exact (hn1.fr.trans f15).then hu6.fr fun z hz => .inr (by simp only [List.mem_singleton] at hz; omega)
theorem szI (m : List Ob) (o : List Nat) (p : Nat) : szS m (o ++ [p]) = szS m o + szA m p := by rw [szS_app, szS_one]
theorem move_c {Wb : World} {mb tb : Nat} {lv sv ov : Value} {l : List Int} {m : List Ob} {o : List Nat} {x : Int} (hO : Spl 0 l m) (hlen : l.length ≤ 2048) (hlv : RdS Wb lv 1 (intC l)) (hsv : sv.cells = #[sv]) (hr : Rng l) (hP : Pls m o) (hM : MV Wb w mb tb lv sv ov m o)
    (hx : -9223372036854775808 ≤ x ∧ x ≤ 9223372036854775807) (hf : fineW m x = true)
    (h : ∀ ov' w', MV Wb w' mb tb lv sv ov' m (vis1 m o x) → Fr (mb :: tb :: blkS ov) w w' → (∀ g ∈ blkS ov', g ∈ blkS ov ∨ w.heap.size ≤ g) → K (.int .i64 (movW m (vis1 m o x) x)) w') :
    C.call Try.prog 55 #[.pointer (some ⟨mb, 0, none⟩), .int .i64 x] w K := by
  refine F55.sh (Address_c x hx (fun hc w1 hf1 => ?_) (fun hc w1 hf1 => ?_))
  · have hw : wRef x = some (rdN x).toNat := by unfold wRef; rw [if_pos hc]
    obtain ⟨p, hp, hwp⟩ := fine_pl hf hw
    obtain ⟨pm, pat, _⟩ := pl_some hp
    have hn := (wRef_ok hw).2.2
    rw [hn, ← pat, ← atA_get pm]
    have M1 := hM.keep hf1
    have hz : zeroOf Try.prog 3 = some (.int .i64 0) := by kernel_rfl
    have hK : KeyOf Try.prog 3 (fun a : Int => Value.int .i64 a) := KeyOf.int Try.underlying3
    -- the end
    have fin : ∀ (o' : List Nat) ov' w', p ∈ o' → Pls m o' → o' = vis1 m o x → MV Wb w' mb tb lv sv ov' m o' → Fr (mb :: tb :: blkS ov) w w' → (∀ g ∈ blkS ov', g ∈ blkS ov ∨ w.heap.size ≤ g) → F55.k9 K (.pointer (some ⟨mb, 0, none⟩)) (.int .i64 (atA m p : Int)) w' := by
      intro o' ov' w' hpo hP' ho' M' hfr hg
      refine F55.k9.to ?_
      simp only [C.ite_true, C.ite_false, C.pick_true, C.pick_false, C.not_bool, C.field_ptr, C.nilCheck_ptr, C.add_mk, C.sub_mk, C.mul_mk, C.eql_mk, C.neq_mk, C.lss_mk, C.leq_mk, C.gtr_mk, C.geq_mk, C.conv_mk, C.len_mk, C.ext_0, C.ext_1, C.ext3_0, C.ext3_1, C.ext3_2, C.guarded_yes, C.guarded_tf, C.guarded_ft, C.guarded_undef, Bool.not_true, Bool.not_false, Nat.zero_add, eq_self, decide_true, decide_false]
      have hpos : pos m o' p < 2048 := by
        have h1 := pos_lt (m := m) hpo
        have h2 := hP'.sz hO
        have : 1 ≤ szA m p := by unfold szA; omega
        omega
      refine C.load1_of (v := .map (some tb)) M'.blk rfl (C.lookup_of hK Try.underlying70 hz M'.map (atA m p : Int) (v := .int .i64 (pos m o' p : Int)) (is := true) (.inr ⟨_, ents_hit hO hP' hpo, rfl⟩) ?_)
      simp only [Bool.false_eq_true, if_false]
      refine Reference_c hpos fun w2 hf2 => Put_yes 2 _ (by unfold chk; rw [if_neg (by decide), if_neg (by decide), if_pos rfl, if_pos (by omega)]) fun w3 hf3 => ?_
      simp only [C.ite_true, C.ite_false, C.pick_true, C.pick_false, C.not_bool, C.field_ptr, C.nilCheck_ptr, C.add_mk, C.sub_mk, C.mul_mk, C.eql_mk, C.neq_mk, C.lss_mk, C.leq_mk, C.gtr_mk, C.geq_mk, C.conv_mk, C.len_mk, C.ext_0, C.ext_1, C.ext3_0, C.ext3_1, C.ext3_2, C.guarded_yes, C.guarded_tf, C.guarded_ft, C.guarded_undef, Bool.not_true, Bool.not_false, Nat.zero_add, eq_self, decide_true, decide_false]
      have e : putW 2 (pos m o' p : Int) = movW m (vis1 m o x) x := by
        rw [mov_some hwp, ← ho']
        unfold putW
        rw [if_pos rfl]
      rw [e]
      refine h ov' w3 (by rw [← ho']; exact (M'.keep hf2).keep hf3) ((hfr.trans (hf2.w)).trans hf3.w) hg
    simp only [C.ite_true, C.ite_false, C.pick_true, C.pick_false, C.not_bool, C.field_ptr, C.nilCheck_ptr, C.add_mk, C.sub_mk, C.mul_mk, C.eql_mk, C.neq_mk, C.lss_mk, C.leq_mk, C.gtr_mk, C.geq_mk, C.conv_mk, C.len_mk, C.ext_0, C.ext_1, C.ext3_0, C.ext3_1, C.ext3_2, C.guarded_yes, C.guarded_tf, C.guarded_ft, C.guarded_undef, Bool.not_true, Bool.not_false, Nat.zero_add, eq_self, decide_true, decide_false]
    refine F55.k4.to ?_
    simp only [C.ite_true, C.ite_false, C.pick_true, C.pick_false, C.not_bool, C.field_ptr, C.nilCheck_ptr, C.add_mk, C.sub_mk, C.mul_mk, C.eql_mk, C.neq_mk, C.lss_mk, C.leq_mk, C.gtr_mk, C.geq_mk, C.conv_mk, C.len_mk, C.ext_0, C.ext_1, C.ext3_0, C.ext3_1, C.ext3_2, C.guarded_yes, C.guarded_tf, C.guarded_ft, C.guarded_undef, Bool.not_true, Bool.not_false, Nat.zero_add, eq_self, decide_true, decide_false]
    by_cases hin : p ∈ o
    · refine C.load1_of (v := .map (some tb)) M1.blk rfl (C.lookup_of hK Try.underlying70 hz M1.map (atA m p : Int) (v := .int .i64 (pos m o p : Int)) (is := true) (.inr ⟨_, ents_hit hO hP hin, rfl⟩) ?_)
      simp only [C.ite_true, C.ite_false, C.pick_true, C.pick_false, C.not_bool, C.field_ptr, C.nilCheck_ptr, C.add_mk, C.sub_mk, C.mul_mk, C.eql_mk, C.neq_mk, C.lss_mk, C.leq_mk, C.gtr_mk, C.geq_mk, C.conv_mk, C.len_mk, C.ext_0, C.ext_1, C.ext3_0, C.ext3_1, C.ext3_2, C.guarded_yes, C.guarded_tf, C.guarded_ft, C.guarded_undef, Bool.not_true, Bool.not_false, Nat.zero_add, eq_self, decide_true, decide_false, if_true]
      refine fin o ov w1 hin hP ?_ M1 hf1.w fun g hg => .inl hg
      unfold vis1
      rw [hwp]
      simp only [hin, if_true]
    · refine C.load1_of (v := .map (some tb)) M1.blk rfl (C.lookup_of hK Try.underlying70 hz M1.map (atA m p : Int) (v := .int .i64 0) (is := false) (.inl ⟨ents_miss hO hP pm hin, rfl, rfl⟩) ?_)
      simp only [C.ite_true, C.ite_false, C.pick_true, C.pick_false, C.not_bool, C.field_ptr, C.nilCheck_ptr, C.add_mk, C.sub_mk, C.mul_mk, C.eql_mk, C.neq_mk, C.lss_mk, C.leq_mk, C.gtr_mk, C.geq_mk, C.conv_mk, C.len_mk, C.ext_0, C.ext_1, C.ext3_0, C.ext3_1, C.ext3_2, C.guarded_yes, C.guarded_tf, C.guarded_ft, C.guarded_undef, Bool.not_true, Bool.not_false, Nat.zero_add, eq_self, decide_true, decide_false, if_true]
      obtain ⟨l1, l2, l3⟩ := hM.lo
      refine C.draw_of (fun w' => w'.heap[mb]? = some (.cells #[lv, sv, .map (some tb), ov, .int .i64 (szS m o : Int)] 72 (0, 0))) fun w2 hf2 he2 => ⟨by rw [he2]; exact M1.blk, ?_⟩
      have M2 := M1.keep hf2
      simp only [C.ite_true, C.ite_false, C.pick_true, C.pick_false, C.not_bool, C.field_ptr, C.nilCheck_ptr, C.add_mk, C.sub_mk, C.mul_mk, C.eql_mk, C.neq_mk, C.lss_mk, C.leq_mk, C.gtr_mk, C.geq_mk, C.conv_mk, C.len_mk, C.ext_0, C.ext_1, C.ext3_0, C.ext3_1, C.ext3_2, C.guarded_yes, C.guarded_tf, C.guarded_ft, C.guarded_undef, Bool.not_true, Bool.not_false, Nat.zero_add, eq_self, decide_true, decide_false, and_true]
      refine C.load1S_of (v := .map (some tb)) (fun w' hw => ⟨_, _, _, hw, rfl⟩) (C.load1S_of (v := .int .i64 (szS m o : Int)) (fun w' hw => ⟨_, _, _, hw, rfl⟩) (C.mapNew_of hK Try.underlying70 M2.map (atA m p : Int) (.int .i64 (szS m o : Int)) (ents_miss hO hP pm hin) fun w3 hf3 hz3 hm3 => ?_))
      have hb3 := hf3.at_ M2.blk (by simp; omega)
      refine ⟨hb3, ?_⟩
      rw [← ents_snoc] at hm3
      have own3 := M2.own.keep' hf3 fun g hg c => by
        simp only [List.mem_singleton] at c
        subst c
        obtain ⟨⟨_, hx⟩, _⟩ := M2.own
        rcases hx with ⟨rfl, _⟩ | ⟨k, cap, cur, rfl, _, hh, _⟩
        · simp [blkS, Value.ownBlock] at hg
        · simp [blkS, Value.ownBlock] at hg
          subst hg
          have := M2.map
          unfold MapAt at this
          rw [hh] at this
          cases this
      have f3 : Fr [] Wb w3 := M2.fr.then hf3 fun z hz => .inr (by simp only [List.mem_singleton] at hz; omega)
      have hol := hP.len
      have hml := hO.len
      refine C.load1_of (v := ov) hb3 rfl (C.appI f3 hM.new own3 (by rw [ordL_len]; omega) fun ov' w4 hf4 hn4 ho4 hb4 hg4 => ?_)
      try simp only [C.ite_true, C.ite_false, C.pick_true, C.pick_false, C.not_bool, C.field_ptr, C.nilCheck_ptr, C.add_mk, C.sub_mk, C.mul_mk, C.eql_mk, C.neq_mk, C.lss_mk, C.leq_mk, C.gtr_mk, C.geq_mk, C.conv_mk, C.len_mk, C.ext_0, C.ext_1, C.ext3_0, C.ext3_1, C.ext3_2, C.guarded_yes, C.guarded_tf, C.guarded_ft, C.guarded_undef, Bool.not_true, Bool.not_false, Nat.zero_add, eq_self, decide_true, decide_false]
      have nb4 : mb ∉ blkS ov := own3.nb hb3 (by decide)
      have nt4 : tb ∉ blkS ov := fun hg => by
        obtain ⟨⟨_, hx⟩, _⟩ := own3
        rcases hx with ⟨rfl, _⟩ | ⟨k, cap, cur, rfl, _, hh, _⟩
        · simp [blkS, Value.ownBlock] at hg
        · simp [blkS, Value.ownBlock] at hg
          subst hg
          unfold MapAt at hm3
          rw [hh] at hm3
          cases hm3
      have hb4' := hb4.at_ hb3 nb4
      have hm4 := hm3.keep hb4 nt4
      refine C.store1_of hb4' ho4.one.2 ho4.one.1 (by simp) fun w5 hu5 => ?_
      have hb5 : w5.heap[mb]? = some (.cells #[lv, sv, .map (some tb), ov', .int .i64 (szS m o : Int)] 72 (0, 0)) := hu5.at_
      have ho5 := ho4.keep' hu5.fr fun g hg => by
        simp only [List.mem_singleton]
        intro e
        subst e
        exact ho4.nb hb4' (by decide) hg
      have hm5 := hm4.keep hu5.fr (by simp; omega)
      have f5 : Fr [] Wb w5 := hf4.then hu5.fr fun z hz => .inr (by simp only [List.mem_singleton] at hz; omega)
      refine C.draw_of (fun _ => True) fun w6 hf6 he6 => ⟨trivial, ?_⟩
      simp only [C.ite_true, C.ite_false, C.pick_true, C.pick_false, C.not_bool, C.field_ptr, C.nilCheck_ptr, C.add_mk, C.sub_mk, C.mul_mk, C.eql_mk, C.neq_mk, C.lss_mk, C.leq_mk, C.gtr_mk, C.geq_mk, C.conv_mk, C.len_mk, C.ext_0, C.ext_1, C.ext3_0, C.ext3_1, C.ext3_2, C.guarded_yes, C.guarded_tf, C.guarded_ft, C.guarded_undef, Bool.not_true, Bool.not_false, Nat.zero_add, eq_self, decide_true, decide_false, true_and, and_true]
      have hO6 := (hO.get p pm).1
      have hszp : szA m p = 1 + m[p].fs.length := by unfold szA; rw [fsA_get pm]
      have hb6 := hf6.at_ hb5 (by simp)
      have hlv6 : ∀ w', Fr [] w6 w' → RdS w' lv 1 (intC l) := fun w' hw => hlv.keep ((f5.trans hf6).trans hw)
      have hnew : vis1 m o x = o ++ [p] := by unfold vis1; rw [hwp]; simp only [hin, if_false]
      have hP' : Pls m (o ++ [p]) := by rw [← hnew]; exact hP.vis1 x
      have hsz := hP'.sz hO
      rw [szI] at hsz
      -- the last store
      have last : ∀ (fv : Value) (w7 : World), Fr [] w6 w7 → RdS w7 fv 1 (intC m[p].fs) → C.len fv w7 fun x59 w49 => C.int .add (.int .i64 1) x59 w49 fun x60 w50 => C.int .add (.int .i64 (szS m o : Int)) x60 w50 fun x61 w51 => C.store 1 (.pointer (some ⟨mb, 4, none⟩)) x61 w51 fun w54 => F55.k9 K (.pointer (some ⟨mb, 0, none⟩)) (.int .i64 (atA m p : Int)) w54 := by
        intro fv w7 hf7 hfv
        refine C.len_rd hfv ?_
        rw [intC_len]
        simp only [C.ite_true, C.ite_false, C.pick_true, C.pick_false, C.not_bool, C.field_ptr, C.nilCheck_ptr, C.add_mk, C.sub_mk, C.mul_mk, C.eql_mk, C.neq_mk, C.lss_mk, C.leq_mk, C.gtr_mk, C.geq_mk, C.conv_mk, C.len_mk, C.ext_0, C.ext_1, C.ext3_0, C.ext3_1, C.ext3_2, C.guarded_yes, C.guarded_tf, C.guarded_ft, C.guarded_undef, Bool.not_true, Bool.not_false, Nat.zero_add, eq_self, decide_true, decide_false]
        rw [wrap64_id (n := 1 + (m[p].fs.length : Int)) (by omega), wrap64_id (n := (szS m o : Int) + (1 + (m[p].fs.length : Int))) (by omega), show (szS m o : Int) + (1 + (m[p].fs.length : Int)) = ((szS m (o ++ [p]) : Nat) : Int) by rw [szI]; omega]
        refine C.store1_of (hf7.at_ hb6 (by simp)) rfl rfl (by simp) fun w8 hu8 => ?_
        have f68 : Fr [mb] w6 w8 := hf7.w.trans hu8.fr
        have own8 := ((ho5.keep hf6 (by simp)).keep hf7 (by simp)).keep' hu8.fr fun g hg => by
          simp only [List.mem_singleton]
          intro e
          subst e
          exact ((ho5.keep hf6 (by simp)).keep hf7 (by simp)).nb (hf7.at_ hb6 (by simp)) (by decide) hg
        refine fin (o ++ [p]) ov' w8 (by simp) hP' hnew.symm ⟨((f5.trans hf6).trans hf7).then hu8.fr fun z hz => .inr (by simp only [List.mem_singleton] at hz; omega), hu8.at_, ?_, ?_, hM.lo, hn4⟩ ?_ ?_
        · have := ((hm5.keep hf6 (by simp)).keep hf7 (by simp)).keep hu8.fr (by simp; omega)
          rw [List.length_append]
          exact this
        · rw [ordL_app]
          exact own8
        · have a1 : Fr (mb :: tb :: blkS ov) w w3 := (hf1.w.trans hf2.w).trans (hf3.mono fun z hz => by simp only [List.mem_singleton] at hz; simp [hz])
          have a2 : Fr (mb :: tb :: blkS ov) w3 w4 := hb4.mono fun z hz => by simp [hz]
          have a3 : Fr (mb :: tb :: blkS ov) w4 w5 := hu5.fr.mono fun z hz => by simp only [List.mem_singleton] at hz; simp [hz]
          have a4 : Fr (mb :: tb :: blkS ov) w6 w8 := f68.mono fun z hz => by simp only [List.mem_singleton] at hz; simp [hz]
          exact ((a1.trans a2).trans a3).trans (hf6.w.trans a4)
        · intro g hg
          rcases hg4 g hg with c | c
          · exact .inl c
          · right
            have := hf1.size; have := hf2.size; have := hf3.size; omega
      have hlv7 : ∀ w7, Fr [] w6 w7 → ∀ F : VK, (∀ fv w8, Fr [] w7 w8 → RdS w8 fv 1 (intC m[p].fs) → F fv w8) → C.call Try.prog 35 #[.agg #[lv, sv], .int .i64 (atA m p : Int)] w7 F := fun w7 hf7 F hF => by
        rw [atA_get pm]
        exact fields_c (hlv6 w7 hf7) hsv hr hO6 fun fv w8 a b _ => hF fv w8 a b
      have img : ∀ w7, Fr [] w6 w7 → ∀ F : VK, F (.agg #[lv, sv]) w7 → C.loadA 2 (.pointer (some ⟨mb, 0, none⟩)) w7 F := fun w7 hf7 F hF => C.loadA_of (vs := [lv, sv]) (hf7.at_ hb6 (by simp)) (by simp) (by simp) hF
      have sz1 : ∀ w7, Fr [] w6 w7 → ∀ F : VK, F (.int .i64 (szS m o : Int)) w7 → C.load1 (.pointer (some ⟨mb, 4, none⟩)) w7 F := fun w7 hf7 F hF => C.load1_of (hf7.at_ hb6 (by simp)) rfl hF
      refine ⟨sz1 _ (Fr.refl _ _) _ (img _ (Fr.refl _ _) _ (hlv7 _ (Fr.refl _ _) _ fun fv w7 hf7 hfv => last fv w7 hf7 hfv)), img _ (Fr.refl _ _) _ ⟨sz1 _ (Fr.refl _ _) _ (hlv7 _ (Fr.refl _ _) _ fun fv w7 hf7 hfv => last fv w7 hf7 hfv), hlv7 _ (Fr.refl _ _) _ fun fv w7 hf7 hfv => ?_⟩⟩
      have := last fv w7 hf7 hfv
      obtain ⟨A, c, rfl, _⟩ := hfv
      simp only [C.ite_true, C.ite_false, C.pick_true, C.pick_false, C.not_bool, C.field_ptr, C.nilCheck_ptr, C.add_mk, C.sub_mk, C.mul_mk, C.eql_mk, C.neq_mk, C.lss_mk, C.leq_mk, C.gtr_mk, C.geq_mk, C.conv_mk, C.len_mk, C.ext_0, C.ext_1, C.ext3_0, C.ext3_1, C.ext3_2, C.guarded_yes, C.guarded_tf, C.guarded_ft, C.guarded_undef, Bool.not_true, Bool.not_false, Nat.zero_add, eq_self, decide_true, decide_false] at this ⊢
      exact sz1 _ hf7 _ (by simp only [C.ite_true, C.ite_false, C.pick_true, C.pick_false, C.not_bool, C.field_ptr, C.nilCheck_ptr, C.add_mk, C.sub_mk, C.mul_mk, C.eql_mk, C.neq_mk, C.lss_mk, C.leq_mk, C.gtr_mk, C.geq_mk, C.conv_mk, C.len_mk, C.ext_0, C.ext_1, C.ext3_0, C.ext3_1, C.ext3_2, C.guarded_yes, C.guarded_tf, C.guarded_ft, C.guarded_undef, Bool.not_true, Bool.not_false, Nat.zero_add, eq_self, decide_true, decide_false]; exact this)
  · have hw : wRef x = none := by unfold wRef; rw [if_neg hc]
    have hwp := wPl_none (m := m) hw
    have e : vis1 m o x = o := by unfold vis1; rw [hwp]
    simp only [C.ite_true, C.ite_false, C.pick_true, C.pick_false, C.not_bool, C.field_ptr, C.nilCheck_ptr, C.add_mk, C.sub_mk, C.mul_mk, C.eql_mk, C.neq_mk, C.lss_mk, C.leq_mk, C.gtr_mk, C.geq_mk, C.conv_mk, C.len_mk, C.ext_0, C.ext_1, C.ext3_0, C.ext3_1, C.ext3_2, C.guarded_yes, C.guarded_tf, C.guarded_ft, C.guarded_undef, Bool.not_true, Bool.not_false, Nat.zero_add, eq_self, decide_true, decide_false]
    have := h ov w1 (by rw [e]; exact hM.keep hf1) hf1.w fun g hg => .inl hg
    rwa [mov_none hwp] at this
end
end Go.Proofs.YtfjilngljnlkjaaV
namespace Go.Proofs.YtfjilngljnlkjaaV
open Go Go.Proofs Go.RowKit
set_option linter.unusedVariables false
set_option linter.unusedSimpArgs false
set_option maxRecDepth 10000
section
variable {l : List Int} {m : List Ob} {o : List Nat}
theorem vis_snoc (ws : List Int) (x : Int) : vis m o (ws ++ [x]) = vis1 m (vis m o ws) x := by simp [vis]
theorem vis_app (a b : List Int) : vis m o (a ++ b) = vis m (vis m o a) b := by simp [vis]
theorem take_snoc {ws : List Int} {j : Nat} (h : j < ws.length) : ws.take (j + 1) = ws.take j ++ [ws[j]] := by rw [List.take_add_one, List.getElem?_eq_getElem h]; rfl
theorem mov_take {ws : List Int} {j : Nat} (h : j < ws.length) : (ws.take j).map (movW m (vis m o (ws.take j))) ++ [movW m (vis1 m (vis m o (ws.take j)) ws[j]) ws[j]] = (ws.take (j + 1)).map (movW m (vis m o (ws.take (j + 1)))) := by
  rw [take_snoc h, vis_snoc, List.map_append]
  congr 1
  apply List.map_congr_left
  intro w hw
  exact (movW_pre (vis1_pre m _ _) fun p hp => (vis_mem _).2 (.inr ⟨w, hw, hp⟩)).symm
end
section
variable {K : VK} {w : World}
/-- A world without memory: whatever there is came of it. -/
def bare (w : World) : World := { w with heap := #[] }
theorem fr_bare (w : World) : Fr [] (bare w) w := ⟨rfl, rfl, rfl, Nat.zero_le _, fun b hb => by simp [bare] at hb⟩
theorem new_bare (w : World) (v : Value) : NewS (bare w) v := fun g _ => Nat.zero_le _
theorem C.appW' {v : Value} {l : List Int} {n : Int} (hv : OwnS w v 2 1 (intC l)) (hl : l.length ≤ 17592186044415)
    (hk : ∀ v' w', OwnS w' v' 2 1 (intC (l ++ [n])) → Fr (blkS v) w w' → (∀ g ∈ blkS v', g ∈ blkS v ∨ w.heap.size ≤ g) → K v' w') :
    C.run Try.prog (Instr.buildSlice 22 1 #[(0, .int .i64 n)]) w fun x w1 => C.run Try.prog (Builtin.append_ #[22, 22] 22 #[v, x]) w1 K :=
  C.appW (fr_bare w) (new_bare w v) hv hl fun v' w' _ _ a b c => hk v' w' a b c
theorem C.appWs' {v src : Value} {l k : List Int} (hv : OwnS w v 2 1 (intC l)) (hs : RdS w src 1 (intC k)) (hl : l.length + k.length ≤ 17592186044415)
    (hk : ∀ v' w', OwnS w' v' 2 1 (intC (l ++ k)) → Fr (blkS v) w w' → (∀ g ∈ blkS v', g ∈ blkS v ∨ w.heap.size ≤ g) → K v' w') :
    C.run Try.prog (Builtin.append_ #[22, 22] 22 #[v, src]) w K :=
  C.appWs (fr_bare w) (new_bare w v) hv hs hl fun v' w' _ _ a b c => hk v' w' a b c
theorem RdS.keepS {S : List Nat} {w w' : World} {v : Value} {sz : Nat} {xs : List (List Value)} (h : RdS w v sz xs) (hf : Fr S w w') (hS : xs ≠ [] → ∀ g ∈ S, g ∉ blkS v) : RdS w' v sz xs := by
  obtain ⟨A, c, rfl, x1, x2, x3⟩ := h
  refine ⟨A, c, rfl, x1, x2, fun hx => ?_⟩
  obtain ⟨g, o1, cs, e, fz, rfl, hg, hc⟩ := x3 hx
  exact ⟨g, o1, cs, e, fz, rfl, hf.at_ hg fun c => hS hx g c (mem_blkS.2 rfl), hc⟩
theorem RdS.lt {w : World} {v : Value} {sz : Nat} {xs : List (List Value)} (h : RdS w v sz xs) (hx : xs ≠ []) : ∀ g ∈ blkS v, g < w.heap.size := fun g hg => by
  obtain ⟨A, c, rfl, x1, x2, x3⟩ := h
  obtain ⟨g', o1, cs, e, fz, rfl, hh, hc⟩ := x3 hx
  have := mem_blkS.1 hg
  simp only [Value.ownBlock, Option.some.injEq] at this
  subst this
  exact lt_of_at hh
theorem intC_ne {l : List Int} (h : intC l ≠ []) : l ≠ [] := fun e => h (by rw [e]; rfl)
/-- What a list of another kind is made of changes nothing of the mover. -/
theorem MV.keepS {Wb w w' : World} {mb tb : Nat} {lv sv ov v : Value} {m : List Ob} {o : List Nat} {e : TypeId} {sz : Nat} {xs : List (List Value)} (h : MV Wb w mb tb lv sv ov m o) (ho : OwnS w v e sz xs) (h1 : e ≠ 72) (h2 : e ≠ 3) (hn : NewS Wb v) (hf : Fr (blkS v) w w') : MV Wb w' mb tb lv sv ov m o := by
  have hoff := h.off ho h1 h2
  refine ⟨h.fr.then hf fun z hz => .inr (hn z (mem_blkS.1 hz)), hf.at_ h.blk fun c => hoff _ c (by simp), h.map.keep hf fun c => hoff _ c (by simp), h.own.keep' hf fun g hg c => hoff g c (by simp [hg]), h.lo, h.new⟩
/-- Words, moved one by one. -/
theorem moved_loop {W0 Wb : World} {mb tb : Nat} {lv sv wv : Value} {l ws : List Int} {m : List Ob} {o : List Nat} (hO : Spl 0 l m) (hlen : l.length ≤ 2048) (hlv : RdS Wb lv 1 (intC l)) (hsv : sv.cells = #[sv]) (hr : Rng l) (hP : Pls m o)
    (hws : RdS W0 wv 1 (intC ws)) (hrw : Rng ws) (hfw : fineL m ws) (hwl : ws.length ≤ 17592186044415) (S : List Nat) (hS : ws ≠ [] → ∀ g ∈ S, g ∉ blkS wv) (hbs : Wb.heap.size ≤ W0.heap.size)
    (h : ∀ nv ov' w', MV Wb w' mb tb lv sv ov' m (vis m o ws) → Fr S W0 w' → (∀ g ∈ blkS ov', g ∈ S ∨ W0.heap.size ≤ g) → NewS W0 nv → OwnS w' nv 2 1 (intC (ws.map (movW m (vis m o ws)))) → K nv w') :
    ∀ (d j : Nat) (w : World) (nv ov : Value), ws.length = j + d → MV Wb w mb tb lv sv ov m (vis m o (ws.take j)) → Fr S W0 w → (mb ∈ S ∧ tb ∈ S) → (∀ g ∈ blkS ov, g ∈ S ∨ W0.heap.size ≤ g) → NewS W0 nv → OwnS w nv 2 1 (intC ((ws.take j).map (movW m (vis m o (ws.take j))))) →
      F34.l3 K (.pointer (some ⟨mb, 0, none⟩)) nv wv (.int .i64 (ws.length : Int)) (.int .i64 (j : Int)) w := by
  intro d
  induction d with
  | zero =>
    intro j w nv ov hj hM hf hmt hov hn ho
    refine F34.l3.to ?_
    simp only [C.ite_true, C.ite_false, C.pick_true, C.pick_false, C.not_bool, C.field_ptr, C.nilCheck_ptr, C.add_mk, C.sub_mk, C.mul_mk, C.eql_mk, C.neq_mk, C.lss_mk, C.leq_mk, C.gtr_mk, C.geq_mk, C.conv_mk, C.len_mk, C.ext_0, C.ext_1, C.ext3_0, C.ext3_1, C.ext3_2, C.guarded_yes, C.guarded_tf, C.guarded_ft, C.guarded_undef, Bool.not_true, Bool.not_false, Nat.zero_add, eq_self, decide_true, decide_false, show ¬ ((j : Int) < (ws.length : Int)) by omega]
    rw [List.take_of_length_le (by omega)] at hM ho
    exact F34.k7.to (h nv ov w hM hf hov hn ho)
  | succ d ih =>
    intro j w nv ov hj hM hf hmt hov hn ho
    have jl : j < ws.length := by omega
    have hin := List.getElem_mem jl
    refine F34.l3.to ?_
    simp only [C.ite_true, C.ite_false, C.pick_true, C.pick_false, C.not_bool, C.field_ptr, C.nilCheck_ptr, C.add_mk, C.sub_mk, C.mul_mk, C.eql_mk, C.neq_mk, C.lss_mk, C.leq_mk, C.gtr_mk, C.geq_mk, C.conv_mk, C.len_mk, C.ext_0, C.ext_1, C.ext3_0, C.ext3_1, C.ext3_2, C.guarded_yes, C.guarded_tf, C.guarded_ft, C.guarded_undef, Bool.not_true, Bool.not_false, Nat.zero_add, eq_self, decide_true, decide_false, show ((j : Int) < (ws.length : Int)) by omega]
    refine F34.k4.to (C.idx_int (hws.keepS hf fun hx => hS (intC_ne hx)) jl fun g oo cs e fz hg hv => C.load1_of hg hv (move_c hO hlen hlv hsv hr (hP.vis _) hM (hrw _ hin) (hfw _ hin) fun ov' w1 M1 hf1 hg1 => ?_))
    have ho1 := ho.keep' hf1 (hM.off ho (by decide) (by decide))
    have hsub : ∀ z ∈ mb :: tb :: blkS ov, z ∈ S ∨ W0.heap.size ≤ z := fun z hz => by
      rcases List.mem_cons.1 hz with c | c
      · subst c; exact .inl hmt.1
      · rcases List.mem_cons.1 c with c | c
        · subst c; exact .inl hmt.2
        · exact hov z c
    have f1 : Fr S W0 w1 := hf.then hf1 hsub
    refine C.appW' ho1 (by simp; omega) fun nv' w2 ho2 hb2 hg2 => ?_
    rw [mov_take jl] at ho2
    refine F34.k6.to ?_
    have hle := hws.le
    rw [intC_len] at hle
    simp only [C.ite_true, C.ite_false, C.pick_true, C.pick_false, C.not_bool, C.field_ptr, C.nilCheck_ptr, C.add_mk, C.sub_mk, C.mul_mk, C.eql_mk, C.neq_mk, C.lss_mk, C.leq_mk, C.gtr_mk, C.geq_mk, C.conv_mk, C.len_mk, C.ext_0, C.ext_1, C.ext3_0, C.ext3_1, C.ext3_2, C.guarded_yes, C.guarded_tf, C.guarded_ft, C.guarded_undef, Bool.not_true, Bool.not_false, Nat.zero_add, eq_self, decide_true, decide_false]
    rw [wrap64_id (n := (j : Int) + 1) (by omega), show (j : Int) + 1 = ((j + 1 : Nat) : Int) by omega]
    have nb : NewS Wb nv := hn.mono hbs
    refine ih (j + 1) w2 nv' ov' (by omega) ?_ (f1.then hb2 fun z hz => .inr (hn z (mem_blkS.1 hz))) hmt (fun g hg => ?_) (fun g hg => ?_) ho2
    · rw [take_snoc jl, vis_snoc]
      exact M1.keepS ho1 (by decide) (by decide) nb hb2
    · rcases hg1 g hg with c | c
      · exact hov g c
      · have := hf.size; exact .inr (by omega)
    · rcases hg2 g (mem_blkS.2 hg) with c | c
      · exact hn g (mem_blkS.1 c)
      · have := f1.size; omega
theorem moved_c {Wb : World} {mb tb : Nat} {lv sv wv ov : Value} {l ws : List Int} {m : List Ob} {o : List Nat} (hO : Spl 0 l m) (hlen : l.length ≤ 2048) (hlv : RdS Wb lv 1 (intC l)) (hsv : sv.cells = #[sv]) (hr : Rng l) (hP : Pls m o)
    (hM : MV Wb w mb tb lv sv ov m o) (hws : RdS w wv 1 (intC ws)) (hrw : Rng ws) (hfw : fineL m ws) (hwl : ws.length ≤ 17592186044415) (hS : ws ≠ [] → ∀ g ∈ mb :: tb :: blkS ov, g ∉ blkS wv)
    (h : ∀ nv ov' w', MV Wb w' mb tb lv sv ov' m (vis m o ws) → Fr (mb :: tb :: blkS ov) w w' → (∀ g ∈ blkS ov', g ∈ mb :: tb :: blkS ov ∨ w.heap.size ≤ g) → NewS w nv → OwnS w' nv 2 1 (intC (ws.map (movW m (vis m o ws)))) → K nv w') :
    C.call Try.prog 34 #[.pointer (some ⟨mb, 0, none⟩), wv] w K := by
  refine F34.sh (C.len_rd hws ?_)
  rw [intC_len]
  exact moved_loop hO hlen hlv hsv hr hP hws hrw hfw hwl _ hS hM.fr.size h ws.length 0 w (.slice none 0 0) ov (by omega) hM (Fr.refl _ _) (by simp) (fun g hg => .inl (by simp [hg])) (NewS.nil _) (OwnS.nil _ _ _)
/-! ### start -/
theorem bMov (A B : Option Addr) (n c n' c' tb : Nat) : (Instr.build 72 #[(0, .agg #[.slice A n c, .slice B n' c']), (1, .map (some tb))]).run Try.prog w = .ok (.agg #[.slice A n c, .slice B n' c', .map (some tb), .slice none 0 0, .int .i64 0]) w := by kernel_rfl
theorem Rng.sub {a b : List Int} (h : Rng b) (hs : ∀ x ∈ a, x ∈ b) : Rng a := fun x hx => h x (hs x hx)
theorem Rng.fs {l : List Int} {m : List Ob} (h : Rng l) (hS : Spl 0 l m) {p : Nat} (hp : p < m.length) : Rng m[p].fs := fun x hx => by
  have := (hS.get p hp).1.fs
  rw [← this] at hx
  exact h x (List.mem_of_mem_drop (List.mem_of_mem_take hx))
theorem start_c {lv rv : Value} {l roots : List Int} (hl : RdS w lv 1 (intC l)) (hr : Rng l) (hrv : RdS w rv 1 (intC roots)) (hrr : Rng roots)
    (h5 : ∀ c m w', Cd l c m → c ≠ 0 → Fr [] w w' → K (.tuple #[.pointer none, .int .i64 c]) w')
    (h4 : ∀ m w', Cd l 0 m → ¬ fineL m roots → Fr [] w w' → K (.tuple #[.pointer none, .int .i64 4]) w')
    (h0 : ∀ m sv mb tb Wb w', Cd l 0 m → fineL m roots → Fr [] w Wb → RdS Wb lv 1 (intC l) → RdS Wb rv 1 (intC roots) → RdS Wb sv 1 (intC (atL m)) → MV Wb w' mb tb lv sv (.slice none 0 0) m [] → K (.tuple #[.pointer (some ⟨mb, 0, none⟩), .int .i64 0]) w') :
    C.call Try.prog 33 #[lv, rv] w K := by
  refine F33.sh (open_c hl hr fun c m lv' sv w1 hc hf1 h1 h2 => ?_)
  obtain ⟨e1, e2, e3, e4⟩ := one_of (X := intC (atL m)) hl (fun c0 => ⟨(h1 c0).1, (h1 c0).2.2⟩) h2
  simp only [C.ite_true, C.ite_false, C.pick_true, C.pick_false, C.not_bool, C.field_ptr, C.nilCheck_ptr, C.add_mk, C.sub_mk, C.mul_mk, C.eql_mk, C.neq_mk, C.lss_mk, C.leq_mk, C.gtr_mk, C.geq_mk, C.conv_mk, C.len_mk, C.ext_0, C.ext_1, C.ext3_0, C.ext3_1, C.ext3_2, C.guarded_yes, C.guarded_tf, C.guarded_ft, C.guarded_undef, Bool.not_true, Bool.not_false, Nat.zero_add, eq_self, decide_true, decide_false]
  refine img_put e1 e2 e3 e4 fun b w2 hf2 _ hb => ?_
  by_cases c0 : c = 0
  · subst c0
    obtain ⟨rfl, hns, hos⟩ := h1 rfl
    simp only [C.ite_true, C.ite_false, C.pick_true, C.pick_false, C.not_bool, C.field_ptr, C.nilCheck_ptr, C.add_mk, C.sub_mk, C.mul_mk, C.eql_mk, C.neq_mk, C.lss_mk, C.leq_mk, C.gtr_mk, C.geq_mk, C.conv_mk, C.len_mk, C.ext_0, C.ext_1, C.ext3_0, C.ext3_1, C.ext3_2, C.guarded_yes, C.guarded_tf, C.guarded_ft, C.guarded_undef, Bool.not_true, Bool.not_false, Nat.zero_add, eq_self, decide_true, decide_false, ne_eq, not_true_eq_false]
    have f2 := hf1.trans hf2
    have hos2 := hos.keep hf2 (by simp)
    refine F33.k4.to (HasW_c (p := fun x => !fineS (atL m) x) (hrv.keep f2) (fun w' n K' hf' hn hk => vcCall_of bodied_s1 (F54.sh (C.loadA_all (hf'.at_ hb (by simp)) rfl (may_c e1 (hos2.keep hf' (by simp)).rd (hrr n hn) fun w'' hf'' => ?_)))) fun w3 hf3 => ?_)
    · simp only [C.ite_true, C.ite_false, C.pick_true, C.pick_false, C.not_bool, C.field_ptr, C.nilCheck_ptr, C.add_mk, C.sub_mk, C.mul_mk, C.eql_mk, C.neq_mk, C.lss_mk, C.leq_mk, C.gtr_mk, C.geq_mk, C.conv_mk, C.len_mk, C.ext_0, C.ext_1, C.ext3_0, C.ext3_1, C.ext3_2, C.guarded_yes, C.guarded_tf, C.guarded_ft, C.guarded_undef, Bool.not_true, Bool.not_false, Nat.zero_add, eq_self, decide_true, decide_false]
      exact hk w'' hf''
    · have f3 := f2.trans hf3
      cases ha : roots.any fun x => !fineS (atL m) x with
      | true =>
        simp only [C.ite_true, C.ite_false, C.pick_true, C.pick_false, C.not_bool, C.field_ptr, C.nilCheck_ptr, C.add_mk, C.sub_mk, C.mul_mk, C.eql_mk, C.neq_mk, C.lss_mk, C.leq_mk, C.gtr_mk, C.geq_mk, C.conv_mk, C.len_mk, C.ext_0, C.ext_1, C.ext3_0, C.ext3_1, C.ext3_2, C.guarded_yes, C.guarded_tf, C.guarded_ft, C.guarded_undef, Bool.not_true, Bool.not_false, Nat.zero_add, eq_self, decide_true, decide_false]
        refine h4 m w3 hc (fun hfm => ?_) f3
        obtain ⟨x, hx, hbad⟩ := List.any_eq_true.1 ha
        rw [fineS_eq, hfm x hx] at hbad
        cases hbad
      | false =>
        have hfr : fineL m roots := fun x hx => by
          have := List.any_eq_false.1 ha x hx
          rw [fineS_eq] at this
          simpa using this
        simp only [C.ite_true, C.ite_false, C.pick_true, C.pick_false, C.not_bool, C.field_ptr, C.nilCheck_ptr, C.add_mk, C.sub_mk, C.mul_mk, C.eql_mk, C.neq_mk, C.lss_mk, C.leq_mk, C.gtr_mk, C.geq_mk, C.conv_mk, C.len_mk, C.ext_0, C.ext_1, C.ext3_0, C.ext3_1, C.ext3_2, C.guarded_yes, C.guarded_tf, C.guarded_ft, C.guarded_undef, Bool.not_true, Bool.not_false, Nat.zero_add, eq_self, decide_true, decide_false]
        refine F33.k6.to (C.loadA_all (hf3.at_ hb (by simp)) rfl (C.makeMap_of (kv := fun a : Int => Value.int .i64 a) fun w4 hf4 hm4 hz4 => ?_))
        have hl3 := hl.keep f3
        have hos3 := hos2.keep hf3 (by simp)
        obtain ⟨A, cc, elv, _⟩ := hl3
        obtain ⟨B, cs, esv⟩ := hos3.len
        subst elv
        subst esv
        refine C.run_of (bMov _ _ _ _ _ _ _) (C.new_of fun mb w5 hn5 => ?_)
        have i5 := hn5.is
        refine h0 m _ mb w3.heap.size w3 w5 hc hfr f3 (hl.keep f3) (hrv.keep f3) hos3.rd ⟨hf4.trans hn5.fr, hn5.at_, hm4.keep hn5.fr (by simp), OwnS.nil _ _ _, ⟨by have := hf4.size; omega, Nat.le_refl _, by have := hf4.size; omega⟩, NewS.nil _⟩
  · simp only [C.ite_true, C.ite_false, C.pick_true, C.pick_false, C.not_bool, C.field_ptr, C.nilCheck_ptr, C.add_mk, C.sub_mk, C.mul_mk, C.eql_mk, C.neq_mk, C.lss_mk, C.leq_mk, C.gtr_mk, C.geq_mk, C.conv_mk, C.len_mk, C.ext_0, C.ext_1, C.ext3_0, C.ext3_1, C.ext3_2, C.guarded_yes, C.guarded_tf, C.guarded_ft, C.guarded_undef, Bool.not_true, Bool.not_false, Nat.zero_add, eq_self, decide_true, decide_false, ne_eq, c0, not_false_eq_true]
    exact h5 c m w2 hc c0 (hf1.trans hf2)
end
end Go.Proofs.YtfjilngljnlkjaaV
