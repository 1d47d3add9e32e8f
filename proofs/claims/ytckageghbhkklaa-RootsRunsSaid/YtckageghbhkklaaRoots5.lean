/- The law's loops over roots: what each comes to. -/
import Derived.Test.YtckageghbhkklaaRoots4
namespace Go.Proofs.YtckageghbhkklaaV
open Go Go.Proofs Go.RowKit
set_option linter.unusedVariables false
set_option linter.unusedSimpArgs false
def ropC (l : List ROp) : List (List Value) := l.map fun x => [.int .i64 x.a, .int .i64 x.i, .int .i64 x.k, .int .i64 x.n]
theorem ropC_len (l : List ROp) : (ropC l).length = l.length := by simp [ropC]
theorem ropC_get {l : List ROp} {j : Nat} (h : j < l.length) : (ropC l)[j]? = some [.int .i64 l[j].a, .int .i64 l[j].i, .int .i64 l[j].k, .int .i64 l[j].n] := by simp [ropC, h]
theorem ok4 {k1 k2 k3 k4 : IntKind} {x : List Value} (h : okCells [.int k1, .int k2, .int k3, .int k4] x) : ∃ a b c d, x = [.int k1 a, .int k2 b, .int k3 c, .int k4 d] := by
  match x with
  | [] => exact h.elim
  | [_] => exact h.2.elim
  | [_, _] => exact h.2.2.elim
  | [_, _, _] => exact h.2.2.2.elim
  | _ :: _ :: _ :: _ :: _ :: _ => exact h.2.2.2.2.elim
  | [a, b, c, d] =>
    obtain ⟨⟨n, ha, _⟩, ⟨m, hb, _⟩, ⟨o, hc, _⟩, ⟨q, hd, _⟩, _⟩ := h
    exact ⟨n, m, o, q, by rw [ha, hb, hc, hd]⟩
theorem ropC_of : ∀ (xs : List (List Value)), (∀ x ∈ xs, okCells [.int .i64, .int .i64, .int .i64, .int .i64] x) → ∃ l, xs = ropC l
  | [], _ => ⟨[], rfl⟩
  | x :: xs, h => by
    obtain ⟨l, hl⟩ := ropC_of xs fun y hy => h y (by simp [hy])
    obtain ⟨a, b, c, d, hx⟩ := ok4 (h x (by simp))
    exact ⟨⟨a, b, c, d⟩ :: l, by rw [hl, hx]; rfl⟩
section
variable {K : VK} {w : World}
theorem few_r {W : World} {v : Value} {l : List ROp} (hr : RdS W v 4 (ropC l)) (h : ∀ v', RdS W v' 4 (ropC (l.take 50)) → K v' w) : C.call Try.prog 42 #[v] w K := by
  refine F42.sh (C.len_rd hr ?_)
  simp only [C.ite_true, C.ite_false, C.pick_true, C.pick_false, C.not_bool, C.field_ptr, C.nilCheck_ptr, C.add_mk, C.sub_mk, C.mul_mk, C.eql_mk, C.neq_mk, C.lss_mk, C.leq_mk, C.gtr_mk, C.geq_mk, C.conv_mk, C.len_mk, C.ext_0, C.ext_1, C.ext3_0, C.ext3_1, C.ext3_2, C.guarded_yes, C.guarded_tf, C.guarded_ft, C.guarded_undef, Bool.not_true, Bool.not_false, Nat.zero_add, eq_self, decide_true, decide_false, C.ite_bool, decide_eq_true_eq, decide_eq_false_iff_not, ropC_len]
  refine ⟨fun h1 => ?_, fun h1 => ?_⟩
  · obtain ⟨A, c, rfl, hc⟩ := hr.len_c (P := Try.prog) (K := K)
    rw [ropC_len] at hc
    refine C.run_of (sliceTo_run (e := 103) (sz := 4) A _ c .i64 50 Try.underlying71 (by kernel_rfl) (by omega) (by omega)) (h _ ?_)
    have := hr.take 50 (by rw [ropC_len]; omega)
    have e : ropC (l.take 50) = (ropC l).take 50 := by simp [ropC, List.map_take]
    rw [e]
    exact this
  · refine F42.k3.to (h _ ?_)
    rw [List.take_of_length_le (by omega)]
    exact hr
theorem run_loop_r {W0 : World} {r : Nat} {v : Value} {l : List ROp} (hv : RdS W0 v 4 (ropC l)) (hr0 : W0.heap.size ≤ r) :
    ∀ (d j : Nat) (w : World) (s m : Value) (p : List (Int × Int)), l.length = j + d → Fr [] W0 w → (∀ g ∈ blkS s, W0.heap.size ≤ g) → RIn w r s m p →
      (∀ s' m' w', RIn w' r s' m' ((l.drop j).foldl rstepL p) → RNx w w' r s m s' m' → K (.tuple #[m', .bool true]) w') → F41.l3 K (.pointer (some ⟨r, 0, none⟩)) m v (.bool true) (.int .i64 (j : Int)) w := by
  intro d
  induction d with
  | zero =>
    intro j w s m p hd hf hs hI h
    refine F41.l3.to (C.len_rd (hv.keep hf) ?_)
    simp only [C.ite_true, C.ite_false, C.pick_true, C.pick_false, C.not_bool, C.field_ptr, C.nilCheck_ptr, C.add_mk, C.sub_mk, C.mul_mk, C.eql_mk, C.neq_mk, C.lss_mk, C.leq_mk, C.gtr_mk, C.geq_mk, C.conv_mk, C.len_mk, C.ext_0, C.ext_1, C.ext3_0, C.ext3_1, C.ext3_2, C.guarded_yes, C.guarded_tf, C.guarded_ft, C.guarded_undef, Bool.not_true, Bool.not_false, Nat.zero_add, eq_self, decide_true, decide_false, ropC_len, show ¬ ((j : Int) < (l.length : Int)) by omega]
    rw [List.drop_of_length_le (by omega)] at h
    exact F41.k7.to (h s m w hI (RNx.refl _ _ _ _))
  | succ d ih =>
    intro j w s m p hd hf hs hI h
    have jl : j < l.length := by omega
    have hle := hv.le
    rw [ropC_len] at hle
    refine F41.l3.to (C.len_rd (hv.keep hf) ?_)
    simp only [C.ite_true, C.ite_false, C.pick_true, C.pick_false, C.not_bool, C.field_ptr, C.nilCheck_ptr, C.add_mk, C.sub_mk, C.mul_mk, C.eql_mk, C.neq_mk, C.lss_mk, C.leq_mk, C.gtr_mk, C.geq_mk, C.conv_mk, C.len_mk, C.ext_0, C.ext_1, C.ext3_0, C.ext3_1, C.ext3_2, C.guarded_yes, C.guarded_tf, C.guarded_ft, C.guarded_undef, Bool.not_true, Bool.not_false, Nat.zero_add, eq_self, decide_true, decide_false, ropC_len, show ((j : Int) < (l.length : Int)) by omega]
    refine F41.k5.to (C.idx_rd (hv.keep hf) (by omega) (by rw [Int.toNat_natCast]; exact ropC_get jl) fun g o cs e fz hg hlen hc => C.loadA_cells hg hlen (by decide) hc ?_)
    refine step_c l[j] hI fun s1 m1 w1 hI1 hx1 => ?_
    rw [drop_fold rstepL jl] at h
    have hp1 := hI1.len
    try simp only [C.ite_true, C.ite_false, C.pick_true, C.pick_false, C.not_bool, C.field_ptr, C.nilCheck_ptr, C.add_mk, C.sub_mk, C.mul_mk, C.eql_mk, C.neq_mk, C.lss_mk, C.leq_mk, C.gtr_mk, C.geq_mk, C.conv_mk, C.len_mk, C.ext_0, C.ext_1, C.ext3_0, C.ext3_1, C.ext3_2, C.guarded_yes, C.guarded_tf, C.guarded_ft, C.guarded_undef, Bool.not_true, Bool.not_false, Nat.zero_add, eq_self, decide_true, decide_false]
    refine Len_c hI1.rts (C.len_rd hI1.own.rd ?_)
    simp only [C.ite_true, C.ite_false, C.pick_true, C.pick_false, C.not_bool, C.field_ptr, C.nilCheck_ptr, C.add_mk, C.sub_mk, C.mul_mk, C.eql_mk, C.neq_mk, C.lss_mk, C.leq_mk, C.gtr_mk, C.geq_mk, C.conv_mk, C.len_mk, C.ext_0, C.ext_1, C.ext3_0, C.ext3_1, C.ext3_2, C.guarded_yes, C.guarded_tf, C.guarded_ft, C.guarded_undef, Bool.not_true, Bool.not_false, Nat.zero_add, eq_self, decide_true, decide_false, valC_len]
    refine All_c hI1.rts (by omega) fun a w2 hf2 ho2 _ => ?_
    have hI2 := hI1.keep0 hf2
    refine Values_c ho2.rd hI2.own.rd fun w3 hf3 => ?_
    have hI3 := hI2.keep0 hf3
    simp only [C.ite_true, C.ite_false, C.pick_true, C.pick_false, C.not_bool, C.field_ptr, C.nilCheck_ptr, C.add_mk, C.sub_mk, C.mul_mk, C.eql_mk, C.neq_mk, C.lss_mk, C.leq_mk, C.gtr_mk, C.geq_mk, C.conv_mk, C.len_mk, C.ext_0, C.ext_1, C.ext3_0, C.ext3_1, C.ext3_2, C.guarded_yes, C.guarded_tf, C.guarded_ft, C.guarded_undef, Bool.not_true, Bool.not_false, Nat.zero_add, eq_self, decide_true, decide_false]
    refine Refs_c hI3.rts (by omega) fun x w4 hf4 ho4 => ?_
    have hI4 := hI3.keep0 hf4
    refine refs_c hI4.own.rd (by omega) fun y w5 hf5 ho5 => ?_
    refine Ints_c (ho4.keep hf5 (by simp)).rd ho5.rd fun w6 hf6 => ?_
    simp only [C.ite_true, C.ite_false, C.pick_true, C.pick_false, C.not_bool, C.field_ptr, C.nilCheck_ptr, C.add_mk, C.sub_mk, C.mul_mk, C.eql_mk, C.neq_mk, C.lss_mk, C.leq_mk, C.gtr_mk, C.geq_mk, C.conv_mk, C.len_mk, C.ext_0, C.ext_1, C.ext3_0, C.ext3_1, C.ext3_2, C.guarded_yes, C.guarded_tf, C.guarded_ft, C.guarded_undef, Bool.not_true, Bool.not_false, Nat.zero_add, eq_self, decide_true, decide_false]
    have hf16 := hf2.trans (hf3.trans (hf4.trans (hf5.trans hf6)))
    have hx6 := hx1.of_fr hf16
    refine F41.k4.to ?_
    simp only [C.ite_true, C.ite_false, C.pick_true, C.pick_false, C.not_bool, C.field_ptr, C.nilCheck_ptr, C.add_mk, C.sub_mk, C.mul_mk, C.eql_mk, C.neq_mk, C.lss_mk, C.leq_mk, C.gtr_mk, C.geq_mk, C.conv_mk, C.len_mk, C.ext_0, C.ext_1, C.ext3_0, C.ext3_1, C.ext3_2, C.guarded_yes, C.guarded_tf, C.guarded_ft, C.guarded_undef, Bool.not_true, Bool.not_false, Nat.zero_add, eq_self, decide_true, decide_false]
    rw [wrap64_id (n := (j : Int) + 1) (by omega), show (j : Int) + 1 = ((j + 1 : Nat) : Int) by omega]
    have hsz := hf.size
    refine ih (j + 1) w6 s1 m1 _ (by omega) (hf.then hx6.fr fun g hg => ?_) (fun g hg => ?_) (hI1.keep0 hf16) fun s' m' w' hI' hx' => h s' m' w' hI' (hx6.trans hx')
    · rcases List.mem_cons.1 hg with rfl | hg
      · exact .inr hr0
      · exact .inr (hs g hg)
    · rcases hx1.s g hg with h1 | h1
      · exact hs g h1
      · omega
theorem run_r {W0 : World} {r : Nat} {v s m : Value} {l : List ROp} {p : List (Int × Int)} (hv : RdS W0 v 4 (ropC l)) (hr0 : W0.heap.size ≤ r) (hf : Fr [] W0 w) (hs : ∀ g ∈ blkS s, W0.heap.size ≤ g) (hI : RIn w r s m p)
    (h : ∀ s' m' w', RIn w' r s' m' (l.foldl rstepL p) → RNx w w' r s m s' m' → K (.tuple #[m', .bool true]) w') : C.call Try.prog 41 #[.pointer (some ⟨r, 0, none⟩), m, v] w K := by
  refine F41.sh ?_
  exact run_loop_r hv hr0 l.length 0 w s m p (by omega) hf hs hI (by rw [List.drop_zero]; exact h)
/-- New roots. -/
theorem new_r {F : Value → World → Prop} (h : ∀ g w', Fr [] w w' → g = w.heap.size → Rts w' g (.slice none 0 0) [] → F (.pointer (some ⟨g, 0, none⟩)) w') : C.run Try.prog (Instr.build 67 #[]) w fun x5_1 w1 => C.new (.cells (Value.cells x5_1) 67) w1 F := by
  refine C.run_of build67_0 (C.new_of fun g w1 hn => h g w1 hn.fr hn.is ⟨hn.at_, OwnS.nil _ _ _, by simp [blkS, Value.ownBlock]⟩)
theorem build40_2 (a b : Int) : (Instr.build 40 #[(0, (.int .i64 a)), (1, (.int .i64 b))]).run Try.prog w = .ok (V a b) w := by kernel_rfl
theorem alive_r (h : ∀ w', Fr [] w w' → K (.bool true) w') : C.call Try.prog 38 #[] w K := by
  refine F38.sh (new_r fun r w1 hf1 hr hR1 => C.run_of (build40_2 _ _) (C.new_of fun b w2 hn2 => C.store_all (x := V 2 5) hn2.at_ rfl v2_cells rfl fun w3 hu3 => ?_))
  have lr := lt_of_at hR1.1
  have hrb : r ≠ b := hn2.ne lr
  have hb0 : w1.heap.size ≤ b := by have := hn2.is; omega
  have hb1 : w.heap.size ≤ b := by have := hf1.size; omega
  have f13 : Fr [] w1 w3 := hn2.fr.then hu3.fr (by simp; omega)
  have hR3 : Rts w3 r (.slice none 0 0) [] := ⟨f13.at_ hR1.1 (by simp), OwnS.nil _ _ _, hR1.2.2⟩
  have hb3 : w3.heap[b]? = some (vB 2 5) := hu3.at_
  refine C.draw_of (fun w' => w'.heap[b]? = some (vB 2 5)) fun w4 hf4 he4 => ⟨by rw [he4]; exact hb3, ?_⟩
  have hR4 : Rts w4 r (.slice none 0 0) [] := ⟨hf4.at_ hR3.1 (by simp), OwnS.nil _ _ _, hR1.2.2⟩
  have hb4 := hf4.at_ hb3 (by simp)
  refine C.loadAS_of (vs := [.int .i64 2, .int .i64 5]) (fun w' hw => ⟨_, _, _, hw, by simp, rfl⟩) (C.loadAS_of (vs := [.int .i64 2, .int .i64 5]) (fun w' hw => ⟨_, _, _, hw, by simp, rfl⟩) ?_)
  refine ⟨Push_yes 2 5 hR4 (by decide) (by simp) fun s5 w5 hf5 hR5 hs5 => ?_, trivial⟩
  have hb5 := hf5.at_ hb4 (by simp [blkS, Value.ownBlock]; omega)
  have ls5 : ∀ g ∈ blkS s5, w4.heap.size ≤ g := fun g hg => by
    rcases hs5 g (mem_blkS.1 hg) with h | h
    · simp [blkS, Value.ownBlock] at h
    · exact h
  have lb4 := lt_of_at hb4
  have g4 : w.heap.size ≤ w4.heap.size := by have := hf1.size; have := f13.size; have := hf4.size; omega
  refine ⟨hb5, Push_yes 2 5 hR5 (by decide) (by simp) fun s6 w6 hf6 hR6 hs6 => ?_, trivial⟩
  refine ⟨hf6.at_ hb5 ?_, ?_⟩
  · simp only [List.mem_cons, not_or]
    exact ⟨by omega, fun hg => by have := ls5 b hg; omega⟩
  try simp only [C.ite_true, C.ite_false, C.pick_true, C.pick_false, C.not_bool, C.field_ptr, C.nilCheck_ptr, C.add_mk, C.sub_mk, C.mul_mk, C.eql_mk, C.neq_mk, C.lss_mk, C.leq_mk, C.gtr_mk, C.geq_mk, C.conv_mk, C.len_mk, C.ext_0, C.ext_1, C.ext3_0, C.ext3_1, C.ext3_2, C.guarded_yes, C.guarded_tf, C.guarded_ft, C.guarded_undef, Bool.not_true, Bool.not_false, Nat.zero_add, eq_self, decide_true, decide_false]
  refine Len_c hR6 ?_
  simp only [C.ite_true, C.ite_false, C.pick_true, C.pick_false, C.not_bool, C.field_ptr, C.nilCheck_ptr, C.add_mk, C.sub_mk, C.mul_mk, C.eql_mk, C.neq_mk, C.lss_mk, C.leq_mk, C.gtr_mk, C.geq_mk, C.conv_mk, C.len_mk, C.ext_0, C.ext_1, C.ext3_0, C.ext3_1, C.ext3_2, C.guarded_yes, C.guarded_tf, C.guarded_ft, C.guarded_undef, Bool.not_true, Bool.not_false, Nat.zero_add, eq_self, decide_true, decide_false, List.length_append, List.length_nil, List.length_cons, show (((0 + 1 + 1 : Nat) : Int) = 2) = True from by simp]
  refine Refs_c hR6 (by simp) fun x w7 hf7 ho7 => C.run_of (bs68 5) ?_
  have hn8 := New.mk' w7 (.cells #[.int .i64 5] 3)
  refine Ints_c (x := refsL ([] ++ [(2, 5)] ++ [(2, 5)])) (y := [5]) (ho7.keep hn8.fr (by simp)).rd (RdS.of_block hn8.at_ rfl (by simp) (by simp) (by simp [intC]) (by simp [intC])) fun w9 hf9 => ?_
  rw [decide_eq_true (by decide)]
  try simp only [C.ite_true, C.ite_false, C.pick_true, C.pick_false, C.not_bool, C.field_ptr, C.nilCheck_ptr, C.add_mk, C.sub_mk, C.mul_mk, C.eql_mk, C.neq_mk, C.lss_mk, C.leq_mk, C.gtr_mk, C.geq_mk, C.conv_mk, C.len_mk, C.ext_0, C.ext_1, C.ext3_0, C.ext3_1, C.ext3_2, C.guarded_yes, C.guarded_tf, C.guarded_ft, C.guarded_undef, Bool.not_true, Bool.not_false, Nat.zero_add, eq_self, decide_true, decide_false]
  refine h w9 (((((hf1.trans f13).trans hf4).then hf5 fun g hg => ?_).then hf6 fun g hg => ?_).trans (hf7.trans (hn8.fr.trans hf9)))
  · simp [blkS, Value.ownBlock] at hg
    exact .inr (by omega)
  · rcases List.mem_cons.1 hg with rfl | hg
    · exact .inr (by omega)
    · have := ls5 g hg
      exact .inr (by omega)
theorem RootsRuns_c {v : Value} {l : List ROp} (hv : RdS w v 4 (ropC l)) (h : ∀ w', Fr [] w w' → K (.bool true) w') : C.call Try.prog 11 #[v] w K := by
  refine F11.sh (alive_r fun w1 hf1 => ?_)
  try simp only [C.ite_true, C.ite_false, C.pick_true, C.pick_false, C.not_bool, C.field_ptr, C.nilCheck_ptr, C.add_mk, C.sub_mk, C.mul_mk, C.eql_mk, C.neq_mk, C.lss_mk, C.leq_mk, C.gtr_mk, C.geq_mk, C.conv_mk, C.len_mk, C.ext_0, C.ext_1, C.ext3_0, C.ext3_1, C.ext3_2, C.guarded_yes, C.guarded_tf, C.guarded_ft, C.guarded_undef, Bool.not_true, Bool.not_false, Nat.zero_add, eq_self, decide_true, decide_false]
  refine F11.k3.to (new_r fun r w2 hf2 hr hR => few_r hv fun v' hv' => ?_)
  have hf12 := hf1.trans hf2
  have hr0 : w.heap.size ≤ r := by have := hf1.size; omega
  refine run_r hv' hr0 hf12 (by simp [blkS, Value.ownBlock]) ⟨hR, OwnS.nil _ _ _, by simp [blkS, Value.ownBlock], by simp [blkS, Value.ownBlock], by simp⟩ fun s' m' w3 hI hx => ?_
  try simp only [C.ite_true, C.ite_false, C.pick_true, C.pick_false, C.not_bool, C.field_ptr, C.nilCheck_ptr, C.add_mk, C.sub_mk, C.mul_mk, C.eql_mk, C.neq_mk, C.lss_mk, C.leq_mk, C.gtr_mk, C.geq_mk, C.conv_mk, C.len_mk, C.ext_0, C.ext_1, C.ext3_0, C.ext3_1, C.ext3_2, C.guarded_yes, C.guarded_tf, C.guarded_ft, C.guarded_undef, Bool.not_true, Bool.not_false, Nat.zero_add, eq_self, decide_true, decide_false]
  refine h w3 (hf12.then hx.fr fun g hg => ?_)
  simp [blkS, Value.ownBlock] at hg
  exact .inr (by omega)
/-! ### RootsRefs -/
def pstep (p : List (Int × Int)) (x : Int × Int) : List (Int × Int) := if chk x.1 x.2 ≠ 0 ∨ 16 ≤ p.length then p else p ++ [x]
theorem pstep_len {p : List (Int × Int)} (x : Int × Int) (h : p.length ≤ 16) : (pstep p x).length ≤ 16 := by
  unfold pstep
  split
  · exact h
  · rw [List.length_append]; simp only [List.length_cons, List.length_nil]; omega
theorem count_fold (a : Int) : ∀ (l : List (Int × Int)) (out : List Int), out.count a = (if a ∈ out then 1 else 0) → (l.foldl rstep out).count a = if a ∈ out ∨ (2, a) ∈ l then 1 else 0
  | [], out, h => by simp [h]
  | x :: l, out, h => by
    rw [List.foldl_cons]
    have hs : (rstep out x).count a = if a ∈ rstep out x then 1 else 0 := by
      unfold rstep
      split
      · rename_i hx
        rw [List.count_append, h]
        by_cases e : a = x.2
        · subst e
          simp [hx.2]
        · have : ¬ x.2 = a := fun h => e h.symm
          simp [e, this]
      · exact h
    rw [count_fold a l _ hs]
    have : (a ∈ rstep out x ∨ (2, a) ∈ l) ↔ (a ∈ out ∨ (2, a) ∈ x :: l) := by
      unfold rstep
      obtain ⟨k, n⟩ := x
      simp only [List.mem_cons, Prod.mk.injEq]
      split
      · rename_i hx
        simp only [List.mem_append, List.mem_singleton]
        obtain ⟨rfl, hx⟩ := hx
        simp only [true_and]
        constructor
        · rintro ((h | h) | h) <;> simp [h]
        · rintro (h | h | h) <;> simp [h]
      · rename_i hx
        simp only [not_and, Classical.not_not] at hx
        constructor
        · rintro (h | h) <;> simp [h]
        · rintro (h | ⟨rfl, rfl⟩ | h)
          · exact .inl h
          · exact .inl (hx rfl)
          · exact .inr h
    simp only [this]
theorem push_loop {W0 : World} {r : Nat} {v : Value} {a : Int} {l : List (Int × Int)} (hv : RdS W0 v 2 (valC l)) (hr0 : W0.heap.size ≤ r) :
    ∀ (d j : Nat) (w : World) (s : Value) (p : List (Int × Int)), l.length = j + d → Fr [] W0 w → (∀ g ∈ blkS s, W0.heap.size ≤ g) → Rts w r s p → p.length ≤ 16 →
      (∀ s' p' w', Fr [] W0 w' → Rts w' r s' p' → p'.length ≤ 16 → F10.k9 K (.int .i64 a) (.pointer (some ⟨r, 0, none⟩)) (.bool (decide ((2, a) ∈ p'))) w') →
      F10.l5 K v (.int .i64 a) (.pointer (some ⟨r, 0, none⟩)) (.bool (decide ((2, a) ∈ p))) (.int .i64 (j : Int)) w := by
  intro d
  induction d with
  | zero =>
    intro j w s p hd hf hs hR hp h
    refine F10.l5.to (C.len_rd (hv.keep hf) ?_)
    simp only [C.ite_true, C.ite_false, C.pick_true, C.pick_false, C.not_bool, C.field_ptr, C.nilCheck_ptr, C.add_mk, C.sub_mk, C.mul_mk, C.eql_mk, C.neq_mk, C.lss_mk, C.leq_mk, C.gtr_mk, C.geq_mk, C.conv_mk, C.len_mk, C.ext_0, C.ext_1, C.ext3_0, C.ext3_1, C.ext3_2, C.guarded_yes, C.guarded_tf, C.guarded_ft, C.guarded_undef, Bool.not_true, Bool.not_false, Nat.zero_add, eq_self, decide_true, decide_false, valC_len, show ¬ ((j : Int) < (l.length : Int)) by omega]
    exact h s p w hf hR hp
  | succ d ih =>
    intro j w s p hd hf hs hR hp h
    have jl : j < l.length := by omega
    have hle := hv.le
    rw [valC_len] at hle
    refine F10.l5.to (C.len_rd (hv.keep hf) ?_)
    simp only [C.ite_true, C.ite_false, C.pick_true, C.pick_false, C.not_bool, C.field_ptr, C.nilCheck_ptr, C.add_mk, C.sub_mk, C.mul_mk, C.eql_mk, C.neq_mk, C.lss_mk, C.leq_mk, C.gtr_mk, C.geq_mk, C.conv_mk, C.len_mk, C.ext_0, C.ext_1, C.ext3_0, C.ext3_1, C.ext3_2, C.guarded_yes, C.guarded_tf, C.guarded_ft, C.guarded_undef, Bool.not_true, Bool.not_false, Nat.zero_add, eq_self, decide_true, decide_false, valC_len, show ((j : Int) < (l.length : Int)) by omega]
    by_cases j30 : (j : Int) < 30
    · simp only [C.ite_true, C.ite_false, C.pick_true, C.pick_false, C.not_bool, C.field_ptr, C.nilCheck_ptr, C.add_mk, C.sub_mk, C.mul_mk, C.eql_mk, C.neq_mk, C.lss_mk, C.leq_mk, C.gtr_mk, C.geq_mk, C.conv_mk, C.len_mk, C.ext_0, C.ext_1, C.ext3_0, C.ext3_1, C.ext3_2, C.guarded_yes, C.guarded_tf, C.guarded_ft, C.guarded_undef, Bool.not_true, Bool.not_false, Nat.zero_add, eq_self, decide_true, decide_false, j30]
      have gj := valC_get jl
      have next : ∀ (s' : Value) (p' : List (Int × Int)) (w' : World), Fr [] W0 w' → (∀ g ∈ blkS s', W0.heap.size ≤ g) → Rts w' r s' p' → p'.length ≤ 16 →
          F10.k6 K v (.int .i64 a) (.pointer (some ⟨r, 0, none⟩)) (.bool (decide ((2, a) ∈ p'))) (.int .i64 (j : Int)) w' := by
        intro s' p' w' hf' hs' hR' hp'
        refine F10.k6.to ?_
        simp only [C.ite_true, C.ite_false, C.pick_true, C.pick_false, C.not_bool, C.field_ptr, C.nilCheck_ptr, C.add_mk, C.sub_mk, C.mul_mk, C.eql_mk, C.neq_mk, C.lss_mk, C.leq_mk, C.gtr_mk, C.geq_mk, C.conv_mk, C.len_mk, C.ext_0, C.ext_1, C.ext3_0, C.ext3_1, C.ext3_2, C.guarded_yes, C.guarded_tf, C.guarded_ft, C.guarded_undef, Bool.not_true, Bool.not_false, Nat.zero_add, eq_self, decide_true, decide_false]
        rw [wrap64_id (n := (j : Int) + 1) (by omega), show (j : Int) + 1 = ((j + 1 : Nat) : Int) by omega]
        exact ih (j + 1) w' s' p' (by omega) hf' hs' hR' hp' h
      refine F10.k7.to (C.idx_rd (hv.keep hf) (by omega) (by rw [Int.toNat_natCast]; exact gj) fun g o cs e fz hg hlen hc => C.loadA_cells hg hlen (by decide) hc ?_)
      by_cases hc : chk l[j].1 l[j].2 ≠ 0 ∨ 16 ≤ p.length
      · refine Push_no l[j].1 l[j].2 hR hc fun w1 hf1 => ?_
        simp only [C.ite_true, C.ite_false, C.pick_true, C.pick_false, C.not_bool, C.field_ptr, C.nilCheck_ptr, C.add_mk, C.sub_mk, C.mul_mk, C.eql_mk, C.neq_mk, C.lss_mk, C.leq_mk, C.gtr_mk, C.geq_mk, C.conv_mk, C.len_mk, C.ext_0, C.ext_1, C.ext3_0, C.ext3_1, C.ext3_2, C.guarded_yes, C.guarded_tf, C.guarded_ft, C.guarded_undef, Bool.not_true, Bool.not_false, Nat.zero_add, eq_self, decide_true, decide_false]
        exact next s p w1 (hf.trans hf1) hs ⟨hf1.at_ hR.1 (by simp), hR.2.1.keep hf1 (by simp), hR.2.2⟩ hp
      · simp only [ne_eq, not_or, Classical.not_not] at hc
        refine Push_yes l[j].1 l[j].2 hR hc.1 (by omega) fun s1 w1 hf1 hR1 hs1 => ?_
        have hf1' : Fr [] W0 w1 := hf.then hf1 fun g hg => by
          rcases List.mem_cons.1 hg with rfl | hg
          · exact .inr hr0
          · exact .inr (hs g hg)
        have hs1' : ∀ g ∈ blkS s1, W0.heap.size ≤ g := fun g hg => by
          rcases hs1 g (mem_blkS.1 hg) with h1 | h1
          · exact hs g h1
          · have := hf.size; omega
        have hp1 : (p ++ [(l[j].1, l[j].2)]).length ≤ 16 := by simp; omega
        simp only [C.ite_true, C.ite_false, C.pick_true, C.pick_false, C.not_bool, C.field_ptr, C.nilCheck_ptr, C.add_mk, C.sub_mk, C.mul_mk, C.eql_mk, C.neq_mk, C.lss_mk, C.leq_mk, C.gtr_mk, C.geq_mk, C.conv_mk, C.len_mk, C.ext_0, C.ext_1, C.ext3_0, C.ext3_1, C.ext3_2, C.guarded_yes, C.guarded_tf, C.guarded_ft, C.guarded_undef, Bool.not_true, Bool.not_false, Nat.zero_add, eq_self, decide_true, decide_false]
        refine C.idx_rd (hv.keep hf1') (by omega) (by rw [Int.toNat_natCast]; exact gj) fun g o cs e fz hg hlen hc => C.loadA_cells hg hlen (by decide) hc ?_
        refine C.run_of (build40_2 _ _) ⟨_, veq _ _ l[j].1 l[j].2 2 a, ?_⟩
        by_cases hx : l[j].1 = 2 ∧ l[j].2 = a
        · simp only [C.ite_true, C.ite_false, C.pick_true, C.pick_false, C.not_bool, C.field_ptr, C.nilCheck_ptr, C.add_mk, C.sub_mk, C.mul_mk, C.eql_mk, C.neq_mk, C.lss_mk, C.leq_mk, C.gtr_mk, C.geq_mk, C.conv_mk, C.len_mk, C.ext_0, C.ext_1, C.ext3_0, C.ext3_1, C.ext3_2, C.guarded_yes, C.guarded_tf, C.guarded_ft, C.guarded_undef, Bool.not_true, Bool.not_false, Nat.zero_add, eq_self, decide_true, decide_false, hx, and_self]
          have := next s1 _ w1 hf1' hs1' hR1 hp1
          rw [decide_eq_true (by simp [hx.1, hx.2])] at this
          exact this
        · simp only [C.ite_true, C.ite_false, C.pick_true, C.pick_false, C.not_bool, C.field_ptr, C.nilCheck_ptr, C.add_mk, C.sub_mk, C.mul_mk, C.eql_mk, C.neq_mk, C.lss_mk, C.leq_mk, C.gtr_mk, C.geq_mk, C.conv_mk, C.len_mk, C.ext_0, C.ext_1, C.ext3_0, C.ext3_1, C.ext3_2, C.guarded_yes, C.guarded_tf, C.guarded_ft, C.guarded_undef, Bool.not_true, Bool.not_false, Nat.zero_add, eq_self, decide_true, decide_false, hx]
          have := next s1 _ w1 hf1' hs1' hR1 hp1
          have e : decide ((2, a) ∈ p ++ [(l[j].1, l[j].2)]) = decide ((2, a) ∈ p) := by
            refine decide_eq_decide.2 ?_
            simp only [List.mem_append, List.mem_singleton, Prod.mk.injEq]
            constructor
            · rintro (h | ⟨h1, h2⟩)
              · exact h
              · exact absurd ⟨h1.symm, h2.symm⟩ hx
            · exact .inl
          rw [e] at this
          exact this
    · simp only [C.ite_true, C.ite_false, C.pick_true, C.pick_false, C.not_bool, C.field_ptr, C.nilCheck_ptr, C.add_mk, C.sub_mk, C.mul_mk, C.eql_mk, C.neq_mk, C.lss_mk, C.leq_mk, C.gtr_mk, C.geq_mk, C.conv_mk, C.len_mk, C.ext_0, C.ext_1, C.ext3_0, C.ext3_1, C.ext3_2, C.guarded_yes, C.guarded_tf, C.guarded_ft, C.guarded_undef, Bool.not_true, Bool.not_false, Nat.zero_add, eq_self, decide_true, decide_false, j30]
      exact h s p w hf hR hp
theorem count_loop {W1 : World} {v : Value} {a : Int} {l : List Int} {b : Value} (hv : RdS w v 1 (intC l)) :
    ∀ (d j : Nat) (n : Nat), l.length = j + d → n = (l.take j).count a → F10.k15 K b (.int .i64 (l.count a : Int)) w → F10.l11 K (.int .i64 a) b v (.int .i64 (n : Int)) (.int .i64 (j : Int)) w := by
  intro d
  induction d with
  | zero =>
    intro j n hd hn h
    refine F10.l11.to (C.len_rd hv ?_)
    simp only [C.ite_true, C.ite_false, C.pick_true, C.pick_false, C.not_bool, C.field_ptr, C.nilCheck_ptr, C.add_mk, C.sub_mk, C.mul_mk, C.eql_mk, C.neq_mk, C.lss_mk, C.leq_mk, C.gtr_mk, C.geq_mk, C.conv_mk, C.len_mk, C.ext_0, C.ext_1, C.ext3_0, C.ext3_1, C.ext3_2, C.guarded_yes, C.guarded_tf, C.guarded_ft, C.guarded_undef, Bool.not_true, Bool.not_false, Nat.zero_add, eq_self, decide_true, decide_false, intC_len, show ¬ ((j : Int) < (l.length : Int)) by omega]
    rw [List.take_of_length_le (by omega)] at hn
    subst hn
    exact h
  | succ d ih =>
    intro j n hd hn h
    have jl : j < l.length := by omega
    have hle := hv.le
    rw [intC_len] at hle
    have hnj : n ≤ j := by rw [hn]; exact Nat.le_trans List.count_le_length (by rw [List.length_take]; omega)
    refine F10.l11.to (C.len_rd hv ?_)
    simp only [C.ite_true, C.ite_false, C.pick_true, C.pick_false, C.not_bool, C.field_ptr, C.nilCheck_ptr, C.add_mk, C.sub_mk, C.mul_mk, C.eql_mk, C.neq_mk, C.lss_mk, C.leq_mk, C.gtr_mk, C.geq_mk, C.conv_mk, C.len_mk, C.ext_0, C.ext_1, C.ext3_0, C.ext3_1, C.ext3_2, C.guarded_yes, C.guarded_tf, C.guarded_ft, C.guarded_undef, Bool.not_true, Bool.not_false, Nat.zero_add, eq_self, decide_true, decide_false, intC_len, show ((j : Int) < (l.length : Int)) by omega]
    have next : ∀ n' : Nat, n' = (l.take (j + 1)).count a → F10.k12 K (.int .i64 a) b v (.int .i64 (n' : Int)) (.int .i64 (j : Int)) w := by
      intro n' hn'
      refine F10.k12.to ?_
      simp only [C.ite_true, C.ite_false, C.pick_true, C.pick_false, C.not_bool, C.field_ptr, C.nilCheck_ptr, C.add_mk, C.sub_mk, C.mul_mk, C.eql_mk, C.neq_mk, C.lss_mk, C.leq_mk, C.gtr_mk, C.geq_mk, C.conv_mk, C.len_mk, C.ext_0, C.ext_1, C.ext3_0, C.ext3_1, C.ext3_2, C.guarded_yes, C.guarded_tf, C.guarded_ft, C.guarded_undef, Bool.not_true, Bool.not_false, Nat.zero_add, eq_self, decide_true, decide_false]
      rw [wrap64_id (n := (j : Int) + 1) (by omega), show (j : Int) + 1 = ((j + 1 : Nat) : Int) by omega]
      exact ih (j + 1) n' (by omega) hn' h
    have htk : (l.take (j + 1)).count a = n + if l[j] = a then 1 else 0 := by
      rw [List.take_add_one, List.getElem?_eq_getElem jl, List.count_append, hn]
      simp only [Option.toList_some, List.count_singleton, beq_iff_eq]
    refine F10.k13.to (C.idx_int hv jl fun g o cs e fz hg hc => C.load1_of hg hc ?_)
    simp only [C.ite_true, C.ite_false, C.pick_true, C.pick_false, C.not_bool, C.field_ptr, C.nilCheck_ptr, C.add_mk, C.sub_mk, C.mul_mk, C.eql_mk, C.neq_mk, C.lss_mk, C.leq_mk, C.gtr_mk, C.geq_mk, C.conv_mk, C.len_mk, C.ext_0, C.ext_1, C.ext3_0, C.ext3_1, C.ext3_2, C.guarded_yes, C.guarded_tf, C.guarded_ft, C.guarded_undef, Bool.not_true, Bool.not_false, Nat.zero_add, eq_self, decide_true, decide_false]
    by_cases hx : l[j] = a
    · simp only [C.ite_true, C.ite_false, C.pick_true, C.pick_false, C.not_bool, C.field_ptr, C.nilCheck_ptr, C.add_mk, C.sub_mk, C.mul_mk, C.eql_mk, C.neq_mk, C.lss_mk, C.leq_mk, C.gtr_mk, C.geq_mk, C.conv_mk, C.len_mk, C.ext_0, C.ext_1, C.ext3_0, C.ext3_1, C.ext3_2, C.guarded_yes, C.guarded_tf, C.guarded_ft, C.guarded_undef, Bool.not_true, Bool.not_false, Nat.zero_add, eq_self, decide_true, decide_false, hx]
      rw [wrap64_id (n := (n : Int) + 1) (by omega), show (n : Int) + 1 = ((n + 1 : Nat) : Int) by omega]
      exact next _ (by rw [htk, if_pos hx])
    · simp only [C.ite_true, C.ite_false, C.pick_true, C.pick_false, C.not_bool, C.field_ptr, C.nilCheck_ptr, C.add_mk, C.sub_mk, C.mul_mk, C.eql_mk, C.neq_mk, C.lss_mk, C.leq_mk, C.gtr_mk, C.geq_mk, C.conv_mk, C.len_mk, C.ext_0, C.ext_1, C.ext3_0, C.ext3_1, C.ext3_2, C.guarded_yes, C.guarded_tf, C.guarded_ft, C.guarded_undef, Bool.not_true, Bool.not_false, Nat.zero_add, eq_self, decide_true, decide_false, hx]
      exact next _ (by rw [htk, if_neg hx, Nat.add_zero])
theorem RootsRefs_c {v : Value} {l : List (Int × Int)} (a : Int) (hv : RdS w v 2 (valC l)) (h : ∀ w', Fr [] w w' → K (.bool true) w') : C.call Try.prog 10 #[v, .int .i64 a] w K := by
  refine F10.sh (alive_r fun w1 hf1 => ?_)
  try simp only [C.ite_true, C.ite_false, C.pick_true, C.pick_false, C.not_bool, C.field_ptr, C.nilCheck_ptr, C.add_mk, C.sub_mk, C.mul_mk, C.eql_mk, C.neq_mk, C.lss_mk, C.leq_mk, C.gtr_mk, C.geq_mk, C.conv_mk, C.len_mk, C.ext_0, C.ext_1, C.ext3_0, C.ext3_1, C.ext3_2, C.guarded_yes, C.guarded_tf, C.guarded_ft, C.guarded_undef, Bool.not_true, Bool.not_false, Nat.zero_add, eq_self, decide_true, decide_false]
  refine F10.k3.to (new_r fun r w2 hf2 hr hR => ?_)
  have hf12 := hf1.trans hf2
  have hr0 : w.heap.size ≤ r := by have := hf1.size; omega
  have := push_loop (K := K) (a := a) hv hr0 l.length 0 w2 _ [] (by omega) hf12 (by simp [blkS, Value.ownBlock]) hR (by simp) fun s' p' w3 hf3 hR3 hp3 => ?_
  · exact this
  · refine F10.k9.to (Refs_c hR3 (by omega) fun x w4 hf4 ho4 => ?_)
    have := count_loop (K := K) (W1 := w4) (a := a) (b := .bool (decide ((2, a) ∈ p'))) ho4.rd (refsL p').length 0 0 (by omega) (by simp) ?_
    · exact this
    · have hc : (refsL p').count a = if (2, a) ∈ p' then 1 else 0 := by
        have := count_fold a p' [] (by simp)
        simpa [refsL] using this
      rw [hc]
      have hfin := h w4 (hf3.trans hf4)
      refine F10.k15.to ?_
      by_cases hm : (2, a) ∈ p'
      · simp only [C.ite_true, C.ite_false, C.pick_true, C.pick_false, C.not_bool, C.field_ptr, C.nilCheck_ptr, C.add_mk, C.sub_mk, C.mul_mk, C.eql_mk, C.neq_mk, C.lss_mk, C.leq_mk, C.gtr_mk, C.geq_mk, C.conv_mk, C.len_mk, C.ext_0, C.ext_1, C.ext3_0, C.ext3_1, C.ext3_2, C.guarded_yes, C.guarded_tf, C.guarded_ft, C.guarded_undef, Bool.not_true, Bool.not_false, Nat.zero_add, eq_self, decide_true, decide_false, hm, if_true, show (((1 : Nat) : Int) = 1) = True from by simp]
        exact hfin
      · simp only [C.ite_true, C.ite_false, C.pick_true, C.pick_false, C.not_bool, C.field_ptr, C.nilCheck_ptr, C.add_mk, C.sub_mk, C.mul_mk, C.eql_mk, C.neq_mk, C.lss_mk, C.leq_mk, C.gtr_mk, C.geq_mk, C.conv_mk, C.len_mk, C.ext_0, C.ext_1, C.ext3_0, C.ext3_1, C.ext3_2, C.guarded_yes, C.guarded_tf, C.guarded_ft, C.guarded_undef, Bool.not_true, Bool.not_false, Nat.zero_add, eq_self, decide_true, decide_false, hm, if_false, show (((0 : Nat) : Int) = 0) = True from by simp]
        exact hfin
end
end Go.Proofs.YtckageghbhkklaaV
