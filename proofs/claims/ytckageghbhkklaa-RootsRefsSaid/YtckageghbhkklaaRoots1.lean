/- The functions of package roots: what each call comes to. -/
import Derived.Test.YtckageghbhkklaaGRoots
import Derived.Test.YtckageghbhkklaaLib2
import Derived.Test.YtckageghbhkklaaWord1
namespace Go.Proofs.YtckageghbhkklaaV
open Go Go.Proofs Go.RowKit
set_option linter.unusedVariables false
set_option linter.unusedSimpArgs false

/-- Values, as cells. -/
def valC (l : List (Int × Int)) : List (List Value) := l.map fun x => [.int .i64 x.1, .int .i64 x.2]
theorem valC_len (l : List (Int × Int)) : (valC l).length = l.length := by simp [valC]
theorem valC_get {l : List (Int × Int)} {j : Nat} (h : j < l.length) : (valC l)[j]? = some [.int .i64 l[j].1, .int .i64 l[j].2] := by simp [valC, h]
theorem valC_app (l k : List (Int × Int)) : valC (l ++ k) = valC l ++ valC k := by simp [valC]
theorem valC_take (l : List (Int × Int)) (n : Nat) : valC (l.take n) = (valC l).take n := by simp [valC, List.map_take]
theorem valC_of : ∀ (xs : List (List Value)), (∀ x ∈ xs, okCells [.int .i64, .int .i64] x) → ∃ l, xs = valC l
  | [], _ => ⟨[], rfl⟩
  | x :: xs, h => by
    obtain ⟨l, hl⟩ := valC_of xs fun y hy => h y (by simp [hy])
    obtain ⟨n, m, hx, _⟩ := ok2 (h x (by simp))
    exact ⟨(n, m) :: l, by rw [hl, hx]; rfl⟩
theorem valC_one {l : List (Int × Int)} : ∀ y ∈ valC l, ∀ u ∈ y, u.oneCell' = true := by
  intro y hy u hu
  simp only [valC, List.mem_map] at hy
  obtain ⟨x, _, rfl⟩ := hy
  simp only [List.mem_cons, List.not_mem_nil, or_false] at hu
  rcases hu with rfl | rfl <;> rfl
/-- What a thread holds: a block of one slice. -/
def Rts (w : World) (r : Nat) (s : Value) (l : List (Int × Int)) : Prop :=
  w.heap[r]? = some (.cells #[s] 67 (0, 0)) ∧ OwnS w s 40 2 (valC l) ∧ r ∉ blkS s
/-- A slice that is apart from a world's blocks, or from some of them. -/
def NewS (w : World) (v : Value) : Prop := ∀ g, v.ownBlock = some g → w.heap.size ≤ g
theorem NewS.mono {w w' : World} {v : Value} (h : NewS w' v) (hf : w.heap.size ≤ w'.heap.size) : NewS w v := fun g hg => Nat.le_trans hf (h g hg)
theorem NewS.nil (w : World) : NewS w (.slice none 0 0) := fun g hg => by simp [Value.ownBlock] at hg
section
variable {K : VK} {w : World}
theorem bs40_0 : (Instr.buildSlice 64 0 #[]).run Try.prog w = .ok (.slice (some ⟨w.heap.size, 0, none⟩) 0 0) (w.alloc (.cells #[] 40)) := by kernel_rfl
theorem bs40 (a b : Int) : (Instr.buildSlice 64 1 #[(0, V a b)]).run Try.prog w = .ok (.slice (some ⟨w.heap.size, 0, none⟩) 1 1) (w.alloc (.cells #[.int .i64 a, .int .i64 b] 40)) := by kernel_rfl
theorem OwnS.one {v : Value} {e : TypeId} {sz : Nat} {xs : List (List Value)} (h : OwnS w v e sz xs) : v.oneCell' = true ∧ v.cells = #[v] := by
  obtain ⟨A, c, rfl⟩ := h.len
  exact ⟨rfl, rfl⟩
/-- A list of values, copied. -/
theorem CloneV_c {v : Value} {l : List (Int × Int)} (hv : RdS w v 2 (valC l)) (hl : l.length ≤ 1000000) (h : ∀ v' w', Fr [] w w' → OwnS w' v' 40 2 (valC l) → NewS w v' → K v' w') : C.call Try.prog 70 #[v] w K := by
  have hv' := hv
  obtain ⟨A, c, rfl, h1, h2, h3⟩ := hv
  refine F70.sh ⟨_, eq_slice_nil (e := 40) _ _ _ _ _ Try.underlying64, ?_⟩
  cases A with
  | none =>
    have : l = [] := by
      cases l with
      | nil => rfl
      | cons x l => obtain ⟨g, o, cs, e, fz, hA, _⟩ := h3 (by simp [valC]); cases hA
    subst this
    simp only [Option.isNone_none, C.ite_true, C.ite_false, C.pick_true, C.pick_false, C.not_bool, C.field_ptr, C.nilCheck_ptr, C.add_mk, C.sub_mk, C.mul_mk, C.eql_mk, C.neq_mk, C.lss_mk, C.leq_mk, C.gtr_mk, C.geq_mk, C.conv_mk, C.len_mk, C.ext_0, C.ext_1, C.ext3_0, C.ext3_1, C.ext3_2, C.guarded_yes, C.guarded_tf, C.guarded_ft, C.guarded_undef, Bool.not_true, Bool.not_false, Nat.zero_add, eq_self, decide_true, decide_false]
    exact h _ w (Fr.refl _ _) (OwnS.nil w 40 2) (NewS.nil w)
  | some a =>
    simp only [Option.isNone_some, C.ite_true, C.ite_false, C.pick_true, C.pick_false, C.not_bool, C.field_ptr, C.nilCheck_ptr, C.add_mk, C.sub_mk, C.mul_mk, C.eql_mk, C.neq_mk, C.lss_mk, C.leq_mk, C.gtr_mk, C.geq_mk, C.conv_mk, C.len_mk, C.ext_0, C.ext_1, C.ext3_0, C.ext3_1, C.ext3_2, C.guarded_yes, C.guarded_tf, C.guarded_ft, C.guarded_undef, Bool.not_true, Bool.not_false, Nat.zero_add, eq_self, decide_true, decide_false]
    refine F70.k3.to (C.run_of bs40_0 ?_)
    have hn := New.mk' w (.cells #[] 40)
    refine C.append_of (xs := []) (e := 40) (sz := 2) (bytes := 16) (z := V 0 0) Try.underlying64 (by kernel_rfl) rfl (by decide) (OwnS.of_block hn.at_ rfl (by simp) (by simp) rfl (by simp) (by simp)) (hv'.keep hn.fr) valC_one (by rw [valC_len]; simp; omega) (by rw [valC_len]; simp; omega) fun v' w' ho hf hb _ => ?_
    refine h v' w' (hn.fr.then hf fun x hx => ?_) (by simpa using ho) fun g hg => ?_
    · rw [mem_blkS] at hx
      simp only [Value.ownBlock, Option.some.injEq] at hx
      exact .inr (by omega)
    · rcases hb with hb | ⟨g', hb, hle⟩
      · rw [hb] at hg
        simp only [Value.ownBlock, Option.some.injEq] at hg
        omega
      · rw [hb] at hg
        simp only [Option.some.injEq] at hg
        subst hg
        exact Nat.le_trans hn.fr.size hle
theorem Len_c {r : Nat} {s : Value} {l : List (Int × Int)} (hr : Rts w r s l) (h : K (.int .i64 (l.length : Int)) w) : C.call Try.prog 49 #[.pointer (some ⟨r, 0, none⟩)] w K := by
  refine F49.sh ⟨_, eq_ptr_nil _ _ _ Try.underlying65, ?_⟩
  simp only [C.ite_true, C.ite_false, C.pick_true, C.pick_false, C.not_bool, C.field_ptr, C.nilCheck_ptr, C.add_mk, C.sub_mk, C.mul_mk, C.eql_mk, C.neq_mk, C.lss_mk, C.leq_mk, C.gtr_mk, C.geq_mk, C.conv_mk, C.len_mk, C.ext_0, C.ext_1, C.ext3_0, C.ext3_1, C.ext3_2, C.guarded_yes, C.guarded_tf, C.guarded_ft, C.guarded_undef, Bool.not_true, Bool.not_false, Nat.zero_add, eq_self, decide_true, decide_false]
  refine F49.k3.to ?_
  simp only [C.ite_true, C.ite_false, C.pick_true, C.pick_false, C.not_bool, C.field_ptr, C.nilCheck_ptr, C.add_mk, C.sub_mk, C.mul_mk, C.eql_mk, C.neq_mk, C.lss_mk, C.leq_mk, C.gtr_mk, C.geq_mk, C.conv_mk, C.len_mk, C.ext_0, C.ext_1, C.ext3_0, C.ext3_1, C.ext3_2, C.guarded_yes, C.guarded_tf, C.guarded_ft, C.guarded_undef, Bool.not_true, Bool.not_false, Nat.zero_add, eq_self, decide_true, decide_false]
  refine C.load1_of hr.1 rfl (C.len_rd hr.2.1.rd ?_)
  rw [valC_len]
  exact h
theorem Len_nil (h : K (.int .i64 0) w) : C.call Try.prog 49 #[.pointer none] w K := by
  refine F49.sh ⟨_, eq_nil_nil _ _ Try.underlying65, ?_⟩
  simp only [C.ite_true, C.ite_false, C.pick_true, C.pick_false, C.not_bool, C.field_ptr, C.nilCheck_ptr, C.add_mk, C.sub_mk, C.mul_mk, C.eql_mk, C.neq_mk, C.lss_mk, C.leq_mk, C.gtr_mk, C.geq_mk, C.conv_mk, C.len_mk, C.ext_0, C.ext_1, C.ext3_0, C.ext3_1, C.ext3_2, C.guarded_yes, C.guarded_tf, C.guarded_ft, C.guarded_undef, Bool.not_true, Bool.not_false, Nat.zero_add, eq_self, decide_true, decide_false]
  exact h
theorem All_c {r : Nat} {s : Value} {l : List (Int × Int)} (hr : Rts w r s l) (hl : l.length ≤ 1000000) (h : ∀ v' w', Fr [] w w' → OwnS w' v' 40 2 (valC l) → NewS w v' → K v' w') : C.call Try.prog 44 #[.pointer (some ⟨r, 0, none⟩)] w K := by
  refine F44.sh ⟨_, eq_ptr_nil _ _ _ Try.underlying65, ?_⟩
  simp only [C.ite_true, C.ite_false, C.pick_true, C.pick_false, C.not_bool, C.field_ptr, C.nilCheck_ptr, C.add_mk, C.sub_mk, C.mul_mk, C.eql_mk, C.neq_mk, C.lss_mk, C.leq_mk, C.gtr_mk, C.geq_mk, C.conv_mk, C.len_mk, C.ext_0, C.ext_1, C.ext3_0, C.ext3_1, C.ext3_2, C.guarded_yes, C.guarded_tf, C.guarded_ft, C.guarded_undef, Bool.not_true, Bool.not_false, Nat.zero_add, eq_self, decide_true, decide_false]
  refine F44.k3.to ?_
  simp only [C.ite_true, C.ite_false, C.pick_true, C.pick_false, C.not_bool, C.field_ptr, C.nilCheck_ptr, C.add_mk, C.sub_mk, C.mul_mk, C.eql_mk, C.neq_mk, C.lss_mk, C.leq_mk, C.gtr_mk, C.geq_mk, C.conv_mk, C.len_mk, C.ext_0, C.ext_1, C.ext3_0, C.ext3_1, C.ext3_2, C.guarded_yes, C.guarded_tf, C.guarded_ft, C.guarded_undef, Bool.not_true, Bool.not_false, Nat.zero_add, eq_self, decide_true, decide_false]
  exact C.load1_of hr.1 rfl (CloneV_c hr.2.1.rd hl h)
theorem All_nil (h : K (.slice none 0 0) w) : C.call Try.prog 44 #[.pointer none] w K := by
  refine F44.sh ⟨_, eq_nil_nil _ _ Try.underlying65, ?_⟩
  simp only [C.ite_true, C.ite_false, C.pick_true, C.pick_false, C.not_bool, C.field_ptr, C.nilCheck_ptr, C.add_mk, C.sub_mk, C.mul_mk, C.eql_mk, C.neq_mk, C.lss_mk, C.leq_mk, C.gtr_mk, C.geq_mk, C.conv_mk, C.len_mk, C.ext_0, C.ext_1, C.ext3_0, C.ext3_1, C.ext3_2, C.guarded_yes, C.guarded_tf, C.guarded_ft, C.guarded_undef, Bool.not_true, Bool.not_false, Nat.zero_add, eq_self, decide_true, decide_false]
  exact h
theorem Clone_nil (h : K (.pointer none) w) : C.call Try.prog 43 #[.pointer none] w K := by
  refine F43.sh ⟨_, eq_nil_nil _ _ Try.underlying65, ?_⟩
  simp only [C.ite_true, C.ite_false, C.pick_true, C.pick_false, C.not_bool, C.field_ptr, C.nilCheck_ptr, C.add_mk, C.sub_mk, C.mul_mk, C.eql_mk, C.neq_mk, C.lss_mk, C.leq_mk, C.gtr_mk, C.geq_mk, C.conv_mk, C.len_mk, C.ext_0, C.ext_1, C.ext3_0, C.ext3_1, C.ext3_2, C.guarded_yes, C.guarded_tf, C.guarded_ft, C.guarded_undef, Bool.not_true, Bool.not_false, Nat.zero_add, eq_self, decide_true, decide_false]
  exact h
theorem build67 (A : Option Addr) (n c : Nat) : (Instr.build 67 #[(0, .slice A n c)]).run Try.prog w = .ok (.agg #[.slice A n c]) w := by kernel_rfl
theorem build67_0 : (Instr.build 67 #[]).run Try.prog w = .ok (.agg #[.slice none 0 0]) w := by kernel_rfl
theorem Clone_c {r : Nat} {s : Value} {l : List (Int × Int)} (hr : Rts w r s l) (hl : l.length ≤ 1000000) (h : ∀ r' s' w', Fr [] w w' → Rts w' r' s' l → w.heap.size ≤ r' → NewS w s' → K (.pointer (some ⟨r', 0, none⟩)) w') : C.call Try.prog 43 #[.pointer (some ⟨r, 0, none⟩)] w K := by
  refine F43.sh ⟨_, eq_ptr_nil _ _ _ Try.underlying65, ?_⟩
  simp only [C.ite_true, C.ite_false, C.pick_true, C.pick_false, C.not_bool, C.field_ptr, C.nilCheck_ptr, C.add_mk, C.sub_mk, C.mul_mk, C.eql_mk, C.neq_mk, C.lss_mk, C.leq_mk, C.gtr_mk, C.geq_mk, C.conv_mk, C.len_mk, C.ext_0, C.ext_1, C.ext3_0, C.ext3_1, C.ext3_2, C.guarded_yes, C.guarded_tf, C.guarded_ft, C.guarded_undef, Bool.not_true, Bool.not_false, Nat.zero_add, eq_self, decide_true, decide_false]
  refine F43.k3.to (All_c hr hl fun v' w1 hf ho hn => ?_)
  obtain ⟨A, c, rfl⟩ := ho.len
  refine C.run_of (build67 _ _ _) (C.new_of fun g w2 hw2 => ?_)
  refine h g _ w2 (hf.trans hw2.fr) ⟨hw2.at_, ho.keep hw2.fr (by simp), fun hb => ?_⟩ (by have := hw2.is; have := hf.size; omega) hn
  rw [mem_blkS] at hb
  have := ho.lt hb
  have := hw2.is
  omega
theorem Clear_nil (h : K (.tuple #[]) w) : C.call Try.prog 45 #[.pointer none] w K := by
  refine F45.sh ⟨_, neq_nil_nil _ _ Try.underlying65, ?_⟩
  simp only [C.ite_true, C.ite_false, C.pick_true, C.pick_false, C.not_bool, C.field_ptr, C.nilCheck_ptr, C.add_mk, C.sub_mk, C.mul_mk, C.eql_mk, C.neq_mk, C.lss_mk, C.leq_mk, C.gtr_mk, C.geq_mk, C.conv_mk, C.len_mk, C.ext_0, C.ext_1, C.ext3_0, C.ext3_1, C.ext3_2, C.guarded_yes, C.guarded_tf, C.guarded_ft, C.guarded_undef, Bool.not_true, Bool.not_false, Nat.zero_add, eq_self, decide_true, decide_false]
  exact h
theorem Clear_c {r : Nat} {s : Value} {l : List (Int × Int)} (hr : Rts w r s l) (h : ∀ w', Fr [r] w w' → Rts w' r (.slice none 0 0) [] → K (.tuple #[]) w') : C.call Try.prog 45 #[.pointer (some ⟨r, 0, none⟩)] w K := by
  refine F45.sh ⟨_, neq_ptr_nil _ _ _ Try.underlying65, ?_⟩
  simp only [C.ite_true, C.ite_false, C.pick_true, C.pick_false, C.not_bool, C.field_ptr, C.nilCheck_ptr, C.add_mk, C.sub_mk, C.mul_mk, C.eql_mk, C.neq_mk, C.lss_mk, C.leq_mk, C.gtr_mk, C.geq_mk, C.conv_mk, C.len_mk, C.ext_0, C.ext_1, C.ext3_0, C.ext3_1, C.ext3_2, C.guarded_yes, C.guarded_tf, C.guarded_ft, C.guarded_undef, Bool.not_true, Bool.not_false, Nat.zero_add, eq_self, decide_true, decide_false]
  refine C.store1_of hr.1 rfl rfl (by simp) fun w' hu => ?_
  exact h w' hu.fr ⟨hu.at_, OwnS.nil w' 40 2, by simp [blkS, Value.ownBlock]⟩
theorem Get_nil (i : Int) (h : ∀ w', Fr [] w w' → K (.tuple #[V 0 0, .bool false]) w') : C.call Try.prog 47 #[.pointer none, .int .i64 i] w K := by
  refine F47.sh (C.new_of fun g w1 hn => ?_)
  simp only [C.ite_true, C.ite_false, C.pick_true, C.pick_false, C.not_bool, C.field_ptr, C.nilCheck_ptr, C.add_mk, C.sub_mk, C.mul_mk, C.eql_mk, C.neq_mk, C.lss_mk, C.leq_mk, C.gtr_mk, C.geq_mk, C.conv_mk, C.len_mk, C.ext_0, C.ext_1, C.ext3_0, C.ext3_1, C.ext3_2, C.guarded_yes, C.guarded_tf, C.guarded_ft, C.guarded_undef, Bool.not_true, Bool.not_false, Nat.zero_add, eq_self, decide_true, decide_false]
  have fin : C.run Try.prog (Instr.build 40 #[]) w1 fun x14_8 w8 => C.store 2 (.pointer (some ⟨g, 0, none⟩)) x14_8 w8 fun w9 => C.loadA 2 (.pointer (some ⟨g, 0, none⟩)) w9 fun r10 _ => K (.tuple #[r10, (.bool false)]) w9 := by
    refine C.run_of build40_0 (C.store_all hn.at_ rfl v2_cells rfl fun w2 hu => ?_)
    exact C.loadA_all hu.at_ rfl (h w2 (hn.fr.then hu.fr fun x hx => by simp at hx; subst hx; exact .inr (by have := hn.is; omega)))
  by_cases hi : i < 0
  · simp only [C.ite_true, C.ite_false, C.pick_true, C.pick_false, C.not_bool, C.field_ptr, C.nilCheck_ptr, C.add_mk, C.sub_mk, C.mul_mk, C.eql_mk, C.neq_mk, C.lss_mk, C.leq_mk, C.gtr_mk, C.geq_mk, C.conv_mk, C.len_mk, C.ext_0, C.ext_1, C.ext3_0, C.ext3_1, C.ext3_2, C.guarded_yes, C.guarded_tf, C.guarded_ft, C.guarded_undef, Bool.not_true, Bool.not_false, Nat.zero_add, eq_self, decide_true, decide_false, hi]
    exact fin
  · simp only [C.ite_true, C.ite_false, C.pick_true, C.pick_false, C.not_bool, C.field_ptr, C.nilCheck_ptr, C.add_mk, C.sub_mk, C.mul_mk, C.eql_mk, C.neq_mk, C.lss_mk, C.leq_mk, C.gtr_mk, C.geq_mk, C.conv_mk, C.len_mk, C.ext_0, C.ext_1, C.ext3_0, C.ext3_1, C.ext3_2, C.guarded_yes, C.guarded_tf, C.guarded_ft, C.guarded_undef, Bool.not_true, Bool.not_false, Nat.zero_add, eq_self, decide_true, decide_false, hi]
    refine Len_nil ?_
    simp only [C.ite_true, C.ite_false, C.pick_true, C.pick_false, C.not_bool, C.field_ptr, C.nilCheck_ptr, C.add_mk, C.sub_mk, C.mul_mk, C.eql_mk, C.neq_mk, C.lss_mk, C.leq_mk, C.gtr_mk, C.geq_mk, C.conv_mk, C.len_mk, C.ext_0, C.ext_1, C.ext3_0, C.ext3_1, C.ext3_2, C.guarded_yes, C.guarded_tf, C.guarded_ft, C.guarded_undef, Bool.not_true, Bool.not_false, Nat.zero_add, eq_self, decide_true, decide_false, show i ≥ 0 by omega]
    exact fin
theorem Get_c {r : Nat} {s : Value} {l : List (Int × Int)} (i : Int) (hr : Rts w r s l) (h : ∀ w', Fr [] w w' → K (if h : 0 ≤ i ∧ i.toNat < l.length then .tuple #[V l[i.toNat].1 l[i.toNat].2, .bool true] else .tuple #[V 0 0, .bool false]) w') : C.call Try.prog 47 #[.pointer (some ⟨r, 0, none⟩), .int .i64 i] w K := by
  refine F47.sh (C.new_of fun g w1 hn => ?_)
  simp only [C.ite_true, C.ite_false, C.pick_true, C.pick_false, C.not_bool, C.field_ptr, C.nilCheck_ptr, C.add_mk, C.sub_mk, C.mul_mk, C.eql_mk, C.neq_mk, C.lss_mk, C.leq_mk, C.gtr_mk, C.geq_mk, C.conv_mk, C.len_mk, C.ext_0, C.ext_1, C.ext3_0, C.ext3_1, C.ext3_2, C.guarded_yes, C.guarded_tf, C.guarded_ft, C.guarded_undef, Bool.not_true, Bool.not_false, Nat.zero_add, eq_self, decide_true, decide_false]
  have hr1 : Rts w1 r s l := ⟨hn.fr.at_ hr.1 (by simp), hr.2.1.keep hn.fr (by simp), hr.2.2⟩
  have fin : ¬ (0 ≤ i ∧ i.toNat < l.length) → C.run Try.prog (Instr.build 40 #[]) w1 fun x14_8 w8 => C.store 2 (.pointer (some ⟨g, 0, none⟩)) x14_8 w8 fun w9 => C.loadA 2 (.pointer (some ⟨g, 0, none⟩)) w9 fun r10 _ => K (.tuple #[r10, (.bool false)]) w9 := by
    intro hi
    refine C.run_of build40_0 (C.store_all hn.at_ rfl v2_cells rfl fun w2 hu => ?_)
    have h := h w2 (hn.fr.then hu.fr fun x hx => by simp at hx; subst hx; exact .inr (by have := hn.is; omega))
    rw [dif_neg hi] at h
    exact C.loadA_all hu.at_ rfl h
  by_cases hi : i < 0
  · simp only [C.ite_true, C.ite_false, C.pick_true, C.pick_false, C.not_bool, C.field_ptr, C.nilCheck_ptr, C.add_mk, C.sub_mk, C.mul_mk, C.eql_mk, C.neq_mk, C.lss_mk, C.leq_mk, C.gtr_mk, C.geq_mk, C.conv_mk, C.len_mk, C.ext_0, C.ext_1, C.ext3_0, C.ext3_1, C.ext3_2, C.guarded_yes, C.guarded_tf, C.guarded_ft, C.guarded_undef, Bool.not_true, Bool.not_false, Nat.zero_add, eq_self, decide_true, decide_false, hi]
    exact fin (by omega)
  · simp only [C.ite_true, C.ite_false, C.pick_true, C.pick_false, C.not_bool, C.field_ptr, C.nilCheck_ptr, C.add_mk, C.sub_mk, C.mul_mk, C.eql_mk, C.neq_mk, C.lss_mk, C.leq_mk, C.gtr_mk, C.geq_mk, C.conv_mk, C.len_mk, C.ext_0, C.ext_1, C.ext3_0, C.ext3_1, C.ext3_2, C.guarded_yes, C.guarded_tf, C.guarded_ft, C.guarded_undef, Bool.not_true, Bool.not_false, Nat.zero_add, eq_self, decide_true, decide_false, hi]
    refine Len_c hr1 ?_
    by_cases hi2 : i ≥ (l.length : Int)
    · simp only [C.ite_true, C.ite_false, C.pick_true, C.pick_false, C.not_bool, C.field_ptr, C.nilCheck_ptr, C.add_mk, C.sub_mk, C.mul_mk, C.eql_mk, C.neq_mk, C.lss_mk, C.leq_mk, C.gtr_mk, C.geq_mk, C.conv_mk, C.len_mk, C.ext_0, C.ext_1, C.ext3_0, C.ext3_1, C.ext3_2, C.guarded_yes, C.guarded_tf, C.guarded_ft, C.guarded_undef, Bool.not_true, Bool.not_false, Nat.zero_add, eq_self, decide_true, decide_false, hi2]
      exact fin (by omega)
    · simp only [C.ite_true, C.ite_false, C.pick_true, C.pick_false, C.not_bool, C.field_ptr, C.nilCheck_ptr, C.add_mk, C.sub_mk, C.mul_mk, C.eql_mk, C.neq_mk, C.lss_mk, C.leq_mk, C.gtr_mk, C.geq_mk, C.conv_mk, C.len_mk, C.ext_0, C.ext_1, C.ext3_0, C.ext3_1, C.ext3_2, C.guarded_yes, C.guarded_tf, C.guarded_ft, C.guarded_undef, Bool.not_true, Bool.not_false, Nat.zero_add, eq_self, decide_true, decide_false, hi2]
      have hlt : i.toNat < l.length := by omega
      refine F47.k3.to ?_
      simp only [C.ite_true, C.ite_false, C.pick_true, C.pick_false, C.not_bool, C.field_ptr, C.nilCheck_ptr, C.add_mk, C.sub_mk, C.mul_mk, C.eql_mk, C.neq_mk, C.lss_mk, C.leq_mk, C.gtr_mk, C.geq_mk, C.conv_mk, C.len_mk, C.ext_0, C.ext_1, C.ext3_0, C.ext3_1, C.ext3_2, C.guarded_yes, C.guarded_tf, C.guarded_ft, C.guarded_undef, Bool.not_true, Bool.not_false, Nat.zero_add, eq_self, decide_true, decide_false]
      refine C.load1_of hr1.1 rfl (C.idx_rd hr1.2.1.rd (by omega) (valC_get hlt) fun g' o cs e fz hg' hl' hc => C.loadA_cells hg' hl' (by decide) hc ?_)
      refine C.store_all (x := V l[i.toNat].1 l[i.toNat].2) hn.at_ rfl v2_cells rfl fun w2 hu => C.loadA_all hu.at_ rfl ?_
      have h := h w2 (hn.fr.then hu.fr fun x hx => by simp at hx; subst hx; exact .inr (by have := hn.is; omega))
      rw [dif_pos ⟨by omega, hlt⟩] at h
      exact h
end
end Go.Proofs.YtckageghbhkklaaV
