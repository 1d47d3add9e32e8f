/- References among values, and lists of values held against each other: what each call comes to. -/
import Derived.Test.YtckageghbhkklaaRoots2
namespace Go.Proofs.YtckageghbhkklaaV
open Go Go.Proofs Go.RowKit
set_option linter.unusedVariables false
set_option linter.unusedSimpArgs false
section
variable {K : VK} {w : World}
theorem bs68 (a : Int) : (Instr.buildSlice 68 1 #[(0, .int .i64 a)]).run Try.prog w = .ok (.slice (some ⟨w.heap.size, 0, none⟩) 1 1) (w.alloc (.cells #[.int .i64 a] 3)) := by kernel_rfl
theorem intC_one {l : List Int} : ∀ y ∈ intC l, ∀ u ∈ y, u.oneCell' = true := by
  intro y hy u hu
  simp only [intC, List.mem_map] at hy
  obtain ⟨x, _, rfl⟩ := hy
  simp only [List.mem_cons, List.not_mem_nil, or_false] at hu
  subst hu
  rfl
/-- append(v, n), v a list of the call's own. -/
theorem C.appInt {W0 : World} {v : Value} {l : List Int} {n : Int} (hf : Fr [] W0 w) (hn : NewS W0 v) (hv : OwnS w v 3 1 (intC l)) (hl : l.length ≤ 1000000)
    (hk : ∀ v' w', Fr [] W0 w' → NewS W0 v' → OwnS w' v' 3 1 (intC (l ++ [n])) → Fr (blkS v) w w' → K v' w') :
    C.run Try.prog (Instr.buildSlice 68 1 #[(0, .int .i64 n)]) w fun x w1 => C.run Try.prog (Builtin.append_ #[68, 68] 68 #[v, x]) w1 K := by
  refine C.run_of (bs68 n) ?_
  have hw := New.mk' w (.cells #[.int .i64 n] 3)
  refine C.append_of (xs := intC l) (ys := intC [n]) (e := 3) (sz := 1) (bytes := 8) (z := .int .i64 0) Try.underlying68 (by kernel_rfl) rfl (by decide) (hv.keep hw.fr (by simp)) (RdS.of_block hw.at_ rfl (by simp) (by simp) (by simp [intC]) (by simp [intC])) intC_one
    (by rw [intC_len, intC_len]; simp; omega) (by rw [intC_len, intC_len]; simp; omega) fun v' w' ho hf' hb _ => ?_
  refine hk v' w' ((hf.trans hw.fr).then hf' fun x hx => .inr (hn x (mem_blkS.1 hx))) (fun g hg => ?_) (by rw [intC_app]; exact ho) (hw.fr.w.trans hf')
  rcases hb with hb | ⟨g', hb, hle⟩
  · rw [hb] at hg
    exact hn g hg
  · rw [hg] at hb
    simp only [Option.some.injEq] at hb
    have := hf.size
    have := hw.fr.size
    omega
/-- References' addresses, each once. -/
def rstep (out : List Int) (x : Int × Int) : List Int := if x.1 = 2 ∧ x.2 ∉ out then out ++ [x.2] else out
def refsL (l : List (Int × Int)) : List Int := l.foldl rstep []
theorem rstep_len (out : List Int) (x : Int × Int) : (rstep out x).length ≤ out.length + 1 := by unfold rstep; split <;> simp
theorem drop_fold {α β : Type} (f : β → α → β) {l : List α} {j : Nat} (h : j < l.length) (b : β) : (l.drop j).foldl f b = (l.drop (j + 1)).foldl f (f b l[j]) := by rw [List.drop_eq_getElem_cons h, List.foldl_cons]
theorem Refs_loop {W1 : World} {a : Value} {l : List (Int × Int)} (ha : RdS W1 a 2 (valC l)) (hl : l.length ≤ 1000000) :
    ∀ (d j : Nat) (w : World) (v : Value) (out : List Int), l.length = j + d → Fr [] W1 w → NewS W1 v → OwnS w v 3 1 (intC out) → out.length ≤ j →
      (∀ v' w', Fr [] W1 w' → NewS W1 v' → OwnS w' v' 3 1 (intC ((l.drop j).foldl rstep out)) → K v' w') → F40.l3 K v a (.int .i64 (l.length : Int)) (.int .i64 (j : Int)) w := by
  intro d
  induction d with
  | zero =>
    intro j w v out hd hf hn hv ho h
    refine F40.l3.to ?_
    simp only [C.ite_true, C.ite_false, C.pick_true, C.pick_false, C.not_bool, C.field_ptr, C.nilCheck_ptr, C.add_mk, C.sub_mk, C.mul_mk, C.eql_mk, C.neq_mk, C.lss_mk, C.leq_mk, C.gtr_mk, C.geq_mk, C.conv_mk, C.len_mk, C.ext_0, C.ext_1, C.ext3_0, C.ext3_1, C.ext3_2, C.guarded_yes, C.guarded_tf, C.guarded_ft, C.guarded_undef, Bool.not_true, Bool.not_false, Nat.zero_add, eq_self, decide_true, decide_false, show ¬ ((j : Int) < (l.length : Int)) by omega]
    rw [List.drop_of_length_le (by omega)] at h
    exact F40.k9.to (h v w hf hn hv)
  | succ d ih =>
    intro j w v out hd hf hn hv ho h
    have jl : j < l.length := by omega
    refine F40.l3.to ?_
    simp only [C.ite_true, C.ite_false, C.pick_true, C.pick_false, C.not_bool, C.field_ptr, C.nilCheck_ptr, C.add_mk, C.sub_mk, C.mul_mk, C.eql_mk, C.neq_mk, C.lss_mk, C.leq_mk, C.gtr_mk, C.geq_mk, C.conv_mk, C.len_mk, C.ext_0, C.ext_1, C.ext3_0, C.ext3_1, C.ext3_2, C.guarded_yes, C.guarded_tf, C.guarded_ft, C.guarded_undef, Bool.not_true, Bool.not_false, Nat.zero_add, eq_self, decide_true, decide_false, show ((j : Int) < (l.length : Int)) by omega]
    refine F40.k4.to (C.idx_rd (ha.keep hf) (by omega) (by rw [Int.toNat_natCast]; exact valC_get jl) fun g o cs e fz hg hlen hc => C.loadA_cells hg hlen (by decide) hc ?_)
    refine C.new_of fun b w1 hw1 => C.store_all (x := V l[j].1 l[j].2) hw1.at_ rfl v2_cells rfl fun w2 hu => ?_
    have lb : w.heap.size ≤ b := by have := hw1.is; omega
    have lv : ∀ g, v.ownBlock = some g → g ≠ b := fun g hg => hw1.ne (hv.lt hg)
    have hf2 : Fr [] w w2 := hw1.fr.then hu.fr (by simp; omega)
    have hv2 : OwnS w2 v 3 1 (intC out) := hv.keep hf2 (by simp)
    have hb2 : w2.heap[b]? = some (vB l[j].1 l[j].2) := hu.at_
    rw [drop_fold rstep jl] at h
    try simp only [C.ite_true, C.ite_false, C.pick_true, C.pick_false, C.not_bool, C.field_ptr, C.nilCheck_ptr, C.add_mk, C.sub_mk, C.mul_mk, C.eql_mk, C.neq_mk, C.lss_mk, C.leq_mk, C.gtr_mk, C.geq_mk, C.conv_mk, C.len_mk, C.ext_0, C.ext_1, C.ext3_0, C.ext3_1, C.ext3_2, C.guarded_yes, C.guarded_tf, C.guarded_ft, C.guarded_undef, Bool.not_true, Bool.not_false, Nat.zero_add, eq_self, decide_true, decide_false]
    refine C.load1_of (v := .int .i64 l[j].2) hb2 rfl ?_
    try simp only [C.ite_true, C.ite_false, C.pick_true, C.pick_false, C.not_bool, C.field_ptr, C.nilCheck_ptr, C.add_mk, C.sub_mk, C.mul_mk, C.eql_mk, C.neq_mk, C.lss_mk, C.leq_mk, C.gtr_mk, C.geq_mk, C.conv_mk, C.len_mk, C.ext_0, C.ext_1, C.ext3_0, C.ext3_1, C.ext3_2, C.guarded_yes, C.guarded_tf, C.guarded_ft, C.guarded_undef, Bool.not_true, Bool.not_false, Nat.zero_add, eq_self, decide_true, decide_false]
    refine C.load1_of (v := .int .i64 l[j].1) hb2 rfl ?_
    try simp only [C.ite_true, C.ite_false, C.pick_true, C.pick_false, C.not_bool, C.field_ptr, C.nilCheck_ptr, C.add_mk, C.sub_mk, C.mul_mk, C.eql_mk, C.neq_mk, C.lss_mk, C.leq_mk, C.gtr_mk, C.geq_mk, C.conv_mk, C.len_mk, C.ext_0, C.ext_1, C.ext3_0, C.ext3_1, C.ext3_2, C.guarded_yes, C.guarded_tf, C.guarded_ft, C.guarded_undef, Bool.not_true, Bool.not_false, Nat.zero_add, eq_self, decide_true, decide_false]
    have next : ∀ (v' : Value) (w' : World), Fr [] W1 w' → NewS W1 v' → OwnS w' v' 3 1 (intC (rstep out l[j])) → F40.k8 K v' a (.int .i64 (l.length : Int)) (.int .i64 (j : Int)) w' := by
      intro v' w' hf' hn' hv'
      refine F40.k8.to ?_
      simp only [C.ite_true, C.ite_false, C.pick_true, C.pick_false, C.not_bool, C.field_ptr, C.nilCheck_ptr, C.add_mk, C.sub_mk, C.mul_mk, C.eql_mk, C.neq_mk, C.lss_mk, C.leq_mk, C.gtr_mk, C.geq_mk, C.conv_mk, C.len_mk, C.ext_0, C.ext_1, C.ext3_0, C.ext3_1, C.ext3_2, C.guarded_yes, C.guarded_tf, C.guarded_ft, C.guarded_undef, Bool.not_true, Bool.not_false, Nat.zero_add, eq_self, decide_true, decide_false]
      rw [wrap64_id (n := (j : Int) + 1) (by omega), show (j : Int) + 1 = ((j + 1 : Nat) : Int) by omega]
      exact ih (j + 1) w' v' _ (by omega) hf' hn' hv' (by have := rstep_len out l[j]; omega) h
    by_cases k2 : l[j].1 = 2
    · simp only [C.ite_true, C.ite_false, C.pick_true, C.pick_false, C.not_bool, C.field_ptr, C.nilCheck_ptr, C.add_mk, C.sub_mk, C.mul_mk, C.eql_mk, C.neq_mk, C.lss_mk, C.leq_mk, C.gtr_mk, C.geq_mk, C.conv_mk, C.len_mk, C.ext_0, C.ext_1, C.ext3_0, C.ext3_1, C.ext3_2, C.guarded_yes, C.guarded_tf, C.guarded_ft, C.guarded_undef, Bool.not_true, Bool.not_false, Nat.zero_add, eq_self, decide_true, decide_false, k2]
      refine Contains_c hv2.rd ?_
      by_cases hm : l[j].2 ∈ out
      · simp only [C.ite_true, C.ite_false, C.pick_true, C.pick_false, C.not_bool, C.field_ptr, C.nilCheck_ptr, C.add_mk, C.sub_mk, C.mul_mk, C.eql_mk, C.neq_mk, C.lss_mk, C.leq_mk, C.gtr_mk, C.geq_mk, C.conv_mk, C.len_mk, C.ext_0, C.ext_1, C.ext3_0, C.ext3_1, C.ext3_2, C.guarded_yes, C.guarded_tf, C.guarded_ft, C.guarded_undef, Bool.not_true, Bool.not_false, Nat.zero_add, eq_self, decide_true, decide_false, hm]
        refine next v w2 (hf.trans hf2) hn ?_
        have : rstep out l[j] = out := by unfold rstep; rw [if_neg (by simp [hm])]
        rw [this]
        exact hv2
      · simp only [C.ite_true, C.ite_false, C.pick_true, C.pick_false, C.not_bool, C.field_ptr, C.nilCheck_ptr, C.add_mk, C.sub_mk, C.mul_mk, C.eql_mk, C.neq_mk, C.lss_mk, C.leq_mk, C.gtr_mk, C.geq_mk, C.conv_mk, C.len_mk, C.ext_0, C.ext_1, C.ext3_0, C.ext3_1, C.ext3_2, C.guarded_yes, C.guarded_tf, C.guarded_ft, C.guarded_undef, Bool.not_true, Bool.not_false, Nat.zero_add, eq_self, decide_true, decide_false, hm]
        refine C.appInt (hf.trans hf2) hn hv2 (by omega) fun v' w' hf' hn' hv' _ => next v' w' hf' hn' ?_
        have : rstep out l[j] = out ++ [l[j].2] := by unfold rstep; rw [if_pos ⟨k2, hm⟩]
        rw [this]
        exact hv'
    · simp only [C.ite_true, C.ite_false, C.pick_true, C.pick_false, C.not_bool, C.field_ptr, C.nilCheck_ptr, C.add_mk, C.sub_mk, C.mul_mk, C.eql_mk, C.neq_mk, C.lss_mk, C.leq_mk, C.gtr_mk, C.geq_mk, C.conv_mk, C.len_mk, C.ext_0, C.ext_1, C.ext3_0, C.ext3_1, C.ext3_2, C.guarded_yes, C.guarded_tf, C.guarded_ft, C.guarded_undef, Bool.not_true, Bool.not_false, Nat.zero_add, eq_self, decide_true, decide_false, k2]
      refine next v w2 (hf.trans hf2) hn ?_
      have : rstep out l[j] = out := by unfold rstep; rw [if_neg (by simp [k2])]
      rw [this]
      exact hv2
theorem Refs_c {r : Nat} {s : Value} {l : List (Int × Int)} (hr : Rts w r s l) (hl : l.length ≤ 1000000) (h : ∀ v' w', Fr [] w w' → OwnS w' v' 3 1 (intC (refsL l)) → K v' w') : C.call Try.prog 40 #[.pointer (some ⟨r, 0, none⟩)] w K := by
  refine F40.sh (All_c hr hl fun a w1 hf ho hn => C.len_rd ho.rd ?_)
  rw [valC_len]
  exact Refs_loop ho.rd hl l.length 0 w1 _ [] (by omega) (Fr.refl _ _) (NewS.nil _) (OwnS.nil _ _ _) (by simp) fun v' w' hf' _ hv => h v' w' (hf.trans hf') (by rw [List.drop_zero] at hv; exact hv)
theorem Refs_nil (h : K (.slice none 0 0) w) : C.call Try.prog 40 #[.pointer none] w K := by
  refine F40.sh (All_nil ?_)
  try simp only [C.ite_true, C.ite_false, C.pick_true, C.pick_false, C.not_bool, C.field_ptr, C.nilCheck_ptr, C.add_mk, C.sub_mk, C.mul_mk, C.eql_mk, C.neq_mk, C.lss_mk, C.leq_mk, C.gtr_mk, C.geq_mk, C.conv_mk, C.len_mk, C.ext_0, C.ext_1, C.ext3_0, C.ext3_1, C.ext3_2, C.guarded_yes, C.guarded_tf, C.guarded_ft, C.guarded_undef, Bool.not_true, Bool.not_false, Nat.zero_add, eq_self, decide_true, decide_false]
  refine F40.l3.to ?_
  have e : ¬ ((0 : Int) < ((0 : Nat) : Int)) := by omega
  simp only [C.ite_true, C.ite_false, C.pick_true, C.pick_false, C.not_bool, C.field_ptr, C.nilCheck_ptr, C.add_mk, C.sub_mk, C.mul_mk, C.eql_mk, C.neq_mk, C.lss_mk, C.leq_mk, C.gtr_mk, C.geq_mk, C.conv_mk, C.len_mk, C.ext_0, C.ext_1, C.ext3_0, C.ext3_1, C.ext3_2, C.guarded_yes, C.guarded_tf, C.guarded_ft, C.guarded_undef, Bool.not_true, Bool.not_false, Nat.zero_add, eq_self, decide_true, decide_false, e]
  exact F40.k9.to h
/-- The law's own. -/
theorem refs_loop {W1 : World} {a : Value} {l : List (Int × Int)} (ha : RdS W1 a 2 (valC l)) (hl : l.length ≤ 1000000) :
    ∀ (d j : Nat) (w : World) (v : Value) (out : List Int), l.length = j + d → Fr [] W1 w → NewS W1 v → OwnS w v 3 1 (intC out) → out.length ≤ j →
      (∀ v' w', Fr [] W1 w' → NewS W1 v' → OwnS w' v' 3 1 (intC ((l.drop j).foldl rstep out)) → K v' w') → F69.l3 K a v (.int .i64 (j : Int)) w := by
  intro d
  induction d with
  | zero =>
    intro j w v out hd hf hn hv ho h
    refine F69.l3.to (C.len_rd (ha.keep hf) ?_)
    simp only [C.ite_true, C.ite_false, C.pick_true, C.pick_false, C.not_bool, C.field_ptr, C.nilCheck_ptr, C.add_mk, C.sub_mk, C.mul_mk, C.eql_mk, C.neq_mk, C.lss_mk, C.leq_mk, C.gtr_mk, C.geq_mk, C.conv_mk, C.len_mk, C.ext_0, C.ext_1, C.ext3_0, C.ext3_1, C.ext3_2, C.guarded_yes, C.guarded_tf, C.guarded_ft, C.guarded_undef, Bool.not_true, Bool.not_false, Nat.zero_add, eq_self, decide_true, decide_false, valC_len, show ¬ ((j : Int) < (l.length : Int)) by omega]
    rw [List.drop_of_length_le (by omega)] at h
    exact F69.k7.to (h v w hf hn hv)
  | succ d ih =>
    intro j w v out hd hf hn hv ho h
    have jl : j < l.length := by omega
    refine F69.l3.to (C.len_rd (ha.keep hf) ?_)
    simp only [C.ite_true, C.ite_false, C.pick_true, C.pick_false, C.not_bool, C.field_ptr, C.nilCheck_ptr, C.add_mk, C.sub_mk, C.mul_mk, C.eql_mk, C.neq_mk, C.lss_mk, C.leq_mk, C.gtr_mk, C.geq_mk, C.conv_mk, C.len_mk, C.ext_0, C.ext_1, C.ext3_0, C.ext3_1, C.ext3_2, C.guarded_yes, C.guarded_tf, C.guarded_ft, C.guarded_undef, Bool.not_true, Bool.not_false, Nat.zero_add, eq_self, decide_true, decide_false, valC_len, show ((j : Int) < (l.length : Int)) by omega]
    have gj := valC_get jl
    have next : ∀ (v' : Value) (w' : World), Fr [] W1 w' → NewS W1 v' → OwnS w' v' 3 1 (intC (rstep out l[j])) → F69.k4 K a v' (.int .i64 (j : Int)) w' := by
      intro v' w' hf' hn' hv'
      refine F69.k4.to ?_
      simp only [C.ite_true, C.ite_false, C.pick_true, C.pick_false, C.not_bool, C.field_ptr, C.nilCheck_ptr, C.add_mk, C.sub_mk, C.mul_mk, C.eql_mk, C.neq_mk, C.lss_mk, C.leq_mk, C.gtr_mk, C.geq_mk, C.conv_mk, C.len_mk, C.ext_0, C.ext_1, C.ext3_0, C.ext3_1, C.ext3_2, C.guarded_yes, C.guarded_tf, C.guarded_ft, C.guarded_undef, Bool.not_true, Bool.not_false, Nat.zero_add, eq_self, decide_true, decide_false]
      rw [wrap64_id (n := (j : Int) + 1) (by omega), show (j : Int) + 1 = ((j + 1 : Nat) : Int) by omega]
      rw [drop_fold rstep jl] at h
      exact ih (j + 1) w' v' _ (by omega) hf' hn' hv' (by have := rstep_len out l[j]; omega) h
    refine F69.k5.to (C.idx_rd (ha.keep hf) (by omega) (by rw [Int.toNat_natCast]; exact gj) fun g o cs e fz hg hlen hc => ?_)
    try simp only [C.ite_true, C.ite_false, C.pick_true, C.pick_false, C.not_bool, C.field_ptr, C.nilCheck_ptr, C.add_mk, C.sub_mk, C.mul_mk, C.eql_mk, C.neq_mk, C.lss_mk, C.leq_mk, C.gtr_mk, C.geq_mk, C.conv_mk, C.len_mk, C.ext_0, C.ext_1, C.ext3_0, C.ext3_1, C.ext3_2, C.guarded_yes, C.guarded_tf, C.guarded_ft, C.guarded_undef, Bool.not_true, Bool.not_false, Nat.zero_add, eq_self, decide_true, decide_false]
    refine C.load1_of (v := .int .i64 l[j].1) hg (by simpa using hc 0 (by omega)) ?_
    try simp only [C.ite_true, C.ite_false, C.pick_true, C.pick_false, C.not_bool, C.field_ptr, C.nilCheck_ptr, C.add_mk, C.sub_mk, C.mul_mk, C.eql_mk, C.neq_mk, C.lss_mk, C.leq_mk, C.gtr_mk, C.geq_mk, C.conv_mk, C.len_mk, C.ext_0, C.ext_1, C.ext3_0, C.ext3_1, C.ext3_2, C.guarded_yes, C.guarded_tf, C.guarded_ft, C.guarded_undef, Bool.not_true, Bool.not_false, Nat.zero_add, eq_self, decide_true, decide_false]
    by_cases k2 : l[j].1 = 2
    · simp only [C.ite_true, C.ite_false, C.pick_true, C.pick_false, C.not_bool, C.field_ptr, C.nilCheck_ptr, C.add_mk, C.sub_mk, C.mul_mk, C.eql_mk, C.neq_mk, C.lss_mk, C.leq_mk, C.gtr_mk, C.geq_mk, C.conv_mk, C.len_mk, C.ext_0, C.ext_1, C.ext3_0, C.ext3_1, C.ext3_2, C.guarded_yes, C.guarded_tf, C.guarded_ft, C.guarded_undef, Bool.not_true, Bool.not_false, Nat.zero_add, eq_self, decide_true, decide_false, k2]
      refine C.idx_rd (ha.keep hf) (by omega) (by rw [Int.toNat_natCast]; exact gj) fun g o cs e fz hg hlen hc => ?_
      try simp only [C.ite_true, C.ite_false, C.pick_true, C.pick_false, C.not_bool, C.field_ptr, C.nilCheck_ptr, C.add_mk, C.sub_mk, C.mul_mk, C.eql_mk, C.neq_mk, C.lss_mk, C.leq_mk, C.gtr_mk, C.geq_mk, C.conv_mk, C.len_mk, C.ext_0, C.ext_1, C.ext3_0, C.ext3_1, C.ext3_2, C.guarded_yes, C.guarded_tf, C.guarded_ft, C.guarded_undef, Bool.not_true, Bool.not_false, Nat.zero_add, eq_self, decide_true, decide_false]
      refine C.load1_of (v := .int .i64 l[j].2) hg (by simpa using hc 1 (by omega)) (In_c hv.rd ?_)
      by_cases hm : l[j].2 ∈ out
      · simp only [C.ite_true, C.ite_false, C.pick_true, C.pick_false, C.not_bool, C.field_ptr, C.nilCheck_ptr, C.add_mk, C.sub_mk, C.mul_mk, C.eql_mk, C.neq_mk, C.lss_mk, C.leq_mk, C.gtr_mk, C.geq_mk, C.conv_mk, C.len_mk, C.ext_0, C.ext_1, C.ext3_0, C.ext3_1, C.ext3_2, C.guarded_yes, C.guarded_tf, C.guarded_ft, C.guarded_undef, Bool.not_true, Bool.not_false, Nat.zero_add, eq_self, decide_true, decide_false, hm]
        refine next v w hf hn ?_
        have : rstep out l[j] = out := by unfold rstep; rw [if_neg (by simp [hm])]
        rw [this]
        exact hv
      · simp only [C.ite_true, C.ite_false, C.pick_true, C.pick_false, C.not_bool, C.field_ptr, C.nilCheck_ptr, C.add_mk, C.sub_mk, C.mul_mk, C.eql_mk, C.neq_mk, C.lss_mk, C.leq_mk, C.gtr_mk, C.geq_mk, C.conv_mk, C.len_mk, C.ext_0, C.ext_1, C.ext3_0, C.ext3_1, C.ext3_2, C.guarded_yes, C.guarded_tf, C.guarded_ft, C.guarded_undef, Bool.not_true, Bool.not_false, Nat.zero_add, eq_self, decide_true, decide_false, hm]
        refine C.idx_rd (ha.keep hf) (by omega) (by rw [Int.toNat_natCast]; exact gj) fun g o cs e fz hg hlen hc => ?_
        try simp only [C.ite_true, C.ite_false, C.pick_true, C.pick_false, C.not_bool, C.field_ptr, C.nilCheck_ptr, C.add_mk, C.sub_mk, C.mul_mk, C.eql_mk, C.neq_mk, C.lss_mk, C.leq_mk, C.gtr_mk, C.geq_mk, C.conv_mk, C.len_mk, C.ext_0, C.ext_1, C.ext3_0, C.ext3_1, C.ext3_2, C.guarded_yes, C.guarded_tf, C.guarded_ft, C.guarded_undef, Bool.not_true, Bool.not_false, Nat.zero_add, eq_self, decide_true, decide_false]
        refine C.load1_of (v := .int .i64 l[j].2) hg (by simpa using hc 1 (by omega)) ?_
        refine C.appInt hf hn hv (by omega) fun v' w' hf' hn' hv' _ => next v' w' hf' hn' ?_
        have : rstep out l[j] = out ++ [l[j].2] := by unfold rstep; rw [if_pos ⟨k2, hm⟩]
        rw [this]
        exact hv'
    · simp only [C.ite_true, C.ite_false, C.pick_true, C.pick_false, C.not_bool, C.field_ptr, C.nilCheck_ptr, C.add_mk, C.sub_mk, C.mul_mk, C.eql_mk, C.neq_mk, C.lss_mk, C.leq_mk, C.gtr_mk, C.geq_mk, C.conv_mk, C.len_mk, C.ext_0, C.ext_1, C.ext3_0, C.ext3_1, C.ext3_2, C.guarded_yes, C.guarded_tf, C.guarded_ft, C.guarded_undef, Bool.not_true, Bool.not_false, Nat.zero_add, eq_self, decide_true, decide_false, k2]
      refine next v w hf hn ?_
      have : rstep out l[j] = out := by unfold rstep; rw [if_neg (by simp [k2])]
      rw [this]
      exact hv
theorem refs_c {a : Value} {l : List (Int × Int)} (ha : RdS w a 2 (valC l)) (hl : l.length ≤ 1000000) (h : ∀ v' w', Fr [] w w' → OwnS w' v' 3 1 (intC (refsL l)) → K v' w') : C.call Try.prog 69 #[a] w K := by
  refine F69.sh ?_
  exact refs_loop ha hl l.length 0 w _ [] (by omega) (Fr.refl _ _) (NewS.nil _) (OwnS.nil _ _ _) (by simp) fun v' w' hf' _ hv => h v' w' hf' (by rw [List.drop_zero] at hv; exact hv)
theorem Values_loop {a b : Value} {x y : List (Int × Int)} (hl : x.length = y.length) :
    ∀ (d j : Nat) (w : World), x.length = j + d → RdS w a 2 (valC x) → RdS w b 2 (valC y) → (∀ i (h1 : i < x.length) (h2 : i < y.length), i < j → x[i] = y[i]) → (∀ w', Fr [] w w' → K (.bool (decide (x = y))) w') → F48.l4 K a b (.int .i64 (j : Int)) w := by
  intro d
  induction d with
  | zero =>
    intro j w hd ha hb he h
    refine F48.l4.to (C.len_rd ha ?_)
    have e : ¬ ((j : Int) < ((valC x).length : Int)) := by rw [valC_len]; omega
    simp only [C.ite_true, C.ite_false, C.pick_true, C.pick_false, C.not_bool, C.field_ptr, C.nilCheck_ptr, C.add_mk, C.sub_mk, C.mul_mk, C.eql_mk, C.neq_mk, C.lss_mk, C.leq_mk, C.gtr_mk, C.geq_mk, C.conv_mk, C.len_mk, C.ext_0, C.ext_1, C.ext3_0, C.ext3_1, C.ext3_2, C.guarded_yes, C.guarded_tf, C.guarded_ft, C.guarded_undef, Bool.not_true, Bool.not_false, Nat.zero_add, eq_self, decide_true, decide_false, e]
    refine F48.k8.to ?_
    have : x = y := list_eq_of_get hl fun i h1 h2 => he i h1 h2 (by omega)
    have h := h w (Fr.refl _ _)
    rw [decide_eq_true this] at h
    exact h
  | succ d ih =>
    intro j w hd ha hb he h
    have hle := ha.le
    rw [valC_len] at hle
    refine F48.l4.to (C.len_rd ha ?_)
    have e : ((j : Int) < ((valC x).length : Int)) := by rw [valC_len]; omega
    simp only [C.ite_true, C.ite_false, C.pick_true, C.pick_false, C.not_bool, C.field_ptr, C.nilCheck_ptr, C.add_mk, C.sub_mk, C.mul_mk, C.eql_mk, C.neq_mk, C.lss_mk, C.leq_mk, C.gtr_mk, C.geq_mk, C.conv_mk, C.len_mk, C.ext_0, C.ext_1, C.ext3_0, C.ext3_1, C.ext3_2, C.guarded_yes, C.guarded_tf, C.guarded_ft, C.guarded_undef, Bool.not_true, Bool.not_false, Nat.zero_add, eq_self, decide_true, decide_false, e]
    refine F48.k6.to ?_
    have jx : j < x.length := by omega
    have jy : j < y.length := by omega
    refine C.draw_of (fun w' => w'.heap = w.heap ∧ RdS w' a 2 (valC x) ∧ RdS w' b 2 (valC y)) fun w1 hf1 he1 => ⟨⟨he1, ha.keep hf1, hb.keep hf1⟩, ?_⟩
    refine C.idx_rdS (S := fun w' => w'.heap = w.heap ∧ RdS w' a 2 (valC x) ∧ RdS w' b 2 (valC y)) (fun w' h => h.2.1) ⟨he1, ha.keep hf1, hb.keep hf1⟩ (by omega) (by rw [Int.toNat_natCast]; exact valC_get jx) fun g o hl1 hs1 => ?_
    refine C.idx_rdS (S := fun w' => w'.heap = w.heap ∧ RdS w' a 2 (valC x) ∧ RdS w' b 2 (valC y)) (fun w' h => h.2.2) ⟨he1, ha.keep hf1, hb.keep hf1⟩ (by omega) (by rw [Int.toNat_natCast]; exact valC_get jy) fun g' o' hl2 hs2 => ?_
    refine C.loadAS_cells hl1 (by decide) hs1 (C.loadAS_cells hl2 (by decide) hs2 ⟨_, fun w' _ => vneq _ _ x[j].1 x[j].2 y[j].1 y[j].2, ?_⟩)
    by_cases hxy : x[j] = y[j]
    · simp only [C.ite_true, C.ite_false, C.pick_true, C.pick_false, C.not_bool, C.field_ptr, C.nilCheck_ptr, C.add_mk, C.sub_mk, C.mul_mk, C.eql_mk, C.neq_mk, C.lss_mk, C.leq_mk, C.gtr_mk, C.geq_mk, C.conv_mk, C.len_mk, C.ext_0, C.ext_1, C.ext3_0, C.ext3_1, C.ext3_2, C.guarded_yes, C.guarded_tf, C.guarded_ft, C.guarded_undef, Bool.not_true, Bool.not_false, Nat.zero_add, eq_self, decide_true, decide_false, hxy, and_self]
      refine F48.k5.to ?_
      simp only [C.ite_true, C.ite_false, C.pick_true, C.pick_false, C.not_bool, C.field_ptr, C.nilCheck_ptr, C.add_mk, C.sub_mk, C.mul_mk, C.eql_mk, C.neq_mk, C.lss_mk, C.leq_mk, C.gtr_mk, C.geq_mk, C.conv_mk, C.len_mk, C.ext_0, C.ext_1, C.ext3_0, C.ext3_1, C.ext3_2, C.guarded_yes, C.guarded_tf, C.guarded_ft, C.guarded_undef, Bool.not_true, Bool.not_false, Nat.zero_add, eq_self, decide_true, decide_false]
      rw [wrap64_id (n := (j : Int) + 1) (by omega), show (j : Int) + 1 = ((j + 1 : Nat) : Int) by omega]
      refine ih (j + 1) w1 (by omega) (ha.keep hf1) (hb.keep hf1) (fun i h1 h2 hi => ?_) (fun w' hf => h w' (hf1.trans hf))
      rcases Nat.lt_or_ge i j with h3 | h3
      · exact he i h1 h2 h3
      · obtain rfl : i = j := by omega
        exact hxy
    · have hne : ¬ (x[j].1 = y[j].1 ∧ x[j].2 = y[j].2) := fun h => hxy (Prod.ext h.1 h.2)
      simp only [C.ite_true, C.ite_false, C.pick_true, C.pick_false, C.not_bool, C.field_ptr, C.nilCheck_ptr, C.add_mk, C.sub_mk, C.mul_mk, C.eql_mk, C.neq_mk, C.lss_mk, C.leq_mk, C.gtr_mk, C.geq_mk, C.conv_mk, C.len_mk, C.ext_0, C.ext_1, C.ext3_0, C.ext3_1, C.ext3_2, C.guarded_yes, C.guarded_tf, C.guarded_ft, C.guarded_undef, Bool.not_true, Bool.not_false, Nat.zero_add, eq_self, decide_true, decide_false, hne]
      have : ¬ x = y := by rintro rfl; exact hxy rfl
      have h := h w1 hf1
      rw [decide_eq_false this] at h
      exact h
theorem Values_c {a b : Value} {x y : List (Int × Int)} (ha : RdS w a 2 (valC x)) (hb : RdS w b 2 (valC y)) (h : ∀ w', Fr [] w w' → K (.bool (decide (x = y))) w') : C.call Try.prog 48 #[a, b] w K := by
  refine F48.sh (C.len_rd ha (C.len_rd hb ?_))
  simp only [C.ite_true, C.ite_false, C.pick_true, C.pick_false, C.not_bool, C.field_ptr, C.nilCheck_ptr, C.add_mk, C.sub_mk, C.mul_mk, C.eql_mk, C.neq_mk, C.lss_mk, C.leq_mk, C.gtr_mk, C.geq_mk, C.conv_mk, C.len_mk, C.ext_0, C.ext_1, C.ext3_0, C.ext3_1, C.ext3_2, C.guarded_yes, C.guarded_tf, C.guarded_ft, C.guarded_undef, Bool.not_true, Bool.not_false, Nat.zero_add, eq_self, decide_true, decide_false, valC_len]
  by_cases hl : x.length = y.length
  · simp only [C.ite_true, C.ite_false, C.pick_true, C.pick_false, C.not_bool, C.field_ptr, C.nilCheck_ptr, C.add_mk, C.sub_mk, C.mul_mk, C.eql_mk, C.neq_mk, C.lss_mk, C.leq_mk, C.gtr_mk, C.geq_mk, C.conv_mk, C.len_mk, C.ext_0, C.ext_1, C.ext3_0, C.ext3_1, C.ext3_2, C.guarded_yes, C.guarded_tf, C.guarded_ft, C.guarded_undef, Bool.not_true, Bool.not_false, Nat.zero_add, eq_self, decide_true, decide_false, hl, ne_eq, not_true_eq_false]
    refine F48.k3.to ?_
    exact Values_loop hl x.length 0 w (by omega) ha hb (fun i _ _ h => absurd h (by omega)) h
  · have e : ¬ ((x.length : Int) = (y.length : Int)) := by omega
    simp only [C.ite_true, C.ite_false, C.pick_true, C.pick_false, C.not_bool, C.field_ptr, C.nilCheck_ptr, C.add_mk, C.sub_mk, C.mul_mk, C.eql_mk, C.neq_mk, C.lss_mk, C.leq_mk, C.gtr_mk, C.geq_mk, C.conv_mk, C.len_mk, C.ext_0, C.ext_1, C.ext3_0, C.ext3_1, C.ext3_2, C.guarded_yes, C.guarded_tf, C.guarded_ft, C.guarded_undef, Bool.not_true, Bool.not_false, Nat.zero_add, eq_self, decide_true, decide_false, e, ne_eq, not_false_eq_true]
    have : ¬ x = y := by rintro rfl; exact hl rfl
    have h := h w (Fr.refl _ _)
    rw [decide_eq_false this] at h
    exact h
end
end Go.Proofs.YtckageghbhkklaaV
