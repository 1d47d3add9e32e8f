/- The statements RefsCounts and RefsFalls: what each call comes to. -/
import Derived.Test.YtfhgjncbhjjbfaaRefs7
import Derived.Test.YtfhgjncbhjjbfaaGRise
namespace Go.Proofs.YtfhgjncbhjjbfaaV
open Go Go.Proofs Go.RowKit
set_option linter.unusedVariables false
set_option linter.unusedSimpArgs false
set_option maxRecDepth 10000
section
variable {K : VK} {w : World}
/-! ### Rising -/
theorem rise_in {W1 : World} {lv ov : Value} {l out : List Int} {i : Nat} (hl : RdS W1 lv 1 (intC l)) (hil : i < l.length) (hol : out.length ≤ 1000)
    (h : ∀ v w' a, Fr [] W1 w' → NewS W1 v → a ≤ out.length → OwnS w' v 3 1 (intC (out.take a ++ [l[i]] ++ out.drop a)) → F49.k4 K lv v (.int .i64 (i : Int)) w') :
    ∀ (d a : Nat) (w : World), out.length = a + d → Fr [] W1 w → NewS W1 ov → OwnS w ov 3 1 (intC out) → F49.l7 K lv ov (.int .i64 (i : Int)) (.int .i64 (a : Int)) w := by
  -- the number put in its place
  have put : ∀ (a : Nat) (w : World), a ≤ out.length → Fr [] W1 w → NewS W1 ov → OwnS w ov 3 1 (intC out) → C.run Try.prog (Instr.sliceAt 44 ov none (some (.int .i64 (a : Int))) none) w fun x39 w14 =>
      C.run Try.prog (Builtin.append_ #[44, 44] 44 #[(.slice none 0 0), x39]) w14 fun x40 w15 => C.idx 1 lv (.int .i64 (i : Int)) w15 fun x44 w16 => C.load1 x44 w16 fun x45 w17 =>
      C.run Try.prog (Instr.buildSlice 44 1 #[(0, x45)]) w17 fun x46 w18 => C.run Try.prog (Builtin.append_ #[44, 44] 44 #[x40, x46]) w18 fun x47 w19 =>
      C.run Try.prog (Instr.sliceAt 44 ov (some (.int .i64 (a : Int))) none none) w19 fun x51 w20 => C.run Try.prog (Builtin.append_ #[44, 44] 44 #[x47, x51]) w20 fun x52 w21 => F49.k4 K lv x52 (.int .i64 (i : Int)) w21 := by
    intro a w ha hf hn ho
    have hord := ho.rd
    have lo := ho.mem_lt
    obtain ⟨A, c, rfl, hc, _⟩ := ho.cap
    rw [intC_len] at *
    refine C.run_of (sliceTo_run (sz := 1) _ _ _ _ _ Try.underlying44 (by kernel_rfl) (by omega) (by omega)) ?_
    rw [Int.toNat_natCast]
    have hsrc := hord.take a ha
    rw [intC_take] at hsrc
    refine C.append_of (xs := []) (ys := intC (out.take a)) (e := 3) (sz := 1) (bytes := 8) (z := .int .i64 0) Try.underlying44 (by kernel_rfl) rfl (by decide) (OwnS.nil w _ _) hsrc intC_one (by rw [intC_len]; simp; omega) (by rw [intC_len]; simp; omega) fun v1 w1 ho1 hf1 hb1 _ => ?_
    have f1 : Fr [] w w1 := hf1.mono (by simp [blkS, Value.ownBlock])
    have n1 : NewS w v1 := fun g hg => by
      rcases hb1 with e | ⟨g', e, e'⟩
      · rw [e] at hg; simp [Value.ownBlock] at hg
      · rw [hg] at e; simp only [Option.some.injEq] at e; omega
    rw [List.nil_append] at ho1
    refine C.idx_int (hl.keep (hf.trans f1)) hil fun g o cs e fz hg hcell => C.load1_of hg hcell (C.appInt f1 n1 ho1 (by simp; omega) fun v2 w2 hf2 hn2 ho2 _ => ?_)
    have r3 := sliceFrom_run (P := Try.prog) (w := w2) (t := 44) (e := 3) (sz := 1) A out.length c .i64 (a : Int) Try.underlying44 (by kernel_rfl) (by omega) (by omega)
    rw [Int.toNat_natCast] at r3
    refine C.run_of r3 ?_
    have hsrc2 := (hord.keep hf2).drop a ha
    have e : (intC out).drop a = intC (out.drop a) := by simp [intC, List.map_drop]
    rw [e] at hsrc2
    refine C.append_of (xs := intC (out.take a ++ [l[i]])) (ys := intC (out.drop a)) (e := 3) (sz := 1) (bytes := 8) (z := .int .i64 0) Try.underlying44 (by kernel_rfl) rfl (by decide) ho2 hsrc2 intC_one (by rw [intC_len, intC_len]; simp; omega) (by rw [intC_len, intC_len]; simp; omega) fun v3 w3 ho3 hf3 hb3 _ => ?_
    refine h v3 w3 a (hf.trans (hf2.then hf3 fun g hg => .inr (hn2.blk g hg))) (fun g hg => ?_) ha (by rw [intC_app]; exact ho3)
    have s1 := hf.size
    have s2 := hf2.size
    rcases hb3 with e | ⟨g', e, e'⟩
    · have := hn2 g (by rw [← e]; exact hg); omega
    · rw [hg] at e; simp only [Option.some.injEq] at e; omega
  intro d
  induction d with
  | zero =>
    intro a w ha hf hn ho
    refine F49.l7.to (C.draw_of (fun _ => True) fun w1 hf1 he1 => ⟨trivial, C.len_rd (ho.keep hf1 (by simp)).rd ?_⟩)
    rw [intC_len]
    simp only [C.ite_true, C.ite_false, C.pick_true, C.pick_false, C.not_bool, C.field_ptr, C.nilCheck_ptr, C.add_mk, C.sub_mk, C.mul_mk, C.eql_mk, C.neq_mk, C.lss_mk, C.leq_mk, C.gtr_mk, C.geq_mk, C.conv_mk, C.len_mk, C.ext_0, C.ext_1, C.ext3_0, C.ext3_1, C.ext3_2, C.guarded_yes, C.guarded_tf, C.guarded_ft, C.guarded_undef, Bool.not_true, Bool.not_false, Nat.zero_add, eq_self, decide_true, decide_false, show ¬ ((a : Int) < (out.length : Int)) by omega]
    exact put a w1 (by omega) (hf.trans hf1) hn (ho.keep hf1 (by simp))
  | succ d ih =>
    intro a w ha hf hn ho
    have hao : a < out.length := by omega
    refine F49.l7.to (C.draw_of (fun w' => Fr [] W1 w' ∧ OwnS w' ov 3 1 (intC out)) fun w1 hf1 he1 => ⟨⟨hf.trans hf1, ho.keep hf1 (by simp)⟩, C.len_rd (ho.keep hf1 (by simp)).rd ?_⟩)
    have hS : Fr [] W1 w1 ∧ OwnS w1 ov 3 1 (intC out) := ⟨hf.trans hf1, ho.keep hf1 (by simp)⟩
    rw [intC_len]
    simp only [C.ite_true, C.ite_false, C.pick_true, C.pick_false, C.not_bool, C.field_ptr, C.nilCheck_ptr, C.add_mk, C.sub_mk, C.mul_mk, C.eql_mk, C.neq_mk, C.lss_mk, C.leq_mk, C.gtr_mk, C.geq_mk, C.conv_mk, C.len_mk, C.ext_0, C.ext_1, C.ext3_0, C.ext3_1, C.ext3_2, C.guarded_yes, C.guarded_tf, C.guarded_ft, C.guarded_undef, Bool.not_true, Bool.not_false, Nat.zero_add, eq_self, decide_true, decide_false, show ((a : Int) < (out.length : Int)) by omega]
    refine C.idx_intS (S := fun w' => Fr [] W1 w' ∧ OwnS w' ov 3 1 (intC out)) (fun w' hw => hw.2.rd) hS hao fun g o hs => C.idx_intS (S := fun w' => Fr [] W1 w' ∧ OwnS w' ov 3 1 (intC out)) (fun w' hw => hl.keep hw.1) hS hil fun g' o' hs' => C.load1S_of hs (C.load1S_of hs' ?_)
    simp only [C.ite_true, C.ite_false, C.pick_true, C.pick_false, C.not_bool, C.field_ptr, C.nilCheck_ptr, C.add_mk, C.sub_mk, C.mul_mk, C.eql_mk, C.neq_mk, C.lss_mk, C.leq_mk, C.gtr_mk, C.geq_mk, C.conv_mk, C.len_mk, C.ext_0, C.ext_1, C.ext3_0, C.ext3_1, C.ext3_2, C.guarded_yes, C.guarded_tf, C.guarded_ft, C.guarded_undef, Bool.not_true, Bool.not_false, Nat.zero_add, eq_self, decide_true, decide_false]
    by_cases hlt : out[a] < l[i]
    · simp only [C.ite_true, C.ite_false, C.pick_true, C.pick_false, C.not_bool, C.field_ptr, C.nilCheck_ptr, C.add_mk, C.sub_mk, C.mul_mk, C.eql_mk, C.neq_mk, C.lss_mk, C.leq_mk, C.gtr_mk, C.geq_mk, C.conv_mk, C.len_mk, C.ext_0, C.ext_1, C.ext3_0, C.ext3_1, C.ext3_2, C.guarded_yes, C.guarded_tf, C.guarded_ft, C.guarded_undef, Bool.not_true, Bool.not_false, Nat.zero_add, eq_self, decide_true, decide_false, hlt]
      refine F49.k8.to ?_
      simp only [C.ite_true, C.ite_false, C.pick_true, C.pick_false, C.not_bool, C.field_ptr, C.nilCheck_ptr, C.add_mk, C.sub_mk, C.mul_mk, C.eql_mk, C.neq_mk, C.lss_mk, C.leq_mk, C.gtr_mk, C.geq_mk, C.conv_mk, C.len_mk, C.ext_0, C.ext_1, C.ext3_0, C.ext3_1, C.ext3_2, C.guarded_yes, C.guarded_tf, C.guarded_ft, C.guarded_undef, Bool.not_true, Bool.not_false, Nat.zero_add, eq_self, decide_true, decide_false]
      rw [wrap64_id (n := (a : Int) + 1) (by omega), show (a : Int) + 1 = ((a + 1 : Nat) : Int) by omega]
      exact ih (a + 1) w1 (by omega) hS.1 hn hS.2
    · simp only [C.ite_true, C.ite_false, C.pick_true, C.pick_false, C.not_bool, C.field_ptr, C.nilCheck_ptr, C.add_mk, C.sub_mk, C.mul_mk, C.eql_mk, C.neq_mk, C.lss_mk, C.leq_mk, C.gtr_mk, C.geq_mk, C.conv_mk, C.len_mk, C.ext_0, C.ext_1, C.ext3_0, C.ext3_1, C.ext3_2, C.guarded_yes, C.guarded_tf, C.guarded_ft, C.guarded_undef, Bool.not_true, Bool.not_false, Nat.zero_add, eq_self, decide_true, decide_false, hlt]
      exact put a w1 (by omega) hS.1 hn hS.2
theorem rise_loop {W1 : World} {lv : Value} {l : List Int} (hl : RdS W1 lv 1 (intC l)) (hll : l.length ≤ 1000) (hnd : l.Nodup) (h : ∀ v w' r, Fr [] W1 w' → OwnS w' v 3 1 (intC r) → r.length = l.length → K v w') :
    ∀ (d i : Nat) (ov : Value) (out : List Int) (w : World), l.length = i + d → Fr [] W1 w → NewS W1 ov → OwnS w ov 3 1 (intC out) → out.length = i → (∀ x, x ∈ out ↔ x ∈ l.take i) → F49.l3 K lv ov (.int .i64 (i : Int)) w := by
  intro d
  induction d with
  | zero =>
    intro i ov out w hi hf hn ho hol hm
    refine F49.l3.to (C.len_rd (hl.keep hf) ?_)
    rw [intC_len]
    simp only [C.ite_true, C.ite_false, C.pick_true, C.pick_false, C.not_bool, C.field_ptr, C.nilCheck_ptr, C.add_mk, C.sub_mk, C.mul_mk, C.eql_mk, C.neq_mk, C.lss_mk, C.leq_mk, C.gtr_mk, C.geq_mk, C.conv_mk, C.len_mk, C.ext_0, C.ext_1, C.ext3_0, C.ext3_1, C.ext3_2, C.guarded_yes, C.guarded_tf, C.guarded_ft, C.guarded_undef, Bool.not_true, Bool.not_false, Nat.zero_add, eq_self, decide_true, decide_false, show ¬ ((i : Int) < (l.length : Int)) by omega]
    exact F49.k14.to (h ov w out hf ho (by omega))
  | succ d ih =>
    intro i ov out w hi hf hn ho hol hm
    have hil : i < l.length := by omega
    refine F49.l3.to (C.len_rd (hl.keep hf) ?_)
    rw [intC_len]
    simp only [C.ite_true, C.ite_false, C.pick_true, C.pick_false, C.not_bool, C.field_ptr, C.nilCheck_ptr, C.add_mk, C.sub_mk, C.mul_mk, C.eql_mk, C.neq_mk, C.lss_mk, C.leq_mk, C.gtr_mk, C.geq_mk, C.conv_mk, C.len_mk, C.ext_0, C.ext_1, C.ext3_0, C.ext3_1, C.ext3_2, C.guarded_yes, C.guarded_tf, C.guarded_ft, C.guarded_undef, Bool.not_true, Bool.not_false, Nat.zero_add, eq_self, decide_true, decide_false, show ((i : Int) < (l.length : Int)) by omega]
    have hnot : ¬ (l[i] ∈ out) := fun c => by
      obtain ⟨k, hk, e⟩ := List.getElem_of_mem ((hm _).1 c)
      rw [List.getElem_take] at e
      rw [List.length_take] at hk
      exact absurd e (List.pairwise_iff_getElem.1 hnd k i (by omega) hil (by omega))
    refine F49.k5.to (C.idx_int (hl.keep hf) hil fun g o cs e fz hg hc => C.load1_of hg hc (In_c ho.rd ?_))
    rw [decide_eq_false hnot, C.ite_false]
    refine F49.k6.to (rise_in (i := i) (out := out) hl hil (by omega) (fun v w' a hf' hn' ha ho' => F49.k4.to ?_) out.length 0 w (by omega) hf hn ho)
    simp only [C.ite_true, C.ite_false, C.pick_true, C.pick_false, C.not_bool, C.field_ptr, C.nilCheck_ptr, C.add_mk, C.sub_mk, C.mul_mk, C.eql_mk, C.neq_mk, C.lss_mk, C.leq_mk, C.gtr_mk, C.geq_mk, C.conv_mk, C.len_mk, C.ext_0, C.ext_1, C.ext3_0, C.ext3_1, C.ext3_2, C.guarded_yes, C.guarded_tf, C.guarded_ft, C.guarded_undef, Bool.not_true, Bool.not_false, Nat.zero_add, eq_self, decide_true, decide_false]
    rw [wrap64_id (n := (i : Int) + 1) (by omega), show (i : Int) + 1 = ((i + 1 : Nat) : Int) by omega]
    refine ih (i + 1) v _ w' (by omega) hf' hn' ho' (by simp; omega) fun x => ?_
    have : x ∈ out ↔ x ∈ out.take a ∨ x ∈ out.drop a := by rw [← List.mem_append, List.take_append_drop]
    simp only [List.take_succ_eq_append_getElem hil, List.mem_append, List.mem_singleton]
    rw [← hm x, this]
    constructor
    · rintro ((c | c) | c)
      · exact .inl (.inl c)
      · exact .inr c
      · exact .inl (.inr c)
    · rintro ((c | c) | c)
      · exact .inl (.inl c)
      · exact .inr c
      · exact .inl (.inr c)
theorem Rising_c {lv : Value} {l : List Int} (hl : RdS w lv 1 (intC l)) (hll : l.length ≤ 1000) (hnd : l.Nodup) (h : ∀ v w' r, Fr [] w w' → OwnS w' v 3 1 (intC r) → r.length = l.length → K v w') : C.call Try.prog 49 #[lv] w K := by
  refine F49.sh ?_
  exact rise_loop hl hll hnd h l.length 0 _ [] w (by omega) (Fr.refl _ _) (NewS.nil _) (OwnS.nil _ _ _) rfl (by simp)
/-! ### The example; the cut -/
end
def gC : Gr := ⟨[[1], [0], [3], [], []], [4, 4]⟩
theorem gC1 : gC.countsL = [1, 1, 0, 1, 2] := by decide +kernel
theorem gC2 : natC gC.freeL = [2, 3] := by decide +kernel
theorem gC3 : natC gC.leakL = [0, 1] := by decide +kernel
section
variable {K : VK} {w : World}
theorem alive35_c (h : ∀ w', Fr [] w w' → K (.bool true) w') : C.call Try.prog 40 #[] w K := by
  refine F40.sh (C.litI fun s1 w1 hf1 hr1 => C.litI fun s2 w2 hf2 hr2 => C.litI fun s3 w3 hf3 hr3 => ?_)
  refine C.litS5 ((hr1.keep hf2).keep hf3) (hr2.keep hf3) hr3 (OwnS.nil w3 3 1).rd (OwnS.nil w3 3 1).rd (t := []) (u := []) fun nv w4 hf4 hn4 => C.litI2 fun rv w5 hf5 hr5 => ?_
  have hG : IsG w5 nv rv gC := ⟨hn4.keep hf5, hr5, by decide, by decide, by decide⟩
  refine C.mkG hG fun b w6 hf6 hb6 hb hG6 => ?_
  have f06 : Fr [] w w6 := ((((hf1.trans hf2).trans hf3).trans hf4).trans hf5).trans hf6
  refine hb.all (Counts_c hG6 fun v w7 hf7 hn7 ho7 => C.litI5 fun u w8 hf8 hr8 => Ints_c (ho7.rd.keep hf8) hr8 fun w9 hf9 => ?_)
  have f69 := (hf7.trans hf8).trans hf9
  rw [decide_eq_true gC1]
  try simp only [C.ite_true, C.ite_false, C.pick_true, C.pick_false, C.not_bool, C.field_ptr, C.nilCheck_ptr, C.add_mk, C.sub_mk, C.mul_mk, C.eql_mk, C.neq_mk, C.lss_mk, C.leq_mk, C.gtr_mk, C.geq_mk, C.conv_mk, C.len_mk, C.ext_0, C.ext_1, C.ext3_0, C.ext3_1, C.ext3_2, C.guarded_yes, C.guarded_tf, C.guarded_ft, C.guarded_undef, Bool.not_true, Bool.not_false, Nat.zero_add, eq_self, decide_true, decide_false]
  refine (hb.keep f69 (by simp)).all (Falls_c (hG6.keep f69) fun v w7 hf7 hn7 ho7 => C.litI2 fun u w8 hf8 hr8 => Ints_c (ho7.rd.keep hf8) hr8 fun w10 hf10 => ?_)
  have f610 := ((f69.trans hf7).trans hf8).trans hf10
  rw [decide_eq_true gC2]
  try simp only [C.ite_true, C.ite_false, C.pick_true, C.pick_false, C.not_bool, C.field_ptr, C.nilCheck_ptr, C.add_mk, C.sub_mk, C.mul_mk, C.eql_mk, C.neq_mk, C.lss_mk, C.leq_mk, C.gtr_mk, C.geq_mk, C.conv_mk, C.len_mk, C.ext_0, C.ext_1, C.ext3_0, C.ext3_1, C.ext3_2, C.guarded_yes, C.guarded_tf, C.guarded_ft, C.guarded_undef, Bool.not_true, Bool.not_false, Nat.zero_add, eq_self, decide_true, decide_false]
  refine (hb.keep f610 (by simp)).all (Leaks_c (hG6.keep f610) fun v w7 hf7 hn7 ho7 => C.litI2 fun u w8 hf8 hr8 => Ints_c (ho7.rd.keep hf8) hr8 fun w11 hf11 => ?_)
  have f611 := ((f610.trans hf7).trans hf8).trans hf11
  rw [decide_eq_true gC3]
  try simp only [C.ite_true, C.ite_false, C.pick_true, C.pick_false, C.not_bool, C.field_ptr, C.nilCheck_ptr, C.add_mk, C.sub_mk, C.mul_mk, C.eql_mk, C.neq_mk, C.lss_mk, C.leq_mk, C.gtr_mk, C.geq_mk, C.conv_mk, C.len_mk, C.ext_0, C.ext_1, C.ext3_0, C.ext3_1, C.ext3_2, C.guarded_yes, C.guarded_tf, C.guarded_ft, C.guarded_undef, Bool.not_true, Bool.not_false, Nat.zero_add, eq_self, decide_true, decide_false]
  exact h w11 (f06.trans f611)
theorem few35_c {W0 : World} {nv rv : Value} {G : Gr} (hG : IsG0 W0 nv rv G) (hf0 : Fr [] W0 w) (h : ∀ nv' w', Fr [] w w' → IsG W0 nv' rv (G.cut 20) → K (.agg #[nv', rv]) w') : C.call Try.prog 41 #[.agg #[nv, rv]] w K := by
  refine F41.sh (GBlk.new0 (hG.keep hf0) fun b w1 hf1 hb1 hb hG1 => C.new_of fun b2 w2 hw2 => ?_)
  have hb2 := hb.keep hw2.fr (by simp)
  have e2 := hw2.is
  have e2' := hw2.sz
  have s1 := hf1.size
  have hl := hG.le
  have lb := lt_of_at hb
  have f2 := hf1.trans hw2.fr
  have fin : ∀ nv' w3, Fr [] w w3 → IsG W0 nv' rv (G.cut 20) → GBlk w3 b 46 nv' rv → w3.heap[b2]? = some (.cells #[.slice none 0 0, .slice none 0 0] 46 (0, 0)) → F41.k3 K (.pointer (some ⟨b, 0, none⟩)) (.pointer (some ⟨b2, 0, none⟩)) w3 := by
    intro nv' w3 f3 hG3 hb3 h23
    refine F41.k3.to (hb3.all (GBlk.set h23 (hG3.keep (hf0.trans f3)) fun w4 hu => C.loadA_all hu.at_ rfl ?_))
    have fr : Fr [] w w4 := f3.then hu.fr fun x hx => .inr (by simp only [List.mem_singleton] at hx; omega)
    exact h nv' w4 fr hG3
  have hG' := hG
  obtain ⟨A, c, B, d, rfl, rfl⟩ := hG.slices
  simp only [C.ite_true, C.ite_false, C.pick_true, C.pick_false, C.not_bool, C.field_ptr, C.nilCheck_ptr, C.add_mk, C.sub_mk, C.mul_mk, C.eql_mk, C.neq_mk, C.lss_mk, C.leq_mk, C.gtr_mk, C.geq_mk, C.conv_mk, C.len_mk, C.ext_0, C.ext_1, C.ext3_0, C.ext3_1, C.ext3_2, C.guarded_yes, C.guarded_tf, C.guarded_ft, C.guarded_undef, Bool.not_true, Bool.not_false, Nat.zero_add, eq_self, decide_true, decide_false]
  refine C.load1_of (v := .slice A G.n c) hb2 rfl ?_
  simp only [C.ite_true, C.ite_false, C.pick_true, C.pick_false, C.not_bool, C.field_ptr, C.nilCheck_ptr, C.add_mk, C.sub_mk, C.mul_mk, C.eql_mk, C.neq_mk, C.lss_mk, C.leq_mk, C.gtr_mk, C.geq_mk, C.conv_mk, C.len_mk, C.ext_0, C.ext_1, C.ext3_0, C.ext3_1, C.ext3_2, C.guarded_yes, C.guarded_tf, C.guarded_ft, C.guarded_undef, Bool.not_true, Bool.not_false, Nat.zero_add, eq_self, decide_true, decide_false]
  by_cases hc : (G.n : Int) > 20
  · simp only [C.ite_true, C.ite_false, C.pick_true, C.pick_false, C.not_bool, C.field_ptr, C.nilCheck_ptr, C.add_mk, C.sub_mk, C.mul_mk, C.eql_mk, C.neq_mk, C.lss_mk, C.leq_mk, C.gtr_mk, C.geq_mk, C.conv_mk, C.len_mk, C.ext_0, C.ext_1, C.ext3_0, C.ext3_1, C.ext3_2, C.guarded_yes, C.guarded_tf, C.guarded_ft, C.guarded_undef, Bool.not_true, Bool.not_false, Nat.zero_add, eq_self, decide_true, decide_false, hc]
    refine C.load1_of (v := .slice A G.n c) hb2 rfl ?_
    obtain ⟨vs, ⟨A', c', he, hle, _⟩, hvl, _⟩ := hG.next
    simp only [Value.slice.injEq] at he
    obtain ⟨rfl, he, rfl⟩ := he
    refine C.run_of (sliceTo_run (sz := 1) _ _ _ _ _ Try.underlying43 (by kernel_rfl) (by omega) (by omega)) ?_
    rw [show (20 : Int).toNat = 20 from rfl]
    try simp only [C.ite_true, C.ite_false, C.pick_true, C.pick_false, C.not_bool, C.field_ptr, C.nilCheck_ptr, C.add_mk, C.sub_mk, C.mul_mk, C.eql_mk, C.neq_mk, C.lss_mk, C.leq_mk, C.gtr_mk, C.geq_mk, C.conv_mk, C.len_mk, C.ext_0, C.ext_1, C.ext3_0, C.ext3_1, C.ext3_2, C.guarded_yes, C.guarded_tf, C.guarded_ft, C.guarded_undef, Bool.not_true, Bool.not_false, Nat.zero_add, eq_self, decide_true, decide_false]
    refine C.store1_of hb2 rfl rfl (by simp) fun w3 hu => ?_
    have fr : Fr [] w w3 := f2.then hu.fr fun x hx => .inr (by simp only [List.mem_singleton] at hx; omega)
    refine fin (.slice A 20 c) w3 fr ⟨hG'.next.take (by omega), hG'.roots, Nat.le_trans (cut_n _ _) (by omega), hG'.rlen, fun r hr => hG'.nlen r (List.mem_of_mem_take hr)⟩ hu.at_ (hu.fr.at_ hw2.at_ (by simp; omega))
  · simp only [C.ite_true, C.ite_false, C.pick_true, C.pick_false, C.not_bool, C.field_ptr, C.nilCheck_ptr, C.add_mk, C.sub_mk, C.mul_mk, C.eql_mk, C.neq_mk, C.lss_mk, C.leq_mk, C.gtr_mk, C.geq_mk, C.conv_mk, C.len_mk, C.ext_0, C.ext_1, C.ext3_0, C.ext3_1, C.ext3_2, C.guarded_yes, C.guarded_tf, C.guarded_ft, C.guarded_undef, Bool.not_true, Bool.not_false, Nat.zero_add, eq_self, decide_true, decide_false, hc]
    have e : G.cut 20 = G := cut_id (by omega)
    exact fin _ w2 f2 (by rw [e]; exact hG'.isG (by omega)) hb2 hw2.at_

theorem RefsCounts_c {nv rv : Value} {G : Gr} (hG : IsG0 w nv rv G) (h : ∀ w', Fr [] w w' → K (.bool true) w') : C.call Try.prog 11 #[.agg #[nv, rv]] w K := by
  refine F11.sh (GBlk.new0 hG fun b w1 hf1 hb1 hb hG1 => alive35_c fun w2 hf2 => ?_)
  simp only [C.ite_true, C.ite_false, C.pick_true, C.pick_false, C.not_bool, C.field_ptr, C.nilCheck_ptr, C.add_mk, C.sub_mk, C.mul_mk, C.eql_mk, C.neq_mk, C.lss_mk, C.leq_mk, C.gtr_mk, C.geq_mk, C.conv_mk, C.len_mk, C.ext_0, C.ext_1, C.ext3_0, C.ext3_1, C.ext3_2, C.guarded_yes, C.guarded_tf, C.guarded_ft, C.guarded_undef, Bool.not_true, Bool.not_false, Nat.zero_add, eq_self, decide_true, decide_false]
  refine F11.k3.to ((hb.keep hf2 (by simp)).all (few35_c hG (hf1.trans hf2) fun nv' w3 hf3 hG3 => GBlk.set (hb.keep (hf2.trans hf3) (by simp)) (hG3.keep ((hf1.trans hf2).trans hf3)) fun w4 hu => ?_))
  have f04 : Fr [] w w4 := ((hf1.trans hf2).trans hf3).then hu.fr fun x hx => .inr (by simp only [List.mem_singleton] at hx; omega)
  have hG4 := hG3.keep f04
  have hb4 : GBlk w4 b 46 nv' rv := hu.at_
  generalize G.cut 20 = H at *
  have hfew := hG4.few
  refine C.draw_of (fun w' => Fr [] w4 w') fun w5 hf5 he5 => ⟨hf5, ?_⟩
  simp only [C.ite_true, C.ite_false, C.pick_true, C.pick_false, C.not_bool, C.field_ptr, C.nilCheck_ptr, C.add_mk, C.sub_mk, C.mul_mk, C.eql_mk, C.neq_mk, C.lss_mk, C.leq_mk, C.gtr_mk, C.geq_mk, C.conv_mk, C.len_mk, C.ext_0, C.ext_1, C.ext3_0, C.ext3_1, C.ext3_2, C.guarded_yes, C.guarded_tf, C.guarded_ft, C.guarded_undef, Bool.not_true, Bool.not_false, Nat.zero_add, eq_self, decide_true, decide_false, and_true]
  have L : ∀ {w' : World} {F : VK}, F (.agg #[nv', rv]) w' → C.loadAS (fun w' => Fr [] w4 w') 2 (.pointer (some ⟨b, 0, none⟩)) w' F := fun hF => C.loadAS_of (vs := [nv', rv]) (fun w' hw => ⟨_, _, _, hb4.keep hw (by simp), by simp, by simp⟩) hF
  refine L (L (C.load1S_of (v := nv') (fun w' hw => ⟨_, _, _, hb4.keep hw (by simp), rfl⟩) ((hG4.keep hf5).len_next ?_)))
  -- what comes when both counts are there
  have rest : ∀ {w' : World} {cv fv : Value}, Fr [] w4 w' → RdS w' cv 1 (intC H.countsL) → RdS w' fv 1 (boolC (tab H.n fun _ => false)) → C.call Try.prog 43 #[.agg #[nv', rv], fv] w' fun x14 w23 => Fr [] w4 w23 ∧ C.call Try.prog 34 #[cv, x14] w23 fun x15 w24 => Fr [] w4 w24 ∧
      C.guarded true x15 (fun K => C.loadAS (fun w' => Fr [] w4 w') 2 (.pointer (some ⟨b, 0, none⟩)) w24 K) w24 fun x17 w25 => C.guarded true x15 (fun K => C.loadAS (fun w' => Fr [] w4 w') 2 (.pointer (some ⟨b, 0, none⟩)) w25 K) w25 fun x19 w26 =>
      C.guarded true x15 (fun K => C.call Try.prog 44 #[x17] w26 K) w26 fun x18 w27 => Fr [] w4 w27 ∧ C.guarded true x15 (fun K => C.call Try.prog 46 #[x19] w27 K) w27 fun x20 w28 => Fr [] w4 w28 ∧
      C.guarded true x15 (fun K => C.call Try.prog 45 #[x20] w28 K) w28 fun x21 w29 => Fr [] w4 w29 ∧ C.guarded true x15 (fun K => C.call Try.prog 34 #[x18, x21] w29 K) w29 fun x22 w30 => Fr [] w4 w30 ∧
      C.pick (some x15) (some x22) (some (.bool false)) w30 fun x23 w31 => K x23 w31 := by
    intro w' cv fv hf' hc hv
    refine lcounts_c (hG4.keep hf') hv fun v w6 hf6 hn6 ho6 => ⟨hf'.trans hf6, Ints_c (hc.keep hf6) ho6.rd fun w7 hf7 => ⟨(hf'.trans hf6).trans hf7, ?_⟩⟩
    have f7 := (hf'.trans hf6).trans hf7
    have e1 : decide (H.countsL = tab H.n fun j => (H.cnt (fun _ => false) (j : Int) : Int)) = true := decide_eq_true rfl
    rw [e1]
    simp only [C.guarded_yes, C.pick_true]
    refine L (L (Falls_c (hG4.keep f7) fun u w8 hf8 hn8 ho8 => ⟨f7.trans hf8, lfalls_c (hG4.keep (f7.trans hf8)) fun x w9 hf9 hn9 ho9 => ⟨(f7.trans hf8).trans hf9, places_c hfew ho9.rd fun y w10 hf10 hn10 ho10 => ⟨((f7.trans hf8).trans hf9).trans hf10, Ints_c ((ho8.rd.keep hf9).keep hf10) ho10.rd fun w11 hf11 => ?_⟩⟩⟩))
    have f11 := (((f7.trans hf8).trans hf9).trans hf10).trans hf11
    refine ⟨f11, ?_⟩
    have e2 : decide (natC H.freeL = natC ((List.range H.n).filter H.free)) = true := decide_eq_true rfl
    rw [e2]
    exact h w11 (f04.trans f11)
  refine ⟨?_, ?_⟩
  · refine Counts_c (hG4.keep hf5) fun cv w6 hf6 hn6 ho6 => ⟨hf5.trans hf6, C.makeB hfew fun fv w7 hf7 hn7 _ ho7 => ⟨(hf5.trans hf6).trans hf7, ?_⟩⟩
    have := rest ((hf5.trans hf6).trans hf7) (ho6.rd.keep hf7) ho7.rd
    exact this
  · refine C.makeB hfew fun fv w7 hf7 hn7 _ ho7 => ⟨hf5.trans hf7, Counts_c (hG4.keep (hf5.trans hf7)) fun cv w6 hf6 hn6 ho6 => ⟨(hf5.trans hf7).trans hf6, ?_⟩⟩
    have := rest ((hf5.trans hf7).trans hf6) ho6.rd (ho7.rd.keep hf6)
    exact this
theorem natC_nodup {l : List Nat} (h : l.Nodup) : (natC l).Nodup := by
  unfold natC
  refine List.Pairwise.map _ (fun a b hab => ?_) h
  omega
theorem rf_loop {W1 : World} {H : Gr} {dv fv lv : Value} (hfew : H.n ≤ 1000) (hd : RdS W1 dv 1 (intC H.distL)) (hf0 : RdS W1 fv 1 (intC (natC H.freeL))) (hl0 : RdS W1 lv 1 (intC (natC H.leakL))) (h : ∀ w', Fr [] W1 w' → K (.bool true) w') :
    ∀ (d i : Nat) (w : World), H.n = i + d → Fr [] W1 w → F12.l7 K dv fv lv (.int .i64 (i : Int)) w := by
  intro d
  induction d with
  | zero =>
    intro i w hi hf
    refine F12.l7.to (C.len_rd (hd.keep hf) ?_)
    rw [intC_len, distL_len]
    simp only [C.ite_true, C.ite_false, C.pick_true, C.pick_false, C.not_bool, C.field_ptr, C.nilCheck_ptr, C.add_mk, C.sub_mk, C.mul_mk, C.eql_mk, C.neq_mk, C.lss_mk, C.leq_mk, C.gtr_mk, C.geq_mk, C.conv_mk, C.len_mk, C.ext_0, C.ext_1, C.ext3_0, C.ext3_1, C.ext3_2, C.guarded_yes, C.guarded_tf, C.guarded_ft, C.guarded_undef, Bool.not_true, Bool.not_false, Nat.zero_add, eq_self, decide_true, decide_false, show ¬ ((i : Int) < (H.n : Int)) by omega]
    have l1 : (natC H.freeL).length ≤ 1000 := by rw [natC_len]; exact Nat.le_trans (List.length_filter_le _ _) (by simp; omega)
    have l2 : (natC H.leakL).length ≤ 1000 := by rw [natC_len]; exact Nat.le_trans (List.length_filter_le _ _) (by simp; omega)
    refine F12.k12.to (Rising_c (hf0.keep hf) l1 (natC_nodup (List.nodup_range.filter _)) fun v w1 r hf1 ho1 hr1 => C.len_rd ho1.rd (C.len_rd (hf0.keep (hf.trans hf1)) ?_))
    rw [intC_len, intC_len, hr1]
    simp only [C.ite_true, C.ite_false, C.pick_true, C.pick_false, C.not_bool, C.field_ptr, C.nilCheck_ptr, C.add_mk, C.sub_mk, C.mul_mk, C.eql_mk, C.neq_mk, C.lss_mk, C.leq_mk, C.gtr_mk, C.geq_mk, C.conv_mk, C.len_mk, C.ext_0, C.ext_1, C.ext3_0, C.ext3_1, C.ext3_2, C.guarded_yes, C.guarded_tf, C.guarded_ft, C.guarded_undef, Bool.not_true, Bool.not_false, Nat.zero_add, eq_self, decide_true, decide_false]
    refine Rising_c (hl0.keep (hf.trans hf1)) l2 (natC_nodup (List.nodup_range.filter _)) fun v w2 r2 hf2 ho2 hr2 => ?_
    try simp only [C.ite_true, C.ite_false, C.pick_true, C.pick_false, C.not_bool, C.field_ptr, C.nilCheck_ptr, C.add_mk, C.sub_mk, C.mul_mk, C.eql_mk, C.neq_mk, C.lss_mk, C.leq_mk, C.gtr_mk, C.geq_mk, C.conv_mk, C.len_mk, C.ext_0, C.ext_1, C.ext3_0, C.ext3_1, C.ext3_2, C.guarded_yes, C.guarded_tf, C.guarded_ft, C.guarded_undef, Bool.not_true, Bool.not_false, Nat.zero_add, eq_self, decide_true, decide_false]
    refine C.len_rd ho2.rd ?_
    try simp only [C.ite_true, C.ite_false, C.pick_true, C.pick_false, C.not_bool, C.field_ptr, C.nilCheck_ptr, C.add_mk, C.sub_mk, C.mul_mk, C.eql_mk, C.neq_mk, C.lss_mk, C.leq_mk, C.gtr_mk, C.geq_mk, C.conv_mk, C.len_mk, C.ext_0, C.ext_1, C.ext3_0, C.ext3_1, C.ext3_2, C.guarded_yes, C.guarded_tf, C.guarded_ft, C.guarded_undef, Bool.not_true, Bool.not_false, Nat.zero_add, eq_self, decide_true, decide_false]
    refine C.len_rd (hl0.keep ((hf.trans hf1).trans hf2)) ?_
    rw [intC_len, intC_len, hr2]
    simp only [C.ite_true, C.ite_false, C.pick_true, C.pick_false, C.not_bool, C.field_ptr, C.nilCheck_ptr, C.add_mk, C.sub_mk, C.mul_mk, C.eql_mk, C.neq_mk, C.lss_mk, C.leq_mk, C.gtr_mk, C.geq_mk, C.conv_mk, C.len_mk, C.ext_0, C.ext_1, C.ext3_0, C.ext3_1, C.ext3_2, C.guarded_yes, C.guarded_tf, C.guarded_ft, C.guarded_undef, Bool.not_true, Bool.not_false, Nat.zero_add, eq_self, decide_true, decide_false]
    exact h w2 ((hf.trans hf1).trans hf2)
  | succ d ih =>
    intro i w hi hf
    have hin : i < H.n := by omega
    refine F12.l7.to (C.len_rd (hd.keep hf) ?_)
    rw [intC_len, distL_len]
    simp only [C.ite_true, C.ite_false, C.pick_true, C.pick_false, C.not_bool, C.field_ptr, C.nilCheck_ptr, C.add_mk, C.sub_mk, C.mul_mk, C.eql_mk, C.neq_mk, C.lss_mk, C.leq_mk, C.gtr_mk, C.geq_mk, C.conv_mk, C.len_mk, C.ext_0, C.ext_1, C.ext3_0, C.ext3_1, C.ext3_2, C.guarded_yes, C.guarded_tf, C.guarded_ft, C.guarded_undef, Bool.not_true, Bool.not_false, Nat.zero_add, eq_self, decide_true, decide_false, show ((i : Int) < (H.n : Int)) by omega]
    have nx : ∀ w', Fr [] W1 w' → F12.k8 K dv fv lv (.int .i64 (i : Int)) w' := by
      intro w' a
      refine F12.k8.to ?_
      simp only [C.ite_true, C.ite_false, C.pick_true, C.pick_false, C.not_bool, C.field_ptr, C.nilCheck_ptr, C.add_mk, C.sub_mk, C.mul_mk, C.eql_mk, C.neq_mk, C.lss_mk, C.leq_mk, C.gtr_mk, C.geq_mk, C.conv_mk, C.len_mk, C.ext_0, C.ext_1, C.ext3_0, C.ext3_1, C.ext3_2, C.guarded_yes, C.guarded_tf, C.guarded_ft, C.guarded_undef, Bool.not_true, Bool.not_false, Nat.zero_add, eq_self, decide_true, decide_false]
      rw [wrap64_id (n := (i : Int) + 1) (by omega), show (i : Int) + 1 = ((i + 1 : Nat) : Int) by omega]
      exact ih (i + 1) w' (by omega) a
    have ef : decide ((i : Int) ∈ natC H.freeL) = H.free i := dec_bool (by
      rw [natC_mem]
      constructor
      · rintro ⟨r, hr, e⟩
        obtain rfl : i = r := by omega
        exact (List.mem_filter.1 hr).2
      · intro e; exact ⟨i, List.mem_filter.2 ⟨List.mem_range.2 hin, e⟩, rfl⟩)
    have el : decide ((i : Int) ∈ natC H.leakL) = (!H.rch i && !H.free i) := dec_bool (by
      rw [natC_mem]
      constructor
      · rintro ⟨r, hr, e⟩
        obtain rfl : i = r := by omega
        exact (List.mem_filter.1 hr).2
      · intro e; exact ⟨i, List.mem_filter.2 ⟨List.mem_range.2 hin, e⟩, rfl⟩)
    have hrd : decide (H.dst i ≥ 0) = H.rch i := rfl
    have hfr := @free_dead H i
    refine F12.k9.to (In_c (hf0.keep hf) (In_c (hl0.keep hf) ?_))
    rw [ef, el]
    have D : ∀ {F : VK}, F (.int .i64 (H.dst i)) w → C.idx 1 dv (.int .i64 (i : Int)) w fun p w1 => C.load1 p w1 F := fun hF => C.idx_int (hd.keep hf) (by rw [distL_len]; exact hin) fun g o cs e fz hg hc => C.load1_of hg (by rw [hc, distL_get]) hF
    cases h1 : H.free i <;> cases h2 : H.rch i
    · simp only [C.ite_true, C.ite_false, C.pick_true, C.pick_false, C.not_bool, C.field_ptr, C.nilCheck_ptr, C.add_mk, C.sub_mk, C.mul_mk, C.eql_mk, C.neq_mk, C.lss_mk, C.leq_mk, C.gtr_mk, C.geq_mk, C.conv_mk, C.len_mk, C.ext_0, C.ext_1, C.ext3_0, C.ext3_1, C.ext3_2, C.guarded_yes, C.guarded_tf, C.guarded_ft, C.guarded_undef, Bool.not_true, Bool.not_false, Nat.zero_add, eq_self, decide_true, decide_false, Bool.and_self, Bool.not_true, Bool.not_false, Bool.and_true, Bool.and_false]
      refine D ?_
      simp only [C.ite_true, C.ite_false, C.pick_true, C.pick_false, C.not_bool, C.field_ptr, C.nilCheck_ptr, C.add_mk, C.sub_mk, C.mul_mk, C.eql_mk, C.neq_mk, C.lss_mk, C.leq_mk, C.gtr_mk, C.geq_mk, C.conv_mk, C.len_mk, C.ext_0, C.ext_1, C.ext3_0, C.ext3_1, C.ext3_2, C.guarded_yes, C.guarded_tf, C.guarded_ft, C.guarded_undef, Bool.not_true, Bool.not_false, Nat.zero_add, eq_self, decide_true, decide_false, hrd, h2]
      refine ⟨_, eq_bool _ _ _ _ Try.underlying4, ?_⟩
      simp only [C.ite_true, C.ite_false, C.pick_true, C.pick_false, C.not_bool, C.field_ptr, C.nilCheck_ptr, C.add_mk, C.sub_mk, C.mul_mk, C.eql_mk, C.neq_mk, C.lss_mk, C.leq_mk, C.gtr_mk, C.geq_mk, C.conv_mk, C.len_mk, C.ext_0, C.ext_1, C.ext3_0, C.ext3_1, C.ext3_2, C.guarded_yes, C.guarded_tf, C.guarded_ft, C.guarded_undef, Bool.not_true, Bool.not_false, Nat.zero_add, eq_self, decide_true, decide_false, show (false == true) = false from rfl, show (true == false) = false from rfl]
      exact nx w hf
    · simp only [C.ite_true, C.ite_false, C.pick_true, C.pick_false, C.not_bool, C.field_ptr, C.nilCheck_ptr, C.add_mk, C.sub_mk, C.mul_mk, C.eql_mk, C.neq_mk, C.lss_mk, C.leq_mk, C.gtr_mk, C.geq_mk, C.conv_mk, C.len_mk, C.ext_0, C.ext_1, C.ext3_0, C.ext3_1, C.ext3_2, C.guarded_yes, C.guarded_tf, C.guarded_ft, C.guarded_undef, Bool.not_true, Bool.not_false, Nat.zero_add, eq_self, decide_true, decide_false, Bool.and_self, Bool.not_true, Bool.not_false, Bool.and_true, Bool.and_false]
      refine D ?_
      simp only [C.ite_true, C.ite_false, C.pick_true, C.pick_false, C.not_bool, C.field_ptr, C.nilCheck_ptr, C.add_mk, C.sub_mk, C.mul_mk, C.eql_mk, C.neq_mk, C.lss_mk, C.leq_mk, C.gtr_mk, C.geq_mk, C.conv_mk, C.len_mk, C.ext_0, C.ext_1, C.ext3_0, C.ext3_1, C.ext3_2, C.guarded_yes, C.guarded_tf, C.guarded_ft, C.guarded_undef, Bool.not_true, Bool.not_false, Nat.zero_add, eq_self, decide_true, decide_false, hrd, h2]
      refine ⟨_, eq_bool _ _ _ _ Try.underlying4, ?_⟩
      simp only [C.ite_true, C.ite_false, C.pick_true, C.pick_false, C.not_bool, C.field_ptr, C.nilCheck_ptr, C.add_mk, C.sub_mk, C.mul_mk, C.eql_mk, C.neq_mk, C.lss_mk, C.leq_mk, C.gtr_mk, C.geq_mk, C.conv_mk, C.len_mk, C.ext_0, C.ext_1, C.ext3_0, C.ext3_1, C.ext3_2, C.guarded_yes, C.guarded_tf, C.guarded_ft, C.guarded_undef, Bool.not_true, Bool.not_false, Nat.zero_add, eq_self, decide_true, decide_false, show (false == true) = false from rfl, show (true == false) = false from rfl]
      exact nx w hf
    · simp only [C.ite_true, C.ite_false, C.pick_true, C.pick_false, C.not_bool, C.field_ptr, C.nilCheck_ptr, C.add_mk, C.sub_mk, C.mul_mk, C.eql_mk, C.neq_mk, C.lss_mk, C.leq_mk, C.gtr_mk, C.geq_mk, C.conv_mk, C.len_mk, C.ext_0, C.ext_1, C.ext3_0, C.ext3_1, C.ext3_2, C.guarded_yes, C.guarded_tf, C.guarded_ft, C.guarded_undef, Bool.not_true, Bool.not_false, Nat.zero_add, eq_self, decide_true, decide_false, Bool.and_self, Bool.not_true, Bool.not_false, Bool.and_true, Bool.and_false]
      refine D ?_
      simp only [C.ite_true, C.ite_false, C.pick_true, C.pick_false, C.not_bool, C.field_ptr, C.nilCheck_ptr, C.add_mk, C.sub_mk, C.mul_mk, C.eql_mk, C.neq_mk, C.lss_mk, C.leq_mk, C.gtr_mk, C.geq_mk, C.conv_mk, C.len_mk, C.ext_0, C.ext_1, C.ext3_0, C.ext3_1, C.ext3_2, C.guarded_yes, C.guarded_tf, C.guarded_ft, C.guarded_undef, Bool.not_true, Bool.not_false, Nat.zero_add, eq_self, decide_true, decide_false, hrd, h2]
      refine ⟨_, eq_bool _ _ _ _ Try.underlying4, ?_⟩
      simp only [C.ite_true, C.ite_false, C.pick_true, C.pick_false, C.not_bool, C.field_ptr, C.nilCheck_ptr, C.add_mk, C.sub_mk, C.mul_mk, C.eql_mk, C.neq_mk, C.lss_mk, C.leq_mk, C.gtr_mk, C.geq_mk, C.conv_mk, C.len_mk, C.ext_0, C.ext_1, C.ext3_0, C.ext3_1, C.ext3_2, C.guarded_yes, C.guarded_tf, C.guarded_ft, C.guarded_undef, Bool.not_true, Bool.not_false, Nat.zero_add, eq_self, decide_true, decide_false, show (false == true) = false from rfl, show (true == false) = false from rfl]
      exact nx w hf
    · have := hfr h1
      rw [h2] at this
      cases this
theorem RefsFalls_c {nv rv : Value} {G : Gr} (hG : IsG0 w nv rv G) (h : ∀ w', Fr [] w w' → K (.bool true) w') : C.call Try.prog 12 #[.agg #[nv, rv]] w K := by
  refine F12.sh (GBlk.new0 hG fun b w1 hf1 hb1 hb hG1 => alive35_c fun w2 hf2 => ?_)
  simp only [C.ite_true, C.ite_false, C.pick_true, C.pick_false, C.not_bool, C.field_ptr, C.nilCheck_ptr, C.add_mk, C.sub_mk, C.mul_mk, C.eql_mk, C.neq_mk, C.lss_mk, C.leq_mk, C.gtr_mk, C.geq_mk, C.conv_mk, C.len_mk, C.ext_0, C.ext_1, C.ext3_0, C.ext3_1, C.ext3_2, C.guarded_yes, C.guarded_tf, C.guarded_ft, C.guarded_undef, Bool.not_true, Bool.not_false, Nat.zero_add, eq_self, decide_true, decide_false]
  refine F12.k3.to ((hb.keep hf2 (by simp)).all (few35_c hG (hf1.trans hf2) fun nv' w3 hf3 hG3 => GBlk.set (hb.keep (hf2.trans hf3) (by simp)) (hG3.keep ((hf1.trans hf2).trans hf3)) fun w4 hu => ?_))
  have f04 : Fr [] w w4 := ((hf1.trans hf2).trans hf3).then hu.fr fun x hx => .inr (by simp only [List.mem_singleton] at hx; omega)
  have hG4 := hG3.keep f04
  have hb4 : GBlk w4 b 46 nv' rv := hu.at_
  generalize G.cut 20 = H at *
  have hfew := hG4.few
  refine hb4.next (hb4.roots ?_)
  have hbd : ∀ w', (Instr.build 52 #[(0, nv'), (1, rv)]).run Try.prog w' = .ok (.agg #[nv', rv]) w' := fun w' => by
    obtain ⟨A, c, B, d, rfl, rfl⟩ := hG4.slices
    exact build33 _ _ _ _ _ _
  refine C.run_of (hbd w4) (refDist_c hG4 fun dv w5 hf5 hn5 ho5 => C.draw_of (fun w' => Fr [] w4 w') fun w6 hf6 he6 => ⟨hf5.trans hf6, ?_⟩)
  have f6 := hf5.trans hf6
  simp only [and_true]
  refine C.loadAS_of (vs := [nv', rv]) (fun w' hw => ⟨_, _, _, hb4.keep hw (by simp), by simp, by simp⟩) (C.loadAS_of (vs := [nv', rv]) (fun w' hw => ⟨_, _, _, hb4.keep hw (by simp), by simp, by simp⟩) ?_)
  refine Falls_c (hG4.keep f6) fun fv w7 hf7 hn7 ho7 => ⟨f6.trans hf7, Leaks_c (hG4.keep (f6.trans hf7)) fun lv w8 hf8 hn8 ho8 => ⟨(f6.trans hf7).trans hf8, ?_⟩⟩
  have f8 := (f6.trans hf7).trans hf8
  exact rf_loop hfew (((ho5.keep hf6 (by simp)).keep hf7 (by simp)).keep hf8 (by simp)).rd (ho7.keep hf8 (by simp)).rd ho8.rd (fun w' hf' => h w' ((f04.trans f8).trans hf')) H.n 0 w8 (by omega) (Fr.refl _ _)
end
end Go.Proofs.YtfhgjncbhjjbfaaV
