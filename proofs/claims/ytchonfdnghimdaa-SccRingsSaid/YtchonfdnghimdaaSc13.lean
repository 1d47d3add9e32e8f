/- SccParts: the example; a few; the statement. -/
import Derived.Test.YtchonfdnghimdaaGrf
import Derived.Test.YtchonfdnghimdaaGLaw
namespace Go.Proofs.YtchonfdnghimdaaV
open Go Go.Proofs Go.RowKit
set_option linter.unusedVariables false
set_option linter.unusedSimpArgs false
set_option maxRecDepth 10000
def gA : Gr := ⟨[[1], [0], [0]], []⟩
def gB : Gr := ⟨[[1], []], []⟩
theorem gA_parts : gA.parts = [[0, 1], [2]] := by decide +kernel
theorem gA_rings : gA.ringL = [0, 1] := by decide +kernel
theorem gA_s1 : gA.same 0 1 = true := by decide +kernel
theorem gA_s2 : gA.same 0 2 = false := by decide +kernel
theorem gB_rings : gB.ringL = [] := by decide +kernel
theorem gB_topo : gB.topo = [0, 1] := by decide +kernel
section
variable {K : VK} {w : World}
theorem build1 (A : Option Addr) (n c : Nat) : (Instr.build 25 #[(0, .slice A n c)]).run Try.prog w = .ok (.agg #[.slice A n c, .slice none 0 0]) w := by kernel_rfl
theorem bsS2 (A B : Option Addr) (a b a' b' : Nat) : (Instr.buildSlice 22 2 #[(0, .slice A a a'), (1, .slice B b b')]).run Try.prog w = .ok (.slice (some ⟨w.heap.size, 0, none⟩) 2 2) (w.alloc (.cells #[.slice A a a', .slice B b b'] 23)) := by kernel_rfl
theorem RowsAt.nth {av : Value} {L : List (List Int)} {i : Nat} {r : List Int} (h : RowsAt w av L) (hi : L[i]? = some r) (hk : ∀ v, RdS w v 1 (intC r) → K v w) : C.idx 1 av (.int .i64 (i : Int)) w fun p w1 => C.load1 p w1 K := by
  obtain ⟨hl, e⟩ := List.getElem?_eq_some_iff.1 hi
  exact h.get hl fun v hv => hk v (by rw [← e]; exact hv)
theorem alive34_c (h : ∀ w', Fr [] w w' → K (.bool true) w') : C.call Try.prog 7 #[] w K := by
  refine F7.sh (C.litI fun s1 w1 hf1 hr1 => C.litI fun s2 w2 hf2 hr2 => C.litI fun s3 w3 hf3 hr3 => ?_)
  refine C.litS3 ((hr1.keep hf2).keep hf3) (hr2.keep hf3) hr3 fun nv w4 hf4 hn4 => ?_
  have hG : IsG w4 nv (.slice none 0 0) gA := ⟨hn4, (OwnS.nil w4 3 1).rd, by decide, by decide, by decide⟩
  obtain ⟨A, c, B, d, e1, e2⟩ := hG.slices
  have e0 := hG.cells
  have eo := hG.ones
  rw [e1]
  refine C.run_of (build1 A _ c) ?_
  rw [← e1]
  refine C.new_of fun b w5 hn5 => C.store_all (x := .agg #[nv, .slice none 0 0]) hn5.at_ (by rw [e0]; rfl) eo rfl fun w6 hu6 => ?_
  have i5 := hn5.is
  have f46 : Fr [] w4 w6 := hn5.fr.then hu6.fr fun z hz => .inr (by simp only [List.mem_singleton] at hz; omega)
  have hb : GBlk w6 b 25 nv (.slice none 0 0) := by
    have := hu6.at_
    rw [e0] at this
    exact this
  have hG6 := hG.keep f46
  have f6 := hf1.trans (hf2.trans (hf3.trans (hf4.trans f46)))
  refine hb.all (Parts_c hG6 fun pv w7 hf7 hP => hP.len ?_)
  rw [gA_parts] at hP ⊢
  rw [show (((([[0, 1], [2]] : List (List Nat)).map natI).length : Nat) : Int) = 2 from rfl]
  simp only [C.ite_true, C.ite_false, C.pick_true, C.pick_false, C.not_bool, C.field_ptr, C.nilCheck_ptr, C.add_mk, C.sub_mk, C.mul_mk, C.eql_mk, C.neq_mk, C.lss_mk, C.leq_mk, C.gtr_mk, C.geq_mk, C.conv_mk, C.len_mk, C.ext_0, C.ext_1, C.ext3_0, C.ext3_1, C.ext3_2, C.guarded_yes, C.guarded_tf, C.guarded_ft, C.guarded_undef, Bool.not_true, Bool.not_false, Nat.zero_add, eq_self, decide_true, decide_false]
  refine RowsAt.nth (i := 0) hP rfl fun x hx => C.litI2 fun y w8 hf8 hy => Ints_c (hx.keep hf8) hy fun w9 hf9 => ?_
  rw [show decide (natI [0, 1] = [0, 1]) = true by decide]
  simp only [C.ite_true, C.ite_false, C.pick_true, C.pick_false, C.not_bool, C.field_ptr, C.nilCheck_ptr, C.add_mk, C.sub_mk, C.mul_mk, C.eql_mk, C.neq_mk, C.lss_mk, C.leq_mk, C.gtr_mk, C.geq_mk, C.conv_mk, C.len_mk, C.ext_0, C.ext_1, C.ext3_0, C.ext3_1, C.ext3_2, C.guarded_yes, C.guarded_tf, C.guarded_ft, C.guarded_undef, Bool.not_true, Bool.not_false, Nat.zero_add, eq_self, decide_true, decide_false]
  have f79 := hf8.trans hf9
  refine RowsAt.nth (i := 1) (hP.keep f79) rfl fun x hx => C.litI fun y w10 hf10 hy => Ints_c (hx.keep hf10) hy fun w11 hf11 => ?_
  rw [show decide (natI [2] = [2]) = true by decide]
  simp only [C.ite_true, C.ite_false, C.pick_true, C.pick_false, C.not_bool, C.field_ptr, C.nilCheck_ptr, C.add_mk, C.sub_mk, C.mul_mk, C.eql_mk, C.neq_mk, C.lss_mk, C.leq_mk, C.gtr_mk, C.geq_mk, C.conv_mk, C.len_mk, C.ext_0, C.ext_1, C.ext3_0, C.ext3_1, C.ext3_2, C.guarded_yes, C.guarded_tf, C.guarded_ft, C.guarded_undef, Bool.not_true, Bool.not_false, Nat.zero_add, eq_self, decide_true, decide_false]
  have f611 := hf7.trans (f79.trans (hf10.trans hf11))
  refine (hb.keep f611 (by simp)).all (Rings_c (hG6.keep f611) fun rg w12 hf12 _ ho12 => C.litI2 fun y w13 hf13 hy => Ints_c (ho12.rd.keep hf13) hy fun w14 hf14 => ?_)
  rw [gA_rings, show decide (natI [0, 1] = [0, 1]) = true by decide]
  simp only [C.ite_true, C.ite_false, C.pick_true, C.pick_false, C.not_bool, C.field_ptr, C.nilCheck_ptr, C.add_mk, C.sub_mk, C.mul_mk, C.eql_mk, C.neq_mk, C.lss_mk, C.leq_mk, C.gtr_mk, C.geq_mk, C.conv_mk, C.len_mk, C.ext_0, C.ext_1, C.ext3_0, C.ext3_1, C.ext3_2, C.guarded_yes, C.guarded_tf, C.guarded_ft, C.guarded_undef, Bool.not_true, Bool.not_false, Nat.zero_add, eq_self, decide_true, decide_false]
  have f614 := f611.trans (hf12.trans (hf13.trans hf14))
  refine (hb.keep f614 (by simp)).all (Same_c (hG6.keep f614) fun w15 hf15 => ?_)
  rw [gA_s1]
  simp only [C.ite_true, C.ite_false, C.pick_true, C.pick_false, C.not_bool, C.field_ptr, C.nilCheck_ptr, C.add_mk, C.sub_mk, C.mul_mk, C.eql_mk, C.neq_mk, C.lss_mk, C.leq_mk, C.gtr_mk, C.geq_mk, C.conv_mk, C.len_mk, C.ext_0, C.ext_1, C.ext3_0, C.ext3_1, C.ext3_2, C.guarded_yes, C.guarded_tf, C.guarded_ft, C.guarded_undef, Bool.not_true, Bool.not_false, Nat.zero_add, eq_self, decide_true, decide_false]
  have f615 := f614.trans hf15
  refine (hb.keep f615 (by simp)).all (Same_c (hG6.keep f615) fun w16 hf16 => ?_)
  rw [gA_s2]
  simp only [C.ite_true, C.ite_false, C.pick_true, C.pick_false, C.not_bool, C.field_ptr, C.nilCheck_ptr, C.add_mk, C.sub_mk, C.mul_mk, C.eql_mk, C.neq_mk, C.lss_mk, C.leq_mk, C.gtr_mk, C.geq_mk, C.conv_mk, C.len_mk, C.ext_0, C.ext_1, C.ext3_0, C.ext3_1, C.ext3_2, C.guarded_yes, C.guarded_tf, C.guarded_ft, C.guarded_undef, Bool.not_true, Bool.not_false, Nat.zero_add, eq_self, decide_true, decide_false]
  have f616 := f615.trans hf16
  refine (hb.keep f616 (by simp)).all (Order_c (hG6.keep f616) (fun _ w17 hf17 => ?_) fun hz => by rw [gA_rings] at hz; cases hz)
  simp only [C.ite_true, C.ite_false, C.pick_true, C.pick_false, C.not_bool, C.field_ptr, C.nilCheck_ptr, C.add_mk, C.sub_mk, C.mul_mk, C.eql_mk, C.neq_mk, C.lss_mk, C.leq_mk, C.gtr_mk, C.geq_mk, C.conv_mk, C.len_mk, C.ext_0, C.ext_1, C.ext3_0, C.ext3_1, C.ext3_2, C.guarded_yes, C.guarded_tf, C.guarded_ft, C.guarded_undef, Bool.not_true, Bool.not_false, Nat.zero_add, eq_self, decide_true, decide_false, show ((0 : Nat) : Int) = 0 from rfl]
  have f617 := f616.trans hf17
  refine C.litI fun s4 w18 hf18 hr4 => ?_
  have hw19 := New.mk' w18 (.cells #[s4, .slice none 0 0] 23)
  have hr4' := hr4.keep hw19.fr
  obtain ⟨A4, c4, e4, _⟩ := id hr4
  have hR2 : RowsAt (w18.alloc (.cells #[s4, .slice none 0 0] 23)) (.slice (some ⟨w18.heap.size, 0, none⟩) 2 2) [[1], []] := by
    refine ⟨[s4, .slice none 0 0], RdS.of_block hw19.at_ rfl (by simp [slC]) (by simp) (by simp [slC]) (by simp [slC]), rfl, fun i h h' => ?_⟩
    match i with
    | 0 => exact hr4'
    | 1 => exact (OwnS.nil _ 3 1).rd
    | n + 2 => simp at h; omega
  have hGB : IsG (w18.alloc (.cells #[s4, .slice none 0 0] 23)) (.slice (some ⟨w18.heap.size, 0, none⟩) 2 2) (.slice none 0 0) gB := ⟨hR2, (OwnS.nil _ 3 1).rd, by decide, by decide, by decide⟩
  have hrun := bsS2 (w := w18) A4 none (intC [1]).length 0 c4 0
  rw [← e4] at hrun
  refine C.run_of hrun (C.run_of (build1 _ _ _) (Order_c hGB (fun hz => absurd gB_rings hz) fun _ v w20 hf20 ho20 _ => C.litI2 fun y w21 hf21 hy => Ints_c (ho20.rd.keep hf21) hy fun w22 hf22 => ?_))
  rw [gB_topo, show decide (natI [0, 1] = [0, 1]) = true by decide]
  try simp only [C.ite_true, C.ite_false, C.pick_true, C.pick_false, C.not_bool, C.field_ptr, C.nilCheck_ptr, C.add_mk, C.sub_mk, C.mul_mk, C.eql_mk, C.neq_mk, C.lss_mk, C.leq_mk, C.gtr_mk, C.geq_mk, C.conv_mk, C.len_mk, C.ext_0, C.ext_1, C.ext3_0, C.ext3_1, C.ext3_2, C.guarded_yes, C.guarded_tf, C.guarded_ft, C.guarded_undef, Bool.not_true, Bool.not_false, Nat.zero_add, eq_self, decide_true, decide_false]
  exact h w22 (f6.trans (f617.trans (hf18.trans (hw19.fr.trans (hf20.trans (hf21.trans hf22))))))
theorem few34_c {W0 : World} {nv rv : Value} {G : Gr} (hG : IsG0 W0 nv rv G) (hf0 : Fr [] W0 w) (h : ∀ nv' w', Fr [] w w' → IsG W0 nv' rv (G.cut 16) → K (.agg #[nv', rv]) w') : C.call Try.prog 8 #[.agg #[nv, rv]] w K := by
  refine F8.sh (GBlk.new0 (hG.keep hf0) fun b w1 hf1 hb1 hb hG1 => C.new_of fun b2 w2 hw2 => ?_)
  have hb2 := hb.keep hw2.fr (by simp)
  have e2 := hw2.is
  have e2' := hw2.sz
  have s1 := hf1.size
  have hl := hG.le
  have lb := lt_of_at hb
  have f2 := hf1.trans hw2.fr
  have fin : ∀ nv' w3, Fr [] w w3 → IsG W0 nv' rv (G.cut 16) → GBlk w3 b 25 nv' rv → w3.heap[b2]? = some (.cells #[.slice none 0 0, .slice none 0 0] 25 (0, 0)) → F8.k3 K (.pointer (some ⟨b, 0, none⟩)) (.pointer (some ⟨b2, 0, none⟩)) w3 := by
    intro nv' w3 f3 hG3 hb3 h23
    refine F8.k3.to (hb3.all (GBlk.set h23 (hG3.keep (hf0.trans f3)) fun w4 hu => C.loadA_all hu.at_ rfl ?_))
    have fr : Fr [] w w4 := f3.then hu.fr fun x hx => .inr (by simp only [List.mem_singleton] at hx; omega)
    exact h nv' w4 fr hG3
  have hG' := hG
  obtain ⟨A, c, B, d, rfl, rfl⟩ := hG.slices
  simp only [C.ite_true, C.ite_false, C.pick_true, C.pick_false, C.not_bool, C.field_ptr, C.nilCheck_ptr, C.add_mk, C.sub_mk, C.mul_mk, C.eql_mk, C.neq_mk, C.lss_mk, C.leq_mk, C.gtr_mk, C.geq_mk, C.conv_mk, C.len_mk, C.ext_0, C.ext_1, C.ext3_0, C.ext3_1, C.ext3_2, C.guarded_yes, C.guarded_tf, C.guarded_ft, C.guarded_undef, Bool.not_true, Bool.not_false, Nat.zero_add, eq_self, decide_true, decide_false]
  refine C.load1_of (v := .slice A G.n c) hb2 rfl ?_
  simp only [C.ite_true, C.ite_false, C.pick_true, C.pick_false, C.not_bool, C.field_ptr, C.nilCheck_ptr, C.add_mk, C.sub_mk, C.mul_mk, C.eql_mk, C.neq_mk, C.lss_mk, C.leq_mk, C.gtr_mk, C.geq_mk, C.conv_mk, C.len_mk, C.ext_0, C.ext_1, C.ext3_0, C.ext3_1, C.ext3_2, C.guarded_yes, C.guarded_tf, C.guarded_ft, C.guarded_undef, Bool.not_true, Bool.not_false, Nat.zero_add, eq_self, decide_true, decide_false]
  by_cases hc : (G.n : Int) > 16
  · simp only [C.ite_true, C.ite_false, C.pick_true, C.pick_false, C.not_bool, C.field_ptr, C.nilCheck_ptr, C.add_mk, C.sub_mk, C.mul_mk, C.eql_mk, C.neq_mk, C.lss_mk, C.leq_mk, C.gtr_mk, C.geq_mk, C.conv_mk, C.len_mk, C.ext_0, C.ext_1, C.ext3_0, C.ext3_1, C.ext3_2, C.guarded_yes, C.guarded_tf, C.guarded_ft, C.guarded_undef, Bool.not_true, Bool.not_false, Nat.zero_add, eq_self, decide_true, decide_false, hc]
    refine C.load1_of (v := .slice A G.n c) hb2 rfl ?_
    obtain ⟨vs, ⟨A', c', he, hle, _⟩, hvl, _⟩ := hG.next
    simp only [Value.slice.injEq] at he
    obtain ⟨rfl, he, rfl⟩ := he
    refine C.run_of (sliceTo_run (sz := 1) _ _ _ _ _ Try.underlying22 (by kernel_rfl) (by omega) (by omega)) ?_
    rw [show (16 : Int).toNat = 16 from rfl]
    try simp only [C.ite_true, C.ite_false, C.pick_true, C.pick_false, C.not_bool, C.field_ptr, C.nilCheck_ptr, C.add_mk, C.sub_mk, C.mul_mk, C.eql_mk, C.neq_mk, C.lss_mk, C.leq_mk, C.gtr_mk, C.geq_mk, C.conv_mk, C.len_mk, C.ext_0, C.ext_1, C.ext3_0, C.ext3_1, C.ext3_2, C.guarded_yes, C.guarded_tf, C.guarded_ft, C.guarded_undef, Bool.not_true, Bool.not_false, Nat.zero_add, eq_self, decide_true, decide_false]
    refine C.store1_of hb2 rfl rfl (by simp) fun w3 hu => ?_
    have fr : Fr [] w w3 := f2.then hu.fr fun x hx => .inr (by simp only [List.mem_singleton] at hx; omega)
    refine fin (.slice A 16 c) w3 fr ⟨hG'.next.take (by omega), hG'.roots, Nat.le_trans (cut_n _ _) (by omega), hG'.rlen, fun r hr => hG'.nlen r (List.mem_of_mem_take hr)⟩ hu.at_ (hu.fr.at_ hw2.at_ (by simp; omega))
  · simp only [C.ite_true, C.ite_false, C.pick_true, C.pick_false, C.not_bool, C.field_ptr, C.nilCheck_ptr, C.add_mk, C.sub_mk, C.mul_mk, C.eql_mk, C.neq_mk, C.lss_mk, C.leq_mk, C.gtr_mk, C.geq_mk, C.conv_mk, C.len_mk, C.ext_0, C.ext_1, C.ext3_0, C.ext3_1, C.ext3_2, C.guarded_yes, C.guarded_tf, C.guarded_ft, C.guarded_undef, Bool.not_true, Bool.not_false, Nat.zero_add, eq_self, decide_true, decide_false, hc]
    have e : G.cut 16 = G := cut_id (by omega)
    exact fin _ w2 f2 (by rw [e]; exact hG'.isG (by omega)) hb2 hw2.at_
theorem plain34_c {nv rv : Value} {G : Gr} (hG : IsG w nv rv G) (h : ∀ w', Fr [] w w' → K (.agg #[nv, rv]) w') : C.call Try.prog 10 #[.agg #[nv, rv]] w K := by
  refine F10.sh (GBlk.new hG fun b w1 hf1 _ hb hG1 => C.new_of fun b2 w2 hn2 => (hb.keep hn2.fr (by simp)).next ((hb.keep hn2.fr (by simp)).roots ?_))
  have hG2 := hG1.keep hn2.fr
  have i2 := hn2.is
  have hs := hG.slices
  obtain ⟨A, c, B, d, e1, e2⟩ := hs
  have hrun := bGr (w := w2) A G.n c B G.roots.length d
  rw [← e1, ← e2] at hrun
  refine C.run_of hrun (GBlk.set (e := 30) hn2.at_ hG2 fun w3 hu => C.loadA_all hu.at_ rfl ?_)
  have s1 := hf1.size
  exact h w3 ((hf1.trans hn2.fr).then hu.fr fun z hz => .inr (by simp only [List.mem_singleton] at hz; omega))
end
end Go.Proofs.YtchonfdnghimdaaV
