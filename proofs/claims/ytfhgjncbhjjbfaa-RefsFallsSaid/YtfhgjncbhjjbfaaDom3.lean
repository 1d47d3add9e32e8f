/- The statements of layer 36: what each call comes to. -/
import Derived.Test.YtfhgjncbhjjbfaaGrf
namespace Go.Proofs.YtfhgjncbhjjbfaaV
open Go Go.Proofs Go.RowKit
set_option linter.unusedVariables false
set_option linter.unusedSimpArgs false
set_option maxRecDepth 10000
def gA : Gr := ⟨[[1], [2], [], [2]], [0]⟩
theorem gA1 : gA.hd 1 2 = true := by decide +kernel
theorem gA2 : gA.hd 2 1 = false := by decide +kernel
theorem gA3 : gA.hd 3 2 = false := by decide +kernel
theorem gA4 : gA.holderL = [-1, 0, 1, -2] := by decide +kernel
theorem gA5 : (gA.hl 0).length = 3 := by decide +kernel
section
variable {K : VK} {w : World}
theorem alive36_c (h : ∀ w', Fr [] w w' → K (.bool true) w') : C.call Try.prog 23 #[] w K := by
  refine F23.sh (C.litI fun s1 w1 hf1 hr1 => C.litI fun s2 w2 hf2 hr2 => C.litI fun s4 w3 hf3 hr4 => ?_)
  refine C.litS4 ((hr1.keep hf2).keep hf3) (hr2.keep hf3) (OwnS.nil w3 3 1).rd hr4 (z := []) fun nv w4 hf4 hn4 => C.litI fun rv w5 hf5 hr5 => ?_
  have hG : IsG w5 nv rv gA := ⟨hn4.keep hf5, hr5, by decide, by decide, by decide⟩
  refine C.mkG hG fun b w6 hf6 hb6 hb hG6 => ?_
  have f06 : Fr [] w w6 := ((((hf1.trans hf2).trans hf3).trans hf4).trans hf5).trans hf6
  refine hb.all (Holds_c hG6 fun w7 hf7 => ?_)
  rw [gA1]
  simp only [C.ite_true, C.ite_false, C.pick_true, C.pick_false, C.not_bool, C.field_ptr, C.nilCheck_ptr, C.add_mk, C.sub_mk, C.mul_mk, C.eql_mk, C.neq_mk, C.lss_mk, C.leq_mk, C.gtr_mk, C.geq_mk, C.conv_mk, C.len_mk, C.ext_0, C.ext_1, C.ext3_0, C.ext3_1, C.ext3_2, C.guarded_yes, C.guarded_tf, C.guarded_ft, C.guarded_undef, Bool.not_true, Bool.not_false, Nat.zero_add, eq_self, decide_true, decide_false]
  refine (hb.keep hf7 (by simp)).all (Holds_c (hG6.keep hf7) fun w8 hf8 => ?_)
  have f68 := hf7.trans hf8
  rw [gA2]
  simp only [C.ite_true, C.ite_false, C.pick_true, C.pick_false, C.not_bool, C.field_ptr, C.nilCheck_ptr, C.add_mk, C.sub_mk, C.mul_mk, C.eql_mk, C.neq_mk, C.lss_mk, C.leq_mk, C.gtr_mk, C.geq_mk, C.conv_mk, C.len_mk, C.ext_0, C.ext_1, C.ext3_0, C.ext3_1, C.ext3_2, C.guarded_yes, C.guarded_tf, C.guarded_ft, C.guarded_undef, Bool.not_true, Bool.not_false, Nat.zero_add, eq_self, decide_true, decide_false]
  refine (hb.keep f68 (by simp)).all (Holds_c (hG6.keep f68) fun w9 hf9 => ?_)
  have f69 := f68.trans hf9
  rw [gA3]
  simp only [C.ite_true, C.ite_false, C.pick_true, C.pick_false, C.not_bool, C.field_ptr, C.nilCheck_ptr, C.add_mk, C.sub_mk, C.mul_mk, C.eql_mk, C.neq_mk, C.lss_mk, C.leq_mk, C.gtr_mk, C.geq_mk, C.conv_mk, C.len_mk, C.ext_0, C.ext_1, C.ext3_0, C.ext3_1, C.ext3_2, C.guarded_yes, C.guarded_tf, C.guarded_ft, C.guarded_undef, Bool.not_true, Bool.not_false, Nat.zero_add, eq_self, decide_true, decide_false]
  refine (hb.keep f69 (by simp)).all (Holder_c (hG6.keep f69) fun lv w10 hf10 hn10 ho10 => C.litI4 fun ev w11 hf11 hr11 => Ints_c (ho10.rd.keep hf11) hr11 fun w12 hf12 => ?_)
  have f612 := ((f69.trans hf10).trans hf11).trans hf12
  rw [decide_eq_true gA4]
  simp only [C.ite_true, C.ite_false, C.pick_true, C.pick_false, C.not_bool, C.field_ptr, C.nilCheck_ptr, C.add_mk, C.sub_mk, C.mul_mk, C.eql_mk, C.neq_mk, C.lss_mk, C.leq_mk, C.gtr_mk, C.geq_mk, C.conv_mk, C.len_mk, C.ext_0, C.ext_1, C.ext3_0, C.ext3_1, C.ext3_2, C.guarded_yes, C.guarded_tf, C.guarded_ft, C.guarded_undef, Bool.not_true, Bool.not_false, Nat.zero_add, eq_self, decide_true, decide_false]
  refine (hb.keep f612 (by simp)).all (Kept_c (hG6.keep f612) fun w13 hf13 => ?_)
  rw [gA5]
  simp only [C.ite_true, C.ite_false, C.pick_true, C.pick_false, C.not_bool, C.field_ptr, C.nilCheck_ptr, C.add_mk, C.sub_mk, C.mul_mk, C.eql_mk, C.neq_mk, C.lss_mk, C.leq_mk, C.gtr_mk, C.geq_mk, C.conv_mk, C.len_mk, C.ext_0, C.ext_1, C.ext3_0, C.ext3_1, C.ext3_2, C.guarded_yes, C.guarded_tf, C.guarded_ft, C.guarded_undef, Bool.not_true, Bool.not_false, Nat.zero_add, eq_self, decide_true, decide_false]
  exact h w13 ((f06.trans f612).trans hf13)
theorem few36_c {W0 : World} {nv rv : Value} {G : Gr} (hG : IsG0 W0 nv rv G) (hf0 : Fr [] W0 w) (h : ∀ nv' w', Fr [] w w' → IsG W0 nv' rv (G.cut 14) → K (.agg #[nv', rv]) w') : C.call Try.prog 24 #[.agg #[nv, rv]] w K := by
  refine F24.sh (GBlk.new0 (hG.keep hf0) fun b w1 hf1 hb1 hb hG1 => C.new_of fun b2 w2 hw2 => ?_)
  have hb2 := hb.keep hw2.fr (by simp)
  have e2 := hw2.is
  have e2' := hw2.sz
  have s1 := hf1.size
  have hl := hG.le
  have lb := lt_of_at hb
  have f2 := hf1.trans hw2.fr
  have fin : ∀ nv' w3, Fr [] w w3 → IsG W0 nv' rv (G.cut 14) → GBlk w3 b 46 nv' rv → w3.heap[b2]? = some (.cells #[.slice none 0 0, .slice none 0 0] 46 (0, 0)) → F24.k3 K (.pointer (some ⟨b, 0, none⟩)) (.pointer (some ⟨b2, 0, none⟩)) w3 := by
    intro nv' w3 f3 hG3 hb3 h23
    refine F24.k3.to (hb3.all (GBlk.set h23 (hG3.keep (hf0.trans f3)) fun w4 hu => C.loadA_all hu.at_ rfl ?_))
    have fr : Fr [] w w4 := f3.then hu.fr fun x hx => .inr (by simp only [List.mem_singleton] at hx; omega)
    exact h nv' w4 fr hG3
  have hG' := hG
  obtain ⟨A, c, B, d, rfl, rfl⟩ := hG.slices
  simp only [C.ite_true, C.ite_false, C.pick_true, C.pick_false, C.not_bool, C.field_ptr, C.nilCheck_ptr, C.add_mk, C.sub_mk, C.mul_mk, C.eql_mk, C.neq_mk, C.lss_mk, C.leq_mk, C.gtr_mk, C.geq_mk, C.conv_mk, C.len_mk, C.ext_0, C.ext_1, C.ext3_0, C.ext3_1, C.ext3_2, C.guarded_yes, C.guarded_tf, C.guarded_ft, C.guarded_undef, Bool.not_true, Bool.not_false, Nat.zero_add, eq_self, decide_true, decide_false]
  refine C.load1_of (v := .slice A G.n c) hb2 rfl ?_
  simp only [C.ite_true, C.ite_false, C.pick_true, C.pick_false, C.not_bool, C.field_ptr, C.nilCheck_ptr, C.add_mk, C.sub_mk, C.mul_mk, C.eql_mk, C.neq_mk, C.lss_mk, C.leq_mk, C.gtr_mk, C.geq_mk, C.conv_mk, C.len_mk, C.ext_0, C.ext_1, C.ext3_0, C.ext3_1, C.ext3_2, C.guarded_yes, C.guarded_tf, C.guarded_ft, C.guarded_undef, Bool.not_true, Bool.not_false, Nat.zero_add, eq_self, decide_true, decide_false]
  by_cases hc : (G.n : Int) > 14
  · simp only [C.ite_true, C.ite_false, C.pick_true, C.pick_false, C.not_bool, C.field_ptr, C.nilCheck_ptr, C.add_mk, C.sub_mk, C.mul_mk, C.eql_mk, C.neq_mk, C.lss_mk, C.leq_mk, C.gtr_mk, C.geq_mk, C.conv_mk, C.len_mk, C.ext_0, C.ext_1, C.ext3_0, C.ext3_1, C.ext3_2, C.guarded_yes, C.guarded_tf, C.guarded_ft, C.guarded_undef, Bool.not_true, Bool.not_false, Nat.zero_add, eq_self, decide_true, decide_false, hc]
    refine C.load1_of (v := .slice A G.n c) hb2 rfl ?_
    obtain ⟨vs, ⟨A', c', he, hle, _⟩, hvl, _⟩ := hG.next
    simp only [Value.slice.injEq] at he
    obtain ⟨rfl, he, rfl⟩ := he
    refine C.run_of (sliceTo_run (sz := 1) _ _ _ _ _ Try.underlying43 (by kernel_rfl) (by omega) (by omega)) ?_
    rw [show (14 : Int).toNat = 14 from rfl]
    try simp only [C.ite_true, C.ite_false, C.pick_true, C.pick_false, C.not_bool, C.field_ptr, C.nilCheck_ptr, C.add_mk, C.sub_mk, C.mul_mk, C.eql_mk, C.neq_mk, C.lss_mk, C.leq_mk, C.gtr_mk, C.geq_mk, C.conv_mk, C.len_mk, C.ext_0, C.ext_1, C.ext3_0, C.ext3_1, C.ext3_2, C.guarded_yes, C.guarded_tf, C.guarded_ft, C.guarded_undef, Bool.not_true, Bool.not_false, Nat.zero_add, eq_self, decide_true, decide_false]
    refine C.store1_of hb2 rfl rfl (by simp) fun w3 hu => ?_
    have fr : Fr [] w w3 := f2.then hu.fr fun x hx => .inr (by simp only [List.mem_singleton] at hx; omega)
    refine fin (.slice A 14 c) w3 fr ⟨hG'.next.take (by omega), hG'.roots, Nat.le_trans (cut_n _ _) (by omega), hG'.rlen, fun r hr => hG'.nlen r (List.mem_of_mem_take hr)⟩ hu.at_ (hu.fr.at_ hw2.at_ (by simp; omega))
  · simp only [C.ite_true, C.ite_false, C.pick_true, C.pick_false, C.not_bool, C.field_ptr, C.nilCheck_ptr, C.add_mk, C.sub_mk, C.mul_mk, C.eql_mk, C.neq_mk, C.lss_mk, C.leq_mk, C.gtr_mk, C.geq_mk, C.conv_mk, C.len_mk, C.ext_0, C.ext_1, C.ext3_0, C.ext3_1, C.ext3_2, C.guarded_yes, C.guarded_tf, C.guarded_ft, C.guarded_undef, Bool.not_true, Bool.not_false, Nat.zero_add, eq_self, decide_true, decide_false, hc]
    have e : G.cut 14 = G := cut_id (by omega)
    exact fin _ w2 f2 (by rw [e]; exact hG'.isG (by omega)) hb2 hw2.at_
theorem hl_count (G : Gr) (i : Int) : (G.hl i).length = ((List.range G.n).filter fun (k : Nat) => G.hd i (k : Int)).length := by
  unfold Gr.hl Gr.hd
  by_cases c : 0 ≤ i ∧ i < (G.n : Int)
  · rw [if_pos c]
    unfold Gr.heldN
    congr 1
    refine List.filter_congr fun k _ => ?_
    rw [decide_eq_true (by omega), Bool.true_and, Int.toNat_natCast]
  · rw [if_neg c]
    have : (List.range G.n).filter (fun (k : Nat) => decide (0 ≤ i ∧ 0 ≤ (k : Int)) && G.hold i.toNat ((k : Int).toNat)) = [] := by
      refine List.filter_eq_nil_iff.2 fun k _ e => ?_
      simp only [Bool.and_eq_true, decide_eq_true_eq] at e
      have := (hold_iff.1 e.2).1
      omega
    rw [this]
theorem tells_end {W1 : World} {G : Gr} {b : Nat} {nv rv : Value} {i j : Int} (hG : IsG W1 nv rv G) (hb : GBlk W1 b 46 nv rv) (hf : Fr [] W1 w) (h : ∀ w', Fr [] W1 w' → K (.bool true) w') :
    F6.k10 K (.int .i64 i) (.int .i64 j) (.pointer (some ⟨b, 0, none⟩)) (.int .i64 (((List.range G.n).filter fun (k : Nat) => G.hd i (k : Int)).length : Int)) w := by
  refine F6.k10.to (C.draw_of (fun w' => Fr [] W1 w') fun w1 hf1 he1 => ⟨hf.trans hf1, ?_⟩)
  have f1 := hf.trans hf1
  simp only [and_true]
  refine C.loadAS_of (vs := [nv, rv]) (fun w' hw => ⟨_, _, _, hb.keep hw (by simp), by simp, by simp⟩) ?_
  refine C.loadAS_of (vs := [nv, rv]) (fun w' hw => ⟨_, _, _, hb.keep hw (by simp), by simp, by simp⟩) ?_
  refine Holds_c (hG.keep f1) fun w2 hf2 => ⟨f1.trans hf2, holds36_c (hG.keep (f1.trans hf2)) fun w3 hf3 => ⟨(f1.trans hf2).trans hf3, _, fun w' _ => eq_bool _ _ _ _ Try.underlying4, ?_⟩⟩
  have f3 := (f1.trans hf2).trans hf3
  simp only [C.ite_true, C.ite_false, C.pick_true, C.pick_false, C.not_bool, C.field_ptr, C.nilCheck_ptr, C.add_mk, C.sub_mk, C.mul_mk, C.eql_mk, C.neq_mk, C.lss_mk, C.leq_mk, C.gtr_mk, C.geq_mk, C.conv_mk, C.len_mk, C.ext_0, C.ext_1, C.ext3_0, C.ext3_1, C.ext3_2, C.guarded_yes, C.guarded_tf, C.guarded_ft, C.guarded_undef, Bool.not_true, Bool.not_false, Nat.zero_add, eq_self, decide_true, decide_false, beq_self_eq_true]
  refine C.loadAS_of (vs := [nv, rv]) (fun w' hw => ⟨_, _, _, hb.keep hw (by simp), by simp, by simp⟩) ?_
  refine Kept_c (hG.keep f3) fun w4 hf4 => ⟨f3.trans hf4, ?_⟩
  rw [hl_count]
  simp only [C.ite_true, C.ite_false, C.pick_true, C.pick_false, C.not_bool, C.field_ptr, C.nilCheck_ptr, C.add_mk, C.sub_mk, C.mul_mk, C.eql_mk, C.neq_mk, C.lss_mk, C.leq_mk, C.gtr_mk, C.geq_mk, C.conv_mk, C.len_mk, C.ext_0, C.ext_1, C.ext3_0, C.ext3_1, C.ext3_2, C.guarded_yes, C.guarded_tf, C.guarded_ft, C.guarded_undef, Bool.not_true, Bool.not_false, Nat.zero_add, eq_self, decide_true, decide_false]
  exact h w4 (f3.trans hf4)
theorem tells_loop {W1 : World} {G : Gr} {b : Nat} {nv rv : Value} {i j : Int} (hG : IsG W1 nv rv G) (hb : GBlk W1 b 46 nv rv) (h : ∀ w', Fr [] W1 w' → K (.bool true) w') :
    ∀ (d k : Nat) (w : World), G.n = k + d → Fr [] W1 w → F6.l6 K (.int .i64 i) (.int .i64 j) (.pointer (some ⟨b, 0, none⟩)) (.int .i64 (((List.range k).filter fun (k : Nat) => G.hd i (k : Int)).length : Int)) (.int .i64 (k : Int)) w := by
  have hfew := hG.few
  intro d
  induction d with
  | zero =>
    intro k w hk hf
    refine F6.l6.to ((hb.keep hf (by simp)).next ((hG.keep hf).len_next ?_))
    simp only [C.ite_true, C.ite_false, C.pick_true, C.pick_false, C.not_bool, C.field_ptr, C.nilCheck_ptr, C.add_mk, C.sub_mk, C.mul_mk, C.eql_mk, C.neq_mk, C.lss_mk, C.leq_mk, C.gtr_mk, C.geq_mk, C.conv_mk, C.len_mk, C.ext_0, C.ext_1, C.ext3_0, C.ext3_1, C.ext3_2, C.guarded_yes, C.guarded_tf, C.guarded_ft, C.guarded_undef, Bool.not_true, Bool.not_false, Nat.zero_add, eq_self, decide_true, decide_false, show ¬ ((k : Int) < (G.n : Int)) by omega]
    obtain rfl : k = G.n := by omega
    exact tells_end hG hb hf h
  | succ d ih =>
    intro k w hk hf
    have hs := filter_range_succ (fun (k : Nat) => G.hd i (k : Int)) k
    have hle : ((List.range k).filter fun (k : Nat) => G.hd i (k : Int)).length ≤ k := Nat.le_trans (List.length_filter_le _ _) (by simp)
    refine F6.l6.to ((hb.keep hf (by simp)).next ((hG.keep hf).len_next ?_))
    simp only [C.ite_true, C.ite_false, C.pick_true, C.pick_false, C.not_bool, C.field_ptr, C.nilCheck_ptr, C.add_mk, C.sub_mk, C.mul_mk, C.eql_mk, C.neq_mk, C.lss_mk, C.leq_mk, C.gtr_mk, C.geq_mk, C.conv_mk, C.len_mk, C.ext_0, C.ext_1, C.ext3_0, C.ext3_1, C.ext3_2, C.guarded_yes, C.guarded_tf, C.guarded_ft, C.guarded_undef, Bool.not_true, Bool.not_false, Nat.zero_add, eq_self, decide_true, decide_false, show ((k : Int) < (G.n : Int)) by omega]
    refine F6.k8.to ((hb.keep hf (by simp)).all (holds36_c (hG.keep hf) fun w1 hf1 => ?_))
    have nx : ∀ m : Nat, m = ((List.range (k + 1)).filter fun (k : Nat) => G.hd i (k : Int)).length → F6.k7 K (.int .i64 i) (.int .i64 j) (.pointer (some ⟨b, 0, none⟩)) (.int .i64 (m : Int)) (.int .i64 (k : Int)) w1 := by
      intro m hm
      subst hm
      refine F6.k7.to ?_
      simp only [C.ite_true, C.ite_false, C.pick_true, C.pick_false, C.not_bool, C.field_ptr, C.nilCheck_ptr, C.add_mk, C.sub_mk, C.mul_mk, C.eql_mk, C.neq_mk, C.lss_mk, C.leq_mk, C.gtr_mk, C.geq_mk, C.conv_mk, C.len_mk, C.ext_0, C.ext_1, C.ext3_0, C.ext3_1, C.ext3_2, C.guarded_yes, C.guarded_tf, C.guarded_ft, C.guarded_undef, Bool.not_true, Bool.not_false, Nat.zero_add, eq_self, decide_true, decide_false]
      rw [wrap64_id (n := (k : Int) + 1) (by omega), show (k : Int) + 1 = ((k + 1 : Nat) : Int) by omega]
      exact ih (k + 1) w1 (by omega) (hf.trans hf1)
    cases hh : G.hd i (k : Int) with
    | true =>
      simp only [C.ite_true, C.ite_false, C.pick_true, C.pick_false, C.not_bool, C.field_ptr, C.nilCheck_ptr, C.add_mk, C.sub_mk, C.mul_mk, C.eql_mk, C.neq_mk, C.lss_mk, C.leq_mk, C.gtr_mk, C.geq_mk, C.conv_mk, C.len_mk, C.ext_0, C.ext_1, C.ext3_0, C.ext3_1, C.ext3_2, C.guarded_yes, C.guarded_tf, C.guarded_ft, C.guarded_undef, Bool.not_true, Bool.not_false, Nat.zero_add, eq_self, decide_true, decide_false]
      rw [wrap64_id (by omega), show ∀ m : Nat, (m : Int) + 1 = ((m + 1 : Nat) : Int) from fun m => by omega]
      refine nx _ ?_
      rw [hs, if_pos hh, List.length_append]
      rfl
    | false =>
      simp only [C.ite_true, C.ite_false, C.pick_true, C.pick_false, C.not_bool, C.field_ptr, C.nilCheck_ptr, C.add_mk, C.sub_mk, C.mul_mk, C.eql_mk, C.neq_mk, C.lss_mk, C.leq_mk, C.gtr_mk, C.geq_mk, C.conv_mk, C.len_mk, C.ext_0, C.ext_1, C.ext3_0, C.ext3_1, C.ext3_2, C.guarded_yes, C.guarded_tf, C.guarded_ft, C.guarded_undef, Bool.not_true, Bool.not_false, Nat.zero_add, eq_self, decide_true, decide_false]
      refine nx _ ?_
      rw [hs, if_neg (by rw [hh]; simp), List.append_nil]
theorem DomTells_c {nv rv : Value} {G : Gr} {i j : Int} (hG : IsG0 w nv rv G) (h : ∀ w', Fr [] w w' → K (.bool true) w') : C.call Try.prog 6 #[.agg #[nv, rv], .int .i64 i, .int .i64 j] w K := by
  refine F6.sh (GBlk.new0 hG fun b w1 hf1 hb1 hb hG1 => alive36_c fun w2 hf2 => ?_)
  simp only [C.ite_true, C.ite_false, C.pick_true, C.pick_false, C.not_bool, C.field_ptr, C.nilCheck_ptr, C.add_mk, C.sub_mk, C.mul_mk, C.eql_mk, C.neq_mk, C.lss_mk, C.leq_mk, C.gtr_mk, C.geq_mk, C.conv_mk, C.len_mk, C.ext_0, C.ext_1, C.ext3_0, C.ext3_1, C.ext3_2, C.guarded_yes, C.guarded_tf, C.guarded_ft, C.guarded_undef, Bool.not_true, Bool.not_false, Nat.zero_add, eq_self, decide_true, decide_false]
  refine F6.k3.to ((hb.keep hf2 (by simp)).all (few36_c hG (hf1.trans hf2) fun nv' w3 hf3 hG3 => GBlk.set (hb.keep (hf2.trans hf3) (by simp)) (hG3.keep ((hf1.trans hf2).trans hf3)) fun w4 hu => ?_))
  have f04 : Fr [] w w4 := ((hf1.trans hf2).trans hf3).then hu.fr fun x hx => .inr (by simp only [List.mem_singleton] at hx; omega)
  exact tells_loop (hG3.keep f04) hu.at_ (fun w' hf' => h w' (f04.trans hf')) (G.cut 14).n 0 w4 (by omega) (Fr.refl _ _)
/-! ### Chains -/
theorem hd_total {G : Gr} {i j k : Int} (h1 : G.hd i k = true) (h2 : G.hd j k = true) : G.hd i j = true ∨ G.hd j i = true := by
  unfold Gr.hd at *
  simp only [Bool.and_eq_true, decide_eq_true_eq] at *
  rcases hold_total h1.2 h2.2 with c | c
  · exact .inl ⟨by omega, c⟩
  · exact .inr ⟨by omega, c⟩
theorem hd_trans {G : Gr} {i j k : Int} (h1 : G.hd i j = true) (h2 : G.hd j k = true) : G.hd i k = true := by
  unfold Gr.hd at *
  simp only [Bool.and_eq_true, decide_eq_true_eq] at *
  exact ⟨by omega, hold_trans h1.2 h2.2⟩
theorem hd_antisymm {G : Gr} {i j : Int} (h1 : G.hd i j = true) (h2 : G.hd j i = true) : i = j := by
  unfold Gr.hd at *
  simp only [Bool.and_eq_true, decide_eq_true_eq] at *
  have := hold_antisymm h1.2 h2.2
  omega
theorem chains_end {W1 : World} {G : Gr} {b : Nat} {nv rv : Value} {i : Int} (hG : IsG W1 nv rv G) (hb : GBlk W1 b 46 nv rv) (hf : Fr [] W1 w) (h : ∀ w', Fr [] W1 w' → K (.bool true) w') :
    F8.k7 K (.int .i64 i) (.pointer (some ⟨b, 0, none⟩)) w := by
  refine F8.k7.to ((hb.keep hf (by simp)).next ((hG.keep hf).len_next ((hb.keep hf (by simp)).all (plain36_c (hG.keep hf) fun w1 hf1 hG1 => refDist_c hG1 fun dv w2 hf2 hn2 ho2 => ?_))))
  have f2 := (hf.trans hf1).trans hf2
  refine C.draw_of (fun w' => Fr [] W1 w' ∧ OwnS w' dv 3 1 (intC G.distL)) fun w3 hf3 he3 => ⟨⟨f2.trans hf3, ho2.keep hf3 (by simp)⟩, ?_⟩
  have f3 := f2.trans hf3
  have ho3 := ho2.keep hf3 (by simp)
  by_cases h0 : i < 0
  · simp only [C.ite_true, C.ite_false, C.pick_true, C.pick_false, C.not_bool, C.field_ptr, C.nilCheck_ptr, C.add_mk, C.sub_mk, C.mul_mk, C.eql_mk, C.neq_mk, C.lss_mk, C.leq_mk, C.gtr_mk, C.geq_mk, C.conv_mk, C.len_mk, C.ext_0, C.ext_1, C.ext3_0, C.ext3_1, C.ext3_2, C.guarded_yes, C.guarded_tf, C.guarded_ft, C.guarded_undef, Bool.not_true, Bool.not_false, Nat.zero_add, eq_self, decide_true, decide_false, h0, and_true]
    exact ⟨⟨f3, ho3⟩, h w3 f3⟩
  by_cases h1 : i ≥ (G.n : Int)
  · simp only [C.ite_true, C.ite_false, C.pick_true, C.pick_false, C.not_bool, C.field_ptr, C.nilCheck_ptr, C.add_mk, C.sub_mk, C.mul_mk, C.eql_mk, C.neq_mk, C.lss_mk, C.leq_mk, C.gtr_mk, C.geq_mk, C.conv_mk, C.len_mk, C.ext_0, C.ext_1, C.ext3_0, C.ext3_1, C.ext3_2, C.guarded_yes, C.guarded_tf, C.guarded_ft, C.guarded_undef, Bool.not_true, Bool.not_false, Nat.zero_add, eq_self, decide_true, decide_false, h0, h1, and_true]
    exact ⟨⟨f3, ho3⟩, h w3 f3⟩
  obtain ⟨m, rfl⟩ : ∃ m : Nat, i = (m : Int) := ⟨i.toNat, by omega⟩
  have hm : m < G.n := by omega
  simp only [C.ite_true, C.ite_false, C.pick_true, C.pick_false, C.not_bool, C.field_ptr, C.nilCheck_ptr, C.add_mk, C.sub_mk, C.mul_mk, C.eql_mk, C.neq_mk, C.lss_mk, C.leq_mk, C.gtr_mk, C.geq_mk, C.conv_mk, C.len_mk, C.ext_0, C.ext_1, C.ext3_0, C.ext3_1, C.ext3_2, C.guarded_yes, C.guarded_tf, C.guarded_ft, C.guarded_undef, Bool.not_true, Bool.not_false, Nat.zero_add, eq_self, decide_true, decide_false, h0, h1, and_true]
  refine C.idx_intS (S := fun w' => Fr [] W1 w' ∧ OwnS w' dv 3 1 (intC G.distL)) (fun w' hw => hw.2.rd) ⟨f3, ho3⟩ (by rw [distL_len]; exact hm) fun g o hs => ?_
  refine C.loadAS_of (vs := [nv, rv]) (fun w' hw => ⟨_, _, _, hb.keep hw.1 (by simp), by simp, by simp⟩) ?_
  refine C.load1S_of hs ?_
  rw [distL_get]
  simp only [C.ite_true, C.ite_false, C.pick_true, C.pick_false, C.not_bool, C.field_ptr, C.nilCheck_ptr, C.add_mk, C.sub_mk, C.mul_mk, C.eql_mk, C.neq_mk, C.lss_mk, C.leq_mk, C.gtr_mk, C.geq_mk, C.conv_mk, C.len_mk, C.ext_0, C.ext_1, C.ext3_0, C.ext3_1, C.ext3_2, C.guarded_yes, C.guarded_tf, C.guarded_ft, C.guarded_undef, Bool.not_true, Bool.not_false, Nat.zero_add, eq_self, decide_true, decide_false]
  refine Holds_c (hG.keep f3) fun w4 hf4 => ⟨⟨f3.trans hf4, ho3.keep hf4 (by simp)⟩, _, fun w' _ => eq_bool _ _ _ _ Try.underlying4, ?_⟩
  have e : G.hd (m : Int) (m : Int) = decide (G.dst m ≥ 0) := by
    unfold Gr.hd
    rw [Int.toNat_natCast, hold_self hm, decide_eq_true (by omega), Bool.true_and]
    rfl
  rw [e, beq_self_eq_true]
  try simp only [C.ite_true, C.ite_false, C.pick_true, C.pick_false, C.not_bool, C.field_ptr, C.nilCheck_ptr, C.add_mk, C.sub_mk, C.mul_mk, C.eql_mk, C.neq_mk, C.lss_mk, C.leq_mk, C.gtr_mk, C.geq_mk, C.conv_mk, C.len_mk, C.ext_0, C.ext_1, C.ext3_0, C.ext3_1, C.ext3_2, C.guarded_yes, C.guarded_tf, C.guarded_ft, C.guarded_undef, Bool.not_true, Bool.not_false, Nat.zero_add, eq_self, decide_true, decide_false]
  exact h w4 (f3.trans hf4)
theorem DomChains_c {nv rv : Value} {G : Gr} {i j k : Int} (hG : IsG0 w nv rv G) (h : ∀ w', Fr [] w w' → K (.bool true) w') : C.call Try.prog 8 #[.agg #[nv, rv], .int .i64 i, .int .i64 j, .int .i64 k] w K := by
  refine F8.sh (GBlk.new0 hG fun b w1 hf1 hb1 hb hG1 => alive36_c fun w2 hf2 => ?_)
  simp only [C.ite_true, C.ite_false, C.pick_true, C.pick_false, C.not_bool, C.field_ptr, C.nilCheck_ptr, C.add_mk, C.sub_mk, C.mul_mk, C.eql_mk, C.neq_mk, C.lss_mk, C.leq_mk, C.gtr_mk, C.geq_mk, C.conv_mk, C.len_mk, C.ext_0, C.ext_1, C.ext3_0, C.ext3_1, C.ext3_2, C.guarded_yes, C.guarded_tf, C.guarded_ft, C.guarded_undef, Bool.not_true, Bool.not_false, Nat.zero_add, eq_self, decide_true, decide_false]
  refine F8.k3.to ((hb.keep hf2 (by simp)).all (few36_c hG (hf1.trans hf2) fun nv' w3 hf3 hG3 => GBlk.set (hb.keep (hf2.trans hf3) (by simp)) (hG3.keep ((hf1.trans hf2).trans hf3)) fun w4 hu => ?_))
  have f04 : Fr [] w w4 := ((hf1.trans hf2).trans hf3).then hu.fr fun x hx => .inr (by simp only [List.mem_singleton] at hx; omega)
  have hG4 := hG3.keep f04
  have hb4 : GBlk w4 b 46 nv' rv := hu.at_
  generalize G.cut 14 = H at *
  have fin : ∀ w', Fr [] w4 w' → F8.k7 K (.int .i64 i) (.pointer (some ⟨b, 0, none⟩)) w' := fun w' hf => chains_end hG4 hb4 hf fun w'' hf'' => h w'' (f04.trans hf'')
  refine C.draw_of (fun w' => Fr [] w4 w') fun w5 hf5 he5 => ⟨hf5, ?_⟩
  simp only [and_true]
  refine C.loadAS_of (vs := [nv', rv]) (fun w' hw => ⟨_, _, _, hb4.keep hw (by simp), by simp, by simp⟩) ?_
  refine C.loadAS_of (vs := [nv', rv]) (fun w' hw => ⟨_, _, _, hb4.keep hw (by simp), by simp, by simp⟩) ?_
  refine C.loadAS_of (vs := [nv', rv]) (fun w' hw => ⟨_, _, _, hb4.keep hw (by simp), by simp, by simp⟩) ?_
  refine Holds_c (hG4.keep hf5) fun w6 hf6 => ⟨hf5.trans hf6, Holds_c (hG4.keep (hf5.trans hf6)) fun w7 hf7 => ⟨(hf5.trans hf6).trans hf7, Holds_c (hG4.keep ((hf5.trans hf6).trans hf7)) fun w8 hf8 => ?_⟩⟩
  have f8 := ((hf5.trans hf6).trans hf7).trans hf8
  refine ⟨f8, ?_⟩
  have t1 := @hd_total H i j k
  have t2 := @hd_trans H i j k
  have t3 := @hd_antisymm H i j
  have blk : (H.hd i j = true) → C.loadA 2 (.pointer (some ⟨b, 0, none⟩)) w8 fun x58 w33 => C.call Try.prog 26 #[x58, .int .i64 j, .int .i64 i] w33 fun x63 w38 => C.guarded true x63 (fun K => K (.int .i64 i) w38) w38 fun x64 w39 => C.guarded true x63 (fun K => K (.int .i64 j) w39) w39 fun x65 w40 =>
      C.guarded true x63 (fun K => C.int .neq x64 x65 w40 K) w40 fun x66 w41 => C.pick (some x63) (some x66) (some (.bool false)) w41 fun x68 w43 => C.ite x68 (K (.bool false) w43) (F8.k7 K (.int .i64 i) (.pointer (some ⟨b, 0, none⟩)) w43) := by
    intro hc
    refine (hb4.keep f8 (by simp)).all (Holds_c (hG4.keep f8) fun w9 hf9 => ?_)
    cases hd : H.hd j i with
    | false =>
      simp only [C.ite_true, C.ite_false, C.pick_true, C.pick_false, C.not_bool, C.field_ptr, C.nilCheck_ptr, C.add_mk, C.sub_mk, C.mul_mk, C.eql_mk, C.neq_mk, C.lss_mk, C.leq_mk, C.gtr_mk, C.geq_mk, C.conv_mk, C.len_mk, C.ext_0, C.ext_1, C.ext3_0, C.ext3_1, C.ext3_2, C.guarded_yes, C.guarded_tf, C.guarded_ft, C.guarded_undef, Bool.not_true, Bool.not_false, Nat.zero_add, eq_self, decide_true, decide_false]
      exact fin w9 (f8.trans hf9)
    | true =>
      have e : ¬ (i ≠ j) := fun c => c (t3 hc hd)
      simp only [C.ite_true, C.ite_false, C.pick_true, C.pick_false, C.not_bool, C.field_ptr, C.nilCheck_ptr, C.add_mk, C.sub_mk, C.mul_mk, C.eql_mk, C.neq_mk, C.lss_mk, C.leq_mk, C.gtr_mk, C.geq_mk, C.conv_mk, C.len_mk, C.ext_0, C.ext_1, C.ext3_0, C.ext3_1, C.ext3_2, C.guarded_yes, C.guarded_tf, C.guarded_ft, C.guarded_undef, Bool.not_true, Bool.not_false, Nat.zero_add, eq_self, decide_true, decide_false, e]
      exact fin w9 (f8.trans hf9)
  cases ha : H.hd i k <;> cases hb' : H.hd j k <;> cases hc : H.hd i j <;> rw [ha, hb', hc] at t1 <;> rw [ha, hb', hc] at t2 <;> simp only [C.ite_true, C.ite_false, C.pick_true, C.pick_false, C.not_bool, C.field_ptr, C.nilCheck_ptr, C.add_mk, C.sub_mk, C.mul_mk, C.eql_mk, C.neq_mk, C.lss_mk, C.leq_mk, C.gtr_mk, C.geq_mk, C.conv_mk, C.len_mk, C.ext_0, C.ext_1, C.ext3_0, C.ext3_1, C.ext3_2, C.guarded_yes, C.guarded_tf, C.guarded_ft, C.guarded_undef, Bool.not_true, Bool.not_false, Nat.zero_add, eq_self, decide_true, decide_false]
  · exact fin w8 f8
  · exact blk hc
  · exact fin w8 f8
  · exact absurd (t2 rfl rfl) (by simp)
  · exact fin w8 f8
  · exact blk hc
  · refine (hb4.keep f8 (by simp)).all (Holds_c (hG4.keep f8) fun w9 hf9 => ?_)
    have hd : H.hd j i = true := (t1 rfl rfl).resolve_left (by simp)
    rw [hd]
    simp only [C.ite_true, C.ite_false, C.pick_true, C.pick_false, C.not_bool, C.field_ptr, C.nilCheck_ptr, C.add_mk, C.sub_mk, C.mul_mk, C.eql_mk, C.neq_mk, C.lss_mk, C.leq_mk, C.gtr_mk, C.geq_mk, C.conv_mk, C.len_mk, C.ext_0, C.ext_1, C.ext3_0, C.ext3_1, C.ext3_2, C.guarded_yes, C.guarded_tf, C.guarded_ft, C.guarded_undef, Bool.not_true, Bool.not_false, Nat.zero_add, eq_self, decide_true, decide_false]
    exact fin w9 (f8.trans hf9)
  · exact blk hc
end
end Go.Proofs.YtfhgjncbhjjbfaaV
