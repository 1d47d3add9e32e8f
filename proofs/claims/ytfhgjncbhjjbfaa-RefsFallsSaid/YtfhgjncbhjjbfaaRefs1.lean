/- Each edge that leads to a node: what the call comes to. -/
import Derived.Test.YtfhgjncbhjjbfaaDom3
import Derived.Test.YtfhgjncbhjjbfaaGRefs
import Derived.Lib.AppendZeros
namespace Go.Proofs.YtfhgjncbhjjbfaaV
open Go Go.Proofs Go.RowKit
set_option linter.unusedVariables false
set_option linter.unusedSimpArgs false
set_option maxRecDepth 10000
/-! ### Truths in a list -/
def boolC (l : List Bool) : List (List Value) := l.map fun b => [.bool b]
theorem boolC_len (l : List Bool) : (boolC l).length = l.length := by simp [boolC]
theorem boolC_get {l : List Bool} {j : Nat} (h : j < l.length) : (boolC l)[j]? = some [.bool l[j]] := by simp [boolC, h]
theorem boolC_set (l : List Bool) (j : Nat) (b : Bool) : (boolC l).set j [.bool b] = boolC (l.set j b) := by simp [boolC, List.map_set]
theorem boolC_rep (n : Nat) (b : Bool) : boolC (List.replicate n b) = List.replicate n [.bool b] := by simp [boolC]
/-- The edges and roots that lead to nodes, one behind the other. -/
def Gr.nod (G : Gr) (l : List Int) : List Int := l.filter fun k => decide (0 ≤ k ∧ k < (G.n : Int))
def Gr.flat (G : Gr) : List Int := G.nod (G.roots :: G.next).flatten
theorem RdS.same {w w' : World} {v : Value} {sz : Nat} {xs : List (List Value)} (h : RdS w v sz xs) (hs : ∀ g ∈ blkS v, w'.heap[g]? = w.heap[g]?) : RdS w' v sz xs := by
  obtain ⟨A, c, rfl, h1, h2, h3⟩ := h
  refine ⟨A, c, rfl, h1, h2, fun hx => ?_⟩
  obtain ⟨g, o, cs, e, fz, rfl, hg, hc⟩ := h3 hx
  exact ⟨g, o, cs, e, fz, rfl, by rw [hs g (mem_blkS.2 rfl)]; exact hg, hc⟩
theorem nod_app (G : Gr) (a b : List Int) : G.nod (a ++ b) = G.nod a ++ G.nod b := List.filter_append ..
theorem nod_one {G : Gr} {k : Int} : G.nod [k] = if 0 ≤ k ∧ k < (G.n : Int) then [k] else [] := by
  unfold Gr.nod
  by_cases c : 0 ≤ k ∧ k < (G.n : Int)
  · rw [if_pos c]; simp [c]
  · rw [if_neg c]; simp only [List.filter_cons, List.filter_nil, decide_eq_true_eq, c, if_false]
section
variable {K : VK} {w : World}
theorem C.idx_bool {v : Value} {l : List Bool} {i : Nat} (h : RdS w v 1 (boolC l)) (hi : i < l.length) (hk : ∀ g o cs e fz, w.heap[g]? = some (.cells cs e fz) → cs[o]? = some (.bool l[i]) → K (.pointer (some ⟨g, o, none⟩)) w) :
    C.idx 1 v (.int .i64 (i : Int)) w K := by
  refine C.idx_rd h (by omega) (by rw [Int.toNat_natCast]; exact boolC_get hi) fun g o cs e fz hg _ hc => hk g o cs e fz hg ?_
  have := hc 0 (by omega)
  simpa using this
/-- slices.Grow of nothing. -/
theorem Grow_c {n : Nat} (h0 : 0 < n) (hn : n ≤ 1001) (h : ∀ v w', Fr [] w w' → OwnS w' v 44 1 [] → NewS w v → K v w') : C.call Try.prog 109 #[.slice none 0 0, .int .i64 (n : Int)] w K := by
  refine F109.sh ?_
  simp only [C.ite_true, C.ite_false, C.pick_true, C.pick_false, C.not_bool, C.field_ptr, C.nilCheck_ptr, C.add_mk, C.sub_mk, C.mul_mk, C.eql_mk, C.neq_mk, C.lss_mk, C.leq_mk, C.gtr_mk, C.geq_mk, C.conv_mk, C.len_mk, C.ext_0, C.ext_1, C.ext3_0, C.ext3_1, C.ext3_2, C.guarded_yes, C.guarded_tf, C.guarded_ft, C.guarded_undef, Bool.not_true, Bool.not_false, Nat.zero_add, eq_self, decide_true, decide_false, show ¬ ((n : Int) < 0) by omega]
  have rc : ∀ (A : Option Addr) (m c : Nat) (w : World), (Builtin.cap_ #[43] 3 #[.slice A m c]).run Try.prog w = .ok (.int .i64 (c : Int)) w := fun A m c w => by
    simp [Builtin.cap_, underlying, Try.underlying43, goInt]
  refine F109.k3.to (C.run_of (rc none 0 0 w) ?_)
  simp only [C.ite_true, C.ite_false, C.pick_true, C.pick_false, C.not_bool, C.field_ptr, C.nilCheck_ptr, C.add_mk, C.sub_mk, C.mul_mk, C.eql_mk, C.neq_mk, C.lss_mk, C.leq_mk, C.gtr_mk, C.geq_mk, C.conv_mk, C.len_mk, C.ext_0, C.ext_1, C.ext3_0, C.ext3_1, C.ext3_2, C.guarded_yes, C.guarded_tf, C.guarded_ft, C.guarded_undef, Bool.not_true, Bool.not_false, Nat.zero_add, eq_self, decide_true, decide_false]
  rw [wrap64_id (n := ((0 : Nat) : Int) - ((0 : Nat) : Int)) (by omega), wrap64_id (by omega), show (n : Int) - (((0 : Nat) : Int) - ((0 : Nat) : Int)) = (n : Int) by omega]
  simp only [C.ite_true, C.ite_false, C.pick_true, C.pick_false, C.not_bool, C.field_ptr, C.nilCheck_ptr, C.add_mk, C.sub_mk, C.mul_mk, C.eql_mk, C.neq_mk, C.lss_mk, C.leq_mk, C.gtr_mk, C.geq_mk, C.conv_mk, C.len_mk, C.ext_0, C.ext_1, C.ext3_0, C.ext3_1, C.ext3_2, C.guarded_yes, C.guarded_tf, C.guarded_ft, C.guarded_undef, Bool.not_true, Bool.not_false, Nat.zero_add, eq_self, decide_true, decide_false, show (n : Int) > 0 by omega]
  refine C.run_of (rc none 0 0 w) ?_
  have r1 := sliceTo_run (P := Try.prog) (w := w) (t := 43) (e := 44) (sz := 1) none 0 0 .i64 ((0 : Nat) : Int) Try.underlying43 (by kernel_rfl) (by omega) (by omega)
  refine C.run_of r1 ?_
  obtain ⟨i0, hi, hzz⟩ : ∃ i0, Try.prog.info? 44 = some i0 ∧ (i0.zero, i0.size, i0.bytes) = (some (.slice none 0 0), 1, 24) := by
    have : (Try.prog.info? 44).map (fun i => (i.zero, i.size, i.bytes)) = some (some (.slice none 0 0), 1, 24) := by kernel_rfl
    exact Option.map_eq_some_iff.1 this
  simp only [Prod.mk.injEq] at hzz
  have r2 := Go.Lib.run_append_nil_zeros (P := Try.prog) w 43 3 43 44 i0 (.slice none 0 0) .i64 .i64 Try.underlying43 Try.underlying3 hi hzz.1 n h0 (by rw [hzz.2.1]; omega) (by omega) (by rw [hzz.2.2]; omega)
  rw [show ((0 : Nat) : Int).toNat = 0 from rfl]
  refine C.run_of r2 ?_
  try simp only [C.ite_true, C.ite_false, C.pick_true, C.pick_false, C.not_bool, C.field_ptr, C.nilCheck_ptr, C.add_mk, C.sub_mk, C.mul_mk, C.eql_mk, C.neq_mk, C.lss_mk, C.leq_mk, C.gtr_mk, C.geq_mk, C.conv_mk, C.len_mk, C.ext_0, C.ext_1, C.ext3_0, C.ext3_1, C.ext3_2, C.guarded_yes, C.guarded_tf, C.guarded_ft, C.guarded_undef, Bool.not_true, Bool.not_false, Nat.zero_add, eq_self, decide_true, decide_false]
  have hge := grownCap_ge w n 0 44
  have hle := grownCap_le_maxLen w n 0 44 (by unfold maxLen; omega)
  generalize hcap : grownCap w n 0 44 = cap at *
  have r3 := fun w' => sliceTo_run (P := Try.prog) (w := w') (t := 43) (e := 44) (sz := 1) (some ⟨w.heap.size, 0, none⟩) n cap .i64 ((0 : Nat) : Int) Try.underlying43 (by kernel_rfl) (by omega) (by omega)
  refine C.run_of (r3 _) (F109.k6.to ?_)
  have hw := New.mk' w.drew (.cells (Builtin.zeroCells (Value.slice none 0 0).cells n ++ Builtin.zeroCells (Value.slice none 0 0).cells (cap - n)) 44)
  have fd : Fr [] w w.drew := Fr.drew w
  have e := hw.is
  rw [show ((0 : Nat) : Int).toNat = 0 from rfl]
  refine h _ _ (fd.trans hw.fr) (OwnS.of_block hw.at_ (by simp) (by omega) (by unfold maxLen at hle; omega) ?_ (by simp) (by simp)) fun g hg => ?_
  · simp [Builtin.zeroCells, Value.cells]; omega
  · simp only [Value.ownBlock, Option.some.injEq] at hg
    omega
/-- Some lists of lists, one behind the other. -/
theorem concat_loop {W1 : World} {xv : Value} {ws : List Value} {Ls : List (List Value)} (hx : RdS W1 xv 1 (slC ws)) (hl : ws.length = Ls.length) (ha : ∀ i (h : i < ws.length) (h' : i < Ls.length), RdS W1 ws[i] 1 (slC Ls[i])) (h1 : ∀ l ∈ Ls, ∀ v ∈ l, v.oneCell' = true) (hn : Ls.flatten.length ≤ 1001)
    (h : ∀ v w', Fr [] W1 w' → NewS W1 v → OwnS w' v 44 1 (slC Ls.flatten) → K v w') :
    ∀ (d i : Nat) (v : Value) (w : World), ws.length = i + d → Fr [] W1 w → NewS W1 v → OwnS w v 44 1 (slC (Ls.take i).flatten) → F97.l11 K v xv (.int .i64 (ws.length : Int)) (.int .i64 (i : Int)) w := by
  have hle := hx.le
  rw [slC_len] at hle
  intro d
  induction d with
  | zero =>
    intro i v w hi hf hn' ho
    refine F97.l11.to ?_
    simp only [C.ite_true, C.ite_false, C.pick_true, C.pick_false, C.not_bool, C.field_ptr, C.nilCheck_ptr, C.add_mk, C.sub_mk, C.mul_mk, C.eql_mk, C.neq_mk, C.lss_mk, C.leq_mk, C.gtr_mk, C.geq_mk, C.conv_mk, C.len_mk, C.ext_0, C.ext_1, C.ext3_0, C.ext3_1, C.ext3_2, C.guarded_yes, C.guarded_tf, C.guarded_ft, C.guarded_undef, Bool.not_true, Bool.not_false, Nat.zero_add, eq_self, decide_true, decide_false, show ¬ ((i : Int) < (ws.length : Int)) by omega]
    rw [List.take_of_length_le (by omega)] at ho
    exact F97.k15.to (h v w hf hn' ho)
  | succ d ih =>
    intro i v w hi hf hn' ho
    have ia : i < ws.length := by omega
    have iL : i < Ls.length := by omega
    refine F97.l11.to ?_
    simp only [C.ite_true, C.ite_false, C.pick_true, C.pick_false, C.not_bool, C.field_ptr, C.nilCheck_ptr, C.add_mk, C.sub_mk, C.mul_mk, C.eql_mk, C.neq_mk, C.lss_mk, C.leq_mk, C.gtr_mk, C.geq_mk, C.conv_mk, C.len_mk, C.ext_0, C.ext_1, C.ext3_0, C.ext3_1, C.ext3_2, C.guarded_yes, C.guarded_tf, C.guarded_ft, C.guarded_undef, Bool.not_true, Bool.not_false, Nat.zero_add, eq_self, decide_true, decide_false, show ((i : Int) < (ws.length : Int)) by omega]
    have e : (Ls.take (i + 1)).flatten = (Ls.take i).flatten ++ Ls[i] := by rw [List.take_succ_eq_append_getElem iL, List.flatten_append]; simp
    have hlen : (Ls.take i).flatten.length + Ls[i].length ≤ 1001 := by
      rw [← List.length_append, ← e]
      refine Nat.le_trans ?_ hn
      have : Ls.flatten = (Ls.take (i + 1)).flatten ++ (Ls.drop (i + 1)).flatten := by rw [← List.flatten_append, List.take_append_drop]
      rw [this, List.length_append]
      omega
    refine F97.k12.to (C.idx_sl (hx.keep hf) ia fun g o cs e' fz hg hc => C.load1_of hg hc ?_)
    refine C.append_of (xs := slC (Ls.take i).flatten) (ys := slC Ls[i]) (e := 44) (sz := 1) (bytes := 24) (z := .slice none 0 0) Try.underlying43 (by kernel_rfl) rfl (by decide) ho ((ha i ia iL).keep hf) (slC_one (h1 _ (List.getElem_mem iL)))
      (by rw [slC_len, slC_len]; omega) (by rw [slC_len, slC_len]; omega) fun v' w1 ho1 hf1 hb1 _ => F97.k14.to ?_
    simp only [C.ite_true, C.ite_false, C.pick_true, C.pick_false, C.not_bool, C.field_ptr, C.nilCheck_ptr, C.add_mk, C.sub_mk, C.mul_mk, C.eql_mk, C.neq_mk, C.lss_mk, C.leq_mk, C.gtr_mk, C.geq_mk, C.conv_mk, C.len_mk, C.ext_0, C.ext_1, C.ext3_0, C.ext3_1, C.ext3_2, C.guarded_yes, C.guarded_tf, C.guarded_ft, C.guarded_undef, Bool.not_true, Bool.not_false, Nat.zero_add, eq_self, decide_true, decide_false]
    rw [wrap64_id (n := (i : Int) + 1) (by omega), show (i : Int) + 1 = ((i + 1 : Nat) : Int) by omega]
    refine ih (i + 1) v' w1 (by omega) (hf.then hf1 fun g hg => .inr (hn'.blk g hg)) (fun g hg => ?_) ?_
    · rcases hb1 with c | ⟨g', c, d⟩
      · exact hn' g (by rw [← c]; exact hg)
      · rw [hg] at c
        simp only [Option.some.injEq] at c
        have := hf.size
        omega
    · rw [e, slC_app]
      exact ho1
theorem concat_len {xv : Value} {ws : List Value} {Ls : List (List Value)} (hx : RdS w xv 1 (slC ws)) (hl : ws.length = Ls.length) (ha : ∀ i (h : i < ws.length) (h' : i < Ls.length), RdS w ws[i] 1 (slC Ls[i])) (hn : Ls.flatten.length ≤ 1001)
    (h : F97.k9 K xv (.int .i64 (Ls.flatten.length : Int)) w) :
    ∀ (d i : Nat), ws.length = i + d → F97.l3 K xv (.int .i64 ((Ls.take i).flatten.length : Int)) xv (.int .i64 (ws.length : Int)) (.int .i64 (i : Int)) w := by
  have hle := hx.le
  rw [slC_len] at hle
  intro d
  induction d with
  | zero =>
    intro i hi
    refine F97.l3.to ?_
    simp only [C.ite_true, C.ite_false, C.pick_true, C.pick_false, C.not_bool, C.field_ptr, C.nilCheck_ptr, C.add_mk, C.sub_mk, C.mul_mk, C.eql_mk, C.neq_mk, C.lss_mk, C.leq_mk, C.gtr_mk, C.geq_mk, C.conv_mk, C.len_mk, C.ext_0, C.ext_1, C.ext3_0, C.ext3_1, C.ext3_2, C.guarded_yes, C.guarded_tf, C.guarded_ft, C.guarded_undef, Bool.not_true, Bool.not_false, Nat.zero_add, eq_self, decide_true, decide_false, show ¬ ((i : Int) < (ws.length : Int)) by omega]
    rw [List.take_of_length_le (by omega)]
    exact h
  | succ d ih =>
    intro i hi
    have ia : i < ws.length := by omega
    have iL : i < Ls.length := by omega
    refine F97.l3.to ?_
    simp only [C.ite_true, C.ite_false, C.pick_true, C.pick_false, C.not_bool, C.field_ptr, C.nilCheck_ptr, C.add_mk, C.sub_mk, C.mul_mk, C.eql_mk, C.neq_mk, C.lss_mk, C.leq_mk, C.gtr_mk, C.geq_mk, C.conv_mk, C.len_mk, C.ext_0, C.ext_1, C.ext3_0, C.ext3_1, C.ext3_2, C.guarded_yes, C.guarded_tf, C.guarded_ft, C.guarded_undef, Bool.not_true, Bool.not_false, Nat.zero_add, eq_self, decide_true, decide_false, show ((i : Int) < (ws.length : Int)) by omega]
    have e : (Ls.take (i + 1)).flatten = (Ls.take i).flatten ++ Ls[i] := by rw [List.take_succ_eq_append_getElem iL, List.flatten_append]; simp
    have hlen : (Ls.take i).flatten.length + Ls[i].length ≤ 1001 := by
      rw [← List.length_append, ← e]
      refine Nat.le_trans ?_ hn
      have : Ls.flatten = (Ls.take (i + 1)).flatten ++ (Ls.drop (i + 1)).flatten := by rw [← List.flatten_append, List.take_append_drop]
      rw [this, List.length_append]
      omega
    refine F97.k4.to (C.idx_sl hx ia fun g o cs e' fz hg hc => C.load1_of hg hc (C.len_rd (ha i ia iL) ?_))
    rw [slC_len]
    simp only [C.ite_true, C.ite_false, C.pick_true, C.pick_false, C.not_bool, C.field_ptr, C.nilCheck_ptr, C.add_mk, C.sub_mk, C.mul_mk, C.eql_mk, C.neq_mk, C.lss_mk, C.leq_mk, C.gtr_mk, C.geq_mk, C.conv_mk, C.len_mk, C.ext_0, C.ext_1, C.ext3_0, C.ext3_1, C.ext3_2, C.guarded_yes, C.guarded_tf, C.guarded_ft, C.guarded_undef, Bool.not_true, Bool.not_false, Nat.zero_add, eq_self, decide_true, decide_false]
    rw [wrap64_id (by omega), show ∀ a b : Nat, (a : Int) + (b : Int) = ((a + b : Nat) : Int) from fun a b => by omega]
    simp only [C.ite_true, C.ite_false, C.pick_true, C.pick_false, C.not_bool, C.field_ptr, C.nilCheck_ptr, C.add_mk, C.sub_mk, C.mul_mk, C.eql_mk, C.neq_mk, C.lss_mk, C.leq_mk, C.gtr_mk, C.geq_mk, C.conv_mk, C.len_mk, C.ext_0, C.ext_1, C.ext3_0, C.ext3_1, C.ext3_2, C.guarded_yes, C.guarded_tf, C.guarded_ft, C.guarded_undef, Bool.not_true, Bool.not_false, Nat.zero_add, eq_self, decide_true, decide_false, show ¬ ((((Ls.take i).flatten.length + Ls[i].length : Nat) : Int) < 0) by omega]
    refine F97.k8.to ?_
    simp only [C.ite_true, C.ite_false, C.pick_true, C.pick_false, C.not_bool, C.field_ptr, C.nilCheck_ptr, C.add_mk, C.sub_mk, C.mul_mk, C.eql_mk, C.neq_mk, C.lss_mk, C.leq_mk, C.gtr_mk, C.geq_mk, C.conv_mk, C.len_mk, C.ext_0, C.ext_1, C.ext3_0, C.ext3_1, C.ext3_2, C.guarded_yes, C.guarded_tf, C.guarded_ft, C.guarded_undef, Bool.not_true, Bool.not_false, Nat.zero_add, eq_self, decide_true, decide_false]
    rw [wrap64_id (n := (i : Int) + 1) (by omega), show (i : Int) + 1 = ((i + 1 : Nat) : Int) by omega]
    have := ih (i + 1) (by omega)
    rw [e, List.length_append] at this
    exact this
theorem Concat_c {xv : Value} {ws : List Value} {Ls : List (List Value)} (hx : RdS w xv 1 (slC ws)) (hl : ws.length = Ls.length) (ha : ∀ i (h : i < ws.length) (h' : i < Ls.length), RdS w ws[i] 1 (slC Ls[i])) (h1 : ∀ l ∈ Ls, ∀ v ∈ l, v.oneCell' = true) (hn : Ls.flatten.length ≤ 1001) (h0 : 0 < Ls.flatten.length)
    (h : ∀ v w', Fr [] w w' → NewS w v → OwnS w' v 44 1 (slC Ls.flatten) → K v w') : C.call Try.prog 97 #[xv] w K := by
  refine F97.sh (C.len_rd hx ?_)
  rw [slC_len]
  refine concat_len hx hl ha hn (F97.k9.to (Grow_c h0 hn fun v w1 hf1 ho1 hn1 => C.len_rd (hx.keep hf1) ?_)) ws.length 0 (by omega)
  rw [slC_len]
  exact concat_loop (W1 := w) hx hl ha h1 hn h ws.length 0 v w1 (by omega) hf1 hn1 ho1
end
end Go.Proofs.YtfhgjncbhjjbfaaV
