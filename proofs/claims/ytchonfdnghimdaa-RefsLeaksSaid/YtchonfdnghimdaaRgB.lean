/- Each edge that leads to a node: what the call comes to. · Each edge that leads to a node, handed on: what the call comes to. · Counting references: what two ways to count, and to free, keep true. -/
import Derived.Test.YtchonfdnghimdaaRgA
import Derived.Lib.AppendZeros
namespace Go.Proofs.YtchonfdnghimdaaV
open Go Go.Proofs Go.RowKit
set_option linter.unusedVariables false
set_option linter.unusedSimpArgs false
set_option maxRecDepth 10000
/-! ### Truths in a list -/
theorem boolC_rep (n : Nat) (b : Bool) : boolC (List.replicate n b) = List.replicate n [.bool b] := by simp [boolC]
/-- The edges and roots that lead to nodes, one behind the other. -/
def Gr.nod (G : Gr) (l : List Int) : List Int := l.filter fun k => decide (0 ≤ k ∧ k < (G.n : Int))
def Gr.flat (G : Gr) : List Int := G.nod (G.roots :: G.next).flatten
theorem RdS.same {w w' : World} {v : Value} {sz : Nat} {xs : List (List Value)} (h : RdS w v sz xs) (hs : ∀ g ∈ blkS v, w'.heap[g]? = w.heap[g]?) : RdS w' v sz xs := by
  obtain ⟨A, c, rfl, h1, h2, h3⟩ := h
  refine ⟨A, c, rfl, h1, h2, fun hx => ?_⟩
  obtain ⟨g, o, cs, e, fz, rfl, hg, hc⟩ := h3 hx
  exact ⟨g, o, cs, e, fz, rfl, by rw [hs g (mem_blkS.2 rfl)]; exact hg, hc⟩
theorem nod_app (G : Gr) (a b : List Int) : G.nod (a ++ b) = G.nod a ++ G.nod b := List.filter_append ..
theorem nod_one {G : Gr} {k : Int} : G.nod [k] = if 0 ≤ k ∧ k < (G.n : Int) then [k] else [] := by
  unfold Gr.nod
  by_cases c : 0 ≤ k ∧ k < (G.n : Int)
  · rw [if_pos c]; simp [c]
  · rw [if_neg c]; simp only [List.filter_cons, List.filter_nil, decide_eq_true_eq, c, if_false]
section
variable {K : VK} {w : World}
theorem C.idx_boolR {v : Value} {l : List Bool} {i : Nat} (h : RdS w v 1 (boolC l)) (hi : i < l.length) (hk : ∀ g o cs e fz, w.heap[g]? = some (.cells cs e fz) → cs[o]? = some (.bool l[i]) → K (.pointer (some ⟨g, o, none⟩)) w) :
    C.idx 1 v (.int .i64 (i : Int)) w K := by
  refine C.idx_rd h (by omega) (by rw [Int.toNat_natCast]; exact boolC_get hi) fun g o cs e fz hg _ hc => hk g o cs e fz hg ?_
  have := hc 0 (by omega)
  simpa using this
/-- slices.Grow of nothing. -/
theorem Grow_c {n : Nat} (h0 : 0 < n) (hn : n ≤ 1001) (h : ∀ v w', Fr [] w w' → OwnS w' v 23 1 [] → NewS w v → K v w') : C.call Try.prog 85 #[.slice none 0 0, .int .i64 (n : Int)] w K := by
  refine F85.sh ?_
  simp only [C.ite_true, C.ite_false, C.pick_true, C.pick_false, C.not_bool, C.field_ptr, C.nilCheck_ptr, C.add_mk, C.sub_mk, C.mul_mk, C.eql_mk, C.neq_mk, C.lss_mk, C.leq_mk, C.gtr_mk, C.geq_mk, C.conv_mk, C.len_mk, C.ext_0, C.ext_1, C.ext3_0, C.ext3_1, C.ext3_2, C.guarded_yes, C.guarded_tf, C.guarded_ft, C.guarded_undef, Bool.not_true, Bool.not_false, Nat.zero_add, eq_self, decide_true, decide_false, show ¬ ((n : Int) < 0) by omega]
  have rc : ∀ (A : Option Addr) (m c : Nat) (w : World), (Builtin.cap_ #[22] 3 #[.slice A m c]).run Try.prog w = .ok (.int .i64 (c : Int)) w := fun A m c w => by
    simp [Builtin.cap_, underlying, Try.underlying22, goInt]
  refine F85.k3.to (C.run_of (rc none 0 0 w) ?_)
  simp only [C.ite_true, C.ite_false, C.pick_true, C.pick_false, C.not_bool, C.field_ptr, C.nilCheck_ptr, C.add_mk, C.sub_mk, C.mul_mk, C.eql_mk, C.neq_mk, C.lss_mk, C.leq_mk, C.gtr_mk, C.geq_mk, C.conv_mk, C.len_mk, C.ext_0, C.ext_1, C.ext3_0, C.ext3_1, C.ext3_2, C.guarded_yes, C.guarded_tf, C.guarded_ft, C.guarded_undef, Bool.not_true, Bool.not_false, Nat.zero_add, eq_self, decide_true, decide_false]
  rw [wrap64_id (n := ((0 : Nat) : Int) - ((0 : Nat) : Int)) (by omega), wrap64_id (by omega), show (n : Int) - (((0 : Nat) : Int) - ((0 : Nat) : Int)) = (n : Int) by omega]
  simp only [C.ite_true, C.ite_false, C.pick_true, C.pick_false, C.not_bool, C.field_ptr, C.nilCheck_ptr, C.add_mk, C.sub_mk, C.mul_mk, C.eql_mk, C.neq_mk, C.lss_mk, C.leq_mk, C.gtr_mk, C.geq_mk, C.conv_mk, C.len_mk, C.ext_0, C.ext_1, C.ext3_0, C.ext3_1, C.ext3_2, C.guarded_yes, C.guarded_tf, C.guarded_ft, C.guarded_undef, Bool.not_true, Bool.not_false, Nat.zero_add, eq_self, decide_true, decide_false, show (n : Int) > 0 by omega]
  refine C.run_of (rc none 0 0 w) ?_
  have r1 := sliceTo_run (P := Try.prog) (w := w) (t := 22) (e := 23) (sz := 1) none 0 0 .i64 ((0 : Nat) : Int) Try.underlying22 (by kernel_rfl) (by omega) (by omega)
  refine C.run_of r1 ?_
  obtain ⟨i0, hi, hzz⟩ : ∃ i0, Try.prog.info? 23 = some i0 ∧ (i0.zero, i0.size, i0.bytes) = (some (.slice none 0 0), 1, 24) := by
    have : (Try.prog.info? 23).map (fun i => (i.zero, i.size, i.bytes)) = some (some (.slice none 0 0), 1, 24) := by kernel_rfl
    exact Option.map_eq_some_iff.1 this
  simp only [Prod.mk.injEq] at hzz
  have r2 := Go.Lib.run_append_nil_zeros (P := Try.prog) w 22 3 22 23 i0 (.slice none 0 0) .i64 .i64 Try.underlying22 Try.underlying3 hi hzz.1 n h0 (by rw [hzz.2.1]; omega) (by omega) (by rw [hzz.2.2]; omega)
  rw [show ((0 : Nat) : Int).toNat = 0 from rfl]
  refine C.run_of r2 ?_
  try simp only [C.ite_true, C.ite_false, C.pick_true, C.pick_false, C.not_bool, C.field_ptr, C.nilCheck_ptr, C.add_mk, C.sub_mk, C.mul_mk, C.eql_mk, C.neq_mk, C.lss_mk, C.leq_mk, C.gtr_mk, C.geq_mk, C.conv_mk, C.len_mk, C.ext_0, C.ext_1, C.ext3_0, C.ext3_1, C.ext3_2, C.guarded_yes, C.guarded_tf, C.guarded_ft, C.guarded_undef, Bool.not_true, Bool.not_false, Nat.zero_add, eq_self, decide_true, decide_false]
  have hge := grownCap_ge w n 0 23
  have hle := grownCap_le_maxLen w n 0 23 (by unfold maxLen; omega)
  generalize hcap : grownCap w n 0 23 = cap at *
  have r3 := fun w' => sliceTo_run (P := Try.prog) (w := w') (t := 22) (e := 23) (sz := 1) (some ⟨w.heap.size, 0, none⟩) n cap .i64 ((0 : Nat) : Int) Try.underlying22 (by kernel_rfl) (by omega) (by omega)
  refine C.run_of (r3 _) (F85.k6.to ?_)
  have hw := New.mk' w.drew (.cells (Builtin.zeroCells (Value.slice none 0 0).cells n ++ Builtin.zeroCells (Value.slice none 0 0).cells (cap - n)) 23)
  have fd : Fr [] w w.drew := Fr.drew w
  have e := hw.is
  rw [show ((0 : Nat) : Int).toNat = 0 from rfl]
  refine h _ _ (fd.trans hw.fr) (OwnS.of_block hw.at_ (by simp) (by omega) (by unfold maxLen at hle; omega) ?_ (by simp) (by simp)) fun g hg => ?_
  · simp [Builtin.zeroCells, Value.cells]; omega
  · simp only [Value.ownBlock, Option.some.injEq] at hg
    omega
/-- Some lists of lists, one behind the other. -/
theorem concat_loop {W1 : World} {xv : Value} {ws : List Value} {Ls : List (List Value)} (hx : RdS W1 xv 1 (slC ws)) (hl : ws.length = Ls.length) (ha : ∀ i (h : i < ws.length) (h' : i < Ls.length), RdS W1 ws[i] 1 (slC Ls[i])) (h1 : ∀ l ∈ Ls, ∀ v ∈ l, v.oneCell' = true) (hn : Ls.flatten.length ≤ 1001)
    (h : ∀ v w', Fr [] W1 w' → NewS W1 v → OwnS w' v 23 1 (slC Ls.flatten) → K v w') :
    ∀ (d i : Nat) (v : Value) (w : World), ws.length = i + d → Fr [] W1 w → NewS W1 v → OwnS w v 23 1 (slC (Ls.take i).flatten) → F74.l11 K v xv (.int .i64 (ws.length : Int)) (.int .i64 (i : Int)) w := by
  have hle := hx.le
  rw [slC_len] at hle
  intro d
  induction d with
  | zero =>
    intro i v w hi hf hn' ho
    refine F74.l11.to ?_
    simp only [C.ite_true, C.ite_false, C.pick_true, C.pick_false, C.not_bool, C.field_ptr, C.nilCheck_ptr, C.add_mk, C.sub_mk, C.mul_mk, C.eql_mk, C.neq_mk, C.lss_mk, C.leq_mk, C.gtr_mk, C.geq_mk, C.conv_mk, C.len_mk, C.ext_0, C.ext_1, C.ext3_0, C.ext3_1, C.ext3_2, C.guarded_yes, C.guarded_tf, C.guarded_ft, C.guarded_undef, Bool.not_true, Bool.not_false, Nat.zero_add, eq_self, decide_true, decide_false, show ¬ ((i : Int) < (ws.length : Int)) by omega]
    rw [List.take_of_length_le (by omega)] at ho
    exact F74.k15.to (h v w hf hn' ho)
  | succ d ih =>
    intro i v w hi hf hn' ho
    have ia : i < ws.length := by omega
    have iL : i < Ls.length := by omega
    refine F74.l11.to ?_
    simp only [C.ite_true, C.ite_false, C.pick_true, C.pick_false, C.not_bool, C.field_ptr, C.nilCheck_ptr, C.add_mk, C.sub_mk, C.mul_mk, C.eql_mk, C.neq_mk, C.lss_mk, C.leq_mk, C.gtr_mk, C.geq_mk, C.conv_mk, C.len_mk, C.ext_0, C.ext_1, C.ext3_0, C.ext3_1, C.ext3_2, C.guarded_yes, C.guarded_tf, C.guarded_ft, C.guarded_undef, Bool.not_true, Bool.not_false, Nat.zero_add, eq_self, decide_true, decide_false, show ((i : Int) < (ws.length : Int)) by omega]
    have e : (Ls.take (i + 1)).flatten = (Ls.take i).flatten ++ Ls[i] := by rw [List.take_succ_eq_append_getElem iL, List.flatten_append]; simp
    have hlen : (Ls.take i).flatten.length + Ls[i].length ≤ 1001 := by
      rw [← List.length_append, ← e]
      refine Nat.le_trans ?_ hn
      have : Ls.flatten = (Ls.take (i + 1)).flatten ++ (Ls.drop (i + 1)).flatten := by rw [← List.flatten_append, List.take_append_drop]
      rw [this, List.length_append]
      omega
    refine F74.k12.to (C.idx_sl (hx.keep hf) ia fun g o cs e' fz hg hc => C.load1_of hg hc ?_)
    refine C.append_of (xs := slC (Ls.take i).flatten) (ys := slC Ls[i]) (e := 23) (sz := 1) (bytes := 24) (z := .slice none 0 0) Try.underlying22 (by kernel_rfl) rfl (by decide) ho ((ha i ia iL).keep hf) (slC_one (h1 _ (List.getElem_mem iL)))
      (by rw [slC_len, slC_len]; omega) (by rw [slC_len, slC_len]; omega) fun v' w1 ho1 hf1 hb1 _ => F74.k14.to ?_
    simp only [C.ite_true, C.ite_false, C.pick_true, C.pick_false, C.not_bool, C.field_ptr, C.nilCheck_ptr, C.add_mk, C.sub_mk, C.mul_mk, C.eql_mk, C.neq_mk, C.lss_mk, C.leq_mk, C.gtr_mk, C.geq_mk, C.conv_mk, C.len_mk, C.ext_0, C.ext_1, C.ext3_0, C.ext3_1, C.ext3_2, C.guarded_yes, C.guarded_tf, C.guarded_ft, C.guarded_undef, Bool.not_true, Bool.not_false, Nat.zero_add, eq_self, decide_true, decide_false]
    rw [wrap64_id (n := (i : Int) + 1) (by omega), show (i : Int) + 1 = ((i + 1 : Nat) : Int) by omega]
    refine ih (i + 1) v' w1 (by omega) (hf.then hf1 fun g hg => .inr (hn'.blk g hg)) (fun g hg => ?_) ?_
    · rcases hb1 with c | ⟨g', c, d⟩
      · exact hn' g (by rw [← c]; exact hg)
      · rw [hg] at c
        simp only [Option.some.injEq] at c
        have := hf.size
        omega
    · rw [e, slC_app]
      exact ho1
theorem concat_len {xv : Value} {ws : List Value} {Ls : List (List Value)} (hx : RdS w xv 1 (slC ws)) (hl : ws.length = Ls.length) (ha : ∀ i (h : i < ws.length) (h' : i < Ls.length), RdS w ws[i] 1 (slC Ls[i])) (hn : Ls.flatten.length ≤ 1001)
    (h : F74.k9 K xv (.int .i64 (Ls.flatten.length : Int)) w) :
    ∀ (d i : Nat), ws.length = i + d → F74.l3 K xv (.int .i64 ((Ls.take i).flatten.length : Int)) xv (.int .i64 (ws.length : Int)) (.int .i64 (i : Int)) w := by
  have hle := hx.le
  rw [slC_len] at hle
  intro d
  induction d with
  | zero =>
    intro i hi
    refine F74.l3.to ?_
    simp only [C.ite_true, C.ite_false, C.pick_true, C.pick_false, C.not_bool, C.field_ptr, C.nilCheck_ptr, C.add_mk, C.sub_mk, C.mul_mk, C.eql_mk, C.neq_mk, C.lss_mk, C.leq_mk, C.gtr_mk, C.geq_mk, C.conv_mk, C.len_mk, C.ext_0, C.ext_1, C.ext3_0, C.ext3_1, C.ext3_2, C.guarded_yes, C.guarded_tf, C.guarded_ft, C.guarded_undef, Bool.not_true, Bool.not_false, Nat.zero_add, eq_self, decide_true, decide_false, show ¬ ((i : Int) < (ws.length : Int)) by omega]
    rw [List.take_of_length_le (by omega)]
    exact h
  | succ d ih =>
    intro i hi
    have ia : i < ws.length := by omega
    have iL : i < Ls.length := by omega
    refine F74.l3.to ?_
    simp only [C.ite_true, C.ite_false, C.pick_true, C.pick_false, C.not_bool, C.field_ptr, C.nilCheck_ptr, C.add_mk, C.sub_mk, C.mul_mk, C.eql_mk, C.neq_mk, C.lss_mk, C.leq_mk, C.gtr_mk, C.geq_mk, C.conv_mk, C.len_mk, C.ext_0, C.ext_1, C.ext3_0, C.ext3_1, C.ext3_2, C.guarded_yes, C.guarded_tf, C.guarded_ft, C.guarded_undef, Bool.not_true, Bool.not_false, Nat.zero_add, eq_self, decide_true, decide_false, show ((i : Int) < (ws.length : Int)) by omega]
    have e : (Ls.take (i + 1)).flatten = (Ls.take i).flatten ++ Ls[i] := by rw [List.take_succ_eq_append_getElem iL, List.flatten_append]; simp
    have hlen : (Ls.take i).flatten.length + Ls[i].length ≤ 1001 := by
      rw [← List.length_append, ← e]
      refine Nat.le_trans ?_ hn
      have : Ls.flatten = (Ls.take (i + 1)).flatten ++ (Ls.drop (i + 1)).flatten := by rw [← List.flatten_append, List.take_append_drop]
      rw [this, List.length_append]
      omega
    refine F74.k4.to (C.idx_sl hx ia fun g o cs e' fz hg hc => C.load1_of hg hc (C.len_rd (ha i ia iL) ?_))
    rw [slC_len]
    simp only [C.ite_true, C.ite_false, C.pick_true, C.pick_false, C.not_bool, C.field_ptr, C.nilCheck_ptr, C.add_mk, C.sub_mk, C.mul_mk, C.eql_mk, C.neq_mk, C.lss_mk, C.leq_mk, C.gtr_mk, C.geq_mk, C.conv_mk, C.len_mk, C.ext_0, C.ext_1, C.ext3_0, C.ext3_1, C.ext3_2, C.guarded_yes, C.guarded_tf, C.guarded_ft, C.guarded_undef, Bool.not_true, Bool.not_false, Nat.zero_add, eq_self, decide_true, decide_false]
    rw [wrap64_id (by omega), show ∀ a b : Nat, (a : Int) + (b : Int) = ((a + b : Nat) : Int) from fun a b => by omega]
    simp only [C.ite_true, C.ite_false, C.pick_true, C.pick_false, C.not_bool, C.field_ptr, C.nilCheck_ptr, C.add_mk, C.sub_mk, C.mul_mk, C.eql_mk, C.neq_mk, C.lss_mk, C.leq_mk, C.gtr_mk, C.geq_mk, C.conv_mk, C.len_mk, C.ext_0, C.ext_1, C.ext3_0, C.ext3_1, C.ext3_2, C.guarded_yes, C.guarded_tf, C.guarded_ft, C.guarded_undef, Bool.not_true, Bool.not_false, Nat.zero_add, eq_self, decide_true, decide_false, show ¬ ((((Ls.take i).flatten.length + Ls[i].length : Nat) : Int) < 0) by omega]
    refine F74.k8.to ?_
    simp only [C.ite_true, C.ite_false, C.pick_true, C.pick_false, C.not_bool, C.field_ptr, C.nilCheck_ptr, C.add_mk, C.sub_mk, C.mul_mk, C.eql_mk, C.neq_mk, C.lss_mk, C.leq_mk, C.gtr_mk, C.geq_mk, C.conv_mk, C.len_mk, C.ext_0, C.ext_1, C.ext3_0, C.ext3_1, C.ext3_2, C.guarded_yes, C.guarded_tf, C.guarded_ft, C.guarded_undef, Bool.not_true, Bool.not_false, Nat.zero_add, eq_self, decide_true, decide_false]
    rw [wrap64_id (n := (i : Int) + 1) (by omega), show (i : Int) + 1 = ((i + 1 : Nat) : Int) by omega]
    have := ih (i + 1) (by omega)
    rw [e, List.length_append] at this
    exact this
theorem Concat_c {xv : Value} {ws : List Value} {Ls : List (List Value)} (hx : RdS w xv 1 (slC ws)) (hl : ws.length = Ls.length) (ha : ∀ i (h : i < ws.length) (h' : i < Ls.length), RdS w ws[i] 1 (slC Ls[i])) (h1 : ∀ l ∈ Ls, ∀ v ∈ l, v.oneCell' = true) (hn : Ls.flatten.length ≤ 1001) (h0 : 0 < Ls.flatten.length)
    (h : ∀ v w', Fr [] w w' → NewS w v → OwnS w' v 23 1 (slC Ls.flatten) → K v w') : C.call Try.prog 74 #[xv] w K := by
  refine F74.sh (C.len_rd hx ?_)
  rw [slC_len]
  refine concat_len hx hl ha hn (F74.k9.to (Grow_c h0 hn fun v w1 hf1 ho1 hn1 => C.len_rd (hx.keep hf1) ?_)) ws.length 0 (by omega)
  rw [slC_len]
  exact concat_loop (W1 := w) hx hl ha h1 hn h ws.length 0 v w1 (by omega) hf1 hn1 ho1
end
end Go.Proofs.YtchonfdnghimdaaV
namespace Go.Proofs.YtchonfdnghimdaaV
open Go Go.Proofs Go.RowKit
set_option linter.unusedVariables false
set_option linter.unusedSimpArgs false
set_option maxRecDepth 10000
theorem flat_split {G : Gr} {R : List (List Int)} {p t : Nat} (hp : p < R.length) (ht : t < R[p].length) : ∃ suf, G.nod R.flatten = G.nod ((R.take p).flatten ++ R[p].take t) ++ G.nod [R[p][t]] ++ suf := by
  refine ⟨G.nod (R[p].drop (t + 1) ++ (R.drop (p + 1)).flatten), ?_⟩
  rw [← nod_app, ← nod_app]
  congr 1
  have e1 : R = R.take p ++ R[p] :: R.drop (p + 1) := by rw [← List.drop_eq_getElem_cons hp, List.take_append_drop]
  have e2 : R[p] = R[p].take t ++ R[p][t] :: R[p].drop (t + 1) := by rw [← List.drop_eq_getElem_cons ht, List.take_append_drop]
  conv => lhs; rw [e1]
  rw [List.flatten_append, List.flatten_cons]
  conv => lhs; rw [e2]
  simp [List.append_assoc]
  rw [← List.append_assoc, List.take_append_drop]
section
variable {K : VK} {w : World}
theorem bsSS (A B : Option Addr) (n c m d : Nat) : (Instr.buildSlice 97 2 #[(0, .slice A n c), (1, .slice B m d)]).run Try.prog w = .ok (.slice (some ⟨w.heap.size, 0, none⟩) 2 2) (w.alloc (.cells #[.slice A n c, .slice B m d] 22)) := by kernel_rfl
/-- What stands while the edges are gone through. -/
structure LD (w : World) (bg b1 : Nat) (nv rv cv : Value) (vs : List Value) : Prop where
  g : GBlk w bg 25 nv rv
  c : RdS w cv 1 (slC (rv :: vs))
theorem LD.same {w w' : World} {bg b0 b1 : Nat} {nv rv cv : Value} {vs : List Value} (h : LD w bg b1 nv rv cv vs) (hg : b0 ≤ bg ∧ bg < b1) (hc : ∀ g ∈ blkS cv, b0 ≤ g ∧ g < b1) (hs : ∀ b, b0 ≤ b → b < b1 → w'.heap[b]? = w.heap[b]?) : LD w' bg b1 nv rv cv vs :=
  ⟨by unfold GBlk; rw [hs bg hg.1 hg.2]; exact h.g, h.c.same fun g hg => hs g (hc g hg).1 (hc g hg).2⟩
theorem lead_row {G : Gr} {nv rv f cv rw_ : Value} {vs : List Value} {b0 b1 bg p : Nat} {y15 : Value} {I : List Int → World → Prop} (hR : ∀ pre w', I pre w' → RdS w' rw_ 1 (intC ((G.roots :: G.next)[p]?.getD []))) (hnv : ∃ A c, nv = .slice A G.n c) (hfew : G.n ≤ 1000) (hp : p < (G.roots :: G.next).length)
    (hgb : b0 ≤ bg ∧ bg < b1) (hcb : ∀ g ∈ blkS cv, b0 ≤ g ∧ g < b1)
    (hst : ∀ pre (k : Nat) suf w' (K' : VK), I pre w' → k < G.n → G.flat = pre ++ (k : Int) :: suf → (∀ w'', I (pre ++ [(k : Int)]) w'' → (∀ b, b0 ≤ b → b < b1 → w''.heap[b]? = w'.heap[b]?) → K' (.tuple #[]) w'') → vcCall Try.prog f [.int .i64 (k : Int)] w' K')
    (h : ∀ w', I (G.nod ((G.roots :: G.next).take (p + 1)).flatten) w' → LD w' bg b1 nv rv cv vs → F50.k10 K f (.pointer (some ⟨bg, 0, none⟩)) cv y15 (.int .i64 (p : Int)) w') :
    ∀ (d t : Nat) (w : World), (G.roots :: G.next)[p].length = t + d → I (G.nod (((G.roots :: G.next).take p).flatten ++ (G.roots :: G.next)[p].take t)) w → LD w bg b1 nv rv cv vs →
      F50.l5 K f (.pointer (some ⟨bg, 0, none⟩)) cv y15 (.int .i64 (p : Int)) rw_ (.int .i64 ((G.roots :: G.next)[p].length : Int)) (.int .i64 (t : Int)) w := by
  obtain ⟨A, c, rfl⟩ := hnv
  have hget : (G.roots :: G.next)[p]?.getD [] = (G.roots :: G.next)[p] := by rw [List.getElem?_eq_getElem hp]; rfl
  intro d
  induction d with
  | zero =>
    intro t w ht hI hL
    refine F50.l5.to ?_
    simp only [C.ite_true, C.ite_false, C.pick_true, C.pick_false, C.not_bool, C.field_ptr, C.nilCheck_ptr, C.add_mk, C.sub_mk, C.mul_mk, C.eql_mk, C.neq_mk, C.lss_mk, C.leq_mk, C.gtr_mk, C.geq_mk, C.conv_mk, C.len_mk, C.ext_0, C.ext_1, C.ext3_0, C.ext3_1, C.ext3_2, C.guarded_yes, C.guarded_tf, C.guarded_ft, C.guarded_undef, Bool.not_true, Bool.not_false, Nat.zero_add, eq_self, decide_true, decide_false, show ¬ ((t : Int) < ((G.roots :: G.next)[p].length : Int)) by omega]
    refine h w ?_ hL
    rw [List.take_succ_eq_append_getElem hp, List.flatten_append]
    rw [List.take_of_length_le (show (G.roots :: G.next)[p].length ≤ t by omega)] at hI
    simpa using hI
  | succ d ih =>
    intro t w ht hI hL
    have htl : t < (G.roots :: G.next)[p].length := by omega
    have hrd := hR _ _ hI
    rw [hget] at hrd
    have hle := hrd.le
    rw [intC_len] at hle
    refine F50.l5.to ?_
    simp only [C.ite_true, C.ite_false, C.pick_true, C.pick_false, C.not_bool, C.field_ptr, C.nilCheck_ptr, C.add_mk, C.sub_mk, C.mul_mk, C.eql_mk, C.neq_mk, C.lss_mk, C.leq_mk, C.gtr_mk, C.geq_mk, C.conv_mk, C.len_mk, C.ext_0, C.ext_1, C.ext3_0, C.ext3_1, C.ext3_2, C.guarded_yes, C.guarded_tf, C.guarded_ft, C.guarded_undef, Bool.not_true, Bool.not_false, Nat.zero_add, eq_self, decide_true, decide_false, show ((t : Int) < ((G.roots :: G.next)[p].length : Int)) by omega]
    obtain ⟨suf, hsuf⟩ := flat_split (G := G) hp htl
    have e1 : G.nod (((G.roots :: G.next).take p).flatten ++ (G.roots :: G.next)[p].take (t + 1)) = G.nod (((G.roots :: G.next).take p).flatten ++ (G.roots :: G.next)[p].take t) ++ G.nod [(G.roots :: G.next)[p][t]] := by
      rw [← nod_app, List.take_succ_eq_append_getElem htl, List.append_assoc]
    have nx : ∀ w', I (G.nod (((G.roots :: G.next).take p).flatten ++ (G.roots :: G.next)[p].take (t + 1))) w' → LD w' bg b1 (.slice A G.n c) rv cv vs →
        F50.k9 K f (.pointer (some ⟨bg, 0, none⟩)) cv y15 (.int .i64 (p : Int)) rw_ (.int .i64 ((G.roots :: G.next)[p].length : Int)) (.int .i64 (t : Int)) w' := by
      intro w' a b
      refine F50.k9.to ?_
      simp only [C.ite_true, C.ite_false, C.pick_true, C.pick_false, C.not_bool, C.field_ptr, C.nilCheck_ptr, C.add_mk, C.sub_mk, C.mul_mk, C.eql_mk, C.neq_mk, C.lss_mk, C.leq_mk, C.gtr_mk, C.geq_mk, C.conv_mk, C.len_mk, C.ext_0, C.ext_1, C.ext3_0, C.ext3_1, C.ext3_2, C.guarded_yes, C.guarded_tf, C.guarded_ft, C.guarded_undef, Bool.not_true, Bool.not_false, Nat.zero_add, eq_self, decide_true, decide_false]
      rw [wrap64_id (n := (t : Int) + 1) (by omega), show (t : Int) + 1 = ((t + 1 : Nat) : Int) by omega]
      exact ih (t + 1) w' (by omega) a b
    refine F50.k6.to (C.idx_int hrd htl fun g o cs e fz hg hc => C.load1_of hg hc ?_)
    generalize hx : (G.roots :: G.next)[p][t] = x at *
    have no : ¬ (0 ≤ x ∧ x < (G.n : Int)) → F50.k9 K f (.pointer (some ⟨bg, 0, none⟩)) cv y15 (.int .i64 (p : Int)) rw_ (.int .i64 ((G.roots :: G.next)[p].length : Int)) (.int .i64 (t : Int)) w := fun hn => by
      refine nx w ?_ hL
      rw [e1, nod_one, if_neg hn, List.append_nil]
      exact hI
    by_cases h0 : 0 ≤ x
    · simp only [C.ite_true, C.ite_false, C.pick_true, C.pick_false, C.not_bool, C.field_ptr, C.nilCheck_ptr, C.add_mk, C.sub_mk, C.mul_mk, C.eql_mk, C.neq_mk, C.lss_mk, C.leq_mk, C.gtr_mk, C.geq_mk, C.conv_mk, C.len_mk, C.ext_0, C.ext_1, C.ext3_0, C.ext3_1, C.ext3_2, C.guarded_yes, C.guarded_tf, C.guarded_ft, C.guarded_undef, Bool.not_true, Bool.not_false, Nat.zero_add, eq_self, decide_true, decide_false, ge_iff_le, h0]
      refine C.load1_of (v := .slice A G.n c) hL.g rfl ?_
      simp only [C.ite_true, C.ite_false, C.pick_true, C.pick_false, C.not_bool, C.field_ptr, C.nilCheck_ptr, C.add_mk, C.sub_mk, C.mul_mk, C.eql_mk, C.neq_mk, C.lss_mk, C.leq_mk, C.gtr_mk, C.geq_mk, C.conv_mk, C.len_mk, C.ext_0, C.ext_1, C.ext3_0, C.ext3_1, C.ext3_2, C.guarded_yes, C.guarded_tf, C.guarded_ft, C.guarded_undef, Bool.not_true, Bool.not_false, Nat.zero_add, eq_self, decide_true, decide_false]
      by_cases h1 : x < (G.n : Int)
      · simp only [C.ite_true, C.ite_false, C.pick_true, C.pick_false, C.not_bool, C.field_ptr, C.nilCheck_ptr, C.add_mk, C.sub_mk, C.mul_mk, C.eql_mk, C.neq_mk, C.lss_mk, C.leq_mk, C.gtr_mk, C.geq_mk, C.conv_mk, C.len_mk, C.ext_0, C.ext_1, C.ext3_0, C.ext3_1, C.ext3_2, C.guarded_yes, C.guarded_tf, C.guarded_ft, C.guarded_undef, Bool.not_true, Bool.not_false, Nat.zero_add, eq_self, decide_true, decide_false, h1]
        obtain ⟨k, rfl⟩ : ∃ k : Nat, x = (k : Int) := ⟨x.toNat, by omega⟩
        rw [nod_one, if_pos ⟨h0, h1⟩] at hsuf e1
        refine hst _ k suf w _ hI (by omega) (by unfold Gr.flat; rw [hsuf]; simp) fun w' hI' hs => nx w' ?_ (hL.same hgb hcb hs)
        rw [e1]
        exact hI'
      · simp only [C.ite_true, C.ite_false, C.pick_true, C.pick_false, C.not_bool, C.field_ptr, C.nilCheck_ptr, C.add_mk, C.sub_mk, C.mul_mk, C.eql_mk, C.neq_mk, C.lss_mk, C.leq_mk, C.gtr_mk, C.geq_mk, C.conv_mk, C.len_mk, C.ext_0, C.ext_1, C.ext3_0, C.ext3_1, C.ext3_2, C.guarded_yes, C.guarded_tf, C.guarded_ft, C.guarded_undef, Bool.not_true, Bool.not_false, Nat.zero_add, eq_self, decide_true, decide_false, h1]
        exact no (by omega)
    · simp only [C.ite_true, C.ite_false, C.pick_true, C.pick_false, C.not_bool, C.field_ptr, C.nilCheck_ptr, C.add_mk, C.sub_mk, C.mul_mk, C.eql_mk, C.neq_mk, C.lss_mk, C.leq_mk, C.gtr_mk, C.geq_mk, C.conv_mk, C.len_mk, C.ext_0, C.ext_1, C.ext3_0, C.ext3_1, C.ext3_2, C.guarded_yes, C.guarded_tf, C.guarded_ft, C.guarded_undef, Bool.not_true, Bool.not_false, Nat.zero_add, eq_self, decide_true, decide_false, ge_iff_le, h0]
      exact no (by omega)
theorem lead_loop {G : Gr} {nv rv f cv : Value} {vs : List Value} {b0 b1 bg : Nat} {I : List Int → World → Prop} (hvl : vs.length = G.next.length) (hR : ∀ pre w', I pre w' → RdS w' rv 1 (intC G.roots) ∧ ∀ i (h : i < vs.length) (h' : i < G.next.length), RdS w' vs[i] 1 (intC G.next[i])) (hnv : ∃ A c, nv = .slice A G.n c) (hfew : G.n ≤ 1000)
    (hgb : b0 ≤ bg ∧ bg < b1) (hcb : ∀ g ∈ blkS cv, b0 ≤ g ∧ g < b1)
    (hst : ∀ pre (k : Nat) suf w' (K' : VK), I pre w' → k < G.n → G.flat = pre ++ (k : Int) :: suf → (∀ w'', I (pre ++ [(k : Int)]) w'' → (∀ b, b0 ≤ b → b < b1 → w''.heap[b]? = w'.heap[b]?) → K' (.tuple #[]) w'') → vcCall Try.prog f [.int .i64 (k : Int)] w' K')
    (h : ∀ w', I G.flat w' → K (.tuple #[]) w') :
    ∀ (d p : Nat) (w : World), G.n + 1 = p + d → I (G.nod ((G.roots :: G.next).take p).flatten) w → LD w bg b1 nv rv cv vs →
      F50.l2 K f (.pointer (some ⟨bg, 0, none⟩)) cv (.int .i64 ((G.n + 1 : Nat) : Int)) (.int .i64 (p : Int)) w := by
  have hlen : (G.roots :: G.next).length = G.n + 1 := rfl
  have hvl' : (rv :: vs).length = G.n + 1 := by rw [List.length_cons, hvl]; rfl
  intro d
  induction d with
  | zero =>
    intro p w hp hI hL
    refine F50.l2.to ?_
    simp only [C.ite_true, C.ite_false, C.pick_true, C.pick_false, C.not_bool, C.field_ptr, C.nilCheck_ptr, C.add_mk, C.sub_mk, C.mul_mk, C.eql_mk, C.neq_mk, C.lss_mk, C.leq_mk, C.gtr_mk, C.geq_mk, C.conv_mk, C.len_mk, C.ext_0, C.ext_1, C.ext3_0, C.ext3_1, C.ext3_2, C.guarded_yes, C.guarded_tf, C.guarded_ft, C.guarded_undef, Bool.not_true, Bool.not_false, Nat.zero_add, eq_self, decide_true, decide_false, show ¬ ((p : Int) < ((G.n + 1 : Nat) : Int)) by omega]
    refine h w ?_
    rw [List.take_of_length_le (by omega)] at hI
    exact hI
  | succ d ih =>
    intro p w hp hI hL
    have hpl : p < (G.roots :: G.next).length := by omega
    have hpv : p < (rv :: vs).length := by omega
    refine F50.l2.to ?_
    simp only [C.ite_true, C.ite_false, C.pick_true, C.pick_false, C.not_bool, C.field_ptr, C.nilCheck_ptr, C.add_mk, C.sub_mk, C.mul_mk, C.eql_mk, C.neq_mk, C.lss_mk, C.leq_mk, C.gtr_mk, C.geq_mk, C.conv_mk, C.len_mk, C.ext_0, C.ext_1, C.ext3_0, C.ext3_1, C.ext3_2, C.guarded_yes, C.guarded_tf, C.guarded_ft, C.guarded_undef, Bool.not_true, Bool.not_false, Nat.zero_add, eq_self, decide_true, decide_false, show ((p : Int) < ((G.n + 1 : Nat) : Int)) by omega]
    have rows : ∀ pre w', I pre w' → RdS w' (rv :: vs)[p] 1 (intC ((G.roots :: G.next)[p]?.getD [])) := fun pre w' hI' => by
      obtain ⟨r1, r2⟩ := hR pre w' hI'
      rw [List.getElem?_eq_getElem hpl]
      match p, hpl, hpv with
      | 0, _, _ => exact r1
      | q + 1, a, b => exact r2 q (by simpa using b) (by simpa using a)
    have hrd := rows _ _ hI
    rw [List.getElem?_eq_getElem hpl] at hrd
    refine F50.k3.to (C.idx_sl hL.c hpv fun g o cs e fz hg hc => C.load1_of hg hc (C.len_rd hrd ?_))
    rw [intC_len, Option.getD_some]
    refine lead_row rows hnv hfew hpl hgb hcb hst (fun w' hI' hL' => F50.k10.to ?_) (G.roots :: G.next)[p].length 0 w (by omega) (by simpa using hI) hL
    simp only [C.ite_true, C.ite_false, C.pick_true, C.pick_false, C.not_bool, C.field_ptr, C.nilCheck_ptr, C.add_mk, C.sub_mk, C.mul_mk, C.eql_mk, C.neq_mk, C.lss_mk, C.leq_mk, C.gtr_mk, C.geq_mk, C.conv_mk, C.len_mk, C.ext_0, C.ext_1, C.ext3_0, C.ext3_1, C.ext3_2, C.guarded_yes, C.guarded_tf, C.guarded_ft, C.guarded_undef, Bool.not_true, Bool.not_false, Nat.zero_add, eq_self, decide_true, decide_false]
    rw [wrap64_id (n := (p : Int) + 1) (by omega), show (p : Int) + 1 = ((p + 1 : Nat) : Int) by omega]
    exact ih (p + 1) w' (by omega) hI' hL'
theorem lead_c {G : Gr} {nv rv f : Value} {vs : List Value} {b0 : Nat} {I : Nat → List Int → World → Prop} (hb0 : b0 ≤ w.heap.size) (hG : IsG w nv rv G) (hnv : RdS w nv 1 (slC vs)) (hvl : vs.length = G.next.length)
    (hR : ∀ b1 pre w', I b1 pre w' → RdS w' rv 1 (intC G.roots) ∧ ∀ i (h : i < vs.length) (h' : i < G.next.length), RdS w' vs[i] 1 (intC G.next[i]))
    (h0 : ∀ w', Fr [] w w' → I w'.heap.size [] w')
    (hst : ∀ b1 pre (k : Nat) suf w' (K' : VK), I b1 pre w' → k < G.n → G.flat = pre ++ (k : Int) :: suf → (∀ w'', I b1 (pre ++ [(k : Int)]) w'' → (∀ b, b0 ≤ b → b < b1 → w''.heap[b]? = w'.heap[b]?) → K' (.tuple #[]) w'') → vcCall Try.prog f [.int .i64 (k : Int)] w' K')
    (h : ∀ b1 w', I b1 G.flat w' → K (.tuple #[]) w') : C.call Try.prog 50 #[.agg #[nv, rv], f] w K := by
  have hfew := hG.few
  have hsl : ∀ v ∈ vs, v.oneCell' = true := fun v hv => by
    obtain ⟨i, hi, rfl⟩ := List.getElem_of_mem hv
    exact ((hR _ _ _ (h0 w (Fr.refl _ _))).2 i hi (by omega)).one.1
  have hG' := hG
  have hnvc := hG.slices
  refine F50.sh (GBlk.new hG fun bg w1 hf1 hb1 hb hG1 => hb.roots ?_)
  obtain ⟨A, c, B, d, hnv', hrv'⟩ := hG.slices
  have hbs := bsS (w := w1) B G.roots.length d
  rw [← hrv'] at hbs
  refine C.run_of hbs ?_
  have hw2 := New.mk' w1 (.cells #[rv] 23)
  generalize hs2 : w1.alloc (.cells #[rv] 23) = w2 at *
  have r2 : RdS w2 (.slice (some ⟨w1.heap.size, 0, none⟩) 1 1) 1 (slC [rv]) := RdS.of_block hw2.at_ rfl (by simp) (by simp) (by simp [slC]) (by simp [slC])
  refine (hb.keep hw2.fr (by simp)).next ?_
  have hbss := bsSS (w := w2) (some ⟨w1.heap.size, 0, none⟩) A 1 1 G.n c
  rw [← hnv'] at hbss
  refine C.run_of hbss ?_
  have hw3 := New.mk' w2 (.cells #[.slice (some ⟨w1.heap.size, 0, none⟩) 1 1, nv] 22)
  generalize hs3 : w2.alloc (.cells #[.slice (some ⟨w1.heap.size, 0, none⟩) 1 1, nv] 22) = w3 at *
  have f3 := (hf1.trans hw2.fr).trans hw3.fr
  have r3 : RdS w3 (.slice (some ⟨w2.heap.size, 0, none⟩) 2 2) 1 (slC [.slice (some ⟨w1.heap.size, 0, none⟩) 1 1, nv]) := RdS.of_block hw3.at_ rfl (by simp) (by simp) (by simp [slC]) (by simp [slC])
  have hfl : [[rv], vs].flatten = rv :: vs := by simp
  have hvl' : (rv :: vs).length = G.n + 1 := by rw [List.length_cons, hvl]; rfl
  refine Concat_c (Ls := [[rv], vs]) r3 rfl (fun i a b => ?_) (fun l hl v hv => ?_) (by rw [hfl, hvl']; omega) (by rw [hfl, hvl']; omega) fun cv w4 hf4 hn4 ho4 => C.len_rd ho4.rd ?_
  · match i, a, b with
    | 0, _, _ => exact r2.keep hw3.fr
    | 1, _, _ => exact hnv.keep f3
  · simp only [List.mem_cons, List.not_mem_nil, or_false] at hl
    rcases hl with rfl | rfl
    · simp only [List.mem_cons, List.not_mem_nil, or_false] at hv
      subst hv
      exact hG.roots.one.1
    · exact hsl v hv
  · rw [hfl] at ho4
    rw [hfl, slC_len, hvl']
    have f4 := f3.trans hf4
    have lc := ho4.mem_lt
    have s1 := hf1.size
    have s2 := hw2.fr.size
    have s3 := hw3.fr.size
    have s4 := hf4.size
    have lb := lt_of_at hb
    refine lead_loop (I := I w4.heap.size) (b0 := b0) (b1 := w4.heap.size) (vs := vs) hvl (hR _) ⟨A, c, hnv'⟩ hfew ⟨by omega, by omega⟩ (fun g hg => ⟨by have := hn4.blk g hg; omega, lc g hg⟩) (hst _) (h _) (G.n + 1) 0 w4 (by omega) ?_ ⟨hb.keep ((hw2.fr.trans hw3.fr).trans hf4) (by simp), ho4.rd⟩
    exact h0 w4 f4
end
end Go.Proofs.YtchonfdnghimdaaV
namespace Go.Proofs.YtchonfdnghimdaaV
open Go Go.Proofs Go.RowKit
set_option linter.unusedVariables false
set_option linter.unusedSimpArgs false
set_option maxRecDepth 10000
/-! ### 1. Counts -/
def Gr.cntR (G : Gr) (P : Nat → Bool) (j : Int) : Nat → Nat
  | 0 => 0
  | m + 1 => G.cntR P j m + cond (P m) 0 ((G.row m).count j)
def Gr.cnt (G : Gr) (P : Nat → Bool) (j : Int) : Nat := G.roots.count j + G.cntR P j G.n
theorem cntR_mono {G : Gr} {P Q : Nat → Bool} {j : Int} (h : ∀ k, P k = true → Q k = true) : ∀ m, G.cntR Q j m ≤ G.cntR P j m
  | 0 => Nat.le_refl _
  | m + 1 => by
    have ih := cntR_mono (G := G) (j := j) h m
    simp only [Gr.cntR]
    cases hp : P m with
    | true => rw [h m hp]; simpa using ih
    | false => cases hq : Q m <;> simp only [cond_true, cond_false] <;> omega
theorem cnt_mono {G : Gr} {P Q : Nat → Bool} {j : Int} (h : ∀ k, P k = true → Q k = true) : G.cnt Q j ≤ G.cnt P j := Nat.add_le_add_left (cntR_mono h _) _
theorem cntR_congr {G : Gr} {P Q : Nat → Bool} {j : Int} : ∀ m, (∀ k, k < m → P k = Q k) → G.cntR P j m = G.cntR Q j m
  | 0, _ => rfl
  | m + 1, h => by simp only [Gr.cntR]; rw [cntR_congr m (fun k hk => h k (by omega)), h m (by omega)]
theorem cnt_congr {G : Gr} {P Q : Nat → Bool} {j : Int} (h : ∀ k, k < G.n → P k = Q k) : G.cnt P j = G.cnt Q j := by unfold Gr.cnt; rw [cntR_congr _ h]
theorem cntR_ins {G : Gr} {P : Nat → Bool} {j : Int} {i : Nat} (hi : P i = false) : ∀ m, G.cntR (upd P i true) j m + (if i < m then (G.row i).count j else 0) = G.cntR P j m
  | 0 => by simp [Gr.cntR]
  | m + 1 => by
    have ih := cntR_ins (G := G) (j := j) hi m
    simp only [Gr.cntR, upd_ap]
    by_cases c : m = i
    · subst c
      rw [if_pos rfl, if_pos (by omega), hi]
      rw [if_neg (by omega)] at ih
      simp only [cond_true, cond_false]
      omega
    · rw [if_neg c]
      by_cases c' : i < m
      · rw [if_pos c'] at ih
        rw [if_pos (by omega)]
        omega
      · rw [if_neg c'] at ih
        rw [if_neg (by omega)]
        omega
theorem cnt_ins {G : Gr} {P : Nat → Bool} {j : Int} {i : Nat} (hi : P i = false) (hn : i < G.n) : G.cnt (upd P i true) j + (G.row i).count j = G.cnt P j := by
  have := cntR_ins (G := G) (j := j) hi G.n
  rw [if_pos hn] at this
  unfold Gr.cnt
  omega
theorem cntR_row {G : Gr} {P : Nat → Bool} {j : Int} {i : Nat} (hi : P i = false) : ∀ m, i < m → (G.row i).count j ≤ G.cntR P j m
  | 0, h => by omega
  | m + 1, h => by
    simp only [Gr.cntR]
    by_cases c : i = m
    · subst c; rw [hi, cond_false]; omega
    · have := cntR_row (G := G) (j := j) hi m (by omega); omega
theorem cnt_row {G : Gr} {P : Nat → Bool} {j : Int} {i : Nat} (hi : P i = false) (hn : i < G.n) : (G.row i).count j ≤ G.cnt P j := by
  have := cntR_row (G := G) (j := j) hi G.n hn
  unfold Gr.cnt
  omega
theorem nod_count {G : Gr} {l : List Int} {j : Nat} (hj : j < G.n) : (G.nod l).count (j : Int) = l.count (j : Int) := by
  unfold Gr.nod
  exact List.count_filter (by simp; omega)
theorem cntR_flat {G : Gr} {j : Int} : ∀ m, m ≤ G.n → G.cntR (fun _ => false) j m = ((G.next.take m).flatten).count j
  | 0, _ => by simp [Gr.cntR]
  | m + 1, h => by
    have ih := cntR_flat (G := G) (j := j) m (by omega)
    simp only [Gr.cntR]
    rw [ih, List.take_succ_eq_append_getElem (show m < G.next.length from h), List.flatten_append, List.count_append, row_get (show m < G.n from h)]
    simp
    rfl
theorem flat_count {G : Gr} {j : Nat} (hj : j < G.n) : G.flat.count (j : Int) = G.cnt (fun _ => false) (j : Int) := by
  unfold Gr.flat Gr.cnt
  rw [nod_count hj, List.flatten_cons, List.count_append, cntR_flat G.n (Nat.le_refl _), show G.next.take G.n = G.next from List.take_of_length_le (Nat.le_refl _)]
theorem flatten_le {B : Nat} : ∀ (L : List (List Int)), (∀ r ∈ L, r.length ≤ B) → L.flatten.length ≤ L.length * B
  | [], _ => by simp
  | a :: L, h => by
    have := flatten_le L fun r hr => h r (by simp [hr])
    have := h a (by simp)
    rw [List.flatten_cons, List.length_append, List.length_cons, Nat.add_mul]
    omega
theorem flat_le {w : World} {nv rv : Value} {G : Gr} (hG : IsG w nv rv G) : G.flat.length ≤ 17609778230460416 := by
  have h1 := flatten_le (B := 17592186044416) (G.roots :: G.next) fun r hr => by
    rcases List.mem_cons.1 hr with rfl | hr
    · exact hG.rlen
    · exact hG.nlen r hr
  have h2 := hG.few
  have h3 : (G.roots :: G.next).length = G.n + 1 := rfl
  rw [h3] at h1
  unfold Gr.flat Gr.nod
  have := List.length_filter_le (fun k => decide (0 ≤ k ∧ k < (G.n : Int))) (G.roots :: G.next).flatten
  omega
theorem cntR_le {G : Gr} {P : Nat → Bool} {j : Int} {B : Nat} (hB : ∀ k, (G.row k).length ≤ B) : ∀ m, G.cntR P j m ≤ m * B
  | 0 => Nat.zero_le _
  | m + 1 => by
    have ih := cntR_le (P := P) (j := j) hB m
    simp only [Gr.cntR]
    have h1 := hB m
    have h2 : (G.row m).count j ≤ (G.row m).length := List.count_le_length
    rw [Nat.add_mul]
    cases P m <;> simp only [cond_true, cond_false] <;> omega
theorem cnt_le {w : World} {nv rv : Value} {G : Gr} {P : Nat → Bool} {j : Int} (hG : IsG w nv rv G) : G.cnt P j ≤ 17609778230460416 := by
  have h1 := cntR_le (P := P) (j := j) (row_len hG) G.n
  have h2 : G.roots.count j ≤ G.roots.length := List.count_le_length
  have h3 := hG.rlen
  have h4 := hG.few
  unfold Gr.cnt
  omega
/-! ### 2. What counting frees, by rounds -/
def Gr.fr (G : Gr) : Nat → Nat → Bool
  | 0, _ => false
  | r + 1, j => G.fr r j || decide (G.cnt (G.fr r) (j : Int) = 0)
def Gr.fre (G : Gr) (j : Nat) : Bool := G.fr G.n j
theorem fr_mono {G : Gr} {j : Nat} : ∀ {r s : Nat}, r ≤ s → G.fr r j = true → G.fr s j = true
  | r, 0, h, hf => by obtain rfl : r = 0 := by omega
                      exact hf
  | r, s + 1, h, hf => by
    by_cases c : r = s + 1
    · subst c; exact hf
    · have := fr_mono (G := G) (j := j) (show r ≤ s by omega) hf
      simp [Gr.fr, this]
/-! ### 3. By a row of those that are free -/
structure WI (G : Gr) (at_ : Nat) (pre : List Int) (C : List Int) (q : List Nat) : Prop where
  len : C.length = G.n
  nd : q.Nodup
  lt : ∀ x ∈ q, x < G.n
  val : ∀ j (h : j < C.length), C[j] + (pre.count (j : Int) : Int) = (G.cnt (fun k => decide (k ∈ q.take at_)) (j : Int) : Int)
  zero : ∀ j (h : j < C.length), j ∈ q ↔ C[j] = 0
  just : ∀ p (h : p < q.length), G.cnt (fun k => decide (k ∈ q.take p)) (q[p] : Int) = 0
theorem WI.qlen {G : Gr} {at_ : Nat} {pre C : List Int} {q : List Nat} (h : WI G at_ pre C q) : q.length ≤ G.n := nodup_lt_length _ q h.nd h.lt
theorem WI.nonneg {G : Gr} {at_ : Nat} {pre C : List Int} {q : List Nat} (h : WI G at_ pre C q) {suf : List Int} (hs : ∃ hq : at_ < q.length, G.nod (G.row q[at_]) = pre ++ suf) : ∀ j (hj : j < C.length), (suf.count (j : Int) : Int) ≤ C[j] := by
  intro j hj
  obtain ⟨hq, he⟩ := hs
  have h1 := h.val j hj
  have h2 : (decide (q[at_] ∈ q.take at_)) = false := by
    refine decide_eq_false fun c => ?_
    obtain ⟨i, hi, e⟩ := List.getElem_of_mem c
    rw [List.getElem_take] at e
    rw [List.length_take] at hi
    exact absurd e (List.pairwise_iff_getElem.1 h.nd i at_ (by omega) hq (by omega))
  have h3 := cnt_row (G := G) (P := fun k => decide (k ∈ q.take at_)) (j := (j : Int)) (i := q[at_]) h2 (h.lt _ (List.getElem_mem _))
  have h4 : (G.row q[at_]).count (j : Int) = pre.count (j : Int) + suf.count (j : Int) := by
    rw [← nod_count (G := G) (by rw [← h.len]; exact hj), he, List.count_append]
  omega
/-- An edge taken away. -/
theorem WI.step {G : Gr} {at_ k : Nat} {pre C suf : List Int} {q : List Nat} (h : WI G at_ pre C q) (hs : ∃ hq : at_ < q.length, G.nod (G.row q[at_]) = pre ++ (k : Int) :: suf) (hk : k < C.length) :
    (C[k] - 1 ≠ 0 → WI G at_ (pre ++ [(k : Int)]) (C.set k (C[k] - 1)) q) ∧ (C[k] - 1 = 0 → WI G at_ (pre ++ [(k : Int)]) (C.set k (C[k] - 1)) (q ++ [k])) := by
  have hpos := h.nonneg hs k hk
  rw [List.count_cons_self] at hpos
  have hge : 1 ≤ C[k] := by omega
  obtain ⟨hq, he⟩ := hs
  have hcnt : ∀ j : Nat, ((pre ++ [(k : Int)]).count (j : Int) : Int) = (pre.count (j : Int) : Int) + if k = j then 1 else 0 := fun j => by
    rw [List.count_append, List.count_singleton]
    by_cases c : k = j
    · subst c; simp
    · have : ¬ ((k : Int) = (j : Int)) := by omega
      simp [c, this]
  have hval : ∀ j (hj : j < (C.set k (C[k] - 1)).length), (C.set k (C[k] - 1))[j] + ((pre ++ [(k : Int)]).count (j : Int) : Int) = (G.cnt (fun k => decide (k ∈ q.take at_)) (j : Int) : Int) := fun j hj => by
    simp only [List.length_set] at hj
    have := h.val j hj
    rw [hcnt, List.getElem_set]
    by_cases c : k = j
    · subst c; rw [if_pos rfl, if_pos rfl]; omega
    · rw [if_neg c, if_neg c]; omega
  refine ⟨fun hne => ⟨by simpa using h.len, h.nd, h.lt, hval, fun j hj => ?_, h.just⟩, fun hz => ?_⟩
  · simp only [List.length_set] at hj
    rw [List.getElem_set]
    by_cases c : k = j
    · subst c
      rw [if_pos rfl, h.zero k hk]
      omega
    · rw [if_neg c]; exact h.zero j hj
  · have hkq : k ∉ q := fun c => by have := (h.zero k hk).1 c; omega
    have htk : (q ++ [k]).take at_ = q.take at_ := List.take_append_of_le_length (by omega)
    refine ⟨by simpa using h.len, List.nodup_append.2 ⟨h.nd, by simp, by simp; exact fun x hx e => hkq (e ▸ hx)⟩, fun x hx => ?_, fun j hj => by rw [htk]; exact hval j hj, fun j hj => ?_, fun p hp => ?_⟩
    · rcases List.mem_append.1 hx with hx | hx
      · exact h.lt x hx
      · simp only [List.mem_singleton] at hx; subst hx; rw [← h.len]; exact hk
    · simp only [List.length_set] at hj
      rw [List.getElem_set]
      by_cases c : k = j
      · subst c
        rw [if_pos rfl]
        simp [hz]
      · rw [if_neg c, ← h.zero j hj]
        simp only [List.mem_append, List.mem_singleton]
        constructor
        · rintro (x | x)
          · exact x
          · exact absurd x.symm c
        · exact .inl
    · simp only [List.length_append, List.length_singleton] at hp
      by_cases c : p < q.length
      · rw [List.getElem_append_left c, List.take_append_of_le_length (by omega)]
        exact h.just p c
      · have ep : p = q.length := by omega
        subst ep
        have e1 : (q ++ [k])[q.length] = k := by simp
        rw [e1, List.take_left' rfl]
        have h2 : (decide (q[at_] ∈ q.take at_)) = false := by
          refine decide_eq_false fun c => ?_
          obtain ⟨i, hi, e⟩ := List.getElem_of_mem c
          rw [List.getElem_take] at e
          rw [List.length_take] at hi
          exact absurd e (List.pairwise_iff_getElem.1 h.nd i at_ (by omega) hq (by omega))
        have h3 := cnt_ins (G := G) (P := fun k => decide (k ∈ q.take at_)) (j := (k : Int)) (i := q[at_]) h2 (h.lt _ (List.getElem_mem _))
        have h4 : (G.row q[at_]).count (k : Int) = pre.count (k : Int) + ((k : Int) :: suf).count (k : Int) := by
          rw [← nod_count (G := G) (by rw [← h.len]; exact hk), he, List.count_append]
        rw [List.count_cons_self] at h4
        have h5 := h.val k hk
        have h6 : G.cnt (fun x => decide (x ∈ q)) (k : Int) ≤ G.cnt (upd (fun k => decide (k ∈ q.take at_)) q[at_] true) (k : Int) := by
          refine cnt_mono fun x hx => ?_
          rw [upd_ap] at hx
          split at hx
          · rename_i e; subst e; exact decide_eq_true (List.getElem_mem _)
          · exact decide_eq_true (List.mem_of_mem_take (of_decide_eq_true hx))
        omega
theorem WI.next {G : Gr} {at_ : Nat} {C : List Int} {q : List Nat} (hq : at_ < q.length) (h : WI G at_ (G.nod (G.row q[at_])) C q) : WI G (at_ + 1) [] C q := by
  refine ⟨h.len, h.nd, h.lt, fun j hj => ?_, h.zero, h.just⟩
  have h1 := h.val j hj
  have h2 : (decide (q[at_] ∈ q.take at_)) = false := by
    refine decide_eq_false fun c => ?_
    obtain ⟨i, hi, e⟩ := List.getElem_of_mem c
    rw [List.getElem_take] at e
    rw [List.length_take] at hi
    exact absurd e (List.pairwise_iff_getElem.1 h.nd i at_ (by omega) hq (by omega))
  have h3 := cnt_ins (G := G) (P := fun k => decide (k ∈ q.take at_)) (j := (j : Int)) (i := q[at_]) h2 (h.lt _ (List.getElem_mem _))
  rw [nod_count (by rw [← h.len]; exact hj)] at h1
  have h4 : G.cnt (fun k => decide (k ∈ q.take (at_ + 1))) (j : Int) = G.cnt (upd (fun k => decide (k ∈ q.take at_)) q[at_] true) (j : Int) := by
    refine cnt_congr fun k _ => ?_
    rw [upd_ap, List.take_succ_eq_append_getElem hq]
    by_cases c : k = q[at_]
    · rw [if_pos c]
      exact decide_eq_true (by rw [c]; exact List.mem_append_right _ (List.mem_singleton.2 rfl))
    · rw [if_neg c]
      refine decide_eq_decide.2 ?_
      simp only [List.mem_append, List.mem_singleton, c, or_false]
  rw [h4]
  simp only [List.count_nil]
  omega
/-- When all are gone through: just those that are free by rounds. -/
theorem WI.fin {G : Gr} {at_ : Nat} {C : List Int} {q : List Nat} (h : WI G at_ [] C q) (ha : q.length ≤ at_) {j : Nat} (hj : j < G.n) : decide (j ∈ q) = G.fre j := by
  have htk : q.take at_ = q := List.take_of_length_le ha
  have hj' : j < C.length := by rw [h.len]; exact hj
  refine dec_bool ⟨fun hm => ?_, fun hf => ?_⟩
  · have key : ∀ p (hp : p < q.length), G.fr (p + 1) q[p] = true := by
      intro p
      induction p using Nat.strongRecOn with
      | _ p ih =>
        intro hp
        have hz := h.just p hp
        have hle : G.cnt (G.fr p) (q[p] : Int) ≤ G.cnt (fun k => decide (k ∈ q.take p)) (q[p] : Int) := by
          refine cnt_mono fun k hk => ?_
          obtain ⟨i, hi, e⟩ := List.getElem_of_mem (of_decide_eq_true hk)
          rw [List.getElem_take] at e
          rw [List.length_take] at hi
          rw [← e]
          exact fr_mono (show i + 1 ≤ p by omega) (ih i (by omega) (by omega))
        have : G.cnt (G.fr p) (q[p] : Int) = 0 := by omega
        simp [Gr.fr, this]
    obtain ⟨p, hp, rfl⟩ := List.getElem_of_mem hm
    exact fr_mono (show p + 1 ≤ G.n by have := h.qlen; omega) (key p hp)
  · have key : ∀ r j, j < G.n → G.fr r j = true → j ∈ q := by
      intro r
      induction r with
      | zero => intro j _ hf; cases hf
      | succ r ih =>
        intro j hj hf
        simp only [Gr.fr, Bool.or_eq_true, decide_eq_true_eq] at hf
        rcases hf with hf | hf
        · exact ih j hj hf
        · have hj' : j < C.length := by rw [h.len]; exact hj
          have h1 := h.val j hj'
          rw [htk] at h1
          have h2 : G.cnt (fun k => decide (k ∈ q)) (j : Int) ≤ G.cnt (fun k => decide (k < G.n) && G.fr r k) (j : Int) := by
            refine cnt_mono fun k hk => ?_
            simp only [Bool.and_eq_true, decide_eq_true_eq] at hk
            exact decide_eq_true (ih k hk.1 hk.2)
          have h3 : G.cnt (fun k => decide (k < G.n) && G.fr r k) (j : Int) = G.cnt (G.fr r) (j : Int) := cnt_congr fun k hk => by rw [decide_eq_true hk, Bool.true_and]
          refine (h.zero j hj').2 ?_
          simp only [List.count_nil] at h1
          omega
    exact key G.n j hj hf
/-- What counting frees can't be reached. -/
theorem free_dead {G : Gr} {j : Nat} (hf : G.fre j = true) : G.rch j = false := by
  cases hr : G.rch j with
  | false => rfl
  | true =>
    have key : ∀ r j, G.rch j = true → G.fr r j = false := by
      intro r
      induction r with
      | zero => intro j _; rfl
      | succ r ih =>
        intro j hr
        have h1 := ih j hr
        have h2 : G.cnt (G.fr r) (j : Int) ≠ 0 := by
          refine rch_ind (G := G) (p := fun j => G.cnt (G.fr r) (j : Int) ≠ 0) (fun j hj hroot => ?_) (fun a b ha _ he hb => ?_) hr
          · have : 0 < G.roots.count (j : Int) := List.count_pos_iff.2 hroot
            unfold Gr.cnt
            omega
          · have hab : (b : Int) ∈ G.row a := by simpa [Gr.edge] using he
            have h3 : 0 < (G.row a).count (b : Int) := List.count_pos_iff.2 hab
            have := cnt_row (G := G) (P := G.fr r) (j := (b : Int)) (i := a) (ih a ha) (rch_node ha)
            omega
        simp [Gr.fr, h1, h2]
    rw [Gr.fre, key _ _ hr] at hf
    cases hf
end Go.Proofs.YtchonfdnghimdaaV
