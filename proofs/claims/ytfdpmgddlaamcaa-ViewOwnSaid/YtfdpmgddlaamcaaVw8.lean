/- All lists of a view, one behind the other; values and bools looked for: what the calls come to. -/
import Derived.Test.YtfdpmgddlaamcaaVw7
import Derived.Lib.AppendZeros
namespace Go.Proofs.YtfdpmgddlaamcaaV
open Go Go.Proofs Go.RowKit
set_option linter.unusedVariables false
set_option linter.unusedSimpArgs false
set_option maxRecDepth 10000
def listsOf (V : Vw) : List (List Va) := V.1 ++ V.2.map Prod.snd
theorem listsOf_flat (V : Vw) : (listsOf V).flatten = allOf V := by
  unfold listsOf allOf
  rw [List.flatten_append, List.flatMap_def]
section
variable {K : VK} {w : World}
theorem slC_one {l : List Value} (h : ∀ v ∈ l, v.oneCell' = true) : ∀ y ∈ slC l, ∀ u ∈ y, u.oneCell' = true := by
  intro y hy u hu
  simp only [slC, List.mem_map] at hy
  obtain ⟨x, hx, rfl⟩ := hy
  simp only [List.mem_cons, List.not_mem_nil, or_false] at hu
  subst hu
  exact h _ hx
theorem bs48_0 : (Instr.buildSlice 48 0 #[]).run Try.prog w = .ok (.slice (some ⟨w.heap.size, 0, none⟩) 0 0) (w.alloc (.cells #[] 59)) := by kernel_rfl
theorem CloneRows_c {v : Value} {l : List Value} (hv : RdS w v 1 (slC l)) (h1 : ∀ v ∈ l, v.oneCell' = true) (hl : l.length * 24 ≤ 140737488355328) (h : ∀ v' w', Fr [] w w' → OwnS w' v' 59 1 (slC l) → NewS w v' → K v' w') : C.call Try.prog 106 #[v] w K := by
  have hv' := hv
  obtain ⟨A, c, rfl, h2, h3, h4⟩ := hv
  refine F106.sh ⟨_, eq_slice_nil (e := 59) _ _ _ _ _ Try.underlying48, ?_⟩
  cases A with
  | none =>
    have : l = [] := by
      cases l with
      | nil => rfl
      | cons x l => obtain ⟨g, o, cs, e, fz, hA, _⟩ := h4 (by simp [slC]); cases hA
    subst this
    simp only [Option.isNone_none, C.ite_true, C.ite_false, C.pick_true, C.pick_false, C.not_bool, C.field_ptr, C.nilCheck_ptr, C.add_mk, C.sub_mk, C.mul_mk, C.eql_mk, C.neq_mk, C.lss_mk, C.leq_mk, C.gtr_mk, C.geq_mk, C.conv_mk, C.len_mk, C.ext_0, C.ext_1, C.ext3_0, C.ext3_1, C.ext3_2, C.guarded_yes, C.guarded_tf, C.guarded_ft, C.guarded_undef, Bool.not_true, Bool.not_false, Nat.zero_add, eq_self, decide_true, decide_false]
    exact h _ w (Fr.refl _ _) (OwnS.nil w 59 1) (NewS.nil w)
  | some a =>
    simp only [Option.isNone_some, C.ite_true, C.ite_false, C.pick_true, C.pick_false, C.not_bool, C.field_ptr, C.nilCheck_ptr, C.add_mk, C.sub_mk, C.mul_mk, C.eql_mk, C.neq_mk, C.lss_mk, C.leq_mk, C.gtr_mk, C.geq_mk, C.conv_mk, C.len_mk, C.ext_0, C.ext_1, C.ext3_0, C.ext3_1, C.ext3_2, C.guarded_yes, C.guarded_tf, C.guarded_ft, C.guarded_undef, Bool.not_true, Bool.not_false, Nat.zero_add, eq_self, decide_true, decide_false]
    refine F106.k3.to (C.run_of bs48_0 ?_)
    have hn := New.mk' w (.cells #[] 59)
    refine C.append_of (xs := []) (e := 59) (sz := 1) (bytes := 24) (z := .slice none 0 0) Try.underlying48 (by kernel_rfl) rfl (by decide) (OwnS.of_block hn.at_ rfl (by simp) (by simp) rfl (by simp) (by simp)) (hv'.keep hn.fr) (slC_one h1) (by rw [slC_len]; simp; omega) (by rw [slC_len]; simp; omega) fun v' w' ho hf hb _ => ?_
    refine h v' w' (hn.fr.then hf fun x hx => ?_) (by simpa using ho) fun g hg => ?_
    · rw [mem_blkS] at hx
      simp only [Value.ownBlock, Option.some.injEq] at hx
      exact .inr (by omega)
    · rcases hb with hb | ⟨g', hb, hle⟩
      · rw [hb] at hg
        simp only [Value.ownBlock, Option.some.injEq] at hg
        omega
      · rw [hg] at hb
        simp only [Option.some.injEq] at hb
        have := hn.fr.size
        omega
/-- Rows, and their spine of the call's own. -/
structure LR (W0 w : World) (o : Value) (L : List (List Va)) (vs : List Value) : Prop where
  fr : Fr [] W0 w
  sp : OwnS w o 59 1 (slC vs)
  nw : NewS W0 o
  len : vs.length = L.length
  row : ∀ i (h : i < L.length) (h' : i < vs.length), RdS W0 vs[i] 2 (valC L[i])
theorem lists_loop {W0 : World} {nv : Value} {N : List Nd} {R : List (List Va)} (hN : NodesAt W0 nv N) (hL : (R.length + N.length) * 24 ≤ 140737488355328) (h : ∀ o vs w', LR W0 w' o (R ++ N.map Prod.snd) vs → K o w') :
    ∀ (d j : Nat) (o : Value) (vs : List Value) (w : World), N.length = j + d → LR W0 w o (R ++ (N.take j).map Prod.snd) vs → F62.l3 K o nv (.int .i64 (N.length : Int)) (.int .i64 (j : Int)) w := by
  obtain ⟨fs, hfl, hsp, hrow⟩ := hN
  have hN : NodesAt W0 nv N := ⟨fs, hfl, hsp, hrow⟩
  have hle := hN.le
  intro d
  induction d with
  | zero =>
    intro j o vs w hj hl
    refine F62.l3.to ?_
    simp only [C.ite_true, C.ite_false, C.pick_true, C.pick_false, C.not_bool, C.field_ptr, C.nilCheck_ptr, C.add_mk, C.sub_mk, C.mul_mk, C.eql_mk, C.neq_mk, C.lss_mk, C.leq_mk, C.gtr_mk, C.geq_mk, C.conv_mk, C.len_mk, C.ext_0, C.ext_1, C.ext3_0, C.ext3_1, C.ext3_2, C.guarded_yes, C.guarded_tf, C.guarded_ft, C.guarded_undef, Bool.not_true, Bool.not_false, Nat.zero_add, eq_self, decide_true, decide_false, show ¬ ((j : Int) < (N.length : Int)) by omega]
    rw [List.take_of_length_le (by omega)] at hl
    exact F62.k7.to (h o vs w hl)
  | succ d ih =>
    intro j o vs w hj hl
    have jl : j < N.length := by omega
    have jf : j < fs.length := by omega
    refine F62.l3.to ?_
    simp only [C.ite_true, C.ite_false, C.pick_true, C.pick_false, C.not_bool, C.field_ptr, C.nilCheck_ptr, C.add_mk, C.sub_mk, C.mul_mk, C.eql_mk, C.neq_mk, C.lss_mk, C.leq_mk, C.gtr_mk, C.geq_mk, C.conv_mk, C.len_mk, C.ext_0, C.ext_1, C.ext3_0, C.ext3_1, C.ext3_2, C.guarded_yes, C.guarded_tf, C.guarded_ft, C.guarded_undef, Bool.not_true, Bool.not_false, Nat.zero_add, eq_self, decide_true, decide_false, show ((j : Int) < (N.length : Int)) by omega]
    refine F62.k4.to (C.idx_rd (hsp.keep hl.fr) (by omega) (by rw [Int.toNat_natCast]; exact ndC_get jl jf) fun g oo cs e fz hg _ hc => ?_)
    have hr0 := hrow j jl jf
    have hr := hr0.keep hl.fr
    refine loadNd hg (by simpa using hc 0 (by omega)) (by simpa using hc 1 (by omega)) (C.putNd hr fun b w1 hf1 hb0 hb => ?_)
    simp only [C.ite_true, C.ite_false, C.pick_true, C.pick_false, C.not_bool, C.field_ptr, C.nilCheck_ptr, C.add_mk, C.sub_mk, C.mul_mk, C.eql_mk, C.neq_mk, C.lss_mk, C.leq_mk, C.gtr_mk, C.geq_mk, C.conv_mk, C.len_mk, C.ext_0, C.ext_1, C.ext3_0, C.ext3_1, C.ext3_2, C.guarded_yes, C.guarded_tf, C.guarded_ft, C.guarded_undef, Bool.not_true, Bool.not_false, Nat.zero_add, eq_self, decide_true, decide_false]
    have hone := hr.one
    have sp1 := hl.sp.keep hf1 (by simp)
    have hlen : vs.length = R.length + j := by rw [hl.len]; simp; omega
    refine C.load1_of (v := fs[j]) hb rfl ?_
    obtain ⟨A, c, hA, _⟩ := hr
    rw [hA] at hone ⊢
    refine C.app1 (W0 := W0) (x := [.slice A (valC N[j].2).length c]) (e := 59) (sz := 1) (bytes := 24) (z := .slice none 0 0) Try.underlying48 (by kernel_rfl) rfl (by decide) (bs48 _ _ _) rfl (by simpa using hone.1) (hl.fr.trans hf1) hl.nw sp1 (by rw [slC_len]; omega) (by rw [slC_len]; omega) fun o' w2 hf2 hn2 ho2 _ _ => ?_
    refine F62.k6.to ?_
    simp only [C.ite_true, C.ite_false, C.pick_true, C.pick_false, C.not_bool, C.field_ptr, C.nilCheck_ptr, C.add_mk, C.sub_mk, C.mul_mk, C.eql_mk, C.neq_mk, C.lss_mk, C.leq_mk, C.gtr_mk, C.geq_mk, C.conv_mk, C.len_mk, C.ext_0, C.ext_1, C.ext3_0, C.ext3_1, C.ext3_2, C.guarded_yes, C.guarded_tf, C.guarded_ft, C.guarded_undef, Bool.not_true, Bool.not_false, Nat.zero_add, eq_self, decide_true, decide_false]
    rw [wrap64_id (n := (j : Int) + 1) (by omega), show (j : Int) + 1 = ((j + 1 : Nat) : Int) by omega]
    have e1 : R ++ (N.take (j + 1)).map Prod.snd = (R ++ (N.take j).map Prod.snd) ++ [N[j].2] := by rw [List.take_succ_eq_append_getElem jl, List.map_append, List.append_assoc]; rfl
    refine ih (j + 1) o' (vs ++ [fs[j]]) w2 (by omega) ⟨hf2, by rw [slC_app, hA]; exact ho2, hn2, by rw [e1, List.length_append, List.length_append, hl.len]; rfl, fun i a b => ?_⟩
    by_cases ei : i < vs.length
    · have ei' : i < (R ++ (N.take j).map Prod.snd).length := by rw [← hl.len]; exact ei
      simp only [e1]
      rw [List.getElem_append_left ei, List.getElem_append_left ei']
      exact hl.row i ei' ei
    · have ei2 : i = vs.length := by simp at b; omega
      have hll := hl.len
      simp only [e1]
      rw [List.getElem_append_right (by omega), List.getElem_append_right (by omega)]
      simp only [ei2, hll, Nat.sub_self, List.getElem_cons_zero]
      exact hr0
theorem lists_c {rv nv : Value} {V : Vw} (hV : IsV w rv nv V) (hF : FitV V) (hS : (V.1.length + V.2.length) * 24 ≤ 140737488355328) (h : ∀ o vs w', LR w w' o (listsOf V) vs → K o w') : C.call Try.prog 62 #[.agg #[rv, nv]] w K := by
  have q1 := hF.rows
  have q2 := hF.nodes
  refine F62.sh (VB.new hV fun b w1 hf1 _ hb hV1 => hb.f0 ?_)
  obtain ⟨vs, h1, h2, h3⟩ := hV.rows
  have hones : ∀ v ∈ vs, v.oneCell' = true := fun v hv => by
    obtain ⟨i, hi, rfl⟩ := List.getElem_of_mem hv
    exact (h3 i (by omega) hi).one.1
  refine CloneRows_c (h1.keep hf1) hones (by omega) fun o w2 hf2 ho2 hn2 => (hb.keep hf2 (by simp)).f1 (hV.nodes.len ?_)
  have f2 := hf1.trans hf2
  exact lists_loop (W0 := w) (R := V.1) hV.nodes (by omega) h V.2.length 0 o vs w2 (by omega) ⟨f2, ho2, hn2.mono hf1.size, by simpa using h2, fun i a b => by
    have a' : i < V.1.length := by simpa using a
    simp only [List.take_zero, List.map_nil, List.append_nil]
    exact h3 i a' b⟩
theorem GrowV_c {n : Nat} (hn : n ≤ 4000000000000) (h : ∀ v w', Fr [] w w' → OwnS w' v 71 2 [] → NewS w v → K v w') : C.call Try.prog 105 #[.slice none 0 0, .int .i64 (n : Int)] w K := by
  refine F105.sh ?_
  simp only [C.ite_true, C.ite_false, C.pick_true, C.pick_false, C.not_bool, C.field_ptr, C.nilCheck_ptr, C.add_mk, C.sub_mk, C.mul_mk, C.eql_mk, C.neq_mk, C.lss_mk, C.leq_mk, C.gtr_mk, C.geq_mk, C.conv_mk, C.len_mk, C.ext_0, C.ext_1, C.ext3_0, C.ext3_1, C.ext3_2, C.guarded_yes, C.guarded_tf, C.guarded_ft, C.guarded_undef, Bool.not_true, Bool.not_false, Nat.zero_add, eq_self, decide_true, decide_false, show ¬ ((n : Int) < 0) by omega]
  have rc : ∀ (A : Option Addr) (m c : Nat) (w : World), (Builtin.cap_ #[59] 3 #[.slice A m c]).run Try.prog w = .ok (.int .i64 (c : Int)) w := fun A m c w => by
    simp [Builtin.cap_, underlying, Try.underlying59, goInt]
  refine F105.k3.to (C.run_of (rc none 0 0 w) ?_)
  simp only [C.ite_true, C.ite_false, C.pick_true, C.pick_false, C.not_bool, C.field_ptr, C.nilCheck_ptr, C.add_mk, C.sub_mk, C.mul_mk, C.eql_mk, C.neq_mk, C.lss_mk, C.leq_mk, C.gtr_mk, C.geq_mk, C.conv_mk, C.len_mk, C.ext_0, C.ext_1, C.ext3_0, C.ext3_1, C.ext3_2, C.guarded_yes, C.guarded_tf, C.guarded_ft, C.guarded_undef, Bool.not_true, Bool.not_false, Nat.zero_add, eq_self, decide_true, decide_false]
  rw [wrap64_id (n := ((0 : Nat) : Int) - ((0 : Nat) : Int)) (by omega), wrap64_id (by omega), show (n : Int) - (((0 : Nat) : Int) - ((0 : Nat) : Int)) = (n : Int) by omega]
  by_cases h0 : 0 < n
  · simp only [C.ite_true, C.ite_false, C.pick_true, C.pick_false, C.not_bool, C.field_ptr, C.nilCheck_ptr, C.add_mk, C.sub_mk, C.mul_mk, C.eql_mk, C.neq_mk, C.lss_mk, C.leq_mk, C.gtr_mk, C.geq_mk, C.conv_mk, C.len_mk, C.ext_0, C.ext_1, C.ext3_0, C.ext3_1, C.ext3_2, C.guarded_yes, C.guarded_tf, C.guarded_ft, C.guarded_undef, Bool.not_true, Bool.not_false, Nat.zero_add, eq_self, decide_true, decide_false, show (n : Int) > 0 by omega]
    refine C.run_of (rc none 0 0 w) ?_
    have r1 := sliceTo_run (P := Try.prog) (w := w) (t := 59) (e := 71) (sz := 2) none 0 0 .i64 ((0 : Nat) : Int) Try.underlying59 (by kernel_rfl) (by omega) (by omega)
    refine C.run_of r1 ?_
    obtain ⟨i0, hi, hzz⟩ : ∃ i0, Try.prog.info? 71 = some i0 ∧ (i0.zero, i0.size, i0.bytes) = (some (.agg #[.int .i64 0, .int .i64 0]), 2, 16) := by
      have : (Try.prog.info? 71).map (fun i => (i.zero, i.size, i.bytes)) = some (some (.agg #[.int .i64 0, .int .i64 0]), 2, 16) := by kernel_rfl
      exact Option.map_eq_some_iff.1 this
    simp only [Prod.mk.injEq] at hzz
    have r2 := Go.Lib.run_append_nil_zeros (P := Try.prog) w 59 3 59 71 i0 (.agg #[.int .i64 0, .int .i64 0]) .i64 .i64 Try.underlying59 Try.underlying3 hi hzz.1 n h0 (by rw [hzz.2.1]; omega) (by omega) (by rw [hzz.2.2]; omega)
    rw [show ((0 : Nat) : Int).toNat = 0 from rfl]
    refine C.run_of r2 ?_
    try simp only [C.ite_true, C.ite_false, C.pick_true, C.pick_false, C.not_bool, C.field_ptr, C.nilCheck_ptr, C.add_mk, C.sub_mk, C.mul_mk, C.eql_mk, C.neq_mk, C.lss_mk, C.leq_mk, C.gtr_mk, C.geq_mk, C.conv_mk, C.len_mk, C.ext_0, C.ext_1, C.ext3_0, C.ext3_1, C.ext3_2, C.guarded_yes, C.guarded_tf, C.guarded_ft, C.guarded_undef, Bool.not_true, Bool.not_false, Nat.zero_add, eq_self, decide_true, decide_false]
    have hge := grownCap_ge w n 0 71
    have hle := grownCap_le_maxLen w n 0 71 (by unfold maxLen; omega)
    generalize hcap : grownCap w n 0 71 = cap at *
    have r3 := fun w' => sliceTo_run (P := Try.prog) (w := w') (t := 59) (e := 71) (sz := 2) (some ⟨w.heap.size, 0, none⟩) n cap .i64 ((0 : Nat) : Int) Try.underlying59 (by kernel_rfl) (by omega) (by omega)
    refine C.run_of (r3 _) (F105.k6.to ?_)
    have hw := New.mk' w.drew (.cells (Builtin.zeroCells (Value.agg #[.int .i64 0, .int .i64 0]).cells n ++ Builtin.zeroCells (Value.agg #[.int .i64 0, .int .i64 0]).cells (cap - n)) 71)
    have fd : Fr [] w w.drew := Fr.drew w
    have e := hw.is
    rw [show ((0 : Nat) : Int).toNat = 0 from rfl]
    refine h _ _ (fd.trans hw.fr) (OwnS.of_block hw.at_ (by simp) (by omega) (by unfold maxLen at hle; omega) ?_ (by simp) (by simp)) fun g hg => ?_
    · simp [Builtin.zeroCells, Value.cells]; omega
    · simp only [Value.ownBlock, Option.some.injEq] at hg
      omega
  · simp only [C.ite_true, C.ite_false, C.pick_true, C.pick_false, C.not_bool, C.field_ptr, C.nilCheck_ptr, C.add_mk, C.sub_mk, C.mul_mk, C.eql_mk, C.neq_mk, C.lss_mk, C.leq_mk, C.gtr_mk, C.geq_mk, C.conv_mk, C.len_mk, C.ext_0, C.ext_1, C.ext3_0, C.ext3_1, C.ext3_2, C.guarded_yes, C.guarded_tf, C.guarded_ft, C.guarded_undef, Bool.not_true, Bool.not_false, Nat.zero_add, eq_self, decide_true, decide_false, show ¬ ((n : Int) > 0) by omega]
    exact F105.k6.to (h _ w (Fr.refl _ _) (OwnS.nil _ _ _) (NewS.nil _))
theorem concat_loop {W0 W1 : World} {xv : Value} {ws : List Value} {Ls : List (List Va)} (hx : RdS W1 xv 1 (slC ws)) (hl : ws.length = Ls.length) (ha : ∀ i (h : i < Ls.length) (h' : i < ws.length), RdS W1 ws[i] 2 (valC Ls[i])) (hn : Ls.flatten.length ≤ 4000000000000)
    (h : ∀ v w', Fr [] W1 w' → NewS W1 v → OwnS w' v 71 2 (valC Ls.flatten) → K v w') :
    ∀ (d i : Nat) (v : Value) (w : World), ws.length = i + d → Fr [] W1 w → NewS W1 v → OwnS w v 71 2 (valC (Ls.take i).flatten) → F61.l11 K v xv (.int .i64 (ws.length : Int)) (.int .i64 (i : Int)) w := by
  have hle := hx.le
  rw [slC_len] at hle
  intro d
  induction d with
  | zero =>
    intro i v w hi hf hn' ho
    refine F61.l11.to ?_
    simp only [C.ite_true, C.ite_false, C.pick_true, C.pick_false, C.not_bool, C.field_ptr, C.nilCheck_ptr, C.add_mk, C.sub_mk, C.mul_mk, C.eql_mk, C.neq_mk, C.lss_mk, C.leq_mk, C.gtr_mk, C.geq_mk, C.conv_mk, C.len_mk, C.ext_0, C.ext_1, C.ext3_0, C.ext3_1, C.ext3_2, C.guarded_yes, C.guarded_tf, C.guarded_ft, C.guarded_undef, Bool.not_true, Bool.not_false, Nat.zero_add, eq_self, decide_true, decide_false, show ¬ ((i : Int) < (ws.length : Int)) by omega]
    rw [List.take_of_length_le (by omega)] at ho
    exact F61.k15.to (h v w hf hn' ho)
  | succ d ih =>
    intro i v w hi hf hn' ho
    have ia : i < ws.length := by omega
    have iL : i < Ls.length := by omega
    refine F61.l11.to ?_
    simp only [C.ite_true, C.ite_false, C.pick_true, C.pick_false, C.not_bool, C.field_ptr, C.nilCheck_ptr, C.add_mk, C.sub_mk, C.mul_mk, C.eql_mk, C.neq_mk, C.lss_mk, C.leq_mk, C.gtr_mk, C.geq_mk, C.conv_mk, C.len_mk, C.ext_0, C.ext_1, C.ext3_0, C.ext3_1, C.ext3_2, C.guarded_yes, C.guarded_tf, C.guarded_ft, C.guarded_undef, Bool.not_true, Bool.not_false, Nat.zero_add, eq_self, decide_true, decide_false, show ((i : Int) < (ws.length : Int)) by omega]
    have h2 := flat_take_le Ls (i + 1)
    rw [flat_succ iL, List.length_append] at h2
    refine F61.k12.to (C.idx_rd (hx.keep hf) (by omega) (by rw [Int.toNat_natCast]; exact slC_get ia) fun g o cs e' fz hg _ hc => C.load1_of (v := ws[i]) hg (by simpa using hc 0 (by simp)) ?_)
    refine C.appVs hf hn' ho ((ha i iL ia).keep hf) (by omega) fun v' w1 hf1 hn1 ho1 _ _ => F61.k14.to ?_
    simp only [C.ite_true, C.ite_false, C.pick_true, C.pick_false, C.not_bool, C.field_ptr, C.nilCheck_ptr, C.add_mk, C.sub_mk, C.mul_mk, C.eql_mk, C.neq_mk, C.lss_mk, C.leq_mk, C.gtr_mk, C.geq_mk, C.conv_mk, C.len_mk, C.ext_0, C.ext_1, C.ext3_0, C.ext3_1, C.ext3_2, C.guarded_yes, C.guarded_tf, C.guarded_ft, C.guarded_undef, Bool.not_true, Bool.not_false, Nat.zero_add, eq_self, decide_true, decide_false]
    rw [wrap64_id (n := (i : Int) + 1) (by omega), show (i : Int) + 1 = ((i + 1 : Nat) : Int) by omega]
    exact ih (i + 1) v' w1 (by omega) hf1 hn1 (by rw [flat_succ iL]; exact ho1)
theorem concat_len {xv : Value} {ws : List Value} {Ls : List (List Va)} (hx : RdS w xv 1 (slC ws)) (hl : ws.length = Ls.length) (ha : ∀ i (h : i < Ls.length) (h' : i < ws.length), RdS w ws[i] 2 (valC Ls[i])) (hn : Ls.flatten.length ≤ 4000000000000)
    (h : F61.k9 K xv (.int .i64 (Ls.flatten.length : Int)) w) :
    ∀ (d i : Nat), ws.length = i + d → F61.l3 K xv (.int .i64 ((Ls.take i).flatten.length : Int)) xv (.int .i64 (ws.length : Int)) (.int .i64 (i : Int)) w := by
  have hle := hx.le
  rw [slC_len] at hle
  intro d
  induction d with
  | zero =>
    intro i hi
    refine F61.l3.to ?_
    simp only [C.ite_true, C.ite_false, C.pick_true, C.pick_false, C.not_bool, C.field_ptr, C.nilCheck_ptr, C.add_mk, C.sub_mk, C.mul_mk, C.eql_mk, C.neq_mk, C.lss_mk, C.leq_mk, C.gtr_mk, C.geq_mk, C.conv_mk, C.len_mk, C.ext_0, C.ext_1, C.ext3_0, C.ext3_1, C.ext3_2, C.guarded_yes, C.guarded_tf, C.guarded_ft, C.guarded_undef, Bool.not_true, Bool.not_false, Nat.zero_add, eq_self, decide_true, decide_false, show ¬ ((i : Int) < (ws.length : Int)) by omega]
    rw [List.take_of_length_le (by omega)]
    exact h
  | succ d ih =>
    intro i hi
    have ia : i < ws.length := by omega
    have iL : i < Ls.length := by omega
    refine F61.l3.to ?_
    simp only [C.ite_true, C.ite_false, C.pick_true, C.pick_false, C.not_bool, C.field_ptr, C.nilCheck_ptr, C.add_mk, C.sub_mk, C.mul_mk, C.eql_mk, C.neq_mk, C.lss_mk, C.leq_mk, C.gtr_mk, C.geq_mk, C.conv_mk, C.len_mk, C.ext_0, C.ext_1, C.ext3_0, C.ext3_1, C.ext3_2, C.guarded_yes, C.guarded_tf, C.guarded_ft, C.guarded_undef, Bool.not_true, Bool.not_false, Nat.zero_add, eq_self, decide_true, decide_false, show ((i : Int) < (ws.length : Int)) by omega]
    have h2 := flat_take_le Ls (i + 1)
    have e := flat_succ iL
    rw [e, List.length_append] at h2
    refine F61.k4.to (C.idx_rd hx (by omega) (by rw [Int.toNat_natCast]; exact slC_get ia) fun g o cs e' fz hg _ hc => C.load1_of (v := ws[i]) hg (by simpa using hc 0 (by simp)) (C.len_rd (ha i iL ia) ?_))
    rw [valC_len]
    simp only [C.ite_true, C.ite_false, C.pick_true, C.pick_false, C.not_bool, C.field_ptr, C.nilCheck_ptr, C.add_mk, C.sub_mk, C.mul_mk, C.eql_mk, C.neq_mk, C.lss_mk, C.leq_mk, C.gtr_mk, C.geq_mk, C.conv_mk, C.len_mk, C.ext_0, C.ext_1, C.ext3_0, C.ext3_1, C.ext3_2, C.guarded_yes, C.guarded_tf, C.guarded_ft, C.guarded_undef, Bool.not_true, Bool.not_false, Nat.zero_add, eq_self, decide_true, decide_false]
    rw [wrap64_id (by omega), show ∀ a b : Nat, (a : Int) + (b : Int) = ((a + b : Nat) : Int) from fun a b => by omega]
    simp only [C.ite_true, C.ite_false, C.pick_true, C.pick_false, C.not_bool, C.field_ptr, C.nilCheck_ptr, C.add_mk, C.sub_mk, C.mul_mk, C.eql_mk, C.neq_mk, C.lss_mk, C.leq_mk, C.gtr_mk, C.geq_mk, C.conv_mk, C.len_mk, C.ext_0, C.ext_1, C.ext3_0, C.ext3_1, C.ext3_2, C.guarded_yes, C.guarded_tf, C.guarded_ft, C.guarded_undef, Bool.not_true, Bool.not_false, Nat.zero_add, eq_self, decide_true, decide_false, show ¬ ((((Ls.take i).flatten.length + Ls[i].length : Nat) : Int) < 0) by omega]
    refine F61.k8.to ?_
    simp only [C.ite_true, C.ite_false, C.pick_true, C.pick_false, C.not_bool, C.field_ptr, C.nilCheck_ptr, C.add_mk, C.sub_mk, C.mul_mk, C.eql_mk, C.neq_mk, C.lss_mk, C.leq_mk, C.gtr_mk, C.geq_mk, C.conv_mk, C.len_mk, C.ext_0, C.ext_1, C.ext3_0, C.ext3_1, C.ext3_2, C.guarded_yes, C.guarded_tf, C.guarded_ft, C.guarded_undef, Bool.not_true, Bool.not_false, Nat.zero_add, eq_self, decide_true, decide_false]
    rw [wrap64_id (n := (i : Int) + 1) (by omega), show (i : Int) + 1 = ((i + 1 : Nat) : Int) by omega]
    have := ih (i + 1) (by omega)
    rw [e, List.length_append] at this
    exact this
theorem Concat_c {xv : Value} {ws : List Value} {Ls : List (List Va)} (hx : RdS w xv 1 (slC ws)) (hl : ws.length = Ls.length) (ha : ∀ i (h : i < Ls.length) (h' : i < ws.length), RdS w ws[i] 2 (valC Ls[i])) (hn : Ls.flatten.length ≤ 4000000000000)
    (h : ∀ v w', Fr [] w w' → NewS w v → OwnS w' v 71 2 (valC Ls.flatten) → K v w') : C.call Try.prog 61 #[xv] w K := by
  refine F61.sh (C.len_rd hx ?_)
  rw [slC_len]
  refine concat_len hx hl ha hn (F61.k9.to (GrowV_c hn fun v w1 hf1 ho1 hn1 => C.len_rd (hx.keep hf1) ?_)) ws.length 0 (by omega)
  rw [slC_len]
  exact concat_loop (W0 := w) (W1 := w) hx hl ha hn h ws.length 0 v w1 (by omega) hf1 hn1 ho1
/-! ### Values looked for -/
theorem IdxVa_loop {W0 : World} {v f : Value} {l : List Va} {p : Va → Prop} (hv : RdS W0 v 2 (valC l))
    (hp : ∀ w' x (K' : VK), Fr [] W0 w' → (∀ w'', Fr [] w' w'' → p x → K' (.bool true) w'') → (∀ w'', Fr [] w' w'' → ¬ p x → K' (.bool false) w'') → vcCall Try.prog f [.agg #[.int .i64 x.1, .int .i64 x.2]] w' K')
    (h1 : ∀ w', Fr [] W0 w' → (¬ ∃ x ∈ l, p x) → K (.int .i64 (-1)) w') (h2 : ∀ (i : Nat) w', Fr [] W0 w' → (∃ x ∈ l, p x) → i < l.length → K (.int .i64 (i : Int)) w') :
    ∀ (d j : Nat) (w : World), l.length = j + d → Fr [] W0 w → (∀ k (h : k < l.length), k < j → ¬ p l[k]) → F107.l2 K v f (.int .i64 (l.length : Int)) (.int .i64 (j : Int)) w := by
  have hle := hv.le
  rw [valC_len] at hle
  intro d
  induction d with
  | zero =>
    intro j w hd hf hn
    refine F107.l2.to ?_
    simp only [C.ite_true, C.ite_false, C.pick_true, C.pick_false, C.not_bool, C.field_ptr, C.nilCheck_ptr, C.add_mk, C.sub_mk, C.mul_mk, C.eql_mk, C.neq_mk, C.lss_mk, C.leq_mk, C.gtr_mk, C.geq_mk, C.conv_mk, C.len_mk, C.ext_0, C.ext_1, C.ext3_0, C.ext3_1, C.ext3_2, C.guarded_yes, C.guarded_tf, C.guarded_ft, C.guarded_undef, Bool.not_true, Bool.not_false, Nat.zero_add, eq_self, decide_true, decide_false, show ¬ ((j : Int) < (l.length : Int)) by omega]
    exact F107.k7.to (h1 w hf (none_all (by omega) hn))
  | succ d ih =>
    intro j w hd hf hn
    have jl : j < l.length := by omega
    refine F107.l2.to ?_
    simp only [C.ite_true, C.ite_false, C.pick_true, C.pick_false, C.not_bool, C.field_ptr, C.nilCheck_ptr, C.add_mk, C.sub_mk, C.mul_mk, C.eql_mk, C.neq_mk, C.lss_mk, C.leq_mk, C.gtr_mk, C.geq_mk, C.conv_mk, C.len_mk, C.ext_0, C.ext_1, C.ext3_0, C.ext3_1, C.ext3_2, C.guarded_yes, C.guarded_tf, C.guarded_ft, C.guarded_undef, Bool.not_true, Bool.not_false, Nat.zero_add, eq_self, decide_true, decide_false, show ((j : Int) < (l.length : Int)) by omega]
    refine F107.k3.to (C.idx_rd (hv.keep hf) (by omega) (by rw [Int.toNat_natCast]; exact valC_get jl) fun g o cs e fz hg hl hc => C.loadA_cells (x := [.int .i64 l[j].1, .int .i64 l[j].2]) hg rfl (by omega) hc ?_)
    refine hp _ l[j] _ hf (fun w1 hf1 hy => ?_) fun w1 hf1 hy => ?_
    · simp only [C.ite_true, C.ite_false, C.pick_true, C.pick_false, C.not_bool, C.field_ptr, C.nilCheck_ptr, C.add_mk, C.sub_mk, C.mul_mk, C.eql_mk, C.neq_mk, C.lss_mk, C.leq_mk, C.gtr_mk, C.geq_mk, C.conv_mk, C.len_mk, C.ext_0, C.ext_1, C.ext3_0, C.ext3_1, C.ext3_2, C.guarded_yes, C.guarded_tf, C.guarded_ft, C.guarded_undef, Bool.not_true, Bool.not_false, Nat.zero_add, eq_self, decide_true, decide_false]
      exact h2 j w1 (hf.trans hf1) ⟨_, List.getElem_mem jl, hy⟩ jl
    · simp only [C.ite_true, C.ite_false, C.pick_true, C.pick_false, C.not_bool, C.field_ptr, C.nilCheck_ptr, C.add_mk, C.sub_mk, C.mul_mk, C.eql_mk, C.neq_mk, C.lss_mk, C.leq_mk, C.gtr_mk, C.geq_mk, C.conv_mk, C.len_mk, C.ext_0, C.ext_1, C.ext3_0, C.ext3_1, C.ext3_2, C.guarded_yes, C.guarded_tf, C.guarded_ft, C.guarded_undef, Bool.not_true, Bool.not_false, Nat.zero_add, eq_self, decide_true, decide_false]
      refine F107.k6.to ?_
      simp only [C.ite_true, C.ite_false, C.pick_true, C.pick_false, C.not_bool, C.field_ptr, C.nilCheck_ptr, C.add_mk, C.sub_mk, C.mul_mk, C.eql_mk, C.neq_mk, C.lss_mk, C.leq_mk, C.gtr_mk, C.geq_mk, C.conv_mk, C.len_mk, C.ext_0, C.ext_1, C.ext3_0, C.ext3_1, C.ext3_2, C.guarded_yes, C.guarded_tf, C.guarded_ft, C.guarded_undef, Bool.not_true, Bool.not_false, Nat.zero_add, eq_self, decide_true, decide_false]
      rw [wrap64_id (n := (j : Int) + 1) (by omega), show (j : Int) + 1 = ((j + 1 : Nat) : Int) by omega]
      exact ih (j + 1) w1 (by omega) (hf.trans hf1) (none_succ jl hy hn)
theorem HasVa_c {v f : Value} {l : List Va} {p : Va → Prop} (hv : RdS w v 2 (valC l))
    (hp : ∀ w' x (K' : VK), Fr [] w w' → (∀ w'', Fr [] w' w'' → p x → K' (.bool true) w'') → (∀ w'', Fr [] w' w'' → ¬ p x → K' (.bool false) w'') → vcCall Try.prog f [.agg #[.int .i64 x.1, .int .i64 x.2]] w' K')
    (h1 : ∀ w', Fr [] w w' → (¬ ∃ x ∈ l, p x) → K (.bool false) w') (h2 : ∀ w', Fr [] w w' → (∃ x ∈ l, p x) → K (.bool true) w') : C.call Try.prog 63 #[v, f] w K := by
  refine F63.sh (F107.sh (C.len_rd hv ?_))
  rw [valC_len]
  refine IdxVa_loop hv hp (fun w' hw hn => ?_) (fun i w' hw hy hi => ?_) l.length 0 w (by omega) (Fr.refl _ _) fun k h c => by omega
  · simp only [C.ite_true, C.ite_false, C.pick_true, C.pick_false, C.not_bool, C.field_ptr, C.nilCheck_ptr, C.add_mk, C.sub_mk, C.mul_mk, C.eql_mk, C.neq_mk, C.lss_mk, C.leq_mk, C.gtr_mk, C.geq_mk, C.conv_mk, C.len_mk, C.ext_0, C.ext_1, C.ext3_0, C.ext3_1, C.ext3_2, C.guarded_yes, C.guarded_tf, C.guarded_ft, C.guarded_undef, Bool.not_true, Bool.not_false, Nat.zero_add, eq_self, decide_true, decide_false, show ¬ ((-1 : Int) ≥ 0) by omega]
    exact h1 w' hw hn
  · simp only [C.ite_true, C.ite_false, C.pick_true, C.pick_false, C.not_bool, C.field_ptr, C.nilCheck_ptr, C.add_mk, C.sub_mk, C.mul_mk, C.eql_mk, C.neq_mk, C.lss_mk, C.leq_mk, C.gtr_mk, C.geq_mk, C.conv_mk, C.len_mk, C.ext_0, C.ext_1, C.ext3_0, C.ext3_1, C.ext3_2, C.guarded_yes, C.guarded_tf, C.guarded_ft, C.guarded_undef, Bool.not_true, Bool.not_false, Nat.zero_add, eq_self, decide_true, decide_false, show ((i : Int) ≥ 0) by omega]
    exact h2 w' hw hy
theorem bodied64 : bodied Try.prog 64 = true := by kernel_rfl
theorem bodied65 : bodied Try.prog 65 = true := by kernel_rfl
theorem odd_v {x : Va} (h1 : ∀ w', Fr [] w w' → OddVa x → K (.bool true) w') (h0 : ∀ w', Fr [] w w' → ¬ OddVa x → K (.bool false) w') : vcCall Try.prog (.func (.func 64) #[] #[]) [.agg #[.int .i64 x.1, .int .i64 x.2]] w K := by
  refine vcCall_of bodied64 (F64.sh (C.new_of fun b w1 hn => ?_))
  have hb : w1.heap[b]? = some (.cells #[.int .i64 x.1, .int .i64 x.2] 71 (0, 0)) := hn.at_
  simp only [C.ite_true, C.ite_false, C.pick_true, C.pick_false, C.not_bool, C.field_ptr, C.nilCheck_ptr, C.add_mk, C.sub_mk, C.mul_mk, C.eql_mk, C.neq_mk, C.lss_mk, C.leq_mk, C.gtr_mk, C.geq_mk, C.conv_mk, C.len_mk, C.ext_0, C.ext_1, C.ext3_0, C.ext3_1, C.ext3_2, C.guarded_yes, C.guarded_tf, C.guarded_ft, C.guarded_undef, Bool.not_true, Bool.not_false, Nat.zero_add, eq_self, decide_true, decide_false]
  refine C.load1_of (v := .int .i64 x.1) hb rfl ?_
  by_cases c1 : x.1 < 0
  · simp only [C.ite_true, C.ite_false, C.pick_true, C.pick_false, C.not_bool, C.field_ptr, C.nilCheck_ptr, C.add_mk, C.sub_mk, C.mul_mk, C.eql_mk, C.neq_mk, C.lss_mk, C.leq_mk, C.gtr_mk, C.geq_mk, C.conv_mk, C.len_mk, C.ext_0, C.ext_1, C.ext3_0, C.ext3_1, C.ext3_2, C.guarded_yes, C.guarded_tf, C.guarded_ft, C.guarded_undef, Bool.not_true, Bool.not_false, Nat.zero_add, eq_self, decide_true, decide_false, c1]
    exact h1 w1 hn.fr (.inl c1)
  · simp only [C.ite_true, C.ite_false, C.pick_true, C.pick_false, C.not_bool, C.field_ptr, C.nilCheck_ptr, C.add_mk, C.sub_mk, C.mul_mk, C.eql_mk, C.neq_mk, C.lss_mk, C.leq_mk, C.gtr_mk, C.geq_mk, C.conv_mk, C.len_mk, C.ext_0, C.ext_1, C.ext3_0, C.ext3_1, C.ext3_2, C.guarded_yes, C.guarded_tf, C.guarded_ft, C.guarded_undef, Bool.not_true, Bool.not_false, Nat.zero_add, eq_self, decide_true, decide_false, c1]
    refine C.load1_of (v := .int .i64 x.1) hb rfl ?_
    by_cases c2 : x.1 > 2
    · simp only [C.ite_true, C.ite_false, C.pick_true, C.pick_false, C.not_bool, C.field_ptr, C.nilCheck_ptr, C.add_mk, C.sub_mk, C.mul_mk, C.eql_mk, C.neq_mk, C.lss_mk, C.leq_mk, C.gtr_mk, C.geq_mk, C.conv_mk, C.len_mk, C.ext_0, C.ext_1, C.ext3_0, C.ext3_1, C.ext3_2, C.guarded_yes, C.guarded_tf, C.guarded_ft, C.guarded_undef, Bool.not_true, Bool.not_false, Nat.zero_add, eq_self, decide_true, decide_false, c2]
      exact h1 w1 hn.fr (.inr (.inl c2))
    · simp only [C.ite_true, C.ite_false, C.pick_true, C.pick_false, C.not_bool, C.field_ptr, C.nilCheck_ptr, C.add_mk, C.sub_mk, C.mul_mk, C.eql_mk, C.neq_mk, C.lss_mk, C.leq_mk, C.gtr_mk, C.geq_mk, C.conv_mk, C.len_mk, C.ext_0, C.ext_1, C.ext3_0, C.ext3_1, C.ext3_2, C.guarded_yes, C.guarded_tf, C.guarded_ft, C.guarded_undef, Bool.not_true, Bool.not_false, Nat.zero_add, eq_self, decide_true, decide_false, c2]
      refine C.load1_of (v := .int .i64 x.1) hb rfl ?_
      by_cases c3 : x.1 = 0
      · simp only [C.ite_true, C.ite_false, C.pick_true, C.pick_false, C.not_bool, C.field_ptr, C.nilCheck_ptr, C.add_mk, C.sub_mk, C.mul_mk, C.eql_mk, C.neq_mk, C.lss_mk, C.leq_mk, C.gtr_mk, C.geq_mk, C.conv_mk, C.len_mk, C.ext_0, C.ext_1, C.ext3_0, C.ext3_1, C.ext3_2, C.guarded_yes, C.guarded_tf, C.guarded_ft, C.guarded_undef, Bool.not_true, Bool.not_false, Nat.zero_add, eq_self, decide_true, decide_false, c3]
        refine C.load1_of (v := .int .i64 x.2) hb rfl ?_
        by_cases c4 : x.2 = 0
        · have : ¬ (x.2 ≠ 0) := fun c => c c4
          rw [C.neq_mk, decide_eq_false this]
          try simp only [C.ite_true, C.ite_false, C.pick_true, C.pick_false, C.not_bool, C.field_ptr, C.nilCheck_ptr, C.add_mk, C.sub_mk, C.mul_mk, C.eql_mk, C.neq_mk, C.lss_mk, C.leq_mk, C.gtr_mk, C.geq_mk, C.conv_mk, C.len_mk, C.ext_0, C.ext_1, C.ext3_0, C.ext3_1, C.ext3_2, C.guarded_yes, C.guarded_tf, C.guarded_ft, C.guarded_undef, Bool.not_true, Bool.not_false, Nat.zero_add, eq_self, decide_true, decide_false]
          exact h0 w1 hn.fr fun c => c.elim c1 fun c => c.elim c2 fun c => c.2 c4
        · rw [C.neq_mk, decide_eq_true (show x.2 ≠ 0 from c4)]
          try simp only [C.ite_true, C.ite_false, C.pick_true, C.pick_false, C.not_bool, C.field_ptr, C.nilCheck_ptr, C.add_mk, C.sub_mk, C.mul_mk, C.eql_mk, C.neq_mk, C.lss_mk, C.leq_mk, C.gtr_mk, C.geq_mk, C.conv_mk, C.len_mk, C.ext_0, C.ext_1, C.ext3_0, C.ext3_1, C.ext3_2, C.guarded_yes, C.guarded_tf, C.guarded_ft, C.guarded_undef, Bool.not_true, Bool.not_false, Nat.zero_add, eq_self, decide_true, decide_false]
          exact h1 w1 hn.fr (.inr (.inr ⟨c3, c4⟩))
      · simp only [C.ite_true, C.ite_false, C.pick_true, C.pick_false, C.not_bool, C.field_ptr, C.nilCheck_ptr, C.add_mk, C.sub_mk, C.mul_mk, C.eql_mk, C.neq_mk, C.lss_mk, C.leq_mk, C.gtr_mk, C.geq_mk, C.conv_mk, C.len_mk, C.ext_0, C.ext_1, C.ext3_0, C.ext3_1, C.ext3_2, C.guarded_yes, C.guarded_tf, C.guarded_ft, C.guarded_undef, Bool.not_true, Bool.not_false, Nat.zero_add, eq_self, decide_true, decide_false, c3]
        exact h0 w1 hn.fr fun c => c.elim c1 fun c => c.elim c2 fun c => c3 c.1
theorem lost_v {x : Va} {rv nv : Value} {V : Vw} {b : Nat} (hV : IsV w rv nv V) (hb : VB w b rv nv) (h1 : ∀ w', Fr [] w w' → LostVa V.2 x → K (.bool true) w') (h0 : ∀ w', Fr [] w w' → ¬ LostVa V.2 x → K (.bool false) w') : vcCall Try.prog (.func (.func 65) #[] #[.pointer (some ⟨b, 0, none⟩)]) [.agg #[.int .i64 x.1, .int .i64 x.2]] w K := by
  refine vcCall_of bodied65 (F65.sh (C.new_of fun c w1 hn => ?_))
  have hc : w1.heap[c]? = some (.cells #[.int .i64 x.1, .int .i64 x.2] 71 (0, 0)) := hn.at_
  simp only [C.ite_true, C.ite_false, C.pick_true, C.pick_false, C.not_bool, C.field_ptr, C.nilCheck_ptr, C.add_mk, C.sub_mk, C.mul_mk, C.eql_mk, C.neq_mk, C.lss_mk, C.leq_mk, C.gtr_mk, C.geq_mk, C.conv_mk, C.len_mk, C.ext_0, C.ext_1, C.ext3_0, C.ext3_1, C.ext3_2, C.guarded_yes, C.guarded_tf, C.guarded_ft, C.guarded_undef, Bool.not_true, Bool.not_false, Nat.zero_add, eq_self, decide_true, decide_false]
  refine C.load1_of (v := .int .i64 x.1) hc rfl ?_
  by_cases c1 : x.1 = 2
  · simp only [C.ite_true, C.ite_false, C.pick_true, C.pick_false, C.not_bool, C.field_ptr, C.nilCheck_ptr, C.add_mk, C.sub_mk, C.mul_mk, C.eql_mk, C.neq_mk, C.lss_mk, C.leq_mk, C.gtr_mk, C.geq_mk, C.conv_mk, C.len_mk, C.ext_0, C.ext_1, C.ext3_0, C.ext3_1, C.ext3_2, C.guarded_yes, C.guarded_tf, C.guarded_ft, C.guarded_undef, Bool.not_true, Bool.not_false, Nat.zero_add, eq_self, decide_true, decide_false, c1]
    refine (hb.keep hn.fr (by simp)).all (C.load1_of (v := .int .i64 x.2) hc rfl (place_c (hV.keep hn.fr) fun w2 hf2 => ?_))
    by_cases c2 : plcI V.2 x.2 < 0
    · simp only [C.ite_true, C.ite_false, C.pick_true, C.pick_false, C.not_bool, C.field_ptr, C.nilCheck_ptr, C.add_mk, C.sub_mk, C.mul_mk, C.eql_mk, C.neq_mk, C.lss_mk, C.leq_mk, C.gtr_mk, C.geq_mk, C.conv_mk, C.len_mk, C.ext_0, C.ext_1, C.ext3_0, C.ext3_1, C.ext3_2, C.guarded_yes, C.guarded_tf, C.guarded_ft, C.guarded_undef, Bool.not_true, Bool.not_false, Nat.zero_add, eq_self, decide_true, decide_false, c2]
      exact h1 w2 (hn.fr.trans hf2) ⟨c1, c2⟩
    · simp only [C.ite_true, C.ite_false, C.pick_true, C.pick_false, C.not_bool, C.field_ptr, C.nilCheck_ptr, C.add_mk, C.sub_mk, C.mul_mk, C.eql_mk, C.neq_mk, C.lss_mk, C.leq_mk, C.gtr_mk, C.geq_mk, C.conv_mk, C.len_mk, C.ext_0, C.ext_1, C.ext3_0, C.ext3_1, C.ext3_2, C.guarded_yes, C.guarded_tf, C.guarded_ft, C.guarded_undef, Bool.not_true, Bool.not_false, Nat.zero_add, eq_self, decide_true, decide_false, c2]
      exact h0 w2 (hn.fr.trans hf2) fun c => c2 c.2
  · simp only [C.ite_true, C.ite_false, C.pick_true, C.pick_false, C.not_bool, C.field_ptr, C.nilCheck_ptr, C.add_mk, C.sub_mk, C.mul_mk, C.eql_mk, C.neq_mk, C.lss_mk, C.leq_mk, C.gtr_mk, C.geq_mk, C.conv_mk, C.len_mk, C.ext_0, C.ext_1, C.ext3_0, C.ext3_1, C.ext3_2, C.guarded_yes, C.guarded_tf, C.guarded_ft, C.guarded_undef, Bool.not_true, Bool.not_false, Nat.zero_add, eq_self, decide_true, decide_false, c1]
    exact h0 w1 hn.fr fun c => c1 c.1
/-- Is a bool one of some? -/
theorem eq4 (x y : Operand) (a b : Bool) : (do eqGuard .eql 4 x y (.bool a) (.bool b); binOp .eql 4 (.bool a) (.bool b) : Sem Value).run Try.prog w = .ok (.bool (a == b)) w := eq_bool x y a b Try.underlying4
theorem IdxB_loop {v : Value} {l : List Bool} (hv : RdS w v 1 (boolC l)) (h1 : (¬ false ∈ l) → K (.int .i64 (-1)) w) (h2 : ∀ i : Nat, false ∈ l → i < l.length → K (.int .i64 (i : Int)) w) :
    ∀ (d j : Nat), l.length = j + d → (∀ k (h : k < l.length), k < j → ¬ (fun b => false = b) l[k]) → F110.l2 K v (.bool false) (.int .i64 (l.length : Int)) (.int .i64 (j : Int)) w := by
  have hle := hv.le
  rw [boolC_len] at hle
  intro d
  induction d with
  | zero =>
    intro j hd hn
    refine F110.l2.to ?_
    simp only [C.ite_true, C.ite_false, C.pick_true, C.pick_false, C.not_bool, C.field_ptr, C.nilCheck_ptr, C.add_mk, C.sub_mk, C.mul_mk, C.eql_mk, C.neq_mk, C.lss_mk, C.leq_mk, C.gtr_mk, C.geq_mk, C.conv_mk, C.len_mk, C.ext_0, C.ext_1, C.ext3_0, C.ext3_1, C.ext3_2, C.guarded_yes, C.guarded_tf, C.guarded_ft, C.guarded_undef, Bool.not_true, Bool.not_false, Nat.zero_add, eq_self, decide_true, decide_false, show ¬ ((j : Int) < (l.length : Int)) by omega]
    exact F110.k7.to (h1 fun c => none_all (p := fun b => false = b) (by omega) hn ⟨false, c, rfl⟩)
  | succ d ih =>
    intro j hd hn
    have jl : j < l.length := by omega
    refine F110.l2.to ?_
    simp only [C.ite_true, C.ite_false, C.pick_true, C.pick_false, C.not_bool, C.field_ptr, C.nilCheck_ptr, C.add_mk, C.sub_mk, C.mul_mk, C.eql_mk, C.neq_mk, C.lss_mk, C.leq_mk, C.gtr_mk, C.geq_mk, C.conv_mk, C.len_mk, C.ext_0, C.ext_1, C.ext3_0, C.ext3_1, C.ext3_2, C.guarded_yes, C.guarded_tf, C.guarded_ft, C.guarded_undef, Bool.not_true, Bool.not_false, Nat.zero_add, eq_self, decide_true, decide_false, show ((j : Int) < (l.length : Int)) by omega]
    refine F110.k3.to (C.idx_rd hv (by omega) (by rw [Int.toNat_natCast]; exact boolC_get jl) fun g o cs e fz hg _ hc => C.load1_of (v := .bool l[j]) hg (by simpa using hc 0 (by simp)) ⟨_, eq4 _ _ _ _, ?_⟩)
    cases hm : l[j] with
    | false =>
      simp only [beq_self_eq_true, C.ite_true, C.ite_false, C.pick_true, C.pick_false, C.not_bool, C.field_ptr, C.nilCheck_ptr, C.add_mk, C.sub_mk, C.mul_mk, C.eql_mk, C.neq_mk, C.lss_mk, C.leq_mk, C.gtr_mk, C.geq_mk, C.conv_mk, C.len_mk, C.ext_0, C.ext_1, C.ext3_0, C.ext3_1, C.ext3_2, C.guarded_yes, C.guarded_tf, C.guarded_ft, C.guarded_undef, Bool.not_true, Bool.not_false, Nat.zero_add, eq_self, decide_true, decide_false]
      exact h2 j (by rw [← hm]; exact List.getElem_mem jl) jl
    | true =>
      rw [show (false == true) = false from rfl]
      simp only [C.ite_true, C.ite_false, C.pick_true, C.pick_false, C.not_bool, C.field_ptr, C.nilCheck_ptr, C.add_mk, C.sub_mk, C.mul_mk, C.eql_mk, C.neq_mk, C.lss_mk, C.leq_mk, C.gtr_mk, C.geq_mk, C.conv_mk, C.len_mk, C.ext_0, C.ext_1, C.ext3_0, C.ext3_1, C.ext3_2, C.guarded_yes, C.guarded_tf, C.guarded_ft, C.guarded_undef, Bool.not_true, Bool.not_false, Nat.zero_add, eq_self, decide_true, decide_false]
      refine F110.k6.to ?_
      simp only [C.ite_true, C.ite_false, C.pick_true, C.pick_false, C.not_bool, C.field_ptr, C.nilCheck_ptr, C.add_mk, C.sub_mk, C.mul_mk, C.eql_mk, C.neq_mk, C.lss_mk, C.leq_mk, C.gtr_mk, C.geq_mk, C.conv_mk, C.len_mk, C.ext_0, C.ext_1, C.ext3_0, C.ext3_1, C.ext3_2, C.guarded_yes, C.guarded_tf, C.guarded_ft, C.guarded_undef, Bool.not_true, Bool.not_false, Nat.zero_add, eq_self, decide_true, decide_false]
      rw [wrap64_id (n := (j : Int) + 1) (by omega), show (j : Int) + 1 = ((j + 1 : Nat) : Int) by omega]
      exact ih (j + 1) (by omega) (none_succ (p := fun b => false = b) jl (by rw [hm]; simp) hn)
theorem HasB_c {v : Value} {l : List Bool} (hv : RdS w v 1 (boolC l)) (h1 : (¬ false ∈ l) → K (.bool false) w) (h2 : false ∈ l → K (.bool true) w) : C.call Try.prog 67 #[v, .bool false] w K := by
  refine F67.sh (F110.sh (C.len_rd hv ?_))
  rw [boolC_len]
  refine IdxB_loop hv (fun hn => ?_) (fun i hy hi => ?_) l.length 0 (by omega) fun k h c => by omega
  · simp only [C.ite_true, C.ite_false, C.pick_true, C.pick_false, C.not_bool, C.field_ptr, C.nilCheck_ptr, C.add_mk, C.sub_mk, C.mul_mk, C.eql_mk, C.neq_mk, C.lss_mk, C.leq_mk, C.gtr_mk, C.geq_mk, C.conv_mk, C.len_mk, C.ext_0, C.ext_1, C.ext3_0, C.ext3_1, C.ext3_2, C.guarded_yes, C.guarded_tf, C.guarded_ft, C.guarded_undef, Bool.not_true, Bool.not_false, Nat.zero_add, eq_self, decide_true, decide_false, show ¬ ((-1 : Int) ≥ 0) by omega]
    exact h1 hn
  · simp only [C.ite_true, C.ite_false, C.pick_true, C.pick_false, C.not_bool, C.field_ptr, C.nilCheck_ptr, C.add_mk, C.sub_mk, C.mul_mk, C.eql_mk, C.neq_mk, C.lss_mk, C.leq_mk, C.gtr_mk, C.geq_mk, C.conv_mk, C.len_mk, C.ext_0, C.ext_1, C.ext3_0, C.ext3_1, C.ext3_2, C.guarded_yes, C.guarded_tf, C.guarded_ft, C.guarded_undef, Bool.not_true, Bool.not_false, Nat.zero_add, eq_self, decide_true, decide_false, show ((i : Int) ≥ 0) by omega]
    exact h2 hy
end
end Go.Proofs.YtfdpmgddlaamcaaV
