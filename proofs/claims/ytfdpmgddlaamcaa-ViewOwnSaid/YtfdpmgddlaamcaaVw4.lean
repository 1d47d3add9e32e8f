/- Nodes and views, cloned; a node found: what the calls come to. -/
import Derived.Test.YtfdpmgddlaamcaaVw3
namespace Go.Proofs.YtfdpmgddlaamcaaV
open Go Go.Proofs Go.RowKit
set_option linter.unusedVariables false
set_option linter.unusedSimpArgs false
set_option maxRecDepth 10000
theorem OwnS.ne {w : World} {v v' : Value} {e e' : TypeId} {sz sz' : Nat} {xs ys : List (List Value)} (h : OwnS w v e sz xs) (h' : OwnS w v' e' sz' ys) (he : e ≠ e') : ∀ g ∈ blkS v, g ∉ blkS v' := by
  intro g hg hg'
  rw [mem_blkS] at hg hg'
  obtain ⟨⟨_, h3⟩, _⟩ := h
  obtain ⟨⟨_, h3'⟩, _⟩ := h'
  rcases h3 with ⟨rfl, _⟩ | ⟨k, cap, cur, rfl, _, hh, _⟩
  · simp [Value.ownBlock] at hg
  · rcases h3' with ⟨rfl, _⟩ | ⟨k', cap', cur', rfl, _, hh', _⟩
    · simp [Value.ownBlock] at hg'
    · simp only [Value.ownBlock, Option.some.injEq] at hg hg'
      rw [hg] at hh
      rw [hg', hh] at hh'
      simp only [Option.some.injEq, Obj.cells.injEq] at hh'
      exact he hh'.2.1
theorem OwnS.nb {w : World} {v : Value} {e : TypeId} {sz : Nat} {xs : List (List Value)} {g : Nat} {cs : Array Value} {e' : TypeId} {fz : Nat × Nat} (h : OwnS w v e sz xs) (hg : w.heap[g]? = some (.cells cs e' fz)) (he : e ≠ e') : g ∉ blkS v := by
  intro hg'
  rw [mem_blkS] at hg'
  obtain ⟨⟨_, h3⟩, _⟩ := h
  rcases h3 with ⟨rfl, _⟩ | ⟨k, cap, cur, rfl, _, hh, _⟩
  · simp [Value.ownBlock] at hg'
  · simp only [Value.ownBlock, Option.some.injEq] at hg'
    rw [hg', hg] at hh
    simp only [Option.some.injEq, Obj.cells.injEq] at hh
    exact he hh.2.1.symm
/-- Lists of values, each in memory of its own, from a place on. -/
structure OwnRows (lo : Nat) (w : World) (rv : Value) (L : List (List Va)) (vs : List Value) : Prop where
  sp : OwnS w rv 59 1 (slC vs)
  ge : ∀ g ∈ blkS rv, lo ≤ g
  len : vs.length = L.length
  row : ∀ i (h : i < L.length) (h' : i < vs.length), OwnS w vs[i] 71 2 (valC L[i]) ∧ ∀ g ∈ blkS vs[i], lo ≤ g
structure OwnNodes (lo : Nat) (w : World) (nv : Value) (N : List Nd) (fs : List Value) : Prop where
  len : fs.length = N.length
  sp : OwnS w nv 61 2 (ndC N fs)
  ge : ∀ g ∈ blkS nv, lo ≤ g
  row : ∀ i (h : i < N.length) (h' : i < fs.length), OwnS w fs[i] 71 2 (valC N[i].2) ∧ ∀ g ∈ blkS fs[i], lo ≤ g
theorem OwnRows.rd {lo : Nat} {w : World} {rv : Value} {L : List (List Va)} {vs : List Value} (h : OwnRows lo w rv L vs) : RowsV w rv L := ⟨vs, h.sp.rd, h.len, fun i a b => (h.row i a b).1.rd⟩
theorem OwnNodes.rd {lo : Nat} {w : World} {nv : Value} {N : List Nd} {fs : List Value} (h : OwnNodes lo w nv N fs) : NodesAt w nv N := ⟨fs, h.len, h.sp.rd, fun i a b => (h.row i a b).1.rd⟩
theorem OwnRows.keep {lo : Nat} {S : List Nat} {w w' : World} {rv : Value} {L : List (List Va)} {vs : List Value} (h : OwnRows lo w rv L vs) (hf : Fr S w w') (hS : ∀ g ∈ S, g < lo ∨ w.heap.size ≤ g ∨ ∃ cs e fz, w.heap[g]? = some (.cells cs e fz) ∧ e ≠ 59 ∧ e ≠ 71) : OwnRows lo w' rv L vs := by
  have key : ∀ {v : Value} {e : TypeId} {sz : Nat} {xs : List (List Value)}, (e = 59 ∨ e = 71) → OwnS w v e sz xs → (∀ g ∈ blkS v, lo ≤ g) → OwnS w' v e sz xs := fun he ho hl => ho.keep' hf fun g hg c => by
    rcases hS g c with d | d | ⟨cs, e, fz, d, e1, e2⟩
    · have := hl g hg; omega
    · have := ho.mem_lt g hg; omega
    · refine ho.nb d (fun c => ?_) hg
      rcases he with rfl | rfl
      · exact e1 c.symm
      · exact e2 c.symm
  exact ⟨key (.inl rfl) h.sp h.ge, h.ge, h.len, fun i a b => ⟨key (.inr rfl) (h.row i a b).1 (h.row i a b).2, (h.row i a b).2⟩⟩
theorem OwnNodes.keep {lo : Nat} {S : List Nat} {w w' : World} {nv : Value} {N : List Nd} {fs : List Value} (h : OwnNodes lo w nv N fs) (hf : Fr S w w') (hS : ∀ g ∈ S, g < lo ∨ w.heap.size ≤ g ∨ ∃ cs e fz, w.heap[g]? = some (.cells cs e fz) ∧ e ≠ 61 ∧ e ≠ 71) : OwnNodes lo w' nv N fs := by
  have key : ∀ {v : Value} {e : TypeId} {sz : Nat} {xs : List (List Value)}, (e = 61 ∨ e = 71) → OwnS w v e sz xs → (∀ g ∈ blkS v, lo ≤ g) → OwnS w' v e sz xs := fun he ho hl => ho.keep' hf fun g hg c => by
    rcases hS g c with d | d | ⟨cs, e, fz, d, e1, e2⟩
    · have := hl g hg; omega
    · have := ho.mem_lt g hg; omega
    · refine ho.nb d (fun c => ?_) hg
      rcases he with rfl | rfl
      · exact e1 c.symm
      · exact e2 c.symm
  exact ⟨h.len, key (.inl rfl) h.sp h.ge, h.ge, fun i a b => ⟨key (.inr rfl) (h.row i a b).1 (h.row i a b).2, (h.row i a b).2⟩⟩
/-- One more, behind the others. -/
theorem OwnRows.snoc {lo : Nat} {w w' : World} {rv rv' v : Value} {L : List (List Va)} {vs : List Value} {l : List Va} (h : OwnRows lo w rv L vs) (hlo : lo ≤ w.heap.size) (hf : Fr (blkS rv) w w') (hg : ∀ g ∈ blkS rv', g ∈ blkS rv ∨ w.heap.size ≤ g) (hs : OwnS w' rv' 59 1 (slC vs ++ [[v]])) (hv : OwnS w v 71 2 (valC l)) (hvl : ∀ g ∈ blkS v, lo ≤ g) :
    OwnRows lo w' rv' (L ++ [l]) (vs ++ [v]) := by
  refine ⟨by rw [slC_app]; exact hs, fun g hgg => ?_, by simp [h.len], fun i a b => ?_⟩
  · rcases hg g hgg with c | c
    · exact h.ge g c
    · omega
  · by_cases e : i < L.length
    · have e' : i < vs.length := by rw [h.len]; exact e
      rw [List.getElem_append_left e, List.getElem_append_left e']
      exact ⟨(h.row i e e').1.keep' hf ((h.row i e e').1.ne h.sp (by decide)), (h.row i e e').2⟩
    · have ei : i = L.length := by simp at a; omega
      have ei' : i = vs.length := by rw [h.len]; exact ei
      rw [List.getElem_append_right (by omega), List.getElem_append_right (by omega)]
      simp only [ei', Nat.sub_self, h.len, List.getElem_cons_zero]
      exact ⟨hv.keep' hf (hv.ne h.sp (by decide)), hvl⟩
theorem ndC_snoc {N : List Nd} {fs : List Value} (h : fs.length = N.length) (nd : Nd) (f : Value) : ndC (N ++ [nd]) (fs ++ [f]) = ndC N fs ++ [[.int .i64 nd.1, f]] := by
  unfold ndC
  rw [List.zipWith_append h.symm]
  rfl
theorem OwnNodes.snoc {lo : Nat} {w w' : World} {nv nv' v : Value} {N : List Nd} {fs : List Value} {nd : Nd} (h : OwnNodes lo w nv N fs) (hlo : lo ≤ w.heap.size) (hf : Fr (blkS nv) w w') (hg : ∀ g ∈ blkS nv', g ∈ blkS nv ∨ w.heap.size ≤ g) (hs : OwnS w' nv' 61 2 (ndC N fs ++ [[.int .i64 nd.1, v]])) (hv : OwnS w v 71 2 (valC nd.2)) (hvl : ∀ g ∈ blkS v, lo ≤ g) :
    OwnNodes lo w' nv' (N ++ [nd]) (fs ++ [v]) := by
  refine ⟨by simp [h.len], by rw [ndC_snoc h.len]; exact hs, fun g hgg => ?_, fun i a b => ?_⟩
  · rcases hg g hgg with c | c
    · exact h.ge g c
    · omega
  · by_cases e : i < N.length
    · have e' : i < fs.length := by rw [h.len]; exact e
      rw [List.getElem_append_left e, List.getElem_append_left e']
      exact ⟨(h.row i e e').1.keep' hf ((h.row i e e').1.ne h.sp (by decide)), (h.row i e e').2⟩
    · have ei : i = N.length := by simp at a; omega
      have ei' : i = fs.length := by rw [h.len]; exact ei
      rw [List.getElem_append_right (by omega), List.getElem_append_right (by omega)]
      simp only [ei', Nat.sub_self, h.len, List.getElem_cons_zero]
      exact ⟨hv.keep' hf (hv.ne h.sp (by decide)), hvl⟩
/-- No more than fits. -/
structure FitV (V : Vw) : Prop where
  rows : V.1.length * 24 ≤ 140737488355328
  nodes : V.2.length * 32 ≤ 140737488355328
  row : ∀ i (h : i < V.1.length), V.1[i].length * 16 ≤ 140737488355328
  fld : ∀ i (h : i < V.2.length), V.2[i].2.length * 16 ≤ 140737488355328
section
variable {K : VK} {w : World}
theorem bs59_0 : (Instr.buildSlice 59 0 #[]).run Try.prog w = .ok (.slice (some ⟨w.heap.size, 0, none⟩) 0 0) (w.alloc (.cells #[] 71)) := by kernel_rfl
theorem bs48 (A : Option Addr) (n c : Nat) : (Instr.buildSlice 48 1 #[(0, .slice A n c)]).run Try.prog w = .ok (.slice (some ⟨w.heap.size, 0, none⟩) 1 1) (w.alloc (.cells #[.slice A n c] 59)) := by kernel_rfl
theorem bs49 (s : Int) (A : Option Addr) (n c : Nat) : (Instr.buildSlice 49 1 #[(0, .agg #[.int .i64 s, .slice A n c])]).run Try.prog w = .ok (.slice (some ⟨w.heap.size, 0, none⟩) 1 1) (w.alloc (.cells #[.int .i64 s, .slice A n c] 61)) := by kernel_rfl
theorem CloneVa_c {v : Value} {l : List Va} (hv : RdS w v 2 (valC l)) (hl : l.length * 16 ≤ 140737488355328) (h : ∀ v' w', Fr [] w w' → OwnS w' v' 71 2 (valC l) → NewS w v' → K v' w') : C.call Try.prog 78 #[v] w K := by
  have hv' := hv
  obtain ⟨A, c, rfl, h1, h2, h3⟩ := hv
  refine F78.sh ⟨_, eq_slice_nil (e := 71) _ _ _ _ _ Try.underlying59, ?_⟩
  cases A with
  | none =>
    have : l = [] := by
      cases l with
      | nil => rfl
      | cons x l => obtain ⟨g, o, cs, e, fz, hA, _⟩ := h3 (by simp [valC]); cases hA
    subst this
    simp only [Option.isNone_none, C.ite_true, C.ite_false, C.pick_true, C.pick_false, C.not_bool, C.field_ptr, C.nilCheck_ptr, C.add_mk, C.sub_mk, C.mul_mk, C.eql_mk, C.neq_mk, C.lss_mk, C.leq_mk, C.gtr_mk, C.geq_mk, C.conv_mk, C.len_mk, C.ext_0, C.ext_1, C.ext3_0, C.ext3_1, C.ext3_2, C.guarded_yes, C.guarded_tf, C.guarded_ft, C.guarded_undef, Bool.not_true, Bool.not_false, Nat.zero_add, eq_self, decide_true, decide_false]
    exact h _ w (Fr.refl _ _) (OwnS.nil w 71 2) (NewS.nil w)
  | some a =>
    simp only [Option.isNone_some, C.ite_true, C.ite_false, C.pick_true, C.pick_false, C.not_bool, C.field_ptr, C.nilCheck_ptr, C.add_mk, C.sub_mk, C.mul_mk, C.eql_mk, C.neq_mk, C.lss_mk, C.leq_mk, C.gtr_mk, C.geq_mk, C.conv_mk, C.len_mk, C.ext_0, C.ext_1, C.ext3_0, C.ext3_1, C.ext3_2, C.guarded_yes, C.guarded_tf, C.guarded_ft, C.guarded_undef, Bool.not_true, Bool.not_false, Nat.zero_add, eq_self, decide_true, decide_false]
    refine F78.k3.to (C.run_of bs59_0 ?_)
    have hn := New.mk' w (.cells #[] 71)
    refine C.append_of (xs := []) (e := 71) (sz := 2) (bytes := 16) (z := .agg #[.int .i64 0, .int .i64 0]) Try.underlying59 (by kernel_rfl) rfl (by decide) (OwnS.of_block hn.at_ rfl (by simp) (by simp) rfl (by simp) (by simp)) (hv'.keep hn.fr) valC_one (by rw [valC_len]; simp; omega) (by rw [valC_len]; simp; omega) fun v' w' ho hf hb _ => ?_
    refine h v' w' (hn.fr.then hf fun x hx => ?_) (by simpa using ho) fun g hg => ?_
    · rw [mem_blkS] at hx
      simp only [Value.ownBlock, Option.some.injEq] at hx
      exact .inr (by omega)
    · rcases hb with hb | ⟨g', hb, hle⟩
      · rw [hb] at hg
        simp only [Value.ownBlock, Option.some.injEq] at hg
        omega
      · rw [hg] at hb
        simp only [Option.some.injEq] at hb
        have := hn.fr.size
        omega
/-- A node, apart. -/
theorem own_c {s : Int} {f : Value} {l : List Va} (hr : RdS w f 2 (valC l)) (hl : l.length * 16 ≤ 140737488355328) (h : ∀ f' w', Fr [] w w' → OwnS w' f' 71 2 (valC l) → (∀ g ∈ blkS f', w.heap.size ≤ g) → K (.agg #[.int .i64 s, f']) w') : C.call Try.prog 73 #[.agg #[.int .i64 s, f]] w K := by
  have e : ∀ {v : Value} {xs : List (List Value)}, RdS w v 2 xs → Value.cells (.agg #[.int .i64 s, v]) = #[.int .i64 s, v] := fun h => by simp [Value.cells, h.one.2]
  refine F73.sh (C.new_of fun b1 w1 hn1 => C.new_of fun b2 w2 hn2 => ?_)
  have hb1 := hn1.at_
  rw [e hr] at hb1
  have hb12 := hn2.fr.at_ hb1 (by simp)
  have f2 := hn1.fr.trans hn2.fr
  have i1 := hn1.is
  have i2 := hn2.is
  have s1 := hn1.sz
  have s2 := hn2.sz
  simp only [C.ite_true, C.ite_false, C.pick_true, C.pick_false, C.not_bool, C.field_ptr, C.nilCheck_ptr, C.add_mk, C.sub_mk, C.mul_mk, C.eql_mk, C.neq_mk, C.lss_mk, C.leq_mk, C.gtr_mk, C.geq_mk, C.conv_mk, C.len_mk, C.ext_0, C.ext_1, C.ext3_0, C.ext3_1, C.ext3_2, C.guarded_yes, C.guarded_tf, C.guarded_ft, C.guarded_undef, Bool.not_true, Bool.not_false, Nat.zero_add, eq_self, decide_true, decide_false]
  refine C.load1_of (v := f) hb12 rfl (CloneVa_c (hr.keep f2) hl fun f' w3 hf3 ho hn => ?_)
  have hb13 := hf3.at_ hb12 (by simp)
  have hb23 := hf3.at_ hn2.at_ (by simp)
  have lb1 := lt_of_at hb12
  have lb2 := lt_of_at hn2.at_
  try simp only [C.ite_true, C.ite_false, C.pick_true, C.pick_false, C.not_bool, C.field_ptr, C.nilCheck_ptr, C.add_mk, C.sub_mk, C.mul_mk, C.eql_mk, C.neq_mk, C.lss_mk, C.leq_mk, C.gtr_mk, C.geq_mk, C.conv_mk, C.len_mk, C.ext_0, C.ext_1, C.ext3_0, C.ext3_1, C.ext3_2, C.guarded_yes, C.guarded_tf, C.guarded_ft, C.guarded_undef, Bool.not_true, Bool.not_false, Nat.zero_add, eq_self, decide_true, decide_false]
  refine C.store1_of hb13 ho.one.2 ho.one.1 (by simp) fun w4 hu4 => C.loadA_all hu4.at_ rfl ?_
  have e' : Value.cells (.agg #[.int .i64 s, f']) = #[.int .i64 s, f'] := by simp [Value.cells, ho.one.2]
  refine C.store_all (x := .agg #[.int .i64 s, f']) (hu4.fr.at_ hb23 (by simp; omega)) (by rw [e']; rfl) (by
    rw [e']
    intro u hu
    simp only [List.mem_cons, List.not_mem_nil, or_false] at hu
    rcases hu with rfl | rfl
    · rfl
    · exact ho.one.1) rfl fun w5 hu5 => ?_
  have hb25 := hu5.at_
  rw [e'] at hb25
  refine C.loadA_all hb25 rfl (h f' w5 (((f2.trans hf3).then hu4.fr fun z hz => .inr (by simp only [List.mem_singleton] at hz; omega)).then hu5.fr fun z hz => .inr (by simp only [List.mem_singleton] at hz; omega)) ((ho.keep' hu4.fr fun g hg c => ?_).keep' hu5.fr fun g hg c => ?_) fun g hg => ?_)
  · simp only [List.mem_singleton] at c; have := hn g (mem_blkS.1 hg); omega
  · simp only [List.mem_singleton] at c; have := hn g (mem_blkS.1 hg); omega
  · have := hn g (mem_blkS.1 hg); omega
theorem build61 : (Instr.build 61 #[]).run Try.prog w = .ok (.agg #[.int .i64 0, .slice none 0 0]) w := by kernel_rfl
/-- What is found. -/
theorem Find_c {rv nv : Value} {V : Vw} {s : Int} (hV : IsV w rv nv V) (hF : FitV V) (h0 : ∀ w', Fr [] w w' → plcI V.2 s = -1 → K (.tuple #[.agg #[.int .i64 0, .slice none 0 0], .bool false]) w')
    (h1 : ∀ i f w', Fr [] w w' → (hi : i < V.2.length) → plcI V.2 s = (i : Int) → OwnS w' f 71 2 (valC V.2[i].2) → (∀ g ∈ blkS f, w.heap.size ≤ g) → K (.tuple #[.agg #[.int .i64 V.2[i].1, f], .bool true]) w') : C.call Try.prog 30 #[.agg #[rv, nv], .int .i64 s] w K := by
  refine F30.sh (VB.new hV fun b w1 hf1 hb0 hb hV1 => C.new_of fun b4 w2 hn2 => (hb.keep hn2.fr (by simp)).all (place_c (hV1.keep hn2.fr) fun w3 hf3 => ?_))
  have hb4 := hf3.at_ hn2.at_ (by simp)
  have hb3 := (hb.keep hn2.fr (by simp)).keep hf3 (by simp)
  have i2 := hn2.is
  have f3 := (hf1.trans hn2.fr).trans hf3
  have z1 := hf1.size
  have hne : b4 ≠ b := fun c => by have := lt_of_at hb; omega
  cases hp : plc V.2 s with
  | none =>
    have e : plcI V.2 s = -1 := by unfold plcI; rw [hp]
    rw [e]
    simp only [C.ite_true, C.ite_false, C.pick_true, C.pick_false, C.not_bool, C.field_ptr, C.nilCheck_ptr, C.add_mk, C.sub_mk, C.mul_mk, C.eql_mk, C.neq_mk, C.lss_mk, C.leq_mk, C.gtr_mk, C.geq_mk, C.conv_mk, C.len_mk, C.ext_0, C.ext_1, C.ext3_0, C.ext3_1, C.ext3_2, C.guarded_yes, C.guarded_tf, C.guarded_ft, C.guarded_undef, Bool.not_true, Bool.not_false, Nat.zero_add, eq_self, decide_true, decide_false, show ((-1 : Int) < 0) by omega]
    refine C.run_of build61 (C.store_all (x := .agg #[.int .i64 0, .slice none 0 0]) hb4 rfl (by
      intro u hu
      simp [Value.cells] at hu
      rcases hu with rfl | rfl <;> rfl) rfl fun w4 hu4 => C.loadA_all hu4.at_ rfl (h0 w4 (f3.then hu4.fr fun z hz => .inr (by simp only [List.mem_singleton] at hz; omega)) e))
  | some i =>
    have e : plcI V.2 s = (i : Int) := by unfold plcI; rw [hp]
    have li := plc_lt hp
    rw [e]
    simp only [C.ite_true, C.ite_false, C.pick_true, C.pick_false, C.not_bool, C.field_ptr, C.nilCheck_ptr, C.add_mk, C.sub_mk, C.mul_mk, C.eql_mk, C.neq_mk, C.lss_mk, C.leq_mk, C.gtr_mk, C.geq_mk, C.conv_mk, C.len_mk, C.ext_0, C.ext_1, C.ext3_0, C.ext3_1, C.ext3_2, C.guarded_yes, C.guarded_tf, C.guarded_ft, C.guarded_undef, Bool.not_true, Bool.not_false, Nat.zero_add, eq_self, decide_true, decide_false, show ¬ ((i : Int) < 0) by omega]
    refine F30.k4.to (hb3.f1 (((hV1.keep hn2.fr).keep hf3).nodes.get li fun g o cs et fz f hg h0' h1' hr => loadNd hg h0' h1' (own_c hr (hF.fld i li) fun f' w4 hf4 ho hlo => ?_)))
    have e' : Value.cells (.agg #[.int .i64 V.2[i].1, f']) = #[.int .i64 V.2[i].1, f'] := by simp [Value.cells, ho.one.2]
    have hb44 := hf4.at_ hb4 (by simp)
    refine C.store_all (x := .agg #[.int .i64 V.2[i].1, f']) hb44 (by rw [e']; rfl) (by
      rw [e']
      intro u hu
      simp only [List.mem_cons, List.not_mem_nil, or_false] at hu
      rcases hu with rfl | rfl
      · rfl
      · exact ho.one.1) rfl fun w5 hu5 => ?_
    have hb5 := hu5.at_
    rw [e'] at hb5
    have lb4 := lt_of_at hb4
    have z3 := f3.size
    refine C.loadA_all hb5 rfl (h1 i f' w5 ((f3.trans hf4).then hu5.fr fun z hz => .inr (by simp only [List.mem_singleton] at hz; omega)) li e (ho.keep' hu5.fr fun g hg c => ?_) fun g hg => ?_)
    · simp only [List.mem_singleton] at c; have := hlo g hg; omega
    · have := hlo g hg; omega
/-! ### Clone -/
/-- What stands while rows are cloned. -/
structure CR (W0 : World) (b1 b2 b3 : Nat) (rv nv : Value) (L : List (List Va)) (w : World) (x : Value) (vs : List Value) : Prop where
  fr : Fr [] W0 w
  h1 : VB w b1 rv nv
  h2 : w.heap[b2]? = some (.cells #[.slice none 0 0, .slice none 0 0] 51 (0, 0))
  h3 : w.heap[b3]? = some (.cells #[x, .slice none 0 0] 51 (0, 0))
  lo : W0.heap.size ≤ b2 ∧ W0.heap.size ≤ b3 ∧ b3 ≠ b1 ∧ b3 ≠ b2
  own : OwnRows W0.heap.size w x L vs
theorem CR.keep {W0 w w' : World} {b1 b2 b3 : Nat} {rv nv x : Value} {L : List (List Va)} {vs : List Value} (h : CR W0 b1 b2 b3 rv nv L w x vs) (hf : Fr [] w w') : CR W0 b1 b2 b3 rv nv L w' x vs :=
  ⟨h.fr.trans hf, h.h1.keep hf (by simp), hf.at_ h.h2 (by simp), hf.at_ h.h3 (by simp), h.lo, h.own.keep hf fun g hg => by simp at hg⟩
theorem CR.app {W0 : World} {b1 b2 b3 : Nat} {rv nv x : Value} {L : List (List Va)} {l : List Va} {vs : List Value} {g : Nat} {v : Value} (h : CR W0 b1 b2 b3 rv nv L w x vs) (hg : w.heap[g]? = some (.cells #[v] 59 (0, 0))) (hv : OwnS w v 71 2 (valC l)) (hvl : ∀ g ∈ blkS v, W0.heap.size ≤ g) (hL : (L.length + 1) * 24 ≤ 140737488355328) {F : World → Prop}
    (hk : ∀ w' x' vs', CR W0 b1 b2 b3 rv nv (L ++ [l]) w' x' vs' → F w') : C.run Try.prog (Builtin.append_ #[48, 48] 48 #[x, .slice (some ⟨g, 0, none⟩) 1 1]) w fun y w1 => C.store 1 (.pointer (some ⟨b3, 0, none⟩)) y w1 F := by
  have hone := hv.one
  obtain ⟨l1, l2, l3, l4⟩ := h.lo
  refine C.appN (W0 := W0) (xs := slC vs) (ys := [[v]]) (e := 59) (sz := 1) (bytes := 24) (z := .slice none 0 0) Try.underlying48 (by kernel_rfl) rfl (by decide) h.fr (fun g hg => h.own.ge g (mem_blkS.2 hg)) h.own.sp (RdS.of_block hg rfl (by simp) (by simp) (by simp) (by simp)) (by simpa using hone.1)
    (by rw [slC_len, h.own.len]; simpa using hL) (by rw [slC_len, h.own.len]; simp; omega) fun x' w1 hf1 hn1 ho1 hb1 hg1 => ?_
  have n1 : b1 ∉ blkS x := h.own.sp.nb h.h1 (by decide)
  have n2 : b2 ∉ blkS x := h.own.sp.nb h.h2 (by decide)
  have n3 : b3 ∉ blkS x := h.own.sp.nb h.h3 (by decide)
  refine C.store1_of (hb1.at_ h.h3 n3) ho1.one.2 ho1.one.1 (by simp) fun w2 hu2 => hk w2 x' (vs ++ [v]) ?_
  have own1 := h.own.snoc h.fr.size hb1 hg1 ho1 hv hvl
  refine ⟨hf1.then hu2.fr fun z hz => .inr (by simp only [List.mem_singleton] at hz; omega), (h.h1.keep hb1 n1).keep hu2.fr (by simp; omega), hu2.fr.at_ (hb1.at_ h.h2 n2) (by simp; omega), hu2.at_, h.lo, own1.keep hu2.fr fun z hz => ?_⟩
  simp only [List.mem_singleton] at hz
  subst hz
  exact .inr (.inr ⟨_, _, _, hb1.at_ h.h3 n3, by decide, by decide⟩)
theorem Clone_rows {W0 : World} {rv nv : Value} {V : Vw} {b1 b2 b3 : Nat} (hV : IsV W0 rv nv V) (hF : FitV V) (h : ∀ w' x vs, CR W0 b1 b2 b3 rv nv V.1 w' x vs → F36.k7 K (.pointer (some ⟨b1, 0, none⟩)) (.pointer (some ⟨b2, 0, none⟩)) (.pointer (some ⟨b3, 0, none⟩)) w') :
    ∀ (d j : Nat) (w : World) (x : Value) (vs : List Value), V.1.length = j + d → CR W0 b1 b2 b3 rv nv (V.1.take j) w x vs → F36.l3 K (.pointer (some ⟨b1, 0, none⟩)) (.pointer (some ⟨b2, 0, none⟩)) (.pointer (some ⟨b3, 0, none⟩)) rv (.int .i64 (V.1.length : Int)) (.int .i64 (j : Int)) w := by
  have hle := hV.rows.le
  have hfit := hF.rows
  intro d
  induction d with
  | zero =>
    intro j w x vs hj hc
    refine F36.l3.to ?_
    simp only [C.ite_true, C.ite_false, C.pick_true, C.pick_false, C.not_bool, C.field_ptr, C.nilCheck_ptr, C.add_mk, C.sub_mk, C.mul_mk, C.eql_mk, C.neq_mk, C.lss_mk, C.leq_mk, C.gtr_mk, C.geq_mk, C.conv_mk, C.len_mk, C.ext_0, C.ext_1, C.ext3_0, C.ext3_1, C.ext3_2, C.guarded_yes, C.guarded_tf, C.guarded_ft, C.guarded_undef, Bool.not_true, Bool.not_false, Nat.zero_add, eq_self, decide_true, decide_false, show ¬ ((j : Int) < (V.1.length : Int)) by omega]
    rw [List.take_of_length_le (by omega)] at hc
    exact h w x vs hc
  | succ d ih =>
    intro j w x vs hj hc
    have jl : j < V.1.length := by omega
    have hlen : (V.1.take j).length = j := by simp; omega
    refine F36.l3.to ?_
    simp only [C.ite_true, C.ite_false, C.pick_true, C.pick_false, C.not_bool, C.field_ptr, C.nilCheck_ptr, C.add_mk, C.sub_mk, C.mul_mk, C.eql_mk, C.neq_mk, C.lss_mk, C.leq_mk, C.gtr_mk, C.geq_mk, C.conv_mk, C.len_mk, C.ext_0, C.ext_1, C.ext3_0, C.ext3_1, C.ext3_2, C.guarded_yes, C.guarded_tf, C.guarded_ft, C.guarded_undef, Bool.not_true, Bool.not_false, Nat.zero_add, eq_self, decide_true, decide_false, show ((j : Int) < (V.1.length : Int)) by omega]
    refine F36.k4.to ((hV.rows.keep hc.fr).get jl fun v hv => C.draw_of (fun _ => True) fun w1 hf1 he1 => ⟨trivial, ?_⟩)
    simp only [C.ite_true, C.ite_false, C.pick_true, C.pick_false, C.not_bool, C.field_ptr, C.nilCheck_ptr, C.add_mk, C.sub_mk, C.mul_mk, C.eql_mk, C.neq_mk, C.lss_mk, C.leq_mk, C.gtr_mk, C.geq_mk, C.conv_mk, C.len_mk, C.ext_0, C.ext_1, C.ext3_0, C.ext3_1, C.ext3_2, C.guarded_yes, C.guarded_tf, C.guarded_ft, C.guarded_undef, Bool.not_true, Bool.not_false, Nat.zero_add, eq_self, decide_true, decide_false, and_true, true_and]
    have hc1 := hc.keep hf1
    have nx : ∀ w' x' vs', CR W0 b1 b2 b3 rv nv (V.1.take j ++ [V.1[j]]) w' x' vs' → F36.k6 K (.pointer (some ⟨b1, 0, none⟩)) (.pointer (some ⟨b2, 0, none⟩)) (.pointer (some ⟨b3, 0, none⟩)) rv (.int .i64 (V.1.length : Int)) (.int .i64 (j : Int)) w' := fun w' x' vs' hc' => by
      refine F36.k6.to ?_
      simp only [C.ite_true, C.ite_false, C.pick_true, C.pick_false, C.not_bool, C.field_ptr, C.nilCheck_ptr, C.add_mk, C.sub_mk, C.mul_mk, C.eql_mk, C.neq_mk, C.lss_mk, C.leq_mk, C.gtr_mk, C.geq_mk, C.conv_mk, C.len_mk, C.ext_0, C.ext_1, C.ext3_0, C.ext3_1, C.ext3_2, C.guarded_yes, C.guarded_tf, C.guarded_ft, C.guarded_undef, Bool.not_true, Bool.not_false, Nat.zero_add, eq_self, decide_true, decide_false]
      rw [wrap64_id (n := (j : Int) + 1) (by omega), show (j : Int) + 1 = ((j + 1 : Nat) : Int) by omega]
      exact ih (j + 1) w' x' vs' (by omega) (by rw [List.take_succ_eq_append_getElem jl]; exact hc')
    have hv1 := hv.keep hf1
    have cl : ∀ {F : VK}, (∀ A n c w2, CR W0 b1 b2 b3 rv nv (V.1.take j) w2 x vs → OwnS w2 (.slice A n c) 71 2 (valC V.1[j]) → (∀ g ∈ blkS (.slice A n c), W0.heap.size ≤ g) → F (.slice A n c) w2) → C.call Try.prog 78 #[v] w1 F := fun hk => CloneVa_c hv1 (hF.row j jl) fun v' w2 hf2 ho hn => by
      obtain ⟨A, c, rfl, _⟩ := ho.cap
      exact hk _ _ _ w2 (hc1.keep hf2) ho fun g hg => by have := hn g (mem_blkS.1 hg); have := hc1.fr.size; omega
    have fin : ∀ A n c w2 w3, CR W0 b1 b2 b3 rv nv (V.1.take j) w2 x vs → OwnS w2 (.slice A n c) 71 2 (valC V.1[j]) → (∀ g ∈ blkS (.slice A n c), W0.heap.size ≤ g) → w3 = w2.alloc (.cells #[.slice A n c] 59) →
        C.run Try.prog (Builtin.append_ #[48, 48] 48 #[x, .slice (some ⟨w2.heap.size, 0, none⟩) 1 1]) w3 fun y w1 => C.store 1 (.pointer (some ⟨b3, 0, none⟩)) y w1 fun w4 => F36.k6 K (.pointer (some ⟨b1, 0, none⟩)) (.pointer (some ⟨b2, 0, none⟩)) (.pointer (some ⟨b3, 0, none⟩)) rv (.int .i64 (V.1.length : Int)) (.int .i64 (j : Int)) w4 := fun A n c w2 w3 hc2 ho hlo e => by
      subst e
      have hn := New.mk' w2 (.cells #[.slice A n c] 59)
      exact (hc2.keep hn.fr).app hn.at_ (ho.keep hn.fr (by simp)) hlo (by rw [hlen]; omega) nx
    refine ⟨C.load1_of (v := x) hc1.h3 rfl (cl fun A n c w2 hc2 ho hlo => C.run_of (bs48 A n c) (fin A n c w2 _ hc2 ho hlo rfl)), cl fun A n c w2 hc2 ho hlo => ⟨C.load1_of (v := x) hc2.h3 rfl (C.run_of (bs48 A n c) (fin A n c w2 _ hc2 ho hlo rfl)), C.run_of (bs48 A n c) (C.load1_of (v := x) ((hc2.keep (New.mk' w2 (.cells #[.slice A n c] 59)).fr).h3) rfl (fin A n c w2 _ hc2 ho hlo rfl))⟩⟩
end
end Go.Proofs.YtfdpmgddlaamcaaV
