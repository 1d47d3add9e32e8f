/- Graphs in memory; how far each node is, by rounds: what the call comes to. -/
import Derived.Test.YtchonfdnghimdaaSc2
import Derived.Test.YtchonfdnghimdaaGRefG
import Derived.Test.YtchonfdnghimdaaGScc1
import Derived.Test.YtchonfdnghimdaaLibApp
import Derived.Test.YtchonfdnghimdaaLibOwn
import Derived.Test.YtchonfdnghimdaaLibSl
namespace Go.Proofs.YtchonfdnghimdaaV
open Go Go.Proofs Go.RowKit
set_option linter.unusedVariables false
set_option linter.unusedSimpArgs false
/-! ### 1. Graphs in memory -/
def slC (vs : List Value) : List (List Value) := vs.map fun v => [v]
theorem slC_len (vs : List Value) : (slC vs).length = vs.length := by simp [slC]
theorem slC_get {vs : List Value} {j : Nat} (h : j < vs.length) : (slC vs)[j]? = some [vs[j]] := by simp [slC, h]
theorem slC_app (a b : List Value) : slC (a ++ b) = slC a ++ slC b := by simp [slC]
theorem slC_set (l : List Value) (j : Nat) (x : Value) : (slC l).set j [x] = slC (l.set j x) := by simp [slC, List.map_set]
theorem RdS.one {w : World} {v : Value} {sz : Nat} {xs : List (List Value)} (h : RdS w v sz xs) : v.oneCell' = true ∧ v.cells = #[v] := by
  obtain ⟨A, c, rfl, _⟩ := h
  exact ⟨rfl, rfl⟩
def RowsAt (w : World) (nv : Value) (L : List (List Int)) : Prop := ∃ vs : List Value, RdS w nv 1 (slC vs) ∧ vs.length = L.length ∧ ∀ i (h : i < L.length) (h' : i < vs.length), RdS w vs[i] 1 (intC L[i])
theorem RowsAt.keep {w w' : World} {nv : Value} {L : List (List Int)} (h : RowsAt w nv L) (hf : Fr [] w w') : RowsAt w' nv L := by
  obtain ⟨vs, h1, h2, h3⟩ := h
  exact ⟨vs, h1.keep hf, h2, fun i a b => (h3 i a b).keep hf⟩
structure IsG (w : World) (nv rv : Value) (G : Gr) : Prop where
  next : RowsAt w nv G.next
  roots : RdS w rv 1 (intC G.roots)
  few : G.n ≤ 1000
  rlen : G.roots.length ≤ 17592186044416
  nlen : ∀ r ∈ G.next, r.length ≤ 17592186044416
theorem IsG.keep {w w' : World} {nv rv : Value} {G : Gr} (h : IsG w nv rv G) (hf : Fr [] w w') : IsG w' nv rv G := ⟨h.next.keep hf, h.roots.keep hf, h.few, h.rlen, h.nlen⟩
theorem IsG.cells {w : World} {nv rv : Value} {G : Gr} (h : IsG w nv rv G) : Value.cells (.agg #[nv, rv]) = #[nv, rv] := by
  obtain ⟨vs, h1, _⟩ := h.next
  simp [Value.cells, h1.one.2, h.roots.one.2]
theorem IsG.ones {w : World} {nv rv : Value} {G : Gr} (h : IsG w nv rv G) : ∀ u ∈ (Value.cells (.agg #[nv, rv])).toList, u.oneCell' = true := by
  obtain ⟨vs, h1, _⟩ := h.next
  rw [h.cells]
  intro u hu
  simp only [List.mem_cons, List.not_mem_nil, or_false] at hu
  rcases hu with rfl | rfl
  · exact h1.one.1
  · exact h.roots.one.1
theorem IsG.slices {w : World} {nv rv : Value} {G : Gr} (h : IsG w nv rv G) : ∃ A c B d, nv = .slice A G.n c ∧ rv = .slice B G.roots.length d := by
  obtain ⟨vs, ⟨A, c, h1, _⟩, h2, _⟩ := h.next
  obtain ⟨B, d, h3, _⟩ := h.roots
  rw [slC_len, h2] at h1
  rw [intC_len] at h3
  exact ⟨A, c, B, d, h1, h3⟩
theorem row_get {G : Gr} {i : Nat} (h : i < G.n) : G.row i = G.next[i] := by
  unfold Gr.row
  rw [List.getElem?_eq_getElem h]
  rfl
theorem row_len {w : World} {nv rv : Value} {G : Gr} (h : IsG w nv rv G) (i : Nat) : (G.row i).length ≤ 17592186044416 := by
  rcases Nat.lt_or_ge i G.n with c | c
  · rw [row_get c]; exact h.nlen _ (List.getElem_mem c)
  · unfold Gr.row
    rw [List.getElem?_eq_none c]
    simp
section
variable {K : VK} {w : World}
theorem RowsAt.get {nv : Value} {L : List (List Int)} {i : Nat} (h : RowsAt w nv L) (hi : i < L.length) (hk : ∀ v, RdS w v 1 (intC L[i]) → K v w) : C.idx 1 nv (.int .i64 (i : Int)) w fun p w1 => C.load1 p w1 K := by
  obtain ⟨vs, h1, h2, h3⟩ := h
  have hi' : i < vs.length := by omega
  refine C.idx_rd h1 (by omega) (by rw [Int.toNat_natCast]; exact slC_get hi') fun g o cs e fz hg _ hc => C.load1_of hg (v := vs[i]) ?_ (hk _ (h3 i hi hi'))
  have := hc 0 (by omega)
  simpa using this
/-- A graph's block. -/
def GBlk (w : World) (b : Nat) (e : TypeId) (nv rv : Value) : Prop := w.heap[b]? = some (.cells #[nv, rv] e (0, 0))
theorem GBlk.keep {S : List Nat} {w w' : World} {b : Nat} {e : TypeId} {nv rv : Value} (h : GBlk w b e nv rv) (hf : Fr S w w') (hS : b ∉ S) : GBlk w' b e nv rv := hf.at_ h hS
theorem GBlk.next {b : Nat} {e : TypeId} {nv rv : Value} (h : GBlk w b e nv rv) (hk : K nv w) : C.field 0 (.pointer (some ⟨b, 0, none⟩)) w fun p w1 => C.load1 p w1 K := by
  simp only [C.ite_true, C.ite_false, C.pick_true, C.pick_false, C.not_bool, C.field_ptr, C.nilCheck_ptr, C.add_mk, C.sub_mk, C.mul_mk, C.eql_mk, C.neq_mk, C.lss_mk, C.leq_mk, C.gtr_mk, C.geq_mk, C.conv_mk, C.len_mk, C.ext_0, C.ext_1, C.ext3_0, C.ext3_1, C.ext3_2, C.guarded_yes, C.guarded_tf, C.guarded_ft, C.guarded_undef, Bool.not_true, Bool.not_false, Nat.zero_add, eq_self, decide_true, decide_false]
  exact C.load1_of h rfl hk
theorem GBlk.roots {b : Nat} {e : TypeId} {nv rv : Value} (h : GBlk w b e nv rv) (hk : K rv w) : C.field 1 (.pointer (some ⟨b, 0, none⟩)) w fun p w1 => C.load1 p w1 K := by
  simp only [C.ite_true, C.ite_false, C.pick_true, C.pick_false, C.not_bool, C.field_ptr, C.nilCheck_ptr, C.add_mk, C.sub_mk, C.mul_mk, C.eql_mk, C.neq_mk, C.lss_mk, C.leq_mk, C.gtr_mk, C.geq_mk, C.conv_mk, C.len_mk, C.ext_0, C.ext_1, C.ext3_0, C.ext3_1, C.ext3_2, C.guarded_yes, C.guarded_tf, C.guarded_ft, C.guarded_undef, Bool.not_true, Bool.not_false, Nat.zero_add, eq_self, decide_true, decide_false]
  exact C.load1_of h rfl hk
theorem GBlk.row {b : Nat} {e : TypeId} {nv rv : Value} {G : Gr} {i : Nat} (h : GBlk w b e nv rv) (hG : IsG w nv rv G) (hi : i < G.n) (hk : ∀ v, RdS w v 1 (intC (G.row i)) → K v w) :
    C.field 0 (.pointer (some ⟨b, 0, none⟩)) w fun p w1 => C.load1 p w1 fun x w2 => C.idx 1 x (.int .i64 (i : Int)) w2 fun q w3 => C.load1 q w3 K :=
  h.next (hG.next.get hi fun v hv => hk v (by rw [row_get hi]; exact hv))
theorem GBlk.all {b : Nat} {e : TypeId} {nv rv : Value} (h : GBlk w b e nv rv) (hk : K (.agg #[nv, rv]) w) : C.loadA 2 (.pointer (some ⟨b, 0, none⟩)) w K := C.loadA_all h rfl hk
theorem GBlk.new {e : TypeId} {nv rv : Value} {G : Gr} (hG : IsG w nv rv G) (hk : ∀ b w', Fr [] w w' → w.heap.size ≤ b → GBlk w' b e nv rv → IsG w' nv rv G → K (.pointer (some ⟨b, 0, none⟩)) w') : C.new (.cells (Value.cells (.agg #[nv, rv])) e) w K := by
  refine C.new_of fun b w1 hn => hk b w1 hn.fr (by have := hn.is; omega) ?_ (hG.keep hn.fr)
  have := hn.at_
  rw [hG.cells] at this
  exact this
theorem IsG.len_next {nv rv : Value} {G : Gr} (hG : IsG w nv rv G) {w1 : World} (hk : K (.int .i64 (G.n : Int)) w1) : C.len nv w1 K := by
  obtain ⟨A, c, B, d, rfl, rfl⟩ := hG.slices
  simpa only [C.len_mk] using hk
/-! ### 2. Is it a node? -/
theorem Is_c {nv rv : Value} {G : Gr} {i : Int} (hG : IsG w nv rv G) (h : ∀ w', Fr [] w w' → K (.bool (decide (0 ≤ i ∧ i < (G.n : Int)))) w') : C.call Try.prog 40 #[.agg #[nv, rv], .int .i64 i] w K := by
  refine F40.sh (GBlk.new hG fun b w1 hf1 _ hb hG1 => ?_)
  have h := h w1 hf1
  by_cases h0 : 0 ≤ i
  · simp only [C.ite_true, C.ite_false, C.pick_true, C.pick_false, C.not_bool, C.field_ptr, C.nilCheck_ptr, C.add_mk, C.sub_mk, C.mul_mk, C.eql_mk, C.neq_mk, C.lss_mk, C.leq_mk, C.gtr_mk, C.geq_mk, C.conv_mk, C.len_mk, C.ext_0, C.ext_1, C.ext3_0, C.ext3_1, C.ext3_2, C.guarded_yes, C.guarded_tf, C.guarded_ft, C.guarded_undef, Bool.not_true, Bool.not_false, Nat.zero_add, eq_self, decide_true, decide_false, ge_iff_le, h0]
    refine C.load1_of hb rfl (hG1.len_next ?_)
    simp only [C.ite_true, C.ite_false, C.pick_true, C.pick_false, C.not_bool, C.field_ptr, C.nilCheck_ptr, C.add_mk, C.sub_mk, C.mul_mk, C.eql_mk, C.neq_mk, C.lss_mk, C.leq_mk, C.gtr_mk, C.geq_mk, C.conv_mk, C.len_mk, C.ext_0, C.ext_1, C.ext3_0, C.ext3_1, C.ext3_2, C.guarded_yes, C.guarded_tf, C.guarded_ft, C.guarded_undef, Bool.not_true, Bool.not_false, Nat.zero_add, eq_self, decide_true, decide_false]
    rw [show decide (i < (G.n : Int)) = decide (0 ≤ i ∧ i < (G.n : Int)) from decide_eq_decide.2 (by omega)]
    exact h
  · simp only [C.ite_true, C.ite_false, C.pick_true, C.pick_false, C.not_bool, C.field_ptr, C.nilCheck_ptr, C.add_mk, C.sub_mk, C.mul_mk, C.eql_mk, C.neq_mk, C.lss_mk, C.leq_mk, C.gtr_mk, C.geq_mk, C.conv_mk, C.len_mk, C.ext_0, C.ext_1, C.ext3_0, C.ext3_1, C.ext3_2, C.guarded_yes, C.guarded_tf, C.guarded_ft, C.guarded_undef, Bool.not_true, Bool.not_false, Nat.zero_add, eq_self, decide_true, decide_false, ge_iff_le, h0]
    rw [show false = decide (0 ≤ i ∧ i < (G.n : Int)) from (decide_eq_false (by omega)).symm]
    exact h
theorem is_c {nv rv : Value} {G : Gr} {i : Int} (hG : IsG w nv rv G) (h : ∀ w', Fr [] w w' → K (.bool (decide (0 ≤ i ∧ i < (G.n : Int)))) w') : C.call Try.prog 42 #[.agg #[nv, rv], .int .i64 i] w K := by
  refine F42.sh (GBlk.new hG fun b w1 hf1 _ hb hG1 => ?_)
  have h := h w1 hf1
  by_cases h0 : 0 ≤ i
  · simp only [C.ite_true, C.ite_false, C.pick_true, C.pick_false, C.not_bool, C.field_ptr, C.nilCheck_ptr, C.add_mk, C.sub_mk, C.mul_mk, C.eql_mk, C.neq_mk, C.lss_mk, C.leq_mk, C.gtr_mk, C.geq_mk, C.conv_mk, C.len_mk, C.ext_0, C.ext_1, C.ext3_0, C.ext3_1, C.ext3_2, C.guarded_yes, C.guarded_tf, C.guarded_ft, C.guarded_undef, Bool.not_true, Bool.not_false, Nat.zero_add, eq_self, decide_true, decide_false, ge_iff_le, h0]
    refine C.load1_of hb rfl (hG1.len_next ?_)
    simp only [C.ite_true, C.ite_false, C.pick_true, C.pick_false, C.not_bool, C.field_ptr, C.nilCheck_ptr, C.add_mk, C.sub_mk, C.mul_mk, C.eql_mk, C.neq_mk, C.lss_mk, C.leq_mk, C.gtr_mk, C.geq_mk, C.conv_mk, C.len_mk, C.ext_0, C.ext_1, C.ext3_0, C.ext3_1, C.ext3_2, C.guarded_yes, C.guarded_tf, C.guarded_ft, C.guarded_undef, Bool.not_true, Bool.not_false, Nat.zero_add, eq_self, decide_true, decide_false]
    rw [show decide (i < (G.n : Int)) = decide (0 ≤ i ∧ i < (G.n : Int)) from decide_eq_decide.2 (by omega)]
    exact h
  · simp only [C.ite_true, C.ite_false, C.pick_true, C.pick_false, C.not_bool, C.field_ptr, C.nilCheck_ptr, C.add_mk, C.sub_mk, C.mul_mk, C.eql_mk, C.neq_mk, C.lss_mk, C.leq_mk, C.gtr_mk, C.geq_mk, C.conv_mk, C.len_mk, C.ext_0, C.ext_1, C.ext3_0, C.ext3_1, C.ext3_2, C.guarded_yes, C.guarded_tf, C.guarded_ft, C.guarded_undef, Bool.not_true, Bool.not_false, Nat.zero_add, eq_self, decide_true, decide_false, ge_iff_le, h0]
    rw [show false = decide (0 ≤ i ∧ i < (G.n : Int)) from (decide_eq_false (by omega)).symm]
    exact h
/-! ### 3. By rounds -/
theorem bsI (a : Int) : (Instr.buildSlice 23 1 #[(0, .int .i64 a)]).run Try.prog w = .ok (.slice (some ⟨w.heap.size, 0, none⟩) 1 1) (w.alloc (.cells #[.int .i64 a] 3)) := by kernel_rfl
theorem intC_set (l : List Int) (j : Nat) (n : Int) : (intC l).set j [.int .i64 n] = intC (l.set j n) := by simp [intC, List.map_set]
theorem intC_one {l : List Int} : ∀ y ∈ intC l, ∀ u ∈ y, u.oneCell' = true := by
  intro y hy u hu
  simp only [intC, List.mem_map] at hy
  obtain ⟨x, _, rfl⟩ := hy
  simp only [List.mem_cons, List.not_mem_nil, or_false] at hu
  subst hu
  rfl
theorem C.appI {W0 : World} {v : Value} {l : List Int} {n : Int} (hf : Fr [] W0 w) (hn : NewS W0 v) (hv : OwnS w v 3 1 (intC l)) (hl : l.length ≤ 17592186044415)
    (hk : ∀ v' w', Fr [] W0 w' → NewS W0 v' → OwnS w' v' 3 1 (intC (l ++ [n])) → Fr (blkS v) w w' → (∀ g ∈ blkS v', g ∈ blkS v ∨ w.heap.size ≤ g) → K v' w') :
    C.run Try.prog (Instr.buildSlice 23 1 #[(0, .int .i64 n)]) w fun x w1 => C.run Try.prog (Builtin.append_ #[23, 23] 23 #[v, x]) w1 K :=
  C.app1 (x := [.int .i64 n]) (e := 3) (sz := 1) (bytes := 8) (z := .int .i64 0) Try.underlying23 (by kernel_rfl) rfl (by decide) (bsI n) rfl (by simp [Value.oneCell']) hf hn hv (by rw [intC_len]; omega) (by rw [intC_len]; omega) fun v' w' a b c d e => hk v' w' a b (by rw [intC_app]; exact c) d e
theorem C.appIs {W0 : World} {v src : Value} {l k : List Int} (hf : Fr [] W0 w) (hn : NewS W0 v) (hv : OwnS w v 3 1 (intC l)) (hs : RdS w src 1 (intC k)) (hl : l.length + k.length ≤ 17592186044415)
    (hk : ∀ v' w', Fr [] W0 w' → NewS W0 v' → OwnS w' v' 3 1 (intC (l ++ k)) → Fr (blkS v) w w' → (∀ g ∈ blkS v', g ∈ blkS v ∨ w.heap.size ≤ g) → K v' w') :
    C.run Try.prog (Builtin.append_ #[23, 23] 23 #[v, src]) w K :=
  C.appN (e := 3) (sz := 1) (bytes := 8) (z := .int .i64 0) Try.underlying23 (by kernel_rfl) rfl (by decide) hf hn hv hs intC_one (by rw [intC_len, intC_len]; omega) (by rw [intC_len, intC_len]; omega) fun v' w' a b c d e => hk v' w' a b (by rw [intC_app]; exact c) d e
theorem own_set {W0 : World} {v : Value} {l : List Int} {j : Nat} {x : Int} {F : World → Prop} (hf : Fr [] W0 w) (hn : NewS W0 v) (ho : OwnS w v 3 1 (intC l)) (hj : j < l.length)
    (hk : ∀ w', Fr [] W0 w' → OwnS w' v 3 1 (intC (l.set j x)) → F w') : C.idx 1 v (.int .i64 (j : Int)) w fun p w1 => C.store 1 p (.int .i64 x) w1 F :=
  C.storeAt_own ho (by omega) (by rw [intC_len]; omega) rfl (by intro u hu; simp [Value.cells] at hu; subst hu; rfl) fun w' ho' hf' _ =>
    hk w' (hf.then hf' fun y hy => .inr (hn y (mem_blkS.1 hy))) (by rw [Int.toNat_natCast] at ho'; rw [← intC_set]; exact ho')
theorem d29_fill {W1 : World} {G : Gr} {p1 : Value} (hG : G.n ≤ 1000)
    (h : ∀ v w, Fr [] W1 w → NewS W1 v → OwnS w v 3 1 (intC (List.replicate G.n (-1))) → F21.k7 K p1 (.int .i64 (G.n : Int)) v w) :
    ∀ (d i : Nat) (v : Value) (w : World), G.n = i + d → Fr [] W1 w → NewS W1 v → OwnS w v 3 1 (intC (List.replicate i (-1))) → F21.l4 K p1 (.int .i64 (G.n : Int)) v (.int .i64 (i : Int)) w := by
  intro d
  induction d with
  | zero =>
    intro i v w hd hf hn ho
    refine F21.l4.to ?_
    simp only [C.ite_true, C.ite_false, C.pick_true, C.pick_false, C.not_bool, C.field_ptr, C.nilCheck_ptr, C.add_mk, C.sub_mk, C.mul_mk, C.eql_mk, C.neq_mk, C.lss_mk, C.leq_mk, C.gtr_mk, C.geq_mk, C.conv_mk, C.len_mk, C.ext_0, C.ext_1, C.ext3_0, C.ext3_1, C.ext3_2, C.guarded_yes, C.guarded_tf, C.guarded_ft, C.guarded_undef, Bool.not_true, Bool.not_false, Nat.zero_add, eq_self, decide_true, decide_false, show ¬ ((i : Int) < (G.n : Int)) by omega]
    refine h v w hf hn ?_
    rw [hd]; exact ho
  | succ d ih =>
    intro i v w hd hf hn ho
    refine F21.l4.to ?_
    simp only [C.ite_true, C.ite_false, C.pick_true, C.pick_false, C.not_bool, C.field_ptr, C.nilCheck_ptr, C.add_mk, C.sub_mk, C.mul_mk, C.eql_mk, C.neq_mk, C.lss_mk, C.leq_mk, C.gtr_mk, C.geq_mk, C.conv_mk, C.len_mk, C.ext_0, C.ext_1, C.ext3_0, C.ext3_1, C.ext3_2, C.guarded_yes, C.guarded_tf, C.guarded_ft, C.guarded_undef, Bool.not_true, Bool.not_false, Nat.zero_add, eq_self, decide_true, decide_false, show ((i : Int) < (G.n : Int)) by omega]
    refine F21.k6.to (C.appI hf hn ho (by simp; omega) fun v' w' hf' hn' ho' _ _ => F21.k5.to ?_)
    simp only [C.ite_true, C.ite_false, C.pick_true, C.pick_false, C.not_bool, C.field_ptr, C.nilCheck_ptr, C.add_mk, C.sub_mk, C.mul_mk, C.eql_mk, C.neq_mk, C.lss_mk, C.leq_mk, C.gtr_mk, C.geq_mk, C.conv_mk, C.len_mk, C.ext_0, C.ext_1, C.ext3_0, C.ext3_1, C.ext3_2, C.guarded_yes, C.guarded_tf, C.guarded_ft, C.guarded_undef, Bool.not_true, Bool.not_false, Nat.zero_add, eq_self, decide_true, decide_false]
    rw [wrap64_id (n := (i : Int) + 1) (by omega), show (i : Int) + 1 = ((i + 1 : Nat) : Int) by omega]
    refine ih (i + 1) v' w' (by omega) hf' hn' ?_
    rw [List.replicate_succ']
    exact ho'
theorem d29_roots {W1 : World} {G : Gr} {b : Nat} {nv rv v : Value} (hG : IsG W1 nv rv G) (hb : GBlk W1 b 30 nv rv) (hn : NewS W1 v)
    (h : ∀ w out, Fr [] W1 w → OwnS w v 3 1 (intC out) → DI G 0 (fun _ => False) out → F21.k12 K (.pointer (some ⟨b, 0, none⟩)) (.int .i64 (G.n : Int)) v w) :
    ∀ (d k : Nat) (out : List Int) (w : World), G.roots.length = k + d → Fr [] W1 w → OwnS w v 3 1 (intC out) → out.length = G.n →
      (∀ j (hj : j < out.length), (out[j] = -1 ∨ out[j] = G.dst j) ∧ out[j] ≤ 0 ∧ ((j : Int) ∈ G.roots.take k → out[j] = 0)) → F21.l8 K (.pointer (some ⟨b, 0, none⟩)) (.int .i64 (G.n : Int)) v (.int .i64 (k : Int)) w := by
  intro d
  induction d with
  | zero =>
    intro k out w hd hf ho hl hI
    have hb' := hb.keep hf (by simp)
    have hG' := hG.keep hf
    refine F21.l8.to (hb'.roots (C.len_rd hG'.roots ?_))
    simp only [C.ite_true, C.ite_false, C.pick_true, C.pick_false, C.not_bool, C.field_ptr, C.nilCheck_ptr, C.add_mk, C.sub_mk, C.mul_mk, C.eql_mk, C.neq_mk, C.lss_mk, C.leq_mk, C.gtr_mk, C.geq_mk, C.conv_mk, C.len_mk, C.ext_0, C.ext_1, C.ext3_0, C.ext3_1, C.ext3_2, C.guarded_yes, C.guarded_tf, C.guarded_ft, C.guarded_undef, Bool.not_true, Bool.not_false, Nat.zero_add, eq_self, decide_true, decide_false, intC_len, show ¬ ((k : Int) < (G.roots.length : Int)) by omega]
    refine h w out hf ho ⟨hl, fun j hj => (hI j hj).1, fun j hj a c => ?_, fun j hj => ?_, fun _ _ a => a.elim⟩
    · have hz : G.dst j = 0 := by omega
      rw [hz]
      refine (hI j hj).2.2 ?_
      rw [List.take_of_length_le (by omega)]
      exact (dst_zero hz).2
    · have := (hI j hj).2.1; omega
  | succ d ih =>
    intro k out w hd hf ho hl hI
    have hb' := hb.keep hf (by simp)
    have hG' := hG.keep hf
    have hrl := hG.rlen
    have hk : k < G.roots.length := by omega
    refine F21.l8.to (hb'.roots (C.len_rd hG'.roots ?_))
    simp only [C.ite_true, C.ite_false, C.pick_true, C.pick_false, C.not_bool, C.field_ptr, C.nilCheck_ptr, C.add_mk, C.sub_mk, C.mul_mk, C.eql_mk, C.neq_mk, C.lss_mk, C.leq_mk, C.gtr_mk, C.geq_mk, C.conv_mk, C.len_mk, C.ext_0, C.ext_1, C.ext3_0, C.ext3_1, C.ext3_2, C.guarded_yes, C.guarded_tf, C.guarded_ft, C.guarded_undef, Bool.not_true, Bool.not_false, Nat.zero_add, eq_self, decide_true, decide_false, intC_len, show ((k : Int) < (G.roots.length : Int)) by omega]
    have nx : ∀ (out' : List Int) (w' : World), Fr [] W1 w' → OwnS w' v 3 1 (intC out') → out'.length = G.n →
        (∀ j (hj : j < out'.length), (out'[j] = -1 ∨ out'[j] = G.dst j) ∧ out'[j] ≤ 0 ∧ ((j : Int) ∈ G.roots.take (k + 1) → out'[j] = 0)) → F21.k9 K (.pointer (some ⟨b, 0, none⟩)) (.int .i64 (G.n : Int)) v (.int .i64 (k : Int)) w' := by
      intro out' w' a c e f
      refine F21.k9.to ?_
      simp only [C.ite_true, C.ite_false, C.pick_true, C.pick_false, C.not_bool, C.field_ptr, C.nilCheck_ptr, C.add_mk, C.sub_mk, C.mul_mk, C.eql_mk, C.neq_mk, C.lss_mk, C.leq_mk, C.gtr_mk, C.geq_mk, C.conv_mk, C.len_mk, C.ext_0, C.ext_1, C.ext3_0, C.ext3_1, C.ext3_2, C.guarded_yes, C.guarded_tf, C.guarded_ft, C.guarded_undef, Bool.not_true, Bool.not_false, Nat.zero_add, eq_self, decide_true, decide_false]
      rw [wrap64_id (n := (k : Int) + 1) (by omega), show (k : Int) + 1 = ((k + 1 : Nat) : Int) by omega]
      exact ih (k + 1) out' w' (by omega) a c e f
    refine F21.k10.to (C.draw_of (fun w' => Fr [] W1 w') fun w1 hf1 he1 => ⟨hf.trans hf1, ?_⟩)
    have hfa := hf.trans hf1
    simp only [C.ite_true, C.ite_false, C.pick_true, C.pick_false, C.not_bool, C.field_ptr, C.nilCheck_ptr, C.add_mk, C.sub_mk, C.mul_mk, C.eql_mk, C.neq_mk, C.lss_mk, C.leq_mk, C.gtr_mk, C.geq_mk, C.conv_mk, C.len_mk, C.ext_0, C.ext_1, C.ext3_0, C.ext3_1, C.ext3_2, C.guarded_yes, C.guarded_tf, C.guarded_ft, C.guarded_undef, Bool.not_true, Bool.not_false, Nat.zero_add, eq_self, decide_true, decide_false]
    refine C.loadAS_of (vs := [nv, rv]) (fun w' hw => ⟨_, _, _, hb.keep hw (by simp), by simp, by simp⟩) ?_
    refine C.load1S_of (v := rv) (fun w' hw => ⟨_, _, _, hb.keep hw (by simp), rfl⟩) ?_
    refine C.idx_rdS (S := fun w' => Fr [] W1 w') (fun w' hw => hG.roots.keep hw) hfa (by omega) (by rw [Int.toNat_natCast]; exact intC_get hk) fun g o hl1 hs1 => ?_
    refine C.load1S_of (v := .int .i64 G.roots[k]) (fun w' hw => by obtain ⟨cs, e, fz, hg, hc⟩ := hs1 w' hw; exact ⟨cs, e, fz, hg, by simpa using hc 0 (by omega)⟩) ?_
    refine ⟨Is_c (hG.keep hfa) fun w2 hf2 => ⟨hfa.trans hf2, ?_⟩, trivial⟩
    have hfb := hfa.trans hf2
    by_cases hn2 : 0 ≤ G.roots[k] ∧ G.roots[k] < (G.n : Int)
    · rw [decide_eq_true hn2]
      obtain ⟨r, hr⟩ : ∃ r : Nat, G.roots[k] = (r : Int) := ⟨G.roots[k].toNat, by omega⟩
      have hrn : r < G.n := by omega
      rw [C.ite_true]
      refine C.load1_of (v := rv) (hb.keep hfb (by simp)) rfl (C.idx_int (hG.keep hfb).roots hk fun g o cs e fz hg hc => C.load1_of hg (by rw [hc, hr]) ?_)
      refine own_set hfb hn (ho.keep (hf1.trans hf2) (by simp)) (by omega) fun w3 hf3 ho3 => nx _ w3 hf3 ho3 (by simpa using hl) fun j hj => ?_
      simp only [List.length_set] at hj
      have hz : G.dst r = 0 := dst_root hrn (by rw [← hr]; exact List.getElem_mem _)
      rw [List.getElem_set]
      by_cases c : r = j
      · subst c
        rw [if_pos rfl]
        exact ⟨.inr hz.symm, by omega, fun _ => rfl⟩
      · rw [if_neg c]
        refine ⟨(hI j hj).1, (hI j hj).2.1, fun hm => (hI j hj).2.2 ?_⟩
        rw [List.take_succ_eq_append_getElem hk, List.mem_append, List.mem_singleton, hr] at hm
        rcases hm with hm | hm
        · exact hm
        · omega
    · rw [decide_eq_false hn2, C.ite_false]
      refine nx out w2 hfb (ho.keep (hf1.trans hf2) (by simp)) hl fun j hj => ⟨(hI j hj).1, (hI j hj).2.1, fun hm => (hI j hj).2.2 ?_⟩
      rw [List.take_succ_eq_append_getElem hk, List.mem_append, List.mem_singleton] at hm
      rcases hm with hm | hm
      · exact hm
      · omega
/-- The nodes of a row, met. -/
theorem d29_row {W1 : World} {G : Gr} {b : Nat} {nv rv v : Value} {far i : Nat} {S : Nat → Prop} (hG : IsG W1 nv rv G) (hb : GBlk W1 b 30 nv rv) (hn : NewS W1 v) (hfar : far ≤ 1000) (hi : i < G.n) (hd : G.dst i = far)
    (h : ∀ w out, Fr [] W1 w → OwnS w v 3 1 (intC out) → DI G far (fun j => S j ∨ (j : Int) ∈ G.row i) out → F21.k17 K (.pointer (some ⟨b, 0, none⟩)) (.int .i64 (G.n : Int)) v (.int .i64 (far : Int)) (.int .i64 (i : Int)) w) :
    ∀ (d k : Nat) (out : List Int) (w : World), (G.row i).length = k + d → Fr [] W1 w → OwnS w v 3 1 (intC out) → DI G far (fun j => S j ∨ (j : Int) ∈ (G.row i).take k) out →
      F21.l20 K (.pointer (some ⟨b, 0, none⟩)) (.int .i64 (G.n : Int)) v (.int .i64 (far : Int)) (.int .i64 (i : Int)) (.int .i64 (k : Int)) w := by
  intro d
  induction d with
  | zero =>
    intro k out w hk hf ho hI
    refine F21.l20.to ((hb.keep hf (by simp)).row (hG.keep hf) hi fun rw_ hrw => C.len_rd hrw ?_)
    simp only [C.ite_true, C.ite_false, C.pick_true, C.pick_false, C.not_bool, C.field_ptr, C.nilCheck_ptr, C.add_mk, C.sub_mk, C.mul_mk, C.eql_mk, C.neq_mk, C.lss_mk, C.leq_mk, C.gtr_mk, C.geq_mk, C.conv_mk, C.len_mk, C.ext_0, C.ext_1, C.ext3_0, C.ext3_1, C.ext3_2, C.guarded_yes, C.guarded_tf, C.guarded_ft, C.guarded_undef, Bool.not_true, Bool.not_false, Nat.zero_add, eq_self, decide_true, decide_false, intC_len, show ¬ ((k : Int) < ((G.row i).length : Int)) by omega]
    refine h w out hf ho ?_
    rw [List.take_of_length_le (by omega)] at hI
    exact hI
  | succ d ih =>
    intro k out w hk hf ho hI
    have hkl : k < (G.row i).length := by omega
    have hrl := row_len hG i
    refine F21.l20.to ((hb.keep hf (by simp)).row (hG.keep hf) hi fun rw_ hrw => C.len_rd hrw ?_)
    simp only [C.ite_true, C.ite_false, C.pick_true, C.pick_false, C.not_bool, C.field_ptr, C.nilCheck_ptr, C.add_mk, C.sub_mk, C.mul_mk, C.eql_mk, C.neq_mk, C.lss_mk, C.leq_mk, C.gtr_mk, C.geq_mk, C.conv_mk, C.len_mk, C.ext_0, C.ext_1, C.ext3_0, C.ext3_1, C.ext3_2, C.guarded_yes, C.guarded_tf, C.guarded_ft, C.guarded_undef, Bool.not_true, Bool.not_false, Nat.zero_add, eq_self, decide_true, decide_false, intC_len, show ((k : Int) < ((G.row i).length : Int)) by omega]
    have nx : ∀ (out' : List Int) (w' : World), Fr [] W1 w' → OwnS w' v 3 1 (intC out') → DI G far (fun j => S j ∨ (j : Int) ∈ (G.row i).take (k + 1)) out' →
        F21.k21 K (.pointer (some ⟨b, 0, none⟩)) (.int .i64 (G.n : Int)) v (.int .i64 (far : Int)) (.int .i64 (i : Int)) (.int .i64 (k : Int)) w' := by
      intro out' w' a c e
      refine F21.k21.to ?_
      simp only [C.ite_true, C.ite_false, C.pick_true, C.pick_false, C.not_bool, C.field_ptr, C.nilCheck_ptr, C.add_mk, C.sub_mk, C.mul_mk, C.eql_mk, C.neq_mk, C.lss_mk, C.leq_mk, C.gtr_mk, C.geq_mk, C.conv_mk, C.len_mk, C.ext_0, C.ext_1, C.ext3_0, C.ext3_1, C.ext3_2, C.guarded_yes, C.guarded_tf, C.guarded_ft, C.guarded_undef, Bool.not_true, Bool.not_false, Nat.zero_add, eq_self, decide_true, decide_false]
      rw [wrap64_id (n := (k : Int) + 1) (by omega), show (k : Int) + 1 = ((k + 1 : Nat) : Int) by omega]
      exact ih (k + 1) out' w' (by omega) a c e
    refine F21.k22.to ((hb.keep hf (by simp)).row (hG.keep hf) hi fun rw_ hrw => C.idx_int hrw hkl fun g o cs e fz hg hc => C.load1_of hg hc ((hb.keep hf (by simp)).all (Is_c (hG.keep hf) fun w2 hf2 => ?_)))
    have hfb := hf.trans hf2
    have ho2 := ho.keep hf2 (by simp)
    by_cases hn2 : 0 ≤ (G.row i)[k] ∧ (G.row i)[k] < (G.n : Int)
    · obtain ⟨r, hr⟩ : ∃ r : Nat, (G.row i)[k] = (r : Int) := ⟨(G.row i)[k].toNat, by omega⟩
      have hrn : r < G.n := by omega
      have hro : r < out.length := by rw [hI.len]; exact hrn
      rw [decide_eq_true hn2]
      simp only [hr, C.ite_true, C.ite_false, C.pick_true, C.pick_false, C.not_bool, C.field_ptr, C.nilCheck_ptr, C.add_mk, C.sub_mk, C.mul_mk, C.eql_mk, C.neq_mk, C.lss_mk, C.leq_mk, C.gtr_mk, C.geq_mk, C.conv_mk, C.len_mk, C.ext_0, C.ext_1, C.ext3_0, C.ext3_1, C.ext3_2, C.guarded_yes, C.guarded_tf, C.guarded_ft, C.guarded_undef, Bool.not_true, Bool.not_false, Nat.zero_add, eq_self, decide_true, decide_false]
      refine C.idx_int ho2.rd hro fun g o cs e fz hg hc => C.load1_of hg hc ?_
      have hmem : ∀ j : Nat, (j : Int) ∈ (G.row i).take (k + 1) ↔ (j : Int) ∈ (G.row i).take k ∨ j = r := fun j => by
        rw [List.take_succ_eq_append_getElem hkl, List.mem_append, List.mem_singleton, hr]
        constructor <;> rintro (h | h) <;> first | exact .inl h | exact .inr (by omega)
      by_cases hneg : out[r] < 0
      · simp only [C.ite_true, C.ite_false, C.pick_true, C.pick_false, C.not_bool, C.field_ptr, C.nilCheck_ptr, C.add_mk, C.sub_mk, C.mul_mk, C.eql_mk, C.neq_mk, C.lss_mk, C.leq_mk, C.gtr_mk, C.geq_mk, C.conv_mk, C.len_mk, C.ext_0, C.ext_1, C.ext3_0, C.ext3_1, C.ext3_2, C.guarded_yes, C.guarded_tf, C.guarded_ft, C.guarded_undef, Bool.not_true, Bool.not_false, Nat.zero_add, eq_self, decide_true, decide_false, hneg]
        rw [wrap64_id (n := (far : Int) + 1) (by omega)]
        refine own_set hfb hn ho2 hro fun w3 hf3 ho3 => nx _ w3 hf3 ho3 ?_
        have he : G.edge i r = true := by rw [edge_row hi, ← row_get hi, ← hr]; exact List.getElem_mem _
        refine (hI.set hd he hro hneg).weak fun j _ _ hj => ?_
        rw [hmem] at hj
        rcases hj with hj | hj | hj
        · exact .inl (.inl hj)
        · exact .inl (.inr hj)
        · exact .inr hj
      · simp only [C.ite_true, C.ite_false, C.pick_true, C.pick_false, C.not_bool, C.field_ptr, C.nilCheck_ptr, C.add_mk, C.sub_mk, C.mul_mk, C.eql_mk, C.neq_mk, C.lss_mk, C.leq_mk, C.gtr_mk, C.geq_mk, C.conv_mk, C.len_mk, C.ext_0, C.ext_1, C.ext3_0, C.ext3_1, C.ext3_2, C.guarded_yes, C.guarded_tf, C.guarded_ft, C.guarded_undef, Bool.not_true, Bool.not_false, Nat.zero_add, eq_self, decide_true, decide_false, hneg]
        refine nx out w2 hfb ho2 ?_
        refine (hI.skip (j := r) fun _ => by omega).weak fun j _ _ hj => ?_
        rw [hmem] at hj
        rcases hj with hj | hj | hj
        · exact .inl (.inl hj)
        · exact .inl (.inr hj)
        · exact .inr hj
    · rw [decide_eq_false hn2]
      simp only [C.ite_true, C.ite_false, C.pick_true, C.pick_false, C.not_bool, C.field_ptr, C.nilCheck_ptr, C.add_mk, C.sub_mk, C.mul_mk, C.eql_mk, C.neq_mk, C.lss_mk, C.leq_mk, C.gtr_mk, C.geq_mk, C.conv_mk, C.len_mk, C.ext_0, C.ext_1, C.ext3_0, C.ext3_1, C.ext3_2, C.guarded_yes, C.guarded_tf, C.guarded_ft, C.guarded_undef, Bool.not_true, Bool.not_false, Nat.zero_add, eq_self, decide_true, decide_false]
      refine nx out w2 hfb ho2 (hI.weak fun j hj _ hm => ?_)
      rcases hm with hm | hm
      · exact .inl hm
      · rw [List.take_succ_eq_append_getElem hkl, List.mem_append, List.mem_singleton] at hm
        rcases hm with hm | hm
        · exact .inr hm
        · omega
theorem d29_round {W1 : World} {G : Gr} {b : Nat} {nv rv v : Value} {far : Nat} (hG : IsG W1 nv rv G) (hb : GBlk W1 b 30 nv rv) (hn : NewS W1 v) (hfar : far ≤ 1000)
    (h : ∀ w out, Fr [] W1 w → OwnS w v 3 1 (intC out) → DI G (far + 1) (fun _ => False) out → F21.k14 K (.pointer (some ⟨b, 0, none⟩)) (.int .i64 (G.n : Int)) v (.int .i64 (far : Int)) w) :
    ∀ (d i : Nat) (out : List Int) (w : World), G.n = i + d → Fr [] W1 w → OwnS w v 3 1 (intC out) → DI G far (fun j => ∃ i', i' < i ∧ G.dst i' = far ∧ G.edge i' j = true) out →
      F21.l16 K (.pointer (some ⟨b, 0, none⟩)) (.int .i64 (G.n : Int)) v (.int .i64 (far : Int)) (.int .i64 (i : Int)) w := by
  have hfew := hG.few
  intro d
  induction d with
  | zero =>
    intro i out w hd hf ho hI
    refine F21.l16.to ?_
    simp only [C.ite_true, C.ite_false, C.pick_true, C.pick_false, C.not_bool, C.field_ptr, C.nilCheck_ptr, C.add_mk, C.sub_mk, C.mul_mk, C.eql_mk, C.neq_mk, C.lss_mk, C.leq_mk, C.gtr_mk, C.geq_mk, C.conv_mk, C.len_mk, C.ext_0, C.ext_1, C.ext3_0, C.ext3_1, C.ext3_2, C.guarded_yes, C.guarded_tf, C.guarded_ft, C.guarded_undef, Bool.not_true, Bool.not_false, Nat.zero_add, eq_self, decide_true, decide_false, show ¬ ((i : Int) < (G.n : Int)) by omega]
    refine h w out hf ho (hI.next fun i' j a c e => ⟨i', by omega, c, e⟩)
  | succ d ih =>
    intro i out w hd hf ho hI
    have hi : i < G.n := by omega
    have hio : i < out.length := by rw [hI.len]; exact hi
    refine F21.l16.to ?_
    simp only [C.ite_true, C.ite_false, C.pick_true, C.pick_false, C.not_bool, C.field_ptr, C.nilCheck_ptr, C.add_mk, C.sub_mk, C.mul_mk, C.eql_mk, C.neq_mk, C.lss_mk, C.leq_mk, C.gtr_mk, C.geq_mk, C.conv_mk, C.len_mk, C.ext_0, C.ext_1, C.ext3_0, C.ext3_1, C.ext3_2, C.guarded_yes, C.guarded_tf, C.guarded_ft, C.guarded_undef, Bool.not_true, Bool.not_false, Nat.zero_add, eq_self, decide_true, decide_false, show ((i : Int) < (G.n : Int)) by omega]
    have nx : ∀ (out' : List Int) (w' : World), Fr [] W1 w' → OwnS w' v 3 1 (intC out') → DI G far (fun j => ∃ i', i' < i + 1 ∧ G.dst i' = far ∧ G.edge i' j = true) out' →
        F21.k17 K (.pointer (some ⟨b, 0, none⟩)) (.int .i64 (G.n : Int)) v (.int .i64 (far : Int)) (.int .i64 (i : Int)) w' := by
      intro out' w' a c e
      refine F21.k17.to ?_
      simp only [C.ite_true, C.ite_false, C.pick_true, C.pick_false, C.not_bool, C.field_ptr, C.nilCheck_ptr, C.add_mk, C.sub_mk, C.mul_mk, C.eql_mk, C.neq_mk, C.lss_mk, C.leq_mk, C.gtr_mk, C.geq_mk, C.conv_mk, C.len_mk, C.ext_0, C.ext_1, C.ext3_0, C.ext3_1, C.ext3_2, C.guarded_yes, C.guarded_tf, C.guarded_ft, C.guarded_undef, Bool.not_true, Bool.not_false, Nat.zero_add, eq_self, decide_true, decide_false]
      rw [wrap64_id (n := (i : Int) + 1) (by omega), show (i : Int) + 1 = ((i + 1 : Nat) : Int) by omega]
      exact ih (i + 1) out' w' (by omega) a c e
    refine F21.k18.to (C.idx_int ho.rd hio fun g o cs e fz hg hc => C.load1_of hg hc ?_)
    by_cases he : out[i] = (far : Int)
    · have hd : G.dst i = far := by have := hI.ok i hio; omega
      have e : ¬ (out[i] ≠ (far : Int)) := fun c => c he
      simp only [C.ite_true, C.ite_false, C.pick_true, C.pick_false, C.not_bool, C.field_ptr, C.nilCheck_ptr, C.add_mk, C.sub_mk, C.mul_mk, C.eql_mk, C.neq_mk, C.lss_mk, C.leq_mk, C.gtr_mk, C.geq_mk, C.conv_mk, C.len_mk, C.ext_0, C.ext_1, C.ext3_0, C.ext3_1, C.ext3_2, C.guarded_yes, C.guarded_tf, C.guarded_ft, C.guarded_undef, Bool.not_true, Bool.not_false, Nat.zero_add, eq_self, decide_true, decide_false, e]
      refine F21.k19.to (d29_row (S := fun j => ∃ i', i' < i ∧ G.dst i' = far ∧ G.edge i' j = true) hG hb hn hfar hi hd (fun w' out' hf' ho' hI' => nx out' w' hf' ho' (hI'.weak fun j hj _ hm => ?_)) (G.row i).length 0 out w (by omega) hf ho (hI.weak fun j _ _ hm => ?_))
      · obtain ⟨i', h1, h2, h3⟩ := hm
        rcases Nat.lt_or_ge i' i with c | c
        · exact .inl ⟨i', c, h2, h3⟩
        · obtain rfl : i' = i := by omega
          rw [edge_row hi, ← row_get hi] at h3
          exact .inr h3
      · simpa using hm
    · simp only [C.ite_true, C.ite_false, C.pick_true, C.pick_false, C.not_bool, C.field_ptr, C.nilCheck_ptr, C.add_mk, C.sub_mk, C.mul_mk, C.eql_mk, C.neq_mk, C.lss_mk, C.leq_mk, C.gtr_mk, C.geq_mk, C.conv_mk, C.len_mk, C.ext_0, C.ext_1, C.ext3_0, C.ext3_1, C.ext3_2, C.guarded_yes, C.guarded_tf, C.guarded_ft, C.guarded_undef, Bool.not_true, Bool.not_false, Nat.zero_add, eq_self, decide_true, decide_false, ne_eq, he, not_false_eq_true]
      refine nx out w hf ho (hI.weak fun j hj hdj hm => ?_)
      obtain ⟨i', h1, h2, h3⟩ := hm
      rcases Nat.lt_or_ge i' i with c | c
      · exact ⟨i', c, h2, h3⟩
      · obtain rfl : i' = i := by omega
        exact absurd (by rw [hI.old i' hio (by omega) (by omega), h2]) he
theorem d29_far {W1 : World} {G : Gr} {b : Nat} {nv rv v : Value} (hG : IsG W1 nv rv G) (hb : GBlk W1 b 30 nv rv) (hn : NewS W1 v)
    (h : ∀ w, Fr [] W1 w → OwnS w v 3 1 (intC G.distL) → K v w) :
    ∀ (d far : Nat) (out : List Int) (w : World), G.n = far + d → Fr [] W1 w → OwnS w v 3 1 (intC out) → DI G far (fun _ => False) out → F21.l13 K (.pointer (some ⟨b, 0, none⟩)) (.int .i64 (G.n : Int)) v (.int .i64 (far : Int)) w := by
  have hfew := hG.few
  intro d
  induction d with
  | zero =>
    intro far out w hd hf ho hI
    refine F21.l13.to ?_
    simp only [C.ite_true, C.ite_false, C.pick_true, C.pick_false, C.not_bool, C.field_ptr, C.nilCheck_ptr, C.add_mk, C.sub_mk, C.mul_mk, C.eql_mk, C.neq_mk, C.lss_mk, C.leq_mk, C.gtr_mk, C.geq_mk, C.conv_mk, C.len_mk, C.ext_0, C.ext_1, C.ext3_0, C.ext3_1, C.ext3_2, C.guarded_yes, C.guarded_tf, C.guarded_ft, C.guarded_undef, Bool.not_true, Bool.not_false, Nat.zero_add, eq_self, decide_true, decide_false, show ¬ ((far : Int) < (G.n : Int)) by omega]
    refine F21.k25.to (h w hf ?_)
    obtain rfl : far = G.n := by omega
    rw [← hI.done]
    exact ho
  | succ d ih =>
    intro far out w hd hf ho hI
    refine F21.l13.to ?_
    simp only [C.ite_true, C.ite_false, C.pick_true, C.pick_false, C.not_bool, C.field_ptr, C.nilCheck_ptr, C.add_mk, C.sub_mk, C.mul_mk, C.eql_mk, C.neq_mk, C.lss_mk, C.leq_mk, C.gtr_mk, C.geq_mk, C.conv_mk, C.len_mk, C.ext_0, C.ext_1, C.ext3_0, C.ext3_1, C.ext3_2, C.guarded_yes, C.guarded_tf, C.guarded_ft, C.guarded_undef, Bool.not_true, Bool.not_false, Nat.zero_add, eq_self, decide_true, decide_false, show ((far : Int) < (G.n : Int)) by omega]
    refine F21.k15.to (d29_round hG hb hn (by omega) (fun w' out' hf' ho' hI' => ?_) G.n 0 out w (by omega) hf ho (hI.weak fun j _ _ hm => ?_))
    · refine F21.k14.to ?_
      simp only [C.ite_true, C.ite_false, C.pick_true, C.pick_false, C.not_bool, C.field_ptr, C.nilCheck_ptr, C.add_mk, C.sub_mk, C.mul_mk, C.eql_mk, C.neq_mk, C.lss_mk, C.leq_mk, C.gtr_mk, C.geq_mk, C.conv_mk, C.len_mk, C.ext_0, C.ext_1, C.ext3_0, C.ext3_1, C.ext3_2, C.guarded_yes, C.guarded_tf, C.guarded_ft, C.guarded_undef, Bool.not_true, Bool.not_false, Nat.zero_add, eq_self, decide_true, decide_false]
      rw [wrap64_id (n := (far : Int) + 1) (by omega), show (far : Int) + 1 = ((far + 1 : Nat) : Int) by omega]
      exact ih (far + 1) out' w' (by omega) hf' ho' hI'
    · obtain ⟨i', h1, _⟩ := hm
      omega
theorem refDist_c {nv rv : Value} {G : Gr} (hG : IsG w nv rv G) (h : ∀ v w', Fr [] w w' → NewS w v → OwnS w' v 3 1 (intC G.distL) → K v w') : C.call Try.prog 21 #[.agg #[nv, rv]] w K := by
  refine F21.sh (GBlk.new hG fun b w1 hf1 hb1 hb hG1 => hb.next (hG1.len_next ?_))
  refine d29_fill hG.few (fun v w2 hf2 hn2 ho2 => F21.k7.to ?_) G.n 0 _ w1 (by omega) (Fr.refl _ _) (NewS.nil _) (OwnS.nil _ _ _)
  refine d29_roots hG1 hb hn2 (fun w3 out hf3 ho3 hI => F21.k12.to ?_) G.roots.length 0 _ w2 (by omega) hf2 ho2 (by simp) fun j hj => ?_
  · exact d29_far hG1 hb hn2 (fun w4 hf4 ho4 => h v w4 (hf1.trans hf4) (hn2.mono hf1.size) ho4) G.n 0 out w3 (by omega) hf3 ho3 hI
  · rw [List.getElem_replicate]
    exact ⟨.inl rfl, by omega, fun hm => by simp at hm⟩
end
end Go.Proofs.YtchonfdnghimdaaV
