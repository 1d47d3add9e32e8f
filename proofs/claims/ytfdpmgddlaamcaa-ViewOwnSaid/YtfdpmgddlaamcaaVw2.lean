/- Views in memory; where a serial's node stands: what the calls come to. -/
import Derived.Test.YtfdpmgddlaamcaaVw1
import Derived.Test.YtfdpmgddlaamcaaGView
import Derived.Test.YtfdpmgddlaamcaaLibApp
import Derived.Test.YtfdpmgddlaamcaaSl
import Derived.Test.YtfdpmgddlaamcaaEq
namespace Go.Proofs.YtfdpmgddlaamcaaV
open Go Go.Proofs Go.RowKit
set_option linter.unusedVariables false
set_option linter.unusedSimpArgs false
set_option maxRecDepth 10000
/-! ### 1. Views in memory -/
def slC (vs : List Value) : List (List Value) := vs.map fun v => [v]
theorem slC_len (vs : List Value) : (slC vs).length = vs.length := by simp [slC]
theorem slC_get {vs : List Value} {j : Nat} (h : j < vs.length) : (slC vs)[j]? = some [vs[j]] := by simp [slC, h]
theorem slC_app (a b : List Value) : slC (a ++ b) = slC a ++ slC b := by simp [slC]
def valC (l : List Va) : List (List Value) := l.map fun x => [.int .i64 x.1, .int .i64 x.2]
theorem valC_len (l : List Va) : (valC l).length = l.length := by simp [valC]
theorem valC_get {l : List Va} {j : Nat} (h : j < l.length) : (valC l)[j]? = some [.int .i64 l[j].1, .int .i64 l[j].2] := by simp [valC, h]
theorem valC_app (a b : List Va) : valC (a ++ b) = valC a ++ valC b := by simp [valC]
theorem valC_one {l : List Va} : ∀ y ∈ valC l, ∀ u ∈ y, u.oneCell' = true := by
  intro y hy u hu
  simp only [valC, List.mem_map] at hy
  obtain ⟨x, _, rfl⟩ := hy
  simp only [List.mem_cons, List.not_mem_nil, or_false] at hu
  rcases hu with rfl | rfl <;> rfl
def ndC (N : List Nd) (fs : List Value) : List (List Value) := List.zipWith (fun nd f => [.int .i64 nd.1, f]) N fs
theorem ndC_len {N : List Nd} {fs : List Value} (h : fs.length = N.length) : (ndC N fs).length = N.length := by simp [ndC, h]
theorem ndC_get {N : List Nd} {fs : List Value} {j : Nat} (h : j < N.length) (h' : j < fs.length) : (ndC N fs)[j]? = some [.int .i64 N[j].1, fs[j]] := by simp [ndC, List.getElem?_zipWith, List.getElem?_eq_getElem h, List.getElem?_eq_getElem h']
def intC (l : List Int) : List (List Value) := l.map fun n => [.int .i64 n]
theorem intC_len (l : List Int) : (intC l).length = l.length := by simp [intC]
theorem intC_get {l : List Int} {j : Nat} (h : j < l.length) : (intC l)[j]? = some [.int .i64 l[j]] := by simp [intC, h]
theorem intC_app (a b : List Int) : intC (a ++ b) = intC a ++ intC b := by simp [intC]
theorem intC_one {l : List Int} : ∀ y ∈ intC l, ∀ u ∈ y, u.oneCell' = true := by
  intro y hy u hu
  simp only [intC, List.mem_map] at hy
  obtain ⟨x, _, rfl⟩ := hy
  simp only [List.mem_cons, List.not_mem_nil, or_false] at hu
  subst hu
  rfl
def boolC (l : List Bool) : List (List Value) := l.map fun b => [.bool b]
theorem boolC_len (l : List Bool) : (boolC l).length = l.length := by simp [boolC]
theorem boolC_get {l : List Bool} {j : Nat} (h : j < l.length) : (boolC l)[j]? = some [.bool l[j]] := by simp [boolC, h]
theorem boolC_set (l : List Bool) (j : Nat) (b : Bool) : (boolC l).set j [.bool b] = boolC (l.set j b) := by simp [boolC, List.map_set]
theorem RdS.one {w : World} {v : Value} {sz : Nat} {xs : List (List Value)} (h : RdS w v sz xs) : v.oneCell' = true ∧ v.cells = #[v] := by
  obtain ⟨A, c, rfl, _⟩ := h
  exact ⟨rfl, rfl⟩
def RowsV (w : World) (rv : Value) (L : List (List Va)) : Prop := ∃ vs : List Value, RdS w rv 1 (slC vs) ∧ vs.length = L.length ∧ ∀ i (h : i < L.length) (h' : i < vs.length), RdS w vs[i] 2 (valC L[i])
theorem RowsV.keep {w w' : World} {rv : Value} {L : List (List Va)} (h : RowsV w rv L) (hf : Fr [] w w') : RowsV w' rv L := by
  obtain ⟨vs, h1, h2, h3⟩ := h
  exact ⟨vs, h1.keep hf, h2, fun i a b => (h3 i a b).keep hf⟩
def NodesAt (w : World) (nv : Value) (N : List Nd) : Prop := ∃ fs : List Value, fs.length = N.length ∧ RdS w nv 2 (ndC N fs) ∧ ∀ i (h : i < N.length) (h' : i < fs.length), RdS w fs[i] 2 (valC N[i].2)
theorem NodesAt.keep {w w' : World} {nv : Value} {N : List Nd} (h : NodesAt w nv N) (hf : Fr [] w w') : NodesAt w' nv N := by
  obtain ⟨fs, h1, h2, h3⟩ := h
  exact ⟨fs, h1, h2.keep hf, fun i a b => (h3 i a b).keep hf⟩
structure IsV (w : World) (rv nv : Value) (V : Vw) : Prop where
  rows : RowsV w rv V.1
  nodes : NodesAt w nv V.2
theorem IsV.keep {w w' : World} {rv nv : Value} {V : Vw} (h : IsV w rv nv V) (hf : Fr [] w w') : IsV w' rv nv V := ⟨h.rows.keep hf, h.nodes.keep hf⟩
theorem RowsV.one {w : World} {rv : Value} {L : List (List Va)} (h : RowsV w rv L) : rv.oneCell' = true ∧ rv.cells = #[rv] := by
  obtain ⟨vs, h1, _⟩ := h
  exact h1.one
theorem NodesAt.one {w : World} {nv : Value} {N : List Nd} (h : NodesAt w nv N) : nv.oneCell' = true ∧ nv.cells = #[nv] := by
  obtain ⟨fs, _, h1, _⟩ := h
  exact h1.one
theorem IsV.cells {w : World} {rv nv : Value} {V : Vw} (h : IsV w rv nv V) : Value.cells (.agg #[rv, nv]) = #[rv, nv] := by
  simp [Value.cells, h.rows.one.2, h.nodes.one.2]
theorem IsV.ones {w : World} {rv nv : Value} {V : Vw} (h : IsV w rv nv V) : ∀ u ∈ (Value.cells (.agg #[rv, nv])).toList, u.oneCell' = true := by
  rw [h.cells]
  intro u hu
  simp only [List.mem_cons, List.not_mem_nil, or_false] at hu
  rcases hu with rfl | rfl
  · exact h.rows.one.1
  · exact h.nodes.one.1
theorem RowsV.le {w : World} {rv : Value} {L : List (List Va)} (h : RowsV w rv L) : L.length ≤ 9223372036854775807 := by
  obtain ⟨vs, h1, h2, _⟩ := h
  have := h1.le
  rw [slC_len] at this
  omega
theorem NodesAt.le {w : World} {nv : Value} {N : List Nd} (h : NodesAt w nv N) : N.length ≤ 9223372036854775807 := by
  obtain ⟨fs, h1, h2, _⟩ := h
  have := h2.le
  rwa [ndC_len h1] at this
/-- A view's block. -/
def VB (w : World) (b : Nat) (rv nv : Value) : Prop := w.heap[b]? = some (.cells #[rv, nv] 51 (0, 0))
theorem VB.keep {S : List Nat} {w w' : World} {b : Nat} {rv nv : Value} (h : VB w b rv nv) (hf : Fr S w w') (hS : b ∉ S) : VB w' b rv nv := hf.at_ h hS
section
variable {K : VK} {w : World}
theorem VB.f0 {b : Nat} {rv nv : Value} (h : VB w b rv nv) (hk : K rv w) : C.field 0 (.pointer (some ⟨b, 0, none⟩)) w fun p w1 => C.load1 p w1 K := by
  simp only [C.ite_true, C.ite_false, C.pick_true, C.pick_false, C.not_bool, C.field_ptr, C.nilCheck_ptr, C.add_mk, C.sub_mk, C.mul_mk, C.eql_mk, C.neq_mk, C.lss_mk, C.leq_mk, C.gtr_mk, C.geq_mk, C.conv_mk, C.len_mk, C.ext_0, C.ext_1, C.ext3_0, C.ext3_1, C.ext3_2, C.guarded_yes, C.guarded_tf, C.guarded_ft, C.guarded_undef, Bool.not_true, Bool.not_false, Nat.zero_add, eq_self, decide_true, decide_false]
  exact C.load1_of h rfl hk
theorem VB.f1 {b : Nat} {rv nv : Value} (h : VB w b rv nv) (hk : K nv w) : C.field 1 (.pointer (some ⟨b, 0, none⟩)) w fun p w1 => C.load1 p w1 K := by
  simp only [C.ite_true, C.ite_false, C.pick_true, C.pick_false, C.not_bool, C.field_ptr, C.nilCheck_ptr, C.add_mk, C.sub_mk, C.mul_mk, C.eql_mk, C.neq_mk, C.lss_mk, C.leq_mk, C.gtr_mk, C.geq_mk, C.conv_mk, C.len_mk, C.ext_0, C.ext_1, C.ext3_0, C.ext3_1, C.ext3_2, C.guarded_yes, C.guarded_tf, C.guarded_ft, C.guarded_undef, Bool.not_true, Bool.not_false, Nat.zero_add, eq_self, decide_true, decide_false]
  exact C.load1_of h rfl hk
theorem VB.all {b : Nat} {rv nv : Value} (h : VB w b rv nv) (hk : K (.agg #[rv, nv]) w) : C.loadA 2 (.pointer (some ⟨b, 0, none⟩)) w K := C.loadA_all h rfl hk
theorem VB.new {rv nv : Value} {V : Vw} (hV : IsV w rv nv V) (hk : ∀ b w', Fr [] w w' → w.heap.size ≤ b → VB w' b rv nv → IsV w' rv nv V → K (.pointer (some ⟨b, 0, none⟩)) w') : C.new (.cells (Value.cells (.agg #[rv, nv])) 51) w K := by
  refine C.new_of fun b w1 hn => hk b w1 hn.fr (by have := hn.is; omega) ?_ (hV.keep hn.fr)
  have := hn.at_
  rw [hV.cells] at this
  exact this
theorem NodesAt.len {nv : Value} {N : List Nd} (h : NodesAt w nv N) {w1 : World} (hk : K (.int .i64 (N.length : Int)) w1) : C.len nv w1 K := by
  obtain ⟨fs, h1, ⟨A, c, rfl, _⟩, _⟩ := h
  rw [ndC_len h1]
  simpa only [C.len_mk] using hk
theorem RowsV.len {rv : Value} {L : List (List Va)} (h : RowsV w rv L) {w1 : World} (hk : K (.int .i64 (L.length : Int)) w1) : C.len rv w1 K := by
  obtain ⟨vs, ⟨A, c, rfl, _⟩, h2, _⟩ := h
  rw [slC_len, h2]
  simpa only [C.len_mk] using hk
theorem RowsV.get {rv : Value} {L : List (List Va)} {i : Nat} (h : RowsV w rv L) (hi : i < L.length) (hk : ∀ v, RdS w v 2 (valC L[i]) → K v w) : C.idx 1 rv (.int .i64 (i : Int)) w fun p w1 => C.load1 p w1 K := by
  obtain ⟨vs, h1, h2, h3⟩ := h
  have hi' : i < vs.length := by omega
  refine C.idx_rd h1 (by omega) (by rw [Int.toNat_natCast]; exact slC_get hi') fun g o cs e fz hg _ hc => C.load1_of hg (v := vs[i]) ?_ (hk _ (h3 i hi hi'))
  have := hc 0 (by omega)
  simpa using this
theorem NodesAt.get {nv : Value} {N : List Nd} {i : Nat} (h : NodesAt w nv N) (hi : i < N.length)
    (hk : ∀ g o cs e fz f, w.heap[g]? = some (.cells cs e fz) → cs[o]? = some (.int .i64 N[i].1) → cs[o + 1]? = some f → RdS w f 2 (valC N[i].2) → K (.pointer (some ⟨g, o, none⟩)) w) : C.idx 2 nv (.int .i64 (i : Int)) w K := by
  obtain ⟨fs, h1, h2, h3⟩ := h
  have hi' : i < fs.length := by omega
  refine C.idx_rd h2 (by omega) (by rw [Int.toNat_natCast]; exact ndC_get hi hi') fun g o cs e fz hg _ hc => hk g o cs e fz fs[i] hg ?_ ?_ (h3 i hi hi')
  · simpa using hc 0 (by omega)
  · simpa using hc 1 (by omega)
/-- A node's two cells, loaded at once. -/
theorem loadNd {g o : Nat} {cs : Array Value} {e : TypeId} {fz : Nat × Nat} {s f : Value} (hg : w.heap[g]? = some (.cells cs e fz)) (h0 : cs[o]? = some s) (h1 : cs[o + 1]? = some f) (hk : K (.agg #[s, f]) w) : C.loadA 2 (.pointer (some ⟨g, o, none⟩)) w K := by
  refine C.loadA_cells (x := [s, f]) hg rfl (by omega) (fun j hj => ?_) hk
  match j, hj with
  | 0, _ => simpa using h0
  | 1, _ => simpa using h1
/-- A call of a function at hand. -/
theorem vcCall_of {f : FuncId} {cap : Array Value} {args : List Value} {w : World} {K : VK} (hb : bodied Try.prog f = true) (h : C.call Try.prog f (args ++ cap.toList).toArray w K) : vcCall Try.prog (.func (.func f) #[] cap) args w K := by
  simp only [vcCall, hb, cond_true, List.nil_append]
  exact h
/-! ### 2. Where a serial's node stands -/
theorem plcI_i {N : List Nd} {s : Int} {i : Nat} (h : i < N.length) (h1 : N[i].1 = s) (h2 : ∀ j (hj : j < N.length), j < i → N[j].1 ≠ s) : plcI N s = i := by
  unfold plcI; rw [plc_mk h h1 h2]
theorem plcI_no {N : List Nd} {s : Int} (h : ∀ j (hj : j < N.length), N[j].1 ≠ s) : plcI N s = -1 := by
  unfold plcI
  rw [plc_none fun x hx => ?_]
  obtain ⟨j, hj, rfl⟩ := List.getElem_of_mem hx
  exact h j hj
theorem find_loop {W0 : World} {rv nv : Value} {V : Vw} {s : Int} {b : Nat} (hV : IsV W0 rv nv V) (h : ∀ w', Fr [] W0 w' → K (.int .i64 (plcI V.2 s)) w') :
    ∀ (d j : Nat) (w : World), V.2.length = j + d → Fr [] W0 w → VB w b rv nv → (∀ i (hi : i < V.2.length), i < j → V.2[i].1 ≠ s) → F31.l2 K (.int .i64 s) (.pointer (some ⟨b, 0, none⟩)) (.int .i64 (j : Int)) w := by
  have hle := hV.nodes.le
  intro d
  induction d with
  | zero =>
    intro j w hj hf hb hn
    refine F31.l2.to (hb.f1 (hV.nodes.len ?_))
    simp only [C.ite_true, C.ite_false, C.pick_true, C.pick_false, C.not_bool, C.field_ptr, C.nilCheck_ptr, C.add_mk, C.sub_mk, C.mul_mk, C.eql_mk, C.neq_mk, C.lss_mk, C.leq_mk, C.gtr_mk, C.geq_mk, C.conv_mk, C.len_mk, C.ext_0, C.ext_1, C.ext3_0, C.ext3_1, C.ext3_2, C.guarded_yes, C.guarded_tf, C.guarded_ft, C.guarded_undef, Bool.not_true, Bool.not_false, Nat.zero_add, eq_self, decide_true, decide_false, show ¬ ((j : Int) < (V.2.length : Int)) by omega]
    refine F31.k6.to ?_
    have := h w hf
    rwa [plcI_no fun i hi => hn i hi (by omega)] at this
  | succ d ih =>
    intro j w hj hf hb hn
    have jl : j < V.2.length := by omega
    refine F31.l2.to (hb.f1 (hV.nodes.len ?_))
    simp only [C.ite_true, C.ite_false, C.pick_true, C.pick_false, C.not_bool, C.field_ptr, C.nilCheck_ptr, C.add_mk, C.sub_mk, C.mul_mk, C.eql_mk, C.neq_mk, C.lss_mk, C.leq_mk, C.gtr_mk, C.geq_mk, C.conv_mk, C.len_mk, C.ext_0, C.ext_1, C.ext3_0, C.ext3_1, C.ext3_2, C.guarded_yes, C.guarded_tf, C.guarded_ft, C.guarded_undef, Bool.not_true, Bool.not_false, Nat.zero_add, eq_self, decide_true, decide_false, show ((j : Int) < (V.2.length : Int)) by omega]
    refine F31.k4.to (hb.f1 ((hV.keep hf).nodes.get jl fun g o cs e fz f hg h0 h1 hr => ?_))
    simp only [C.ite_true, C.ite_false, C.pick_true, C.pick_false, C.not_bool, C.field_ptr, C.nilCheck_ptr, C.add_mk, C.sub_mk, C.mul_mk, C.eql_mk, C.neq_mk, C.lss_mk, C.leq_mk, C.gtr_mk, C.geq_mk, C.conv_mk, C.len_mk, C.ext_0, C.ext_1, C.ext3_0, C.ext3_1, C.ext3_2, C.guarded_yes, C.guarded_tf, C.guarded_ft, C.guarded_undef, Bool.not_true, Bool.not_false, Nat.zero_add, eq_self, decide_true, decide_false]
    refine C.load1_of hg h0 ?_
    by_cases hs : V.2[j].1 = s
    · simp only [C.ite_true, C.ite_false, C.pick_true, C.pick_false, C.not_bool, C.field_ptr, C.nilCheck_ptr, C.add_mk, C.sub_mk, C.mul_mk, C.eql_mk, C.neq_mk, C.lss_mk, C.leq_mk, C.gtr_mk, C.geq_mk, C.conv_mk, C.len_mk, C.ext_0, C.ext_1, C.ext3_0, C.ext3_1, C.ext3_2, C.guarded_yes, C.guarded_tf, C.guarded_ft, C.guarded_undef, Bool.not_true, Bool.not_false, Nat.zero_add, eq_self, decide_true, decide_false, hs]
      have := h w hf
      rwa [plcI_i jl hs hn] at this
    · simp only [C.ite_true, C.ite_false, C.pick_true, C.pick_false, C.not_bool, C.field_ptr, C.nilCheck_ptr, C.add_mk, C.sub_mk, C.mul_mk, C.eql_mk, C.neq_mk, C.lss_mk, C.leq_mk, C.gtr_mk, C.geq_mk, C.conv_mk, C.len_mk, C.ext_0, C.ext_1, C.ext3_0, C.ext3_1, C.ext3_2, C.guarded_yes, C.guarded_tf, C.guarded_ft, C.guarded_undef, Bool.not_true, Bool.not_false, Nat.zero_add, eq_self, decide_true, decide_false, hs]
      refine F31.k3.to ?_
      simp only [C.ite_true, C.ite_false, C.pick_true, C.pick_false, C.not_bool, C.field_ptr, C.nilCheck_ptr, C.add_mk, C.sub_mk, C.mul_mk, C.eql_mk, C.neq_mk, C.lss_mk, C.leq_mk, C.gtr_mk, C.geq_mk, C.conv_mk, C.len_mk, C.ext_0, C.ext_1, C.ext3_0, C.ext3_1, C.ext3_2, C.guarded_yes, C.guarded_tf, C.guarded_ft, C.guarded_undef, Bool.not_true, Bool.not_false, Nat.zero_add, eq_self, decide_true, decide_false]
      rw [wrap64_id (n := (j : Int) + 1) (by omega), show (j : Int) + 1 = ((j + 1 : Nat) : Int) by omega]
      refine ih (j + 1) w (by omega) hf hb fun i hi hij => ?_
      by_cases e : i = j
      · subst e; exact hs
      · exact hn i hi (by omega)
theorem find_c {rv nv : Value} {V : Vw} {s : Int} (hV : IsV w rv nv V) (h : ∀ w', Fr [] w w' → K (.int .i64 (plcI V.2 s)) w') : C.call Try.prog 31 #[.agg #[rv, nv], .int .i64 s] w K :=
  F31.sh (VB.new hV fun b w1 hf _ hb hV1 => find_loop hV1 (fun w' hf' => h w' (hf.trans hf')) V.2.length 0 w1 (by omega) (Fr.refl _ _) hb fun i hi c => by omega)
theorem bodied_place : bodied Try.prog 109 = true := by kernel_rfl
theorem place_loop {W0 : World} {nv : Value} {N : List Nd} {s : Int} {b : Nat} (hN : NodesAt W0 nv N) (hb0 : W0.heap[b]? = some (.cells #[.int .i64 s] 2 (0, 0))) (h : ∀ w', Fr [] W0 w' → K (.int .i64 (plcI N s)) w') :
    ∀ (d j : Nat) (w : World), N.length = j + d → Fr [] W0 w → (∀ i (hi : i < N.length), i < j → N[i].1 ≠ s) → F108.l2 K nv (.func (.func 109) #[] #[.pointer (some ⟨b, 0, none⟩)]) (.int .i64 (N.length : Int)) (.int .i64 (j : Int)) w := by
  have hle := hN.le
  intro d
  induction d with
  | zero =>
    intro j w hj hf hn
    refine F108.l2.to ?_
    simp only [C.ite_true, C.ite_false, C.pick_true, C.pick_false, C.not_bool, C.field_ptr, C.nilCheck_ptr, C.add_mk, C.sub_mk, C.mul_mk, C.eql_mk, C.neq_mk, C.lss_mk, C.leq_mk, C.gtr_mk, C.geq_mk, C.conv_mk, C.len_mk, C.ext_0, C.ext_1, C.ext3_0, C.ext3_1, C.ext3_2, C.guarded_yes, C.guarded_tf, C.guarded_ft, C.guarded_undef, Bool.not_true, Bool.not_false, Nat.zero_add, eq_self, decide_true, decide_false, show ¬ ((j : Int) < (N.length : Int)) by omega]
    refine F108.k7.to ?_
    have := h w hf
    rwa [plcI_no fun i hi => hn i hi (by omega)] at this
  | succ d ih =>
    intro j w hj hf hn
    have jl : j < N.length := by omega
    refine F108.l2.to ?_
    simp only [C.ite_true, C.ite_false, C.pick_true, C.pick_false, C.not_bool, C.field_ptr, C.nilCheck_ptr, C.add_mk, C.sub_mk, C.mul_mk, C.eql_mk, C.neq_mk, C.lss_mk, C.leq_mk, C.gtr_mk, C.geq_mk, C.conv_mk, C.len_mk, C.ext_0, C.ext_1, C.ext3_0, C.ext3_1, C.ext3_2, C.guarded_yes, C.guarded_tf, C.guarded_ft, C.guarded_undef, Bool.not_true, Bool.not_false, Nat.zero_add, eq_self, decide_true, decide_false, show ((j : Int) < (N.length : Int)) by omega]
    refine F108.k3.to ((hN.keep hf).get jl fun g o cs e fz f hg h0 h1 hr => loadNd hg h0 h1 (vcCall_of bodied_place (F109.sh ?_)))
    refine C.new_of fun b2 w1 hn1 => ?_
    have e2 : Value.cells (.agg #[.int .i64 N[j].1, f]) = #[.int .i64 N[j].1, f] := by simp [Value.cells, hr.one.2]
    have hb2 := hn1.at_
    rw [e2] at hb2
    simp only [C.ite_true, C.ite_false, C.pick_true, C.pick_false, C.not_bool, C.field_ptr, C.nilCheck_ptr, C.add_mk, C.sub_mk, C.mul_mk, C.eql_mk, C.neq_mk, C.lss_mk, C.leq_mk, C.gtr_mk, C.geq_mk, C.conv_mk, C.len_mk, C.ext_0, C.ext_1, C.ext3_0, C.ext3_1, C.ext3_2, C.guarded_yes, C.guarded_tf, C.guarded_ft, C.guarded_undef, Bool.not_true, Bool.not_false, Nat.zero_add, eq_self, decide_true, decide_false]
    refine C.load1_of (v := .int .i64 N[j].1) hb2 rfl (C.load1_of (v := .int .i64 s) ((hf.trans hn1.fr).at_ hb0 (by simp)) rfl ?_)
    by_cases hs : N[j].1 = s
    · simp only [C.ite_true, C.ite_false, C.pick_true, C.pick_false, C.not_bool, C.field_ptr, C.nilCheck_ptr, C.add_mk, C.sub_mk, C.mul_mk, C.eql_mk, C.neq_mk, C.lss_mk, C.leq_mk, C.gtr_mk, C.geq_mk, C.conv_mk, C.len_mk, C.ext_0, C.ext_1, C.ext3_0, C.ext3_1, C.ext3_2, C.guarded_yes, C.guarded_tf, C.guarded_ft, C.guarded_undef, Bool.not_true, Bool.not_false, Nat.zero_add, eq_self, decide_true, decide_false, hs]
      have := h w1 (hf.trans hn1.fr)
      rwa [plcI_i jl hs hn] at this
    · simp only [C.ite_true, C.ite_false, C.pick_true, C.pick_false, C.not_bool, C.field_ptr, C.nilCheck_ptr, C.add_mk, C.sub_mk, C.mul_mk, C.eql_mk, C.neq_mk, C.lss_mk, C.leq_mk, C.gtr_mk, C.geq_mk, C.conv_mk, C.len_mk, C.ext_0, C.ext_1, C.ext3_0, C.ext3_1, C.ext3_2, C.guarded_yes, C.guarded_tf, C.guarded_ft, C.guarded_undef, Bool.not_true, Bool.not_false, Nat.zero_add, eq_self, decide_true, decide_false, hs]
      refine F108.k6.to ?_
      simp only [C.ite_true, C.ite_false, C.pick_true, C.pick_false, C.not_bool, C.field_ptr, C.nilCheck_ptr, C.add_mk, C.sub_mk, C.mul_mk, C.eql_mk, C.neq_mk, C.lss_mk, C.leq_mk, C.gtr_mk, C.geq_mk, C.conv_mk, C.len_mk, C.ext_0, C.ext_1, C.ext3_0, C.ext3_1, C.ext3_2, C.guarded_yes, C.guarded_tf, C.guarded_ft, C.guarded_undef, Bool.not_true, Bool.not_false, Nat.zero_add, eq_self, decide_true, decide_false]
      rw [wrap64_id (n := (j : Int) + 1) (by omega), show (j : Int) + 1 = ((j + 1 : Nat) : Int) by omega]
      refine ih (j + 1) w1 (by omega) (hf.trans hn1.fr) fun i hi hij => ?_
      by_cases e : i = j
      · subst e; exact hs
      · exact hn i hi (by omega)
theorem place_c {rv nv : Value} {V : Vw} {s : Int} (hV : IsV w rv nv V) (h : ∀ w', Fr [] w w' → K (.int .i64 (plcI V.2 s)) w') : C.call Try.prog 66 #[.agg #[rv, nv], .int .i64 s] w K := by
  refine F66.sh (VB.new hV fun b w1 hf1 _ hb hV1 => C.new_of fun b2 w2 hn2 => (hb.keep hn2.fr (by simp)).f1 ?_)
  refine F108.sh (hV1.nodes.len ?_)
  exact place_loop (hV1.nodes.keep hn2.fr) hn2.at_ (fun w' hf' => h w' ((hf1.trans hn2.fr).trans hf')) V.2.length 0 w2 (by omega) (Fr.refl _ _) fun i hi c => by omega
/-! ### 3. Values compared -/
theorem neq71 (x y : Operand) (a b : Va) : (do eqGuard .neq 71 x y (.agg #[.int .i64 a.1, .int .i64 a.2]) (.agg #[.int .i64 b.1, .int .i64 b.2]); binOp .neq 71 (.agg #[.int .i64 a.1, .int .i64 a.2]) (.agg #[.int .i64 b.1, .int .i64 b.2]) : Sem Value).run Try.prog w = .ok (.bool (!([a.1, a.2] == [b.1, b.2]))) w :=
  neq_ints (ks := [.i64, .i64]) x y Try.underlying71 (by kernel_rfl) (by kernel_rfl) (by kernel_rfl) [a.1, a.2] [b.1, b.2] rfl rfl
theorem va_beq (a b : Va) : (!([a.1, a.2] == [b.1, b.2])) = !(decide (a = b)) := by
  by_cases h : a = b
  · subst h; simp
  · have : ¬ (a.1 = b.1 ∧ a.2 = b.2) := fun c => h (Prod.ext c.1 c.2)
    rw [decide_eq_false h]
    simp only [Bool.not_false, Bool.not_eq_true', beq_eq_false_iff_ne]
    intro c
    simp only [List.cons.injEq, and_true] at c
    exact this c
theorem Values_loop {a b : Value} {xs ys : List Va} (ra : RdS w a 2 (valC xs)) (rb : RdS w b 2 (valC ys)) (hl : xs.length = ys.length) (h : ∀ w', Fr [] w w' → K (.bool (decide (xs = ys))) w') :
    ∀ (d i : Nat) (w' : World), xs.length = i + d → Fr [] w w' → (∀ j, j < i → xs[j]? = ys[j]?) → F35.l4 K a b (.int .i64 (i : Int)) w' := by
  have hl2 := ra.le
  rw [valC_len] at hl2
  intro d
  induction d with
  | zero =>
    intro i w' hi hf he
    refine F35.l4.to (C.len_rd (ra.keep hf) ?_)
    rw [valC_len]
    simp only [C.ite_true, C.ite_false, C.pick_true, C.pick_false, C.not_bool, C.field_ptr, C.nilCheck_ptr, C.add_mk, C.sub_mk, C.mul_mk, C.eql_mk, C.neq_mk, C.lss_mk, C.leq_mk, C.gtr_mk, C.geq_mk, C.conv_mk, C.len_mk, C.ext_0, C.ext_1, C.ext3_0, C.ext3_1, C.ext3_2, C.guarded_yes, C.guarded_tf, C.guarded_ft, C.guarded_undef, Bool.not_true, Bool.not_false, Nat.zero_add, eq_self, decide_true, decide_false, show ¬ ((i : Int) < (xs.length : Int)) by omega]
    refine F35.k8.to ?_
    have e : xs = ys := List.ext_getElem? fun j => by
      by_cases hj : j < i
      · exact he j hj
      · rw [List.getElem?_eq_none (by omega), List.getElem?_eq_none (by omega)]
    have := h w' hf
    rwa [decide_eq_true e] at this
  | succ d ih =>
    intro i w' hi hf he
    have hix : i < xs.length := by omega
    have hiy : i < ys.length := by omega
    refine F35.l4.to (C.len_rd (ra.keep hf) ?_)
    rw [valC_len]
    simp only [C.ite_true, C.ite_false, C.pick_true, C.pick_false, C.not_bool, C.field_ptr, C.nilCheck_ptr, C.add_mk, C.sub_mk, C.mul_mk, C.eql_mk, C.neq_mk, C.lss_mk, C.leq_mk, C.gtr_mk, C.geq_mk, C.conv_mk, C.len_mk, C.ext_0, C.ext_1, C.ext3_0, C.ext3_1, C.ext3_2, C.guarded_yes, C.guarded_tf, C.guarded_ft, C.guarded_undef, Bool.not_true, Bool.not_false, Nat.zero_add, eq_self, decide_true, decide_false, show ((i : Int) < (xs.length : Int)) by omega]
    refine F35.k6.to (C.draw_of (fun w2 => Fr [] w w2) fun w1 hf1 he1 => ⟨hf.trans hf1, ?_⟩)
    have f1 := hf.trans hf1
    refine C.idx_rdS (S := fun w2 => Fr [] w w2) (fun w2 hw => ra.keep hw) f1 (by omega) (by rw [Int.toNat_natCast]; exact valC_get hix) fun ga oa hl1 hs1 => ?_
    refine C.idx_rdS (S := fun w2 => Fr [] w w2) (fun w2 hw => rb.keep hw) f1 (by omega) (by rw [Int.toNat_natCast]; exact valC_get hiy) fun gb ob hl2 hs2 => ?_
    refine C.loadAS_cells hl1 (by omega) hs1 (C.loadAS_cells hl2 (by omega) hs2 ?_)
    refine ⟨_, fun w' _ => neq71 _ _ _ _, ?_⟩
    rw [va_beq]
    by_cases hb : xs[i] = ys[i]
    · rw [hb, decide_eq_true rfl]
      simp only [C.ite_true, C.ite_false, C.pick_true, C.pick_false, C.not_bool, C.field_ptr, C.nilCheck_ptr, C.add_mk, C.sub_mk, C.mul_mk, C.eql_mk, C.neq_mk, C.lss_mk, C.leq_mk, C.gtr_mk, C.geq_mk, C.conv_mk, C.len_mk, C.ext_0, C.ext_1, C.ext3_0, C.ext3_1, C.ext3_2, C.guarded_yes, C.guarded_tf, C.guarded_ft, C.guarded_undef, Bool.not_true, Bool.not_false, Nat.zero_add, eq_self, decide_true, decide_false]
      refine F35.k5.to ?_
      simp only [C.ite_true, C.ite_false, C.pick_true, C.pick_false, C.not_bool, C.field_ptr, C.nilCheck_ptr, C.add_mk, C.sub_mk, C.mul_mk, C.eql_mk, C.neq_mk, C.lss_mk, C.leq_mk, C.gtr_mk, C.geq_mk, C.conv_mk, C.len_mk, C.ext_0, C.ext_1, C.ext3_0, C.ext3_1, C.ext3_2, C.guarded_yes, C.guarded_tf, C.guarded_ft, C.guarded_undef, Bool.not_true, Bool.not_false, Nat.zero_add, eq_self, decide_true, decide_false]
      rw [wrap64_id (n := (i : Int) + 1) (by omega), show (i : Int) + 1 = ((i + 1 : Nat) : Int) by omega]
      refine ih (i + 1) w1 (by omega) f1 fun j hj => ?_
      by_cases hji : j = i
      · subst hji
        rw [List.getElem?_eq_getElem hix, List.getElem?_eq_getElem hiy, hb]
      · exact he j (by omega)
    · rw [decide_eq_false hb]
      simp only [C.ite_true, C.ite_false, C.pick_true, C.pick_false, C.not_bool, C.field_ptr, C.nilCheck_ptr, C.add_mk, C.sub_mk, C.mul_mk, C.eql_mk, C.neq_mk, C.lss_mk, C.leq_mk, C.gtr_mk, C.geq_mk, C.conv_mk, C.len_mk, C.ext_0, C.ext_1, C.ext3_0, C.ext3_1, C.ext3_2, C.guarded_yes, C.guarded_tf, C.guarded_ft, C.guarded_undef, Bool.not_true, Bool.not_false, Nat.zero_add, eq_self, decide_true, decide_false]
      have ne : ¬ xs = ys := fun e => hb (by subst e; rfl)
      have := h w1 f1
      rwa [decide_eq_false ne] at this
theorem Values_c {a b : Value} {xs ys : List Va} (ra : RdS w a 2 (valC xs)) (rb : RdS w b 2 (valC ys)) (h : ∀ w', Fr [] w w' → K (.bool (decide (xs = ys))) w') : C.call Try.prog 35 #[a, b] w K := by
  refine F35.sh (C.len_rd ra (C.len_rd rb ?_))
  rw [valC_len, valC_len]
  by_cases e : (xs.length : Int) = (ys.length : Int)
  · have : ¬ ((xs.length : Int) ≠ (ys.length : Int)) := fun c => c e
    rw [C.neq_mk, decide_eq_false this, C.ite_false]
    exact F35.k3.to (Values_loop ra rb (by omega) h xs.length 0 w (by omega) (Fr.refl _ _) fun j hj => by omega)
  · rw [C.neq_mk, decide_eq_true (show (xs.length : Int) ≠ (ys.length : Int) from e), C.ite_true]
    have := h w (Fr.refl _ _)
    rwa [decide_eq_false (fun c => e (by rw [c]))] at this
theorem Equal_loop {a b : Value} {xs ys : List Va} (ra : RdS w a 2 (valC xs)) (rb : RdS w b 2 (valC ys)) (hl : xs.length = ys.length) (h : ∀ w', Fr [] w w' → K (.bool (decide (xs = ys))) w') :
    ∀ (d i : Nat) (w' : World), xs.length = i + d → Fr [] w w' → (∀ j, j < i → xs[j]? = ys[j]?) → F75.l4 K a b (.int .i64 (xs.length : Int)) (.int .i64 (i : Int)) w' := by
  have hl2 := ra.le
  rw [valC_len] at hl2
  intro d
  induction d with
  | zero =>
    intro i w' hi hf he
    refine F75.l4.to ?_
    simp only [C.ite_true, C.ite_false, C.pick_true, C.pick_false, C.not_bool, C.field_ptr, C.nilCheck_ptr, C.add_mk, C.sub_mk, C.mul_mk, C.eql_mk, C.neq_mk, C.lss_mk, C.leq_mk, C.gtr_mk, C.geq_mk, C.conv_mk, C.len_mk, C.ext_0, C.ext_1, C.ext3_0, C.ext3_1, C.ext3_2, C.guarded_yes, C.guarded_tf, C.guarded_ft, C.guarded_undef, Bool.not_true, Bool.not_false, Nat.zero_add, eq_self, decide_true, decide_false, show ¬ ((i : Int) < (xs.length : Int)) by omega]
    refine F75.k9.to ?_
    have e : xs = ys := List.ext_getElem? fun j => by
      by_cases hj : j < i
      · exact he j hj
      · rw [List.getElem?_eq_none (by omega), List.getElem?_eq_none (by omega)]
    have := h w' hf
    rwa [decide_eq_true e] at this
  | succ d ih =>
    intro i w' hi hf he
    have hix : i < xs.length := by omega
    have hiy : i < ys.length := by omega
    refine F75.l4.to ?_
    simp only [C.ite_true, C.ite_false, C.pick_true, C.pick_false, C.not_bool, C.field_ptr, C.nilCheck_ptr, C.add_mk, C.sub_mk, C.mul_mk, C.eql_mk, C.neq_mk, C.lss_mk, C.leq_mk, C.gtr_mk, C.geq_mk, C.conv_mk, C.len_mk, C.ext_0, C.ext_1, C.ext3_0, C.ext3_1, C.ext3_2, C.guarded_yes, C.guarded_tf, C.guarded_ft, C.guarded_undef, Bool.not_true, Bool.not_false, Nat.zero_add, eq_self, decide_true, decide_false, show ((i : Int) < (xs.length : Int)) by omega]
    refine F75.k5.to (C.draw_of (fun w2 => Fr [] w w2) fun w1 hf1 he1 => ⟨hf.trans hf1, ?_⟩)
    have f1 := hf.trans hf1
    refine C.idx_rdS (S := fun w2 => Fr [] w w2) (fun w2 hw => ra.keep hw) f1 (by omega) (by rw [Int.toNat_natCast]; exact valC_get hix) fun ga oa hl1 hs1 => ?_
    refine C.idx_rdS (S := fun w2 => Fr [] w w2) (fun w2 hw => rb.keep hw) f1 (by omega) (by rw [Int.toNat_natCast]; exact valC_get hiy) fun gb ob hl2 hs2 => ?_
    refine C.loadAS_cells hl1 (by omega) hs1 (C.loadAS_cells hl2 (by omega) hs2 ?_)
    refine ⟨_, fun w' _ => neq71 _ _ _ _, ?_⟩
    rw [va_beq]
    by_cases hb : xs[i] = ys[i]
    · rw [hb, decide_eq_true rfl]
      simp only [C.ite_true, C.ite_false, C.pick_true, C.pick_false, C.not_bool, C.field_ptr, C.nilCheck_ptr, C.add_mk, C.sub_mk, C.mul_mk, C.eql_mk, C.neq_mk, C.lss_mk, C.leq_mk, C.gtr_mk, C.geq_mk, C.conv_mk, C.len_mk, C.ext_0, C.ext_1, C.ext3_0, C.ext3_1, C.ext3_2, C.guarded_yes, C.guarded_tf, C.guarded_ft, C.guarded_undef, Bool.not_true, Bool.not_false, Nat.zero_add, eq_self, decide_true, decide_false]
      refine F75.k8.to ?_
      simp only [C.ite_true, C.ite_false, C.pick_true, C.pick_false, C.not_bool, C.field_ptr, C.nilCheck_ptr, C.add_mk, C.sub_mk, C.mul_mk, C.eql_mk, C.neq_mk, C.lss_mk, C.leq_mk, C.gtr_mk, C.geq_mk, C.conv_mk, C.len_mk, C.ext_0, C.ext_1, C.ext3_0, C.ext3_1, C.ext3_2, C.guarded_yes, C.guarded_tf, C.guarded_ft, C.guarded_undef, Bool.not_true, Bool.not_false, Nat.zero_add, eq_self, decide_true, decide_false]
      rw [wrap64_id (n := (i : Int) + 1) (by omega), show (i : Int) + 1 = ((i + 1 : Nat) : Int) by omega]
      refine ih (i + 1) w1 (by omega) f1 fun j hj => ?_
      by_cases hji : j = i
      · subst hji
        rw [List.getElem?_eq_getElem hix, List.getElem?_eq_getElem hiy, hb]
      · exact he j (by omega)
    · rw [decide_eq_false hb]
      simp only [C.ite_true, C.ite_false, C.pick_true, C.pick_false, C.not_bool, C.field_ptr, C.nilCheck_ptr, C.add_mk, C.sub_mk, C.mul_mk, C.eql_mk, C.neq_mk, C.lss_mk, C.leq_mk, C.gtr_mk, C.geq_mk, C.conv_mk, C.len_mk, C.ext_0, C.ext_1, C.ext3_0, C.ext3_1, C.ext3_2, C.guarded_yes, C.guarded_tf, C.guarded_ft, C.guarded_undef, Bool.not_true, Bool.not_false, Nat.zero_add, eq_self, decide_true, decide_false]
      have ne : ¬ xs = ys := fun e => hb (by subst e; rfl)
      have := h w1 f1
      rwa [decide_eq_false ne] at this
theorem Equal_c {a b : Value} {xs ys : List Va} (ra : RdS w a 2 (valC xs)) (rb : RdS w b 2 (valC ys)) (h : ∀ w', Fr [] w w' → K (.bool (decide (xs = ys))) w') : C.call Try.prog 75 #[a, b] w K := by
  refine F75.sh (C.len_rd ra (C.len_rd rb ?_))
  rw [valC_len, valC_len]
  by_cases e : (xs.length : Int) = (ys.length : Int)
  · have : ¬ ((xs.length : Int) ≠ (ys.length : Int)) := fun c => c e
    rw [C.neq_mk, decide_eq_false this, C.ite_false]
    refine F75.k3.to (C.len_rd ra ?_)
    rw [valC_len]
    exact Equal_loop ra rb (by omega) h xs.length 0 w (by omega) (Fr.refl _ _) fun j hj => by omega
  · rw [C.neq_mk, decide_eq_true (show (xs.length : Int) ≠ (ys.length : Int) from e), C.ite_true]
    have := h w (Fr.refl _ _)
    rwa [decide_eq_false (fun c => e (by rw [c]))] at this
end
end Go.Proofs.YtfdpmgddlaamcaaV
