/- Views in memory, compared. (Turned from the texts of seat r3.) -/
import Derived.Test.YtfjilngljnlkjaaEv3
import Derived.Test.YtfjilngljnlkjaaLibOwn
import Derived.Test.YtfjilngljnlkjaaGLib
import Derived.Test.YtfjilngljnlkjaaLib1
import Derived.Test.YtfjilngljnlkjaaEv4
namespace Go.Proofs.YtfjilngljnlkjaaV
open Go Go.Proofs Go.RowKit
set_option linter.unusedVariables false
set_option linter.unusedSimpArgs false
set_option maxRecDepth 10000
theorem list_eq_of {α : Type} {a b : List α} {i : Nat} (hl : a.length = b.length) (hi : a.length ≤ i) (h : ∀ j, j < i → a[j]? = b[j]?) : a = b := List.ext_getElem? fun j => by
  by_cases hj : j < i
  · exact h j hj
  · rw [List.getElem?_eq_none (by omega), List.getElem?_eq_none (by omega)]
theorem step_eq {α : Type} {a b : List α} {i : Nat} (ha : i < a.length) (hb : i < b.length) (h : ∀ j, j < i → a[j]? = b[j]?) (he : a[i] = b[i]) : ∀ j, j < i + 1 → a[j]? = b[j]? := fun j hj => by
  by_cases e : j = i
  · subst e; rw [List.getElem?_eq_getElem ha, List.getElem?_eq_getElem hb, he]
  · exact h j (by omega)
/-! ### 1. Views in memory -/
def slC (vs : List Value) : List (List Value) := vs.map fun v => [v]
theorem slC_len (vs : List Value) : (slC vs).length = vs.length := by simp [slC]
theorem slC_get {vs : List Value} {j : Nat} (h : j < vs.length) : (slC vs)[j]? = some [vs[j]] := by simp [slC, h]
theorem slC_app (a b : List Value) : slC (a ++ b) = slC a ++ slC b := by simp [slC]
def valC (l : List Va) : List (List Value) := l.map fun x => [.int .i64 x.1, .int .i64 x.2]
theorem valC_len (l : List Va) : (valC l).length = l.length := by simp [valC]
theorem valC_get {l : List Va} {j : Nat} (h : j < l.length) : (valC l)[j]? = some [.int .i64 l[j].1, .int .i64 l[j].2] := by simp [valC, h]
theorem valC_app (a b : List Va) : valC (a ++ b) = valC a ++ valC b := by simp [valC]
theorem valC_one {l : List Va} : ∀ y ∈ valC l, ∀ u ∈ y, u.oneCell' = true := by
  intro y hy u hu
  simp only [valC, List.mem_map] at hy
  obtain ⟨x, _, rfl⟩ := hy
  simp only [List.mem_cons, List.not_mem_nil, or_false] at hu
  rcases hu with rfl | rfl <;> rfl
def ndC (N : List Nd) (fs : List Value) : List (List Value) := List.zipWith (fun nd f => [.int .i64 nd.1, f]) N fs
theorem ndC_len {N : List Nd} {fs : List Value} (h : fs.length = N.length) : (ndC N fs).length = N.length := by simp [ndC, h]
theorem ndC_get {N : List Nd} {fs : List Value} {j : Nat} (h : j < N.length) (h' : j < fs.length) : (ndC N fs)[j]? = some [.int .i64 N[j].1, fs[j]] := by simp [ndC, List.getElem?_zipWith, List.getElem?_eq_getElem h, List.getElem?_eq_getElem h']
def boolC (l : List Bool) : List (List Value) := l.map fun b => [.bool b]
theorem boolC_len (l : List Bool) : (boolC l).length = l.length := by simp [boolC]
theorem boolC_get {l : List Bool} {j : Nat} (h : j < l.length) : (boolC l)[j]? = some [.bool l[j]] := by simp [boolC, h]
theorem boolC_set (l : List Bool) (j : Nat) (b : Bool) : (boolC l).set j [.bool b] = boolC (l.set j b) := by simp [boolC, List.map_set]
def RowsV (w : World) (rv : Value) (L : List (List Va)) : Prop := ∃ vs : List Value, RdS w rv 1 (slC vs) ∧ vs.length = L.length ∧ ∀ i (h : i < L.length) (h' : i < vs.length), RdS w vs[i] 2 (valC L[i])
theorem RowsV.keep {w w' : World} {rv : Value} {L : List (List Va)} (h : RowsV w rv L) (hf : Fr [] w w') : RowsV w' rv L := by
  obtain ⟨vs, h1, h2, h3⟩ := h
  exact ⟨vs, h1.keep hf, h2, fun i a b => (h3 i a b).keep hf⟩
def NodesAt (w : World) (nv : Value) (N : List Nd) : Prop := ∃ fs : List Value, fs.length = N.length ∧ RdS w nv 2 (ndC N fs) ∧ ∀ i (h : i < N.length) (h' : i < fs.length), RdS w fs[i] 2 (valC N[i].2)
theorem NodesAt.keep {w w' : World} {nv : Value} {N : List Nd} (h : NodesAt w nv N) (hf : Fr [] w w') : NodesAt w' nv N := by
  obtain ⟨fs, h1, h2, h3⟩ := h
  exact ⟨fs, h1, h2.keep hf, fun i a b => (h3 i a b).keep hf⟩
structure IsV (w : World) (rv nv : Value) (V : Vw) : Prop where
  rows : RowsV w rv V.1
  nodes : NodesAt w nv V.2
theorem IsV.keep {w w' : World} {rv nv : Value} {V : Vw} (h : IsV w rv nv V) (hf : Fr [] w w') : IsV w' rv nv V := ⟨h.rows.keep hf, h.nodes.keep hf⟩
theorem RowsV.one {w : World} {rv : Value} {L : List (List Va)} (h : RowsV w rv L) : rv.oneCell' = true ∧ rv.cells = #[rv] := by
  obtain ⟨vs, h1, _⟩ := h
  exact h1.one
theorem NodesAt.one {w : World} {nv : Value} {N : List Nd} (h : NodesAt w nv N) : nv.oneCell' = true ∧ nv.cells = #[nv] := by
  obtain ⟨fs, _, h1, _⟩ := h
  exact h1.one
theorem IsV.cells {w : World} {rv nv : Value} {V : Vw} (h : IsV w rv nv V) : Value.cells (.agg #[rv, nv]) = #[rv, nv] := by
  simp [Value.cells, h.rows.one.2, h.nodes.one.2]
theorem IsV.ones {w : World} {rv nv : Value} {V : Vw} (h : IsV w rv nv V) : ∀ u ∈ (Value.cells (.agg #[rv, nv])).toList, u.oneCell' = true := by
  rw [h.cells]
  intro u hu
  simp only [List.mem_cons, List.not_mem_nil, or_false] at hu
  rcases hu with rfl | rfl
  · exact h.rows.one.1
  · exact h.nodes.one.1
theorem RowsV.le {w : World} {rv : Value} {L : List (List Va)} (h : RowsV w rv L) : L.length ≤ 9223372036854775807 := by
  obtain ⟨vs, h1, h2, _⟩ := h
  have := h1.le
  rw [slC_len] at this
  omega
theorem NodesAt.le {w : World} {nv : Value} {N : List Nd} (h : NodesAt w nv N) : N.length ≤ 9223372036854775807 := by
  obtain ⟨fs, h1, h2, _⟩ := h
  have := h2.le
  rwa [ndC_len h1] at this
/-- A view's block. -/
def VB (w : World) (b : Nat) (rv nv : Value) : Prop := w.heap[b]? = some (.cells #[rv, nv] 42 (0, 0))
theorem VB.keep {S : List Nat} {w w' : World} {b : Nat} {rv nv : Value} (h : VB w b rv nv) (hf : Fr S w w') (hS : b ∉ S) : VB w' b rv nv := hf.at_ h hS
section
variable {K : VK} {w : World}
theorem VB.f0 {b : Nat} {rv nv : Value} (h : VB w b rv nv) (hk : K rv w) : C.field 0 (.pointer (some ⟨b, 0, none⟩)) w fun p w1 => C.load1 p w1 K := by
  simp only [C.ite_true, C.ite_false, C.pick_true, C.pick_false, C.not_bool, C.field_ptr, C.nilCheck_ptr, C.add_mk, C.sub_mk, C.mul_mk, C.eql_mk, C.neq_mk, C.lss_mk, C.leq_mk, C.gtr_mk, C.geq_mk, C.conv_mk, C.len_mk, C.ext_0, C.ext_1, C.ext3_0, C.ext3_1, C.ext3_2, C.guarded_yes, C.guarded_tf, C.guarded_ft, C.guarded_undef, Bool.not_true, Bool.not_false, Nat.zero_add, eq_self, decide_true, decide_false]
  exact C.load1_of h rfl hk
theorem VB.f1 {b : Nat} {rv nv : Value} (h : VB w b rv nv) (hk : K nv w) : C.field 1 (.pointer (some ⟨b, 0, none⟩)) w fun p w1 => C.load1 p w1 K := by
  simp only [C.ite_true, C.ite_false, C.pick_true, C.pick_false, C.not_bool, C.field_ptr, C.nilCheck_ptr, C.add_mk, C.sub_mk, C.mul_mk, C.eql_mk, C.neq_mk, C.lss_mk, C.leq_mk, C.gtr_mk, C.geq_mk, C.conv_mk, C.len_mk, C.ext_0, C.ext_1, C.ext3_0, C.ext3_1, C.ext3_2, C.guarded_yes, C.guarded_tf, C.guarded_ft, C.guarded_undef, Bool.not_true, Bool.not_false, Nat.zero_add, eq_self, decide_true, decide_false]
  exact C.load1_of h rfl hk
theorem VB.all {b : Nat} {rv nv : Value} (h : VB w b rv nv) (hk : K (.agg #[rv, nv]) w) : C.loadA 2 (.pointer (some ⟨b, 0, none⟩)) w K := C.loadA_all h rfl hk
theorem VB.new {rv nv : Value} {V : Vw} (hV : IsV w rv nv V) (hk : ∀ b w', Fr [] w w' → w.heap.size ≤ b → VB w' b rv nv → IsV w' rv nv V → K (.pointer (some ⟨b, 0, none⟩)) w') : C.new (.cells (Value.cells (.agg #[rv, nv])) 42) w K := by
  refine C.new_of fun b w1 hn => hk b w1 hn.fr (by have := hn.is; omega) ?_ (hV.keep hn.fr)
  have := hn.at_
  rw [hV.cells] at this
  exact this
theorem NodesAt.len {nv : Value} {N : List Nd} (h : NodesAt w nv N) {w1 : World} (hk : K (.int .i64 (N.length : Int)) w1) : C.len nv w1 K := by
  obtain ⟨fs, h1, ⟨A, c, rfl, _⟩, _⟩ := h
  rw [ndC_len h1]
  simpa only [C.len_mk] using hk
theorem RowsV.len {rv : Value} {L : List (List Va)} (h : RowsV w rv L) {w1 : World} (hk : K (.int .i64 (L.length : Int)) w1) : C.len rv w1 K := by
  obtain ⟨vs, ⟨A, c, rfl, _⟩, h2, _⟩ := h
  rw [slC_len, h2]
  simpa only [C.len_mk] using hk
theorem RowsV.get {rv : Value} {L : List (List Va)} {i : Nat} (h : RowsV w rv L) (hi : i < L.length) (hk : ∀ v, RdS w v 2 (valC L[i]) → K v w) : C.idx 1 rv (.int .i64 (i : Int)) w fun p w1 => C.load1 p w1 K := by
  obtain ⟨vs, h1, h2, h3⟩ := h
  have hi' : i < vs.length := by omega
  refine C.idx_rd h1 (by omega) (by rw [Int.toNat_natCast]; exact slC_get hi') fun g o cs e fz hg _ hc => C.load1_of hg (v := vs[i]) ?_ (hk _ (h3 i hi hi'))
  have := hc 0 (by omega)
  simpa using this
theorem NodesAt.get {nv : Value} {N : List Nd} {i : Nat} (h : NodesAt w nv N) (hi : i < N.length)
    (hk : ∀ g o cs e fz f, w.heap[g]? = some (.cells cs e fz) → cs[o]? = some (.int .i64 N[i].1) → cs[o + 1]? = some f → RdS w f 2 (valC N[i].2) → K (.pointer (some ⟨g, o, none⟩)) w) : C.idx 2 nv (.int .i64 (i : Int)) w K := by
  obtain ⟨fs, h1, h2, h3⟩ := h
  have hi' : i < fs.length := by omega
  refine C.idx_rd h2 (by omega) (by rw [Int.toNat_natCast]; exact ndC_get hi hi') fun g o cs e fz hg _ hc => hk g o cs e fz fs[i] hg ?_ ?_ (h3 i hi hi')
  · simpa using hc 0 (by omega)
  · simpa using hc 1 (by omega)
/-- A node's two cells, loaded at once. -/
theorem loadNd {g o : Nat} {cs : Array Value} {e : TypeId} {fz : Nat × Nat} {s f : Value} (hg : w.heap[g]? = some (.cells cs e fz)) (h0 : cs[o]? = some s) (h1 : cs[o + 1]? = some f) (hk : K (.agg #[s, f]) w) : C.loadA 2 (.pointer (some ⟨g, o, none⟩)) w K := by
  refine C.loadA_cells (x := [s, f]) hg rfl (by omega) (fun j hj => ?_) hk
  match j, hj with
  | 0, _ => simpa using h0
  | 1, _ => simpa using h1
/-! ### 3. Values compared -/
theorem neqV (x y : Operand) (a b : Va) : (do eqGuard .neq 75 x y (.agg #[.int .i64 a.1, .int .i64 a.2]) (.agg #[.int .i64 b.1, .int .i64 b.2]); binOp .neq 75 (.agg #[.int .i64 a.1, .int .i64 a.2]) (.agg #[.int .i64 b.1, .int .i64 b.2]) : Sem Value).run Try.prog w = .ok (.bool (!([a.1, a.2] == [b.1, b.2]))) w :=
  neq_ints (ks := [.i64, .i64]) x y Try.underlying75 (by kernel_rfl) (by kernel_rfl) (by kernel_rfl) [a.1, a.2] [b.1, b.2] rfl rfl
theorem va_beq (a b : Va) : (!([a.1, a.2] == [b.1, b.2])) = !(decide (a = b)) := by
  by_cases h : a = b
  · subst h; simp
  · have : ¬ (a.1 = b.1 ∧ a.2 = b.2) := fun c => h (Prod.ext c.1 c.2)
    rw [decide_eq_false h]
    simp only [Bool.not_false, Bool.not_eq_true', beq_eq_false_iff_ne]
    intro c
    simp only [List.cons.injEq, and_true] at c
    exact this c
theorem Values_loop {a b : Value} {xs ys : List Va} (ra : RdS w a 2 (valC xs)) (rb : RdS w b 2 (valC ys)) (hl : xs.length = ys.length) (h : ∀ w', Fr [] w w' → K (.bool (decide (xs = ys))) w') :
    ∀ (d i : Nat) (w' : World), xs.length = i + d → Fr [] w w' → (∀ j, j < i → xs[j]? = ys[j]?) → F45.l4 K a b (.int .i64 (i : Int)) w' := by
  have hl2 := ra.le
  rw [valC_len] at hl2
  intro d
  induction d with
  | zero =>
    intro i w' hi hf he
    refine F45.l4.to (C.len_rd (ra.keep hf) ?_)
    rw [valC_len]
    simp only [C.ite_true, C.ite_false, C.pick_true, C.pick_false, C.not_bool, C.field_ptr, C.nilCheck_ptr, C.add_mk, C.sub_mk, C.mul_mk, C.eql_mk, C.neq_mk, C.lss_mk, C.leq_mk, C.gtr_mk, C.geq_mk, C.conv_mk, C.len_mk, C.ext_0, C.ext_1, C.ext3_0, C.ext3_1, C.ext3_2, C.guarded_yes, C.guarded_tf, C.guarded_ft, C.guarded_undef, Bool.not_true, Bool.not_false, Nat.zero_add, eq_self, decide_true, decide_false, show ¬ ((i : Int) < (xs.length : Int)) by omega]
    refine F45.k8.to ?_
    have e : xs = ys := List.ext_getElem? fun j => by
      by_cases hj : j < i
      · exact he j hj
      · rw [List.getElem?_eq_none (by omega), List.getElem?_eq_none (by omega)]
    have := h w' hf
    rwa [decide_eq_true e] at this
  | succ d ih =>
    intro i w' hi hf he
    have hix : i < xs.length := by omega
    have hiy : i < ys.length := by omega
    refine F45.l4.to (C.len_rd (ra.keep hf) ?_)
    rw [valC_len]
    simp only [C.ite_true, C.ite_false, C.pick_true, C.pick_false, C.not_bool, C.field_ptr, C.nilCheck_ptr, C.add_mk, C.sub_mk, C.mul_mk, C.eql_mk, C.neq_mk, C.lss_mk, C.leq_mk, C.gtr_mk, C.geq_mk, C.conv_mk, C.len_mk, C.ext_0, C.ext_1, C.ext3_0, C.ext3_1, C.ext3_2, C.guarded_yes, C.guarded_tf, C.guarded_ft, C.guarded_undef, Bool.not_true, Bool.not_false, Nat.zero_add, eq_self, decide_true, decide_false, show ((i : Int) < (xs.length : Int)) by omega]
    refine F45.k6.to (C.draw_of (fun w2 => Fr [] w w2) fun w1 hf1 he1 => ⟨hf.trans hf1, ?_⟩)
    have f1 := hf.trans hf1
    refine C.idx_rdS (S := fun w2 => Fr [] w w2) (fun w2 hw => ra.keep hw) f1 (by omega) (by rw [Int.toNat_natCast]; exact valC_get hix) fun ga oa hl1 hs1 => ?_
    refine C.idx_rdS (S := fun w2 => Fr [] w w2) (fun w2 hw => rb.keep hw) f1 (by omega) (by rw [Int.toNat_natCast]; exact valC_get hiy) fun gb ob hl2 hs2 => ?_
    refine C.loadAS_cells hl1 (by omega) hs1 (C.loadAS_cells hl2 (by omega) hs2 ?_)
    refine ⟨_, fun w' _ => neqV _ _ _ _, ?_⟩
    rw [va_beq]
    by_cases hb : xs[i] = ys[i]
    · rw [hb, decide_eq_true rfl]
      simp only [C.ite_true, C.ite_false, C.pick_true, C.pick_false, C.not_bool, C.field_ptr, C.nilCheck_ptr, C.add_mk, C.sub_mk, C.mul_mk, C.eql_mk, C.neq_mk, C.lss_mk, C.leq_mk, C.gtr_mk, C.geq_mk, C.conv_mk, C.len_mk, C.ext_0, C.ext_1, C.ext3_0, C.ext3_1, C.ext3_2, C.guarded_yes, C.guarded_tf, C.guarded_ft, C.guarded_undef, Bool.not_true, Bool.not_false, Nat.zero_add, eq_self, decide_true, decide_false]
      refine F45.k5.to ?_
      simp only [C.ite_true, C.ite_false, C.pick_true, C.pick_false, C.not_bool, C.field_ptr, C.nilCheck_ptr, C.add_mk, C.sub_mk, C.mul_mk, C.eql_mk, C.neq_mk, C.lss_mk, C.leq_mk, C.gtr_mk, C.geq_mk, C.conv_mk, C.len_mk, C.ext_0, C.ext_1, C.ext3_0, C.ext3_1, C.ext3_2, C.guarded_yes, C.guarded_tf, C.guarded_ft, C.guarded_undef, Bool.not_true, Bool.not_false, Nat.zero_add, eq_self, decide_true, decide_false]
      rw [wrap64_id (n := (i : Int) + 1) (by omega), show (i : Int) + 1 = ((i + 1 : Nat) : Int) by omega]
      refine ih (i + 1) w1 (by omega) f1 fun j hj => ?_
      by_cases hji : j = i
      · subst hji
        rw [List.getElem?_eq_getElem hix, List.getElem?_eq_getElem hiy, hb]
      · exact he j (by omega)
    · rw [decide_eq_false hb]
      simp only [C.ite_true, C.ite_false, C.pick_true, C.pick_false, C.not_bool, C.field_ptr, C.nilCheck_ptr, C.add_mk, C.sub_mk, C.mul_mk, C.eql_mk, C.neq_mk, C.lss_mk, C.leq_mk, C.gtr_mk, C.geq_mk, C.conv_mk, C.len_mk, C.ext_0, C.ext_1, C.ext3_0, C.ext3_1, C.ext3_2, C.guarded_yes, C.guarded_tf, C.guarded_ft, C.guarded_undef, Bool.not_true, Bool.not_false, Nat.zero_add, eq_self, decide_true, decide_false]
      have ne : ¬ xs = ys := fun e => hb (by subst e; rfl)
      have := h w1 f1
      rwa [decide_eq_false ne] at this
theorem Values_c {a b : Value} {xs ys : List Va} (ra : RdS w a 2 (valC xs)) (rb : RdS w b 2 (valC ys)) (h : ∀ w', Fr [] w w' → K (.bool (decide (xs = ys))) w') : C.call Try.prog 45 #[a, b] w K := by
  refine F45.sh (C.len_rd ra (C.len_rd rb ?_))
  rw [valC_len, valC_len]
  by_cases e : (xs.length : Int) = (ys.length : Int)
  · have : ¬ ((xs.length : Int) ≠ (ys.length : Int)) := fun c => c e
    rw [C.neq_mk, decide_eq_false this, C.ite_false]
    exact F45.k3.to (Values_loop ra rb (by omega) h xs.length 0 w (by omega) (Fr.refl _ _) fun j hj => by omega)
  · rw [C.neq_mk, decide_eq_true (show (xs.length : Int) ≠ (ys.length : Int) from e), C.ite_true]
    have := h w (Fr.refl _ _)
    rwa [decide_eq_false (fun c => e (by rw [c]))] at this
theorem RowsV.getS {W w1 : World} {rv : Value} {L : List (List Va)} {i : Nat} (h : RowsV W rv L) (hf : Fr [] W w1) (hi : i < L.length)
    (hk : ∀ g o v, RdS W v 2 (valC L[i]) → (∀ w', Fr [] W w' → ∃ cs e fz, w'.heap[g]? = some (.cells cs e fz) ∧ cs[o]? = some v) → K (.pointer (some ⟨g, o, none⟩)) w1) : C.idx 1 rv (.int .i64 (i : Int)) w1 K := by
  obtain ⟨vs, h1, h2, h3⟩ := h
  have hi' : i < vs.length := by omega
  refine C.idx_rdS (S := fun w' => Fr [] W w') (fun w' hw => h1.keep hw) hf (by omega) (by rw [Int.toNat_natCast]; exact slC_get hi') fun g o _ hs => hk g o vs[i] (h3 i hi hi') fun w' hw => ?_
  obtain ⟨cs, e, fz, x, y⟩ := hs w' hw
  exact ⟨cs, e, fz, x, by simpa using y 0 (by simp)⟩
theorem NodesAt.getS {W w1 : World} {nv : Value} {N : List Nd} {i : Nat} (h : NodesAt W nv N) (hf : Fr [] W w1) (hi : i < N.length)
    (hk : ∀ g o f, RdS W f 2 (valC N[i].2) → (∀ w', Fr [] W w' → ∃ cs e fz, w'.heap[g]? = some (.cells cs e fz) ∧ cs[o]? = some (.int .i64 N[i].1)) → (∀ w', Fr [] W w' → ∃ cs e fz, w'.heap[g]? = some (.cells cs e fz) ∧ cs[o + 1]? = some f) → K (.pointer (some ⟨g, o, none⟩)) w1) : C.idx 2 nv (.int .i64 (i : Int)) w1 K := by
  obtain ⟨fs, h1, h2, h3⟩ := h
  have hi' : i < fs.length := by omega
  refine C.idx_rdS (S := fun w' => Fr [] W w') (fun w' hw => h2.keep hw) hf (by omega) (by rw [Int.toNat_natCast]; exact ndC_get hi hi') fun g o _ hs => hk g o fs[i] (h3 i hi hi') (fun w' hw => ?_) fun w' hw => ?_
  · obtain ⟨cs, e, fz, x, y⟩ := hs w' hw
    exact ⟨cs, e, fz, x, by simpa using y 0 (by omega)⟩
  · obtain ⟨cs, e, fz, x, y⟩ := hs w' hw
    exact ⟨cs, e, fz, x, by simpa using y 1 (by omega)⟩
/-- A field of a view's block, in a draw. -/
theorem VB.s {W : World} {b : Nat} {rv nv : Value} (h : VB W b rv nv) {o : Nat} {v : Value} (ho : (#[rv, nv] : Array Value)[o]? = some v) {w1 : World} (hk : K v w1) : C.load1S (fun w' => Fr [] W w') (.pointer (some ⟨b, o, none⟩)) w1 K :=
  C.load1S_of (fun w' hw => ⟨_, _, _, h.keep hw (by simp), ho⟩) hk
/-! ### scutageplain.View -/
theorem View_nodes {W : World} {b c : Nat} {rv nv rv' nv' : Value} {V V' : Vw} (hV : IsV W rv nv V) (hV' : IsV W rv' nv' V') (hb : VB W b rv nv) (hc : VB W c rv' nv') (h1 : V.1 = V'.1) (hl : V.2.length = V'.2.length) (h : ∀ w', Fr [] W w' → K (.bool (decide (V = V'))) w') :
    ∀ (d j : Nat) (w : World), V.2.length = j + d → Fr [] W w → (∀ i, i < j → V.2[i]? = V'.2[i]?) → F22.l9 K (.pointer (some ⟨b, 0, none⟩)) (.pointer (some ⟨c, 0, none⟩)) (.int .i64 (j : Int)) w := by
  have hle := hV.nodes.le
  intro d
  induction d with
  | zero =>
    intro j w hj hf he
    refine F22.l9.to ((hb.keep hf (by simp)).f1 (hV.nodes.len ?_))
    simp only [C.ite_true, C.ite_false, C.pick_true, C.pick_false, C.not_bool, C.field_ptr, C.nilCheck_ptr, C.add_mk, C.sub_mk, C.mul_mk, C.eql_mk, C.neq_mk, C.lss_mk, C.leq_mk, C.gtr_mk, C.geq_mk, C.conv_mk, C.len_mk, C.ext_0, C.ext_1, C.ext3_0, C.ext3_1, C.ext3_2, C.guarded_yes, C.guarded_tf, C.guarded_ft, C.guarded_undef, Bool.not_true, Bool.not_false, Nat.zero_add, eq_self, decide_true, decide_false, show ¬ ((j : Int) < (V.2.length : Int)) by omega]
    refine F22.k13.to ?_
    have := h w hf
    rwa [decide_eq_true (Prod.ext h1 (list_eq_of hl (by omega) he))] at this
  | succ d ih =>
    intro j w hj hf he
    have jl : j < V.2.length := by omega
    have jl' : j < V'.2.length := by omega
    refine F22.l9.to ((hb.keep hf (by simp)).f1 (hV.nodes.len ?_))
    simp only [C.ite_true, C.ite_false, C.pick_true, C.pick_false, C.not_bool, C.field_ptr, C.nilCheck_ptr, C.add_mk, C.sub_mk, C.mul_mk, C.eql_mk, C.neq_mk, C.lss_mk, C.leq_mk, C.gtr_mk, C.geq_mk, C.conv_mk, C.len_mk, C.ext_0, C.ext_1, C.ext3_0, C.ext3_1, C.ext3_2, C.guarded_yes, C.guarded_tf, C.guarded_ft, C.guarded_undef, Bool.not_true, Bool.not_false, Nat.zero_add, eq_self, decide_true, decide_false, show ((j : Int) < (V.2.length : Int)) by omega]
    have no : ∀ w', Fr [] W w' → ¬ V.2[j] = V'.2[j] → K (.bool false) w' := fun w' hw hne => by
      have := h w' hw
      rwa [decide_eq_false (fun e => hne (by subst e; rfl))] at this
    have go : ∀ w', Fr [] W w' → V.2[j] = V'.2[j] → F22.k10 K (.pointer (some ⟨b, 0, none⟩)) (.pointer (some ⟨c, 0, none⟩)) (.int .i64 (j : Int)) w' := fun w' hw heq => by
      refine F22.k10.to ?_
      simp only [C.ite_true, C.ite_false, C.pick_true, C.pick_false, C.not_bool, C.field_ptr, C.nilCheck_ptr, C.add_mk, C.sub_mk, C.mul_mk, C.eql_mk, C.neq_mk, C.lss_mk, C.leq_mk, C.gtr_mk, C.geq_mk, C.conv_mk, C.len_mk, C.ext_0, C.ext_1, C.ext3_0, C.ext3_1, C.ext3_2, C.guarded_yes, C.guarded_tf, C.guarded_ft, C.guarded_undef, Bool.not_true, Bool.not_false, Nat.zero_add, eq_self, decide_true, decide_false]
      rw [wrap64_id (n := (j : Int) + 1) (by omega), show (j : Int) + 1 = ((j + 1 : Nat) : Int) by omega]
      exact ih (j + 1) w' (by omega) hw (step_eq jl jl' he heq)
    refine F22.k11.to (C.draw_of (fun w' => Fr [] W w') fun w1 hf1 he1 => ⟨hf.trans hf1, ?_⟩)
    have f1 := hf.trans hf1
    simp only [C.ite_true, C.ite_false, C.pick_true, C.pick_false, C.not_bool, C.field_ptr, C.nilCheck_ptr, C.add_mk, C.sub_mk, C.mul_mk, C.eql_mk, C.neq_mk, C.lss_mk, C.leq_mk, C.gtr_mk, C.geq_mk, C.conv_mk, C.len_mk, C.ext_0, C.ext_1, C.ext3_0, C.ext3_1, C.ext3_2, C.guarded_yes, C.guarded_tf, C.guarded_ft, C.guarded_undef, Bool.not_true, Bool.not_false, Nat.zero_add, eq_self, decide_true, decide_false]
    refine hb.s rfl (hV.nodes.getS f1 jl fun g o f hr hs0 hs1 => ?_)
    simp only [C.ite_true, C.ite_false, C.pick_true, C.pick_false, C.not_bool, C.field_ptr, C.nilCheck_ptr, C.add_mk, C.sub_mk, C.mul_mk, C.eql_mk, C.neq_mk, C.lss_mk, C.leq_mk, C.gtr_mk, C.geq_mk, C.conv_mk, C.len_mk, C.ext_0, C.ext_1, C.ext3_0, C.ext3_1, C.ext3_2, C.guarded_yes, C.guarded_tf, C.guarded_ft, C.guarded_undef, Bool.not_true, Bool.not_false, Nat.zero_add, eq_self, decide_true, decide_false]
    refine C.load1S_of hs0 (hc.s rfl (hV'.nodes.getS f1 jl' fun g' o' f' hr' hs0' hs1' => ?_))
    simp only [C.ite_true, C.ite_false, C.pick_true, C.pick_false, C.not_bool, C.field_ptr, C.nilCheck_ptr, C.add_mk, C.sub_mk, C.mul_mk, C.eql_mk, C.neq_mk, C.lss_mk, C.leq_mk, C.gtr_mk, C.geq_mk, C.conv_mk, C.len_mk, C.ext_0, C.ext_1, C.ext3_0, C.ext3_1, C.ext3_2, C.guarded_yes, C.guarded_tf, C.guarded_ft, C.guarded_undef, Bool.not_true, Bool.not_false, Nat.zero_add, eq_self, decide_true, decide_false]
    refine C.load1S_of hs0' ?_
    by_cases hs : V.2[j].1 = V'.2[j].1
    · have : ¬ (V.2[j].1 ≠ V'.2[j].1) := fun c => c hs
      rw [C.neq_mk, decide_eq_false this]
      simp only [C.ite_true, C.ite_false, C.pick_true, C.pick_false, C.not_bool, C.field_ptr, C.nilCheck_ptr, C.add_mk, C.sub_mk, C.mul_mk, C.eql_mk, C.neq_mk, C.lss_mk, C.leq_mk, C.gtr_mk, C.geq_mk, C.conv_mk, C.len_mk, C.ext_0, C.ext_1, C.ext3_0, C.ext3_1, C.ext3_2, C.guarded_yes, C.guarded_tf, C.guarded_ft, C.guarded_undef, Bool.not_true, Bool.not_false, Nat.zero_add, eq_self, decide_true, decide_false]
      refine hb.s rfl (hV.nodes.getS f1 jl fun g o f hr hs0 hs1 => ?_)
      simp only [C.ite_true, C.ite_false, C.pick_true, C.pick_false, C.not_bool, C.field_ptr, C.nilCheck_ptr, C.add_mk, C.sub_mk, C.mul_mk, C.eql_mk, C.neq_mk, C.lss_mk, C.leq_mk, C.gtr_mk, C.geq_mk, C.conv_mk, C.len_mk, C.ext_0, C.ext_1, C.ext3_0, C.ext3_1, C.ext3_2, C.guarded_yes, C.guarded_tf, C.guarded_ft, C.guarded_undef, Bool.not_true, Bool.not_false, Nat.zero_add, eq_self, decide_true, decide_false]
      refine C.load1S_of hs1 (hc.s rfl (hV'.nodes.getS f1 jl' fun g' o' f' hr' hs0' hs1' => ?_))
      simp only [C.ite_true, C.ite_false, C.pick_true, C.pick_false, C.not_bool, C.field_ptr, C.nilCheck_ptr, C.add_mk, C.sub_mk, C.mul_mk, C.eql_mk, C.neq_mk, C.lss_mk, C.leq_mk, C.gtr_mk, C.geq_mk, C.conv_mk, C.len_mk, C.ext_0, C.ext_1, C.ext3_0, C.ext3_1, C.ext3_2, C.guarded_yes, C.guarded_tf, C.guarded_ft, C.guarded_undef, Bool.not_true, Bool.not_false, Nat.zero_add, eq_self, decide_true, decide_false]
      refine C.load1S_of hs1' ⟨Values_c (hr.keep f1) (hr'.keep f1) fun w2 hf2 => ⟨f1.trans hf2, ?_⟩, trivial⟩
      by_cases hq : V.2[j].2 = V'.2[j].2
      · rw [decide_eq_true hq]
        simp only [C.ite_true, C.ite_false, C.pick_true, C.pick_false, C.not_bool, C.field_ptr, C.nilCheck_ptr, C.add_mk, C.sub_mk, C.mul_mk, C.eql_mk, C.neq_mk, C.lss_mk, C.leq_mk, C.gtr_mk, C.geq_mk, C.conv_mk, C.len_mk, C.ext_0, C.ext_1, C.ext3_0, C.ext3_1, C.ext3_2, C.guarded_yes, C.guarded_tf, C.guarded_ft, C.guarded_undef, Bool.not_true, Bool.not_false, Nat.zero_add, eq_self, decide_true, decide_false]
        exact go w2 (f1.trans hf2) (Prod.ext hs hq)
      · rw [decide_eq_false hq]
        simp only [C.ite_true, C.ite_false, C.pick_true, C.pick_false, C.not_bool, C.field_ptr, C.nilCheck_ptr, C.add_mk, C.sub_mk, C.mul_mk, C.eql_mk, C.neq_mk, C.lss_mk, C.leq_mk, C.gtr_mk, C.geq_mk, C.conv_mk, C.len_mk, C.ext_0, C.ext_1, C.ext3_0, C.ext3_1, C.ext3_2, C.guarded_yes, C.guarded_tf, C.guarded_ft, C.guarded_undef, Bool.not_true, Bool.not_false, Nat.zero_add, eq_self, decide_true, decide_false]
        exact no w2 (f1.trans hf2) fun e => hq (by rw [e])
    · rw [C.neq_mk, decide_eq_true (show V.2[j].1 ≠ V'.2[j].1 from hs)]
      simp only [C.ite_true, C.ite_false, C.pick_true, C.pick_false, C.not_bool, C.field_ptr, C.nilCheck_ptr, C.add_mk, C.sub_mk, C.mul_mk, C.eql_mk, C.neq_mk, C.lss_mk, C.leq_mk, C.gtr_mk, C.geq_mk, C.conv_mk, C.len_mk, C.ext_0, C.ext_1, C.ext3_0, C.ext3_1, C.ext3_2, C.guarded_yes, C.guarded_tf, C.guarded_ft, C.guarded_undef, Bool.not_true, Bool.not_false, Nat.zero_add, eq_self, decide_true, decide_false]
      exact ⟨⟨f1, no w1 f1 fun e => hs (by rw [e])⟩, trivial⟩
theorem View_rows {W : World} {b c : Nat} {rv nv rv' nv' : Value} {V V' : Vw} (hV : IsV W rv nv V) (hV' : IsV W rv' nv' V') (hb : VB W b rv nv) (hc : VB W c rv' nv') (hl1 : V.1.length = V'.1.length) (hl : V.2.length = V'.2.length) (h : ∀ w', Fr [] W w' → K (.bool (decide (V = V'))) w') :
    ∀ (d j : Nat) (w : World), V.1.length = j + d → Fr [] W w → (∀ i, i < j → V.1[i]? = V'.1[i]?) → F22.l4 K (.pointer (some ⟨b, 0, none⟩)) (.pointer (some ⟨c, 0, none⟩)) (.int .i64 (j : Int)) w := by
  have hle := hV.rows.le
  intro d
  induction d with
  | zero =>
    intro j w hj hf he
    refine F22.l4.to ((hb.keep hf (by simp)).f0 (hV.rows.len ?_))
    simp only [C.ite_true, C.ite_false, C.pick_true, C.pick_false, C.not_bool, C.field_ptr, C.nilCheck_ptr, C.add_mk, C.sub_mk, C.mul_mk, C.eql_mk, C.neq_mk, C.lss_mk, C.leq_mk, C.gtr_mk, C.geq_mk, C.conv_mk, C.len_mk, C.ext_0, C.ext_1, C.ext3_0, C.ext3_1, C.ext3_2, C.guarded_yes, C.guarded_tf, C.guarded_ft, C.guarded_undef, Bool.not_true, Bool.not_false, Nat.zero_add, eq_self, decide_true, decide_false, show ¬ ((j : Int) < (V.1.length : Int)) by omega]
    exact F22.k8.to (View_nodes hV hV' hb hc (list_eq_of hl1 (by omega) he) hl h V.2.length 0 w (by omega) hf fun i hi => by omega)
  | succ d ih =>
    intro j w hj hf he
    have jl : j < V.1.length := by omega
    have jl' : j < V'.1.length := by omega
    refine F22.l4.to ((hb.keep hf (by simp)).f0 (hV.rows.len ?_))
    simp only [C.ite_true, C.ite_false, C.pick_true, C.pick_false, C.not_bool, C.field_ptr, C.nilCheck_ptr, C.add_mk, C.sub_mk, C.mul_mk, C.eql_mk, C.neq_mk, C.lss_mk, C.leq_mk, C.gtr_mk, C.geq_mk, C.conv_mk, C.len_mk, C.ext_0, C.ext_1, C.ext3_0, C.ext3_1, C.ext3_2, C.guarded_yes, C.guarded_tf, C.guarded_ft, C.guarded_undef, Bool.not_true, Bool.not_false, Nat.zero_add, eq_self, decide_true, decide_false, show ((j : Int) < (V.1.length : Int)) by omega]
    refine F22.k6.to (C.draw_of (fun w' => Fr [] W w') fun w1 hf1 he1 => ⟨hf.trans hf1, ?_⟩)
    have f1 := hf.trans hf1
    simp only [C.ite_true, C.ite_false, C.pick_true, C.pick_false, C.not_bool, C.field_ptr, C.nilCheck_ptr, C.add_mk, C.sub_mk, C.mul_mk, C.eql_mk, C.neq_mk, C.lss_mk, C.leq_mk, C.gtr_mk, C.geq_mk, C.conv_mk, C.len_mk, C.ext_0, C.ext_1, C.ext3_0, C.ext3_1, C.ext3_2, C.guarded_yes, C.guarded_tf, C.guarded_ft, C.guarded_undef, Bool.not_true, Bool.not_false, Nat.zero_add, eq_self, decide_true, decide_false]
    refine hb.s rfl (hV.rows.getS f1 jl fun g o v hr hs => C.load1S_of hs (hc.s rfl (hV'.rows.getS f1 jl' fun g' o' v' hr' hs' => C.load1S_of hs' ⟨Values_c (hr.keep f1) (hr'.keep f1) fun w2 hf2 => ⟨f1.trans hf2, ?_⟩, trivial⟩)))
    by_cases hq : V.1[j] = V'.1[j]
    · rw [decide_eq_true hq]
      simp only [C.ite_true, C.ite_false, C.pick_true, C.pick_false, C.not_bool, C.field_ptr, C.nilCheck_ptr, C.add_mk, C.sub_mk, C.mul_mk, C.eql_mk, C.neq_mk, C.lss_mk, C.leq_mk, C.gtr_mk, C.geq_mk, C.conv_mk, C.len_mk, C.ext_0, C.ext_1, C.ext3_0, C.ext3_1, C.ext3_2, C.guarded_yes, C.guarded_tf, C.guarded_ft, C.guarded_undef, Bool.not_true, Bool.not_false, Nat.zero_add, eq_self, decide_true, decide_false]
      refine F22.k5.to ?_
      simp only [C.ite_true, C.ite_false, C.pick_true, C.pick_false, C.not_bool, C.field_ptr, C.nilCheck_ptr, C.add_mk, C.sub_mk, C.mul_mk, C.eql_mk, C.neq_mk, C.lss_mk, C.leq_mk, C.gtr_mk, C.geq_mk, C.conv_mk, C.len_mk, C.ext_0, C.ext_1, C.ext3_0, C.ext3_1, C.ext3_2, C.guarded_yes, C.guarded_tf, C.guarded_ft, C.guarded_undef, Bool.not_true, Bool.not_false, Nat.zero_add, eq_self, decide_true, decide_false]
      rw [wrap64_id (n := (j : Int) + 1) (by omega), show (j : Int) + 1 = ((j + 1 : Nat) : Int) by omega]
      exact ih (j + 1) w2 (by omega) (f1.trans hf2) (step_eq jl jl' he hq)
    · rw [decide_eq_false hq]
      simp only [C.ite_true, C.ite_false, C.pick_true, C.pick_false, C.not_bool, C.field_ptr, C.nilCheck_ptr, C.add_mk, C.sub_mk, C.mul_mk, C.eql_mk, C.neq_mk, C.lss_mk, C.leq_mk, C.gtr_mk, C.geq_mk, C.conv_mk, C.len_mk, C.ext_0, C.ext_1, C.ext3_0, C.ext3_1, C.ext3_2, C.guarded_yes, C.guarded_tf, C.guarded_ft, C.guarded_undef, Bool.not_true, Bool.not_false, Nat.zero_add, eq_self, decide_true, decide_false]
      have := h w2 (f1.trans hf2)
      rwa [decide_eq_false (fun e => hq (by subst e; rfl))] at this
theorem View_c {rv nv rv' nv' : Value} {V V' : Vw} (hV : IsV w rv nv V) (hV' : IsV w rv' nv' V') (h : ∀ w', Fr [] w w' → K (.bool (decide (V = V'))) w') : C.call Try.prog 22 #[.agg #[rv, nv], .agg #[rv', nv']] w K := by
  refine F22.sh (VB.new hV fun b w1 hf1 _ hb hV1 => VB.new (hV'.keep hf1) fun c w2 hf2 _ hc hV2' => ?_)
  have hb2 := hb.keep hf2 (by simp)
  have hV2 := hV1.keep hf2
  have f2 := hf1.trans hf2
  refine hb2.f0 (hV2.rows.len (hc.f0 (hV2'.rows.len ?_)))
  by_cases e1 : V.1.length = V'.1.length
  · have : ¬ ((V.1.length : Int) ≠ (V'.1.length : Int)) := by omega
    rw [C.neq_mk, decide_eq_false this]
    simp only [C.guarded_ft, C.guarded_tf, C.guarded_yes]
    refine hb2.f1 (hV2.nodes.len (hc.f1 (hV2'.nodes.len ?_)))
    by_cases e2 : V.2.length = V'.2.length
    · have : ¬ ((V.2.length : Int) ≠ (V'.2.length : Int)) := by omega
      rw [C.neq_mk, decide_eq_false this]
      simp only [C.ite_true, C.ite_false, C.pick_true, C.pick_false, C.not_bool, C.field_ptr, C.nilCheck_ptr, C.add_mk, C.sub_mk, C.mul_mk, C.eql_mk, C.neq_mk, C.lss_mk, C.leq_mk, C.gtr_mk, C.geq_mk, C.conv_mk, C.len_mk, C.ext_0, C.ext_1, C.ext3_0, C.ext3_1, C.ext3_2, C.guarded_yes, C.guarded_tf, C.guarded_ft, C.guarded_undef, Bool.not_true, Bool.not_false, Nat.zero_add, eq_self, decide_true, decide_false]
      exact F22.k3.to (View_rows hV2 hV2' hb2 hc e1 e2 (fun w' hf => h w' (f2.trans hf)) V.1.length 0 w2 (by omega) (Fr.refl _ _) fun i hi => by omega)
    · rw [C.neq_mk, decide_eq_true (show (V.2.length : Int) ≠ (V'.2.length : Int) by omega)]
      simp only [C.ite_true, C.ite_false, C.pick_true, C.pick_false, C.not_bool, C.field_ptr, C.nilCheck_ptr, C.add_mk, C.sub_mk, C.mul_mk, C.eql_mk, C.neq_mk, C.lss_mk, C.leq_mk, C.gtr_mk, C.geq_mk, C.conv_mk, C.len_mk, C.ext_0, C.ext_1, C.ext3_0, C.ext3_1, C.ext3_2, C.guarded_yes, C.guarded_tf, C.guarded_ft, C.guarded_undef, Bool.not_true, Bool.not_false, Nat.zero_add, eq_self, decide_true, decide_false]
      have := h w2 f2
      rwa [decide_eq_false (fun e => e2 (by rw [e]))] at this
  · rw [C.neq_mk, decide_eq_true (show (V.1.length : Int) ≠ (V'.1.length : Int) by omega)]
    simp only [C.ite_true, C.ite_false, C.pick_true, C.pick_false, C.not_bool, C.field_ptr, C.nilCheck_ptr, C.add_mk, C.sub_mk, C.mul_mk, C.eql_mk, C.neq_mk, C.lss_mk, C.leq_mk, C.gtr_mk, C.geq_mk, C.conv_mk, C.len_mk, C.ext_0, C.ext_1, C.ext3_0, C.ext3_1, C.ext3_2, C.guarded_yes, C.guarded_tf, C.guarded_ft, C.guarded_undef, Bool.not_true, Bool.not_false, Nat.zero_add, eq_self, decide_true, decide_false]
    have := h w2 f2
    rwa [decide_eq_false (fun e => e1 (by rw [e]))] at this
/-! ### view.Same -/
theorem C.newNd {s : Int} {f : Value} {fl : List (List Value)} (hr : RdS w f 2 fl) (hk : ∀ b w', Fr [] w w' → w'.heap[b]? = some (.cells #[.int .i64 s, f] 59 (0, 0)) → K (.pointer (some ⟨b, 0, none⟩)) w') : C.new (.cells (Value.cells (.agg #[.int .i64 s, f])) 59) w K := by
  refine C.new_of fun b w1 hn => hk b w1 hn.fr ?_
  have := hn.at_
  rwa [show Value.cells (.agg #[.int .i64 s, f]) = #[.int .i64 s, f] by simp [Value.cells, hr.one.2]] at this
/-- A block made and a node put into it. -/
theorem C.putNd {s : Int} {f : Value} {fl : List (List Value)} (hr : RdS w f 2 fl) (hk : ∀ b w', Fr [] w w' → w.heap.size ≤ b → w'.heap[b]? = some (.cells #[.int .i64 s, f] 59 (0, 0)) → K (.pointer (some ⟨b, 0, none⟩)) w') :
    C.new (.cells #[.int .i64 0, .slice none 0 0] 59) w fun p w1 => C.store 2 p (.agg #[.int .i64 s, f]) w1 fun w2 => K p w2 := by
  have e : Value.cells (.agg #[.int .i64 s, f]) = #[.int .i64 s, f] := by simp [Value.cells, hr.one.2]
  refine C.new_of fun b w1 hn => C.store_all (x := .agg #[.int .i64 s, f]) hn.at_ (by rw [e]; rfl) (by
    rw [e]
    intro u hu
    simp only [List.mem_cons, List.not_mem_nil, or_false] at hu
    rcases hu with rfl | rfl
    · rfl
    · exact hr.one.1) rfl fun w2 hu => ?_
  have := hu.at_
  rw [e] at this
  have hb : w.heap.size ≤ b := by have := hn.is; omega
  exact hk b w2 (hn.fr.then hu.fr fun z hz => .inr (by simp only [List.mem_singleton] at hz; omega)) hb this
theorem WordsEq_loop {a b : Value} {xs ys : List Int} (ra : RdS w a 1 (intC xs)) (rb : RdS w b 1 (intC ys)) (hl : xs.length = ys.length) (h : ∀ w', Fr [] w w' → K (.bool (decide (xs = ys))) w') :
    ∀ (d i : Nat) (w' : World), xs.length = i + d → Fr [] w w' → (∀ j, j < i → xs[j]? = ys[j]?) → F21.l4 K a b (.int .i64 (i : Int)) w' := by
  have hl2 := ra.le
  rw [intC_len] at hl2
  intro d
  induction d with
  | zero =>
    intro i w' hi hf he
    refine F21.l4.to (C.len_rd (ra.keep hf) ?_)
    rw [intC_len]
    simp only [C.ite_true, C.ite_false, C.pick_true, C.pick_false, C.not_bool, C.field_ptr, C.nilCheck_ptr, C.add_mk, C.sub_mk, C.mul_mk, C.eql_mk, C.neq_mk, C.lss_mk, C.leq_mk, C.gtr_mk, C.geq_mk, C.conv_mk, C.len_mk, C.ext_0, C.ext_1, C.ext3_0, C.ext3_1, C.ext3_2, C.guarded_yes, C.guarded_tf, C.guarded_ft, C.guarded_undef, Bool.not_true, Bool.not_false, Nat.zero_add, eq_self, decide_true, decide_false, show ¬ ((i : Int) < (xs.length : Int)) by omega]
    refine F21.k8.to ?_
    have := h w' hf
    rwa [decide_eq_true (list_eq_of hl (by omega) he)] at this
  | succ d ih =>
    intro i w' hi hf he
    have hix : i < xs.length := by omega
    have hiy : i < ys.length := by omega
    refine F21.l4.to (C.len_rd (ra.keep hf) ?_)
    rw [intC_len]
    simp only [C.ite_true, C.ite_false, C.pick_true, C.pick_false, C.not_bool, C.field_ptr, C.nilCheck_ptr, C.add_mk, C.sub_mk, C.mul_mk, C.eql_mk, C.neq_mk, C.lss_mk, C.leq_mk, C.gtr_mk, C.geq_mk, C.conv_mk, C.len_mk, C.ext_0, C.ext_1, C.ext3_0, C.ext3_1, C.ext3_2, C.guarded_yes, C.guarded_tf, C.guarded_ft, C.guarded_undef, Bool.not_true, Bool.not_false, Nat.zero_add, eq_self, decide_true, decide_false, show ((i : Int) < (xs.length : Int)) by omega]
    refine F21.k6.to (C.draw_of (fun w2 => Fr [] w w2) fun w1 hf1 he1 => ⟨hf.trans hf1, ?_⟩)
    have f1 := hf.trans hf1
    refine C.idx_rdS (S := fun w2 => Fr [] w w2) (fun w2 hw => ra.keep hw) f1 (by omega) (by rw [Int.toNat_natCast]; exact intC_get hix) fun ga oa _ hs1 => ?_
    refine C.idx_rdS (S := fun w2 => Fr [] w w2) (fun w2 hw => rb.keep hw) f1 (by omega) (by rw [Int.toNat_natCast]; exact intC_get hiy) fun gb ob _ hs2 => ?_
    refine C.load1S_of (v := .int .i64 xs[i]) (fun w' hw => by obtain ⟨cs, e, fz, x, y⟩ := hs1 w' hw; exact ⟨cs, e, fz, x, by simpa using y 0 (by simp)⟩) ?_
    refine C.load1S_of (v := .int .i64 ys[i]) (fun w' hw => by obtain ⟨cs, e, fz, x, y⟩ := hs2 w' hw; exact ⟨cs, e, fz, x, by simpa using y 0 (by simp)⟩) ?_
    by_cases hb : xs[i] = ys[i]
    · have : ¬ (xs[i] ≠ ys[i]) := fun c => c hb
      rw [C.neq_mk, decide_eq_false this]
      simp only [C.ite_true, C.ite_false, C.pick_true, C.pick_false, C.not_bool, C.field_ptr, C.nilCheck_ptr, C.add_mk, C.sub_mk, C.mul_mk, C.eql_mk, C.neq_mk, C.lss_mk, C.leq_mk, C.gtr_mk, C.geq_mk, C.conv_mk, C.len_mk, C.ext_0, C.ext_1, C.ext3_0, C.ext3_1, C.ext3_2, C.guarded_yes, C.guarded_tf, C.guarded_ft, C.guarded_undef, Bool.not_true, Bool.not_false, Nat.zero_add, eq_self, decide_true, decide_false]
      refine F21.k5.to ?_
      simp only [C.ite_true, C.ite_false, C.pick_true, C.pick_false, C.not_bool, C.field_ptr, C.nilCheck_ptr, C.add_mk, C.sub_mk, C.mul_mk, C.eql_mk, C.neq_mk, C.lss_mk, C.leq_mk, C.gtr_mk, C.geq_mk, C.conv_mk, C.len_mk, C.ext_0, C.ext_1, C.ext3_0, C.ext3_1, C.ext3_2, C.guarded_yes, C.guarded_tf, C.guarded_ft, C.guarded_undef, Bool.not_true, Bool.not_false, Nat.zero_add, eq_self, decide_true, decide_false]
      rw [wrap64_id (n := (i : Int) + 1) (by omega), show (i : Int) + 1 = ((i + 1 : Nat) : Int) by omega]
      exact ih (i + 1) w1 (by omega) f1 (step_eq hix hiy he hb)
    · rw [C.neq_mk, decide_eq_true (show xs[i] ≠ ys[i] from hb)]
      simp only [C.ite_true, C.ite_false, C.pick_true, C.pick_false, C.not_bool, C.field_ptr, C.nilCheck_ptr, C.add_mk, C.sub_mk, C.mul_mk, C.eql_mk, C.neq_mk, C.lss_mk, C.leq_mk, C.gtr_mk, C.geq_mk, C.conv_mk, C.len_mk, C.ext_0, C.ext_1, C.ext3_0, C.ext3_1, C.ext3_2, C.guarded_yes, C.guarded_tf, C.guarded_ft, C.guarded_undef, Bool.not_true, Bool.not_false, Nat.zero_add, eq_self, decide_true, decide_false]
      have := h w1 f1
      rwa [decide_eq_false (fun e => hb (by subst e; rfl))] at this
theorem WordsEq_c {a b : Value} {xs ys : List Int} (ra : RdS w a 1 (intC xs)) (rb : RdS w b 1 (intC ys)) (h : ∀ w', Fr [] w w' → K (.bool (decide (xs = ys))) w') : C.call Try.prog 21 #[a, b] w K := by
  refine F21.sh (C.len_rd ra (C.len_rd rb ?_))
  rw [intC_len, intC_len]
  by_cases e : (xs.length : Int) = (ys.length : Int)
  · have : ¬ ((xs.length : Int) ≠ (ys.length : Int)) := fun c => c e
    rw [C.neq_mk, decide_eq_false this, C.ite_false]
    exact F21.k3.to (WordsEq_loop ra rb (by omega) h xs.length 0 w (by omega) (Fr.refl _ _) fun j hj => by omega)
  · rw [C.neq_mk, decide_eq_true (show (xs.length : Int) ≠ (ys.length : Int) from e), C.ite_true]
    have := h w (Fr.refl _ _)
    rwa [decide_eq_false (fun c => e (by rw [c]))] at this
end
/-- Lists of values, each in memory of its own, from a place on. -/
structure OwnRows (lo : Nat) (w : World) (rv : Value) (L : List (List Va)) (vs : List Value) : Prop where
  sp : OwnS w rv 57 1 (slC vs)
  ge : ∀ g ∈ blkS rv, lo ≤ g
  len : vs.length = L.length
  row : ∀ i (h : i < L.length) (h' : i < vs.length), OwnS w vs[i] 75 2 (valC L[i]) ∧ ∀ g ∈ blkS vs[i], lo ≤ g
structure OwnNodes (lo : Nat) (w : World) (nv : Value) (N : List Nd) (fs : List Value) : Prop where
  len : fs.length = N.length
  sp : OwnS w nv 59 2 (ndC N fs)
  ge : ∀ g ∈ blkS nv, lo ≤ g
  row : ∀ i (h : i < N.length) (h' : i < fs.length), OwnS w fs[i] 75 2 (valC N[i].2) ∧ ∀ g ∈ blkS fs[i], lo ≤ g
theorem OwnRows.rd {lo : Nat} {w : World} {rv : Value} {L : List (List Va)} {vs : List Value} (h : OwnRows lo w rv L vs) : RowsV w rv L := ⟨vs, h.sp.rd, h.len, fun i a b => (h.row i a b).1.rd⟩
theorem OwnNodes.rd {lo : Nat} {w : World} {nv : Value} {N : List Nd} {fs : List Value} (h : OwnNodes lo w nv N fs) : NodesAt w nv N := ⟨fs, h.len, h.sp.rd, fun i a b => (h.row i a b).1.rd⟩
theorem OwnRows.keep {lo : Nat} {S : List Nat} {w w' : World} {rv : Value} {L : List (List Va)} {vs : List Value} (h : OwnRows lo w rv L vs) (hf : Fr S w w') (hS : ∀ g ∈ S, g < lo ∨ w.heap.size ≤ g ∨ ∃ cs e fz, w.heap[g]? = some (.cells cs e fz) ∧ e ≠ 57 ∧ e ≠ 75) : OwnRows lo w' rv L vs := by
  have key : ∀ {v : Value} {e : TypeId} {sz : Nat} {xs : List (List Value)}, (e = 57 ∨ e = 75) → OwnS w v e sz xs → (∀ g ∈ blkS v, lo ≤ g) → OwnS w' v e sz xs := fun he ho hl => ho.keep' hf fun g hg c => by
    rcases hS g c with d | d | ⟨cs, e, fz, d, e1, e2⟩
    · have := hl g hg; omega
    · have := ho.mem_lt g hg; omega
    · refine ho.nb d (fun c => ?_) hg
      rcases he with rfl | rfl
      · exact e1 c.symm
      · exact e2 c.symm
  exact ⟨key (.inl rfl) h.sp h.ge, h.ge, h.len, fun i a b => ⟨key (.inr rfl) (h.row i a b).1 (h.row i a b).2, (h.row i a b).2⟩⟩
theorem OwnNodes.keep {lo : Nat} {S : List Nat} {w w' : World} {nv : Value} {N : List Nd} {fs : List Value} (h : OwnNodes lo w nv N fs) (hf : Fr S w w') (hS : ∀ g ∈ S, g < lo ∨ w.heap.size ≤ g ∨ ∃ cs e fz, w.heap[g]? = some (.cells cs e fz) ∧ e ≠ 59 ∧ e ≠ 75) : OwnNodes lo w' nv N fs := by
  have key : ∀ {v : Value} {e : TypeId} {sz : Nat} {xs : List (List Value)}, (e = 59 ∨ e = 75) → OwnS w v e sz xs → (∀ g ∈ blkS v, lo ≤ g) → OwnS w' v e sz xs := fun he ho hl => ho.keep' hf fun g hg c => by
    rcases hS g c with d | d | ⟨cs, e, fz, d, e1, e2⟩
    · have := hl g hg; omega
    · have := ho.mem_lt g hg; omega
    · refine ho.nb d (fun c => ?_) hg
      rcases he with rfl | rfl
      · exact e1 c.symm
      · exact e2 c.symm
  exact ⟨h.len, key (.inl rfl) h.sp h.ge, h.ge, fun i a b => ⟨key (.inr rfl) (h.row i a b).1 (h.row i a b).2, (h.row i a b).2⟩⟩
/-- One more, behind the others. -/
theorem OwnRows.snoc {lo : Nat} {w w' : World} {rv rv' v : Value} {L : List (List Va)} {vs : List Value} {l : List Va} (h : OwnRows lo w rv L vs) (hlo : lo ≤ w.heap.size) (hf : Fr (blkS rv) w w') (hg : ∀ g ∈ blkS rv', g ∈ blkS rv ∨ w.heap.size ≤ g) (hs : OwnS w' rv' 57 1 (slC vs ++ [[v]])) (hv : OwnS w v 75 2 (valC l)) (hvl : ∀ g ∈ blkS v, lo ≤ g) :
    OwnRows lo w' rv' (L ++ [l]) (vs ++ [v]) := by
  refine ⟨by rw [slC_app]; exact hs, fun g hgg => ?_, by simp [h.len], fun i a b => ?_⟩
  · rcases hg g hgg with c | c
    · exact h.ge g c
    · omega
  · by_cases e : i < L.length
    · have e' : i < vs.length := by rw [h.len]; exact e
      rw [List.getElem_append_left e, List.getElem_append_left e']
      exact ⟨(h.row i e e').1.keep' hf ((h.row i e e').1.ne h.sp (by decide)), (h.row i e e').2⟩
    · have ei : i = L.length := by simp at a; omega
      have ei' : i = vs.length := by rw [h.len]; exact ei
      rw [List.getElem_append_right (by omega), List.getElem_append_right (by omega)]
      simp only [ei', Nat.sub_self, h.len, List.getElem_cons_zero]
      exact ⟨hv.keep' hf (hv.ne h.sp (by decide)), hvl⟩
theorem ndC_snoc {N : List Nd} {fs : List Value} (h : fs.length = N.length) (nd : Nd) (f : Value) : ndC (N ++ [nd]) (fs ++ [f]) = ndC N fs ++ [[.int .i64 nd.1, f]] := by
  unfold ndC
  rw [List.zipWith_append h.symm]
  rfl
theorem OwnNodes.snoc {lo : Nat} {w w' : World} {nv nv' v : Value} {N : List Nd} {fs : List Value} {nd : Nd} (h : OwnNodes lo w nv N fs) (hlo : lo ≤ w.heap.size) (hf : Fr (blkS nv) w w') (hg : ∀ g ∈ blkS nv', g ∈ blkS nv ∨ w.heap.size ≤ g) (hs : OwnS w' nv' 59 2 (ndC N fs ++ [[.int .i64 nd.1, v]])) (hv : OwnS w v 75 2 (valC nd.2)) (hvl : ∀ g ∈ blkS v, lo ≤ g) :
    OwnNodes lo w' nv' (N ++ [nd]) (fs ++ [v]) := by
  refine ⟨by simp [h.len], by rw [ndC_snoc h.len]; exact hs, fun g hgg => ?_, fun i a b => ?_⟩
  · rcases hg g hgg with c | c
    · exact h.ge g c
    · omega
  · by_cases e : i < N.length
    · have e' : i < fs.length := by rw [h.len]; exact e
      rw [List.getElem_append_left e, List.getElem_append_left e']
      exact ⟨(h.row i e e').1.keep' hf ((h.row i e e').1.ne h.sp (by decide)), (h.row i e e').2⟩
    · have ei : i = N.length := by simp at a; omega
      have ei' : i = fs.length := by rw [h.len]; exact ei
      rw [List.getElem_append_right (by omega), List.getElem_append_right (by omega)]
      simp only [ei', Nat.sub_self, h.len, List.getElem_cons_zero]
      exact ⟨hv.keep' hf (hv.ne h.sp (by decide)), hvl⟩
end Go.Proofs.YtfjilngljnlkjaaV
