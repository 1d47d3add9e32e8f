/- Views compared; their words: what the calls come to. -/
import Derived.Test.YtfdpmgddlaamcaaVw2
namespace Go.Proofs.YtfdpmgddlaamcaaV
open Go Go.Proofs Go.RowKit
set_option linter.unusedVariables false
set_option linter.unusedSimpArgs false
set_option maxRecDepth 10000
theorem list_eq_of {α : Type} {a b : List α} {i : Nat} (hl : a.length = b.length) (hi : a.length ≤ i) (h : ∀ j, j < i → a[j]? = b[j]?) : a = b := List.ext_getElem? fun j => by
  by_cases hj : j < i
  · exact h j hj
  · rw [List.getElem?_eq_none (by omega), List.getElem?_eq_none (by omega)]
theorem step_eq {α : Type} {a b : List α} {i : Nat} (ha : i < a.length) (hb : i < b.length) (h : ∀ j, j < i → a[j]? = b[j]?) (he : a[i] = b[i]) : ∀ j, j < i + 1 → a[j]? = b[j]? := fun j hj => by
  by_cases e : j = i
  · subst e; rw [List.getElem?_eq_getElem ha, List.getElem?_eq_getElem hb, he]
  · exact h j (by omega)
section
variable {K : VK} {w : World}
theorem RowsV.getS {W w1 : World} {rv : Value} {L : List (List Va)} {i : Nat} (h : RowsV W rv L) (hf : Fr [] W w1) (hi : i < L.length)
    (hk : ∀ g o v, RdS W v 2 (valC L[i]) → (∀ w', Fr [] W w' → ∃ cs e fz, w'.heap[g]? = some (.cells cs e fz) ∧ cs[o]? = some v) → K (.pointer (some ⟨g, o, none⟩)) w1) : C.idx 1 rv (.int .i64 (i : Int)) w1 K := by
  obtain ⟨vs, h1, h2, h3⟩ := h
  have hi' : i < vs.length := by omega
  refine C.idx_rdS (S := fun w' => Fr [] W w') (fun w' hw => h1.keep hw) hf (by omega) (by rw [Int.toNat_natCast]; exact slC_get hi') fun g o _ hs => hk g o vs[i] (h3 i hi hi') fun w' hw => ?_
  obtain ⟨cs, e, fz, x, y⟩ := hs w' hw
  exact ⟨cs, e, fz, x, by simpa using y 0 (by simp)⟩
theorem NodesAt.getS {W w1 : World} {nv : Value} {N : List Nd} {i : Nat} (h : NodesAt W nv N) (hf : Fr [] W w1) (hi : i < N.length)
    (hk : ∀ g o f, RdS W f 2 (valC N[i].2) → (∀ w', Fr [] W w' → ∃ cs e fz, w'.heap[g]? = some (.cells cs e fz) ∧ cs[o]? = some (.int .i64 N[i].1)) → (∀ w', Fr [] W w' → ∃ cs e fz, w'.heap[g]? = some (.cells cs e fz) ∧ cs[o + 1]? = some f) → K (.pointer (some ⟨g, o, none⟩)) w1) : C.idx 2 nv (.int .i64 (i : Int)) w1 K := by
  obtain ⟨fs, h1, h2, h3⟩ := h
  have hi' : i < fs.length := by omega
  refine C.idx_rdS (S := fun w' => Fr [] W w') (fun w' hw => h2.keep hw) hf (by omega) (by rw [Int.toNat_natCast]; exact ndC_get hi hi') fun g o _ hs => hk g o fs[i] (h3 i hi hi') (fun w' hw => ?_) fun w' hw => ?_
  · obtain ⟨cs, e, fz, x, y⟩ := hs w' hw
    exact ⟨cs, e, fz, x, by simpa using y 0 (by omega)⟩
  · obtain ⟨cs, e, fz, x, y⟩ := hs w' hw
    exact ⟨cs, e, fz, x, by simpa using y 1 (by omega)⟩
/-- A field of a view's block, in a draw. -/
theorem VB.s {W : World} {b : Nat} {rv nv : Value} (h : VB W b rv nv) {o : Nat} {v : Value} (ho : (#[rv, nv] : Array Value)[o]? = some v) {w1 : World} (hk : K v w1) : C.load1S (fun w' => Fr [] W w') (.pointer (some ⟨b, o, none⟩)) w1 K :=
  C.load1S_of (fun w' hw => ⟨_, _, _, h.keep hw (by simp), ho⟩) hk
/-! ### scutageplain.View -/
theorem View_nodes {W : World} {b c : Nat} {rv nv rv' nv' : Value} {V V' : Vw} (hV : IsV W rv nv V) (hV' : IsV W rv' nv' V') (hb : VB W b rv nv) (hc : VB W c rv' nv') (h1 : V.1 = V'.1) (hl : V.2.length = V'.2.length) (h : ∀ w', Fr [] W w' → K (.bool (decide (V = V'))) w') :
    ∀ (d j : Nat) (w : World), V.2.length = j + d → Fr [] W w → (∀ i, i < j → V.2[i]? = V'.2[i]?) → F33.l9 K (.pointer (some ⟨b, 0, none⟩)) (.pointer (some ⟨c, 0, none⟩)) (.int .i64 (j : Int)) w := by
  have hle := hV.nodes.le
  intro d
  induction d with
  | zero =>
    intro j w hj hf he
    refine F33.l9.to ((hb.keep hf (by simp)).f1 (hV.nodes.len ?_))
    simp only [C.ite_true, C.ite_false, C.pick_true, C.pick_false, C.not_bool, C.field_ptr, C.nilCheck_ptr, C.add_mk, C.sub_mk, C.mul_mk, C.eql_mk, C.neq_mk, C.lss_mk, C.leq_mk, C.gtr_mk, C.geq_mk, C.conv_mk, C.len_mk, C.ext_0, C.ext_1, C.ext3_0, C.ext3_1, C.ext3_2, C.guarded_yes, C.guarded_tf, C.guarded_ft, C.guarded_undef, Bool.not_true, Bool.not_false, Nat.zero_add, eq_self, decide_true, decide_false, show ¬ ((j : Int) < (V.2.length : Int)) by omega]
    refine F33.k13.to ?_
    have := h w hf
    rwa [decide_eq_true (Prod.ext h1 (list_eq_of hl (by omega) he))] at this
  | succ d ih =>
    intro j w hj hf he
    have jl : j < V.2.length := by omega
    have jl' : j < V'.2.length := by omega
    refine F33.l9.to ((hb.keep hf (by simp)).f1 (hV.nodes.len ?_))
    simp only [C.ite_true, C.ite_false, C.pick_true, C.pick_false, C.not_bool, C.field_ptr, C.nilCheck_ptr, C.add_mk, C.sub_mk, C.mul_mk, C.eql_mk, C.neq_mk, C.lss_mk, C.leq_mk, C.gtr_mk, C.geq_mk, C.conv_mk, C.len_mk, C.ext_0, C.ext_1, C.ext3_0, C.ext3_1, C.ext3_2, C.guarded_yes, C.guarded_tf, C.guarded_ft, C.guarded_undef, Bool.not_true, Bool.not_false, Nat.zero_add, eq_self, decide_true, decide_false, show ((j : Int) < (V.2.length : Int)) by omega]
    have no : ∀ w', Fr [] W w' → ¬ V.2[j] = V'.2[j] → K (.bool false) w' := fun w' hw hne => by
      have := h w' hw
      rwa [decide_eq_false (fun e => hne (by subst e; rfl))] at this
    have go : ∀ w', Fr [] W w' → V.2[j] = V'.2[j] → F33.k10 K (.pointer (some ⟨b, 0, none⟩)) (.pointer (some ⟨c, 0, none⟩)) (.int .i64 (j : Int)) w' := fun w' hw heq => by
      refine F33.k10.to ?_
      simp only [C.ite_true, C.ite_false, C.pick_true, C.pick_false, C.not_bool, C.field_ptr, C.nilCheck_ptr, C.add_mk, C.sub_mk, C.mul_mk, C.eql_mk, C.neq_mk, C.lss_mk, C.leq_mk, C.gtr_mk, C.geq_mk, C.conv_mk, C.len_mk, C.ext_0, C.ext_1, C.ext3_0, C.ext3_1, C.ext3_2, C.guarded_yes, C.guarded_tf, C.guarded_ft, C.guarded_undef, Bool.not_true, Bool.not_false, Nat.zero_add, eq_self, decide_true, decide_false]
      rw [wrap64_id (n := (j : Int) + 1) (by omega), show (j : Int) + 1 = ((j + 1 : Nat) : Int) by omega]
      exact ih (j + 1) w' (by omega) hw (step_eq jl jl' he heq)
    refine F33.k11.to (C.draw_of (fun w' => Fr [] W w') fun w1 hf1 he1 => ⟨hf.trans hf1, ?_⟩)
    have f1 := hf.trans hf1
    simp only [C.ite_true, C.ite_false, C.pick_true, C.pick_false, C.not_bool, C.field_ptr, C.nilCheck_ptr, C.add_mk, C.sub_mk, C.mul_mk, C.eql_mk, C.neq_mk, C.lss_mk, C.leq_mk, C.gtr_mk, C.geq_mk, C.conv_mk, C.len_mk, C.ext_0, C.ext_1, C.ext3_0, C.ext3_1, C.ext3_2, C.guarded_yes, C.guarded_tf, C.guarded_ft, C.guarded_undef, Bool.not_true, Bool.not_false, Nat.zero_add, eq_self, decide_true, decide_false]
    refine hb.s rfl (hV.nodes.getS f1 jl fun g o f hr hs0 hs1 => ?_)
    simp only [C.ite_true, C.ite_false, C.pick_true, C.pick_false, C.not_bool, C.field_ptr, C.nilCheck_ptr, C.add_mk, C.sub_mk, C.mul_mk, C.eql_mk, C.neq_mk, C.lss_mk, C.leq_mk, C.gtr_mk, C.geq_mk, C.conv_mk, C.len_mk, C.ext_0, C.ext_1, C.ext3_0, C.ext3_1, C.ext3_2, C.guarded_yes, C.guarded_tf, C.guarded_ft, C.guarded_undef, Bool.not_true, Bool.not_false, Nat.zero_add, eq_self, decide_true, decide_false]
    refine C.load1S_of hs0 (hc.s rfl (hV'.nodes.getS f1 jl' fun g' o' f' hr' hs0' hs1' => ?_))
    simp only [C.ite_true, C.ite_false, C.pick_true, C.pick_false, C.not_bool, C.field_ptr, C.nilCheck_ptr, C.add_mk, C.sub_mk, C.mul_mk, C.eql_mk, C.neq_mk, C.lss_mk, C.leq_mk, C.gtr_mk, C.geq_mk, C.conv_mk, C.len_mk, C.ext_0, C.ext_1, C.ext3_0, C.ext3_1, C.ext3_2, C.guarded_yes, C.guarded_tf, C.guarded_ft, C.guarded_undef, Bool.not_true, Bool.not_false, Nat.zero_add, eq_self, decide_true, decide_false]
    refine C.load1S_of hs0' ?_
    by_cases hs : V.2[j].1 = V'.2[j].1
    · have : ¬ (V.2[j].1 ≠ V'.2[j].1) := fun c => c hs
      rw [C.neq_mk, decide_eq_false this]
      simp only [C.ite_true, C.ite_false, C.pick_true, C.pick_false, C.not_bool, C.field_ptr, C.nilCheck_ptr, C.add_mk, C.sub_mk, C.mul_mk, C.eql_mk, C.neq_mk, C.lss_mk, C.leq_mk, C.gtr_mk, C.geq_mk, C.conv_mk, C.len_mk, C.ext_0, C.ext_1, C.ext3_0, C.ext3_1, C.ext3_2, C.guarded_yes, C.guarded_tf, C.guarded_ft, C.guarded_undef, Bool.not_true, Bool.not_false, Nat.zero_add, eq_self, decide_true, decide_false]
      refine hb.s rfl (hV.nodes.getS f1 jl fun g o f hr hs0 hs1 => ?_)
      simp only [C.ite_true, C.ite_false, C.pick_true, C.pick_false, C.not_bool, C.field_ptr, C.nilCheck_ptr, C.add_mk, C.sub_mk, C.mul_mk, C.eql_mk, C.neq_mk, C.lss_mk, C.leq_mk, C.gtr_mk, C.geq_mk, C.conv_mk, C.len_mk, C.ext_0, C.ext_1, C.ext3_0, C.ext3_1, C.ext3_2, C.guarded_yes, C.guarded_tf, C.guarded_ft, C.guarded_undef, Bool.not_true, Bool.not_false, Nat.zero_add, eq_self, decide_true, decide_false]
      refine C.load1S_of hs1 (hc.s rfl (hV'.nodes.getS f1 jl' fun g' o' f' hr' hs0' hs1' => ?_))
      simp only [C.ite_true, C.ite_false, C.pick_true, C.pick_false, C.not_bool, C.field_ptr, C.nilCheck_ptr, C.add_mk, C.sub_mk, C.mul_mk, C.eql_mk, C.neq_mk, C.lss_mk, C.leq_mk, C.gtr_mk, C.geq_mk, C.conv_mk, C.len_mk, C.ext_0, C.ext_1, C.ext3_0, C.ext3_1, C.ext3_2, C.guarded_yes, C.guarded_tf, C.guarded_ft, C.guarded_undef, Bool.not_true, Bool.not_false, Nat.zero_add, eq_self, decide_true, decide_false]
      refine C.load1S_of hs1' ⟨Values_c (hr.keep f1) (hr'.keep f1) fun w2 hf2 => ⟨f1.trans hf2, ?_⟩, trivial⟩
      by_cases hq : V.2[j].2 = V'.2[j].2
      · rw [decide_eq_true hq]
        simp only [C.ite_true, C.ite_false, C.pick_true, C.pick_false, C.not_bool, C.field_ptr, C.nilCheck_ptr, C.add_mk, C.sub_mk, C.mul_mk, C.eql_mk, C.neq_mk, C.lss_mk, C.leq_mk, C.gtr_mk, C.geq_mk, C.conv_mk, C.len_mk, C.ext_0, C.ext_1, C.ext3_0, C.ext3_1, C.ext3_2, C.guarded_yes, C.guarded_tf, C.guarded_ft, C.guarded_undef, Bool.not_true, Bool.not_false, Nat.zero_add, eq_self, decide_true, decide_false]
        exact go w2 (f1.trans hf2) (Prod.ext hs hq)
      · rw [decide_eq_false hq]
        simp only [C.ite_true, C.ite_false, C.pick_true, C.pick_false, C.not_bool, C.field_ptr, C.nilCheck_ptr, C.add_mk, C.sub_mk, C.mul_mk, C.eql_mk, C.neq_mk, C.lss_mk, C.leq_mk, C.gtr_mk, C.geq_mk, C.conv_mk, C.len_mk, C.ext_0, C.ext_1, C.ext3_0, C.ext3_1, C.ext3_2, C.guarded_yes, C.guarded_tf, C.guarded_ft, C.guarded_undef, Bool.not_true, Bool.not_false, Nat.zero_add, eq_self, decide_true, decide_false]
        exact no w2 (f1.trans hf2) fun e => hq (by rw [e])
    · rw [C.neq_mk, decide_eq_true (show V.2[j].1 ≠ V'.2[j].1 from hs)]
      simp only [C.ite_true, C.ite_false, C.pick_true, C.pick_false, C.not_bool, C.field_ptr, C.nilCheck_ptr, C.add_mk, C.sub_mk, C.mul_mk, C.eql_mk, C.neq_mk, C.lss_mk, C.leq_mk, C.gtr_mk, C.geq_mk, C.conv_mk, C.len_mk, C.ext_0, C.ext_1, C.ext3_0, C.ext3_1, C.ext3_2, C.guarded_yes, C.guarded_tf, C.guarded_ft, C.guarded_undef, Bool.not_true, Bool.not_false, Nat.zero_add, eq_self, decide_true, decide_false]
      exact ⟨⟨f1, no w1 f1 fun e => hs (by rw [e])⟩, trivial⟩
theorem View_rows {W : World} {b c : Nat} {rv nv rv' nv' : Value} {V V' : Vw} (hV : IsV W rv nv V) (hV' : IsV W rv' nv' V') (hb : VB W b rv nv) (hc : VB W c rv' nv') (hl1 : V.1.length = V'.1.length) (hl : V.2.length = V'.2.length) (h : ∀ w', Fr [] W w' → K (.bool (decide (V = V'))) w') :
    ∀ (d j : Nat) (w : World), V.1.length = j + d → Fr [] W w → (∀ i, i < j → V.1[i]? = V'.1[i]?) → F33.l4 K (.pointer (some ⟨b, 0, none⟩)) (.pointer (some ⟨c, 0, none⟩)) (.int .i64 (j : Int)) w := by
  have hle := hV.rows.le
  intro d
  induction d with
  | zero =>
    intro j w hj hf he
    refine F33.l4.to ((hb.keep hf (by simp)).f0 (hV.rows.len ?_))
    simp only [C.ite_true, C.ite_false, C.pick_true, C.pick_false, C.not_bool, C.field_ptr, C.nilCheck_ptr, C.add_mk, C.sub_mk, C.mul_mk, C.eql_mk, C.neq_mk, C.lss_mk, C.leq_mk, C.gtr_mk, C.geq_mk, C.conv_mk, C.len_mk, C.ext_0, C.ext_1, C.ext3_0, C.ext3_1, C.ext3_2, C.guarded_yes, C.guarded_tf, C.guarded_ft, C.guarded_undef, Bool.not_true, Bool.not_false, Nat.zero_add, eq_self, decide_true, decide_false, show ¬ ((j : Int) < (V.1.length : Int)) by omega]
    exact F33.k8.to (View_nodes hV hV' hb hc (list_eq_of hl1 (by omega) he) hl h V.2.length 0 w (by omega) hf fun i hi => by omega)
  | succ d ih =>
    intro j w hj hf he
    have jl : j < V.1.length := by omega
    have jl' : j < V'.1.length := by omega
    refine F33.l4.to ((hb.keep hf (by simp)).f0 (hV.rows.len ?_))
    simp only [C.ite_true, C.ite_false, C.pick_true, C.pick_false, C.not_bool, C.field_ptr, C.nilCheck_ptr, C.add_mk, C.sub_mk, C.mul_mk, C.eql_mk, C.neq_mk, C.lss_mk, C.leq_mk, C.gtr_mk, C.geq_mk, C.conv_mk, C.len_mk, C.ext_0, C.ext_1, C.ext3_0, C.ext3_1, C.ext3_2, C.guarded_yes, C.guarded_tf, C.guarded_ft, C.guarded_undef, Bool.not_true, Bool.not_false, Nat.zero_add, eq_self, decide_true, decide_false, show ((j : Int) < (V.1.length : Int)) by omega]
    refine F33.k6.to (C.draw_of (fun w' => Fr [] W w') fun w1 hf1 he1 => ⟨hf.trans hf1, ?_⟩)
    have f1 := hf.trans hf1
    simp only [C.ite_true, C.ite_false, C.pick_true, C.pick_false, C.not_bool, C.field_ptr, C.nilCheck_ptr, C.add_mk, C.sub_mk, C.mul_mk, C.eql_mk, C.neq_mk, C.lss_mk, C.leq_mk, C.gtr_mk, C.geq_mk, C.conv_mk, C.len_mk, C.ext_0, C.ext_1, C.ext3_0, C.ext3_1, C.ext3_2, C.guarded_yes, C.guarded_tf, C.guarded_ft, C.guarded_undef, Bool.not_true, Bool.not_false, Nat.zero_add, eq_self, decide_true, decide_false]
    refine hb.s rfl (hV.rows.getS f1 jl fun g o v hr hs => C.load1S_of hs (hc.s rfl (hV'.rows.getS f1 jl' fun g' o' v' hr' hs' => C.load1S_of hs' ⟨Values_c (hr.keep f1) (hr'.keep f1) fun w2 hf2 => ⟨f1.trans hf2, ?_⟩, trivial⟩)))
    by_cases hq : V.1[j] = V'.1[j]
    · rw [decide_eq_true hq]
      simp only [C.ite_true, C.ite_false, C.pick_true, C.pick_false, C.not_bool, C.field_ptr, C.nilCheck_ptr, C.add_mk, C.sub_mk, C.mul_mk, C.eql_mk, C.neq_mk, C.lss_mk, C.leq_mk, C.gtr_mk, C.geq_mk, C.conv_mk, C.len_mk, C.ext_0, C.ext_1, C.ext3_0, C.ext3_1, C.ext3_2, C.guarded_yes, C.guarded_tf, C.guarded_ft, C.guarded_undef, Bool.not_true, Bool.not_false, Nat.zero_add, eq_self, decide_true, decide_false]
      refine F33.k5.to ?_
      simp only [C.ite_true, C.ite_false, C.pick_true, C.pick_false, C.not_bool, C.field_ptr, C.nilCheck_ptr, C.add_mk, C.sub_mk, C.mul_mk, C.eql_mk, C.neq_mk, C.lss_mk, C.leq_mk, C.gtr_mk, C.geq_mk, C.conv_mk, C.len_mk, C.ext_0, C.ext_1, C.ext3_0, C.ext3_1, C.ext3_2, C.guarded_yes, C.guarded_tf, C.guarded_ft, C.guarded_undef, Bool.not_true, Bool.not_false, Nat.zero_add, eq_self, decide_true, decide_false]
      rw [wrap64_id (n := (j : Int) + 1) (by omega), show (j : Int) + 1 = ((j + 1 : Nat) : Int) by omega]
      exact ih (j + 1) w2 (by omega) (f1.trans hf2) (step_eq jl jl' he hq)
    · rw [decide_eq_false hq]
      simp only [C.ite_true, C.ite_false, C.pick_true, C.pick_false, C.not_bool, C.field_ptr, C.nilCheck_ptr, C.add_mk, C.sub_mk, C.mul_mk, C.eql_mk, C.neq_mk, C.lss_mk, C.leq_mk, C.gtr_mk, C.geq_mk, C.conv_mk, C.len_mk, C.ext_0, C.ext_1, C.ext3_0, C.ext3_1, C.ext3_2, C.guarded_yes, C.guarded_tf, C.guarded_ft, C.guarded_undef, Bool.not_true, Bool.not_false, Nat.zero_add, eq_self, decide_true, decide_false]
      have := h w2 (f1.trans hf2)
      rwa [decide_eq_false (fun e => hq (by subst e; rfl))] at this
theorem View_c {rv nv rv' nv' : Value} {V V' : Vw} (hV : IsV w rv nv V) (hV' : IsV w rv' nv' V') (h : ∀ w', Fr [] w w' → K (.bool (decide (V = V'))) w') : C.call Try.prog 33 #[.agg #[rv, nv], .agg #[rv', nv']] w K := by
  refine F33.sh (VB.new hV fun b w1 hf1 _ hb hV1 => VB.new (hV'.keep hf1) fun c w2 hf2 _ hc hV2' => ?_)
  have hb2 := hb.keep hf2 (by simp)
  have hV2 := hV1.keep hf2
  have f2 := hf1.trans hf2
  refine hb2.f0 (hV2.rows.len (hc.f0 (hV2'.rows.len ?_)))
  by_cases e1 : V.1.length = V'.1.length
  · have : ¬ ((V.1.length : Int) ≠ (V'.1.length : Int)) := by omega
    rw [C.neq_mk, decide_eq_false this]
    simp only [C.guarded_ft, C.guarded_tf, C.guarded_yes]
    refine hb2.f1 (hV2.nodes.len (hc.f1 (hV2'.nodes.len ?_)))
    by_cases e2 : V.2.length = V'.2.length
    · have : ¬ ((V.2.length : Int) ≠ (V'.2.length : Int)) := by omega
      rw [C.neq_mk, decide_eq_false this]
      simp only [C.ite_true, C.ite_false, C.pick_true, C.pick_false, C.not_bool, C.field_ptr, C.nilCheck_ptr, C.add_mk, C.sub_mk, C.mul_mk, C.eql_mk, C.neq_mk, C.lss_mk, C.leq_mk, C.gtr_mk, C.geq_mk, C.conv_mk, C.len_mk, C.ext_0, C.ext_1, C.ext3_0, C.ext3_1, C.ext3_2, C.guarded_yes, C.guarded_tf, C.guarded_ft, C.guarded_undef, Bool.not_true, Bool.not_false, Nat.zero_add, eq_self, decide_true, decide_false]
      exact F33.k3.to (View_rows hV2 hV2' hb2 hc e1 e2 (fun w' hf => h w' (f2.trans hf)) V.1.length 0 w2 (by omega) (Fr.refl _ _) fun i hi => by omega)
    · rw [C.neq_mk, decide_eq_true (show (V.2.length : Int) ≠ (V'.2.length : Int) by omega)]
      simp only [C.ite_true, C.ite_false, C.pick_true, C.pick_false, C.not_bool, C.field_ptr, C.nilCheck_ptr, C.add_mk, C.sub_mk, C.mul_mk, C.eql_mk, C.neq_mk, C.lss_mk, C.leq_mk, C.gtr_mk, C.geq_mk, C.conv_mk, C.len_mk, C.ext_0, C.ext_1, C.ext3_0, C.ext3_1, C.ext3_2, C.guarded_yes, C.guarded_tf, C.guarded_ft, C.guarded_undef, Bool.not_true, Bool.not_false, Nat.zero_add, eq_self, decide_true, decide_false]
      have := h w2 f2
      rwa [decide_eq_false (fun e => e2 (by rw [e]))] at this
  · rw [C.neq_mk, decide_eq_true (show (V.1.length : Int) ≠ (V'.1.length : Int) by omega)]
    simp only [C.ite_true, C.ite_false, C.pick_true, C.pick_false, C.not_bool, C.field_ptr, C.nilCheck_ptr, C.add_mk, C.sub_mk, C.mul_mk, C.eql_mk, C.neq_mk, C.lss_mk, C.leq_mk, C.gtr_mk, C.geq_mk, C.conv_mk, C.len_mk, C.ext_0, C.ext_1, C.ext3_0, C.ext3_1, C.ext3_2, C.guarded_yes, C.guarded_tf, C.guarded_ft, C.guarded_undef, Bool.not_true, Bool.not_false, Nat.zero_add, eq_self, decide_true, decide_false]
    have := h w2 f2
    rwa [decide_eq_false (fun e => e1 (by rw [e]))] at this
/-! ### view.Same -/
theorem bodied_equal : bodied Try.prog 75 = true := by kernel_rfl
theorem bodied_like : bodied Try.prog 77 = true := by kernel_rfl
theorem EqRows_loop {W : World} {rv rv' : Value} {L L' : List (List Va)} (hR : RowsV W rv L) (hR' : RowsV W rv' L') (hl : L.length = L'.length) (h : ∀ w', Fr [] W w' → K (.bool (decide (L = L'))) w') :
    ∀ (d j : Nat) (w : World), L.length = j + d → Fr [] W w → (∀ i, i < j → L[i]? = L'[i]?) → F74.l4 K rv' (.func (.func 75) #[] #[]) rv (.int .i64 (L.length : Int)) (.int .i64 (j : Int)) w := by
  have hle := hR.le
  intro d
  induction d with
  | zero =>
    intro j w hj hf he
    refine F74.l4.to ?_
    simp only [C.ite_true, C.ite_false, C.pick_true, C.pick_false, C.not_bool, C.field_ptr, C.nilCheck_ptr, C.add_mk, C.sub_mk, C.mul_mk, C.eql_mk, C.neq_mk, C.lss_mk, C.leq_mk, C.gtr_mk, C.geq_mk, C.conv_mk, C.len_mk, C.ext_0, C.ext_1, C.ext3_0, C.ext3_1, C.ext3_2, C.guarded_yes, C.guarded_tf, C.guarded_ft, C.guarded_undef, Bool.not_true, Bool.not_false, Nat.zero_add, eq_self, decide_true, decide_false, show ¬ ((j : Int) < (L.length : Int)) by omega]
    refine F74.k10.to ?_
    have := h w hf
    rwa [decide_eq_true (list_eq_of hl (by omega) he)] at this
  | succ d ih =>
    intro j w hj hf he
    have jl : j < L.length := by omega
    have jl' : j < L'.length := by omega
    refine F74.l4.to ?_
    simp only [C.ite_true, C.ite_false, C.pick_true, C.pick_false, C.not_bool, C.field_ptr, C.nilCheck_ptr, C.add_mk, C.sub_mk, C.mul_mk, C.eql_mk, C.neq_mk, C.lss_mk, C.leq_mk, C.gtr_mk, C.geq_mk, C.conv_mk, C.len_mk, C.ext_0, C.ext_1, C.ext3_0, C.ext3_1, C.ext3_2, C.guarded_yes, C.guarded_tf, C.guarded_ft, C.guarded_undef, Bool.not_true, Bool.not_false, Nat.zero_add, eq_self, decide_true, decide_false, show ((j : Int) < (L.length : Int)) by omega]
    refine F74.k5.to ((hR.keep hf).get jl fun v hv => (hR'.keep hf).get jl' fun v' hv' => vcCall_of bodied_equal (Equal_c hv hv' fun w1 hf1 => ?_))
    by_cases hq : L[j] = L'[j]
    · rw [decide_eq_true hq]
      simp only [C.ite_true, C.ite_false, C.pick_true, C.pick_false, C.not_bool, C.field_ptr, C.nilCheck_ptr, C.add_mk, C.sub_mk, C.mul_mk, C.eql_mk, C.neq_mk, C.lss_mk, C.leq_mk, C.gtr_mk, C.geq_mk, C.conv_mk, C.len_mk, C.ext_0, C.ext_1, C.ext3_0, C.ext3_1, C.ext3_2, C.guarded_yes, C.guarded_tf, C.guarded_ft, C.guarded_undef, Bool.not_true, Bool.not_false, Nat.zero_add, eq_self, decide_true, decide_false]
      refine F74.k9.to ?_
      simp only [C.ite_true, C.ite_false, C.pick_true, C.pick_false, C.not_bool, C.field_ptr, C.nilCheck_ptr, C.add_mk, C.sub_mk, C.mul_mk, C.eql_mk, C.neq_mk, C.lss_mk, C.leq_mk, C.gtr_mk, C.geq_mk, C.conv_mk, C.len_mk, C.ext_0, C.ext_1, C.ext3_0, C.ext3_1, C.ext3_2, C.guarded_yes, C.guarded_tf, C.guarded_ft, C.guarded_undef, Bool.not_true, Bool.not_false, Nat.zero_add, eq_self, decide_true, decide_false]
      rw [wrap64_id (n := (j : Int) + 1) (by omega), show (j : Int) + 1 = ((j + 1 : Nat) : Int) by omega]
      exact ih (j + 1) w1 (by omega) (hf.trans hf1) (step_eq jl jl' he hq)
    · rw [decide_eq_false hq]
      simp only [C.ite_true, C.ite_false, C.pick_true, C.pick_false, C.not_bool, C.field_ptr, C.nilCheck_ptr, C.add_mk, C.sub_mk, C.mul_mk, C.eql_mk, C.neq_mk, C.lss_mk, C.leq_mk, C.gtr_mk, C.geq_mk, C.conv_mk, C.len_mk, C.ext_0, C.ext_1, C.ext3_0, C.ext3_1, C.ext3_2, C.guarded_yes, C.guarded_tf, C.guarded_ft, C.guarded_undef, Bool.not_true, Bool.not_false, Nat.zero_add, eq_self, decide_true, decide_false]
      have := h w1 (hf.trans hf1)
      rwa [decide_eq_false (fun e => hq (by subst e; rfl))] at this
theorem EqRows_c {rv rv' : Value} {L L' : List (List Va)} (hR : RowsV w rv L) (hR' : RowsV w rv' L') (h : ∀ w', Fr [] w w' → K (.bool (decide (L = L'))) w') : C.call Try.prog 74 #[rv, rv', .func (.func 75) #[] #[]] w K := by
  refine F74.sh (hR.len (hR'.len ?_))
  by_cases e1 : L.length = L'.length
  · have : ¬ ((L.length : Int) ≠ (L'.length : Int)) := by omega
    rw [C.neq_mk, decide_eq_false this, C.ite_false]
    exact F74.k3.to (hR.len (EqRows_loop hR hR' e1 h L.length 0 w (by omega) (Fr.refl _ _) fun i hi => by omega))
  · rw [C.neq_mk, decide_eq_true (show (L.length : Int) ≠ (L'.length : Int) by omega), C.ite_true]
    have := h w (Fr.refl _ _)
    rwa [decide_eq_false (fun e => e1 (by rw [e]))] at this
/-- A block that holds a node. -/
theorem C.newNd {s : Int} {f : Value} {fl : List (List Value)} (hr : RdS w f 2 fl) (hk : ∀ b w', Fr [] w w' → w'.heap[b]? = some (.cells #[.int .i64 s, f] 61 (0, 0)) → K (.pointer (some ⟨b, 0, none⟩)) w') : C.new (.cells (Value.cells (.agg #[.int .i64 s, f])) 61) w K := by
  refine C.new_of fun b w1 hn => hk b w1 hn.fr ?_
  have := hn.at_
  rwa [show Value.cells (.agg #[.int .i64 s, f]) = #[.int .i64 s, f] by simp [Value.cells, hr.one.2]] at this
/-- A block made and a node put into it. -/
theorem C.putNd {s : Int} {f : Value} {fl : List (List Value)} (hr : RdS w f 2 fl) (hk : ∀ b w', Fr [] w w' → w.heap.size ≤ b → w'.heap[b]? = some (.cells #[.int .i64 s, f] 61 (0, 0)) → K (.pointer (some ⟨b, 0, none⟩)) w') :
    C.new (.cells #[.int .i64 0, .slice none 0 0] 61) w fun p w1 => C.store 2 p (.agg #[.int .i64 s, f]) w1 fun w2 => K p w2 := by
  have e : Value.cells (.agg #[.int .i64 s, f]) = #[.int .i64 s, f] := by simp [Value.cells, hr.one.2]
  refine C.new_of fun b w1 hn => C.store_all (x := .agg #[.int .i64 s, f]) hn.at_ (by rw [e]; rfl) (by
    rw [e]
    intro u hu
    simp only [List.mem_cons, List.not_mem_nil, or_false] at hu
    rcases hu with rfl | rfl
    · rfl
    · exact hr.one.1) rfl fun w2 hu => ?_
  have := hu.at_
  rw [e] at this
  have hb : w.heap.size ≤ b := by have := hn.is; omega
  exact hk b w2 (hn.fr.then hu.fr fun z hz => .inr (by simp only [List.mem_singleton] at hz; omega)) hb this
theorem like_c {s s' : Int} {f f' : Value} {xs ys : List Va} (hr : RdS w f 2 (valC xs)) (hr' : RdS w f' 2 (valC ys)) (h : ∀ w', Fr [] w w' → K (.bool (decide ((s, xs) = (s', ys)))) w') : C.call Try.prog 77 #[.agg #[.int .i64 s, f], .agg #[.int .i64 s', f']] w K := by
  refine F77.sh (C.newNd hr fun b w1 hf1 hb => C.newNd (hr'.keep hf1) fun c w2 hf2 hc => ?_)
  have hb2 := hf2.at_ hb (by simp)
  have f2 := hf1.trans hf2
  simp only [C.ite_true, C.ite_false, C.pick_true, C.pick_false, C.not_bool, C.field_ptr, C.nilCheck_ptr, C.add_mk, C.sub_mk, C.mul_mk, C.eql_mk, C.neq_mk, C.lss_mk, C.leq_mk, C.gtr_mk, C.geq_mk, C.conv_mk, C.len_mk, C.ext_0, C.ext_1, C.ext3_0, C.ext3_1, C.ext3_2, C.guarded_yes, C.guarded_tf, C.guarded_ft, C.guarded_undef, Bool.not_true, Bool.not_false, Nat.zero_add, eq_self, decide_true, decide_false]
  refine C.load1_of (v := .int .i64 s) hb2 rfl (C.load1_of (v := .int .i64 s') hc rfl ?_)
  by_cases hs : s = s'
  · simp only [C.ite_true, C.ite_false, C.pick_true, C.pick_false, C.not_bool, C.field_ptr, C.nilCheck_ptr, C.add_mk, C.sub_mk, C.mul_mk, C.eql_mk, C.neq_mk, C.lss_mk, C.leq_mk, C.gtr_mk, C.geq_mk, C.conv_mk, C.len_mk, C.ext_0, C.ext_1, C.ext3_0, C.ext3_1, C.ext3_2, C.guarded_yes, C.guarded_tf, C.guarded_ft, C.guarded_undef, Bool.not_true, Bool.not_false, Nat.zero_add, eq_self, decide_true, decide_false, hs]
    refine C.load1_of (v := f) hb2 rfl (C.load1_of (v := f') hc rfl (Equal_c (hr.keep f2) (hr'.keep f2) fun w3 hf3 => ?_))
    try simp only [C.ite_true, C.ite_false, C.pick_true, C.pick_false, C.not_bool, C.field_ptr, C.nilCheck_ptr, C.add_mk, C.sub_mk, C.mul_mk, C.eql_mk, C.neq_mk, C.lss_mk, C.leq_mk, C.gtr_mk, C.geq_mk, C.conv_mk, C.len_mk, C.ext_0, C.ext_1, C.ext3_0, C.ext3_1, C.ext3_2, C.guarded_yes, C.guarded_tf, C.guarded_ft, C.guarded_undef, Bool.not_true, Bool.not_false, Nat.zero_add, eq_self, decide_true, decide_false]
    have := h w3 (f2.trans hf3)
    rwa [show decide ((s, xs) = (s', ys)) = decide (xs = ys) from by subst hs; simp] at this
  · simp only [C.ite_true, C.ite_false, C.pick_true, C.pick_false, C.not_bool, C.field_ptr, C.nilCheck_ptr, C.add_mk, C.sub_mk, C.mul_mk, C.eql_mk, C.neq_mk, C.lss_mk, C.leq_mk, C.gtr_mk, C.geq_mk, C.conv_mk, C.len_mk, C.ext_0, C.ext_1, C.ext3_0, C.ext3_1, C.ext3_2, C.guarded_yes, C.guarded_tf, C.guarded_ft, C.guarded_undef, Bool.not_true, Bool.not_false, Nat.zero_add, eq_self, decide_true, decide_false, hs]
    have := h w2 f2
    rwa [decide_eq_false (fun e => hs (congrArg Prod.fst e))] at this
theorem EqNodes_loop {W : World} {nv nv' : Value} {N N' : List Nd} (hR : NodesAt W nv N) (hR' : NodesAt W nv' N') (hl : N.length = N'.length) (h : ∀ w', Fr [] W w' → K (.bool (decide (N = N'))) w') :
    ∀ (d j : Nat) (w : World), N.length = j + d → Fr [] W w → (∀ i, i < j → N[i]? = N'[i]?) → F76.l4 K nv' (.func (.func 77) #[] #[]) nv (.int .i64 (N.length : Int)) (.int .i64 (j : Int)) w := by
  have hle := hR.le
  intro d
  induction d with
  | zero =>
    intro j w hj hf he
    refine F76.l4.to ?_
    simp only [C.ite_true, C.ite_false, C.pick_true, C.pick_false, C.not_bool, C.field_ptr, C.nilCheck_ptr, C.add_mk, C.sub_mk, C.mul_mk, C.eql_mk, C.neq_mk, C.lss_mk, C.leq_mk, C.gtr_mk, C.geq_mk, C.conv_mk, C.len_mk, C.ext_0, C.ext_1, C.ext3_0, C.ext3_1, C.ext3_2, C.guarded_yes, C.guarded_tf, C.guarded_ft, C.guarded_undef, Bool.not_true, Bool.not_false, Nat.zero_add, eq_self, decide_true, decide_false, show ¬ ((j : Int) < (N.length : Int)) by omega]
    refine F76.k10.to ?_
    have := h w hf
    rwa [decide_eq_true (list_eq_of hl (by omega) he)] at this
  | succ d ih =>
    intro j w hj hf he
    have jl : j < N.length := by omega
    have jl' : j < N'.length := by omega
    refine F76.l4.to ?_
    simp only [C.ite_true, C.ite_false, C.pick_true, C.pick_false, C.not_bool, C.field_ptr, C.nilCheck_ptr, C.add_mk, C.sub_mk, C.mul_mk, C.eql_mk, C.neq_mk, C.lss_mk, C.leq_mk, C.gtr_mk, C.geq_mk, C.conv_mk, C.len_mk, C.ext_0, C.ext_1, C.ext3_0, C.ext3_1, C.ext3_2, C.guarded_yes, C.guarded_tf, C.guarded_ft, C.guarded_undef, Bool.not_true, Bool.not_false, Nat.zero_add, eq_self, decide_true, decide_false, show ((j : Int) < (N.length : Int)) by omega]
    refine F76.k5.to ((hR.keep hf).get jl fun g o cs e fz f hg h0 h1 hr => loadNd hg h0 h1 (C.putNd hr fun b w1 hf1 hb0 hb => ?_))
    have f1 := hf.trans hf1
    refine (hR'.keep f1).get jl' fun g o cs e fz f' hg h0 h1 hr' => loadNd hg h0 h1 (C.putNd hr' fun c w2 hf2 hc0 hc => ?_)
    have f2 := f1.trans hf2
    refine C.loadA_all (hf2.at_ hb (by simp)) rfl (C.loadA_all hc rfl (vcCall_of bodied_like (like_c (hr.keep (hf1.trans hf2)) (hr'.keep hf2) fun w3 hf3 => ?_)))
    have f3 := f2.trans hf3
    by_cases hq : N[j] = N'[j]
    · rw [decide_eq_true (show (N[j].1, N[j].2) = (N'[j].1, N'[j].2) by rw [hq])]
      simp only [C.ite_true, C.ite_false, C.pick_true, C.pick_false, C.not_bool, C.field_ptr, C.nilCheck_ptr, C.add_mk, C.sub_mk, C.mul_mk, C.eql_mk, C.neq_mk, C.lss_mk, C.leq_mk, C.gtr_mk, C.geq_mk, C.conv_mk, C.len_mk, C.ext_0, C.ext_1, C.ext3_0, C.ext3_1, C.ext3_2, C.guarded_yes, C.guarded_tf, C.guarded_ft, C.guarded_undef, Bool.not_true, Bool.not_false, Nat.zero_add, eq_self, decide_true, decide_false]
      refine F76.k9.to ?_
      simp only [C.ite_true, C.ite_false, C.pick_true, C.pick_false, C.not_bool, C.field_ptr, C.nilCheck_ptr, C.add_mk, C.sub_mk, C.mul_mk, C.eql_mk, C.neq_mk, C.lss_mk, C.leq_mk, C.gtr_mk, C.geq_mk, C.conv_mk, C.len_mk, C.ext_0, C.ext_1, C.ext3_0, C.ext3_1, C.ext3_2, C.guarded_yes, C.guarded_tf, C.guarded_ft, C.guarded_undef, Bool.not_true, Bool.not_false, Nat.zero_add, eq_self, decide_true, decide_false]
      rw [wrap64_id (n := (j : Int) + 1) (by omega), show (j : Int) + 1 = ((j + 1 : Nat) : Int) by omega]
      exact ih (j + 1) w3 (by omega) f3 (step_eq jl jl' he hq)
    · rw [decide_eq_false (show ¬ (N[j].1, N[j].2) = (N'[j].1, N'[j].2) from hq)]
      simp only [C.ite_true, C.ite_false, C.pick_true, C.pick_false, C.not_bool, C.field_ptr, C.nilCheck_ptr, C.add_mk, C.sub_mk, C.mul_mk, C.eql_mk, C.neq_mk, C.lss_mk, C.leq_mk, C.gtr_mk, C.geq_mk, C.conv_mk, C.len_mk, C.ext_0, C.ext_1, C.ext3_0, C.ext3_1, C.ext3_2, C.guarded_yes, C.guarded_tf, C.guarded_ft, C.guarded_undef, Bool.not_true, Bool.not_false, Nat.zero_add, eq_self, decide_true, decide_false]
      have := h w3 f3
      rwa [decide_eq_false (fun e => hq (by subst e; rfl))] at this
theorem EqNodes_c {nv nv' : Value} {N N' : List Nd} (hR : NodesAt w nv N) (hR' : NodesAt w nv' N') (h : ∀ w', Fr [] w w' → K (.bool (decide (N = N'))) w') : C.call Try.prog 76 #[nv, nv', .func (.func 77) #[] #[]] w K := by
  refine F76.sh (hR.len (hR'.len ?_))
  by_cases e1 : N.length = N'.length
  · have : ¬ ((N.length : Int) ≠ (N'.length : Int)) := by omega
    rw [C.neq_mk, decide_eq_false this, C.ite_false]
    exact F76.k3.to (hR.len (EqNodes_loop hR hR' e1 h N.length 0 w (by omega) (Fr.refl _ _) fun i hi => by omega))
  · rw [C.neq_mk, decide_eq_true (show (N.length : Int) ≠ (N'.length : Int) by omega), C.ite_true]
    have := h w (Fr.refl _ _)
    rwa [decide_eq_false (fun e => e1 (by rw [e]))] at this
theorem Same_c {rv nv rv' nv' : Value} {V V' : Vw} (hV : IsV w rv nv V) (hV' : IsV w rv' nv' V') (h : ∀ w', Fr [] w w' → K (.bool (decide (V = V'))) w') : C.call Try.prog 32 #[.agg #[rv, nv], .agg #[rv', nv']] w K := by
  refine F32.sh (VB.new hV fun b w1 hf1 _ hb hV1 => VB.new (hV'.keep hf1) fun c w2 hf2 _ hc hV2' => ?_)
  have hb2 := hb.keep hf2 (by simp)
  have hV2 := hV1.keep hf2
  have f2 := hf1.trans hf2
  refine hb2.f0 (hc.f0 (EqRows_c hV2.rows hV2'.rows fun w3 hf3 => ?_))
  have f3 := f2.trans hf3
  have hb3 := hb2.keep hf3 (by simp)
  have hc3 := hc.keep hf3 (by simp)
  by_cases e1 : V.1 = V'.1
  · rw [decide_eq_true e1]
    simp only [C.guarded_yes]
    refine hb3.f1 (hc3.f1 (EqNodes_c (hV2.nodes.keep hf3) (hV2'.nodes.keep hf3) fun w4 hf4 => ?_))
    simp only [C.ite_true, C.ite_false, C.pick_true, C.pick_false, C.not_bool, C.field_ptr, C.nilCheck_ptr, C.add_mk, C.sub_mk, C.mul_mk, C.eql_mk, C.neq_mk, C.lss_mk, C.leq_mk, C.gtr_mk, C.geq_mk, C.conv_mk, C.len_mk, C.ext_0, C.ext_1, C.ext3_0, C.ext3_1, C.ext3_2, C.guarded_yes, C.guarded_tf, C.guarded_ft, C.guarded_undef, Bool.not_true, Bool.not_false, Nat.zero_add, eq_self, decide_true, decide_false]
    have := h w4 (f3.trans hf4)
    rwa [show decide (V = V') = decide (V.2 = V'.2) from by
      by_cases e2 : V.2 = V'.2
      · rw [decide_eq_true e2, decide_eq_true (Prod.ext e1 e2)]
      · rw [decide_eq_false e2, decide_eq_false (fun e => e2 (by rw [e]))]] at this
  · rw [decide_eq_false e1]
    simp only [C.ite_true, C.ite_false, C.pick_true, C.pick_false, C.not_bool, C.field_ptr, C.nilCheck_ptr, C.add_mk, C.sub_mk, C.mul_mk, C.eql_mk, C.neq_mk, C.lss_mk, C.leq_mk, C.gtr_mk, C.geq_mk, C.conv_mk, C.len_mk, C.ext_0, C.ext_1, C.ext3_0, C.ext3_1, C.ext3_2, C.guarded_yes, C.guarded_tf, C.guarded_ft, C.guarded_undef, Bool.not_true, Bool.not_false, Nat.zero_add, eq_self, decide_true, decide_false]
    have := h w3 f3
    rwa [decide_eq_false (fun e => e1 (by rw [e]))] at this
/-! ### Words -/
/-- The words of the first nodes. -/
def wdN (N : List Nd) : Nat → Int
  | 0 => 0
  | j + 1 => wdN N j + 1 + ((N.getD j (0, [])).2.length : Int)
theorem wdN_succ {N : List Nd} {j : Nat} (h : j < N.length) : wdN N (j + 1) = wdN N j + 1 + (N[j].2.length : Int) := by
  show _ + 1 + _ = _
  rw [List.getD_eq_getElem?_getD, List.getElem?_eq_getElem h]
  rfl
theorem Words_loop {W : World} {nv : Value} {N : List Nd} (hN : NodesAt W nv N) (h : ∀ w', Fr [] W w' → K (.int .i64 (IntKind.i64.wrap (wdN N N.length))) w') :
    ∀ (d j : Nat) (w : World), N.length = j + d → Fr [] W w → F34.l3 K (.int .i64 (IntKind.i64.wrap (wdN N j))) nv (.int .i64 (N.length : Int)) (.int .i64 (j : Int)) w := by
  have hle := hN.le
  intro d
  induction d with
  | zero =>
    intro j w hj hf
    obtain rfl : j = N.length := by omega
    refine F34.l3.to ?_
    simp only [C.ite_true, C.ite_false, C.pick_true, C.pick_false, C.not_bool, C.field_ptr, C.nilCheck_ptr, C.add_mk, C.sub_mk, C.mul_mk, C.eql_mk, C.neq_mk, C.lss_mk, C.leq_mk, C.gtr_mk, C.geq_mk, C.conv_mk, C.len_mk, C.ext_0, C.ext_1, C.ext3_0, C.ext3_1, C.ext3_2, C.guarded_yes, C.guarded_tf, C.guarded_ft, C.guarded_undef, Bool.not_true, Bool.not_false, Nat.zero_add, eq_self, decide_true, decide_false, show ¬ ((N.length : Int) < (N.length : Int)) by omega]
    exact F34.k7.to (h w hf)
  | succ d ih =>
    intro j w hj hf
    have jl : j < N.length := by omega
    refine F34.l3.to ?_
    simp only [C.ite_true, C.ite_false, C.pick_true, C.pick_false, C.not_bool, C.field_ptr, C.nilCheck_ptr, C.add_mk, C.sub_mk, C.mul_mk, C.eql_mk, C.neq_mk, C.lss_mk, C.leq_mk, C.gtr_mk, C.geq_mk, C.conv_mk, C.len_mk, C.ext_0, C.ext_1, C.ext3_0, C.ext3_1, C.ext3_2, C.guarded_yes, C.guarded_tf, C.guarded_ft, C.guarded_undef, Bool.not_true, Bool.not_false, Nat.zero_add, eq_self, decide_true, decide_false, show ((j : Int) < (N.length : Int)) by omega]
    refine F34.k4.to ((hN.keep hf).get jl fun g o cs e fz f hg h0 h1 hr => loadNd hg h0 h1 (C.putNd hr fun b w1 hf1 hb0 hb => ?_))
    simp only [C.ite_true, C.ite_false, C.pick_true, C.pick_false, C.not_bool, C.field_ptr, C.nilCheck_ptr, C.add_mk, C.sub_mk, C.mul_mk, C.eql_mk, C.neq_mk, C.lss_mk, C.leq_mk, C.gtr_mk, C.geq_mk, C.conv_mk, C.len_mk, C.ext_0, C.ext_1, C.ext3_0, C.ext3_1, C.ext3_2, C.guarded_yes, C.guarded_tf, C.guarded_ft, C.guarded_undef, Bool.not_true, Bool.not_false, Nat.zero_add, eq_self, decide_true, decide_false]
    refine C.load1_of (v := f) hb rfl (C.len_rd hr ?_)
    rw [valC_len]
    simp only [C.ite_true, C.ite_false, C.pick_true, C.pick_false, C.not_bool, C.field_ptr, C.nilCheck_ptr, C.add_mk, C.sub_mk, C.mul_mk, C.eql_mk, C.neq_mk, C.lss_mk, C.leq_mk, C.gtr_mk, C.geq_mk, C.conv_mk, C.len_mk, C.ext_0, C.ext_1, C.ext3_0, C.ext3_1, C.ext3_2, C.guarded_yes, C.guarded_tf, C.guarded_ft, C.guarded_undef, Bool.not_true, Bool.not_false, Nat.zero_add, eq_self, decide_true, decide_false]
    refine F34.k6.to ?_
    simp only [C.ite_true, C.ite_false, C.pick_true, C.pick_false, C.not_bool, C.field_ptr, C.nilCheck_ptr, C.add_mk, C.sub_mk, C.mul_mk, C.eql_mk, C.neq_mk, C.lss_mk, C.leq_mk, C.gtr_mk, C.geq_mk, C.conv_mk, C.len_mk, C.ext_0, C.ext_1, C.ext3_0, C.ext3_1, C.ext3_2, C.guarded_yes, C.guarded_tf, C.guarded_ft, C.guarded_undef, Bool.not_true, Bool.not_false, Nat.zero_add, eq_self, decide_true, decide_false]
    rw [wrap64_id (n := (j : Int) + 1) (by omega), show (j : Int) + 1 = ((j + 1 : Nat) : Int) by omega]
    have := ih (j + 1) w1 (by omega) (hf.trans hf1)
    rw [wdN_succ jl] at this
    have e : IntKind.i64.wrap (IntKind.i64.wrap (wdN N j) + IntKind.i64.wrap (1 + (N[j].2.length : Int))) = IntKind.i64.wrap (wdN N j + 1 + (N[j].2.length : Int)) := by
      simp only [IntKind.wrap_i64]
      omega
    rw [e]
    exact this
theorem Words_c {rv nv : Value} {V : Vw} (hV : IsV w rv nv V) (h : ∀ w', Fr [] w w' → K (.int .i64 (IntKind.i64.wrap (wdN V.2 V.2.length))) w') : C.call Try.prog 34 #[.agg #[rv, nv]] w K := by
  refine F34.sh (VB.new hV fun b w1 hf1 _ hb hV1 => hb.f1 (hV1.nodes.len ?_))
  have := Words_loop hV1.nodes (fun w' hf => h w' (hf1.trans hf)) V.2.length 0 w1 (by omega) (Fr.refl _ _)
  rwa [show IntKind.i64.wrap (wdN V.2 0) = 0 from by simp [wdN, IntKind.wrap_i64]] at this
end
end Go.Proofs.YtfdpmgddlaamcaaV
