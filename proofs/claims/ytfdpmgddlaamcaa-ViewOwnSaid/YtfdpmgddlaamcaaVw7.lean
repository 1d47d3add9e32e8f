/- What is wrong with a view, by the statement: what the call comes to. -/
import Derived.Test.YtfdpmgddlaamcaaVw6
namespace Go.Proofs.YtfdpmgddlaamcaaV
open Go Go.Proofs Go.RowKit
set_option linter.unusedVariables false
set_option linter.unusedSimpArgs false
set_option maxRecDepth 10000
/-- Serials that rise. -/
def Ris (N : List Nd) : Prop := ∀ (k : Nat) (a c : Nd), N[k]? = some a → N[k + 1]? = some c → a.1 < c.1
def OddVa (x : Va) : Prop := x.1 < 0 ∨ x.1 > 2 ∨ (x.1 = 0 ∧ x.2 ≠ 0)
def LostVa (N : List Nd) (x : Va) : Prop := x.1 = 2 ∧ plcI N x.2 < 0
open Classical in
noncomputable def chkI (V : Vw) : Int := if ¬ Ris V.2 then 9 else if ∃ x ∈ allOf V, OddVa x then 4 else if ∃ x ∈ allOf V, LostVa V.2 x then 14 else if false ∈ metL V then 10 else 0
theorem chkI_9 {V : Vw} (h : ¬ Ris V.2) : chkI V = 9 := by unfold chkI; rw [if_pos h]
theorem chkI_4 {V : Vw} (h : Ris V.2) (h1 : ∃ x ∈ allOf V, OddVa x) : chkI V = 4 := by unfold chkI; rw [if_neg (fun c => c h), if_pos h1]
theorem chkI_14 {V : Vw} (h : Ris V.2) (h1 : ¬ ∃ x ∈ allOf V, OddVa x) (h2 : ∃ x ∈ allOf V, LostVa V.2 x) : chkI V = 14 := by unfold chkI; rw [if_neg (fun c => c h), if_neg h1, if_pos h2]
theorem chkI_10 {V : Vw} (h : Ris V.2) (h1 : ¬ ∃ x ∈ allOf V, OddVa x) (h2 : ¬ ∃ x ∈ allOf V, LostVa V.2 x) (h3 : false ∈ metL V) : chkI V = 10 := by unfold chkI; rw [if_neg (fun c => c h), if_neg h1, if_neg h2, if_pos h3]
theorem chkI_0 {V : Vw} (h : Ris V.2) (h1 : ¬ ∃ x ∈ allOf V, OddVa x) (h2 : ¬ ∃ x ∈ allOf V, LostVa V.2 x) (h3 : ¬ false ∈ metL V) : chkI V = 0 := by unfold chkI; rw [if_neg (fun c => c h), if_neg h1, if_neg h2, if_neg h3]
theorem none_succ {α : Type} {p : α → Prop} {l : List α} {i : Nat} (h : i < l.length) (hp : ¬ p l[i]) (hi : ∀ j (h : j < l.length), j < i → ¬ p l[j]) : ∀ j (h : j < l.length), j < i + 1 → ¬ p l[j] := fun j hj hji => by
  by_cases e : j = i
  · subst e; exact hp
  · exact hi j hj (by omega)
theorem none_all {α : Type} {p : α → Prop} {l : List α} {i : Nat} (h : l.length ≤ i) (hi : ∀ j (h : j < l.length), j < i → ¬ p l[j]) : ¬ ∃ x ∈ l, p x := fun ⟨x, hx, hp⟩ => by
  obtain ⟨j, hj, rfl⟩ := List.getElem_of_mem hx
  exact hi j hj (by omega) hp
section
variable {K : VK} {w : World}
theorem lc_ris {W0 : World} {rv nv : Value} {V : Vw} {b : Nat} (hV : IsV W0 rv nv V) (h9 : ∀ w', Fr [] W0 w' → ¬ Ris V.2 → K (.int .i64 9) w') (h : ∀ w', Fr [] W0 w' → VB w' b rv nv → Ris V.2 → F27.k6 K (.pointer (some ⟨b, 0, none⟩)) w') :
    ∀ (d j : Nat) (w : World), V.2.length ≤ j + 1 + d → Fr [] W0 w → VB w b rv nv → (∀ k a c, k < j → V.2[k]? = some a → V.2[k + 1]? = some c → a.1 < c.1) → F27.l2 K (.pointer (some ⟨b, 0, none⟩)) (.int .i64 ((j + 1 : Nat) : Int)) w := by
  have hle := hV.nodes.le
  have fin : ∀ (j : Nat) (w : World), V.2.length ≤ j + 1 → Fr [] W0 w → VB w b rv nv → (∀ k a c, k < j → V.2[k]? = some a → V.2[k + 1]? = some c → a.1 < c.1) → F27.l2 K (.pointer (some ⟨b, 0, none⟩)) (.int .i64 ((j + 1 : Nat) : Int)) w := fun j w hj hf hb hr => by
    refine F27.l2.to (hb.f1 (hV.nodes.len ?_))
    simp only [C.ite_true, C.ite_false, C.pick_true, C.pick_false, C.not_bool, C.field_ptr, C.nilCheck_ptr, C.add_mk, C.sub_mk, C.mul_mk, C.eql_mk, C.neq_mk, C.lss_mk, C.leq_mk, C.gtr_mk, C.geq_mk, C.conv_mk, C.len_mk, C.ext_0, C.ext_1, C.ext3_0, C.ext3_1, C.ext3_2, C.guarded_yes, C.guarded_tf, C.guarded_ft, C.guarded_undef, Bool.not_true, Bool.not_false, Nat.zero_add, eq_self, decide_true, decide_false, show ¬ (((j + 1 : Nat) : Int) < (V.2.length : Int)) by omega]
    refine h w hf hb fun k a c ha hc => hr k a c ?_ ha hc
    have := (List.getElem?_eq_some_iff.1 hc).1
    omega
  intro d
  induction d with
  | zero => exact fun j w hj hf hb hr => fin j w (by omega) hf hb hr
  | succ d ih =>
    intro j w hj hf hb hr
    by_cases hjl : V.2.length ≤ j + 1
    · exact fin j w hjl hf hb hr
    have jl : j + 1 < V.2.length := by omega
    refine F27.l2.to (hb.f1 (hV.nodes.len ?_))
    simp only [C.ite_true, C.ite_false, C.pick_true, C.pick_false, C.not_bool, C.field_ptr, C.nilCheck_ptr, C.add_mk, C.sub_mk, C.mul_mk, C.eql_mk, C.neq_mk, C.lss_mk, C.leq_mk, C.gtr_mk, C.geq_mk, C.conv_mk, C.len_mk, C.ext_0, C.ext_1, C.ext3_0, C.ext3_1, C.ext3_2, C.guarded_yes, C.guarded_tf, C.guarded_ft, C.guarded_undef, Bool.not_true, Bool.not_false, Nat.zero_add, eq_self, decide_true, decide_false, show (((j + 1 : Nat) : Int) < (V.2.length : Int)) by omega]
    refine F27.k4.to (C.draw_of (fun w' => Fr [] w w') fun w1 hf1 he1 => ⟨hf1, ?_⟩)
    have hV' := hV.keep hf
    simp only [C.ite_true, C.ite_false, C.pick_true, C.pick_false, C.not_bool, C.field_ptr, C.nilCheck_ptr, C.add_mk, C.sub_mk, C.mul_mk, C.eql_mk, C.neq_mk, C.lss_mk, C.leq_mk, C.gtr_mk, C.geq_mk, C.conv_mk, C.len_mk, C.ext_0, C.ext_1, C.ext3_0, C.ext3_1, C.ext3_2, C.guarded_yes, C.guarded_tf, C.guarded_ft, C.guarded_undef, Bool.not_true, Bool.not_false, Nat.zero_add, eq_self, decide_true, decide_false]
    rw [wrap64_id (n := ((j + 1 : Nat) : Int) - 1) (by omega), show ((j + 1 : Nat) : Int) - 1 = (j : Int) by omega]
    refine hb.s rfl (hV'.nodes.getS hf1 jl fun g o f hr1 hs0 hs1 => ?_)
    simp only [C.ite_true, C.ite_false, C.pick_true, C.pick_false, C.not_bool, C.field_ptr, C.nilCheck_ptr, C.add_mk, C.sub_mk, C.mul_mk, C.eql_mk, C.neq_mk, C.lss_mk, C.leq_mk, C.gtr_mk, C.geq_mk, C.conv_mk, C.len_mk, C.ext_0, C.ext_1, C.ext3_0, C.ext3_1, C.ext3_2, C.guarded_yes, C.guarded_tf, C.guarded_ft, C.guarded_undef, Bool.not_true, Bool.not_false, Nat.zero_add, eq_self, decide_true, decide_false]
    refine C.load1S_of hs0 (hb.s rfl (hV'.nodes.getS hf1 (i := j) (by omega) fun g' o' f' hr' hs0' hs1' => ?_))
    simp only [C.ite_true, C.ite_false, C.pick_true, C.pick_false, C.not_bool, C.field_ptr, C.nilCheck_ptr, C.add_mk, C.sub_mk, C.mul_mk, C.eql_mk, C.neq_mk, C.lss_mk, C.leq_mk, C.gtr_mk, C.geq_mk, C.conv_mk, C.len_mk, C.ext_0, C.ext_1, C.ext3_0, C.ext3_1, C.ext3_2, C.guarded_yes, C.guarded_tf, C.guarded_ft, C.guarded_undef, Bool.not_true, Bool.not_false, Nat.zero_add, eq_self, decide_true, decide_false]
    refine C.load1S_of hs0' ?_
    have f1 := hf.trans hf1
    by_cases hlt : V.2[j + 1].1 ≤ V.2[j].1
    · simp only [C.ite_true, C.ite_false, C.pick_true, C.pick_false, C.not_bool, C.field_ptr, C.nilCheck_ptr, C.add_mk, C.sub_mk, C.mul_mk, C.eql_mk, C.neq_mk, C.lss_mk, C.leq_mk, C.gtr_mk, C.geq_mk, C.conv_mk, C.len_mk, C.ext_0, C.ext_1, C.ext3_0, C.ext3_1, C.ext3_2, C.guarded_yes, C.guarded_tf, C.guarded_ft, C.guarded_undef, Bool.not_true, Bool.not_false, Nat.zero_add, eq_self, decide_true, decide_false, hlt]
      refine h9 w1 f1 fun hR => ?_
      have := hR j V.2[j] V.2[j + 1] (List.getElem?_eq_getElem (by omega)) (List.getElem?_eq_getElem jl)
      omega
    · simp only [C.ite_true, C.ite_false, C.pick_true, C.pick_false, C.not_bool, C.field_ptr, C.nilCheck_ptr, C.add_mk, C.sub_mk, C.mul_mk, C.eql_mk, C.neq_mk, C.lss_mk, C.leq_mk, C.gtr_mk, C.geq_mk, C.conv_mk, C.len_mk, C.ext_0, C.ext_1, C.ext3_0, C.ext3_1, C.ext3_2, C.guarded_yes, C.guarded_tf, C.guarded_ft, C.guarded_undef, Bool.not_true, Bool.not_false, Nat.zero_add, eq_self, decide_true, decide_false, hlt]
      refine F27.k3.to ?_
      simp only [C.ite_true, C.ite_false, C.pick_true, C.pick_false, C.not_bool, C.field_ptr, C.nilCheck_ptr, C.add_mk, C.sub_mk, C.mul_mk, C.eql_mk, C.neq_mk, C.lss_mk, C.leq_mk, C.gtr_mk, C.geq_mk, C.conv_mk, C.len_mk, C.ext_0, C.ext_1, C.ext3_0, C.ext3_1, C.ext3_2, C.guarded_yes, C.guarded_tf, C.guarded_ft, C.guarded_undef, Bool.not_true, Bool.not_false, Nat.zero_add, eq_self, decide_true, decide_false]
      rw [wrap64_id (n := ((j + 1 : Nat) : Int) + 1) (by omega), show ((j + 1 : Nat) : Int) + 1 = ((j + 1 + 1 : Nat) : Int) by omega]
      refine ih (j + 1) w1 (by omega) f1 (hb.keep hf1 (by simp)) fun k a c hk ha hc => ?_
      by_cases e : k = j
      · subst e
        rw [List.getElem?_eq_getElem (by omega)] at ha hc
        obtain rfl := Option.some.inj ha
        obtain rfl := Option.some.inj hc
        omega
      · exact hr k a c (by omega) ha hc
theorem pc_ris {W0 : World} {rv nv : Value} {V : Vw} {b : Nat} (hV : IsV W0 rv nv V) (h9 : ∀ w', Fr [] W0 w' → ¬ Ris V.2 → K (.int .i64 9) w') (h : ∀ w', Fr [] W0 w' → VB w' b rv nv → Ris V.2 → F26.k6 K (.pointer (some ⟨b, 0, none⟩)) w') :
    ∀ (d j : Nat) (w : World), V.2.length ≤ j + 1 + d → Fr [] W0 w → VB w b rv nv → (∀ k a c, k < j → V.2[k]? = some a → V.2[k + 1]? = some c → a.1 < c.1) → F26.l2 K (.pointer (some ⟨b, 0, none⟩)) (.int .i64 ((j + 1 : Nat) : Int)) w := by
  have hle := hV.nodes.le
  have fin : ∀ (j : Nat) (w : World), V.2.length ≤ j + 1 → Fr [] W0 w → VB w b rv nv → (∀ k a c, k < j → V.2[k]? = some a → V.2[k + 1]? = some c → a.1 < c.1) → F26.l2 K (.pointer (some ⟨b, 0, none⟩)) (.int .i64 ((j + 1 : Nat) : Int)) w := fun j w hj hf hb hr => by
    refine F26.l2.to (hb.f1 (hV.nodes.len ?_))
    simp only [C.ite_true, C.ite_false, C.pick_true, C.pick_false, C.not_bool, C.field_ptr, C.nilCheck_ptr, C.add_mk, C.sub_mk, C.mul_mk, C.eql_mk, C.neq_mk, C.lss_mk, C.leq_mk, C.gtr_mk, C.geq_mk, C.conv_mk, C.len_mk, C.ext_0, C.ext_1, C.ext3_0, C.ext3_1, C.ext3_2, C.guarded_yes, C.guarded_tf, C.guarded_ft, C.guarded_undef, Bool.not_true, Bool.not_false, Nat.zero_add, eq_self, decide_true, decide_false, show ¬ (((j + 1 : Nat) : Int) < (V.2.length : Int)) by omega]
    refine h w hf hb fun k a c ha hc => hr k a c ?_ ha hc
    have := (List.getElem?_eq_some_iff.1 hc).1
    omega
  intro d
  induction d with
  | zero => exact fun j w hj hf hb hr => fin j w (by omega) hf hb hr
  | succ d ih =>
    intro j w hj hf hb hr
    by_cases hjl : V.2.length ≤ j + 1
    · exact fin j w hjl hf hb hr
    have jl : j + 1 < V.2.length := by omega
    refine F26.l2.to (hb.f1 (hV.nodes.len ?_))
    simp only [C.ite_true, C.ite_false, C.pick_true, C.pick_false, C.not_bool, C.field_ptr, C.nilCheck_ptr, C.add_mk, C.sub_mk, C.mul_mk, C.eql_mk, C.neq_mk, C.lss_mk, C.leq_mk, C.gtr_mk, C.geq_mk, C.conv_mk, C.len_mk, C.ext_0, C.ext_1, C.ext3_0, C.ext3_1, C.ext3_2, C.guarded_yes, C.guarded_tf, C.guarded_ft, C.guarded_undef, Bool.not_true, Bool.not_false, Nat.zero_add, eq_self, decide_true, decide_false, show (((j + 1 : Nat) : Int) < (V.2.length : Int)) by omega]
    refine F26.k4.to (C.draw_of (fun w' => Fr [] w w') fun w1 hf1 he1 => ⟨hf1, ?_⟩)
    have hV' := hV.keep hf
    simp only [C.ite_true, C.ite_false, C.pick_true, C.pick_false, C.not_bool, C.field_ptr, C.nilCheck_ptr, C.add_mk, C.sub_mk, C.mul_mk, C.eql_mk, C.neq_mk, C.lss_mk, C.leq_mk, C.gtr_mk, C.geq_mk, C.conv_mk, C.len_mk, C.ext_0, C.ext_1, C.ext3_0, C.ext3_1, C.ext3_2, C.guarded_yes, C.guarded_tf, C.guarded_ft, C.guarded_undef, Bool.not_true, Bool.not_false, Nat.zero_add, eq_self, decide_true, decide_false]
    rw [wrap64_id (n := ((j + 1 : Nat) : Int) - 1) (by omega), show ((j + 1 : Nat) : Int) - 1 = (j : Int) by omega]
    refine hb.s rfl (hV'.nodes.getS hf1 jl fun g o f hr1 hs0 hs1 => ?_)
    simp only [C.ite_true, C.ite_false, C.pick_true, C.pick_false, C.not_bool, C.field_ptr, C.nilCheck_ptr, C.add_mk, C.sub_mk, C.mul_mk, C.eql_mk, C.neq_mk, C.lss_mk, C.leq_mk, C.gtr_mk, C.geq_mk, C.conv_mk, C.len_mk, C.ext_0, C.ext_1, C.ext3_0, C.ext3_1, C.ext3_2, C.guarded_yes, C.guarded_tf, C.guarded_ft, C.guarded_undef, Bool.not_true, Bool.not_false, Nat.zero_add, eq_self, decide_true, decide_false]
    refine C.load1S_of hs0 (hb.s rfl (hV'.nodes.getS hf1 (i := j) (by omega) fun g' o' f' hr' hs0' hs1' => ?_))
    simp only [C.ite_true, C.ite_false, C.pick_true, C.pick_false, C.not_bool, C.field_ptr, C.nilCheck_ptr, C.add_mk, C.sub_mk, C.mul_mk, C.eql_mk, C.neq_mk, C.lss_mk, C.leq_mk, C.gtr_mk, C.geq_mk, C.conv_mk, C.len_mk, C.ext_0, C.ext_1, C.ext3_0, C.ext3_1, C.ext3_2, C.guarded_yes, C.guarded_tf, C.guarded_ft, C.guarded_undef, Bool.not_true, Bool.not_false, Nat.zero_add, eq_self, decide_true, decide_false]
    refine C.load1S_of hs0' ?_
    have f1 := hf.trans hf1
    by_cases hlt : V.2[j + 1].1 ≤ V.2[j].1
    · simp only [C.ite_true, C.ite_false, C.pick_true, C.pick_false, C.not_bool, C.field_ptr, C.nilCheck_ptr, C.add_mk, C.sub_mk, C.mul_mk, C.eql_mk, C.neq_mk, C.lss_mk, C.leq_mk, C.gtr_mk, C.geq_mk, C.conv_mk, C.len_mk, C.ext_0, C.ext_1, C.ext3_0, C.ext3_1, C.ext3_2, C.guarded_yes, C.guarded_tf, C.guarded_ft, C.guarded_undef, Bool.not_true, Bool.not_false, Nat.zero_add, eq_self, decide_true, decide_false, hlt]
      refine h9 w1 f1 fun hR => ?_
      have := hR j V.2[j] V.2[j + 1] (List.getElem?_eq_getElem (by omega)) (List.getElem?_eq_getElem jl)
      omega
    · simp only [C.ite_true, C.ite_false, C.pick_true, C.pick_false, C.not_bool, C.field_ptr, C.nilCheck_ptr, C.add_mk, C.sub_mk, C.mul_mk, C.eql_mk, C.neq_mk, C.lss_mk, C.leq_mk, C.gtr_mk, C.geq_mk, C.conv_mk, C.len_mk, C.ext_0, C.ext_1, C.ext3_0, C.ext3_1, C.ext3_2, C.guarded_yes, C.guarded_tf, C.guarded_ft, C.guarded_undef, Bool.not_true, Bool.not_false, Nat.zero_add, eq_self, decide_true, decide_false, hlt]
      refine F26.k3.to ?_
      simp only [C.ite_true, C.ite_false, C.pick_true, C.pick_false, C.not_bool, C.field_ptr, C.nilCheck_ptr, C.add_mk, C.sub_mk, C.mul_mk, C.eql_mk, C.neq_mk, C.lss_mk, C.leq_mk, C.gtr_mk, C.geq_mk, C.conv_mk, C.len_mk, C.ext_0, C.ext_1, C.ext3_0, C.ext3_1, C.ext3_2, C.guarded_yes, C.guarded_tf, C.guarded_ft, C.guarded_undef, Bool.not_true, Bool.not_false, Nat.zero_add, eq_self, decide_true, decide_false]
      rw [wrap64_id (n := ((j + 1 : Nat) : Int) + 1) (by omega), show ((j + 1 : Nat) : Int) + 1 = ((j + 1 + 1 : Nat) : Int) by omega]
      refine ih (j + 1) w1 (by omega) f1 (hb.keep hf1 (by simp)) fun k a c hk ha hc => ?_
      by_cases e : k = j
      · subst e
        rw [List.getElem?_eq_getElem (by omega)] at ha hc
        obtain rfl := Option.some.inj ha
        obtain rfl := Option.some.inj hc
        omega
      · exact hr k a c (by omega) ha hc

/-- The last look: is one not met? -/
theorem lc_met {W0 : World} {y : Value} {V : Vw} {m : List Bool} (ho : RdS W0 y 1 (boolC m)) (h10 : ∀ w', Fr [] W0 w' → false ∈ m → K (.int .i64 10) w') (h0 : ∀ w', Fr [] W0 w' → ¬ false ∈ m → K (.int .i64 0) w') :
    ∀ (d j : Nat) (w : World), m.length = j + d → Fr [] W0 w → (∀ k (h : k < m.length), k < j → ¬ (fun b => false = b) m[k]) → F27.l19 K y (.int .i64 (j : Int)) w := by
  have hle := ho.le
  rw [boolC_len] at hle
  intro d
  induction d with
  | zero =>
    intro j w hj hf hn
    refine F27.l19.to (C.len_rd ho ?_)
    rw [boolC_len]
    simp only [C.ite_true, C.ite_false, C.pick_true, C.pick_false, C.not_bool, C.field_ptr, C.nilCheck_ptr, C.add_mk, C.sub_mk, C.mul_mk, C.eql_mk, C.neq_mk, C.lss_mk, C.leq_mk, C.gtr_mk, C.geq_mk, C.conv_mk, C.len_mk, C.ext_0, C.ext_1, C.ext3_0, C.ext3_1, C.ext3_2, C.guarded_yes, C.guarded_tf, C.guarded_ft, C.guarded_undef, Bool.not_true, Bool.not_false, Nat.zero_add, eq_self, decide_true, decide_false, show ¬ ((j : Int) < (m.length : Int)) by omega]
    refine F27.k23.to (h0 w hf fun c => ?_)
    exact none_all (p := fun b => false = b) (by omega) hn ⟨false, c, rfl⟩
  | succ d ih =>
    intro j w hj hf hn
    have jl : j < m.length := by omega
    refine F27.l19.to (C.len_rd ho ?_)
    rw [boolC_len]
    simp only [C.ite_true, C.ite_false, C.pick_true, C.pick_false, C.not_bool, C.field_ptr, C.nilCheck_ptr, C.add_mk, C.sub_mk, C.mul_mk, C.eql_mk, C.neq_mk, C.lss_mk, C.leq_mk, C.gtr_mk, C.geq_mk, C.conv_mk, C.len_mk, C.ext_0, C.ext_1, C.ext3_0, C.ext3_1, C.ext3_2, C.guarded_yes, C.guarded_tf, C.guarded_ft, C.guarded_undef, Bool.not_true, Bool.not_false, Nat.zero_add, eq_self, decide_true, decide_false, show ((j : Int) < (m.length : Int)) by omega]
    refine F27.k21.to (C.idx_rd (ho.keep hf) (by omega) (by rw [Int.toNat_natCast]; exact boolC_get jl) fun g o cs e fz hg _ hc => ?_)
    refine C.load1_of (v := .bool m[j]) hg (by simpa using hc 0 (by simp)) ?_
    cases hm : m[j] with
    | false =>
      simp only [C.ite_true, C.ite_false, C.pick_true, C.pick_false, C.not_bool, C.field_ptr, C.nilCheck_ptr, C.add_mk, C.sub_mk, C.mul_mk, C.eql_mk, C.neq_mk, C.lss_mk, C.leq_mk, C.gtr_mk, C.geq_mk, C.conv_mk, C.len_mk, C.ext_0, C.ext_1, C.ext3_0, C.ext3_1, C.ext3_2, C.guarded_yes, C.guarded_tf, C.guarded_ft, C.guarded_undef, Bool.not_true, Bool.not_false, Nat.zero_add, eq_self, decide_true, decide_false]
      exact h10 w hf (by rw [← hm]; exact List.getElem_mem jl)
    | true =>
      simp only [C.ite_true, C.ite_false, C.pick_true, C.pick_false, C.not_bool, C.field_ptr, C.nilCheck_ptr, C.add_mk, C.sub_mk, C.mul_mk, C.eql_mk, C.neq_mk, C.lss_mk, C.leq_mk, C.gtr_mk, C.geq_mk, C.conv_mk, C.len_mk, C.ext_0, C.ext_1, C.ext3_0, C.ext3_1, C.ext3_2, C.guarded_yes, C.guarded_tf, C.guarded_ft, C.guarded_undef, Bool.not_true, Bool.not_false, Nat.zero_add, eq_self, decide_true, decide_false]
      refine F27.k20.to ?_
      simp only [C.ite_true, C.ite_false, C.pick_true, C.pick_false, C.not_bool, C.field_ptr, C.nilCheck_ptr, C.add_mk, C.sub_mk, C.mul_mk, C.eql_mk, C.neq_mk, C.lss_mk, C.leq_mk, C.gtr_mk, C.geq_mk, C.conv_mk, C.len_mk, C.ext_0, C.ext_1, C.ext3_0, C.ext3_1, C.ext3_2, C.guarded_yes, C.guarded_tf, C.guarded_ft, C.guarded_undef, Bool.not_true, Bool.not_false, Nat.zero_add, eq_self, decide_true, decide_false]
      rw [wrap64_id (n := (j : Int) + 1) (by omega), show (j : Int) + 1 = ((j + 1 : Nat) : Int) by omega]
      exact ih (j + 1) w (by omega) hf (none_succ (p := fun b => false = b) jl (by rw [hm]; simp) hn)
/-- The third look: is a reference lost? -/
theorem lc_lost {W0 : World} {rv nv y : Value} {V : Vw} {b : Nat} {l : List Va} (hV : IsV W0 rv nv V) (ho : RdS W0 y 2 (valC l)) (hb : VB W0 b rv nv) (h14 : ∀ w', Fr [] W0 w' → (∃ x ∈ l, LostVa V.2 x) → K (.int .i64 14) w') (h : ∀ w', Fr [] W0 w' → (¬ ∃ x ∈ l, LostVa V.2 x) → F27.k17 K (.pointer (some ⟨b, 0, none⟩)) w') :
    ∀ (d j : Nat) (w : World), l.length = j + d → Fr [] W0 w → (∀ k (h : k < l.length), k < j → ¬ LostVa V.2 l[k]) → F27.l13 K (.pointer (some ⟨b, 0, none⟩)) y (.int .i64 (j : Int)) w := by
  have hle := ho.le
  rw [valC_len] at hle
  intro d
  induction d with
  | zero =>
    intro j w hj hf hn
    refine F27.l13.to (C.len_rd ho ?_)
    rw [valC_len]
    simp only [C.ite_true, C.ite_false, C.pick_true, C.pick_false, C.not_bool, C.field_ptr, C.nilCheck_ptr, C.add_mk, C.sub_mk, C.mul_mk, C.eql_mk, C.neq_mk, C.lss_mk, C.leq_mk, C.gtr_mk, C.geq_mk, C.conv_mk, C.len_mk, C.ext_0, C.ext_1, C.ext3_0, C.ext3_1, C.ext3_2, C.guarded_yes, C.guarded_tf, C.guarded_ft, C.guarded_undef, Bool.not_true, Bool.not_false, Nat.zero_add, eq_self, decide_true, decide_false, show ¬ ((j : Int) < (l.length : Int)) by omega]
    exact h w hf (none_all (by omega) hn)
  | succ d ih =>
    intro j w hj hf hn
    have jl : j < l.length := by omega
    refine F27.l13.to (C.len_rd ho ?_)
    rw [valC_len]
    simp only [C.ite_true, C.ite_false, C.pick_true, C.pick_false, C.not_bool, C.field_ptr, C.nilCheck_ptr, C.add_mk, C.sub_mk, C.mul_mk, C.eql_mk, C.neq_mk, C.lss_mk, C.leq_mk, C.gtr_mk, C.geq_mk, C.conv_mk, C.len_mk, C.ext_0, C.ext_1, C.ext3_0, C.ext3_1, C.ext3_2, C.guarded_yes, C.guarded_tf, C.guarded_ft, C.guarded_undef, Bool.not_true, Bool.not_false, Nat.zero_add, eq_self, decide_true, decide_false, show ((j : Int) < (l.length : Int)) by omega]
    refine F27.k15.to (C.draw_of (fun w' => Fr [] w w') fun w1 hf1 he1 => ⟨hf1, ?_⟩)
    have nx : ∀ w', Fr [] W0 w' → ¬ LostVa V.2 l[j] → F27.k14 K (.pointer (some ⟨b, 0, none⟩)) y (.int .i64 (j : Int)) w' := fun w' hw hp => by
      refine F27.k14.to ?_
      simp only [C.ite_true, C.ite_false, C.pick_true, C.pick_false, C.not_bool, C.field_ptr, C.nilCheck_ptr, C.add_mk, C.sub_mk, C.mul_mk, C.eql_mk, C.neq_mk, C.lss_mk, C.leq_mk, C.gtr_mk, C.geq_mk, C.conv_mk, C.len_mk, C.ext_0, C.ext_1, C.ext3_0, C.ext3_1, C.ext3_2, C.guarded_yes, C.guarded_tf, C.guarded_ft, C.guarded_undef, Bool.not_true, Bool.not_false, Nat.zero_add, eq_self, decide_true, decide_false]
      rw [wrap64_id (n := (j : Int) + 1) (by omega), show (j : Int) + 1 = ((j + 1 : Nat) : Int) by omega]
      exact ih (j + 1) w' (by omega) hw (none_succ jl hp hn)
    have f1 := hf.trans hf1
    refine C.idx_rdS (S := fun w' => Fr [] w w') (fun w' hw => (ho.keep hf).keep hw) hf1 (by omega) (by rw [Int.toNat_natCast]; exact valC_get jl) fun g o _ hs => ?_
    simp only [C.ite_true, C.ite_false, C.pick_true, C.pick_false, C.not_bool, C.field_ptr, C.nilCheck_ptr, C.add_mk, C.sub_mk, C.mul_mk, C.eql_mk, C.neq_mk, C.lss_mk, C.leq_mk, C.gtr_mk, C.geq_mk, C.conv_mk, C.len_mk, C.ext_0, C.ext_1, C.ext3_0, C.ext3_1, C.ext3_2, C.guarded_yes, C.guarded_tf, C.guarded_ft, C.guarded_undef, Bool.not_true, Bool.not_false, Nat.zero_add, eq_self, decide_true, decide_false]
    refine C.load1S_of (v := .int .i64 l[j].1) (fun w' hw => by obtain ⟨cs, e, fz, x, y⟩ := hs w' hw; exact ⟨cs, e, fz, x, by simpa using y 0 (by omega)⟩) ?_
    by_cases h2 : l[j].1 = 2
    · simp only [C.ite_true, C.ite_false, C.pick_true, C.pick_false, C.not_bool, C.field_ptr, C.nilCheck_ptr, C.add_mk, C.sub_mk, C.mul_mk, C.eql_mk, C.neq_mk, C.lss_mk, C.leq_mk, C.gtr_mk, C.geq_mk, C.conv_mk, C.len_mk, C.ext_0, C.ext_1, C.ext3_0, C.ext3_1, C.ext3_2, C.guarded_yes, C.guarded_tf, C.guarded_ft, C.guarded_undef, Bool.not_true, Bool.not_false, Nat.zero_add, eq_self, decide_true, decide_false, h2]
      refine C.idx_rdS (S := fun w' => Fr [] w w') (fun w' hw => (ho.keep hf).keep hw) hf1 (by omega) (by rw [Int.toNat_natCast]; exact valC_get jl) fun g o _ hs => ?_
      simp only [C.ite_true, C.ite_false, C.pick_true, C.pick_false, C.not_bool, C.field_ptr, C.nilCheck_ptr, C.add_mk, C.sub_mk, C.mul_mk, C.eql_mk, C.neq_mk, C.lss_mk, C.leq_mk, C.gtr_mk, C.geq_mk, C.conv_mk, C.len_mk, C.ext_0, C.ext_1, C.ext3_0, C.ext3_1, C.ext3_2, C.guarded_yes, C.guarded_tf, C.guarded_ft, C.guarded_undef, Bool.not_true, Bool.not_false, Nat.zero_add, eq_self, decide_true, decide_false]
      refine C.loadAS_of (vs := [rv, nv]) (fun w' hw => ⟨_, _, _, (hb.keep hf (by simp)).keep hw (by simp), by simp, by simp⟩) ?_
      refine C.load1S_of (v := .int .i64 l[j].2) (fun w' hw => by obtain ⟨cs, e, fz, x, y⟩ := hs w' hw; exact ⟨cs, e, fz, x, by simpa using y 1 (by omega)⟩) ?_
      refine ⟨find_c (hV.keep f1) fun w2 hf2 => ⟨hf1.trans hf2, ?_⟩, trivial⟩
      by_cases hneg : plcI V.2 l[j].2 < 0
      · simp only [C.ite_true, C.ite_false, C.pick_true, C.pick_false, C.not_bool, C.field_ptr, C.nilCheck_ptr, C.add_mk, C.sub_mk, C.mul_mk, C.eql_mk, C.neq_mk, C.lss_mk, C.leq_mk, C.gtr_mk, C.geq_mk, C.conv_mk, C.len_mk, C.ext_0, C.ext_1, C.ext3_0, C.ext3_1, C.ext3_2, C.guarded_yes, C.guarded_tf, C.guarded_ft, C.guarded_undef, Bool.not_true, Bool.not_false, Nat.zero_add, eq_self, decide_true, decide_false, hneg]
        exact h14 w2 (f1.trans hf2) ⟨_, List.getElem_mem jl, h2, hneg⟩
      · simp only [C.ite_true, C.ite_false, C.pick_true, C.pick_false, C.not_bool, C.field_ptr, C.nilCheck_ptr, C.add_mk, C.sub_mk, C.mul_mk, C.eql_mk, C.neq_mk, C.lss_mk, C.leq_mk, C.gtr_mk, C.geq_mk, C.conv_mk, C.len_mk, C.ext_0, C.ext_1, C.ext3_0, C.ext3_1, C.ext3_2, C.guarded_yes, C.guarded_tf, C.guarded_ft, C.guarded_undef, Bool.not_true, Bool.not_false, Nat.zero_add, eq_self, decide_true, decide_false, hneg]
        exact nx w2 (f1.trans hf2) fun c => hneg c.2
    · simp only [C.ite_true, C.ite_false, C.pick_true, C.pick_false, C.not_bool, C.field_ptr, C.nilCheck_ptr, C.add_mk, C.sub_mk, C.mul_mk, C.eql_mk, C.neq_mk, C.lss_mk, C.leq_mk, C.gtr_mk, C.geq_mk, C.conv_mk, C.len_mk, C.ext_0, C.ext_1, C.ext3_0, C.ext3_1, C.ext3_2, C.guarded_yes, C.guarded_tf, C.guarded_ft, C.guarded_undef, Bool.not_true, Bool.not_false, Nat.zero_add, eq_self, decide_true, decide_false, h2]
      exact ⟨⟨hf1, nx w1 f1 fun c => h2 c.1⟩, trivial⟩
/-- The second look: is one no value? -/
theorem lc_odd {W0 : World} {y : Value} {b : Nat} {l : List Va} (ho : RdS W0 y 2 (valC l)) (h4 : ∀ w', Fr [] W0 w' → (∃ x ∈ l, OddVa x) → K (.int .i64 4) w') (h : ∀ w', Fr [] W0 w' → (¬ ∃ x ∈ l, OddVa x) → F27.k12 K (.pointer (some ⟨b, 0, none⟩)) y w') :
    ∀ (d j : Nat) (w : World), l.length = j + d → Fr [] W0 w → (∀ k (h : k < l.length), k < j → ¬ OddVa l[k]) → F27.l8 K (.pointer (some ⟨b, 0, none⟩)) y (.int .i64 (j : Int)) w := by
  have hle := ho.le
  rw [valC_len] at hle
  intro d
  induction d with
  | zero =>
    intro j w hj hf hn
    refine F27.l8.to (C.len_rd ho ?_)
    rw [valC_len]
    simp only [C.ite_true, C.ite_false, C.pick_true, C.pick_false, C.not_bool, C.field_ptr, C.nilCheck_ptr, C.add_mk, C.sub_mk, C.mul_mk, C.eql_mk, C.neq_mk, C.lss_mk, C.leq_mk, C.gtr_mk, C.geq_mk, C.conv_mk, C.len_mk, C.ext_0, C.ext_1, C.ext3_0, C.ext3_1, C.ext3_2, C.guarded_yes, C.guarded_tf, C.guarded_ft, C.guarded_undef, Bool.not_true, Bool.not_false, Nat.zero_add, eq_self, decide_true, decide_false, show ¬ ((j : Int) < (l.length : Int)) by omega]
    exact h w hf (none_all (by omega) hn)
  | succ d ih =>
    intro j w hj hf hn
    have jl : j < l.length := by omega
    refine F27.l8.to (C.len_rd ho ?_)
    rw [valC_len]
    simp only [C.ite_true, C.ite_false, C.pick_true, C.pick_false, C.not_bool, C.field_ptr, C.nilCheck_ptr, C.add_mk, C.sub_mk, C.mul_mk, C.eql_mk, C.neq_mk, C.lss_mk, C.leq_mk, C.gtr_mk, C.geq_mk, C.conv_mk, C.len_mk, C.ext_0, C.ext_1, C.ext3_0, C.ext3_1, C.ext3_2, C.guarded_yes, C.guarded_tf, C.guarded_ft, C.guarded_undef, Bool.not_true, Bool.not_false, Nat.zero_add, eq_self, decide_true, decide_false, show ((j : Int) < (l.length : Int)) by omega]
    have nx : ¬ OddVa l[j] → F27.k9 K (.pointer (some ⟨b, 0, none⟩)) y (.int .i64 (j : Int)) w := fun hp => by
      refine F27.k9.to ?_
      simp only [C.ite_true, C.ite_false, C.pick_true, C.pick_false, C.not_bool, C.field_ptr, C.nilCheck_ptr, C.add_mk, C.sub_mk, C.mul_mk, C.eql_mk, C.neq_mk, C.lss_mk, C.leq_mk, C.gtr_mk, C.geq_mk, C.conv_mk, C.len_mk, C.ext_0, C.ext_1, C.ext3_0, C.ext3_1, C.ext3_2, C.guarded_yes, C.guarded_tf, C.guarded_ft, C.guarded_undef, Bool.not_true, Bool.not_false, Nat.zero_add, eq_self, decide_true, decide_false]
      rw [wrap64_id (n := (j : Int) + 1) (by omega), show (j : Int) + 1 = ((j + 1 : Nat) : Int) by omega]
      exact ih (j + 1) w (by omega) hf (none_succ jl hp hn)
    have yes : OddVa l[j] → K (.int .i64 4) w := fun hp => h4 w hf ⟨_, List.getElem_mem jl, hp⟩
    refine F27.k10.to (C.idx_rd (ho.keep hf) (by omega) (by rw [Int.toNat_natCast]; exact valC_get jl) fun g o cs e fz hg _ hc => ?_)
    simp only [C.ite_true, C.ite_false, C.pick_true, C.pick_false, C.not_bool, C.field_ptr, C.nilCheck_ptr, C.add_mk, C.sub_mk, C.mul_mk, C.eql_mk, C.neq_mk, C.lss_mk, C.leq_mk, C.gtr_mk, C.geq_mk, C.conv_mk, C.len_mk, C.ext_0, C.ext_1, C.ext3_0, C.ext3_1, C.ext3_2, C.guarded_yes, C.guarded_tf, C.guarded_ft, C.guarded_undef, Bool.not_true, Bool.not_false, Nat.zero_add, eq_self, decide_true, decide_false]
    have c0 : cs[o]? = some (.int .i64 l[j].1) := by simpa using hc 0 (by omega)
    refine C.load1_of hg c0 ?_
    by_cases h1 : l[j].1 < 0
    · simp only [C.ite_true, C.ite_false, C.pick_true, C.pick_false, C.not_bool, C.field_ptr, C.nilCheck_ptr, C.add_mk, C.sub_mk, C.mul_mk, C.eql_mk, C.neq_mk, C.lss_mk, C.leq_mk, C.gtr_mk, C.geq_mk, C.conv_mk, C.len_mk, C.ext_0, C.ext_1, C.ext3_0, C.ext3_1, C.ext3_2, C.guarded_yes, C.guarded_tf, C.guarded_ft, C.guarded_undef, Bool.not_true, Bool.not_false, Nat.zero_add, eq_self, decide_true, decide_false, h1]
      exact yes (.inl h1)
    · simp only [C.ite_true, C.ite_false, C.pick_true, C.pick_false, C.not_bool, C.field_ptr, C.nilCheck_ptr, C.add_mk, C.sub_mk, C.mul_mk, C.eql_mk, C.neq_mk, C.lss_mk, C.leq_mk, C.gtr_mk, C.geq_mk, C.conv_mk, C.len_mk, C.ext_0, C.ext_1, C.ext3_0, C.ext3_1, C.ext3_2, C.guarded_yes, C.guarded_tf, C.guarded_ft, C.guarded_undef, Bool.not_true, Bool.not_false, Nat.zero_add, eq_self, decide_true, decide_false, h1]
      refine C.idx_rd (ho.keep hf) (by omega) (by rw [Int.toNat_natCast]; exact valC_get jl) fun g o cs e fz hg _ hc => ?_
      simp only [C.ite_true, C.ite_false, C.pick_true, C.pick_false, C.not_bool, C.field_ptr, C.nilCheck_ptr, C.add_mk, C.sub_mk, C.mul_mk, C.eql_mk, C.neq_mk, C.lss_mk, C.leq_mk, C.gtr_mk, C.geq_mk, C.conv_mk, C.len_mk, C.ext_0, C.ext_1, C.ext3_0, C.ext3_1, C.ext3_2, C.guarded_yes, C.guarded_tf, C.guarded_ft, C.guarded_undef, Bool.not_true, Bool.not_false, Nat.zero_add, eq_self, decide_true, decide_false]
      have c0 : cs[o]? = some (.int .i64 l[j].1) := by simpa using hc 0 (by omega)
      refine C.load1_of hg c0 ?_
      by_cases h2 : l[j].1 > 2
      · simp only [C.ite_true, C.ite_false, C.pick_true, C.pick_false, C.not_bool, C.field_ptr, C.nilCheck_ptr, C.add_mk, C.sub_mk, C.mul_mk, C.eql_mk, C.neq_mk, C.lss_mk, C.leq_mk, C.gtr_mk, C.geq_mk, C.conv_mk, C.len_mk, C.ext_0, C.ext_1, C.ext3_0, C.ext3_1, C.ext3_2, C.guarded_yes, C.guarded_tf, C.guarded_ft, C.guarded_undef, Bool.not_true, Bool.not_false, Nat.zero_add, eq_self, decide_true, decide_false, h2]
        exact yes (.inr (.inl h2))
      · simp only [C.ite_true, C.ite_false, C.pick_true, C.pick_false, C.not_bool, C.field_ptr, C.nilCheck_ptr, C.add_mk, C.sub_mk, C.mul_mk, C.eql_mk, C.neq_mk, C.lss_mk, C.leq_mk, C.gtr_mk, C.geq_mk, C.conv_mk, C.len_mk, C.ext_0, C.ext_1, C.ext3_0, C.ext3_1, C.ext3_2, C.guarded_yes, C.guarded_tf, C.guarded_ft, C.guarded_undef, Bool.not_true, Bool.not_false, Nat.zero_add, eq_self, decide_true, decide_false, h2]
        refine C.idx_rd (ho.keep hf) (by omega) (by rw [Int.toNat_natCast]; exact valC_get jl) fun g o cs e fz hg _ hc => ?_
        simp only [C.ite_true, C.ite_false, C.pick_true, C.pick_false, C.not_bool, C.field_ptr, C.nilCheck_ptr, C.add_mk, C.sub_mk, C.mul_mk, C.eql_mk, C.neq_mk, C.lss_mk, C.leq_mk, C.gtr_mk, C.geq_mk, C.conv_mk, C.len_mk, C.ext_0, C.ext_1, C.ext3_0, C.ext3_1, C.ext3_2, C.guarded_yes, C.guarded_tf, C.guarded_ft, C.guarded_undef, Bool.not_true, Bool.not_false, Nat.zero_add, eq_self, decide_true, decide_false]
        have c0 : cs[o]? = some (.int .i64 l[j].1) := by simpa using hc 0 (by omega)
        refine C.load1_of hg c0 ?_
        by_cases h3 : l[j].1 = 0
        · simp only [C.ite_true, C.ite_false, C.pick_true, C.pick_false, C.not_bool, C.field_ptr, C.nilCheck_ptr, C.add_mk, C.sub_mk, C.mul_mk, C.eql_mk, C.neq_mk, C.lss_mk, C.leq_mk, C.gtr_mk, C.geq_mk, C.conv_mk, C.len_mk, C.ext_0, C.ext_1, C.ext3_0, C.ext3_1, C.ext3_2, C.guarded_yes, C.guarded_tf, C.guarded_ft, C.guarded_undef, Bool.not_true, Bool.not_false, Nat.zero_add, eq_self, decide_true, decide_false, h3]
          refine C.idx_rd (ho.keep hf) (by omega) (by rw [Int.toNat_natCast]; exact valC_get jl) fun g o cs e fz hg _ hc => ?_
          simp only [C.ite_true, C.ite_false, C.pick_true, C.pick_false, C.not_bool, C.field_ptr, C.nilCheck_ptr, C.add_mk, C.sub_mk, C.mul_mk, C.eql_mk, C.neq_mk, C.lss_mk, C.leq_mk, C.gtr_mk, C.geq_mk, C.conv_mk, C.len_mk, C.ext_0, C.ext_1, C.ext3_0, C.ext3_1, C.ext3_2, C.guarded_yes, C.guarded_tf, C.guarded_ft, C.guarded_undef, Bool.not_true, Bool.not_false, Nat.zero_add, eq_self, decide_true, decide_false]
          have c1 : cs[o + 1]? = some (.int .i64 l[j].2) := by simpa using hc 1 (by omega)
          refine C.load1_of hg c1 ?_
          by_cases h4' : l[j].2 = 0
          · have : ¬ (l[j].2 ≠ 0) := fun c => c h4'
            rw [C.neq_mk, decide_eq_false this]
            simp only [C.ite_true, C.ite_false, C.pick_true, C.pick_false, C.not_bool, C.field_ptr, C.nilCheck_ptr, C.add_mk, C.sub_mk, C.mul_mk, C.eql_mk, C.neq_mk, C.lss_mk, C.leq_mk, C.gtr_mk, C.geq_mk, C.conv_mk, C.len_mk, C.ext_0, C.ext_1, C.ext3_0, C.ext3_1, C.ext3_2, C.guarded_yes, C.guarded_tf, C.guarded_ft, C.guarded_undef, Bool.not_true, Bool.not_false, Nat.zero_add, eq_self, decide_true, decide_false]
            exact nx fun c => c.elim h1 fun c => c.elim h2 fun c => c.2 h4'
          · rw [C.neq_mk, decide_eq_true (show l[j].2 ≠ 0 from h4')]
            simp only [C.ite_true, C.ite_false, C.pick_true, C.pick_false, C.not_bool, C.field_ptr, C.nilCheck_ptr, C.add_mk, C.sub_mk, C.mul_mk, C.eql_mk, C.neq_mk, C.lss_mk, C.leq_mk, C.gtr_mk, C.geq_mk, C.conv_mk, C.len_mk, C.ext_0, C.ext_1, C.ext3_0, C.ext3_1, C.ext3_2, C.guarded_yes, C.guarded_tf, C.guarded_ft, C.guarded_undef, Bool.not_true, Bool.not_false, Nat.zero_add, eq_self, decide_true, decide_false]
            exact yes (.inr (.inr ⟨h3, h4'⟩))
        · simp only [C.ite_true, C.ite_false, C.pick_true, C.pick_false, C.not_bool, C.field_ptr, C.nilCheck_ptr, C.add_mk, C.sub_mk, C.mul_mk, C.eql_mk, C.neq_mk, C.lss_mk, C.leq_mk, C.gtr_mk, C.geq_mk, C.conv_mk, C.len_mk, C.ext_0, C.ext_1, C.ext3_0, C.ext3_1, C.ext3_2, C.guarded_yes, C.guarded_tf, C.guarded_ft, C.guarded_undef, Bool.not_true, Bool.not_false, Nat.zero_add, eq_self, decide_true, decide_false, h3]
          exact nx fun c => c.elim h1 fun c => c.elim h2 fun c => h3 c.1
theorem check_c {rv nv : Value} {V : Vw} (hV : IsV w rv nv V) (hF : FitT V) (h : ∀ w', Fr [] w w' → K (.int .i64 (chkI V)) w') : C.call Try.prog 27 #[.agg #[rv, nv]] w K := by
  refine F27.sh (VB.new hV fun b w1 hf1 _ hb hV1 => lc_ris hV (fun w' hw hn => by have := h w' hw; rwa [chkI_9 hn] at this) (fun w2 hf2 hb2 hR => ?_) V.2.length 0 w1 (by omega) hf1 hb fun k a c hk => by omega)
  refine F27.k6.to (hb2.all (all_c (hV.keep hf2) hF fun y w3 hf3 hn3 ho3 => ?_))
  have f3 := hf2.trans hf3
  refine lc_odd ho3.rd (fun w' hw hx => by have := h w' (f3.trans hw); rwa [chkI_4 hR hx] at this) (fun w4 hf4 hno => ?_) (allOf V).length 0 w3 (by omega) (Fr.refl _ _) fun k hk c => by omega
  have f4 := f3.trans hf4
  refine F27.k12.to (lc_lost (W0 := w4) (hV.keep f4) (ho3.rd.keep hf4) ((hb2.keep hf3 (by simp)).keep hf4 (by simp)) (fun w' hw hx => by have := h w' (f4.trans hw); rwa [chkI_14 hR hno hx] at this) (fun w5 hf5 hnl => ?_) (allOf V).length 0 w4 (by omega) (Fr.refl _ _) fun k hk c => by omega)
  have f5 := f4.trans hf5
  refine F27.k17.to ((((hb2.keep hf3 (by simp)).keep hf4 (by simp)).keep hf5 (by simp)).all (met_c (hV.keep f5) hF fun m w6 hf6 hn6 ho6 => ?_))
  have f6 := f5.trans hf6
  exact lc_met (V := V) ho6.rd (fun w' hw hx => by have := h w' (f6.trans hw); rwa [chkI_10 hR hno hnl hx] at this) (fun w' hw hx => by have := h w' (f6.trans hw); rwa [chkI_0 hR hno hnl hx] at this) (metL V).length 0 w6 (by omega) (Fr.refl _ _) fun k hk c => by omega
end
end Go.Proofs.YtfdpmgddlaamcaaV
