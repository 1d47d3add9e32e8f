/- Order, by the program. -/
import Derived.Test.YtchonfdnghimdaaSc11
import Derived.Test.YtchonfdnghimdaaGScc3
namespace Go.Proofs.YtchonfdnghimdaaV
open Go Go.Proofs Go.RowKit
set_option linter.unusedVariables false
set_option linter.unusedSimpArgs false
set_option maxRecDepth 10000
/-! ### 1. Plain -/
/-- May it come: all that lead to it came. -/
def Gr.free (G : Gr) (D : List Nat) (i : Nat) : Bool := decide (i ∉ D) && (List.range G.n).all fun k => decide (k ∈ D) || !G.edge k i
def Gr.nxt (G : Gr) (D : List Nat) : Option Nat := (List.range G.n).find? (G.free D)
def topoF (G : Gr) : Nat → List Nat → List Nat
  | 0, D => D
  | f + 1, D => match G.nxt D with
    | some i => topoF G f (D ++ [i])
    | none => D
def Gr.topo (G : Gr) : List Nat := topoF G G.n []
theorem nxt_some {G : Gr} {D : List Nat} {i : Nat} (h : G.nxt D = some i) : i < G.n ∧ G.free D i = true := by
  have h1 := List.mem_of_find?_eq_some h
  have h2 := List.find?_some h
  exact ⟨List.mem_range.1 h1, h2⟩
theorem nxt_first {G : Gr} {D : List Nat} {i : Nat} (h : G.nxt D = some i) {k : Nat} (hk : k < i) : G.free D k = false := (find_range h).2 k hk
theorem nxt_of {G : Gr} {D : List Nat} {i : Nat} (hi : i < G.n) (hf : G.free D i = true) (hm : ∀ k, k < i → G.free D k = false) : G.nxt D = some i := by
  cases e : G.nxt D with
  | none =>
    have := List.find?_eq_none.1 e i (List.mem_range.2 hi)
    rw [hf] at this; exact absurd rfl this
  | some j =>
    obtain ⟨h1, h2⟩ := nxt_some e
    rcases Nat.lt_trichotomy i j with c | c | c
    · have := nxt_first e c; rw [hf] at this; cases this
    · rw [c]
    · have := hm j c; rw [h2] at this; cases this
/-- Without a ring one may always come. -/
theorem nxt_is {G : Gr} (hr : G.ringL = []) {D : List Nat} (hd : D.Nodup) (hl : ∀ v ∈ D, v < G.n) (hn : D.length < G.n) : ∃ i, G.nxt D = some i := by
  cases e : G.nxt D with
  | some i => exact ⟨i, rfl⟩
  | none =>
    exfalso
    have hno : ∀ i, i < G.n → i ∉ D → ∃ k, k < G.n ∧ k ∉ D ∧ G.edge k i = true := fun i hi hiD => by
      have := List.find?_eq_none.1 e i (List.mem_range.2 hi)
      simp only [Gr.free, hiD, not_false_eq_true, decide_true, Bool.true_and, Bool.not_eq_true, List.all_eq_false, List.mem_range, Bool.or_eq_true, decide_eq_true_eq, Bool.not_eq_true', not_or] at this
      obtain ⟨k, hk, h1, h2⟩ := this
      exact ⟨k, hk, h1, by simpa using h2⟩
    -- one that did not come
    have hex : ∃ i, i < G.n ∧ i ∉ D := by
      apply Classical.byContradiction
      intro hc
      have hall : ∀ i ∈ List.range G.n, i ∈ D := fun i hi => Classical.byContradiction fun h => hc ⟨i, List.mem_range.1 hi, h⟩
      have := ((List.perm_ext_iff_of_nodup hd (List.nodup_range (n := G.n))).2 fun x => ⟨fun h => List.mem_range.2 (hl x h), fun h => hall x h⟩).length_eq
      rw [List.length_range] at this
      omega
    obtain ⟨i0, hi0, hi0D⟩ := hex
    let P := { x : Nat // x < G.n ∧ x ∉ D }
    let pr : P → P := fun x => ⟨(hno x.1 x.2.1 x.2.2).choose, (hno x.1 x.2.1 x.2.2).choose_spec.1, (hno x.1 x.2.1 x.2.2).choose_spec.2.1⟩
    have hpr : ∀ x : P, G.edge (pr x).1 x.1 = true := fun x => (hno x.1 x.2.1 x.2.2).choose_spec.2.2
    let s : Nat → P := fun j => Nat.rec ⟨i0, hi0, hi0D⟩ (fun _ x => pr x) j
    have hs : ∀ j, G.edge (s (j + 1)).1 (s j).1 = true := fun j => hpr (s j)
    have hld : ∀ d j, G.ld (s (j + d)).1 (s j).1 = true := by
      intro d
      induction d with
      | zero => exact fun j => ld_refl (s j).2.1
      | succ d ih => exact fun j => ld_trans (ld_one (s (j + (d + 1))).2.1 (hs (j + d)) (s (j + d)).2.1) (ih j)
    have hdup : ¬ ((List.range (G.n + 1)).map fun j => (s j).1).Nodup := fun hnd => by
      have := nodup_lt_length G.n _ hnd fun x hx => by
        obtain ⟨j, _, rfl⟩ := List.mem_map.1 hx
        exact (s j).2.1
      simp at this
      omega
    have : ∃ a b, a < b ∧ (s a).1 = (s b).1 := by
      apply Classical.byContradiction
      intro hc
      refine hdup ?_
      rw [List.nodup_iff_pairwise_ne, List.pairwise_map]
      exact (List.pairwise_lt_range).imp fun {a b} h e => hc ⟨a, b, h, e⟩
    obtain ⟨a, b, hab, heq⟩ := this
    have h1 : G.edge (s b).1 (s (b - 1)).1 = true := by have := hs (b - 1); rwa [show b - 1 + 1 = b by omega] at this
    have h2 : G.ld (s (b - 1)).1 (s a).1 = true := by have := hld (b - 1 - a) a; rwa [show a + (b - 1 - a) = b - 1 by omega] at this
    rw [heq] at h2
    have : (s b).1 ∈ G.ringL := by
      simp only [Gr.ringL, List.mem_filter, List.mem_range]
      exact ⟨(s b).2.1, ring_iff.2 ⟨_, h1, h2⟩⟩
    rw [hr] at this
    cases this
theorem free_out {G : Gr} {D : List Nat} {i : Nat} (h : G.free D i = true) : i ∉ D := by
  simp only [Gr.free, Bool.and_eq_true, decide_eq_true_eq] at h
  exact h.1
section
variable {K : VK} {w : World}
theorem bodied33 : bodied Try.prog 33 = true := by kernel_rfl
/-- Is one among them for which it holds? -/
theorem HasI_c {W : World} {v f : Value} {l : List Int} {p : Int → Bool} (hv : RdS W v 1 (intC l)) (hl : l.length ≤ 17592186044416)
    (hp : ∀ n (K' : VK), n ∈ l → K' (.bool (p n)) W → vcCall Try.prog f [.int .i64 n] W K') (h : K (.bool (l.any p)) W) : C.call Try.prog 32 #[v, f] W K := by
  have loop : ∀ (K2 : VK) (h1 : ∀ q : Nat, l.any p = true → K2 (.int .i64 (q : Int)) W) (h0 : l.any p = false → K2 (.int .i64 (-1)) W) (d q : Nat), l.length = q + d → (∀ k (hk : k < l.length), k < q → p l[k] = false) → F49.l2 K2 v f (.int .i64 (l.length : Int)) (.int .i64 (q : Int)) W := by
    intro K2 h1 h0 d
    induction d with
    | zero =>
      intro q hq hn
      refine F49.l2.to ?_
      simp only [C.ite_true, C.ite_false, C.pick_true, C.pick_false, C.not_bool, C.field_ptr, C.nilCheck_ptr, C.add_mk, C.sub_mk, C.mul_mk, C.eql_mk, C.neq_mk, C.lss_mk, C.leq_mk, C.gtr_mk, C.geq_mk, C.conv_mk, C.len_mk, C.ext_0, C.ext_1, C.ext3_0, C.ext3_1, C.ext3_2, C.guarded_yes, C.guarded_tf, C.guarded_ft, C.guarded_undef, Bool.not_true, Bool.not_false, Nat.zero_add, eq_self, decide_true, decide_false, show ¬ ((q : Int) < (l.length : Int)) by omega]
      refine F49.k7.to (h0 (List.any_eq_false.2 fun x hx => ?_))
      obtain ⟨k, hk, rfl⟩ := List.getElem_of_mem hx
      simpa using hn k hk (by omega)
    | succ d ih =>
      intro q hq hn
      have ql : q < l.length := by omega
      refine F49.l2.to ?_
      simp only [C.ite_true, C.ite_false, C.pick_true, C.pick_false, C.not_bool, C.field_ptr, C.nilCheck_ptr, C.add_mk, C.sub_mk, C.mul_mk, C.eql_mk, C.neq_mk, C.lss_mk, C.leq_mk, C.gtr_mk, C.geq_mk, C.conv_mk, C.len_mk, C.ext_0, C.ext_1, C.ext3_0, C.ext3_1, C.ext3_2, C.guarded_yes, C.guarded_tf, C.guarded_ft, C.guarded_undef, Bool.not_true, Bool.not_false, Nat.zero_add, eq_self, decide_true, decide_false, show ((q : Int) < (l.length : Int)) by omega]
      refine F49.k3.to (C.idx_int hv ql fun g o cs e fz hg hc => C.load1_of hg hc (hp _ _ (List.getElem_mem ql) ?_))
      cases c : p l[q] with
      | true =>
        simp only [C.ite_true, C.ite_false, C.pick_true, C.pick_false, C.not_bool, C.field_ptr, C.nilCheck_ptr, C.add_mk, C.sub_mk, C.mul_mk, C.eql_mk, C.neq_mk, C.lss_mk, C.leq_mk, C.gtr_mk, C.geq_mk, C.conv_mk, C.len_mk, C.ext_0, C.ext_1, C.ext3_0, C.ext3_1, C.ext3_2, C.guarded_yes, C.guarded_tf, C.guarded_ft, C.guarded_undef, Bool.not_true, Bool.not_false, Nat.zero_add, eq_self, decide_true, decide_false]
        exact h1 q (List.any_eq_true.2 ⟨l[q], List.getElem_mem ql, c⟩)
      | false =>
        simp only [C.ite_true, C.ite_false, C.pick_true, C.pick_false, C.not_bool, C.field_ptr, C.nilCheck_ptr, C.add_mk, C.sub_mk, C.mul_mk, C.eql_mk, C.neq_mk, C.lss_mk, C.leq_mk, C.gtr_mk, C.geq_mk, C.conv_mk, C.len_mk, C.ext_0, C.ext_1, C.ext3_0, C.ext3_1, C.ext3_2, C.guarded_yes, C.guarded_tf, C.guarded_ft, C.guarded_undef, Bool.not_true, Bool.not_false, Nat.zero_add, eq_self, decide_true, decide_false]
        refine F49.k6.to ?_
        simp only [C.ite_true, C.ite_false, C.pick_true, C.pick_false, C.not_bool, C.field_ptr, C.nilCheck_ptr, C.add_mk, C.sub_mk, C.mul_mk, C.eql_mk, C.neq_mk, C.lss_mk, C.leq_mk, C.gtr_mk, C.geq_mk, C.conv_mk, C.len_mk, C.ext_0, C.ext_1, C.ext3_0, C.ext3_1, C.ext3_2, C.guarded_yes, C.guarded_tf, C.guarded_ft, C.guarded_undef, Bool.not_true, Bool.not_false, Nat.zero_add, eq_self, decide_true, decide_false]
        rw [wrap64_id (n := (q : Int) + 1) (by omega), show (q : Int) + 1 = ((q + 1 : Nat) : Int) by omega]
        refine ih (q + 1) (by omega) fun k hk hkq => ?_
        by_cases e : k = q
        · subst e; exact c
        · exact hn k hk (by omega)
  refine F32.sh (F49.sh (C.len_rd hv ?_))
  rw [intC_len]
  refine loop _ (fun q hq => ?_) (fun hq => ?_) l.length 0 (by omega) fun k _ hk => by omega
  · simp only [C.ite_true, C.ite_false, C.pick_true, C.pick_false, C.not_bool, C.field_ptr, C.nilCheck_ptr, C.add_mk, C.sub_mk, C.mul_mk, C.eql_mk, C.neq_mk, C.lss_mk, C.leq_mk, C.gtr_mk, C.geq_mk, C.conv_mk, C.len_mk, C.ext_0, C.ext_1, C.ext3_0, C.ext3_1, C.ext3_2, C.guarded_yes, C.guarded_tf, C.guarded_ft, C.guarded_undef, Bool.not_true, Bool.not_false, Nat.zero_add, eq_self, decide_true, decide_false, show ((q : Int) ≥ 0) by omega]
    rwa [hq] at h
  · simp only [C.ite_true, C.ite_false, C.pick_true, C.pick_false, C.not_bool, C.field_ptr, C.nilCheck_ptr, C.add_mk, C.sub_mk, C.mul_mk, C.eql_mk, C.neq_mk, C.lss_mk, C.leq_mk, C.gtr_mk, C.geq_mk, C.conv_mk, C.len_mk, C.ext_0, C.ext_1, C.ext3_0, C.ext3_1, C.ext3_2, C.guarded_yes, C.guarded_tf, C.guarded_ft, C.guarded_undef, Bool.not_true, Bool.not_false, Nat.zero_add, eq_self, decide_true, decide_false, show ¬ ((-1 : Int) ≥ 0) by omega]
    rwa [hq] at h
/-- What stands while nodes come. -/
structure TI (G : Gr) (W w : World) (b5 : Nat) (dv ov : Value) (D : List Nat) : Prop where
  fr : Fr [] W w
  h5 : w.heap[b5]? = some (.cells #[dv] 28 (0, 0))
  fl : OwnS w dv 4 1 (boolC (metL G.n D))
  gf : NewS W dv
  oo : OwnS w ov 3 1 (intC (natI D))
  no : NewS W ov
  nd : D.Nodup
  lt : ∀ v ∈ D, v < G.n
theorem order_in {G : Gr} {W : World} {nv rv av dv ov : Value} {b1 b5 : Nat} {ws : List Value} {L : List (List Int)} {D : List Nat} (hfew : G.n ≤ 1000) (hb : GBlk W b1 25 nv rv) (hA : RowsAt W av L) (hB : BK G G.n 0 L) (hT : TI G W w b5 dv ov D)
    (hg : ∀ i ov' w', G.nxt D = some i → TI G W w' b5 dv ov' (D ++ [i]) → F15.l6 K (.pointer (some ⟨b1, 0, none⟩)) av ov' (.pointer (some ⟨b5, 0, none⟩)) w') (he : ∃ i, G.nxt D = some i) :
    ∀ (d i : Nat), G.n = i + d → (∀ k, k < i → G.free D k = false) → F15.l8 K (.pointer (some ⟨b1, 0, none⟩)) av ov (.pointer (some ⟨b5, 0, none⟩)) (.int .i64 (G.n : Int)) (.int .i64 (i : Int)) w := by
  have hLn : L.length = G.n := hB.len
  intro d
  induction d with
  | zero =>
    intro i hi hn
    obtain ⟨j, hj⟩ := he
    obtain ⟨h1, h2⟩ := nxt_some hj
    rw [hn j (by omega)] at h2
    cases h2
  | succ d ih =>
    intro i hi hn
    have il : i < G.n := by omega
    have hDl : D.length ≤ G.n := nodup_lt_length G.n D hT.nd hT.lt
    refine F15.l8.to ?_
    simp only [C.ite_true, C.ite_false, C.pick_true, C.pick_false, C.not_bool, C.field_ptr, C.nilCheck_ptr, C.add_mk, C.sub_mk, C.mul_mk, C.eql_mk, C.neq_mk, C.lss_mk, C.leq_mk, C.gtr_mk, C.geq_mk, C.conv_mk, C.len_mk, C.ext_0, C.ext_1, C.ext3_0, C.ext3_1, C.ext3_2, C.guarded_yes, C.guarded_tf, C.guarded_ft, C.guarded_undef, Bool.not_true, Bool.not_false, Nat.zero_add, eq_self, decide_true, decide_false, show ((i : Int) < (G.n : Int)) by omega]
    have nx : G.free D i = false → F15.k13 K (.pointer (some ⟨b1, 0, none⟩)) av ov (.pointer (some ⟨b5, 0, none⟩)) (.int .i64 (G.n : Int)) (.int .i64 (i : Int)) w := fun hf => by
      refine F15.k13.to ?_
      simp only [C.ite_true, C.ite_false, C.pick_true, C.pick_false, C.not_bool, C.field_ptr, C.nilCheck_ptr, C.add_mk, C.sub_mk, C.mul_mk, C.eql_mk, C.neq_mk, C.lss_mk, C.leq_mk, C.gtr_mk, C.geq_mk, C.conv_mk, C.len_mk, C.ext_0, C.ext_1, C.ext3_0, C.ext3_1, C.ext3_2, C.guarded_yes, C.guarded_tf, C.guarded_ft, C.guarded_undef, Bool.not_true, Bool.not_false, Nat.zero_add, eq_self, decide_true, decide_false]
      rw [wrap64_id (n := (i : Int) + 1) (by omega), show (i : Int) + 1 = ((i + 1 : Nat) : Int) by omega]
      refine ih (i + 1) (by omega) fun k hk => ?_
      by_cases e : k = i
      · subst e; exact hf
      · exact hn k (by omega)
    have idl : i < (metL G.n D).length := by rw [metL_len]; exact il
    refine F15.k9.to (C.load1_of (v := dv) hT.h5 rfl (C.idx_bool hT.fl.rd idl ?_))
    rw [metL_get]
    by_cases hm : i ∈ D
    · simp only [C.ite_true, C.ite_false, C.pick_true, C.pick_false, C.not_bool, C.field_ptr, C.nilCheck_ptr, C.add_mk, C.sub_mk, C.mul_mk, C.eql_mk, C.neq_mk, C.lss_mk, C.leq_mk, C.gtr_mk, C.geq_mk, C.conv_mk, C.len_mk, C.ext_0, C.ext_1, C.ext3_0, C.ext3_1, C.ext3_2, C.guarded_yes, C.guarded_tf, C.guarded_ft, C.guarded_undef, Bool.not_true, Bool.not_false, Nat.zero_add, eq_self, decide_true, decide_false, hm]
      exact nx (by simp [Gr.free, hm])
    · simp only [C.ite_true, C.ite_false, C.pick_true, C.pick_false, C.not_bool, C.field_ptr, C.nilCheck_ptr, C.add_mk, C.sub_mk, C.mul_mk, C.eql_mk, C.neq_mk, C.lss_mk, C.leq_mk, C.gtr_mk, C.geq_mk, C.conv_mk, C.len_mk, C.ext_0, C.ext_1, C.ext3_0, C.ext3_1, C.ext3_2, C.guarded_yes, C.guarded_tf, C.guarded_ft, C.guarded_undef, Bool.not_true, Bool.not_false, Nat.zero_add, eq_self, decide_true, decide_false, hm]
      have iL : i < L.length := by omega
      have hBl := hB.few iL
      refine (hA.keep hT.fr).get iL fun rw_ hrw => HasI_c (p := fun n => !decide (n.toNat ∈ D)) hrw (by omega) (fun n K' hnm hk => vcCall_of bodied33 ?_) ?_
      · obtain ⟨x, rfl, hx, _⟩ := (hB.mem i iL n).1 hnm
        have xdl : x < (metL G.n D).length := by rw [metL_len]; exact hx
        refine F33.sh (C.load1_of (v := dv) hT.h5 rfl (C.idx_bool hT.fl.rd xdl ?_))
        rw [metL_get]
        simp only [C.ite_true, C.ite_false, C.pick_true, C.pick_false, C.not_bool, C.field_ptr, C.nilCheck_ptr, C.add_mk, C.sub_mk, C.mul_mk, C.eql_mk, C.neq_mk, C.lss_mk, C.leq_mk, C.gtr_mk, C.geq_mk, C.conv_mk, C.len_mk, C.ext_0, C.ext_1, C.ext3_0, C.ext3_1, C.ext3_2, C.guarded_yes, C.guarded_tf, C.guarded_ft, C.guarded_undef, Bool.not_true, Bool.not_false, Nat.zero_add, eq_self, decide_true, decide_false]
        simpa using hk
      · have hany : (L[i].any fun n => !decide (n.toNat ∈ D)) = !(G.free D i) := by
          have : G.free D i = (List.range G.n).all fun k => decide (k ∈ D) || !G.edge k i := by simp [Gr.free, hm]
          rw [this, Bool.eq_iff_iff, List.any_eq_true]
          simp only [Bool.not_eq_true', decide_eq_false_iff_not, List.all_eq_false, List.mem_range, Bool.or_eq_true, decide_eq_true_eq, not_or]
          constructor
          · rintro ⟨n, hnm, hd⟩
            obtain ⟨x, rfl, hx, ⟨c1, c2⟩ | ⟨c1, c2⟩⟩ := (hB.mem i iL n).1 hnm
            · exact ⟨x, hx, by simpa using hd, by simp [c2]⟩
            · simp at c2
          · rintro ⟨x, hx, hd, hed⟩
            refine ⟨(x : Int), (hB.mem i iL _).2 ⟨x, rfl, hx, .inl ⟨hx, by simpa using hed⟩⟩, by simpa using hd⟩
        rw [hany]
        cases hfr : G.free D i with
        | false =>
          simp only [C.ite_true, C.ite_false, C.pick_true, C.pick_false, C.not_bool, C.field_ptr, C.nilCheck_ptr, C.add_mk, C.sub_mk, C.mul_mk, C.eql_mk, C.neq_mk, C.lss_mk, C.leq_mk, C.gtr_mk, C.geq_mk, C.conv_mk, C.len_mk, C.ext_0, C.ext_1, C.ext3_0, C.ext3_1, C.ext3_2, C.guarded_yes, C.guarded_tf, C.guarded_ft, C.guarded_undef, Bool.not_true, Bool.not_false, Nat.zero_add, eq_self, decide_true, decide_false]
          exact nx hfr
        | true =>
          simp only [C.ite_true, C.ite_false, C.pick_true, C.pick_false, C.not_bool, C.field_ptr, C.nilCheck_ptr, C.add_mk, C.sub_mk, C.mul_mk, C.eql_mk, C.neq_mk, C.lss_mk, C.leq_mk, C.gtr_mk, C.geq_mk, C.conv_mk, C.len_mk, C.ext_0, C.ext_1, C.ext3_0, C.ext3_1, C.ext3_2, C.guarded_yes, C.guarded_tf, C.guarded_ft, C.guarded_undef, Bool.not_true, Bool.not_false, Nat.zero_add, eq_self, decide_true, decide_false]
          have hnx := nxt_of il hfr hn
          refine C.load1_of (v := dv) hT.h5 rfl (flag_set hT.fr hT.gf hT.fl idl fun w1 fr1 fl1 hf1 => ?_)
          rw [metL_set (T := D ++ [i]) il (fun x => by simp)] at fl1
          have h51 := hf1.at_ hT.h5 (hT.fl.nb hT.h5 (by decide))
          have oo1 := hT.oo.keep' hf1 (fun g hg c => (hT.fl.ne hT.oo (by decide)) g c hg)
          refine C.appI fr1 hT.no oo1 (by rw [natI_len]; omega) fun ov' w2 fr2 no2 oo2 hf2 _ => ?_
          refine hg i ov' w2 hnx ⟨fr2, hf2.at_ h51 (oo1.nb h51 (by decide)), fl1.keep' hf2 (fl1.ne oo1 (by decide)), hT.gf, by rw [natI_app]; exact oo2, no2, ?_, fun v hv => ?_⟩
          · rw [List.nodup_append]
            exact ⟨hT.nd, by simp, fun a ha b hb => by simp at hb; subst hb; exact fun e => hm (e ▸ ha)⟩
          · rcases List.mem_append.1 hv with c | c
            · exact hT.lt v c
            · rw [List.mem_singleton.1 c]; exact il
theorem order_out {G : Gr} {W : World} {nv rv av dv : Value} {b1 b5 : Nat} {L : List (List Int)} (hr : G.ringL = []) (hG : IsG W nv rv G) (hb : GBlk W b1 25 nv rv) (hA : RowsAt W av L) (hB : BK G G.n 0 L)
    (h : ∀ v w', Fr [] W w' → OwnS w' v 3 1 (intC (natI G.topo)) → G.topo.length = G.n → K v w') :
    ∀ (d : Nat) (w : World) (ov : Value) (D : List Nat), G.n = D.length + d → topoF G d D = G.topo → TI G W w b5 dv ov D → F15.l6 K (.pointer (some ⟨b1, 0, none⟩)) av ov (.pointer (some ⟨b5, 0, none⟩)) w := by
  have hfew := hG.few
  intro d
  induction d with
  | zero =>
    intro w ov D hD hto hT
    refine F15.l6.to (C.len_rd hT.oo.rd ?_)
    rw [intC_len, natI_len]
    refine (hb.keep hT.fr (by simp)).next ((hG.keep hT.fr).len_next ?_)
    simp only [C.ite_true, C.ite_false, C.pick_true, C.pick_false, C.not_bool, C.field_ptr, C.nilCheck_ptr, C.add_mk, C.sub_mk, C.mul_mk, C.eql_mk, C.neq_mk, C.lss_mk, C.leq_mk, C.gtr_mk, C.geq_mk, C.conv_mk, C.len_mk, C.ext_0, C.ext_1, C.ext3_0, C.ext3_1, C.ext3_2, C.guarded_yes, C.guarded_tf, C.guarded_ft, C.guarded_undef, Bool.not_true, Bool.not_false, Nat.zero_add, eq_self, decide_true, decide_false, show ¬ ((D.length : Int) < (G.n : Int)) by omega]
    have e : D = G.topo := hto
    refine F15.k14.to (h ov w hT.fr (by rw [← e]; exact hT.oo) (by rw [← e]; omega))
  | succ d ih =>
    intro w ov D hD hto hT
    obtain ⟨i, hi⟩ := nxt_is hr hT.nd hT.lt (by omega)
    refine F15.l6.to (C.len_rd hT.oo.rd ?_)
    rw [intC_len, natI_len]
    refine (hb.keep hT.fr (by simp)).next ((hG.keep hT.fr).len_next ?_)
    simp only [C.ite_true, C.ite_false, C.pick_true, C.pick_false, C.not_bool, C.field_ptr, C.nilCheck_ptr, C.add_mk, C.sub_mk, C.mul_mk, C.eql_mk, C.neq_mk, C.lss_mk, C.leq_mk, C.gtr_mk, C.geq_mk, C.conv_mk, C.len_mk, C.ext_0, C.ext_1, C.ext3_0, C.ext3_1, C.ext3_2, C.guarded_yes, C.guarded_tf, C.guarded_ft, C.guarded_undef, Bool.not_true, Bool.not_false, Nat.zero_add, eq_self, decide_true, decide_false, show ((D.length : Int) < (G.n : Int)) by omega]
    refine F15.k7.to ((hb.keep hT.fr (by simp)).next ((hG.keep hT.fr).len_next ?_))
    refine order_in (ws := []) hfew hb hA hB hT (fun j ov' w' hj hT' => ?_) ⟨i, hi⟩ G.n 0 (by omega) fun k hk => by omega
    refine ih w' ov' (D ++ [j]) (by simp; omega) ?_ hT'
    rw [← hto]
    simp only [topoF, hj]
theorem Order_c {nv rv : Value} {G : Gr} (hG : IsG w nv rv G) (h1 : G.ringL ≠ [] → ∀ w', Fr [] w w' → K (.slice none 0 0) w')
    (h0 : G.ringL = [] → ∀ v w', Fr [] w w' → OwnS w' v 3 1 (intC (natI G.topo)) → G.topo.length = G.n → K v w') : C.call Try.prog 15 #[.agg #[nv, rv]] w K := by
  have hfew := hG.few
  refine F15.sh (GBlk.new hG fun b1 w1 hf1 _ hb hG1 => hb.all (Rings_c hG1 fun rg w2 hf2 _ ho2 => C.len_rd ho2.rd ?_))
  rw [intC_len, natI_len]
  have f2 := hf1.trans hf2
  by_cases hz : (G.ringL.length : Int) > 0
  · simp only [C.ite_true, C.ite_false, C.pick_true, C.pick_false, C.not_bool, C.field_ptr, C.nilCheck_ptr, C.add_mk, C.sub_mk, C.mul_mk, C.eql_mk, C.neq_mk, C.lss_mk, C.leq_mk, C.gtr_mk, C.geq_mk, C.conv_mk, C.len_mk, C.ext_0, C.ext_1, C.ext3_0, C.ext3_1, C.ext3_2, C.guarded_yes, C.guarded_tf, C.guarded_ft, C.guarded_undef, Bool.not_true, Bool.not_false, Nat.zero_add, eq_self, decide_true, decide_false, hz]
    exact h1 (fun e => by rw [e] at hz; simp at hz) w2 f2
  · simp only [C.ite_true, C.ite_false, C.pick_true, C.pick_false, C.not_bool, C.field_ptr, C.nilCheck_ptr, C.add_mk, C.sub_mk, C.mul_mk, C.eql_mk, C.neq_mk, C.lss_mk, C.leq_mk, C.gtr_mk, C.geq_mk, C.conv_mk, C.len_mk, C.ext_0, C.ext_1, C.ext3_0, C.ext3_1, C.ext3_2, C.guarded_yes, C.guarded_tf, C.guarded_ft, C.guarded_undef, Bool.not_true, Bool.not_false, Nat.zero_add, eq_self, decide_true, decide_false, hz]
    have hr : G.ringL = [] := List.eq_nil_of_length_eq_zero (by omega)
    have hG2 := hG.keep f2
    have hb2 := hb.keep hf2 (by simp)
    refine F15.k3.to (hb2.all (Back_c hG2 fun av vs L W1 w3 hf3 _ hR _ _ hBK _ => ?_))
    have hb3 := hb2.keep hf3 (by simp)
    refine hb3.next ((hG2.keep hf3).len_next (flags_new (by omega) fun dv w4 hf4 hn4 ho4 => C.new_of fun b5 w5 hn5 => C.store1_of (x := dv) hn5.at_ ho4.one.2 ho4.one.1 (by simp) fun w6 hu6 => ?_))
    have i5 := hn5.is
    have s4 := hf4.size
    have f46 : Fr [] w4 w6 := hn5.fr.then hu6.fr fun z hz => .inr (by simp only [List.mem_singleton] at hz; omega)
    have f36 := hf4.trans f46
    refine order_out (W := w3) hr (hG2.keep hf3) hb3 hR.rd hBK (fun v w' a b c => h0 hr v w' (f2.trans (hf3.trans a)) b c) G.n w6 (.slice none 0 0) [] (by simp) rfl ⟨f36, hu6.at_, ?_, hn4, OwnS.nil _ _ _, NewS.nil _, by simp, fun v hv => by simp at hv⟩
    rw [metL_nil]
    exact ho4.keep f46 (by simp)
end
end Go.Proofs.YtchonfdnghimdaaV
