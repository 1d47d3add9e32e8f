/- RefsLeaks: the statement. -/
import Derived.Test.YtchonfdnghimdaaRf8
import Derived.Test.YtchonfdnghimdaaGopen
namespace Go.Proofs.YtchonfdnghimdaaV
open Go Go.Proofs Go.RowKit
set_option linter.unusedVariables false
set_option linter.unusedSimpArgs false
set_option maxRecDepth 10000
/-! ### 1. Plain: what leaks is held by a ring that leaks -/
theorem fr_stable {G : Gr} {r : Nat} (h : ∀ j, j < G.n → G.fr (r + 1) j = true → G.fr r j = true) : ∀ s j, j < G.n → G.fr s j = true → G.fr r j = true := by
  intro s
  induction s with
  | zero => intro j _ hf; cases hf
  | succ s ih =>
    intro j hj hf
    by_cases c : s + 1 ≤ r
    · exact fr_mono c hf
    simp only [Gr.fr, Bool.or_eq_true, decide_eq_true_eq] at hf
    rcases hf with hf | hf
    · exact ih j hj hf
    · have e : G.cnt (G.fr s) (j : Int) = G.cnt (G.fr r) (j : Int) := cnt_congr fun k hk => by
        rw [Bool.eq_iff_iff]
        exact ⟨ih k hk, fr_mono (by omega)⟩
      rw [e] at hf
      exact h j hj (by simp [Gr.fr, hf])
theorem fre_fix {G : Gr} {v : Nat} (hv : v < G.n) (hf : G.fre v = false) : G.cnt (G.fr G.n) (v : Int) ≠ 0 := by
  intro hz
  have h1 : G.fr (G.n + 1) v = true := by simp [Gr.fr, hz]
  have hex : ∀ r, r ≤ G.n → ∃ j, j < G.n ∧ G.fr (r + 1) j = true ∧ G.fr r j = false := fun r hr => by
    apply Classical.byContradiction
    intro hc
    have := fr_stable (G := G) (r := r) (fun j hj h => by
      cases e : G.fr r j with
      | true => rfl
      | false => exact absurd ⟨j, hj, h, e⟩ hc) (G.n + 1) v hv h1
    have h2 : G.fr G.n v = true := fr_mono hr this
    rw [show G.fr G.n v = G.fre v from rfl, hf] at h2
    cases h2
  let s : Nat → Nat := fun r => if h : r ≤ G.n then (hex r h).choose else 0
  have hs : ∀ r, r ≤ G.n → s r < G.n ∧ G.fr (r + 1) (s r) = true ∧ G.fr r (s r) = false := fun r h => by
    simp only [s, dif_pos h]
    exact (hex r h).choose_spec
  have hnd : ((List.range (G.n + 1)).map s).Nodup := by
    rw [List.nodup_iff_pairwise_ne, List.pairwise_map]
    refine List.Pairwise.imp_of_mem (fun {a b} ha hb hab e => ?_) (List.pairwise_lt_range (n := G.n + 1))
    have ha' := List.mem_range.1 ha
    have hb' := List.mem_range.1 hb
    have q1 := (hs a (by omega)).2.1
    have q2 := (hs b (by omega)).2.2
    rw [e] at q1
    rw [fr_mono (show a + 1 ≤ b by omega) q1] at q2
    cases q2
  have := nodup_lt_length G.n _ hnd fun x hx => by
    obtain ⟨r, hr, rfl⟩ := List.mem_map.1 hx
    have := List.mem_range.1 hr
    exact (hs r (by omega)).1
  simp at this
  omega
theorem cntR_pos {G : Gr} {P : Nat → Bool} {j : Int} : ∀ m, G.cntR P j m ≠ 0 → ∃ k, k < m ∧ P k = false ∧ j ∈ G.row k
  | 0, h => absurd rfl h
  | m + 1, h => by
    by_cases c : G.cntR P j m = 0
    · simp only [Gr.cntR, c, Nat.zero_add] at h
      cases hp : P m with
      | true => rw [hp] at h; simp at h
      | false =>
        rw [hp, cond_false] at h
        exact ⟨m, by omega, hp, List.count_pos_iff.1 (by omega)⟩
    · obtain ⟨k, h1, h2⟩ := cntR_pos m c
      exact ⟨k, by omega, h2⟩
theorem leak_mem {G : Gr} {v : Nat} : v ∈ G.leakL ↔ v < G.n ∧ G.rch v = false ∧ G.fre v = false := by
  simp [Gr.leakL]
theorem leak_pred {G : Gr} {v : Nat} (h : v ∈ G.leakL) : ∃ u, u ∈ G.leakL ∧ G.edge u v = true := by
  obtain ⟨h1, h2, h3⟩ := leak_mem.1 h
  have hc := fre_fix h1 h3
  have hr : G.roots.count (v : Int) = 0 := List.count_eq_zero.2 fun hm => by
    have := rch_root h1 hm
    rw [h2] at this; cases this
  unfold Gr.cnt at hc
  rw [hr, Nat.zero_add] at hc
  obtain ⟨k, k1, k2, k3⟩ := cntR_pos _ hc
  have he : G.edge k v = true := by simpa [Gr.edge] using k3
  refine ⟨k, leak_mem.2 ⟨k1, ?_, k2⟩, he⟩
  cases e : G.rch k with
  | false => rfl
  | true => rw [rch_edge e he h1] at h2; cases h2
theorem leak_held {G : Gr} {v : Nat} (h : v ∈ G.leakL) : ∃ r, r ∈ G.ringL ∧ r ∈ G.leakL ∧ G.ld r v = true := by
  let P := { x : Nat // x ∈ G.leakL }
  have pn : ∀ x : P, x.1 < G.n := fun x => (leak_mem.1 x.2).1
  let pr : P → P := fun x => ⟨(leak_pred x.2).choose, (leak_pred x.2).choose_spec.1⟩
  have hpr : ∀ x : P, G.edge (pr x).1 x.1 = true := fun x => (leak_pred x.2).choose_spec.2
  let s : Nat → P := fun j => Nat.rec ⟨v, h⟩ (fun _ x => pr x) j
  have hs : ∀ j, G.edge (s (j + 1)).1 (s j).1 = true := fun j => hpr (s j)
  have hld : ∀ d j, G.ld (s (j + d)).1 (s j).1 = true := by
    intro d
    induction d with
    | zero => exact fun j => ld_refl (pn (s j))
    | succ d ih => exact fun j => ld_trans (ld_one (pn (s (j + (d + 1)))) (hs (j + d)) (pn (s (j + d)))) (ih j)
  have hdup : ¬ ((List.range (G.n + 1)).map fun j => (s j).1).Nodup := fun hnd => by
    have := nodup_lt_length G.n _ hnd fun x hx => by
      obtain ⟨j, _, rfl⟩ := List.mem_map.1 hx
      exact pn (s j)
    simp at this
    omega
  have : ∃ a b, a < b ∧ (s a).1 = (s b).1 := by
    apply Classical.byContradiction
    intro hc
    refine hdup ?_
    rw [List.nodup_iff_pairwise_ne, List.pairwise_map]
    exact (List.pairwise_lt_range).imp fun {a b} h e => hc ⟨a, b, h, e⟩
  obtain ⟨a, b, hab, heq⟩ := this
  have h1 : G.edge (s b).1 (s (b - 1)).1 = true := by have := hs (b - 1); rwa [show b - 1 + 1 = b by omega] at this
  have h2 : G.ld (s (b - 1)).1 (s a).1 = true := by have := hld (b - 1 - a) a; rwa [show a + (b - 1 - a) = b - 1 by omega] at this
  have h3 : G.ld (s a).1 v = true := by have := hld a 0; rwa [Nat.zero_add] at this
  rw [heq] at h2 h3
  refine ⟨(s b).1, ?_, (s b).2, h3⟩
  simp only [Gr.ringL, List.mem_filter, List.mem_range]
  exact ⟨pn (s b), ring_iff.2 ⟨_, h1, h2⟩⟩
/-- Is it held by one of the rings' nodes. -/
def Gr.heldBy (G : Gr) (v : Nat) (r : Nat) : Bool := decide (r ∈ G.leakL) && G.ld r v
theorem held_all {G : Gr} {v : Nat} (h : v ∈ G.leakL) : G.ringL.any (G.heldBy v) = true := by
  obtain ⟨r, h1, h2, h3⟩ := leak_held h
  exact List.any_eq_true.2 ⟨r, h1, by simp [Gr.heldBy, h2, h3]⟩
theorem natC_in {l : List Nat} {r : Nat} : decide ((r : Int) ∈ natC l) = decide (r ∈ l) := by
  refine decide_eq_decide.2 ⟨fun h => ?_, fun h => natC_mem.2 ⟨r, h, rfl⟩⟩
  obtain ⟨x, hx, e⟩ := natC_mem.1 h
  have : r = x := by omega
  rwa [this]
section
variable {K : VK} {w : World}
theorem build1_33 (A : Option Addr) (n c : Nat) : (Instr.build 30 #[(0, .slice A n c)]).run Try.prog w = .ok (.agg #[.slice A n c, .slice none 0 0]) w := by kernel_rfl
theorem rl_held {G : Gr} {W : World} {nv rv lv gv : Value} {b1 i : Nat} (hG : IsG W nv rv G) (hb : GBlk W b1 25 nv rv) (hl : RdS W lv 1 (intC (natC G.leakL))) (hr : RdS W gv 1 (intC (natI G.ringL))) (hi : i < G.leakL.length)
    (h : ∀ w', Fr [] W w' → F6.k13 K (.pointer (some ⟨b1, 0, none⟩)) lv gv (.int .i64 (i : Int)) (.bool true) w') :
    ∀ (d k : Nat) (w : World), G.ringL.length = k + d → Fr [] W w → F6.l10 K (.pointer (some ⟨b1, 0, none⟩)) lv gv (.int .i64 (i : Int)) (.bool ((G.ringL.take k).any (G.heldBy G.leakL[i]))) (.int .i64 (k : Int)) w := by
  have hfew := hG.few
  have hrl : G.ringL.length ≤ G.n := by
    have := List.length_filter_le G.ring (List.range G.n)
    rwa [List.length_range] at this
  have hvn : G.leakL[i] < G.n := (leak_mem.1 (List.getElem_mem hi)).1
  intro d
  induction d with
  | zero =>
    intro k w hk hf
    refine F6.l10.to (C.len_rd (hr.keep hf) ?_)
    rw [intC_len, natI_len]
    simp only [C.ite_true, C.ite_false, C.pick_true, C.pick_false, C.not_bool, C.field_ptr, C.nilCheck_ptr, C.add_mk, C.sub_mk, C.mul_mk, C.eql_mk, C.neq_mk, C.lss_mk, C.leq_mk, C.gtr_mk, C.geq_mk, C.conv_mk, C.len_mk, C.ext_0, C.ext_1, C.ext3_0, C.ext3_1, C.ext3_2, C.guarded_yes, C.guarded_tf, C.guarded_ft, C.guarded_undef, Bool.not_true, Bool.not_false, Nat.zero_add, eq_self, decide_true, decide_false, show ¬ ((k : Int) < (G.ringL.length : Int)) by omega]
    rw [List.take_of_length_le (by omega), held_all (List.getElem_mem hi)]
    exact h w hf
  | succ d ih =>
    intro k w hk hf
    have kl : k < G.ringL.length := by omega
    refine F6.l10.to (C.len_rd (hr.keep hf) ?_)
    rw [intC_len, natI_len]
    simp only [C.ite_true, C.ite_false, C.pick_true, C.pick_false, C.not_bool, C.field_ptr, C.nilCheck_ptr, C.add_mk, C.sub_mk, C.mul_mk, C.eql_mk, C.neq_mk, C.lss_mk, C.leq_mk, C.gtr_mk, C.geq_mk, C.conv_mk, C.len_mk, C.ext_0, C.ext_1, C.ext3_0, C.ext3_1, C.ext3_2, C.guarded_yes, C.guarded_tf, C.guarded_ft, C.guarded_undef, Bool.not_true, Bool.not_false, Nat.zero_add, eq_self, decide_true, decide_false, show ((k : Int) < (G.ringL.length : Int)) by omega]
    have et : (G.ringL.take (k + 1)).any (G.heldBy G.leakL[i]) = ((G.ringL.take k).any (G.heldBy G.leakL[i]) || G.heldBy G.leakL[i] G.ringL[k]) := by
      rw [List.take_succ_eq_append_getElem kl, List.any_append]
      simp only [List.any_cons, List.any_nil, Bool.or_false]
    have nx : ∀ w' (b : Bool), Fr [] W w' → b = (G.ringL.take (k + 1)).any (G.heldBy G.leakL[i]) → F6.k11 K (.pointer (some ⟨b1, 0, none⟩)) lv gv (.int .i64 (i : Int)) (.bool b) (.int .i64 (k : Int)) w' := fun w' b a c => by
      subst c
      refine F6.k11.to ?_
      simp only [C.ite_true, C.ite_false, C.pick_true, C.pick_false, C.not_bool, C.field_ptr, C.nilCheck_ptr, C.add_mk, C.sub_mk, C.mul_mk, C.eql_mk, C.neq_mk, C.lss_mk, C.leq_mk, C.gtr_mk, C.geq_mk, C.conv_mk, C.len_mk, C.ext_0, C.ext_1, C.ext3_0, C.ext3_1, C.ext3_2, C.guarded_yes, C.guarded_tf, C.guarded_ft, C.guarded_undef, Bool.not_true, Bool.not_false, Nat.zero_add, eq_self, decide_true, decide_false]
      rw [wrap64_id (n := (k : Int) + 1) (by omega), show (k : Int) + 1 = ((k + 1 : Nat) : Int) by omega]
      exact ih (k + 1) w' (by omega) a
    refine F6.k12.to (C.draw_of (fun w' => Fr [] W w') fun w1 hf1 _ => ⟨hf.trans hf1, ?_⟩)
    have f1 := hf.trans hf1
    rw [et] at nx
    have kn : k < (natI G.ringL).length := by rw [natI_len]; exact kl
    have il : i < (natC G.leakL).length := by rw [natC_len]; exact hi
    generalize (G.ringL.take k).any (G.heldBy G.leakL[i]) = bk at nx ⊢
    cases bk with
    | true =>
      simp only [C.ite_true, C.ite_false, C.pick_true, C.pick_false, C.not_bool, C.field_ptr, C.nilCheck_ptr, C.add_mk, C.sub_mk, C.mul_mk, C.eql_mk, C.neq_mk, C.lss_mk, C.leq_mk, C.gtr_mk, C.geq_mk, C.conv_mk, C.len_mk, C.ext_0, C.ext_1, C.ext3_0, C.ext3_1, C.ext3_2, C.guarded_yes, C.guarded_tf, C.guarded_ft, C.guarded_undef, Bool.not_true, Bool.not_false, Nat.zero_add, eq_self, decide_true, decide_false, and_true]
      exact ⟨f1, f1, f1, nx w1 true f1 rfl⟩
    | false =>
      simp only [Bool.false_or] at nx
      simp only [C.ite_true, C.ite_false, C.pick_true, C.pick_false, C.not_bool, C.field_ptr, C.nilCheck_ptr, C.add_mk, C.sub_mk, C.mul_mk, C.eql_mk, C.neq_mk, C.lss_mk, C.leq_mk, C.gtr_mk, C.geq_mk, C.conv_mk, C.len_mk, C.ext_0, C.ext_1, C.ext3_0, C.ext3_1, C.ext3_2, C.guarded_yes, C.guarded_tf, C.guarded_ft, C.guarded_undef, Bool.not_true, Bool.not_false, Nat.zero_add, eq_self, decide_true, decide_false, and_true]
      refine C.idx_intS (S := fun w' => Fr [] W w') (fun w' hw => hr.keep hw) f1 kn fun g1 o1 hs1 => C.load1S_of hs1 ?_
      rw [natI_get kl]
      refine In_c (hl.keep f1) ⟨f1, ?_⟩
      rw [natC_in]
      by_cases c : G.ringL[k] ∈ G.leakL
      · rw [decide_eq_true c]
        simp only [C.ite_true, C.ite_false, C.pick_true, C.pick_false, C.not_bool, C.field_ptr, C.nilCheck_ptr, C.add_mk, C.sub_mk, C.mul_mk, C.eql_mk, C.neq_mk, C.lss_mk, C.leq_mk, C.gtr_mk, C.geq_mk, C.conv_mk, C.len_mk, C.ext_0, C.ext_1, C.ext3_0, C.ext3_1, C.ext3_2, C.guarded_yes, C.guarded_tf, C.guarded_ft, C.guarded_undef, Bool.not_true, Bool.not_false, Nat.zero_add, eq_self, decide_true, decide_false]
        refine C.idx_intS (S := fun w' => Fr [] W w') (fun w' hw => hr.keep hw) f1 kn fun g2 o2 hs2 => ?_
        refine C.idx_intS (S := fun w' => Fr [] W w') (fun w' hw => hl.keep hw) f1 il fun g3 o3 hs3 => ?_
        obtain ⟨A, cc, B, dd, e1, e2⟩ := hG.slices
        refine C.load1S_of (v := nv) (fun w' hw => ⟨_, _, _, hb.keep hw (by simp), rfl⟩) ?_
        refine ⟨.agg #[nv, .slice none 0 0], fun w' _ => by rw [e1]; exact build1_33 A G.n cc, ?_⟩
        refine C.load1S_of hs2 (C.load1S_of hs3 ?_)
        rw [natI_get kl, natC_get il]
        have hG' : IsG w1 nv (.slice none 0 0) ⟨G.next, []⟩ := ⟨(hG.keep f1).next, (OwnS.nil w1 3 1).rd, hfew, by simp, hG.nlen⟩
        refine From_c hG' fun fv w2 hf2 _ ho2 => ⟨f1.trans hf2, ?_⟩
        have f2 := f1.trans hf2
        have ef : (⟨G.next, []⟩ : Gr).fromL G.ringL[k] = G.fromL G.ringL[k] := rfl
        rw [ef] at ho2
        have vl : G.leakL[i] < (G.fromL G.ringL[k]).length := by simp [Gr.fromL]; exact hvn
        refine C.idx_bool ho2.rd vl ⟨f2, ?_⟩
        rw [show (G.fromL G.ringL[k])[G.leakL[i]] = G.ld G.ringL[k] G.leakL[i] by simp [Gr.fromL]]
        try simp only [C.ite_true, C.ite_false, C.pick_true, C.pick_false, C.not_bool, C.field_ptr, C.nilCheck_ptr, C.add_mk, C.sub_mk, C.mul_mk, C.eql_mk, C.neq_mk, C.lss_mk, C.leq_mk, C.gtr_mk, C.geq_mk, C.conv_mk, C.len_mk, C.ext_0, C.ext_1, C.ext3_0, C.ext3_1, C.ext3_2, C.guarded_yes, C.guarded_tf, C.guarded_ft, C.guarded_undef, Bool.not_true, Bool.not_false, Nat.zero_add, eq_self, decide_true, decide_false]
        exact nx w2 _ f2 (by simp [Gr.heldBy, c])
      · rw [decide_eq_false c]
        simp only [C.ite_true, C.ite_false, C.pick_true, C.pick_false, C.not_bool, C.field_ptr, C.nilCheck_ptr, C.add_mk, C.sub_mk, C.mul_mk, C.eql_mk, C.neq_mk, C.lss_mk, C.leq_mk, C.gtr_mk, C.geq_mk, C.conv_mk, C.len_mk, C.ext_0, C.ext_1, C.ext3_0, C.ext3_1, C.ext3_2, C.guarded_yes, C.guarded_tf, C.guarded_ft, C.guarded_undef, Bool.not_true, Bool.not_false, Nat.zero_add, eq_self, decide_true, decide_false]
        exact ⟨f1, f1, nx w1 false f1 (by simp [Gr.heldBy, c])⟩
theorem rl_out {G : Gr} {W : World} {nv rv lv gv : Value} {b1 : Nat} (hG : IsG W nv rv G) (hb : GBlk W b1 25 nv rv) (hl : RdS W lv 1 (intC (natC G.leakL))) (hr : RdS W gv 1 (intC (natI G.ringL)))
    (h : ∀ w', Fr [] W w' → K (.bool true) w') :
    ∀ (d i : Nat) (w : World), G.leakL.length = i + d → Fr [] W w → F6.l6 K (.pointer (some ⟨b1, 0, none⟩)) lv gv (.int .i64 (i : Int)) w := by
  have hfew := hG.few
  have hll : G.leakL.length ≤ G.n := by
    have := List.length_filter_le (fun j => !G.rch j && !G.fre j) (List.range G.n)
    rwa [List.length_range] at this
  intro d
  induction d with
  | zero =>
    intro i w hi hf
    refine F6.l6.to (C.len_rd (hl.keep hf) ?_)
    rw [intC_len, natC_len]
    simp only [C.ite_true, C.ite_false, C.pick_true, C.pick_false, C.not_bool, C.field_ptr, C.nilCheck_ptr, C.add_mk, C.sub_mk, C.mul_mk, C.eql_mk, C.neq_mk, C.lss_mk, C.leq_mk, C.gtr_mk, C.geq_mk, C.conv_mk, C.len_mk, C.ext_0, C.ext_1, C.ext3_0, C.ext3_1, C.ext3_2, C.guarded_yes, C.guarded_tf, C.guarded_ft, C.guarded_undef, Bool.not_true, Bool.not_false, Nat.zero_add, eq_self, decide_true, decide_false, show ¬ ((i : Int) < (G.leakL.length : Int)) by omega]
    refine F6.k15.to (C.len_rd (hr.keep hf) ?_)
    rw [intC_len, natI_len]
    by_cases c : (G.ringL.length : Int) > 0
    · simp only [C.ite_true, C.ite_false, C.pick_true, C.pick_false, C.not_bool, C.field_ptr, C.nilCheck_ptr, C.add_mk, C.sub_mk, C.mul_mk, C.eql_mk, C.neq_mk, C.lss_mk, C.leq_mk, C.gtr_mk, C.geq_mk, C.conv_mk, C.len_mk, C.ext_0, C.ext_1, C.ext3_0, C.ext3_1, C.ext3_2, C.guarded_yes, C.guarded_tf, C.guarded_ft, C.guarded_undef, Bool.not_true, Bool.not_false, Nat.zero_add, eq_self, decide_true, decide_false, c]
      exact h w hf
    · simp only [C.ite_true, C.ite_false, C.pick_true, C.pick_false, C.not_bool, C.field_ptr, C.nilCheck_ptr, C.add_mk, C.sub_mk, C.mul_mk, C.eql_mk, C.neq_mk, C.lss_mk, C.leq_mk, C.gtr_mk, C.geq_mk, C.conv_mk, C.len_mk, C.ext_0, C.ext_1, C.ext3_0, C.ext3_1, C.ext3_2, C.guarded_yes, C.guarded_tf, C.guarded_ft, C.guarded_undef, Bool.not_true, Bool.not_false, Nat.zero_add, eq_self, decide_true, decide_false, c]
      refine C.len_rd (hl.keep hf) ?_
      rw [intC_len, natC_len]
      have e : G.leakL.length = 0 := by
        cases el : G.leakL with
        | nil => rfl
        | cons v t =>
          obtain ⟨r, h1, _⟩ := leak_held (G := G) (v := v) (by rw [el]; simp)
          have := List.length_pos_of_mem h1
          omega
      rw [e]
      simp only [C.ite_true, C.ite_false, C.pick_true, C.pick_false, C.not_bool, C.field_ptr, C.nilCheck_ptr, C.add_mk, C.sub_mk, C.mul_mk, C.eql_mk, C.neq_mk, C.lss_mk, C.leq_mk, C.gtr_mk, C.geq_mk, C.conv_mk, C.len_mk, C.ext_0, C.ext_1, C.ext3_0, C.ext3_1, C.ext3_2, C.guarded_yes, C.guarded_tf, C.guarded_ft, C.guarded_undef, Bool.not_true, Bool.not_false, Nat.zero_add, eq_self, decide_true, decide_false, show ((0 : Nat) : Int) = 0 from rfl]
      exact h w hf
  | succ d ih =>
    intro i w hi hf
    have il : i < G.leakL.length := by omega
    refine F6.l6.to (C.len_rd (hl.keep hf) ?_)
    rw [intC_len, natC_len]
    simp only [C.ite_true, C.ite_false, C.pick_true, C.pick_false, C.not_bool, C.field_ptr, C.nilCheck_ptr, C.add_mk, C.sub_mk, C.mul_mk, C.eql_mk, C.neq_mk, C.lss_mk, C.leq_mk, C.gtr_mk, C.geq_mk, C.conv_mk, C.len_mk, C.ext_0, C.ext_1, C.ext3_0, C.ext3_1, C.ext3_2, C.guarded_yes, C.guarded_tf, C.guarded_ft, C.guarded_undef, Bool.not_true, Bool.not_false, Nat.zero_add, eq_self, decide_true, decide_false, show ((i : Int) < (G.leakL.length : Int)) by omega]
    refine F6.k8.to (rl_held (W := w) (hG.keep hf) (hb.keep hf (by simp)) (hl.keep hf) (hr.keep hf) il (fun w1 hf1 => ?_) G.ringL.length 0 w (by omega) (Fr.refl _ _))
    refine F6.k13.to ?_
    simp only [C.ite_true, C.ite_false, C.pick_true, C.pick_false, C.not_bool, C.field_ptr, C.nilCheck_ptr, C.add_mk, C.sub_mk, C.mul_mk, C.eql_mk, C.neq_mk, C.lss_mk, C.leq_mk, C.gtr_mk, C.geq_mk, C.conv_mk, C.len_mk, C.ext_0, C.ext_1, C.ext3_0, C.ext3_1, C.ext3_2, C.guarded_yes, C.guarded_tf, C.guarded_ft, C.guarded_undef, Bool.not_true, Bool.not_false, Nat.zero_add, eq_self, decide_true, decide_false]
    refine F6.k7.to ?_
    simp only [C.ite_true, C.ite_false, C.pick_true, C.pick_false, C.not_bool, C.field_ptr, C.nilCheck_ptr, C.add_mk, C.sub_mk, C.mul_mk, C.eql_mk, C.neq_mk, C.lss_mk, C.leq_mk, C.gtr_mk, C.geq_mk, C.conv_mk, C.len_mk, C.ext_0, C.ext_1, C.ext3_0, C.ext3_1, C.ext3_2, C.guarded_yes, C.guarded_tf, C.guarded_ft, C.guarded_undef, Bool.not_true, Bool.not_false, Nat.zero_add, eq_self, decide_true, decide_false]
    rw [wrap64_id (n := (i : Int) + 1) (by omega), show (i : Int) + 1 = ((i + 1 : Nat) : Int) by omega]
    exact ih (i + 1) w1 (by omega) (hf.trans hf1)
theorem RefsLeaks_c {nv rv : Value} {G : Gr} (hG : IsG0 w nv rv G) (h : ∀ w', Fr [] w w' → K (.bool true) w') : C.call Try.prog 6 #[.agg #[nv, rv]] w K := by
  refine F6.sh (GBlk.new0 hG fun b w1 hf1 hb1 hb hG1 => alive35_c fun w2 hf2 => ?_)
  simp only [C.ite_true, C.ite_false, C.pick_true, C.pick_false, C.not_bool, C.field_ptr, C.nilCheck_ptr, C.add_mk, C.sub_mk, C.mul_mk, C.eql_mk, C.neq_mk, C.lss_mk, C.leq_mk, C.gtr_mk, C.geq_mk, C.conv_mk, C.len_mk, C.ext_0, C.ext_1, C.ext3_0, C.ext3_1, C.ext3_2, C.guarded_yes, C.guarded_tf, C.guarded_ft, C.guarded_undef, Bool.not_true, Bool.not_false, Nat.zero_add, eq_self, decide_true, decide_false]
  refine F6.k3.to ((hb.keep hf2 (by simp)).all (few35_c hG (hf1.trans hf2) fun nv' w3 hf3 hG3 => GBlk.set (hb.keep (hf2.trans hf3) (by simp)) (hG3.keep ((hf1.trans hf2).trans hf3)) fun w4 hu => ?_))
  have f04 : Fr [] w w4 := ((hf1.trans hf2).trans hf3).then hu.fr fun x hx => .inr (by simp only [List.mem_singleton] at hx; omega)
  have hG4 := hG3.keep f04
  have hb4 : GBlk w4 b 25 nv' rv := hu.at_
  generalize G.cut 20 = H at *
  refine C.draw_of (fun w' => Fr [] w4 w') fun w5 hf5 _ => ⟨hf5, ?_⟩
  refine C.loadAS_of (vs := [nv', rv]) (fun w' hw => ⟨_, _, _, hb4.keep hw (by simp), by simp, rfl⟩) ?_
  refine C.loadAS_of (vs := [nv', rv]) (fun w' hw => ⟨_, _, _, hb4.keep hw (by simp), by simp, rfl⟩) ?_
  simp only [and_true]
  refine Leaks_c (hG4.keep hf5) fun lv w6 hf6 _ ho6 => ⟨hf5.trans hf6, ?_⟩
  have f6 := hf5.trans hf6
  refine Rings_c (hG4.keep f6) fun gv w7 hf7 _ ho7 => ⟨f6.trans hf7, ?_⟩
  have f7 := f6.trans hf7
  exact rl_out (W := w7) (hG4.keep f7) (hb4.keep f7 (by simp)) (ho6.rd.keep hf7) ho7.rd (fun w' hf' => h w' (f04.trans (f7.trans hf'))) H.leakL.length 0 w7 (by omega) (Fr.refl _ _)
end
end Go.Proofs.YtchonfdnghimdaaV
