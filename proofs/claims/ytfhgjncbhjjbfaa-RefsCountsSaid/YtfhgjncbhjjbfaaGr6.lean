/- A graph without a node, plainly: what the call comes to. -/
import Derived.Test.YtfhgjncbhjjbfaaGr5
namespace Go.Proofs.YtfhgjncbhjjbfaaV
open Go Go.Proofs Go.RowKit
set_option linter.unusedVariables false
set_option linter.unusedSimpArgs false
set_option maxRecDepth 10000
section
variable {K : VK} {w : World}
theorem keepL_succ {G : Gr} {i : Int} {l : List Int} {k : Nat} (h : k < l.length) : G.keepL i (l.take (k + 1)) = G.keepL i (l.take k) ++ if decide (l[k] = i ∧ 0 ≤ i ∧ i < (G.n : Int)) = true then [] else [l[k]] := by
  unfold Gr.keepL
  rw [take_filter_succ h]
  congr 1
  by_cases c : decide (l[k] = i ∧ 0 ≤ i ∧ i < (G.n : Int)) = true
  · simp only [c, if_true]; rfl
  · rw [if_neg c]
    simp only [Bool.not_eq_true] at c
    simp only [c]; rfl
theorem rwo_roots {W1 : World} {G : Gr} {bg b4 bo : Nat} {nv rv nxt : Value} {i : Int} (hG : IsG W1 nv rv G) (hb : GBlk W1 bg 52 nv rv)
    (h : ∀ w rts, GB W1 w bo 52 nxt rts [] [] (G.wo i).roots → F62.k7 K (.int .i64 i) (.pointer (some ⟨bg, 0, none⟩)) (.pointer (some ⟨b4, 0, none⟩)) (.pointer (some ⟨bo, 0, none⟩)) w) :
    ∀ (d k : Nat) (rts : Value) (w : World), G.roots.length = k + d → GB W1 w bo 52 nxt rts [] [] (G.keepL i (G.roots.take k)) →
      F62.l3 K (.int .i64 i) (.pointer (some ⟨bg, 0, none⟩)) (.pointer (some ⟨b4, 0, none⟩)) (.pointer (some ⟨bo, 0, none⟩)) (.int .i64 (k : Int)) w := by
  have hrl := hG.rlen
  intro d
  induction d with
  | zero =>
    intro k rts w hk hB
    refine F62.l3.to ((hb.keep hB.fr (by simp)).roots (C.len_rd (hG.keep hB.fr).roots ?_))
    simp only [C.ite_true, C.ite_false, C.pick_true, C.pick_false, C.not_bool, C.field_ptr, C.nilCheck_ptr, C.add_mk, C.sub_mk, C.mul_mk, C.eql_mk, C.neq_mk, C.lss_mk, C.leq_mk, C.gtr_mk, C.geq_mk, C.conv_mk, C.len_mk, C.ext_0, C.ext_1, C.ext3_0, C.ext3_1, C.ext3_2, C.guarded_yes, C.guarded_tf, C.guarded_ft, C.guarded_undef, Bool.not_true, Bool.not_false, Nat.zero_add, eq_self, decide_true, decide_false, intC_len, show ¬ ((k : Int) < (G.roots.length : Int)) by omega]
    rw [List.take_of_length_le (by omega)] at hB
    exact h w rts hB
  | succ d ih =>
    intro k rts w hk hB
    have hkl : k < G.roots.length := by omega
    refine F62.l3.to ((hb.keep hB.fr (by simp)).roots (C.len_rd (hG.keep hB.fr).roots ?_))
    simp only [C.ite_true, C.ite_false, C.pick_true, C.pick_false, C.not_bool, C.field_ptr, C.nilCheck_ptr, C.add_mk, C.sub_mk, C.mul_mk, C.eql_mk, C.neq_mk, C.lss_mk, C.leq_mk, C.gtr_mk, C.geq_mk, C.conv_mk, C.len_mk, C.ext_0, C.ext_1, C.ext3_0, C.ext3_1, C.ext3_2, C.guarded_yes, C.guarded_tf, C.guarded_ft, C.guarded_undef, Bool.not_true, Bool.not_false, Nat.zero_add, eq_self, decide_true, decide_false, intC_len, show ((k : Int) < (G.roots.length : Int)) by omega]
    have nx : ∀ rts' w', GB W1 w' bo 52 nxt rts' [] [] (G.keepL i (G.roots.take (k + 1))) → F62.k4 K (.int .i64 i) (.pointer (some ⟨bg, 0, none⟩)) (.pointer (some ⟨b4, 0, none⟩)) (.pointer (some ⟨bo, 0, none⟩)) (.int .i64 (k : Int)) w' := by
      intro rts' w' a
      refine F62.k4.to ?_
      simp only [C.ite_true, C.ite_false, C.pick_true, C.pick_false, C.not_bool, C.field_ptr, C.nilCheck_ptr, C.add_mk, C.sub_mk, C.mul_mk, C.eql_mk, C.neq_mk, C.lss_mk, C.leq_mk, C.gtr_mk, C.geq_mk, C.conv_mk, C.len_mk, C.ext_0, C.ext_1, C.ext3_0, C.ext3_1, C.ext3_2, C.guarded_yes, C.guarded_tf, C.guarded_ft, C.guarded_undef, Bool.not_true, Bool.not_false, Nat.zero_add, eq_self, decide_true, decide_false]
      rw [wrap64_id (n := (k : Int) + 1) (by omega), show (k : Int) + 1 = ((k + 1 : Nat) : Int) by omega]
      exact ih (k + 1) rts' w' (by omega) a
    have hsucc := keepL_succ (G := G) (i := i) hkl
    have yes : ∀ w0, Fr [] w w0 → ¬ (G.roots[k] = i ∧ 0 ≤ i ∧ i < (G.n : Int)) → C.draw w0 fun S w11 =>
        C.field 1 (.pointer (some ⟨bo, 0, none⟩)) w11 fun x30 w12 => C.field 1 (.pointer (some ⟨bg, 0, none⟩)) w12 fun x32 w13 => C.load1S S x32 w13 fun x33 w14 => C.idx 1 x33 (.int .i64 (k : Int)) w14 fun x35 w15 => C.load1S S x35 w15 fun x36 w16 =>
        (C.load1 x30 w16 fun x31 w22 => (S w22 ∧ (C.run Try.prog (Instr.buildSlice 44 1 #[(0, x36)]) w22 fun x37 w23 => (S w23 ∧ (C.run Try.prog (Builtin.append_ #[44, 44] 44 #[x31, x37]) w23 fun x38 w24 => (S w24 ∧ C.field 1 (.pointer (some ⟨bo, 0, none⟩)) w24 fun x39 w25 => (C.store 1 x39 x38 w25 fun w26 => (S w26 ∧ F62.k4 K (.int .i64 i) (.pointer (some ⟨bg, 0, none⟩)) (.pointer (some ⟨b4, 0, none⟩)) (.pointer (some ⟨bo, 0, none⟩)) (.int .i64 (k : Int)) w26)) ∧ True)) ∧ True)) ∧ True)) ∧
        ((C.run Try.prog (Instr.buildSlice 44 1 #[(0, x36)]) w16 fun x37 w17 => (S w17 ∧ (C.load1 x30 w17 fun x31 w18 => (S w18 ∧ (C.run Try.prog (Builtin.append_ #[44, 44] 44 #[x31, x37]) w18 fun x38 w19 => (S w19 ∧ C.field 1 (.pointer (some ⟨bo, 0, none⟩)) w19 fun x39 w20 => (C.store 1 x39 x38 w20 fun w21 => (S w21 ∧ F62.k4 K (.int .i64 i) (.pointer (some ⟨bg, 0, none⟩)) (.pointer (some ⟨b4, 0, none⟩)) (.pointer (some ⟨bo, 0, none⟩)) (.int .i64 (k : Int)) w21)) ∧ True)) ∧ True)) ∧ True)) ∧ True) := by
      intro w0 hf0 hc
      refine C.draw_of (fun w' => Fr [] W1 w') fun w1 hf1 he1 => ?_
      have hB1 := (hB.keep hf0).keep hf1
      refine ⟨hB1.fr, ?_⟩
      simp only [C.ite_true, C.ite_false, C.pick_true, C.pick_false, C.not_bool, C.field_ptr, C.nilCheck_ptr, C.add_mk, C.sub_mk, C.mul_mk, C.eql_mk, C.neq_mk, C.lss_mk, C.leq_mk, C.gtr_mk, C.geq_mk, C.conv_mk, C.len_mk, C.ext_0, C.ext_1, C.ext3_0, C.ext3_1, C.ext3_2, C.guarded_yes, C.guarded_tf, C.guarded_ft, C.guarded_undef, Bool.not_true, Bool.not_false, Nat.zero_add, eq_self, decide_true, decide_false, and_true]
      refine C.load1S_of (v := rv) (fun w' hw => ⟨_, _, _, hb.keep hw (by simp), rfl⟩) ?_
      refine C.idx_rdS (S := fun w' => Fr [] W1 w') (fun w' hw => hG.roots.keep hw) hB1.fr (by omega) (by rw [Int.toNat_natCast]; exact intC_get hkl) fun g o hl1 hs1 => ?_
      refine C.load1S_of (v := .int .i64 G.roots[k]) (fun w' hw => by obtain ⟨cs, e, fz, hg, hc⟩ := hs1 w' hw; exact ⟨cs, e, fz, hg, by simpa using hc 0 (by omega)⟩) ?_
      have e1 : G.keepL i (G.roots.take k) ++ [G.roots[k]] = G.keepL i (G.roots.take (k + 1)) := by rw [hsucc, if_neg (by simpa using hc)]
      have fa := (New.mk' w1 (.cells #[.int .i64 G.roots[k]] 3))
      have hlen : (G.keepL i (G.roots.take k)).length ≤ 17592186044415 := Nat.le_trans (keepL_len _ _ _) (by rw [List.length_take]; omega)
      have tail : ∀ (S : World → Prop), (∀ w', Fr [] W1 w' → S w') → C.run Try.prog (Builtin.append_ #[44, 44] 44 #[rts, .slice (some ⟨w1.heap.size, 0, none⟩) 1 1]) (w1.alloc (.cells #[.int .i64 G.roots[k]] 3)) fun x38 w24 => S w24 ∧ C.store 1 (.pointer (some ⟨bo, 1, none⟩)) x38 w24 fun w26 => S w26 ∧ F62.k4 K (.int .i64 i) (.pointer (some ⟨bg, 0, none⟩)) (.pointer (some ⟨b4, 0, none⟩)) (.pointer (some ⟨bo, 0, none⟩)) (.int .i64 (k : Int)) w26 := fun S hS =>
        C.gbRoot hS hB1 hlen fun rts' w' hB' => ⟨hS w' hB'.fr, nx rts' w' (by rw [← e1]; exact hB')⟩
      refine ⟨C.load1_of (v := rts) hB1.hb rfl ⟨hB1.fr, C.run_of (bsI _) ⟨hB1.fr.trans fa.fr, ?_⟩⟩, C.run_of (bsI _) ⟨hB1.fr.trans fa.fr, C.load1_of (v := rts) (fa.fr.at_ hB1.hb (by simp)) rfl ⟨hB1.fr.trans fa.fr, ?_⟩⟩⟩
      · exact tail _ fun _ h => h
      · exact tail _ fun _ h => h
    refine F62.k5.to ((hb.keep hB.fr (by simp)).roots (C.idx_int (hG.keep hB.fr).roots hkl fun g o cs e fz hg hc => C.load1_of hg hc ?_))
    by_cases hk1 : G.roots[k] = i
    · have e1 : ¬ (G.roots[k] ≠ i) := fun c => c hk1
      rw [C.neq_mk, decide_eq_false e1]
      simp only [C.guarded_yes]
      refine (hb.keep hB.fr (by simp)).all (Is_c (hG.keep hB.fr) fun w2 hf2 => ?_)
      simp only [C.not_bool, C.pick_false]
      by_cases hi2 : 0 ≤ i ∧ i < (G.n : Int)
      · rw [decide_eq_true hi2, Bool.not_true, C.ite_false]
        refine nx rts w2 ?_
        rw [hsucc, if_pos (by simp [hk1, hi2]), List.append_nil]
        exact hB.keep hf2
      · rw [decide_eq_false hi2, Bool.not_false, C.ite_true]
        exact yes w2 hf2 fun c => hi2 c.2
    · rw [C.neq_mk, decide_eq_true (show G.roots[k] ≠ i from hk1)]
      simp only [C.guarded_ft, C.pick_true, C.ite_true, C.guarded_undef]
      exact yes w (Fr.refl _ _) fun c => hk1 c.1
/-- A row's part. -/
theorem rwo_row {W1 : World} {G : Gr} {bg b4 bo j : Nat} {nv rv nxt rts : Value} {vs : List Value} {L : List (List Int)} {i : Int} (hG : IsG W1 nv rv G) (hb : GBlk W1 bg 52 nv rv) (hj : j < G.n) (hji : (j : Int) ≠ i)
    (hB0 : GB W1 w bo 52 nxt rts vs L (G.wo i).roots)
    (h : ∀ v w', Fr [] w w' → NewS w v → OwnS w' v 3 1 (intC (G.keepL i (G.row j))) → F62.k16 K (.int .i64 i) (.pointer (some ⟨bg, 0, none⟩)) (.pointer (some ⟨b4, 0, none⟩)) (.pointer (some ⟨bo, 0, none⟩)) (.int .i64 (j : Int)) v w') :
    ∀ (d k : Nat) (v : Value) (w' : World), (G.row j).length = k + d → Fr [] w w' → NewS w v → OwnS w' v 3 1 (intC (G.keepL i ((G.row j).take k))) →
      F62.l12 K (.int .i64 i) (.pointer (some ⟨bg, 0, none⟩)) (.pointer (some ⟨b4, 0, none⟩)) (.pointer (some ⟨bo, 0, none⟩)) (.int .i64 (j : Int)) v (.int .i64 (k : Int)) w' := by
  have hrl := row_len hG j
  intro d
  induction d with
  | zero =>
    intro k v w' hk hf hn ho
    have fr := hB0.fr.trans hf
    refine F62.l12.to ((hb.keep fr (by simp)).row (hG.keep fr) hj fun rw_ hrw => C.len_rd hrw ?_)
    simp only [C.ite_true, C.ite_false, C.pick_true, C.pick_false, C.not_bool, C.field_ptr, C.nilCheck_ptr, C.add_mk, C.sub_mk, C.mul_mk, C.eql_mk, C.neq_mk, C.lss_mk, C.leq_mk, C.gtr_mk, C.geq_mk, C.conv_mk, C.len_mk, C.ext_0, C.ext_1, C.ext3_0, C.ext3_1, C.ext3_2, C.guarded_yes, C.guarded_tf, C.guarded_ft, C.guarded_undef, Bool.not_true, Bool.not_false, Nat.zero_add, eq_self, decide_true, decide_false, intC_len, show ¬ ((k : Int) < ((G.row j).length : Int)) by omega]
    rw [List.take_of_length_le (by omega)] at ho
    exact h v w' hf hn ho
  | succ d ih =>
    intro k v w' hk hf hn ho
    have hkl : k < (G.row j).length := by omega
    have fr := hB0.fr.trans hf
    refine F62.l12.to ((hb.keep fr (by simp)).row (hG.keep fr) hj fun rw_ hrw => C.len_rd hrw ?_)
    have hji' : (j : Int) ≠ i := hji
    simp only [C.ite_true, C.ite_false, C.pick_true, C.pick_false, C.not_bool, C.field_ptr, C.nilCheck_ptr, C.add_mk, C.sub_mk, C.mul_mk, C.eql_mk, C.neq_mk, C.lss_mk, C.leq_mk, C.gtr_mk, C.geq_mk, C.conv_mk, C.len_mk, C.ext_0, C.ext_1, C.ext3_0, C.ext3_1, C.ext3_2, C.guarded_yes, C.guarded_tf, C.guarded_ft, C.guarded_undef, Bool.not_true, Bool.not_false, Nat.zero_add, eq_self, decide_true, decide_false, intC_len, show ((k : Int) < ((G.row j).length : Int)) by omega, ne_eq, hji, not_false_eq_true]
    have hsucc := keepL_succ (G := G) (i := i) hkl
    have hlen : (G.keepL i ((G.row j).take k)).length ≤ 17592186044415 := Nat.le_trans (keepL_len _ _ _) (by rw [List.length_take]; omega)
    have nx : ∀ v' w'', Fr [] w w'' → NewS w v' → OwnS w'' v' 3 1 (intC (G.keepL i ((G.row j).take (k + 1)))) → F62.k13 K (.int .i64 i) (.pointer (some ⟨bg, 0, none⟩)) (.pointer (some ⟨b4, 0, none⟩)) (.pointer (some ⟨bo, 0, none⟩)) (.int .i64 (j : Int)) v' (.int .i64 (k : Int)) w'' := by
      intro v' w'' a b c
      refine F62.k13.to ?_
      simp only [C.ite_true, C.ite_false, C.pick_true, C.pick_false, C.not_bool, C.field_ptr, C.nilCheck_ptr, C.add_mk, C.sub_mk, C.mul_mk, C.eql_mk, C.neq_mk, C.lss_mk, C.leq_mk, C.gtr_mk, C.geq_mk, C.conv_mk, C.len_mk, C.ext_0, C.ext_1, C.ext3_0, C.ext3_1, C.ext3_2, C.guarded_yes, C.guarded_tf, C.guarded_ft, C.guarded_undef, Bool.not_true, Bool.not_false, Nat.zero_add, eq_self, decide_true, decide_false]
      rw [wrap64_id (n := (k : Int) + 1) (by omega), show (k : Int) + 1 = ((k + 1 : Nat) : Int) by omega]
      exact ih (k + 1) v' w'' (by omega) a b c
    have yes : ∀ w0, Fr [] w' w0 → ¬ ((G.row j)[k] = i ∧ 0 ≤ i ∧ i < (G.n : Int)) → C.field 0 (.pointer (some ⟨bg, 0, none⟩)) w0 fun x79 w13 => C.load1 x79 w13 fun x80 w14 => C.idx 1 x80 (.int .i64 (j : Int)) w14 fun x82 w15 => C.load1 x82 w15 fun x83 w16 =>
        C.idx 1 x83 (.int .i64 (k : Int)) w16 fun x85 w17 => C.load1 x85 w17 fun x86 w18 => C.run Try.prog (Instr.buildSlice 44 1 #[(0, x86)]) w18 fun x87 w19 => C.run Try.prog (Builtin.append_ #[44, 44] 44 #[v, x87]) w19 fun x88 w20 =>
        F62.k13 K (.int .i64 i) (.pointer (some ⟨bg, 0, none⟩)) (.pointer (some ⟨b4, 0, none⟩)) (.pointer (some ⟨bo, 0, none⟩)) (.int .i64 (j : Int)) x88 (.int .i64 (k : Int)) w20 := by
      intro w0 hf0 hc
      refine (hb.keep (fr.trans hf0) (by simp)).row (hG.keep (fr.trans hf0)) hj fun rw2 hrw2 => C.idx_int hrw2 hkl fun g o cs e fz hg hcell => C.load1_of hg hcell ?_
      refine C.appInt (hf.trans hf0) hn (ho.keep hf0 (by simp)) hlen fun v' w2 hf2 hn2 ho2 _ => nx v' w2 hf2 hn2 ?_
      rw [hsucc, if_neg (by simpa using hc)]
      exact ho2
    refine F62.k14.to ((hb.keep fr (by simp)).row (hG.keep fr) hj fun rw2 hrw2 => C.idx_int hrw2 hkl fun g o cs e fz hg hc => C.load1_of hg hc ?_)
    by_cases hk1 : (G.row j)[k] = i
    · have e1 : ¬ ((G.row j)[k] ≠ i) := fun c => c hk1
      rw [C.neq_mk, decide_eq_false e1]
      simp only [C.guarded_yes]
      refine (hb.keep fr (by simp)).all (Is_c (hG.keep fr) fun w2 hf2 => ?_)
      simp only [C.not_bool, C.pick_false]
      by_cases hi2 : 0 ≤ i ∧ i < (G.n : Int)
      · rw [decide_eq_true hi2, Bool.not_true, C.ite_false]
        refine nx v w2 (hf.trans hf2) hn ?_
        rw [hsucc, if_pos (by simp [hk1, hi2]), List.append_nil]
        exact ho.keep hf2 (by simp)
      · rw [decide_eq_false hi2, Bool.not_false, C.ite_true]
        exact yes w2 hf2 fun c => hi2 c.2
    · rw [C.neq_mk, decide_eq_true (show (G.row j)[k] ≠ i from hk1)]
      simp only [C.guarded_ft, C.pick_true, C.ite_true, C.guarded_undef]
      exact yes w' (Fr.refl _ _) fun c => hk1 c.1
theorem rwo_rows {W1 : World} {G : Gr} {bg b4 bo : Nat} {nv rv rts : Value} {i : Int} (hG : IsG W1 nv rv G) (hb : GBlk W1 bg 52 nv rv)
    (h : ∀ w nxt vs, GB W1 w bo 52 nxt rts vs (G.wo i).next (G.wo i).roots → F62.k17 K (.pointer (some ⟨b4, 0, none⟩)) (.pointer (some ⟨bo, 0, none⟩)) w) :
    ∀ (d k : Nat) (nxt : Value) (vs : List Value) (w : World), G.n = k + d → GB W1 w bo 52 nxt rts vs ((G.wo i).next.take k) (G.wo i).roots →
      F62.l8 K (.int .i64 i) (.pointer (some ⟨bg, 0, none⟩)) (.pointer (some ⟨b4, 0, none⟩)) (.pointer (some ⟨bo, 0, none⟩)) (.int .i64 (k : Int)) w := by
  have hfew := hG.few
  intro d
  induction d with
  | zero =>
    intro k nxt vs w hk hB
    refine F62.l8.to ((hb.keep hB.fr (by simp)).next ((hG.keep hB.fr).len_next ?_))
    simp only [C.ite_true, C.ite_false, C.pick_true, C.pick_false, C.not_bool, C.field_ptr, C.nilCheck_ptr, C.add_mk, C.sub_mk, C.mul_mk, C.eql_mk, C.neq_mk, C.lss_mk, C.leq_mk, C.gtr_mk, C.geq_mk, C.conv_mk, C.len_mk, C.ext_0, C.ext_1, C.ext3_0, C.ext3_1, C.ext3_2, C.guarded_yes, C.guarded_tf, C.guarded_ft, C.guarded_undef, Bool.not_true, Bool.not_false, Nat.zero_add, eq_self, decide_true, decide_false, show ¬ ((k : Int) < (G.n : Int)) by omega]
    rw [List.take_of_length_le (by have : (G.wo i).next.length = G.n := wo_n G i; omega)] at hB
    exact h w nxt vs hB
  | succ d ih =>
    intro k nxt vs w hk hB
    have hkn : k < G.n := by omega
    have hkw : k < (G.wo i).next.length := by have : (G.wo i).next.length = G.n := wo_n G i; omega
    refine F62.l8.to ((hb.keep hB.fr (by simp)).next ((hG.keep hB.fr).len_next ?_))
    simp only [C.ite_true, C.ite_false, C.pick_true, C.pick_false, C.not_bool, C.field_ptr, C.nilCheck_ptr, C.add_mk, C.sub_mk, C.mul_mk, C.eql_mk, C.neq_mk, C.lss_mk, C.leq_mk, C.gtr_mk, C.geq_mk, C.conv_mk, C.len_mk, C.ext_0, C.ext_1, C.ext3_0, C.ext3_1, C.ext3_2, C.guarded_yes, C.guarded_tf, C.guarded_ft, C.guarded_undef, Bool.not_true, Bool.not_false, Nat.zero_add, eq_self, decide_true, decide_false, show ((k : Int) < (G.n : Int)) by omega]
    have tail : ∀ u w', Fr [] w w' → NewS w u → OwnS w' u 3 1 (intC (G.wo i).next[k]) → F62.k16 K (.int .i64 i) (.pointer (some ⟨bg, 0, none⟩)) (.pointer (some ⟨b4, 0, none⟩)) (.pointer (some ⟨bo, 0, none⟩)) (.int .i64 (k : Int)) u w' := by
      intro u w2 hf2 hn2 ho2
      have hB2 := hB.keep hf2
      obtain ⟨A, c, hu⟩ := ho2.len
      rw [intC_len] at hu
      subst hu
      have b1 := lt_of_at hB.hb
      have b2 := hB.hn.mem_lt
      have b3 := hB.hr.mem_lt
      refine F62.k16.to ?_
      simp only [C.ite_true, C.ite_false, C.pick_true, C.pick_false, C.not_bool, C.field_ptr, C.nilCheck_ptr, C.add_mk, C.sub_mk, C.mul_mk, C.eql_mk, C.neq_mk, C.lss_mk, C.leq_mk, C.gtr_mk, C.geq_mk, C.conv_mk, C.len_mk, C.ext_0, C.ext_1, C.ext3_0, C.ext3_1, C.ext3_2, C.guarded_yes, C.guarded_tf, C.guarded_ft, C.guarded_undef, Bool.not_true, Bool.not_false, Nat.zero_add, eq_self, decide_true, decide_false]
      refine C.load1_of (v := nxt) hB2.hb rfl (C.run_of (bsS _ _ _) ?_)
      refine C.gbRow hB2 ho2.rd (fun g hg => ?_) (by rw [List.length_take]; omega) fun nxt' w' hB' => ?_
      · have h1 := ho2.mem_lt g hg
        have h2 := hn2.blk g hg
        have hs := hB.fr.size
        exact ⟨⟨by omega, h1⟩, by omega, fun c => by have := b2 g c; omega, fun c => by have := b3 g c; omega⟩
      · refine F62.k9.to ?_
        simp only [C.ite_true, C.ite_false, C.pick_true, C.pick_false, C.not_bool, C.field_ptr, C.nilCheck_ptr, C.add_mk, C.sub_mk, C.mul_mk, C.eql_mk, C.neq_mk, C.lss_mk, C.leq_mk, C.gtr_mk, C.geq_mk, C.conv_mk, C.len_mk, C.ext_0, C.ext_1, C.ext3_0, C.ext3_1, C.ext3_2, C.guarded_yes, C.guarded_tf, C.guarded_ft, C.guarded_undef, Bool.not_true, Bool.not_false, Nat.zero_add, eq_self, decide_true, decide_false]
        rw [wrap64_id (n := (k : Int) + 1) (by omega), show (k : Int) + 1 = ((k + 1 : Nat) : Int) by omega]
        refine ih (k + 1) nxt' (vs ++ [.slice A (G.wo i).next[k].length c]) w' (by omega) ?_
        rw [List.take_succ_eq_append_getElem hkw]
        exact hB'
    have hwg := wo_get (G := G) (i := i) hkw
    refine F62.k10.to ?_
    by_cases hki : (k : Int) = i
    · rw [if_pos hki] at hwg
      refine F62.l12.to ((hb.keep hB.fr (by simp)).row (hG.keep hB.fr) hkn fun rw_ hrw => C.len_rd hrw ?_)
      have fin := tail (.slice none 0 0) w (Fr.refl _ _) (NewS.nil _) (by rw [hwg]; exact OwnS.nil _ _ _)
      by_cases h0 : (0 : Int) < ((G.row k).length : Int)
      · have e : ¬ ((k : Int) ≠ i) := fun c => c hki
        simp only [C.ite_true, C.ite_false, C.pick_true, C.pick_false, C.not_bool, C.field_ptr, C.nilCheck_ptr, C.add_mk, C.sub_mk, C.mul_mk, C.eql_mk, C.neq_mk, C.lss_mk, C.leq_mk, C.gtr_mk, C.geq_mk, C.conv_mk, C.len_mk, C.ext_0, C.ext_1, C.ext3_0, C.ext3_1, C.ext3_2, C.guarded_yes, C.guarded_tf, C.guarded_ft, C.guarded_undef, Bool.not_true, Bool.not_false, Nat.zero_add, eq_self, decide_true, decide_false, intC_len, h0, e]
        exact fin
      · simp only [C.ite_true, C.ite_false, C.pick_true, C.pick_false, C.not_bool, C.field_ptr, C.nilCheck_ptr, C.add_mk, C.sub_mk, C.mul_mk, C.eql_mk, C.neq_mk, C.lss_mk, C.leq_mk, C.gtr_mk, C.geq_mk, C.conv_mk, C.len_mk, C.ext_0, C.ext_1, C.ext3_0, C.ext3_1, C.ext3_2, C.guarded_yes, C.guarded_tf, C.guarded_ft, C.guarded_undef, Bool.not_true, Bool.not_false, Nat.zero_add, eq_self, decide_true, decide_false, intC_len, h0]
        exact fin
    · rw [if_neg hki] at hwg
      have hrow : G.row k = G.next[k] := row_get hkn
      refine rwo_row hG hb hkn hki hB (fun v w' hf hn ho => tail v w' hf hn ?_) (G.row k).length 0 _ w (by omega) (Fr.refl _ _) (NewS.nil _) ?_
      · rw [hwg]; rw [hrow] at ho; exact ho
      · exact OwnS.nil _ _ _
theorem refWithout_c {nv rv : Value} {G : Gr} {i : Int} (hG : IsG w nv rv G) (h : ∀ nv' rv' w', Fr [] w w' → IsG w' nv' rv' (G.wo i) → K (.agg #[nv', rv']) w') : C.call Try.prog 62 #[.agg #[nv, rv], .int .i64 i] w K := by
  refine F62.sh (GBlk.new hG fun bg w1 hf1 hb1 hb hG1 => C.new_of fun b4 w3 hw3 => C.new_of fun bo w4 hw4 => ?_)
  have hG3 := hG1.keep hw3.fr
  have hbg3 := hb.keep hw3.fr (by simp)
  have b4' := hw4.is
  have b4'' := hw4.sz
  have b3' := hw3.is
  have b3'' := hw3.sz
  have s1 := hf1.size
  obtain ⟨o1, o2, o3⟩ := wo_ok (i := i) hG
  refine rwo_roots hG3 hbg3 (fun w6 rts hB6 => F62.k7.to ?_) G.roots.length 0 _ w4 (by omega) (GB.start hw4.fr (by omega) hw4.at_)
  refine rwo_rows hG3 hbg3 (fun w7 nxt vs hB7 => F62.k17.to (C.loadA_all hB7.hb rfl ?_)) G.n 0 _ _ w6 (by omega) hB6
  have hI := hB7.isG o1 o2 o3
  refine C.store_all (hB7.fr.at_ hw3.at_ (by simp)) (by rw [hI.cells]; rfl) hI.ones (by rfl) fun w8 hu8 => ?_
  have hat := hu8.at_
  rw [hI.cells] at hat
  refine C.loadA_all hat rfl (h nxt rts w8 ?_ (hB7.isG' hu8.fr (by simp; omega) o1 o2 o3))
  exact ((hf1.trans hw3.fr).trans hB7.fr).then hu8.fr fun x hx => .inr (by simp only [List.mem_singleton] at hx; omega)
end
end Go.Proofs.YtfhgjncbhjjbfaaV
