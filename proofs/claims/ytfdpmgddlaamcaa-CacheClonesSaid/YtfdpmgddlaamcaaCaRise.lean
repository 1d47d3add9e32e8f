/- scutageplain.Rising: the numbers of a list, each once, rising. -/
import Derived.Test.YtfdpmgddlaamcaaCaL
import Derived.Test.YtfdpmgddlaamcaaLibSortI
import Derived.Test.YtfdpmgddlaamcaaLibSl
import Derived.Test.YtfdpmgddlaamcaaGRise
namespace Go.Proofs.YtfdpmgddlaamcaaV
open Go Go.Proofs Go.RowKit
set_option linter.unusedVariables false
set_option linter.unusedSimpArgs false
set_option maxRecDepth 10000
theorem intC_take (l : List Int) (j : Nat) : (intC l).take j = intC (l.take j) := by simp [intC, List.map_take]
section
variable {K : VK} {w : World}
theorem C.idx_intS {S : World → Prop} {v : Value} {l : List Int} {i : Nat} (h : ∀ w', S w' → RdS w' v 1 (intC l)) (hS : S w) (hi : i < l.length) (hk : ∀ g o, (∀ w', S w' → ∃ cs e fz, w'.heap[g]? = some (.cells cs e fz) ∧ cs[o]? = some (.int .i64 l[i])) → K (.pointer (some ⟨g, o, none⟩)) w) :
    C.idx 1 v (.int .i64 (i : Int)) w K :=
  C.idx_rdS h hS (by omega) (by rw [Int.toNat_natCast]; exact intC_get hi) fun g o _ hs => hk g o fun w' hw => by
    obtain ⟨cs, e, fz, hg, hc⟩ := hs w' hw
    exact ⟨cs, e, fz, hg, by simpa using hc 0 (by omega)⟩
/-! ### Rising -/
theorem rise_in {W1 : World} {lv ov : Value} {l out : List Int} {i : Nat} (hl : RdS W1 lv 1 (intC l)) (hil : i < l.length) (hol : out.length ≤ 3000) (hso : out.Pairwise (· < ·))
    (h : ∀ v w' a, Fr [] W1 w' → NewS W1 v → a ≤ out.length → (∀ x ∈ out.take a, x < l[i]) → (∀ x ∈ out.drop a, l[i] ≤ x) → OwnS w' v 3 1 (intC (out.take a ++ [l[i]] ++ out.drop a)) → F53.k4 K lv v (.int .i64 (i : Int)) w') :
    ∀ (d a : Nat) (w : World), out.length = a + d → (∀ x ∈ out.take a, x < l[i]) → Fr [] W1 w → NewS W1 ov → OwnS w ov 3 1 (intC out) → F53.l7 K lv ov (.int .i64 (i : Int)) (.int .i64 (a : Int)) w := by
  -- the number put in its place
  have put : ∀ (a : Nat) (w : World), a ≤ out.length → (∀ x ∈ out.take a, x < l[i]) → (∀ x ∈ out.drop a, l[i] ≤ x) → Fr [] W1 w → NewS W1 ov → OwnS w ov 3 1 (intC out) → C.run Try.prog (Instr.sliceAt 34 ov none (some (.int .i64 (a : Int))) none) w fun x39 w14 =>
      C.run Try.prog (Builtin.append_ #[34, 34] 34 #[(.slice none 0 0), x39]) w14 fun x40 w15 => C.idx 1 lv (.int .i64 (i : Int)) w15 fun x44 w16 => C.load1 x44 w16 fun x45 w17 =>
      C.run Try.prog (Instr.buildSlice 34 1 #[(0, x45)]) w17 fun x46 w18 => C.run Try.prog (Builtin.append_ #[34, 34] 34 #[x40, x46]) w18 fun x47 w19 =>
      C.run Try.prog (Instr.sliceAt 34 ov (some (.int .i64 (a : Int))) none none) w19 fun x51 w20 => C.run Try.prog (Builtin.append_ #[34, 34] 34 #[x47, x51]) w20 fun x52 w21 => F53.k4 K lv x52 (.int .i64 (i : Int)) w21 := by
    intro a w ha hlo hhi hf hn ho
    have hord := ho.rd
    have lo := ho.mem_lt
    obtain ⟨A, c, rfl, hc, _⟩ := ho.cap
    rw [intC_len] at *
    refine C.run_of (sliceTo_run (sz := 1) _ _ _ _ _ Try.underlying34 (by kernel_rfl) (by omega) (by omega)) ?_
    rw [Int.toNat_natCast]
    have hsrc := hord.take a ha
    rw [intC_take] at hsrc
    refine C.append_of (xs := []) (ys := intC (out.take a)) (e := 3) (sz := 1) (bytes := 8) (z := .int .i64 0) Try.underlying34 (by kernel_rfl) rfl (by decide) (OwnS.nil w _ _) hsrc intC_one (by rw [intC_len]; simp; omega) (by rw [intC_len]; simp; omega) fun v1 w1 ho1 hf1 hb1 _ => ?_
    have f1 : Fr [] w w1 := hf1.mono (by simp [blkS, Value.ownBlock])
    have n1 : NewS w v1 := fun g hg => by
      rcases hb1 with e | ⟨g', e, e'⟩
      · rw [e] at hg; simp [Value.ownBlock] at hg
      · rw [hg] at e; simp only [Option.some.injEq] at e; omega
    rw [List.nil_append] at ho1
    refine C.idx_int (hl.keep (hf.trans f1)) hil fun g o cs e fz hg hcell => C.load1_of hg hcell (C.appI f1 n1 ho1 (by simp; omega) fun v2 w2 hf2 hn2 ho2 _ _ => ?_)
    have r3 := sliceFrom_run (P := Try.prog) (w := w2) (t := 34) (e := 3) (sz := 1) A out.length c .i64 (a : Int) Try.underlying34 (by kernel_rfl) (by omega) (by omega)
    rw [Int.toNat_natCast] at r3
    refine C.run_of r3 ?_
    have hsrc2 := (hord.keep hf2).drop a ha
    have e : (intC out).drop a = intC (out.drop a) := by simp [intC, List.map_drop]
    rw [e] at hsrc2
    refine C.append_of (xs := intC (out.take a ++ [l[i]])) (ys := intC (out.drop a)) (e := 3) (sz := 1) (bytes := 8) (z := .int .i64 0) Try.underlying34 (by kernel_rfl) rfl (by decide) ho2 hsrc2 intC_one (by rw [intC_len, intC_len]; simp; omega) (by rw [intC_len, intC_len]; simp; omega) fun v3 w3 ho3 hf3 hb3 _ => ?_
    refine h v3 w3 a (hf.trans (hf2.then hf3 fun g hg => .inr (hn2.blk g hg))) (fun g hg => ?_) ha hlo hhi (by rw [intC_app]; exact ho3)
    have s1 := hf.size
    have s2 := hf2.size
    rcases hb3 with e | ⟨g', e, e'⟩
    · have := hn2 g (by rw [← e]; exact hg); omega
    · rw [hg] at e; simp only [Option.some.injEq] at e; omega
  intro d
  induction d with
  | zero =>
    intro a w ha hlo hf hn ho
    refine F53.l7.to (C.draw_of (fun _ => True) fun w1 hf1 he1 => ⟨trivial, C.len_rd (ho.keep hf1 (by simp)).rd ?_⟩)
    rw [intC_len]
    simp only [C.ite_true, C.ite_false, C.pick_true, C.pick_false, C.not_bool, C.field_ptr, C.nilCheck_ptr, C.add_mk, C.sub_mk, C.mul_mk, C.eql_mk, C.neq_mk, C.lss_mk, C.leq_mk, C.gtr_mk, C.geq_mk, C.conv_mk, C.len_mk, C.ext_0, C.ext_1, C.ext3_0, C.ext3_1, C.ext3_2, C.guarded_yes, C.guarded_tf, C.guarded_ft, C.guarded_undef, Bool.not_true, Bool.not_false, Nat.zero_add, eq_self, decide_true, decide_false, show ¬ ((a : Int) < (out.length : Int)) by omega]
    exact put a w1 (by omega) hlo (fun x hx => by rw [List.drop_of_length_le (by omega)] at hx; cases hx) (hf.trans hf1) hn (ho.keep hf1 (by simp))
  | succ d ih =>
    intro a w ha hlo hf hn ho
    have hao : a < out.length := by omega
    refine F53.l7.to (C.draw_of (fun w' => Fr [] W1 w' ∧ OwnS w' ov 3 1 (intC out)) fun w1 hf1 he1 => ⟨⟨hf.trans hf1, ho.keep hf1 (by simp)⟩, C.len_rd (ho.keep hf1 (by simp)).rd ?_⟩)
    have hS : Fr [] W1 w1 ∧ OwnS w1 ov 3 1 (intC out) := ⟨hf.trans hf1, ho.keep hf1 (by simp)⟩
    rw [intC_len]
    simp only [C.ite_true, C.ite_false, C.pick_true, C.pick_false, C.not_bool, C.field_ptr, C.nilCheck_ptr, C.add_mk, C.sub_mk, C.mul_mk, C.eql_mk, C.neq_mk, C.lss_mk, C.leq_mk, C.gtr_mk, C.geq_mk, C.conv_mk, C.len_mk, C.ext_0, C.ext_1, C.ext3_0, C.ext3_1, C.ext3_2, C.guarded_yes, C.guarded_tf, C.guarded_ft, C.guarded_undef, Bool.not_true, Bool.not_false, Nat.zero_add, eq_self, decide_true, decide_false, show ((a : Int) < (out.length : Int)) by omega]
    refine C.idx_intS (S := fun w' => Fr [] W1 w' ∧ OwnS w' ov 3 1 (intC out)) (fun w' hw => hw.2.rd) hS hao fun g o hs => C.idx_intS (S := fun w' => Fr [] W1 w' ∧ OwnS w' ov 3 1 (intC out)) (fun w' hw => hl.keep hw.1) hS hil fun g' o' hs' => C.load1S_of hs (C.load1S_of hs' ?_)
    simp only [C.ite_true, C.ite_false, C.pick_true, C.pick_false, C.not_bool, C.field_ptr, C.nilCheck_ptr, C.add_mk, C.sub_mk, C.mul_mk, C.eql_mk, C.neq_mk, C.lss_mk, C.leq_mk, C.gtr_mk, C.geq_mk, C.conv_mk, C.len_mk, C.ext_0, C.ext_1, C.ext3_0, C.ext3_1, C.ext3_2, C.guarded_yes, C.guarded_tf, C.guarded_ft, C.guarded_undef, Bool.not_true, Bool.not_false, Nat.zero_add, eq_self, decide_true, decide_false]
    by_cases hlt : out[a] < l[i]
    · simp only [C.ite_true, C.ite_false, C.pick_true, C.pick_false, C.not_bool, C.field_ptr, C.nilCheck_ptr, C.add_mk, C.sub_mk, C.mul_mk, C.eql_mk, C.neq_mk, C.lss_mk, C.leq_mk, C.gtr_mk, C.geq_mk, C.conv_mk, C.len_mk, C.ext_0, C.ext_1, C.ext3_0, C.ext3_1, C.ext3_2, C.guarded_yes, C.guarded_tf, C.guarded_ft, C.guarded_undef, Bool.not_true, Bool.not_false, Nat.zero_add, eq_self, decide_true, decide_false, hlt]
      refine F53.k8.to ?_
      simp only [C.ite_true, C.ite_false, C.pick_true, C.pick_false, C.not_bool, C.field_ptr, C.nilCheck_ptr, C.add_mk, C.sub_mk, C.mul_mk, C.eql_mk, C.neq_mk, C.lss_mk, C.leq_mk, C.gtr_mk, C.geq_mk, C.conv_mk, C.len_mk, C.ext_0, C.ext_1, C.ext3_0, C.ext3_1, C.ext3_2, C.guarded_yes, C.guarded_tf, C.guarded_ft, C.guarded_undef, Bool.not_true, Bool.not_false, Nat.zero_add, eq_self, decide_true, decide_false]
      rw [wrap64_id (n := (a : Int) + 1) (by omega), show (a : Int) + 1 = ((a + 1 : Nat) : Int) by omega]
      refine ih (a + 1) w1 (by omega) (fun x hx => ?_) hS.1 hn hS.2
      rw [List.take_succ_eq_append_getElem hao, List.mem_append, List.mem_singleton] at hx
      rcases hx with c | rfl
      · exact hlo x c
      · exact hlt
    · simp only [C.ite_true, C.ite_false, C.pick_true, C.pick_false, C.not_bool, C.field_ptr, C.nilCheck_ptr, C.add_mk, C.sub_mk, C.mul_mk, C.eql_mk, C.neq_mk, C.lss_mk, C.leq_mk, C.gtr_mk, C.geq_mk, C.conv_mk, C.len_mk, C.ext_0, C.ext_1, C.ext3_0, C.ext3_1, C.ext3_2, C.guarded_yes, C.guarded_tf, C.guarded_ft, C.guarded_undef, Bool.not_true, Bool.not_false, Nat.zero_add, eq_self, decide_true, decide_false, hlt]
      refine put a w1 (by omega) hlo (fun x hx => ?_) hS.1 hn hS.2
      obtain ⟨k, hk, rfl⟩ := List.getElem_of_mem hx
      rw [List.getElem_drop]
      rw [List.length_drop] at hk
      rcases Nat.eq_zero_or_pos k with e | e
      · subst e; simp only [Nat.add_zero]; omega
      · have := List.pairwise_iff_getElem.1 hso a (a + k) hao (by omega) (by omega); omega
theorem rise_loop {W1 : World} {lv : Value} {l : List Int} (hl : RdS W1 lv 1 (intC l)) (hll : l.length ≤ 2048) (hnd : l.Nodup) (h : ∀ v w', Fr [] W1 w' → OwnS w' v 3 1 (intC (srt l)) → K v w') :
    ∀ (d i : Nat) (ov : Value) (out : List Int) (w : World), l.length = i + d → Fr [] W1 w → NewS W1 ov → OwnS w ov 3 1 (intC out) → out.Pairwise (· < ·) → out.Perm (l.take i) → F53.l3 K lv ov (.int .i64 (i : Int)) w := by
  intro d
  induction d with
  | zero =>
    intro i ov out w hi hf hn ho hs hm
    refine F53.l3.to (C.len_rd (hl.keep hf) ?_)
    rw [intC_len]
    simp only [C.ite_true, C.ite_false, C.pick_true, C.pick_false, C.not_bool, C.field_ptr, C.nilCheck_ptr, C.add_mk, C.sub_mk, C.mul_mk, C.eql_mk, C.neq_mk, C.lss_mk, C.leq_mk, C.gtr_mk, C.geq_mk, C.conv_mk, C.len_mk, C.ext_0, C.ext_1, C.ext3_0, C.ext3_1, C.ext3_2, C.guarded_yes, C.guarded_tf, C.guarded_ft, C.guarded_undef, Bool.not_true, Bool.not_false, Nat.zero_add, eq_self, decide_true, decide_false, show ¬ ((i : Int) < (l.length : Int)) by omega]
    rw [List.take_of_length_le (by omega)] at hm
    refine F53.k14.to (h ov w hf ?_)
    rw [srt_is hs hm]
    exact ho
  | succ d ih =>
    intro i ov out w hi hf hn ho hs hm
    have hil : i < l.length := by omega
    have hol : out.length = i := by have := hm.length_eq; rw [List.length_take] at this; omega
    refine F53.l3.to (C.len_rd (hl.keep hf) ?_)
    rw [intC_len]
    simp only [C.ite_true, C.ite_false, C.pick_true, C.pick_false, C.not_bool, C.field_ptr, C.nilCheck_ptr, C.add_mk, C.sub_mk, C.mul_mk, C.eql_mk, C.neq_mk, C.lss_mk, C.leq_mk, C.gtr_mk, C.geq_mk, C.conv_mk, C.len_mk, C.ext_0, C.ext_1, C.ext3_0, C.ext3_1, C.ext3_2, C.guarded_yes, C.guarded_tf, C.guarded_ft, C.guarded_undef, Bool.not_true, Bool.not_false, Nat.zero_add, eq_self, decide_true, decide_false, show ((i : Int) < (l.length : Int)) by omega]
    have hnot : ¬ (l[i] ∈ out) := fun c => by
      obtain ⟨k, hk, e⟩ := List.getElem_of_mem (hm.mem_iff.1 c)
      rw [List.getElem_take] at e
      rw [List.length_take] at hk
      exact absurd e (List.pairwise_iff_getElem.1 (List.nodup_iff_pairwise_ne.1 hnd) k i (by omega) hil (by omega))
    refine F53.k5.to (C.idx_int (hl.keep hf) hil fun g o cs e fz hg hc => C.load1_of hg hc (In_c ho.rd ?_))
    rw [decide_eq_false hnot, C.ite_false]
    refine F53.k6.to (rise_in (i := i) (out := out) hl hil (by omega) hs (fun v w' a hf' hn' ha hlo hhi ho' => F53.k4.to ?_) out.length 0 w (by omega) (fun x hx => by simp at hx) hf hn ho)
    simp only [C.ite_true, C.ite_false, C.pick_true, C.pick_false, C.not_bool, C.field_ptr, C.nilCheck_ptr, C.add_mk, C.sub_mk, C.mul_mk, C.eql_mk, C.neq_mk, C.lss_mk, C.leq_mk, C.gtr_mk, C.geq_mk, C.conv_mk, C.len_mk, C.ext_0, C.ext_1, C.ext3_0, C.ext3_1, C.ext3_2, C.guarded_yes, C.guarded_tf, C.guarded_ft, C.guarded_undef, Bool.not_true, Bool.not_false, Nat.zero_add, eq_self, decide_true, decide_false]
    rw [wrap64_id (n := (i : Int) + 1) (by omega), show (i : Int) + 1 = ((i + 1 : Nat) : Int) by omega]
    refine ih (i + 1) v _ w' (by omega) hf' hn' ho' ?_ ?_
    · rw [List.append_assoc, List.singleton_append]
      have h1 : (out.take a ++ out.drop a).Pairwise (· < ·) := by rw [List.take_append_drop]; exact hs
      obtain ⟨p1, p2, p3⟩ := List.pairwise_append.1 h1
      have hhi' : ∀ x ∈ out.drop a, l[i] < x := fun x hx => by
        have h2 := hhi x hx
        have : x ≠ l[i] := fun e => hnot (e ▸ List.mem_of_mem_drop hx)
        omega
      refine List.pairwise_append.2 ⟨p1, List.pairwise_cons.2 ⟨hhi', p2⟩, fun x hx y hy => ?_⟩
      rcases List.mem_cons.1 hy with rfl | hy
      · exact hlo x hx
      · exact p3 x hx y hy
    · rw [List.take_succ_eq_append_getElem hil]
      have e : out.take a ++ [l[i]] ++ out.drop a = out.take a ++ ([l[i]] ++ out.drop a) := by simp
      rw [e]
      refine (List.Perm.append_left _ List.perm_append_comm).trans ?_
      rw [← List.append_assoc, List.take_append_drop]
      exact hm.append_right _
theorem Rising_c {lv : Value} {l : List Int} (hl : RdS w lv 1 (intC l)) (hll : l.length ≤ 2048) (hnd : l.Nodup) (h : ∀ v w', Fr [] w w' → OwnS w' v 3 1 (intC (srt l)) → K v w') : C.call Try.prog 53 #[lv] w K := by
  refine F53.sh ?_
  exact rise_loop hl hll hnd h l.length 0 _ [] w (by omega) (Fr.refl _ _) (NewS.nil _) (OwnS.nil _ _ _) (by simp) (by simp)
end
end Go.Proofs.YtfdpmgddlaamcaaV
