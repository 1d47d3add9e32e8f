/- Slides: rising lists; the example; the statements. -/
import Derived.Test.YtfjilngljnlkjaaSlB
import Derived.Test.YtfjilngljnlkjaaGRise
import Derived.Test.YtfjilngljnlkjaaGLawS
namespace Go.Proofs.YtfjilngljnlkjaaV
open Go Go.Proofs Go.RowKit
set_option linter.unusedVariables false
set_option linter.unusedSimpArgs false
set_option maxRecDepth 10000
theorem intC_take (l : List Int) (j : Nat) : (intC l).take j = intC (l.take j) := by simp [intC, List.map_take]
section
variable {K : VK} {w : World}
theorem C.idx_intS {S : World → Prop} {v : Value} {l : List Int} {i : Nat} (h : ∀ w', S w' → RdS w' v 1 (intC l)) (hS : S w) (hi : i < l.length) (hk : ∀ g o, (∀ w', S w' → ∃ cs e fz, w'.heap[g]? = some (.cells cs e fz) ∧ cs[o]? = some (.int .i64 l[i])) → K (.pointer (some ⟨g, o, none⟩)) w) :
    C.idx 1 v (.int .i64 (i : Int)) w K :=
  C.idx_rdS h hS (by omega) (by rw [Int.toNat_natCast]; exact intC_get hi) fun g o _ hs => hk g o fun w' hw => by
    obtain ⟨cs, e, fz, hg, hc⟩ := hs w' hw
    exact ⟨cs, e, fz, hg, by simpa using hc 0 (by omega)⟩
/-! ### Rising -/
theorem rise_in {W1 : World} {lv ov : Value} {l out : List Int} {i : Nat} (hl : RdS W1 lv 1 (intC l)) (hil : i < l.length) (hol : out.length ≤ 3000) (hso : out.Pairwise (· < ·))
    (h : ∀ v w' a, Fr [] W1 w' → NewS W1 v → a ≤ out.length → (∀ x ∈ out.take a, x < l[i]) → (∀ x ∈ out.drop a, l[i] ≤ x) → OwnS w' v 3 1 (intC (out.take a ++ [l[i]] ++ out.drop a)) → F50.k4 K lv v (.int .i64 (i : Int)) w') :
    ∀ (d a : Nat) (w : World), out.length = a + d → (∀ x ∈ out.take a, x < l[i]) → Fr [] W1 w → NewS W1 ov → OwnS w ov 3 1 (intC out) → F50.l7 K lv ov (.int .i64 (i : Int)) (.int .i64 (a : Int)) w := by
  -- the number put in its place
  have put : ∀ (a : Nat) (w : World), a ≤ out.length → (∀ x ∈ out.take a, x < l[i]) → (∀ x ∈ out.drop a, l[i] ≤ x) → Fr [] W1 w → NewS W1 ov → OwnS w ov 3 1 (intC out) → C.run Try.prog (Instr.sliceAt 26 ov none (some (.int .i64 (a : Int))) none) w fun x39 w14 =>
      C.run Try.prog (Builtin.append_ #[26, 26] 26 #[(.slice none 0 0), x39]) w14 fun x40 w15 => C.idx 1 lv (.int .i64 (i : Int)) w15 fun x44 w16 => C.load1 x44 w16 fun x45 w17 =>
      C.run Try.prog (Instr.buildSlice 26 1 #[(0, x45)]) w17 fun x46 w18 => C.run Try.prog (Builtin.append_ #[26, 26] 26 #[x40, x46]) w18 fun x47 w19 =>
      C.run Try.prog (Instr.sliceAt 26 ov (some (.int .i64 (a : Int))) none none) w19 fun x51 w20 => C.run Try.prog (Builtin.append_ #[26, 26] 26 #[x47, x51]) w20 fun x52 w21 => F50.k4 K lv x52 (.int .i64 (i : Int)) w21 := by
    intro a w ha hlo hhi hf hn ho
    have hord := ho.rd
    have lo := ho.mem_lt
    obtain ⟨A, c, rfl, hc, _⟩ := ho.cap
    rw [intC_len] at *
    refine C.run_of (sliceTo_run (sz := 1) _ _ _ _ _ Try.underlying26 (by kernel_rfl) (by omega) (by omega)) ?_
    rw [Int.toNat_natCast]
    have hsrc := hord.take a ha
    rw [intC_take] at hsrc
    refine C.append_of (xs := []) (ys := intC (out.take a)) (e := 3) (sz := 1) (bytes := 8) (z := .int .i64 0) Try.underlying26 (by kernel_rfl) rfl (by decide) (OwnS.nil w _ _) hsrc intC_one (by rw [intC_len]; simp; omega) (by rw [intC_len]; simp; omega) fun v1 w1 ho1 hf1 hb1 _ => ?_
    have f1 : Fr [] w w1 := hf1.mono (by simp [blkS, Value.ownBlock])
    have n1 : NewS w v1 := fun g hg => by
      rcases hb1 with e | ⟨g', e, e'⟩
      · rw [e] at hg; simp [Value.ownBlock] at hg
      · rw [hg] at e; simp only [Option.some.injEq] at e; omega
    rw [List.nil_append] at ho1
    refine C.idx_int (hl.keep (hf.trans f1)) hil fun g o cs e fz hg hcell => C.load1_of hg hcell (C.appI f1 n1 ho1 (by simp; omega) fun v2 w2 hf2 hn2 ho2 _ _ => ?_)
    have r3 := sliceFrom_run (P := Try.prog) (w := w2) (t := 26) (e := 3) (sz := 1) A out.length c .i64 (a : Int) Try.underlying26 (by kernel_rfl) (by omega) (by omega)
    rw [Int.toNat_natCast] at r3
    refine C.run_of r3 ?_
    have hsrc2 := (hord.keep hf2).drop a ha
    have e : (intC out).drop a = intC (out.drop a) := by simp [intC, List.map_drop]
    rw [e] at hsrc2
    refine C.append_of (xs := intC (out.take a ++ [l[i]])) (ys := intC (out.drop a)) (e := 3) (sz := 1) (bytes := 8) (z := .int .i64 0) Try.underlying26 (by kernel_rfl) rfl (by decide) ho2 hsrc2 intC_one (by rw [intC_len, intC_len]; simp; omega) (by rw [intC_len, intC_len]; simp; omega) fun v3 w3 ho3 hf3 hb3 _ => ?_
    refine h v3 w3 a (hf.trans (hf2.then hf3 fun g hg => .inr (hn2.blk g hg))) (fun g hg => ?_) ha hlo hhi (by rw [intC_app]; exact ho3)
    have s1 := hf.size
    have s2 := hf2.size
    rcases hb3 with e | ⟨g', e, e'⟩
    · have := hn2 g (by rw [← e]; exact hg); omega
    · rw [hg] at e; simp only [Option.some.injEq] at e; omega
  intro d
  induction d with
  | zero =>
    intro a w ha hlo hf hn ho
    refine F50.l7.to (C.draw_of (fun _ => True) fun w1 hf1 he1 => ⟨trivial, C.len_rd (ho.keep hf1 (by simp)).rd ?_⟩)
    rw [intC_len]
    simp only [C.ite_true, C.ite_false, C.pick_true, C.pick_false, C.not_bool, C.field_ptr, C.nilCheck_ptr, C.add_mk, C.sub_mk, C.mul_mk, C.eql_mk, C.neq_mk, C.lss_mk, C.leq_mk, C.gtr_mk, C.geq_mk, C.conv_mk, C.len_mk, C.ext_0, C.ext_1, C.ext3_0, C.ext3_1, C.ext3_2, C.guarded_yes, C.guarded_tf, C.guarded_ft, C.guarded_undef, Bool.not_true, Bool.not_false, Nat.zero_add, eq_self, decide_true, decide_false, show ¬ ((a : Int) < (out.length : Int)) by omega]
    exact put a w1 (by omega) hlo (fun x hx => by rw [List.drop_of_length_le (by omega)] at hx; cases hx) (hf.trans hf1) hn (ho.keep hf1 (by simp))
  | succ d ih =>
    intro a w ha hlo hf hn ho
    have hao : a < out.length := by omega
    refine F50.l7.to (C.draw_of (fun w' => Fr [] W1 w' ∧ OwnS w' ov 3 1 (intC out)) fun w1 hf1 he1 => ⟨⟨hf.trans hf1, ho.keep hf1 (by simp)⟩, C.len_rd (ho.keep hf1 (by simp)).rd ?_⟩)
    have hS : Fr [] W1 w1 ∧ OwnS w1 ov 3 1 (intC out) := ⟨hf.trans hf1, ho.keep hf1 (by simp)⟩
    rw [intC_len]
    simp only [C.ite_true, C.ite_false, C.pick_true, C.pick_false, C.not_bool, C.field_ptr, C.nilCheck_ptr, C.add_mk, C.sub_mk, C.mul_mk, C.eql_mk, C.neq_mk, C.lss_mk, C.leq_mk, C.gtr_mk, C.geq_mk, C.conv_mk, C.len_mk, C.ext_0, C.ext_1, C.ext3_0, C.ext3_1, C.ext3_2, C.guarded_yes, C.guarded_tf, C.guarded_ft, C.guarded_undef, Bool.not_true, Bool.not_false, Nat.zero_add, eq_self, decide_true, decide_false, show ((a : Int) < (out.length : Int)) by omega]
    refine C.idx_intS (S := fun w' => Fr [] W1 w' ∧ OwnS w' ov 3 1 (intC out)) (fun w' hw => hw.2.rd) hS hao fun g o hs => C.idx_intS (S := fun w' => Fr [] W1 w' ∧ OwnS w' ov 3 1 (intC out)) (fun w' hw => hl.keep hw.1) hS hil fun g' o' hs' => C.load1S_of hs (C.load1S_of hs' ?_)
    simp only [C.ite_true, C.ite_false, C.pick_true, C.pick_false, C.not_bool, C.field_ptr, C.nilCheck_ptr, C.add_mk, C.sub_mk, C.mul_mk, C.eql_mk, C.neq_mk, C.lss_mk, C.leq_mk, C.gtr_mk, C.geq_mk, C.conv_mk, C.len_mk, C.ext_0, C.ext_1, C.ext3_0, C.ext3_1, C.ext3_2, C.guarded_yes, C.guarded_tf, C.guarded_ft, C.guarded_undef, Bool.not_true, Bool.not_false, Nat.zero_add, eq_self, decide_true, decide_false]
    by_cases hlt : out[a] < l[i]
    · simp only [C.ite_true, C.ite_false, C.pick_true, C.pick_false, C.not_bool, C.field_ptr, C.nilCheck_ptr, C.add_mk, C.sub_mk, C.mul_mk, C.eql_mk, C.neq_mk, C.lss_mk, C.leq_mk, C.gtr_mk, C.geq_mk, C.conv_mk, C.len_mk, C.ext_0, C.ext_1, C.ext3_0, C.ext3_1, C.ext3_2, C.guarded_yes, C.guarded_tf, C.guarded_ft, C.guarded_undef, Bool.not_true, Bool.not_false, Nat.zero_add, eq_self, decide_true, decide_false, hlt]
      refine F50.k8.to ?_
      simp only [C.ite_true, C.ite_false, C.pick_true, C.pick_false, C.not_bool, C.field_ptr, C.nilCheck_ptr, C.add_mk, C.sub_mk, C.mul_mk, C.eql_mk, C.neq_mk, C.lss_mk, C.leq_mk, C.gtr_mk, C.geq_mk, C.conv_mk, C.len_mk, C.ext_0, C.ext_1, C.ext3_0, C.ext3_1, C.ext3_2, C.guarded_yes, C.guarded_tf, C.guarded_ft, C.guarded_undef, Bool.not_true, Bool.not_false, Nat.zero_add, eq_self, decide_true, decide_false]
      rw [wrap64_id (n := (a : Int) + 1) (by omega), show (a : Int) + 1 = ((a + 1 : Nat) : Int) by omega]
      refine ih (a + 1) w1 (by omega) (fun x hx => ?_) hS.1 hn hS.2
      rw [List.take_succ_eq_append_getElem hao, List.mem_append, List.mem_singleton] at hx
      rcases hx with c | rfl
      · exact hlo x c
      · exact hlt
    · simp only [C.ite_true, C.ite_false, C.pick_true, C.pick_false, C.not_bool, C.field_ptr, C.nilCheck_ptr, C.add_mk, C.sub_mk, C.mul_mk, C.eql_mk, C.neq_mk, C.lss_mk, C.leq_mk, C.gtr_mk, C.geq_mk, C.conv_mk, C.len_mk, C.ext_0, C.ext_1, C.ext3_0, C.ext3_1, C.ext3_2, C.guarded_yes, C.guarded_tf, C.guarded_ft, C.guarded_undef, Bool.not_true, Bool.not_false, Nat.zero_add, eq_self, decide_true, decide_false, hlt]
      refine put a w1 (by omega) hlo (fun x hx => ?_) hS.1 hn hS.2
      obtain ⟨k, hk, rfl⟩ := List.getElem_of_mem hx
      rw [List.getElem_drop]
      rw [List.length_drop] at hk
      rcases Nat.eq_zero_or_pos k with e | e
      · subst e; simp only [Nat.add_zero]; omega
      · have := List.pairwise_iff_getElem.1 hso a (a + k) hao (by omega) (by omega); omega
theorem rise_loop {W1 : World} {lv : Value} {l : List Int} (hl : RdS W1 lv 1 (intC l)) (hll : l.length ≤ 2048) (hnd : l.Nodup) (h : ∀ v w', Fr [] W1 w' → OwnS w' v 3 1 (intC (srt l)) → K v w') :
    ∀ (d i : Nat) (ov : Value) (out : List Int) (w : World), l.length = i + d → Fr [] W1 w → NewS W1 ov → OwnS w ov 3 1 (intC out) → out.Pairwise (· < ·) → out.Perm (l.take i) → F50.l3 K lv ov (.int .i64 (i : Int)) w := by
  intro d
  induction d with
  | zero =>
    intro i ov out w hi hf hn ho hs hm
    refine F50.l3.to (C.len_rd (hl.keep hf) ?_)
    rw [intC_len]
    simp only [C.ite_true, C.ite_false, C.pick_true, C.pick_false, C.not_bool, C.field_ptr, C.nilCheck_ptr, C.add_mk, C.sub_mk, C.mul_mk, C.eql_mk, C.neq_mk, C.lss_mk, C.leq_mk, C.gtr_mk, C.geq_mk, C.conv_mk, C.len_mk, C.ext_0, C.ext_1, C.ext3_0, C.ext3_1, C.ext3_2, C.guarded_yes, C.guarded_tf, C.guarded_ft, C.guarded_undef, Bool.not_true, Bool.not_false, Nat.zero_add, eq_self, decide_true, decide_false, show ¬ ((i : Int) < (l.length : Int)) by omega]
    rw [List.take_of_length_le (by omega)] at hm
    refine F50.k14.to (h ov w hf ?_)
    rw [srt_is hs hm]
    exact ho
  | succ d ih =>
    intro i ov out w hi hf hn ho hs hm
    have hil : i < l.length := by omega
    have hol : out.length = i := by have := hm.length_eq; rw [List.length_take] at this; omega
    refine F50.l3.to (C.len_rd (hl.keep hf) ?_)
    rw [intC_len]
    simp only [C.ite_true, C.ite_false, C.pick_true, C.pick_false, C.not_bool, C.field_ptr, C.nilCheck_ptr, C.add_mk, C.sub_mk, C.mul_mk, C.eql_mk, C.neq_mk, C.lss_mk, C.leq_mk, C.gtr_mk, C.geq_mk, C.conv_mk, C.len_mk, C.ext_0, C.ext_1, C.ext3_0, C.ext3_1, C.ext3_2, C.guarded_yes, C.guarded_tf, C.guarded_ft, C.guarded_undef, Bool.not_true, Bool.not_false, Nat.zero_add, eq_self, decide_true, decide_false, show ((i : Int) < (l.length : Int)) by omega]
    have hnot : ¬ (l[i] ∈ out) := fun c => by
      obtain ⟨k, hk, e⟩ := List.getElem_of_mem (hm.mem_iff.1 c)
      rw [List.getElem_take] at e
      rw [List.length_take] at hk
      exact absurd e (List.pairwise_iff_getElem.1 (List.nodup_iff_pairwise_ne.1 hnd) k i (by omega) hil (by omega))
    refine F50.k5.to (C.idx_int (hl.keep hf) hil fun g o cs e fz hg hc => C.load1_of hg hc (In_c ho.rd ?_))
    rw [decide_eq_false hnot, C.ite_false]
    refine F50.k6.to (rise_in (i := i) (out := out) hl hil (by omega) hs (fun v w' a hf' hn' ha hlo hhi ho' => F50.k4.to ?_) out.length 0 w (by omega) (fun x hx => by simp at hx) hf hn ho)
    simp only [C.ite_true, C.ite_false, C.pick_true, C.pick_false, C.not_bool, C.field_ptr, C.nilCheck_ptr, C.add_mk, C.sub_mk, C.mul_mk, C.eql_mk, C.neq_mk, C.lss_mk, C.leq_mk, C.gtr_mk, C.geq_mk, C.conv_mk, C.len_mk, C.ext_0, C.ext_1, C.ext3_0, C.ext3_1, C.ext3_2, C.guarded_yes, C.guarded_tf, C.guarded_ft, C.guarded_undef, Bool.not_true, Bool.not_false, Nat.zero_add, eq_self, decide_true, decide_false]
    rw [wrap64_id (n := (i : Int) + 1) (by omega), show (i : Int) + 1 = ((i + 1 : Nat) : Int) by omega]
    refine ih (i + 1) v _ w' (by omega) hf' hn' ho' ?_ ?_
    · rw [List.append_assoc, List.singleton_append]
      have h1 : (out.take a ++ out.drop a).Pairwise (· < ·) := by rw [List.take_append_drop]; exact hs
      obtain ⟨p1, p2, p3⟩ := List.pairwise_append.1 h1
      have hhi' : ∀ x ∈ out.drop a, l[i] < x := fun x hx => by
        have h2 := hhi x hx
        have : x ≠ l[i] := fun e => hnot (e ▸ List.mem_of_mem_drop hx)
        omega
      refine List.pairwise_append.2 ⟨p1, List.pairwise_cons.2 ⟨hhi', p2⟩, fun x hx y hy => ?_⟩
      rcases List.mem_cons.1 hy with rfl | hy
      · exact hlo x hx
      · exact p3 x hx y hy
    · rw [List.take_succ_eq_append_getElem hil]
      have e : out.take a ++ [l[i]] ++ out.drop a = out.take a ++ ([l[i]] ++ out.drop a) := by simp
      rw [e]
      refine (List.Perm.append_left _ List.perm_append_comm).trans ?_
      rw [← List.append_assoc, List.take_append_drop]
      exact hm.append_right _
theorem Rising_c {lv : Value} {l : List Int} (hl : RdS w lv 1 (intC l)) (hll : l.length ≤ 2048) (hnd : l.Nodup) (h : ∀ v w', Fr [] w w' → OwnS w' v 3 1 (intC (srt l)) → K v w') : C.call Try.prog 50 #[lv] w K := by
  refine F50.sh ?_
  exact rise_loop hl hll hnd h l.length 0 _ [] w (by omega) (Fr.refl _ _) (NewS.nil _) (OwnS.nil _ _ _) (by simp) (by simp)
theorem srt_natI (m : List Ob) (roots : List Int) : srt (natI (ordO m roots)) = natI (slO m roots) := by
  refine srt_is ?_ ((slO_perm m roots).map _)
  unfold natI
  rw [List.pairwise_map]
  exact (slO_sorted m roots).imp fun h => by omega
theorem natI_nodup {o : List Nat} (h : o.Nodup) : (natI o).Nodup := by
  unfold natI
  rw [List.nodup_iff_pairwise_ne, List.pairwise_map]
  exact (List.nodup_iff_pairwise_ne.1 h).imp fun h => by omega
theorem places_c {mv rv : Value} {m : List Ob} {fs : List Value} {roots : List Int} (hM : ObsAt w mv m fs) (hr : ∀ o ∈ m, Rng o.fs) (hf : fineM m) (hml : m.length ≤ 2048) (hrv : RdS w rv 1 (intC roots)) (hrr : Rng roots) (hfr : fineL m roots)
    (h : ∀ ov w', Fr [] w w' → OwnS w' ov 3 1 (intC (natI (slO m roots))) → K ov w') : C.call Try.prog 29 #[mv, rv] w K := by
  have hP := ordO_pls m roots
  refine F29.sh (Order_c hM hr hf hml hrv hrr hfr fun ov w1 hf1 _ ho1 => Rising_c ho1.rd (by rw [natI_len]; have := hP.len; omega) (natI_nodup hP.1) fun v w2 hf2 ho2 => ?_)
  rw [srt_natI] at ho2
  exact h v w2 (hf1.trans hf2) ho2
/-! ### 2. The example -/
theorem eqMv (x y : Operand) (a b : Va) : (do eqGuard .eql 56 x y (.agg #[.int .i64 a.1, .int .i64 a.2]) (.agg #[.int .i64 b.1, .int .i64 b.2]); binOp .eql 56 (.agg #[.int .i64 a.1, .int .i64 a.2]) (.agg #[.int .i64 b.1, .int .i64 b.2]) : Sem Value).run Try.prog w = .ok (.bool ([a.1, a.2] == [b.1, b.2])) w :=
  eq_ints (ks := [.i64, .i64]) x y Try.underlying56 (by kernel_rfl) (by kernel_rfl) (by kernel_rfl) [a.1, a.2] [b.1, b.2] rfl rfl
theorem neqMv (x y : Operand) (a b : Va) : (do eqGuard .neq 56 x y (.agg #[.int .i64 a.1, .int .i64 a.2]) (.agg #[.int .i64 b.1, .int .i64 b.2]); binOp .neq 56 (.agg #[.int .i64 a.1, .int .i64 a.2]) (.agg #[.int .i64 b.1, .int .i64 b.2]) : Sem Value).run Try.prog w = .ok (.bool (!([a.1, a.2] == [b.1, b.2]))) w :=
  neq_ints (ks := [.i64, .i64]) x y Try.underlying56 (by kernel_rfl) (by kernel_rfl) (by kernel_rfl) [a.1, a.2] [b.1, b.2] rfl rfl
theorem ex_lay2 : lay exM (slO exM [6]) = [128] := by decide +kernel
theorem ex_mov2 : [6].map (movW exM (slO exM [6])) = [2] := by decide +kernel
theorem ex_mv2 : mvL exM (slO exM [6]) (slO exM [6]).length = [(2, 0)] := by decide +kernel
theorem alive38_c (h : ∀ w', Fr [] w w' → K (.bool true) w') : C.call Try.prog 25 #[] w K := by
  refine F25.sh (C.litW3 fun lv w1 hf1 hl1 => C.litW1 fun rv w2 hf2 hr2 => ?_)
  have hl2 := hl1.keep hf2
  refine Slide_c hl2 Rng.lit3 hr2 (by unfold Rng; decide) (by decide) (fun c m w3 hc c0 hf3 => absurd (hc.det ex_opn1.cr).1 c0) fun m tv hv w3 hc hf3 ht hh _ _ => ?_
  obtain ⟨_, rfl⟩ := hc.det ex_opn1.cr
  rw [ex_lay2] at ht
  rw [ex_mov2] at hh
  simp only [C.ite_true, C.ite_false, C.pick_true, C.pick_false, C.not_bool, C.field_ptr, C.nilCheck_ptr, C.add_mk, C.sub_mk, C.mul_mk, C.eql_mk, C.neq_mk, C.lss_mk, C.leq_mk, C.gtr_mk, C.geq_mk, C.conv_mk, C.len_mk, C.ext_0, C.ext_1, C.ext3_0, C.ext3_1, C.ext3_2, C.guarded_yes, C.guarded_tf, C.guarded_ft, C.guarded_undef, Bool.not_true, Bool.not_false, Nat.zero_add, eq_self, decide_true, decide_false]
  refine C.litW1 fun qv w4 hf4 hq4 => ?_
  have f34 := hf3.trans hf4
  refine Moves_c (hl2.keep f34) Rng.lit3 hq4 (by unfold Rng; decide) (by decide) (fun c m w5 hc c0 hf5 => absurd (hc.det ex_opn1.cr).1 c0) fun m mv w5 hc hf5 _ hm => ?_
  obtain ⟨_, rfl⟩ := hc.det ex_opn1.cr
  rw [ex_mv2] at hm
  simp only [C.ite_true, C.ite_false, C.pick_true, C.pick_false, C.not_bool, C.field_ptr, C.nilCheck_ptr, C.add_mk, C.sub_mk, C.mul_mk, C.eql_mk, C.neq_mk, C.lss_mk, C.leq_mk, C.gtr_mk, C.geq_mk, C.conv_mk, C.len_mk, C.ext_0, C.ext_1, C.ext3_0, C.ext3_1, C.ext3_2, C.guarded_yes, C.guarded_tf, C.guarded_ft, C.guarded_undef, Bool.not_true, Bool.not_false, Nat.zero_add, eq_self, decide_true, decide_false]
  have f45 := hf4.trans hf5
  refine C.litW1 fun v8 w8 hf8 h8 => WordsEq_c ((ht.rd.keep f45).keep hf8) h8 fun w9 hf9 => ?_
  rw [decide_eq_true rfl]
  simp only [C.ite_true, C.ite_false, C.pick_true, C.pick_false, C.not_bool, C.field_ptr, C.nilCheck_ptr, C.add_mk, C.sub_mk, C.mul_mk, C.eql_mk, C.neq_mk, C.lss_mk, C.leq_mk, C.gtr_mk, C.geq_mk, C.conv_mk, C.len_mk, C.ext_0, C.ext_1, C.ext3_0, C.ext3_1, C.ext3_2, C.guarded_yes, C.guarded_tf, C.guarded_ft, C.guarded_undef, Bool.not_true, Bool.not_false, Nat.zero_add, eq_self, decide_true, decide_false]
  have f59 := hf8.trans hf9
  refine C.litW1 fun v10 w10 hf10 h10 => WordsEq_c (((hh.rd.keep f45).keep f59).keep hf10) h10 fun w11 hf11 => ?_
  rw [decide_eq_true rfl]
  simp only [C.ite_true, C.ite_false, C.pick_true, C.pick_false, C.not_bool, C.field_ptr, C.nilCheck_ptr, C.add_mk, C.sub_mk, C.mul_mk, C.eql_mk, C.neq_mk, C.lss_mk, C.leq_mk, C.gtr_mk, C.geq_mk, C.conv_mk, C.len_mk, C.ext_0, C.ext_1, C.ext3_0, C.ext3_1, C.ext3_2, C.guarded_yes, C.guarded_tf, C.guarded_ft, C.guarded_undef, Bool.not_true, Bool.not_false, Nat.zero_add, eq_self, decide_true, decide_false]
  have f511 := f59.trans (hf10.trans hf11)
  have hm11 := hm.rd.keep f511
  refine C.len_rd hm11 ?_
  rw [show (((valC [((2 : Int), (0 : Int))]).length : Nat) : Int) = 1 from rfl]
  simp only [C.ite_true, C.ite_false, C.pick_true, C.pick_false, C.not_bool, C.field_ptr, C.nilCheck_ptr, C.add_mk, C.sub_mk, C.mul_mk, C.eql_mk, C.neq_mk, C.lss_mk, C.leq_mk, C.gtr_mk, C.geq_mk, C.conv_mk, C.len_mk, C.ext_0, C.ext_1, C.ext3_0, C.ext3_1, C.ext3_2, C.guarded_yes, C.guarded_tf, C.guarded_ft, C.guarded_undef, Bool.not_true, Bool.not_false, Nat.zero_add, eq_self, decide_true, decide_false]
  refine C.idx_rd (i := 0) hm11 (by omega) (valC_get (l := [((2 : Int), (0 : Int))]) (j := 0) (by decide)) fun g o cs e fz hg hl2 hc => C.loadA_cells hg hl2 (by omega) hc (C.run_of (bMv 2 0) ⟨_, eqMv _ _ (2, 0) (2, 0), ?_⟩)
  rw [show (([((2 : Int), (0 : Int)).1, ((2 : Int), (0 : Int)).2] : List Int) == [((2 : Int), (0 : Int)).1, ((2 : Int), (0 : Int)).2]) = true by decide]
  try simp only [C.ite_true, C.ite_false, C.pick_true, C.pick_false, C.not_bool, C.field_ptr, C.nilCheck_ptr, C.add_mk, C.sub_mk, C.mul_mk, C.eql_mk, C.neq_mk, C.lss_mk, C.leq_mk, C.gtr_mk, C.geq_mk, C.conv_mk, C.len_mk, C.ext_0, C.ext_1, C.ext3_0, C.ext3_1, C.ext3_2, C.guarded_yes, C.guarded_tf, C.guarded_ft, C.guarded_undef, Bool.not_true, Bool.not_false, Nat.zero_add, eq_self, decide_true, decide_false]
  exact h w11 ((hf1.trans hf2).trans (hf3.trans (f45.trans f511)))
theorem few38_c {lv : Value} {l : List Int} (hl : RdS w lv 1 (intC l)) (hr : Rng l) (h : ∀ v l', RdS w v 1 (intC l') → Rng l' → l'.length ≤ 300 → K v w) : C.call Try.prog 26 #[lv] w K := by
  refine F26.sh (C.len_rd hl ?_)
  rw [intC_len]
  obtain ⟨A, c, e, hA⟩ := hl
  by_cases g : (l.length : Int) > 300
  · simp only [C.ite_true, C.ite_false, C.pick_true, C.pick_false, C.not_bool, C.field_ptr, C.nilCheck_ptr, C.add_mk, C.sub_mk, C.mul_mk, C.eql_mk, C.neq_mk, C.lss_mk, C.leq_mk, C.gtr_mk, C.geq_mk, C.conv_mk, C.len_mk, C.ext_0, C.ext_1, C.ext3_0, C.ext3_1, C.ext3_2, C.guarded_yes, C.guarded_tf, C.guarded_ft, C.guarded_undef, Bool.not_true, Bool.not_false, Nat.zero_add, eq_self, decide_true, decide_false, g]
    have hl : RdS w lv 1 (intC l) := ⟨A, c, e, hA⟩
    have hc : (intC l).length ≤ c := hA.1
    rw [intC_len] at hc
    subst e
    refine C.run_of (sliceTo_run (sz := 1) A _ c .i64 300 Try.underlying22 (by kernel_rfl) (by omega) (by omega)) ?_
    have ht := hl.take 300 (by rw [intC_len]; omega)
    rw [show (intC l).take 300 = intC (l.take 300) by simp [intC]] at ht
    exact h _ (l.take 300) ht (fun x hx => hr x (List.mem_of_mem_take hx)) (by simp; omega)
  · simp only [C.ite_true, C.ite_false, C.pick_true, C.pick_false, C.not_bool, C.field_ptr, C.nilCheck_ptr, C.add_mk, C.sub_mk, C.mul_mk, C.eql_mk, C.neq_mk, C.lss_mk, C.leq_mk, C.gtr_mk, C.geq_mk, C.conv_mk, C.len_mk, C.ext_0, C.ext_1, C.ext3_0, C.ext3_1, C.ext3_2, C.guarded_yes, C.guarded_tf, C.guarded_ft, C.guarded_undef, Bool.not_true, Bool.not_false, Nat.zero_add, eq_self, decide_true, decide_false, g]
    exact F26.k3.to (h lv l ⟨A, c, e, hA⟩ hr (by omega))
end
end Go.Proofs.YtfjilngljnlkjaaV
