/- The cache of pages: without, and a step, by the program. -/
import Derived.Test.YtfdpmgddlaamcaaCa13
namespace Go.Proofs.YtfdpmgddlaamcaaV
open Go Go.Proofs Go.RowKit
set_option linter.unusedVariables false
set_option linter.unusedSimpArgs false
set_option maxRecDepth 10000
theorem outL_take {ms : Ows} {t k : Int} {j : Nat} (h : j < ms.length) : outL (ms.take (j + 1)) t k = if hit t k ms[j] then outL (ms.take j) t k else outL (ms.take j) t k ++ [ms[j]] := by
  unfold outL
  rw [List.take_succ_eq_append_getElem h, List.filter_append]
  by_cases c : hit t k ms[j] = true <;> simp [c]
theorem goneL_take {ms : Ows} {t k : Int} {j : Nat} (h : j < ms.length) : goneL (ms.take (j + 1)) t k = if hit t k ms[j] then goneL (ms.take j) t k ++ [ms[j].2] else goneL (ms.take j) t k := by
  unfold goneL
  rw [List.take_succ_eq_append_getElem h, List.filter_append]
  by_cases c : hit t k ms[j] = true <;> simp [c]
theorem outL_len (ms : Ows) (t k : Int) : (outL ms t k).length ≤ ms.length := List.length_filter_le _ _
theorem goneL_len (ms : Ows) (t k : Int) : (goneL ms t k).length ≤ ms.length := by unfold goneL; rw [List.length_map]; exact List.length_filter_le _ _
section
variable {K : VK} {w : World}
theorem bsOw (a b c : Int) : (Instr.buildSlice 24 1 #[(0, .agg #[.int .i64 a, .int .i64 b, .int .i64 c])]).run Try.prog w = .ok (.slice (some ⟨w.heap.size, 0, none⟩) 1 1) (w.alloc (.cells #[.int .i64 a, .int .i64 b, .int .i64 c] 100)) := by kernel_rfl
theorem bOw (a b c : Int) : (Instr.build 100 #[(0, .int .i64 a), (1, .int .i64 b), (2, .int .i64 c)]).run Try.prog w = .ok (.agg #[.int .i64 a, .int .i64 b, .int .i64 c]) w := by kernel_rfl
theorem C.appW {v : Value} {ms : Ows} {a b c : Int} (hv : OwnS w v 100 3 (owC ms)) (hl : ms.length ≤ 1000000)
    (hk : ∀ v' w', OwnS w' v' 100 3 (owC (ms ++ [((a, b), c)])) → Fr (blkS v) w w' → (∀ g ∈ blkS v', g ∈ blkS v ∨ w.heap.size ≤ g) → K v' w') :
    C.run Try.prog (Instr.buildSlice 24 1 #[(0, .agg #[.int .i64 a, .int .i64 b, .int .i64 c])]) w fun x w1 => C.run Try.prog (Builtin.append_ #[24, 24] 24 #[v, x]) w1 K :=
  C.app1 (x := [.int .i64 a, .int .i64 b, .int .i64 c]) (e := 100) (sz := 3) (bytes := 24) (z := .agg #[.int .i64 0, .int .i64 0, .int .i64 0]) Try.underlying24 (by kernel_rfl) rfl (by decide) (bsOw a b c) rfl (by simp [Value.oneCell']) (fr_bare w) (new_bare w v) hv (by rw [owC_len]; omega) (by rw [owC_len]; omega)
    fun v' w' _ _ a' b' d => hk v' w' (by rw [owC_app]; exact a') b' d
theorem without_l {W : World} {v : Value} {ms : Ows} {t k : Int} (hv : RdS W v 3 (owC ms)) (hl : ms.length ≤ 1000) (hn : (ms.map fun x => x.2).Nodup)
    (h : ∀ ov gv w', Fr [] W w' → NewS W ov → OwnS w' ov 100 3 (owC (outL ms t k)) → OwnS w' gv 3 1 (intC (srt (goneL ms t k))) → K (.tuple #[ov, gv]) w') :
    ∀ (d j : Nat) (w : World) (ov gv : Value), ms.length = j + d → Fr [] W w → NewS W ov → NewS W gv → OwnS w ov 100 3 (owC (outL (ms.take j) t k)) → OwnS w gv 3 1 (intC (goneL (ms.take j) t k)) →
      F98.l4 K v (.int .i64 t) (.int .i64 k) ov gv (.int .i64 (j : Int)) w := by
  intro d
  induction d with
  | zero =>
    intro j w ov gv hd hf nO nG hO hG
    refine F98.l4.to (C.len_rd (hv.keep hf) ?_)
    simp only [C.ite_true, C.ite_false, C.pick_true, C.pick_false, C.not_bool, C.field_ptr, C.nilCheck_ptr, C.add_mk, C.sub_mk, C.mul_mk, C.eql_mk, C.neq_mk, C.lss_mk, C.leq_mk, C.gtr_mk, C.geq_mk, C.conv_mk, C.len_mk, C.ext_0, C.ext_1, C.ext3_0, C.ext3_1, C.ext3_2, C.guarded_yes, C.guarded_tf, C.guarded_ft, C.guarded_undef, Bool.not_true, Bool.not_false, Nat.zero_add, eq_self, decide_true, decide_false, owC_len, show ¬ ((j : Int) < (ms.length : Int)) by omega]
    rw [List.take_of_length_le (by omega)] at hO hG
    have hgl := goneL_len ms t k
    have hgn : (goneL ms t k).Nodup := (List.filter_sublist.map _).nodup hn
    refine F98.k9.to (Rising_c hG.rd (by omega) hgn fun g2 w1 hf1 ho1 => ?_)
    exact h ov g2 w1 (hf.trans hf1) nO (hO.keep hf1 (by simp)) ho1
  | succ d ih =>
    intro j w ov gv hd hf nO nG hO hG
    have jl : j < ms.length := by omega
    have lo := outL_len (ms.take j) t k
    have lg := goneL_len (ms.take j) t k
    rw [List.length_take] at lo lg
    have next : ∀ w' ov' gv', Fr [] W w' → NewS W ov' → NewS W gv' → OwnS w' ov' 100 3 (owC (outL (ms.take (j + 1)) t k)) → OwnS w' gv' 3 1 (intC (goneL (ms.take (j + 1)) t k)) → F98.k5 K v (.int .i64 t) (.int .i64 k) ov' gv' (.int .i64 (j : Int)) w' := fun w' ov' gv' hf' n1 n2 o1 o2 => by
      refine F98.k5.to ?_
      simp only [C.ite_true, C.ite_false, C.pick_true, C.pick_false, C.not_bool, C.field_ptr, C.nilCheck_ptr, C.add_mk, C.sub_mk, C.mul_mk, C.eql_mk, C.neq_mk, C.lss_mk, C.leq_mk, C.gtr_mk, C.geq_mk, C.conv_mk, C.len_mk, C.ext_0, C.ext_1, C.ext3_0, C.ext3_1, C.ext3_2, C.guarded_yes, C.guarded_tf, C.guarded_ft, C.guarded_undef, Bool.not_true, Bool.not_false, Nat.zero_add, eq_self, decide_true, decide_false]
      rw [wrap64_id (n := (j : Int) + 1) (by omega), show (j : Int) + 1 = ((j + 1 : Nat) : Int) by omega]
      exact ih (j + 1) w' ov' gv' (by omega) hf' n1 n2 o1 o2
    have yes : hit t k ms[j] = true → C.idx 3 v (.int .i64 (j : Int)) w fun x40_17 w17 => C.field 2 x40_17 w17 fun x41_18 w18 => C.load1 x41_18 w18 fun x42_19 w19 =>
        C.run Try.prog (Instr.buildSlice 34 1 #[(0, x42_19)]) w19 fun x43_20 w20 => C.run Try.prog (Builtin.append_ #[34, 34] 34 #[gv, x43_20]) w20 fun x44_21 w21 =>
        F98.k5 K v (.int .i64 t) (.int .i64 k) ov x44_21 (.int .i64 (j : Int)) w21 := fun hh => by
      refine C.idx_rd (hv.keep hf) (by omega) (by rw [Int.toNat_natCast]; exact owC_get jl) fun g o cs e fz hg hlen hc => ?_
      simp only [C.ite_true, C.ite_false, C.pick_true, C.pick_false, C.not_bool, C.field_ptr, C.nilCheck_ptr, C.add_mk, C.sub_mk, C.mul_mk, C.eql_mk, C.neq_mk, C.lss_mk, C.leq_mk, C.gtr_mk, C.geq_mk, C.conv_mk, C.len_mk, C.ext_0, C.ext_1, C.ext3_0, C.ext3_1, C.ext3_2, C.guarded_yes, C.guarded_tf, C.guarded_ft, C.guarded_undef, Bool.not_true, Bool.not_false, Nat.zero_add, eq_self, decide_true, decide_false]
      refine C.load1_of (v := .int .i64 ms[j].2) hg (by simpa using hc 2 (by omega)) (C.appI' hG (by omega) fun g' w1 ho1 hf1 hg1 => ?_)
      have e1 : outL (ms.take (j + 1)) t k = outL (ms.take j) t k := by rw [outL_take jl, if_pos hh]
      have e2 : goneL (ms.take (j + 1)) t k = goneL (ms.take j) t k ++ [ms[j].2] := by rw [goneL_take jl, if_pos hh]
      refine next w1 ov g' (hf.then hf1 fun z hz => .inr (nG.blk z hz)) nO (new_app nG hf.size hg1) ?_ (by rw [e2]; exact ho1)
      rw [e1]
      exact hO.keep' hf1 (hO.ne hG (by decide))
    have no : ¬ hit t k ms[j] = true → C.idx 3 v (.int .i64 (j : Int)) w fun x48_22 w22 => C.loadA 3 x48_22 w22 fun x49_23 w23 =>
        C.run Try.prog (Instr.buildSlice 24 1 #[(0, x49_23)]) w23 fun x50_24 w24 => C.run Try.prog (Builtin.append_ #[24, 24] 24 #[ov, x50_24]) w24 fun x51_25 w25 =>
        F98.k5 K v (.int .i64 t) (.int .i64 k) x51_25 gv (.int .i64 (j : Int)) w25 := fun hh => by
      refine C.idx_rd (hv.keep hf) (by omega) (by rw [Int.toNat_natCast]; exact owC_get jl) fun g o cs e fz hg hlen hc => C.loadA_cells hg hlen (by decide) hc ?_
      refine C.appW hO (by omega) fun o' w1 ho1 hf1 hg1 => ?_
      have e1 : outL (ms.take (j + 1)) t k = outL (ms.take j) t k ++ [ms[j]] := by rw [outL_take jl, if_neg hh]
      have e2 : goneL (ms.take (j + 1)) t k = goneL (ms.take j) t k := by rw [goneL_take jl, if_neg hh]
      refine next w1 o' gv (hf.then hf1 fun z hz => .inr (nO.blk z hz)) (new_app nO hf.size hg1) nG (by rw [e1]; exact ho1) ?_
      rw [e2]
      exact hG.keep' hf1 (hG.ne hO (by decide))
    refine F98.l4.to (C.len_rd (hv.keep hf) ?_)
    simp only [C.ite_true, C.ite_false, C.pick_true, C.pick_false, C.not_bool, C.field_ptr, C.nilCheck_ptr, C.add_mk, C.sub_mk, C.mul_mk, C.eql_mk, C.neq_mk, C.lss_mk, C.leq_mk, C.gtr_mk, C.geq_mk, C.conv_mk, C.len_mk, C.ext_0, C.ext_1, C.ext3_0, C.ext3_1, C.ext3_2, C.guarded_yes, C.guarded_tf, C.guarded_ft, C.guarded_undef, Bool.not_true, Bool.not_false, Nat.zero_add, eq_self, decide_true, decide_false, owC_len, show ((j : Int) < (ms.length : Int)) by omega]
    refine F98.k6.to (C.idx_rd (hv.keep hf) (by omega) (by rw [Int.toNat_natCast]; exact owC_get jl) fun g o cs e fz hg hlen hc => ?_)
    simp only [C.ite_true, C.ite_false, C.pick_true, C.pick_false, C.not_bool, C.field_ptr, C.nilCheck_ptr, C.add_mk, C.sub_mk, C.mul_mk, C.eql_mk, C.neq_mk, C.lss_mk, C.leq_mk, C.gtr_mk, C.geq_mk, C.conv_mk, C.len_mk, C.ext_0, C.ext_1, C.ext3_0, C.ext3_1, C.ext3_2, C.guarded_yes, C.guarded_tf, C.guarded_ft, C.guarded_undef, Bool.not_true, Bool.not_false, Nat.zero_add, eq_self, decide_true, decide_false]
    refine C.load1_of (v := .int .i64 ms[j].1.1) hg (by simpa using hc 0 (by omega)) ?_
    by_cases c1 : ms[j].1.1 = t
    · simp only [C.ite_true, C.ite_false, C.pick_true, C.pick_false, C.not_bool, C.field_ptr, C.nilCheck_ptr, C.add_mk, C.sub_mk, C.mul_mk, C.eql_mk, C.neq_mk, C.lss_mk, C.leq_mk, C.gtr_mk, C.geq_mk, C.conv_mk, C.len_mk, C.ext_0, C.ext_1, C.ext3_0, C.ext3_1, C.ext3_2, C.guarded_yes, C.guarded_tf, C.guarded_ft, C.guarded_undef, Bool.not_true, Bool.not_false, Nat.zero_add, eq_self, decide_true, decide_false, c1]
      by_cases c2 : k = 0
      · have hh : hit t k ms[j] = true := by simp [hit, c1, c2]
        have := yes hh
        simp only [C.ite_true, C.ite_false, C.pick_true, C.pick_false, C.not_bool, C.field_ptr, C.nilCheck_ptr, C.add_mk, C.sub_mk, C.mul_mk, C.eql_mk, C.neq_mk, C.lss_mk, C.leq_mk, C.gtr_mk, C.geq_mk, C.conv_mk, C.len_mk, C.ext_0, C.ext_1, C.ext3_0, C.ext3_1, C.ext3_2, C.guarded_yes, C.guarded_tf, C.guarded_ft, C.guarded_undef, Bool.not_true, Bool.not_false, Nat.zero_add, eq_self, decide_true, decide_false, c2] at this ⊢
        exact this
      · simp only [C.ite_true, C.ite_false, C.pick_true, C.pick_false, C.not_bool, C.field_ptr, C.nilCheck_ptr, C.add_mk, C.sub_mk, C.mul_mk, C.eql_mk, C.neq_mk, C.lss_mk, C.leq_mk, C.gtr_mk, C.geq_mk, C.conv_mk, C.len_mk, C.ext_0, C.ext_1, C.ext3_0, C.ext3_1, C.ext3_2, C.guarded_yes, C.guarded_tf, C.guarded_ft, C.guarded_undef, Bool.not_true, Bool.not_false, Nat.zero_add, eq_self, decide_true, decide_false, c2]
        refine C.idx_rd (hv.keep hf) (by omega) (by rw [Int.toNat_natCast]; exact owC_get jl) fun g o cs e fz hg hlen hc => ?_
        simp only [C.ite_true, C.ite_false, C.pick_true, C.pick_false, C.not_bool, C.field_ptr, C.nilCheck_ptr, C.add_mk, C.sub_mk, C.mul_mk, C.eql_mk, C.neq_mk, C.lss_mk, C.leq_mk, C.gtr_mk, C.geq_mk, C.conv_mk, C.len_mk, C.ext_0, C.ext_1, C.ext3_0, C.ext3_1, C.ext3_2, C.guarded_yes, C.guarded_tf, C.guarded_ft, C.guarded_undef, Bool.not_true, Bool.not_false, Nat.zero_add, eq_self, decide_true, decide_false]
        refine C.load1_of (v := .int .i64 ms[j].1.2) hg (by simpa using hc 1 (by omega)) ?_
        by_cases c3 : ms[j].1.2 = k
        · simp only [C.ite_true, C.ite_false, C.pick_true, C.pick_false, C.not_bool, C.field_ptr, C.nilCheck_ptr, C.add_mk, C.sub_mk, C.mul_mk, C.eql_mk, C.neq_mk, C.lss_mk, C.leq_mk, C.gtr_mk, C.geq_mk, C.conv_mk, C.len_mk, C.ext_0, C.ext_1, C.ext3_0, C.ext3_1, C.ext3_2, C.guarded_yes, C.guarded_tf, C.guarded_ft, C.guarded_undef, Bool.not_true, Bool.not_false, Nat.zero_add, eq_self, decide_true, decide_false, c3]
          exact yes (by simp [hit, c1, c3])
        · simp only [C.ite_true, C.ite_false, C.pick_true, C.pick_false, C.not_bool, C.field_ptr, C.nilCheck_ptr, C.add_mk, C.sub_mk, C.mul_mk, C.eql_mk, C.neq_mk, C.lss_mk, C.leq_mk, C.gtr_mk, C.geq_mk, C.conv_mk, C.len_mk, C.ext_0, C.ext_1, C.ext3_0, C.ext3_1, C.ext3_2, C.guarded_yes, C.guarded_tf, C.guarded_ft, C.guarded_undef, Bool.not_true, Bool.not_false, Nat.zero_add, eq_self, decide_true, decide_false, c3]
          exact no (by simp [hit, c1, c2, c3])
    · simp only [C.ite_true, C.ite_false, C.pick_true, C.pick_false, C.not_bool, C.field_ptr, C.nilCheck_ptr, C.add_mk, C.sub_mk, C.mul_mk, C.eql_mk, C.neq_mk, C.lss_mk, C.leq_mk, C.gtr_mk, C.geq_mk, C.conv_mk, C.len_mk, C.ext_0, C.ext_1, C.ext3_0, C.ext3_1, C.ext3_2, C.guarded_yes, C.guarded_tf, C.guarded_ft, C.guarded_undef, Bool.not_true, Bool.not_false, Nat.zero_add, eq_self, decide_true, decide_false, c1]
      exact no (by simp [hit, c1])
theorem without_c {v : Value} {ms : Ows} {t k : Int} (hv : RdS w v 3 (owC ms)) (hl : ms.length ≤ 1000) (hn : (ms.map fun x => x.2).Nodup)
    (h : ∀ ov gv w', Fr [] w w' → NewS w ov → OwnS w' ov 100 3 (owC (outL ms t k)) → OwnS w' gv 3 1 (intC (srt (goneL ms t k))) → K (.tuple #[ov, gv]) w') :
    C.call Try.prog 98 #[v, .int .i64 t, .int .i64 k] w K :=
  F98.sh (without_l hv hl hn h ms.length 0 w _ _ (by omega) (Fr.refl _ _) (NewS.nil _) (NewS.nil _) (OwnS.nil _ _ _) (OwnS.nil _ _ _))
end
end Go.Proofs.YtfdpmgddlaamcaaV
