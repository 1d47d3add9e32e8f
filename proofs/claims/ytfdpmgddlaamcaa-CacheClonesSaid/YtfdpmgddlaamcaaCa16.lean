/- The cache of pages: run, and CacheRuns, by the program. -/
import Derived.Test.YtfdpmgddlaamcaaCa15
namespace Go.Proofs.YtfdpmgddlaamcaaV
open Go Go.Proofs Go.RowKit
set_option linter.unusedVariables false
set_option linter.unusedSimpArgs false
set_option maxRecDepth 10000
section
variable {K : VK} {w : World} {b m : Nat} {n : Int}
theorem all_l {W : World} {v yc yn yl yok yi : Value} {ms : Ows} (hv : RdS W v 3 (owC ms)) (hl : ms.length ≤ 1000)
    (h : ∀ av w', Fr [] W w' → OwnS w' av 3 1 (intC (ms.map fun x => x.2)) → F14.k11 K yc yn v yl yok yi av w') :
    ∀ (d j : Nat) (w : World) (av : Value), ms.length = j + d → Fr [] W w → NewS W av → OwnS w av 3 1 (intC ((ms.take j).map fun x => x.2)) → F14.l8 K yc yn v yl yok yi av (.int .i64 (j : Int)) w := by
  intro d
  induction d with
  | zero =>
    intro j w av hd hf hn ho
    refine F14.l8.to (C.len_rd (hv.keep hf) ?_)
    simp only [C.ite_true, C.ite_false, C.pick_true, C.pick_false, C.not_bool, C.field_ptr, C.nilCheck_ptr, C.add_mk, C.sub_mk, C.mul_mk, C.eql_mk, C.neq_mk, C.lss_mk, C.leq_mk, C.gtr_mk, C.geq_mk, C.conv_mk, C.len_mk, C.ext_0, C.ext_1, C.ext3_0, C.ext3_1, C.ext3_2, C.guarded_yes, C.guarded_tf, C.guarded_ft, C.guarded_undef, Bool.not_true, Bool.not_false, Nat.zero_add, eq_self, decide_true, decide_false, owC_len, show ¬ ((j : Int) < (ms.length : Int)) by omega]
    rw [List.take_of_length_le (by omega)] at ho
    exact h av w hf ho
  | succ d ih =>
    intro j w av hd hf hn ho
    have jl : j < ms.length := by omega
    refine F14.l8.to (C.len_rd (hv.keep hf) ?_)
    simp only [C.ite_true, C.ite_false, C.pick_true, C.pick_false, C.not_bool, C.field_ptr, C.nilCheck_ptr, C.add_mk, C.sub_mk, C.mul_mk, C.eql_mk, C.neq_mk, C.lss_mk, C.leq_mk, C.gtr_mk, C.geq_mk, C.conv_mk, C.len_mk, C.ext_0, C.ext_1, C.ext3_0, C.ext3_1, C.ext3_2, C.guarded_yes, C.guarded_tf, C.guarded_ft, C.guarded_undef, Bool.not_true, Bool.not_false, Nat.zero_add, eq_self, decide_true, decide_false, owC_len, show ((j : Int) < (ms.length : Int)) by omega]
    refine F14.k10.to (C.idx_rd (hv.keep hf) (by omega) (by rw [Int.toNat_natCast]; exact owC_get jl) fun g o cs e fz hg hlen hc => ?_)
    simp only [C.ite_true, C.ite_false, C.pick_true, C.pick_false, C.not_bool, C.field_ptr, C.nilCheck_ptr, C.add_mk, C.sub_mk, C.mul_mk, C.eql_mk, C.neq_mk, C.lss_mk, C.leq_mk, C.gtr_mk, C.geq_mk, C.conv_mk, C.len_mk, C.ext_0, C.ext_1, C.ext3_0, C.ext3_1, C.ext3_2, C.guarded_yes, C.guarded_tf, C.guarded_ft, C.guarded_undef, Bool.not_true, Bool.not_false, Nat.zero_add, eq_self, decide_true, decide_false]
    refine C.load1_of (v := .int .i64 ms[j].2) hg (by simpa using hc 2 (by omega)) (C.appI' ho (by simp; omega) fun a' w1 ho1 hf1 hg1 => ?_)
    refine F14.k9.to ?_
    simp only [C.ite_true, C.ite_false, C.pick_true, C.pick_false, C.not_bool, C.field_ptr, C.nilCheck_ptr, C.add_mk, C.sub_mk, C.mul_mk, C.eql_mk, C.neq_mk, C.lss_mk, C.leq_mk, C.gtr_mk, C.geq_mk, C.conv_mk, C.len_mk, C.ext_0, C.ext_1, C.ext3_0, C.ext3_1, C.ext3_2, C.guarded_yes, C.guarded_tf, C.guarded_ft, C.guarded_undef, Bool.not_true, Bool.not_false, Nat.zero_add, eq_self, decide_true, decide_false]
    rw [wrap64_id (n := (j : Int) + 1) (by omega), show (j : Int) + 1 = ((j + 1 : Nat) : Int) by omega]
    refine ih (j + 1) w1 a' (by omega) (hf.then hf1 fun z hz => .inr (hn.blk z hz)) (new_app hn hf.size hg1) ?_
    rw [List.take_succ_eq_append_getElem jl, List.map_append, List.map_cons, List.map_nil]
    exact ho1
theorem run_l {W : World} {v : Value} {l : List COp} (hv : RdS W v 4 (copC l)) (hm : W.heap.size ≤ m)
    (h : ∀ mv' w' l' c' ms', Fr [] W w' → RS w' b m n mv' l' c' ms' → K (.tuple #[mv', .bool true]) w') :
    ∀ (d j : Nat) (w : World) (mv : Value) (l' : Pgs) (c : Nat) (ms : Ows), l.length = j + d → Fr [] W w → RS w b m n mv l' c ms →
      F14.l3 K (.pointer (some ⟨b, 0, none⟩)) (.int .i64 n) mv v (.bool true) (.int .i64 (j : Int)) w := by
  intro d
  induction d with
  | zero =>
    intro j w mv l' c ms hd hf hR
    refine F14.l3.to (C.len_rd (hv.keep hf) ?_)
    simp only [C.ite_true, C.ite_false, C.pick_true, C.pick_false, C.not_bool, C.field_ptr, C.nilCheck_ptr, C.add_mk, C.sub_mk, C.mul_mk, C.eql_mk, C.neq_mk, C.lss_mk, C.leq_mk, C.gtr_mk, C.geq_mk, C.conv_mk, C.len_mk, C.ext_0, C.ext_1, C.ext3_0, C.ext3_1, C.ext3_2, C.guarded_yes, C.guarded_tf, C.guarded_ft, C.guarded_undef, Bool.not_true, Bool.not_false, Nat.zero_add, eq_self, decide_true, decide_false, copC_len, show ¬ ((j : Int) < (l.length : Int)) by omega]
    exact F14.k12.to (h mv w l' c ms hf hR)
  | succ d ih =>
    intro j w mv l' c ms hd hf hR
    have jl : j < l.length := by omega
    have hle := hv.le
    rw [copC_len] at hle
    refine F14.l3.to (C.len_rd (hv.keep hf) ?_)
    simp only [C.ite_true, C.ite_false, C.pick_true, C.pick_false, C.not_bool, C.field_ptr, C.nilCheck_ptr, C.add_mk, C.sub_mk, C.mul_mk, C.eql_mk, C.neq_mk, C.lss_mk, C.leq_mk, C.gtr_mk, C.geq_mk, C.conv_mk, C.len_mk, C.ext_0, C.ext_1, C.ext3_0, C.ext3_1, C.ext3_2, C.guarded_yes, C.guarded_tf, C.guarded_ft, C.guarded_undef, Bool.not_true, Bool.not_false, Nat.zero_add, eq_self, decide_true, decide_false, copC_len, show ((j : Int) < (l.length : Int)) by omega]
    refine F14.k5.to (C.idx_rd (hv.keep hf) (by omega) (by rw [Int.toNat_natCast]; exact copC_get jl) fun g o cs e fz hg hlen hc => C.loadA_cells hg hlen (by decide) hc ?_)
    refine step_c (x := l[j]) hR fun mv1 w1 l1 c1 ms1 hf1 hR1 => ?_
    have f1 : Fr [] W w1 := hf.then hf1 fun z hz => by simp only [List.mem_singleton] at hz; exact .inr (by omega)
    have hl1 := hR1.len
    try simp only [C.ite_true, C.ite_false, C.pick_true, C.pick_false, C.not_bool, C.field_ptr, C.nilCheck_ptr, C.add_mk, C.sub_mk, C.mul_mk, C.eql_mk, C.neq_mk, C.lss_mk, C.leq_mk, C.gtr_mk, C.geq_mk, C.conv_mk, C.len_mk, C.ext_0, C.ext_1, C.ext3_0, C.ext3_1, C.ext3_2, C.guarded_yes, C.guarded_tf, C.guarded_ft, C.guarded_undef, Bool.not_true, Bool.not_false, Nat.zero_add, eq_self, decide_true, decide_false]
    refine all_l hR1.own.rd (by omega) (fun av w2 hf2 ho2 => ?_) ms1.length 0 w1 _ (by omega) (Fr.refl _ _) (NewS.nil _) (by simpa [intC] using OwnS.nil _ _ _)
    have hR2 := hR1.keep0 hf2
    refine F14.k11.to ?_
    try simp only [C.ite_true, C.ite_false, C.pick_true, C.pick_false, C.not_bool, C.field_ptr, C.nilCheck_ptr, C.add_mk, C.sub_mk, C.mul_mk, C.eql_mk, C.neq_mk, C.lss_mk, C.leq_mk, C.gtr_mk, C.geq_mk, C.conv_mk, C.len_mk, C.ext_0, C.ext_1, C.ext3_0, C.ext3_1, C.ext3_2, C.guarded_yes, C.guarded_tf, C.guarded_ft, C.guarded_undef, Bool.not_true, Bool.not_false, Nat.zero_add, eq_self, decide_true, decide_false]
    refine All_c hR2.ca.is hR2.ca.good hR2.ca.kept fun xv w3 hf3 _ ho3 => ?_
    refine Rising_c (ho2.keep hf3 (by simp)).rd (by simp; omega) hR1.np fun rv w4 hf4 ho4 => ?_
    rw [← hR1.sim.all hR1.ca.good hR1.ca.kept] at ho4
    refine Ints_c (ho3.keep hf4 (by simp)).rd ho4.rd fun w5 hf5 => ?_
    rw [decide_eq_true rfl]
    try simp only [C.ite_true, C.ite_false, C.pick_true, C.pick_false, C.not_bool, C.field_ptr, C.nilCheck_ptr, C.add_mk, C.sub_mk, C.mul_mk, C.eql_mk, C.neq_mk, C.lss_mk, C.leq_mk, C.gtr_mk, C.geq_mk, C.conv_mk, C.len_mk, C.ext_0, C.ext_1, C.ext3_0, C.ext3_1, C.ext3_2, C.guarded_yes, C.guarded_tf, C.guarded_ft, C.guarded_undef, Bool.not_true, Bool.not_false, Nat.zero_add, eq_self, decide_true, decide_false]
    refine F14.k4.to ?_
    simp only [C.ite_true, C.ite_false, C.pick_true, C.pick_false, C.not_bool, C.field_ptr, C.nilCheck_ptr, C.add_mk, C.sub_mk, C.mul_mk, C.eql_mk, C.neq_mk, C.lss_mk, C.leq_mk, C.gtr_mk, C.geq_mk, C.conv_mk, C.len_mk, C.ext_0, C.ext_1, C.ext3_0, C.ext3_1, C.ext3_2, C.guarded_yes, C.guarded_tf, C.guarded_ft, C.guarded_undef, Bool.not_true, Bool.not_false, Nat.zero_add, eq_self, decide_true, decide_false]
    rw [wrap64_id (n := (j : Int) + 1) (by omega), show (j : Int) + 1 = ((j + 1 : Nat) : Int) by omega]
    have f25 := hf3.trans (hf4.trans hf5)
    exact ih (j + 1) w5 mv1 l1 c1 ms1 (by omega) (f1.trans (hf2.trans f25)) (hR2.keep0 f25)
theorem run14_c {W : World} {v mv : Value} {l : List COp} {l' : Pgs} {c : Nat} {ms : Ows} (hv : RdS W v 4 (copC l)) (hm : W.heap.size ≤ m) (hf : Fr [] W w) (hR : RS w b m n mv l' c ms)
    (h : ∀ mv' w' l' c' ms', Fr [] W w' → RS w' b m n mv' l' c' ms' → K (.tuple #[mv', .bool true]) w') :
    C.call Try.prog 14 #[.pointer (some ⟨b, 0, none⟩), .int .i64 n, mv, v] w K :=
  F14.sh (run_l hv hm h l.length 0 w mv l' c ms (by omega) hf hR)
theorem Near16_c {t lo hi : Int} (h : K (.int .i64 (if t < lo then lo else if t > hi then hi else t)) w) : C.call Try.prog 16 #[.int .i64 t, .int .i64 lo, .int .i64 hi] w K := by
  refine F16.sh ?_
  by_cases h1 : t < lo
  · simp only [C.ite_true, C.ite_false, C.pick_true, C.pick_false, C.not_bool, C.field_ptr, C.nilCheck_ptr, C.add_mk, C.sub_mk, C.mul_mk, C.eql_mk, C.neq_mk, C.lss_mk, C.leq_mk, C.gtr_mk, C.geq_mk, C.conv_mk, C.len_mk, C.ext_0, C.ext_1, C.ext3_0, C.ext3_1, C.ext3_2, C.guarded_yes, C.guarded_tf, C.guarded_ft, C.guarded_undef, Bool.not_true, Bool.not_false, Nat.zero_add, eq_self, decide_true, decide_false, h1]
    rwa [if_pos h1] at h
  · rw [if_neg h1] at h
    simp only [C.ite_true, C.ite_false, C.pick_true, C.pick_false, C.not_bool, C.field_ptr, C.nilCheck_ptr, C.add_mk, C.sub_mk, C.mul_mk, C.eql_mk, C.neq_mk, C.lss_mk, C.leq_mk, C.gtr_mk, C.geq_mk, C.conv_mk, C.len_mk, C.ext_0, C.ext_1, C.ext3_0, C.ext3_1, C.ext3_2, C.guarded_yes, C.guarded_tf, C.guarded_ft, C.guarded_undef, Bool.not_true, Bool.not_false, Nat.zero_add, eq_self, decide_true, decide_false, h1]
    refine F16.k3.to ?_
    by_cases h2 : t > hi
    · simp only [C.ite_true, C.ite_false, C.pick_true, C.pick_false, C.not_bool, C.field_ptr, C.nilCheck_ptr, C.add_mk, C.sub_mk, C.mul_mk, C.eql_mk, C.neq_mk, C.lss_mk, C.leq_mk, C.gtr_mk, C.geq_mk, C.conv_mk, C.len_mk, C.ext_0, C.ext_1, C.ext3_0, C.ext3_1, C.ext3_2, C.guarded_yes, C.guarded_tf, C.guarded_ft, C.guarded_undef, Bool.not_true, Bool.not_false, Nat.zero_add, eq_self, decide_true, decide_false, h2]
      rwa [if_pos h2] at h
    · simp only [C.ite_true, C.ite_false, C.pick_true, C.pick_false, C.not_bool, C.field_ptr, C.nilCheck_ptr, C.add_mk, C.sub_mk, C.mul_mk, C.eql_mk, C.neq_mk, C.lss_mk, C.leq_mk, C.gtr_mk, C.geq_mk, C.conv_mk, C.len_mk, C.ext_0, C.ext_1, C.ext3_0, C.ext3_1, C.ext3_2, C.guarded_yes, C.guarded_tf, C.guarded_ft, C.guarded_undef, Bool.not_true, Bool.not_false, Nat.zero_add, eq_self, decide_true, decide_false, h2]
      rw [if_neg h2] at h
      exact F16.k5.to h
theorem sim_nil : Sim [] [] := ⟨fun a p => by simp [On], by simp⟩
theorem CacheRuns_c {v : Value} {l : List COp} (t : Int) (hv : RdS w v 4 (copC l)) (h : ∀ w', Fr [] w w' → K (.bool true) w') : C.call Try.prog 3 #[.int .i64 t, v] w K := by
  refine F3.sh (alive13_c fun w1 hf1 => ?_)
  simp only [C.ite_true, C.ite_false, C.pick_true, C.pick_false, C.not_bool, C.field_ptr, C.nilCheck_ptr, C.add_mk, C.sub_mk, C.mul_mk, C.eql_mk, C.neq_mk, C.lss_mk, C.leq_mk, C.gtr_mk, C.geq_mk, C.conv_mk, C.len_mk, C.ext_0, C.ext_1, C.ext3_0, C.ext3_1, C.ext3_2, C.guarded_yes, C.guarded_tf, C.guarded_ft, C.guarded_undef, Bool.not_true, Bool.not_false, Nat.zero_add, eq_self, decide_true, decide_false]
  refine F3.k3.to (NewCa_c fun b m w2 hf2 hb hm hC => Near16_c (few17_c hv fun v' hv' => ?_))
  have s1 := hf1.size
  refine run14_c hv' (by omega : w.heap.size ≤ m) (hf1.trans hf2) ⟨hC, OwnS.nil _ _ _, sim_nil⟩ fun mv' w3 l' c' ms' hf3 _ => ?_
  simp only [C.ite_true, C.ite_false, C.pick_true, C.pick_false, C.not_bool, C.field_ptr, C.nilCheck_ptr, C.add_mk, C.sub_mk, C.mul_mk, C.eql_mk, C.neq_mk, C.lss_mk, C.leq_mk, C.gtr_mk, C.geq_mk, C.conv_mk, C.len_mk, C.ext_0, C.ext_1, C.ext3_0, C.ext3_1, C.ext3_2, C.guarded_yes, C.guarded_tf, C.guarded_ft, C.guarded_undef, Bool.not_true, Bool.not_false, Nat.zero_add, eq_self, decide_true, decide_false]
  exact h w3 hf3
end
end Go.Proofs.YtfdpmgddlaamcaaV
