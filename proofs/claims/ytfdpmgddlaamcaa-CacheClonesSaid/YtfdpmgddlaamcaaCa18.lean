/- CacheClones, by the program. -/
import Derived.Test.YtfdpmgddlaamcaaCa17
namespace Go.Proofs.YtfdpmgddlaamcaaV
open Go Go.Proofs Go.RowKit
set_option linter.unusedVariables false
set_option linter.unusedSimpArgs false
set_option maxRecDepth 10000
section
variable {K : VK} {w : World} {b m : Nat} {n : Int}
/-- A run, and what it leaves of another cache and of lists: only the map's block is written. -/
theorem runS_l {v : Value} {l : List COp} {W : World} (hv : RdS W v 4 (copC l)) (hmW : W.heap.size ≤ m) {S : World}
    (h : ∀ mv' w' l' c' ms', Fr [] W w' → Fr [m] S w' → RS w' b m n mv' l' c' ms' → K (.tuple #[mv', .bool true]) w') :
    ∀ (d j : Nat) (w : World) (mv : Value) (l' : Pgs) (c : Nat) (ms : Ows), l.length = j + d → Fr [] W w → Fr [m] S w → RS w b m n mv l' c ms →
      F14.l3 K (.pointer (some ⟨b, 0, none⟩)) (.int .i64 n) mv v (.bool true) (.int .i64 (j : Int)) w := by
  intro d
  induction d with
  | zero =>
    intro j w mv l' c ms hd hf hS hR
    refine F14.l3.to (C.len_rd (hv.keep hf) ?_)
    simp only [C.ite_true, C.ite_false, C.pick_true, C.pick_false, C.not_bool, C.field_ptr, C.nilCheck_ptr, C.add_mk, C.sub_mk, C.mul_mk, C.eql_mk, C.neq_mk, C.lss_mk, C.leq_mk, C.gtr_mk, C.geq_mk, C.conv_mk, C.len_mk, C.ext_0, C.ext_1, C.ext3_0, C.ext3_1, C.ext3_2, C.guarded_yes, C.guarded_tf, C.guarded_ft, C.guarded_undef, Bool.not_true, Bool.not_false, Nat.zero_add, eq_self, decide_true, decide_false, copC_len, show ¬ ((j : Int) < (l.length : Int)) by omega]
    exact F14.k12.to (h mv w l' c ms hf hS hR)
  | succ d ih =>
    intro j w mv l' c ms hd hf hS hR
    have jl : j < l.length := by omega
    have hle := hv.le
    rw [copC_len] at hle
    refine F14.l3.to (C.len_rd (hv.keep hf) ?_)
    simp only [C.ite_true, C.ite_false, C.pick_true, C.pick_false, C.not_bool, C.field_ptr, C.nilCheck_ptr, C.add_mk, C.sub_mk, C.mul_mk, C.eql_mk, C.neq_mk, C.lss_mk, C.leq_mk, C.gtr_mk, C.geq_mk, C.conv_mk, C.len_mk, C.ext_0, C.ext_1, C.ext3_0, C.ext3_1, C.ext3_2, C.guarded_yes, C.guarded_tf, C.guarded_ft, C.guarded_undef, Bool.not_true, Bool.not_false, Nat.zero_add, eq_self, decide_true, decide_false, copC_len, show ((j : Int) < (l.length : Int)) by omega]
    refine F14.k5.to (C.idx_rd (hv.keep hf) (by omega) (by rw [Int.toNat_natCast]; exact copC_get jl) fun g o cs e fz hg hlen hc => C.loadA_cells hg hlen (by decide) hc ?_)
    refine step_c (x := l[j]) hR fun mv1 w1 l1 c1 ms1 hf1 hR1 => ?_
    have f1 : Fr [] W w1 := hf.then hf1 fun z hz => by simp only [List.mem_singleton] at hz; exact .inr (by omega)
    have hl1 := hR1.len
    try simp only [C.ite_true, C.ite_false, C.pick_true, C.pick_false, C.not_bool, C.field_ptr, C.nilCheck_ptr, C.add_mk, C.sub_mk, C.mul_mk, C.eql_mk, C.neq_mk, C.lss_mk, C.leq_mk, C.gtr_mk, C.geq_mk, C.conv_mk, C.len_mk, C.ext_0, C.ext_1, C.ext3_0, C.ext3_1, C.ext3_2, C.guarded_yes, C.guarded_tf, C.guarded_ft, C.guarded_undef, Bool.not_true, Bool.not_false, Nat.zero_add, eq_self, decide_true, decide_false]
    refine all_l hR1.own.rd (by omega) (fun av w2 hf2 ho2 => ?_) ms1.length 0 w1 _ (by omega) (Fr.refl _ _) (NewS.nil _) (by simpa [intC] using OwnS.nil _ _ _)
    have hR2 := hR1.keep0 hf2
    refine F14.k11.to ?_
    try simp only [C.ite_true, C.ite_false, C.pick_true, C.pick_false, C.not_bool, C.field_ptr, C.nilCheck_ptr, C.add_mk, C.sub_mk, C.mul_mk, C.eql_mk, C.neq_mk, C.lss_mk, C.leq_mk, C.gtr_mk, C.geq_mk, C.conv_mk, C.len_mk, C.ext_0, C.ext_1, C.ext3_0, C.ext3_1, C.ext3_2, C.guarded_yes, C.guarded_tf, C.guarded_ft, C.guarded_undef, Bool.not_true, Bool.not_false, Nat.zero_add, eq_self, decide_true, decide_false]
    refine All_c hR2.ca.is hR2.ca.good hR2.ca.kept fun xv w3 hf3 _ ho3 => ?_
    refine Rising_c (ho2.keep hf3 (by simp)).rd (by simp; omega) hR1.np fun rv w4 hf4 ho4 => ?_
    rw [← hR1.sim.all hR1.ca.good hR1.ca.kept] at ho4
    refine Ints_c (ho3.keep hf4 (by simp)).rd ho4.rd fun w5 hf5 => ?_
    rw [decide_eq_true rfl]
    try simp only [C.ite_true, C.ite_false, C.pick_true, C.pick_false, C.not_bool, C.field_ptr, C.nilCheck_ptr, C.add_mk, C.sub_mk, C.mul_mk, C.eql_mk, C.neq_mk, C.lss_mk, C.leq_mk, C.gtr_mk, C.geq_mk, C.conv_mk, C.len_mk, C.ext_0, C.ext_1, C.ext3_0, C.ext3_1, C.ext3_2, C.guarded_yes, C.guarded_tf, C.guarded_ft, C.guarded_undef, Bool.not_true, Bool.not_false, Nat.zero_add, eq_self, decide_true, decide_false]
    refine F14.k4.to ?_
    simp only [C.ite_true, C.ite_false, C.pick_true, C.pick_false, C.not_bool, C.field_ptr, C.nilCheck_ptr, C.add_mk, C.sub_mk, C.mul_mk, C.eql_mk, C.neq_mk, C.lss_mk, C.leq_mk, C.gtr_mk, C.geq_mk, C.conv_mk, C.len_mk, C.ext_0, C.ext_1, C.ext3_0, C.ext3_1, C.ext3_2, C.guarded_yes, C.guarded_tf, C.guarded_ft, C.guarded_undef, Bool.not_true, Bool.not_false, Nat.zero_add, eq_self, decide_true, decide_false]
    rw [wrap64_id (n := (j : Int) + 1) (by omega), show (j : Int) + 1 = ((j + 1 : Nat) : Int) by omega]
    have f25 := hf3.trans (hf4.trans hf5)
    have f15 := hf2.trans f25
    exact ih (j + 1) w5 mv1 l1 c1 ms1 (by omega) (f1.trans f15) ((hS.trans hf1).trans f15.w) (hR2.keep0 f25)
theorem runS_c {W : World} {v mv : Value} {l : List COp} {l' : Pgs} {c : Nat} {ms : Ows} (hv : RdS W v 4 (copC l)) (hm : W.heap.size ≤ m) (hf : Fr [] W w) (hR : RS w b m n mv l' c ms)
    (h : ∀ mv' w' l' c' ms', Fr [] W w' → Fr [m] w w' → RS w' b m n mv' l' c' ms' → K (.tuple #[mv', .bool true]) w') :
    C.call Try.prog 14 #[.pointer (some ⟨b, 0, none⟩), .int .i64 n, mv, v] w K :=
  F14.sh (runS_l hv hm (S := w) h l.length 0 w mv l' c ms (by omega) hf (Fr.refl _ _) hR)
/-- Another cache's run leaves this one. -/
theorem RS.other {m2 b2 : Nat} {w' : World} {n2 : Int} {mv : Value} {l l2 : Pgs} {c c2 : Nat} {ms : Ows} (h : RS w b m n mv l c ms) (h2 : IsC w b2 m2 n2 l2 c2) (hf : Fr [m2] w w') (hmm : m ≠ m2) : RS w' b m n mv l c ms :=
  h.keep hf (by simp; exact fun e => by subst e; have h1 := h.ca.is.blk; have h3 := h2.map; unfold MapAt at h3; rw [h1] at h3; cases h3) (by simpa using hmm) fun g hg e => by
    simp only [List.mem_singleton] at e
    subst e
    exact h2.off h.own hg
theorem CacheClones_c {va vb vd : Value} {la lb ld : List COp} (t : Int) (ha : RdS w va 4 (copC la)) (hb : RdS w vb 4 (copC lb)) (hd : RdS w vd 4 (copC ld)) (h : ∀ w', Fr [] w w' → K (.bool true) w') :
    C.call Try.prog 5 #[.int .i64 t, va, vb, vd] w K := by
  refine F5.sh (alive13_c fun w1 hf1 => ?_)
  simp only [C.ite_true, C.ite_false, C.pick_true, C.pick_false, C.not_bool, C.field_ptr, C.nilCheck_ptr, C.add_mk, C.sub_mk, C.mul_mk, C.eql_mk, C.neq_mk, C.lss_mk, C.leq_mk, C.gtr_mk, C.geq_mk, C.conv_mk, C.len_mk, C.ext_0, C.ext_1, C.ext3_0, C.ext3_1, C.ext3_2, C.guarded_yes, C.guarded_tf, C.guarded_ft, C.guarded_undef, Bool.not_true, Bool.not_false, Nat.zero_add, eq_self, decide_true, decide_false]
  refine F5.k3.to (Near16_c (NewCa_c fun b m w2 hf2 hb0 hm0 hC => few17_c ha fun va' ha' => ?_))
  have s1 := hf1.size
  have s2 := hf2.size
  generalize (if t < 0 then 0 else if t > 9 then 9 else t) = n at hC ⊢
  refine runS_c ha' (by omega : w.heap.size ≤ m) (hf1.trans hf2) ⟨hC, OwnS.nil _ _ _, sim_nil⟩ fun m3 w3 l3 c3 ms3 hf3 _ hR3 => ?_
  have s3 := hf3.size
  simp only [C.ite_true, C.ite_false, C.pick_true, C.pick_false, C.not_bool, C.field_ptr, C.nilCheck_ptr, C.add_mk, C.sub_mk, C.mul_mk, C.eql_mk, C.neq_mk, C.lss_mk, C.leq_mk, C.gtr_mk, C.geq_mk, C.conv_mk, C.len_mk, C.ext_0, C.ext_1, C.ext3_0, C.ext3_1, C.ext3_2, C.guarded_yes, C.guarded_tf, C.guarded_ft, C.guarded_undef, Bool.not_true, Bool.not_false, Nat.zero_add, eq_self, decide_true, decide_false]
  refine Clone_c hR3.ca fun b' m' w4 hf4 hb4 hm4 hC4 => ?_
  have hmm : m ≠ m' := by have := lt_of_at hR3.ca.is.map; omega
  have hR4 := hR3.keep0 hf4
  have hK4 : RS w4 b' m' n m3 l3 c3 ms3 := ⟨hC4, hR4.own, hR4.sim⟩
  have f4 := hf3.trans hf4
  refine few17_c hb fun vb' hb' => runS_c hb' (by omega : w.heap.size ≤ m) f4 hR4 fun x5 w5 l5 c5 ms5 f5 g5 hR5 => ?_
  have hK5 : RS w5 b' m' n m3 l3 c3 ms3 := hK4.other hR4.ca.is g5 (Ne.symm hmm)
  simp only [C.ite_true, C.ite_false, C.pick_true, C.pick_false, C.not_bool, C.field_ptr, C.nilCheck_ptr, C.add_mk, C.sub_mk, C.mul_mk, C.eql_mk, C.neq_mk, C.lss_mk, C.leq_mk, C.gtr_mk, C.geq_mk, C.conv_mk, C.len_mk, C.ext_0, C.ext_1, C.ext3_0, C.ext3_1, C.ext3_2, C.guarded_yes, C.guarded_tf, C.guarded_ft, C.guarded_undef, Bool.not_true, Bool.not_false, Nat.zero_add, eq_self, decide_true, decide_false]
  refine few17_c hd fun vd' hd' => runS_c hd' (by omega : w.heap.size ≤ m') f5 hK5 fun y6 w6 l6 c6 ms6 f6 g6 hK6 => ?_
  have hR6 : RS w6 b m n x5 l5 c5 ms5 := hR5.other hK5.ca.is g6 hmm
  simp only [C.ite_true, C.ite_false, C.pick_true, C.pick_false, C.not_bool, C.field_ptr, C.nilCheck_ptr, C.add_mk, C.sub_mk, C.mul_mk, C.eql_mk, C.neq_mk, C.lss_mk, C.leq_mk, C.gtr_mk, C.geq_mk, C.conv_mk, C.len_mk, C.ext_0, C.ext_1, C.ext3_0, C.ext3_1, C.ext3_2, C.guarded_yes, C.guarded_tf, C.guarded_ft, C.guarded_undef, Bool.not_true, Bool.not_false, Nat.zero_add, eq_self, decide_true, decide_false]
  refine few17_c hd fun vd'' hd'' => runS_c hd'' (by omega : w.heap.size ≤ m) f6 hR6 fun z7 w7 l7 c7 ms7 f7 g7 hR7 => ?_
  have hK7 : RS w7 b' m' n y6 l6 c6 ms6 := hK6.other hR6.ca.is g7 (Ne.symm hmm)
  simp only [C.ite_true, C.ite_false, C.pick_true, C.pick_false, C.not_bool, C.field_ptr, C.nilCheck_ptr, C.add_mk, C.sub_mk, C.mul_mk, C.eql_mk, C.neq_mk, C.lss_mk, C.leq_mk, C.gtr_mk, C.geq_mk, C.conv_mk, C.len_mk, C.ext_0, C.ext_1, C.ext3_0, C.ext3_1, C.ext3_2, C.guarded_yes, C.guarded_tf, C.guarded_ft, C.guarded_undef, Bool.not_true, Bool.not_false, Nat.zero_add, eq_self, decide_true, decide_false]
  refine few17_c hb fun vb'' hb'' => runS_c hb'' (by omega : w.heap.size ≤ m') f7 hK7 fun z8 w8 l8 c8 ms8 f8 _ _ => ?_
  simp only [C.ite_true, C.ite_false, C.pick_true, C.pick_false, C.not_bool, C.field_ptr, C.nilCheck_ptr, C.add_mk, C.sub_mk, C.mul_mk, C.eql_mk, C.neq_mk, C.lss_mk, C.leq_mk, C.gtr_mk, C.geq_mk, C.conv_mk, C.len_mk, C.ext_0, C.ext_1, C.ext3_0, C.ext3_1, C.ext3_2, C.guarded_yes, C.guarded_tf, C.guarded_ft, C.guarded_undef, Bool.not_true, Bool.not_false, Nat.zero_add, eq_self, decide_true, decide_false]
  refine C.run_of bOdd (C.new_of fun o w9 hn9 => ?_)
  have hO9 : Odd w9 o := hn9.at_
  have f9 := f8.trans hn9.fr
  refine Owner_nil ?_
  simp only [C.ite_true, C.ite_false, C.pick_true, C.pick_false, C.not_bool, C.field_ptr, C.nilCheck_ptr, C.add_mk, C.sub_mk, C.mul_mk, C.eql_mk, C.neq_mk, C.lss_mk, C.leq_mk, C.gtr_mk, C.geq_mk, C.conv_mk, C.len_mk, C.ext_0, C.ext_1, C.ext3_0, C.ext3_1, C.ext3_2, C.guarded_yes, C.guarded_tf, C.guarded_ft, C.guarded_undef, Bool.not_true, Bool.not_false, Nat.zero_add, eq_self, decide_true, decide_false]
  refine Owner_odd hO9 fun w10 hf10 => ?_
  have hO10 := hO9.keep hf10
  simp only [C.ite_true, C.ite_false, C.pick_true, C.pick_false, C.not_bool, C.field_ptr, C.nilCheck_ptr, C.add_mk, C.sub_mk, C.mul_mk, C.eql_mk, C.neq_mk, C.lss_mk, C.leq_mk, C.gtr_mk, C.geq_mk, C.conv_mk, C.len_mk, C.ext_0, C.ext_1, C.ext3_0, C.ext3_1, C.ext3_2, C.guarded_yes, C.guarded_tf, C.guarded_ft, C.guarded_undef, Bool.not_true, Bool.not_false, Nat.zero_add, eq_self, decide_true, decide_false]
  refine Page_nil ?_
  simp only [C.ite_true, C.ite_false, C.pick_true, C.pick_false, C.not_bool, C.field_ptr, C.nilCheck_ptr, C.add_mk, C.sub_mk, C.mul_mk, C.eql_mk, C.neq_mk, C.lss_mk, C.leq_mk, C.gtr_mk, C.geq_mk, C.conv_mk, C.len_mk, C.ext_0, C.ext_1, C.ext3_0, C.ext3_1, C.ext3_2, C.guarded_yes, C.guarded_tf, C.guarded_ft, C.guarded_undef, Bool.not_true, Bool.not_false, Nat.zero_add, eq_self, decide_true, decide_false]
  refine Page_odd hO10 ?_
  simp only [C.ite_true, C.ite_false, C.pick_true, C.pick_false, C.not_bool, C.field_ptr, C.nilCheck_ptr, C.add_mk, C.sub_mk, C.mul_mk, C.eql_mk, C.neq_mk, C.lss_mk, C.leq_mk, C.gtr_mk, C.geq_mk, C.conv_mk, C.len_mk, C.ext_0, C.ext_1, C.ext3_0, C.ext3_1, C.ext3_2, C.guarded_yes, C.guarded_tf, C.guarded_ft, C.guarded_undef, Bool.not_true, Bool.not_false, Nat.zero_add, eq_self, decide_true, decide_false]
  refine Set_nil ?_
  simp only [C.ite_true, C.ite_false, C.pick_true, C.pick_false, C.not_bool, C.field_ptr, C.nilCheck_ptr, C.add_mk, C.sub_mk, C.mul_mk, C.eql_mk, C.neq_mk, C.lss_mk, C.leq_mk, C.gtr_mk, C.geq_mk, C.conv_mk, C.len_mk, C.ext_0, C.ext_1, C.ext3_0, C.ext3_1, C.ext3_2, C.guarded_yes, C.guarded_tf, C.guarded_ft, C.guarded_undef, Bool.not_true, Bool.not_false, Nat.zero_add, eq_self, decide_true, decide_false]
  refine Set_odd hO10 ?_
  simp only [C.ite_true, C.ite_false, C.pick_true, C.pick_false, C.not_bool, C.field_ptr, C.nilCheck_ptr, C.add_mk, C.sub_mk, C.mul_mk, C.eql_mk, C.neq_mk, C.lss_mk, C.leq_mk, C.gtr_mk, C.geq_mk, C.conv_mk, C.len_mk, C.ext_0, C.ext_1, C.ext3_0, C.ext3_1, C.ext3_2, C.guarded_yes, C.guarded_tf, C.guarded_ft, C.guarded_undef, Bool.not_true, Bool.not_false, Nat.zero_add, eq_self, decide_true, decide_false]
  refine Drop_nil ?_
  simp only [C.ite_true, C.ite_false, C.pick_true, C.pick_false, C.not_bool, C.field_ptr, C.nilCheck_ptr, C.add_mk, C.sub_mk, C.mul_mk, C.eql_mk, C.neq_mk, C.lss_mk, C.leq_mk, C.gtr_mk, C.geq_mk, C.conv_mk, C.len_mk, C.ext_0, C.ext_1, C.ext3_0, C.ext3_1, C.ext3_2, C.guarded_yes, C.guarded_tf, C.guarded_ft, C.guarded_undef, Bool.not_true, Bool.not_false, Nat.zero_add, eq_self, decide_true, decide_false, show (((0 : Nat) : Int) = 0) = True from by simp]
  refine All_odd hO10 fun v w11 hf11 ho11 => C.len_rd ho11.rd ?_
  have hO11 := hO10.keep hf11
  simp only [C.ite_true, C.ite_false, C.pick_true, C.pick_false, C.not_bool, C.field_ptr, C.nilCheck_ptr, C.add_mk, C.sub_mk, C.mul_mk, C.eql_mk, C.neq_mk, C.lss_mk, C.leq_mk, C.gtr_mk, C.geq_mk, C.conv_mk, C.len_mk, C.ext_0, C.ext_1, C.ext3_0, C.ext3_1, C.ext3_2, C.guarded_yes, C.guarded_tf, C.guarded_ft, C.guarded_undef, Bool.not_true, Bool.not_false, Nat.zero_add, eq_self, decide_true, decide_false, intC_len, List.length_nil, show (((0 : Nat) : Int) = 0) = True from by simp]
  refine All_nil ?_
  simp only [C.ite_true, C.ite_false, C.pick_true, C.pick_false, C.not_bool, C.field_ptr, C.nilCheck_ptr, C.add_mk, C.sub_mk, C.mul_mk, C.eql_mk, C.neq_mk, C.lss_mk, C.leq_mk, C.gtr_mk, C.geq_mk, C.conv_mk, C.len_mk, C.ext_0, C.ext_1, C.ext3_0, C.ext3_1, C.ext3_2, C.guarded_yes, C.guarded_tf, C.guarded_ft, C.guarded_undef, Bool.not_true, Bool.not_false, Nat.zero_add, eq_self, decide_true, decide_false, show (((0 : Nat) : Int) = 0) = True from by simp]
  refine Clone_nil ⟨_, eq_nil_nil _ _ Try.underlying27, ?_⟩
  simp only [C.ite_true, C.ite_false, C.pick_true, C.pick_false, C.not_bool, C.field_ptr, C.nilCheck_ptr, C.add_mk, C.sub_mk, C.mul_mk, C.eql_mk, C.neq_mk, C.lss_mk, C.leq_mk, C.gtr_mk, C.geq_mk, C.conv_mk, C.len_mk, C.ext_0, C.ext_1, C.ext3_0, C.ext3_1, C.ext3_2, C.guarded_yes, C.guarded_tf, C.guarded_ft, C.guarded_undef, Bool.not_true, Bool.not_false, Nat.zero_add, eq_self, decide_true, decide_false]
  refine Clone_odd hO11 ⟨_, eq_nil_nil _ _ Try.underlying27, ?_⟩
  simp only [C.ite_true, C.ite_false, C.pick_true, C.pick_false, C.not_bool, C.field_ptr, C.nilCheck_ptr, C.add_mk, C.sub_mk, C.mul_mk, C.eql_mk, C.neq_mk, C.lss_mk, C.leq_mk, C.gtr_mk, C.geq_mk, C.conv_mk, C.len_mk, C.ext_0, C.ext_1, C.ext3_0, C.ext3_1, C.ext3_2, C.guarded_yes, C.guarded_tf, C.guarded_ft, C.guarded_undef, Bool.not_true, Bool.not_false, Nat.zero_add, eq_self, decide_true, decide_false]
  exact h w11 (f9.trans (hf10.trans hf11))
end
end Go.Proofs.YtfdpmgddlaamcaaV
