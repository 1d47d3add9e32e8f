/- Slides, by the program: Moves, moved, Slide. -/
import Derived.Test.YtfjilngljnlkjaaSlA
namespace Go.Proofs.YtfjilngljnlkjaaV
open Go Go.Proofs Go.RowKit
set_option linter.unusedVariables false
set_option linter.unusedSimpArgs false
set_option maxRecDepth 10000
section
variable {K : VK} {w : World}
/-! ### 1. Moves -/
theorem bMv (a b : Int) : (Instr.build 56 #[(0, .int .i64 a), (1, .int .i64 b)]).run Try.prog w = .ok (.agg #[.int .i64 a, .int .i64 b]) w := by kernel_rfl
theorem bsMv (a b : Int) : (Instr.buildSlice 52 1 #[(0, .agg #[.int .i64 a, .int .i64 b])]).run Try.prog w = .ok (.slice (some ⟨w.heap.size, 0, none⟩) 1 1) (w.alloc (.cells #[.int .i64 a, .int .i64 b] 56)) := by kernel_rfl
theorem C.appMv {W0 : World} {v : Value} {l : List Va} {x : Va} (hf : Fr [] W0 w) (hn : NewS W0 v) (hv : OwnS w v 56 2 (valC l)) (hl : l.length ≤ 8796093022207)
    (hk : ∀ v' w', Fr [] W0 w' → NewS W0 v' → OwnS w' v' 56 2 (valC (l ++ [x])) → Fr (blkS v) w w' → (∀ g ∈ blkS v', g ∈ blkS v ∨ w.heap.size ≤ g) → K v' w') :
    C.run Try.prog (Instr.buildSlice 52 1 #[(0, .agg #[.int .i64 x.1, .int .i64 x.2])]) w fun y w1 => C.run Try.prog (Builtin.append_ #[52, 52] 52 #[v, y]) w1 K :=
  C.app1 (x := [.int .i64 x.1, .int .i64 x.2]) (e := 56) (sz := 2) (bytes := 16) (z := .agg #[.int .i64 0, .int .i64 0]) Try.underlying52 (by kernel_rfl) rfl (by decide) (bsMv x.1 x.2) rfl (by simp [Value.oneCell']) hf hn hv (by rw [valC_len]; omega) (by rw [valC_len]; omega) fun v' w' a b c d e => hk v' w' a b (by rw [valC_app]; exact c) d e
theorem Moves_loop {W0 : World} {lv sv : Value} {l : List Int} {m : List Ob} {S : List Nat} (hO : Spl 0 l m) (hlen : l.length ≤ 2048) (hl : RdS W0 lv 1 (intC l)) (hP : Pls m S) (hs : RdS W0 sv 1 (intC (ordL m S)))
    (h : ∀ v w', Fr [] W0 w' → NewS W0 v → OwnS w' v 56 2 (valC (mvL m S S.length)) → K (.tuple #[v, .int .i64 0]) w') :
    ∀ (d j : Nat) (w : World) (v : Value), S.length = j + d → Fr [] W0 w → NewS W0 v → OwnS w v 56 2 (valC (mvL m S j)) →
      F28.l7 K lv v (.int .i64 (szS m (S.take j) : Int)) sv (.int .i64 (S.length : Int)) (.int .i64 (j : Int)) w := by
  have hSl := hP.len
  have hml := hO.len
  intro d
  induction d with
  | zero =>
    intro j w v hj hf hn ho
    refine F28.l7.to ?_
    simp only [C.ite_true, C.ite_false, C.pick_true, C.pick_false, C.not_bool, C.field_ptr, C.nilCheck_ptr, C.add_mk, C.sub_mk, C.mul_mk, C.eql_mk, C.neq_mk, C.lss_mk, C.leq_mk, C.gtr_mk, C.geq_mk, C.conv_mk, C.len_mk, C.ext_0, C.ext_1, C.ext3_0, C.ext3_1, C.ext3_2, C.guarded_yes, C.guarded_tf, C.guarded_ft, C.guarded_undef, Bool.not_true, Bool.not_false, Nat.zero_add, eq_self, decide_true, decide_false, show ¬ ((j : Int) < (S.length : Int)) by omega]
    rw [show j = S.length by omega] at ho
    exact F28.k12.to (h v w hf hn ho)
  | succ d ih =>
    intro j w v hj hf hn ho
    have jl : j < S.length := by omega
    have jl' : j < (ordL m S).length := by rw [ordL_len]; exact jl
    have hpm := hP.2 _ (List.getElem_mem jl)
    have et : S.take (j + 1) = S.take j ++ [S[j]] := by rw [List.take_add_one, List.getElem?_eq_getElem jl]; rfl
    have hsz : szS m (S.take j) + szA m S[j] ≤ 2048 := by
      have h1 : Pls m (S.take (j + 1)) := ⟨hP.1.sublist (List.take_sublist _ _), fun p hp => hP.2 p (List.mem_of_mem_take hp)⟩
      have := h1.sz hO
      rw [et, szI] at this
      omega
    refine F28.l7.to ?_
    simp only [C.ite_true, C.ite_false, C.pick_true, C.pick_false, C.not_bool, C.field_ptr, C.nilCheck_ptr, C.add_mk, C.sub_mk, C.mul_mk, C.eql_mk, C.neq_mk, C.lss_mk, C.leq_mk, C.gtr_mk, C.geq_mk, C.conv_mk, C.len_mk, C.ext_0, C.ext_1, C.ext3_0, C.ext3_1, C.ext3_2, C.guarded_yes, C.guarded_tf, C.guarded_ft, C.guarded_undef, Bool.not_true, Bool.not_false, Nat.zero_add, eq_self, decide_true, decide_false, show ((j : Int) < (S.length : Int)) by omega]
    refine F28.k8.to (C.idx_int (hs.keep hf) jl' fun g oo cs e fz hg hv => C.load1_of hg hv (C.run_of (bMv _ _) ?_))
    rw [ordL_get jl jl', atA_get hpm]
    refine C.appMv (x := ((m[S[j]].at_ : Int), (szS m (S.take j) : Int))) hf hn ho (by rw [mvL_len]; omega) fun v' w1 hf1 hn1 ho1 _ _ => ?_
    refine long_c (hl.keep hf1) hO hpm ?_
    simp only [C.ite_true, C.ite_false, C.pick_true, C.pick_false, C.not_bool, C.field_ptr, C.nilCheck_ptr, C.add_mk, C.sub_mk, C.mul_mk, C.eql_mk, C.neq_mk, C.lss_mk, C.leq_mk, C.gtr_mk, C.geq_mk, C.conv_mk, C.len_mk, C.ext_0, C.ext_1, C.ext3_0, C.ext3_1, C.ext3_2, C.guarded_yes, C.guarded_tf, C.guarded_ft, C.guarded_undef, Bool.not_true, Bool.not_false, Nat.zero_add, eq_self, decide_true, decide_false]
    rw [wrap64_id (n := (szS m (S.take j) : Int) + (szA m S[j] : Int)) (by omega)]
    refine F28.k11.to ?_
    simp only [C.ite_true, C.ite_false, C.pick_true, C.pick_false, C.not_bool, C.field_ptr, C.nilCheck_ptr, C.add_mk, C.sub_mk, C.mul_mk, C.eql_mk, C.neq_mk, C.lss_mk, C.leq_mk, C.gtr_mk, C.geq_mk, C.conv_mk, C.len_mk, C.ext_0, C.ext_1, C.ext3_0, C.ext3_1, C.ext3_2, C.guarded_yes, C.guarded_tf, C.guarded_ft, C.guarded_undef, Bool.not_true, Bool.not_false, Nat.zero_add, eq_self, decide_true, decide_false]
    rw [wrap64_id (n := (j : Int) + 1) (by omega), show (j : Int) + 1 = ((j + 1 : Nat) : Int) by omega, show (szS m (S.take j) : Int) + (szA m S[j] : Int) = ((szS m (S.take (j + 1)) : Nat) : Int) by rw [et, szI]; omega]
    refine ih (j + 1) w1 v' (by omega) hf1 hn1 ?_
    rw [mvL_succ, show S.getD j 0 = S[j] by simp [List.getD_eq_getElem?_getD, List.getElem?_eq_getElem jl], atA_get hpm]
    exact ho1
theorem Moves_c {lv rv : Value} {l roots : List Int} (hl : RdS w lv 1 (intC l)) (hr : Rng l) (hrv : RdS w rv 1 (intC roots)) (hrr : Rng roots) (hrl : roots.length ≤ 8796093022207)
    (h1 : ∀ c m w', Cr l roots c m → c ≠ 0 → Fr [] w w' → K (.tuple #[.slice none 0 0, .int .i64 c]) w')
    (h0 : ∀ m v w', Cr l roots 0 m → Fr [] w w' → NewS w v → OwnS w' v 56 2 (valC (mvL m (slO m roots) (slO m roots).length)) → K (.tuple #[v, .int .i64 0]) w') : C.call Try.prog 28 #[lv, rv] w K := by
  refine F28.sh (Copy_c hl hr hrv hrr (by omega) (fun c m w1 hc c0 hf1 => ?_) fun m tv hv w1 hc hf1 _ _ _ _ => ?_)
  · simp only [C.ite_true, C.ite_false, C.pick_true, C.pick_false, C.not_bool, C.field_ptr, C.nilCheck_ptr, C.add_mk, C.sub_mk, C.mul_mk, C.eql_mk, C.neq_mk, C.lss_mk, C.leq_mk, C.gtr_mk, C.geq_mk, C.conv_mk, C.len_mk, C.ext_0, C.ext_1, C.ext3_0, C.ext3_1, C.ext3_2, C.guarded_yes, C.guarded_tf, C.guarded_ft, C.guarded_undef, Bool.not_true, Bool.not_false, Nat.zero_add, eq_self, decide_true, decide_false, ne_eq, c0, not_false_eq_true]
    exact h1 c m w1 hc c0 hf1
  · have hO := hc.opn
    simp only [C.ite_true, C.ite_false, C.pick_true, C.pick_false, C.not_bool, C.field_ptr, C.nilCheck_ptr, C.add_mk, C.sub_mk, C.mul_mk, C.eql_mk, C.neq_mk, C.lss_mk, C.leq_mk, C.gtr_mk, C.geq_mk, C.conv_mk, C.len_mk, C.ext_0, C.ext_1, C.ext3_0, C.ext3_1, C.ext3_2, C.guarded_yes, C.guarded_tf, C.guarded_ft, C.guarded_undef, Bool.not_true, Bool.not_false, Nat.zero_add, eq_self, decide_true, decide_false, ne_eq, not_true_eq_false]
    refine F28.k4.to (reached_c hO (hl.keep hf1) hr (hrv.keep hf1) hrr hrl fun sv w2 hf2 hn2 ho2 => C.len_rd ho2.rd ?_)
    rw [intC_len, ordL_len]
    have f2 := hf1.trans hf2
    exact Moves_loop hO.spl hO.few (hl.keep f2) (slO_pls m roots) ho2.rd (fun v w' a b c => h0 m v w' hc (f2.trans a) (b.mono f2.size) c) (slO m roots).length 0 w2 (.slice none 0 0) (by omega) (Fr.refl _ _) (NewS.nil _) (OwnS.nil _ _ _)
/-! ### 2. Words moved -/
theorem bodied_m1 : bodied Try.prog 65 = true := by kernel_rfl
theorem idxf_loop {W0 : World} {mv : Value} {L : List Va} {b : Nat} {a : Int} {i : Nat} (hm : RdS W0 mv 2 (valC L)) (hb : W0.heap[b]? = some (.cells #[.int .i64 a] 3 (0, 0))) (hi : i < L.length) (ha : L[i].1 = a) (hne : ∀ k (hk : k < L.length), k < i → L[k].1 ≠ a)
    (h : ∀ w', Fr [] W0 w' → K (.int .i64 (i : Int)) w') :
    ∀ (d j : Nat) (w : World), i = j + d → Fr [] W0 w → F64.l2 K mv (.func (.func 65) #[] #[.pointer (some ⟨b, 0, none⟩)]) (.int .i64 (L.length : Int)) (.int .i64 (j : Int)) w := by
  have hle := hm.le
  rw [valC_len] at hle
  have one : ∀ (j : Nat) (w : World) (hj : j < L.length), Fr [] W0 w → ∀ {K2 : VK}, (∀ w', Fr [] W0 w' → K2 (.bool (decide (L[j].1 = a))) w') → vcCall Try.prog (.func (.func 65) #[] #[.pointer (some ⟨b, 0, none⟩)]) [.agg #[.int .i64 L[j].1, .int .i64 L[j].2]] w K2 := by
    intro j w hj hf K2 hk
    refine vcCall_of bodied_m1 (F65.sh (C.new_of fun c w1 hn1 => ?_))
    simp only [C.ite_true, C.ite_false, C.pick_true, C.pick_false, C.not_bool, C.field_ptr, C.nilCheck_ptr, C.add_mk, C.sub_mk, C.mul_mk, C.eql_mk, C.neq_mk, C.lss_mk, C.leq_mk, C.gtr_mk, C.geq_mk, C.conv_mk, C.len_mk, C.ext_0, C.ext_1, C.ext3_0, C.ext3_1, C.ext3_2, C.guarded_yes, C.guarded_tf, C.guarded_ft, C.guarded_undef, Bool.not_true, Bool.not_false, Nat.zero_add, eq_self, decide_true, decide_false]
    refine C.load1_of (v := .int .i64 L[j].1) hn1.at_ rfl (C.load1_of (v := .int .i64 a) ((hf.trans hn1.fr).at_ hb (by simp)) rfl ?_)
    simp only [C.ite_true, C.ite_false, C.pick_true, C.pick_false, C.not_bool, C.field_ptr, C.nilCheck_ptr, C.add_mk, C.sub_mk, C.mul_mk, C.eql_mk, C.neq_mk, C.lss_mk, C.leq_mk, C.gtr_mk, C.geq_mk, C.conv_mk, C.len_mk, C.ext_0, C.ext_1, C.ext3_0, C.ext3_1, C.ext3_2, C.guarded_yes, C.guarded_tf, C.guarded_ft, C.guarded_undef, Bool.not_true, Bool.not_false, Nat.zero_add, eq_self, decide_true, decide_false]
    exact hk w1 (hf.trans hn1.fr)
  intro d
  induction d with
  | zero =>
    intro j w hj hf
    obtain rfl : i = j := by omega
    refine F64.l2.to ?_
    simp only [C.ite_true, C.ite_false, C.pick_true, C.pick_false, C.not_bool, C.field_ptr, C.nilCheck_ptr, C.add_mk, C.sub_mk, C.mul_mk, C.eql_mk, C.neq_mk, C.lss_mk, C.leq_mk, C.gtr_mk, C.geq_mk, C.conv_mk, C.len_mk, C.ext_0, C.ext_1, C.ext3_0, C.ext3_1, C.ext3_2, C.guarded_yes, C.guarded_tf, C.guarded_ft, C.guarded_undef, Bool.not_true, Bool.not_false, Nat.zero_add, eq_self, decide_true, decide_false, show ((i : Int) < (L.length : Int)) by omega]
    refine F64.k3.to (C.idx_rd (hm.keep hf) (by omega) (by rw [Int.toNat_natCast]; exact valC_get hi) fun g o cs e fz hg hl2 hc => C.loadA_cells hg hl2 (by omega) hc (one i w hi hf fun w1 hf1 => ?_))
    rw [decide_eq_true ha]
    simp only [C.ite_true, C.ite_false, C.pick_true, C.pick_false, C.not_bool, C.field_ptr, C.nilCheck_ptr, C.add_mk, C.sub_mk, C.mul_mk, C.eql_mk, C.neq_mk, C.lss_mk, C.leq_mk, C.gtr_mk, C.geq_mk, C.conv_mk, C.len_mk, C.ext_0, C.ext_1, C.ext3_0, C.ext3_1, C.ext3_2, C.guarded_yes, C.guarded_tf, C.guarded_ft, C.guarded_undef, Bool.not_true, Bool.not_false, Nat.zero_add, eq_self, decide_true, decide_false]
    exact h w1 hf1
  | succ d ih =>
    intro j w hj hf
    have jl : j < L.length := by omega
    refine F64.l2.to ?_
    simp only [C.ite_true, C.ite_false, C.pick_true, C.pick_false, C.not_bool, C.field_ptr, C.nilCheck_ptr, C.add_mk, C.sub_mk, C.mul_mk, C.eql_mk, C.neq_mk, C.lss_mk, C.leq_mk, C.gtr_mk, C.geq_mk, C.conv_mk, C.len_mk, C.ext_0, C.ext_1, C.ext3_0, C.ext3_1, C.ext3_2, C.guarded_yes, C.guarded_tf, C.guarded_ft, C.guarded_undef, Bool.not_true, Bool.not_false, Nat.zero_add, eq_self, decide_true, decide_false, show ((j : Int) < (L.length : Int)) by omega]
    refine F64.k3.to (C.idx_rd (hm.keep hf) (by omega) (by rw [Int.toNat_natCast]; exact valC_get jl) fun g o cs e fz hg hl2 hc => C.loadA_cells hg hl2 (by omega) hc (one j w jl hf fun w1 hf1 => ?_))
    rw [decide_eq_false (hne j jl (by omega))]
    simp only [C.ite_true, C.ite_false, C.pick_true, C.pick_false, C.not_bool, C.field_ptr, C.nilCheck_ptr, C.add_mk, C.sub_mk, C.mul_mk, C.eql_mk, C.neq_mk, C.lss_mk, C.leq_mk, C.gtr_mk, C.geq_mk, C.conv_mk, C.len_mk, C.ext_0, C.ext_1, C.ext3_0, C.ext3_1, C.ext3_2, C.guarded_yes, C.guarded_tf, C.guarded_ft, C.guarded_undef, Bool.not_true, Bool.not_false, Nat.zero_add, eq_self, decide_true, decide_false]
    refine F64.k6.to ?_
    simp only [C.ite_true, C.ite_false, C.pick_true, C.pick_false, C.not_bool, C.field_ptr, C.nilCheck_ptr, C.add_mk, C.sub_mk, C.mul_mk, C.eql_mk, C.neq_mk, C.lss_mk, C.leq_mk, C.gtr_mk, C.geq_mk, C.conv_mk, C.len_mk, C.ext_0, C.ext_1, C.ext3_0, C.ext3_1, C.ext3_2, C.guarded_yes, C.guarded_tf, C.guarded_ft, C.guarded_undef, Bool.not_true, Bool.not_false, Nat.zero_add, eq_self, decide_true, decide_false]
    rw [wrap64_id (n := (j : Int) + 1) (by omega), show (j : Int) + 1 = ((j + 1 : Nat) : Int) by omega]
    exact ih (j + 1) w1 (by omega) hf1
theorem smoved_loop {W0 : World} {mv v : Value} {l ws : List Int} {m : List Ob} {S : List Nat} (hO : Spl 0 l m) (hlen : l.length ≤ 2048) (hP : Pls m S) (hm : RdS W0 mv 2 (valC (mvL m S S.length))) (hrw : Rng ws) (hfw : fineL m ws) (hin : ∀ x ∈ ws, ∀ q, wPl m x = some q → q ∈ S)
    (hn : NewS W0 v) (h : ∀ w', Fr [] W0 w' → OwnS w' v 2 1 (intC (ws.map (movW m S))) → K v w') :
    ∀ (d j : Nat) (w : World), ws.length = j + d → Fr [] W0 w → OwnS w v 2 1 (intC ((ws.take j).map (movW m S) ++ ws.drop j)) →
      F47.l3 K mv v v (.int .i64 (ws.length : Int)) (.int .i64 (j : Int)) w := by
  intro d
  induction d with
  | zero =>
    intro j w hj hf ho
    refine F47.l3.to ?_
    simp only [C.ite_true, C.ite_false, C.pick_true, C.pick_false, C.not_bool, C.field_ptr, C.nilCheck_ptr, C.add_mk, C.sub_mk, C.mul_mk, C.eql_mk, C.neq_mk, C.lss_mk, C.leq_mk, C.gtr_mk, C.geq_mk, C.conv_mk, C.len_mk, C.ext_0, C.ext_1, C.ext3_0, C.ext3_1, C.ext3_2, C.guarded_yes, C.guarded_tf, C.guarded_ft, C.guarded_undef, Bool.not_true, Bool.not_false, Nat.zero_add, eq_self, decide_true, decide_false, show ¬ ((j : Int) < (ws.length : Int)) by omega]
    rw [List.take_of_length_le (by omega), List.drop_of_length_le (by omega), List.append_nil] at ho
    exact F47.k10.to (h w hf ho)
  | succ d ih =>
    intro j w hj hf ho
    have jl : j < ws.length := by omega
    have hle := ho.rd.le
    rw [intC_len, List.length_append, List.length_map, List.length_take, List.length_drop] at hle
    have jl' : j < ((ws.take j).map (movW m S) ++ ws.drop j).length := by simp; omega
    have egj : ((ws.take j).map (movW m S) ++ ws.drop j)[j] = ws[j] := by
      rw [List.getElem_append_right (by simp; omega)]
      simp [Nat.min_eq_left (Nat.le_of_lt jl)]
    have hmem := List.getElem_mem jl
    have hfx := hfw _ hmem
    have nx : ∀ w', Fr [] W0 w' → OwnS w' v 2 1 (intC ((ws.take (j + 1)).map (movW m S) ++ ws.drop (j + 1))) → F47.k9 K mv v v (.int .i64 (ws.length : Int)) (.int .i64 (j : Int)) w' := fun w' a b => by
      refine F47.k9.to ?_
      simp only [C.ite_true, C.ite_false, C.pick_true, C.pick_false, C.not_bool, C.field_ptr, C.nilCheck_ptr, C.add_mk, C.sub_mk, C.mul_mk, C.eql_mk, C.neq_mk, C.lss_mk, C.leq_mk, C.gtr_mk, C.geq_mk, C.conv_mk, C.len_mk, C.ext_0, C.ext_1, C.ext3_0, C.ext3_1, C.ext3_2, C.guarded_yes, C.guarded_tf, C.guarded_ft, C.guarded_undef, Bool.not_true, Bool.not_false, Nat.zero_add, eq_self, decide_true, decide_false]
      rw [wrap64_id (n := (j : Int) + 1) (by omega), show (j : Int) + 1 = ((j + 1 : Nat) : Int) by omega]
      exact ih (j + 1) w' (by omega) a b
    have es : (ws.take (j + 1)).map (movW m S) ++ ws.drop (j + 1) = ((ws.take j).map (movW m S) ++ ws.drop j).set j (movW m S ws[j]) := by
      rw [List.set_append_right _ _ (by simp; omega)]
      rw [take_snoc jl, List.map_append, List.append_assoc]
      congr 1
      rw [List.length_map, List.length_take, Nat.min_eq_left (Nat.le_of_lt jl), Nat.sub_self, List.drop_eq_getElem_cons jl]
      rfl
    refine F47.l3.to ?_
    simp only [C.ite_true, C.ite_false, C.pick_true, C.pick_false, C.not_bool, C.field_ptr, C.nilCheck_ptr, C.add_mk, C.sub_mk, C.mul_mk, C.eql_mk, C.neq_mk, C.lss_mk, C.leq_mk, C.gtr_mk, C.geq_mk, C.conv_mk, C.len_mk, C.ext_0, C.ext_1, C.ext3_0, C.ext3_1, C.ext3_2, C.guarded_yes, C.guarded_tf, C.guarded_ft, C.guarded_undef, Bool.not_true, Bool.not_false, Nat.zero_add, eq_self, decide_true, decide_false, show ((j : Int) < (ws.length : Int)) by omega]
    refine F47.k4.to (C.idx_int ho.rd jl' fun g oo cs e fz hg hv => C.load1_of hg hv ?_)
    rw [egj]
    refine Address_c _ (hrw _ hmem) (fun hc w1 hf1 => ?_) (fun hc w1 hf1 => ?_)
    · have hwr : wRef ws[j] = some (rdN ws[j]).toNat := by unfold wRef; rw [if_pos hc]
      have hn2 := (wRef_ok hwr).2.2
      obtain ⟨q, hq, hwq⟩ := fine_pl hfx hwr
      obtain ⟨qm, qat, _⟩ := pl_some hq
      have hqS := hin _ hmem q hwq
      have hix := idx_lt hqS
      have hgx := idx_get hqS
      simp only [C.ite_true, C.ite_false, C.pick_true, C.pick_false, C.not_bool, C.field_ptr, C.nilCheck_ptr, C.add_mk, C.sub_mk, C.mul_mk, C.eql_mk, C.neq_mk, C.lss_mk, C.leq_mk, C.gtr_mk, C.geq_mk, C.conv_mk, C.len_mk, C.ext_0, C.ext_1, C.ext3_0, C.ext3_1, C.ext3_2, C.guarded_yes, C.guarded_tf, C.guarded_ft, C.guarded_undef, Bool.not_true, Bool.not_false, Nat.zero_add, eq_self, decide_true, decide_false]
      refine C.new_of fun b w2 hn2' => C.store1_of (x := .int .i64 (rdN ws[j])) hn2'.at_ rfl rfl (by simp) fun w3 hu3 => ?_
      have i2 := hn2'.is
      have f13 : Fr [] w1 w3 := hn2'.fr.then hu3.fr fun z hz => .inr (by simp only [List.mem_singleton] at hz; omega)
      have f3 := (hf.trans hf1).trans f13
      have hb3 : w3.heap[b]? = some (.cells #[.int .i64 (rdN ws[j])] 3 (0, 0)) := hu3.at_
      try simp only [C.ite_true, C.ite_false, C.pick_true, C.pick_false, C.not_bool, C.field_ptr, C.nilCheck_ptr, C.add_mk, C.sub_mk, C.mul_mk, C.eql_mk, C.neq_mk, C.lss_mk, C.leq_mk, C.gtr_mk, C.geq_mk, C.conv_mk, C.len_mk, C.ext_0, C.ext_1, C.ext3_0, C.ext3_1, C.ext3_2, C.guarded_yes, C.guarded_tf, C.guarded_ft, C.guarded_undef, Bool.not_true, Bool.not_false, Nat.zero_add, eq_self, decide_true, decide_false]
      refine F47.k7.to (F64.sh (C.len_rd (hm.keep f3) ?_))
      rw [valC_len]
      have hixm : S.idxOf q < (mvL m S S.length).length := by rw [mvL_len]; exact hix
      have gx : ∀ k (hk : k < (mvL m S S.length).length) (hk' : k < S.length), (mvL m S S.length)[k] = ((atA m S[k] : Int), (szS m (S.take k) : Int)) := fun k hk hk' => mvL_get hk' hk' hk
      refine idxf_loop (W0 := w3) (L := mvL m S S.length) (b := b) (a := rdN ws[j]) (i := S.idxOf q) (hm.keep f3) hb3 hixm (by rw [gx _ hixm hix]; show (atA m S[S.idxOf q] : Int) = rdN ws[j]; rw [hgx, atA_get qm, qat]; exact hn2.symm) (fun k hk hki e => by
        have hk' : k < S.length := by rwa [mvL_len] at hk
        rw [gx k hk hk', hn2, ← qat] at e
        simp only at e
        have e3 := at_inj hO (hP.2 _ (List.getElem_mem hk')) qm (by rw [atA_get qm]; omega)
        have := List.pairwise_iff_getElem.1 (List.nodup_iff_pairwise_ne.1 hP.1) k (S.idxOf q) hk' hix hki
        exact this (e3.trans hgx.symm)) (fun w4 hf4 => ?_) (S.idxOf q) 0 w3 (by omega) (Fr.refl _ _)
      have f4 := f3.trans hf4
      have hpos : szS m (S.take (S.idxOf q)) = pos m S q := by
        have := pos_get (m := m) hP.1 hix
        rw [hgx] at this
        exact this.symm
      have hps : pos m S q < 2048 := by
        have h1 := pos_lt (m := m) hqS
        have h2 := hP.sz hO
        unfold szA at h1
        omega
      refine C.idx_rd (hm.keep f4) (by omega) (by rw [Int.toNat_natCast]; exact valC_get hixm) fun g o cs e fz hg hl2 hc => ?_
      rw [gx _ hixm hix] at hc
      simp only [C.ite_true, C.ite_false, C.pick_true, C.pick_false, C.not_bool, C.field_ptr, C.nilCheck_ptr, C.add_mk, C.sub_mk, C.mul_mk, C.eql_mk, C.neq_mk, C.lss_mk, C.leq_mk, C.gtr_mk, C.geq_mk, C.conv_mk, C.len_mk, C.ext_0, C.ext_1, C.ext3_0, C.ext3_1, C.ext3_2, C.guarded_yes, C.guarded_tf, C.guarded_ft, C.guarded_undef, Bool.not_true, Bool.not_false, Nat.zero_add, eq_self, decide_true, decide_false]
      refine C.load1_of (v := .int .i64 (pos m S q : Int)) hg (by have := hc 1 (by omega); simp only [hpos] at this; simpa using this) (Reference_c hps fun w5 hf5 => Put_yes 2 (pos m S q : Int) (by unfold chk; rw [if_neg (by decide), if_neg (by decide), if_pos rfl, if_pos (by omega)]) fun w6 hf6 => ?_)
      simp only [C.ite_true, C.ite_false, C.pick_true, C.pick_false, C.not_bool, C.field_ptr, C.nilCheck_ptr, C.add_mk, C.sub_mk, C.mul_mk, C.eql_mk, C.neq_mk, C.lss_mk, C.leq_mk, C.gtr_mk, C.geq_mk, C.conv_mk, C.len_mk, C.ext_0, C.ext_1, C.ext3_0, C.ext3_1, C.ext3_2, C.guarded_yes, C.guarded_tf, C.guarded_ft, C.guarded_undef, Bool.not_true, Bool.not_false, Nat.zero_add, eq_self, decide_true, decide_false]
      have f16 : Fr [] w w6 := hf1.trans (f13.trans (hf4.trans (hf5.trans hf6)))
      have e2 : putW 2 (pos m S q : Int) = movW m S ws[j] := by
        rw [mov_some hwq]
        unfold putW
        rw [if_pos rfl]
      rw [e2]
      refine C.storeAt_own (ho.keep f16 (by simp)) (by omega) (by rw [intC_len, Int.toNat_natCast]; exact jl') rfl (by intro u hu; simp [Value.cells] at hu; subst hu; rfl) fun w7 ho7 hf7 _ => ?_
      refine nx w7 ((hf.trans f16).then hf7 fun z hz => .inr (hn.blk z hz)) ?_
      rw [es]
      rw [Int.toNat_natCast, show (Value.cells (.int .i64 (movW m S ws[j]))).toList = [.int .i64 (movW m S ws[j])] from rfl] at ho7
      rw [show intC (((ws.take j).map (movW m S) ++ ws.drop j).set j (movW m S ws[j])) = (intC ((ws.take j).map (movW m S) ++ ws.drop j)).set j [.int .i64 (movW m S ws[j])] by simp [intC, List.map_set]]
      exact ho7
    · have hwr : wRef ws[j] = none := by unfold wRef; rw [if_neg hc]
      simp only [C.ite_true, C.ite_false, C.pick_true, C.pick_false, C.not_bool, C.field_ptr, C.nilCheck_ptr, C.add_mk, C.sub_mk, C.mul_mk, C.eql_mk, C.neq_mk, C.lss_mk, C.leq_mk, C.gtr_mk, C.geq_mk, C.conv_mk, C.len_mk, C.ext_0, C.ext_1, C.ext3_0, C.ext3_1, C.ext3_2, C.guarded_yes, C.guarded_tf, C.guarded_ft, C.guarded_undef, Bool.not_true, Bool.not_false, Nat.zero_add, eq_self, decide_true, decide_false]
      refine C.new_of fun b w2 hn2' => C.store1_of (x := .int .i64 0) hn2'.at_ rfl rfl (by simp) fun w3 hu3 => ?_
      have i2 := hn2'.is
      have f13 : Fr [] w1 w3 := hn2'.fr.then hu3.fr fun z hz => .inr (by simp only [List.mem_singleton] at hz; omega)
      try simp only [C.ite_true, C.ite_false, C.pick_true, C.pick_false, C.not_bool, C.field_ptr, C.nilCheck_ptr, C.add_mk, C.sub_mk, C.mul_mk, C.eql_mk, C.neq_mk, C.lss_mk, C.leq_mk, C.gtr_mk, C.geq_mk, C.conv_mk, C.len_mk, C.ext_0, C.ext_1, C.ext3_0, C.ext3_1, C.ext3_2, C.guarded_yes, C.guarded_tf, C.guarded_ft, C.guarded_undef, Bool.not_true, Bool.not_false, Nat.zero_add, eq_self, decide_true, decide_false]
      refine nx w3 ((hf.trans hf1).trans f13) ?_
      have e2 : movW m S ws[j] = ws[j] := mov_none (wPl_none hwr)
      rw [es, e2]
      have e3 : ((ws.take j).map (movW m S) ++ ws.drop j).set j ws[j] = (ws.take j).map (movW m S) ++ ws.drop j := by
        conv => lhs; rw [← egj]
        exact List.set_getElem_self jl'
      rw [e3]
      exact (ho.keep hf1 (by simp)).keep f13 (by simp)
theorem smoved_c {mv wv : Value} {l ws : List Int} {m : List Ob} {S : List Nat} (hO : Spl 0 l m) (hlen : l.length ≤ 2048) (hP : Pls m S) (hm : RdS w mv 2 (valC (mvL m S S.length))) (hws : RdS w wv 1 (intC ws)) (hwl : ws.length ≤ 8796093022207) (hrw : Rng ws) (hfw : fineL m ws) (hin : ∀ x ∈ ws, ∀ q, wPl m x = some q → q ∈ S)
    (h : ∀ v w', Fr [] w w' → NewS w v → OwnS w' v 2 1 (intC (ws.map (movW m S))) → K v w') : C.call Try.prog 47 #[wv, mv] w K := by
  refine F47.sh (CloneW_c hws (by omega) fun v w1 hf1 ho1 hn1 => C.len_rd ho1.rd ?_)
  rw [intC_len]
  exact smoved_loop (W0 := w) hO hlen hP hm hrw hfw hin hn1 (fun w' a b => h v w' a hn1 b) ws.length 0 w1 (by omega) hf1 ho1
/-! ### 3. Slide -/
/-- x[lo:hi], the same in every world. -/
theorem mid_val {P : Program} {w0 : World} {v : Value} {t e : TypeId} {sz : Nat} {k k' : IntKind} {xs : List (List Value)} {lo hi : Nat} (hv : RdS w0 v sz xs) (hu : P.underlying t = some (.slice e)) (hs : szOf P e = some sz) (h1 : lo ≤ hi) (h2 : hi ≤ xs.length) :
    ∃ v', (∀ w, (Instr.sliceAt t v (some (.int k (lo : Int))) (some (.int k' (hi : Int))) none).run P w = .ok v' w) ∧ RdS w0 v' sz ((xs.drop lo).take (hi - lo)) := by
  obtain ⟨A, c, rfl, hc, hm, hx⟩ := hv
  refine ⟨_, fun w => sliceMid_run (P := P) (w := w) A xs.length c k k' (lo : Int) (hi : Int) hu hs (by omega) (by omega) (by omega), ?_⟩
  have hv : RdS w0 (.slice A xs.length c) sz xs := ⟨A, c, rfl, hc, hm, hx⟩
  have h4 := (hv.take hi h2).drop lo h1
  simp only [Int.toNat_natCast]
  rw [show (xs.take hi).drop lo = (xs.drop lo).take (hi - lo) by rw [List.drop_take]] at h4
  exact h4
theorem fs_val {l : List Int} {m : List Ob} {p : Nat} {lv : Value} {W0 : World} {k k' : IntKind} (hl : RdS W0 lv 1 (intC l)) (hS : Spl 0 l m) (hp : p < m.length) :
    ∃ v, (∀ w, (Instr.sliceAt 22 lv (some (.int k ((m[p].at_ : Int) + 1))) (some (.int k' ((m[p].at_ : Int) + (szA m p : Int)))) none).run Try.prog w = .ok v w) ∧ RdS W0 v 1 (intC (fsA m p)) := by
  have hOb := (hS.get p hp).1
  have hend := hOb.end_
  have e1 : ((m[p].at_ : Int) + 1) = ((m[p].at_ + 1 : Nat) : Int) := by omega
  have e2 : ((m[p].at_ : Int) + (szA m p : Int)) = ((m[p].at_ + 1 + m[p].fs.length : Nat) : Int) := by rw [szA_get hp, show ((m[p].sz : Nat) : Int) = 1 + (m[p].fs.length : Int) by simp [Ob.sz]]; omega
  rw [e1, e2]
  obtain ⟨v, h1, h2⟩ := mid_val (P := Try.prog) (k := k) (k' := k') (lo := m[p].at_ + 1) (hi := m[p].at_ + 1 + m[p].fs.length) hl Try.underlying22 (by kernel_rfl : szOf Try.prog 2 = some 1) (by omega) (by rw [intC_len]; omega)
  refine ⟨v, h1, ?_⟩
  have e3 : ((intC l).drop (m[p].at_ + 1)).take (m[p].at_ + 1 + m[p].fs.length - (m[p].at_ + 1)) = intC (fsA m p) := by
    rw [show m[p].at_ + 1 + m[p].fs.length - (m[p].at_ + 1) = m[p].fs.length by omega]
    have := hOb.fs
    rw [Nat.sub_zero] at this
    rw [fsA_get hp, ← this]
    simp [intC, List.map_take, List.map_drop]
  rw [e3] at h2
  exact h2
theorem layS_take {m : List Ob} {S : List Nat} {j : Nat} (h : j < S.length) (o : List Nat) : layS m o (S.take (j + 1)) = layS m o (S.take j) ++ hdA m S[j] :: (fsA m S[j]).map (movW m o) := by
  have et : S.take (j + 1) = S.take j ++ [S[j]] := by rw [List.take_add_one, List.getElem?_eq_getElem h]; rfl
  rw [et, layS_snoc]
theorem Slide_loop {W0 : World} {lv rv mv : Value} {l roots : List Int} {m : List Ob} (hO : Opn l m roots) (hl : RdS W0 lv 1 (intC l)) (hr : Rng l) (hrv : RdS W0 rv 1 (intC roots)) (hrr : Rng roots) (hrl : roots.length ≤ 8796093022207)
    (hm : RdS W0 mv 2 (valC (mvL m (slO m roots) (slO m roots).length)))
    (h : ∀ tv hv w', Fr [] W0 w' → OwnS w' tv 2 1 (intC (lay m (slO m roots))) → OwnS w' hv 2 1 (intC (roots.map (movW m (slO m roots)))) → NewS W0 tv → NewS W0 hv → K (.tuple #[tv, hv, .int .i64 0]) w') :
    ∀ (d j : Nat) (w : World) (tv : Value), (slO m roots).length = j + d → Fr [] W0 w → NewS W0 tv → OwnS w tv 2 1 (intC (layS m (slO m roots) ((slO m roots).take j))) →
      F27.l6 K lv rv mv tv mv (.int .i64 ((slO m roots).length : Int)) (.int .i64 (j : Int)) w := by
  have hL := hO.slide
  have hP := slO_pls m roots
  have hSl := hP.len
  have hS := hO.spl
  have hlen := hO.few
  have hml := hS.len
  generalize hs : slO m roots = S at *
  intro d
  induction d with
  | zero =>
    intro j w tv hj hf hn ho
    refine F27.l6.to ?_
    simp only [C.ite_true, C.ite_false, C.pick_true, C.pick_false, C.not_bool, C.field_ptr, C.nilCheck_ptr, C.add_mk, C.sub_mk, C.mul_mk, C.eql_mk, C.neq_mk, C.lss_mk, C.leq_mk, C.gtr_mk, C.geq_mk, C.conv_mk, C.len_mk, C.ext_0, C.ext_1, C.ext3_0, C.ext3_1, C.ext3_2, C.guarded_yes, C.guarded_tf, C.guarded_ft, C.guarded_undef, Bool.not_true, Bool.not_false, Nat.zero_add, eq_self, decide_true, decide_false, show ¬ ((j : Int) < (S.length : Int)) by omega]
    rw [List.take_of_length_le (by omega)] at ho
    refine F27.k10.to (smoved_c hS hlen hP (hm.keep hf) (hrv.keep hf) hrl hrr hO.fr hL.root fun hv w1 hf1 hn1 ho1 => ?_)
    exact h tv hv w1 (hf.trans hf1) (ho.keep hf1 (by simp)) ho1 hn (hn1.mono hf.size)
  | succ d ih =>
    intro j w tv hj hf hn ho
    have jl : j < S.length := by omega
    have hjm : j < (mvL m S S.length).length := by rw [mvL_len]; exact jl
    have hin := List.getElem_mem jl
    have hpm := hP.2 _ hin
    have gx : (mvL m S S.length)[j] = ((m[S[j]].at_ : Int), (szS m (S.take j) : Int)) := by rw [mvL_get jl jl hjm, atA_get hpm]
    have hOb := (hS.get S[j] hpm).1
    have hend := hOb.end_
    have hal : m[S[j]].at_ < l.length := by omega
    have hhd : l[m[S[j]].at_] = m[S[j]].hd := by
      have := hOb.hd
      rw [Nat.sub_zero, List.getElem?_eq_getElem hal] at this
      exact Option.some.inj this
    have hsz1 : szS m (S.take (j + 1)) ≤ 2048 := by
      have h1 : Pls m (S.take (j + 1)) := ⟨hP.1.sublist (List.take_sublist _ _), fun p hp => hP.2 p (List.mem_of_mem_take hp)⟩
      have := h1.sz hS
      omega
    have et : S.take (j + 1) = S.take j ++ [S[j]] := by rw [List.take_add_one, List.getElem?_eq_getElem jl]; rfl
    have hszp : szS m (S.take j) + szA m S[j] ≤ 2048 := by rw [et, szI] at hsz1; exact hsz1
    have hfl : (fsA m S[j]).length < szA m S[j] := by unfold szA; omega
    refine F27.l6.to ?_
    simp only [C.ite_true, C.ite_false, C.pick_true, C.pick_false, C.not_bool, C.field_ptr, C.nilCheck_ptr, C.add_mk, C.sub_mk, C.mul_mk, C.eql_mk, C.neq_mk, C.lss_mk, C.leq_mk, C.gtr_mk, C.geq_mk, C.conv_mk, C.len_mk, C.ext_0, C.ext_1, C.ext3_0, C.ext3_1, C.ext3_2, C.guarded_yes, C.guarded_tf, C.guarded_ft, C.guarded_undef, Bool.not_true, Bool.not_false, Nat.zero_add, eq_self, decide_true, decide_false, show ((j : Int) < (S.length : Int)) by omega]
    refine F27.k7.to (C.idx_rd (hm.keep hf) (by omega) (by rw [Int.toNat_natCast]; exact valC_get hjm) fun g o cs e fz hg hl2 hc => C.loadA_cells hg hl2 (by omega) hc ?_)
    rw [gx]
    refine C.new_of fun b w1 hn1 => C.store_all (x := .agg #[.int .i64 (m[S[j]].at_ : Int), .int .i64 (szS m (S.take j) : Int)]) hn1.at_ rfl (by simp [Value.cells, Value.oneCell']) rfl fun w2 hu2 => ?_
    have i1 := hn1.is
    have f02 : Fr [] w w2 := hn1.fr.then hu2.fr fun z hz => .inr (by simp only [List.mem_singleton] at hz; omega)
    have hb2 : w2.heap[b]? = some (.cells #[.int .i64 (m[S[j]].at_ : Int), .int .i64 (szS m (S.take j) : Int)] 56 (0, 0)) := hu2.at_
    have f2 := hf.trans f02
    have o2 := ho.keep f02 (by simp)
    have hin1 := hO.fine _ (List.getElem_mem hpm)
    refine C.draw_of (fun w' => Fr [] W0 w' ∧ w'.heap[b]? = some (.cells #[.int .i64 (m[S[j]].at_ : Int), .int .i64 (szS m (S.take j) : Int)] 56 (0, 0))) fun w3 hf3 he3 => ⟨⟨f2.trans hf3, hf3.at_ hb2 (by simp)⟩, ?_⟩
    have o3 := o2.keep hf3 (by simp)
    have f3 := f2.trans hf3
    have hb3 := hf3.at_ hb2 (by simp)
    simp only [C.ite_true, C.ite_false, C.pick_true, C.pick_false, C.not_bool, C.field_ptr, C.nilCheck_ptr, C.add_mk, C.sub_mk, C.mul_mk, C.eql_mk, C.neq_mk, C.lss_mk, C.leq_mk, C.gtr_mk, C.geq_mk, C.conv_mk, C.len_mk, C.ext_0, C.ext_1, C.ext3_0, C.ext3_1, C.ext3_2, C.guarded_yes, C.guarded_tf, C.guarded_ft, C.guarded_undef, Bool.not_true, Bool.not_false, Nat.zero_add, eq_self, decide_true, decide_false]
    have lb : ∀ {G : VK} {w4 : World}, G (.int .i64 (m[S[j]].at_ : Int)) w4 → C.load1S (fun w' => Fr [] W0 w' ∧ w'.heap[b]? = some (.cells #[.int .i64 (m[S[j]].at_ : Int), .int .i64 (szS m (S.take j) : Int)] 56 (0, 0))) (.pointer (some ⟨b, 0, none⟩)) w4 G := fun hG => C.load1S_of (v := .int .i64 (m[S[j]].at_ : Int)) (fun w' hw => ⟨_, _, _, hw.2, rfl⟩) hG
    refine lb (C.idx_rdS (S := fun w' => Fr [] W0 w' ∧ w'.heap[b]? = some (.cells #[.int .i64 (m[S[j]].at_ : Int), .int .i64 (szS m (S.take j) : Int)] 56 (0, 0))) (fun w' hw => hl.keep hw.1) ⟨f3, hb3⟩ (by omega) (by rw [Int.toNat_natCast]; exact intC_get hal) fun g1 o1 _ hs1 => C.load1S_of (v := .int .i64 l[m[S[j]].at_]) (fun w' hw => by obtain ⟨cs, e, fz, x, y⟩ := hs1 w' hw; exact ⟨cs, e, fz, x, by simpa using y 0 (by omega)⟩) (lb ?_))
    simp only [C.ite_true, C.ite_false, C.pick_true, C.pick_false, C.not_bool, C.field_ptr, C.nilCheck_ptr, C.add_mk, C.sub_mk, C.mul_mk, C.eql_mk, C.neq_mk, C.lss_mk, C.leq_mk, C.gtr_mk, C.geq_mk, C.conv_mk, C.len_mk, C.ext_0, C.ext_1, C.ext3_0, C.ext3_1, C.ext3_2, C.guarded_yes, C.guarded_tf, C.guarded_ft, C.guarded_undef, Bool.not_true, Bool.not_false, Nat.zero_add, eq_self, decide_true, decide_false]
    refine lb (lb ?_)
    rw [hhd, wrap64_id (n := (m[S[j]].at_ : Int) + 1) (by omega)]
    have lenS : (layS m S (S.take j)).length = szS m (S.take j) := layS_len
    have hn4 := New.mk' w3 (.cells #[.int .i64 m[S[j]].hd] 2)
    simp only [and_true]
    refine C.run_of (bsW _) ⟨⟨f3.trans hn4.fr, hn4.fr.at_ hb3 (by simp)⟩, ?_⟩
    have o4 := o3.keep hn4.fr (by simp)
    have hb4 := hn4.fr.at_ hb3 (by simp)
    refine C.appWs' o4 (RdS.of_block hn4.at_ rfl (by simp) (by simp) (by simp [intC]) (by simp [intC] : _ = (intC [m[S[j]].hd]).flatten)) (by rw [lenS]; simp; omega) fun tv5 w5 o5 hf5 hg5 => ?_
    have hb5 := hf5.at_ hb4 (o4.nb hb4 (by decide))
    have f5 : Fr [] W0 w5 := (f3.trans hn4.fr).then hf5 fun z hz => .inr (hn.blk z hz)
    have n5 : NewS W0 tv5 := fun g hg => by
      rcases hg5 g (mem_blkS.2 hg) with c | c
      · exact hn.blk g c
      · have := (f3.trans hn4.fr).size; omega
    refine ⟨⟨f5, hb5⟩, long_c (hl.keep f5) hS hpm ⟨⟨f5, hb5⟩, ?_⟩⟩
    simp only [C.ite_true, C.ite_false, C.pick_true, C.pick_false, C.not_bool, C.field_ptr, C.nilCheck_ptr, C.add_mk, C.sub_mk, C.mul_mk, C.eql_mk, C.neq_mk, C.lss_mk, C.leq_mk, C.gtr_mk, C.geq_mk, C.conv_mk, C.len_mk, C.ext_0, C.ext_1, C.ext3_0, C.ext3_1, C.ext3_2, C.guarded_yes, C.guarded_tf, C.guarded_ft, C.guarded_undef, Bool.not_true, Bool.not_false, Nat.zero_add, eq_self, decide_true, decide_false]
    rw [wrap64_id (n := (m[S[j]].at_ : Int) + (szA m S[j] : Int)) (by omega)]
    obtain ⟨fv, hrun, hfv⟩ := fs_val (k := .i64) (k' := .i64) hl hS hpm
    refine ⟨fv, fun w' _ => hrun w', ?_⟩
    refine smoved_c hS hlen hP (hm.keep f5) (hfv.keep f5) (by omega) (by rw [fsA_get hpm]; exact hr.fs hS hpm) (by rw [fsA_get hpm]; exact hin1) (fun x hx q hq => hL.closed _ hin x hx q hq) fun nv w6 hf6 hn6 ho6 => ?_
    have f6 := f5.trans hf6
    have hb6 := hf6.at_ hb5 (by simp)
    have o6 := o5.keep hf6 (by simp)
    refine ⟨⟨f6, hb6⟩, C.appWs' o6 ho6.rd (by rw [List.length_append, lenS, List.length_map]; simp; omega) fun tv7 w7 o7 hf7 hg7 => ?_⟩
    have hb7 := hf7.at_ hb6 (o6.nb hb6 (by decide))
    have f7 : Fr [] W0 w7 := f6.then hf7 fun z hz => .inr (n5.blk z hz)
    have n7 : NewS W0 tv7 := fun g hg => by
      rcases hg7 g (mem_blkS.2 hg) with c | c
      · exact n5.blk g c
      · have := f6.size; omega
    refine ⟨⟨f7, hb7⟩, F27.k9.to ?_⟩
    simp only [C.ite_true, C.ite_false, C.pick_true, C.pick_false, C.not_bool, C.field_ptr, C.nilCheck_ptr, C.add_mk, C.sub_mk, C.mul_mk, C.eql_mk, C.neq_mk, C.lss_mk, C.leq_mk, C.gtr_mk, C.geq_mk, C.conv_mk, C.len_mk, C.ext_0, C.ext_1, C.ext3_0, C.ext3_1, C.ext3_2, C.guarded_yes, C.guarded_tf, C.guarded_ft, C.guarded_undef, Bool.not_true, Bool.not_false, Nat.zero_add, eq_self, decide_true, decide_false]
    rw [wrap64_id (n := (j : Int) + 1) (by omega), show (j : Int) + 1 = ((j + 1 : Nat) : Int) by omega]
    refine ih (j + 1) w7 tv7 (by omega) f7 n7 ?_
    rw [layS_take jl, hdA_get hpm]
    rw [List.append_assoc, List.singleton_append] at o7
    exact o7
theorem Slide_c {lv rv : Value} {l roots : List Int} (hl : RdS w lv 1 (intC l)) (hr : Rng l) (hrv : RdS w rv 1 (intC roots)) (hrr : Rng roots) (hrl : roots.length ≤ 8796093022207)
    (h1 : ∀ c m w', Cr l roots c m → c ≠ 0 → Fr [] w w' → K (.tuple #[.slice none 0 0, .slice none 0 0, .int .i64 c]) w')
    (h0 : ∀ m tv hv w', Cr l roots 0 m → Fr [] w w' → OwnS w' tv 2 1 (intC (lay m (slO m roots))) → OwnS w' hv 2 1 (intC (roots.map (movW m (slO m roots)))) → NewS w tv → NewS w hv → K (.tuple #[tv, hv, .int .i64 0]) w') : C.call Try.prog 27 #[lv, rv] w K := by
  refine F27.sh (Moves_c hl hr hrv hrr hrl (fun c m w1 hc c0 hf1 => ?_) fun m v w1 hc hf1 hn1 ho1 => ?_)
  · simp only [C.ite_true, C.ite_false, C.pick_true, C.pick_false, C.not_bool, C.field_ptr, C.nilCheck_ptr, C.add_mk, C.sub_mk, C.mul_mk, C.eql_mk, C.neq_mk, C.lss_mk, C.leq_mk, C.gtr_mk, C.geq_mk, C.conv_mk, C.len_mk, C.ext_0, C.ext_1, C.ext3_0, C.ext3_1, C.ext3_2, C.guarded_yes, C.guarded_tf, C.guarded_ft, C.guarded_undef, Bool.not_true, Bool.not_false, Nat.zero_add, eq_self, decide_true, decide_false, ne_eq, c0, not_false_eq_true]
    exact h1 c m w1 hc c0 hf1
  · simp only [C.ite_true, C.ite_false, C.pick_true, C.pick_false, C.not_bool, C.field_ptr, C.nilCheck_ptr, C.add_mk, C.sub_mk, C.mul_mk, C.eql_mk, C.neq_mk, C.lss_mk, C.leq_mk, C.gtr_mk, C.geq_mk, C.conv_mk, C.len_mk, C.ext_0, C.ext_1, C.ext3_0, C.ext3_1, C.ext3_2, C.guarded_yes, C.guarded_tf, C.guarded_ft, C.guarded_undef, Bool.not_true, Bool.not_false, Nat.zero_add, eq_self, decide_true, decide_false, ne_eq, not_true_eq_false]
    refine F27.k4.to (C.len_rd ho1.rd ?_)
    rw [valC_len, mvL_len]
    refine Slide_loop (W0 := w1) hc.opn (hl.keep hf1) hr (hrv.keep hf1) hrr hrl ho1.rd (fun tv hv w' a b c d e => h0 m tv hv w' hc (hf1.trans a) b c (d.mono hf1.size) (e.mono hf1.size)) (slO m roots).length 0 w1 (.slice none 0 0) (by omega) (Fr.refl _ _) (NewS.nil _) ?_
    exact OwnS.nil _ _ _
end
end Go.Proofs.YtfjilngljnlkjaaV
