/- A thread's letters, as the audit tells them, and as the statement has them: what the calls come to. -/
import Derived.Test.YtfhgjncbhjjbfaaAud4
namespace Go.Proofs.YtfhgjncbhjjbfaaV
open Go Go.Proofs Go.RowKit
set_option linter.unusedVariables false
set_option linter.unusedSimpArgs false
set_option maxRecDepth 10000
section
variable {K : VK} {w : World}
theorem Letters_c {lv av : Value} {L : List Stp} {A : List Ans} {t : Int} (r1 : RdS w lv 7 (stpC L)) (r2 : RdS w av 5 (ansC A)) (hL : L.length ≤ 60) (h : ∀ v w', Fr [] w w' → OwnS w' v 4 1 (boolC (ltrL t L A (min L.length A.length))) → K v w') : C.call Try.prog 18 #[lv, av, .int .i64 t] w K := by
  refine F18.sh (C.new_of fun b5 w1 hw1 => C.new_of fun b7 w2 hw2 => C.new_of fun b8 w3 hw3 => C.store1_of hw3.at_ rfl rfl (by simp) fun w4 hu4 => ?_)
  have e3 := hw1.is
  have e3' := hw1.sz
  have e6 := hw2.is
  have e6' := hw2.sz
  have e7 := hw3.is
  have e7' := hw3.sz
  have s4 := hu4.sz
  have f3 := (hw1.fr.trans hw2.fr).trans hw3.fr
  have f4 : Fr [] w w4 := f3.then hu4.fr fun z hz => .inr (by simp only [List.mem_singleton] at hz; omega)
  refine both_new (r1.keep f4) (r2.keep f4) fun p1 p2 w5 hf5 q1 q2 hp1 hp2 => ?_
  have f5 := f4.trans hf5
  have lp1 := lt_of_at hp1
  have lp2 := lt_of_at hp2
  have hb5 : w5.heap[b5]? = some (.cells #[.int .i64 t] 3 (0, 0)) := hf5.at_ (hu4.fr.at_ (hw3.fr.at_ (hw2.fr.at_ hw1.at_ (by simp)) (by simp)) (by simp; omega)) (by simp)
  have hb7 : w5.heap[b7]? = some (.cells #[.slice none 0 0] 33 (0, 0)) := hf5.at_ (hu4.fr.at_ (hw3.fr.at_ hw2.at_ (by simp)) (by simp; omega)) (by simp)
  have hb8 : w5.heap[b8]? = some (.cells #[.func (.func 52) #[] #[.pointer (some ⟨b7, 0, none⟩)]] 67 (0, 0)) := hf5.at_ hu4.at_ (by simp)
  have sz5 := hf5.size
  generalize henv : [(15, Value.func (.func 84) #[] #[.pointer (some ⟨p1, 0, none⟩), .pointer (some ⟨p2, 0, none⟩)]), (14, av), (13, lv), (8, Value.pointer (some ⟨b8, 0, none⟩)), (12, Value.func (.func 52) #[] #[.pointer (some ⟨b7, 0, none⟩)]), (7, Value.pointer (some ⟨b7, 0, none⟩)), (6, Value.slice none 0 0), (5, Value.pointer (some ⟨b5, 0, none⟩)), (0, lv), (1, av), (2, Value.int .i64 t)] = env
  have he5 : lkT env 5 = some (.pointer (some ⟨b5, 0, none⟩)) := by rw [← henv]; rfl
  have he8 : lkT env 8 = some (.pointer (some ⟨b8, 0, none⟩)) := by rw [← henv]; rfl
  refine range_both (L := L) (A := A) (lv := lv) (av := av) (I := fun D l i w' => LtrI w env p1 p2 b5 b7 b8 lv av L A t D l i w') (Stop := fun D l w' => False) (by omega) (fun D l i w' hI => ⟨hI.p1, hI.p2, r1.keep hI.fr, r2.keep hI.fr⟩) (fun D l i w' w'' hI hf => hI.keep hf)
    (fun D l i w' K' hi hi' hI hgo hst => ltr_round he5 he8 hL hI hi hi' hgo) (fun r w' hr hf hd hl hs => ?_) (fun w' hI => ?_) (fun w' hS => hS.elim)
  · exact ⟨f5.trans hf, rfl, ⟨by omega, by omega, by omega, by omega⟩, ⟨by omega, by omega, by omega, lp1, lp2⟩, ⟨by omega, by omega, by omega, by omega⟩, ⟨r, hl, hr⟩, hd, hf.at_ hp1 (by simp), hf.at_ hp2 (by simp), hf.at_ hb5 (by simp), hf.at_ hb8 (by simp), .slice none 0 0, hf.at_ hb7 (by simp), OwnS.nil _ _ _, fun g hg => by simp [blkS, Value.ownBlock] at hg⟩
  · obtain ⟨r, hr, hr2⟩ := hI.r
    obtain ⟨n1, n2, n3, n4⟩ := hI.n
    obtain ⟨i1, i2, i3, i4, i5⟩ := hI.hi
    obtain ⟨ov, o1, o2, o3⟩ := hI.o
    refine ⟨r, hr, by rw [hr2.st]; simp, ?_⟩
    have hu := upd_put (o := .loop { r with state := .exhausted }) hr
    generalize w'.putObj (w5.heap.size + 1) (.loop { r with state := .exhausted }) = w6 at *
    rw [hr2.pe]
    have o16 := hu.fr.at_ o1 (by simp; omega)
    have hd6 := hu.fr.at_ hI.d (by simp)
    refine F18.k14.to (C.load1_of (v := ov) o16 rfl ⟨hd6, ?_⟩)
    have hu8 := upd_put (o := .deferred none) hd6
    rw [Int.toNat_natCast]
    generalize w6.putObj w5.heap.size (.deferred none) = w8 at *
    refine h ov w8 ((hI.fr.then hu.fr fun z hz => .inr (by simp only [List.mem_singleton] at hz; omega)).then hu8.fr fun z hz => .inr (by simp only [List.mem_singleton] at hz; omega)) ((o2.keep' hu.fr fun g hg c => ?_).keep' hu8.fr fun g hg c => ?_)
    · simp only [List.mem_singleton] at c; have := o3 g hg; omega
    · simp only [List.mem_singleton] at c; have := o3 g hg; omega
/-! ### The statement's own -/
theorem C.appB {W0 : World} {v : Value} {l : List Bool} {b : Bool} (hf : Fr [] W0 w) (hn : NewS W0 v) (hv : OwnS w v 4 1 (boolC l)) (hl : l.length ≤ 1000000)
    (hk : ∀ v' w', Fr [] W0 w' → NewS W0 v' → OwnS w' v' 4 1 (boolC (l ++ [b])) → K v' w') :
    C.run Try.prog (Instr.buildSlice 33 1 #[(0, .bool b)]) w fun x w1 => C.run Try.prog (Builtin.append_ #[33, 33] 33 #[v, x]) w1 K := by
  refine C.run_of (bsB b) ?_
  have hw := New.mk' w (.cells #[.bool b] 4)
  refine C.append_of (xs := boolC l) (ys := boolC [b]) (e := 4) (sz := 1) (bytes := 1) (z := .bool false) Try.underlying33 (by kernel_rfl) rfl (by decide) (hv.keep hw.fr (by simp)) (RdS.of_block hw.at_ rfl (by simp) (by simp) (by simp [boolC]) (by simp [boolC])) boolC_one
    (by rw [boolC_len, boolC_len]; simp; omega) (by rw [boolC_len, boolC_len]; simp; omega) fun v' w' ho hf' hb _ => ?_
  refine hk v' w' ((hf.trans hw.fr).then hf' fun x hx => .inr (hn x (mem_blkS.1 hx))) (fun g hg => ?_) (by rw [boolC_app]; exact ho)
  rcases hb with hb | ⟨g', hb, hle⟩
  · rw [hb] at hg
    exact hn g hg
  · rw [hg] at hb
    simp only [Option.some.injEq] at hb
    have := hf.size
    have := hw.fr.size
    omega
/-- Halts, one by one. -/
theorem ltr_false {W1 : World} {lv av : Value} {t : Int} {i n : Nat} {out : List Bool} (hn : n ≤ 64) (ho : out.length ≤ 100000) (h : ∀ v w', Fr [] W1 w' → NewS W1 v → OwnS w' v 4 1 (boolC (out ++ List.replicate n false)) → F19.k4 K lv av (.int .i64 t) v (.int .i64 (i : Int)) w') :
    ∀ (d p : Nat) (v : Value) (w : World), n = p + d → Fr [] W1 w → NewS W1 v → OwnS w v 4 1 (boolC (out ++ List.replicate p false)) → F19.l17 K lv av (.int .i64 t) v (.int .i64 (i : Int)) (.int .i64 (n : Int)) (.int .i64 (p : Int)) w := by
  intro d
  induction d with
  | zero =>
    intro p v w hp hf hn' ho'
    refine F19.l17.to ?_
    simp only [C.ite_true, C.ite_false, C.pick_true, C.pick_false, C.not_bool, C.field_ptr, C.nilCheck_ptr, C.add_mk, C.sub_mk, C.mul_mk, C.eql_mk, C.neq_mk, C.lss_mk, C.leq_mk, C.gtr_mk, C.geq_mk, C.conv_mk, C.len_mk, C.ext_0, C.ext_1, C.ext3_0, C.ext3_1, C.ext3_2, C.guarded_yes, C.guarded_tf, C.guarded_ft, C.guarded_undef, Bool.not_true, Bool.not_false, Nat.zero_add, eq_self, decide_true, decide_false, show ¬ ((p : Int) < (n : Int)) by omega]
    obtain rfl : p = n := by omega
    exact h v w hf hn' ho'
  | succ d ih =>
    intro p v w hp hf hn' ho'
    refine F19.l17.to ?_
    simp only [C.ite_true, C.ite_false, C.pick_true, C.pick_false, C.not_bool, C.field_ptr, C.nilCheck_ptr, C.add_mk, C.sub_mk, C.mul_mk, C.eql_mk, C.neq_mk, C.lss_mk, C.leq_mk, C.gtr_mk, C.geq_mk, C.conv_mk, C.len_mk, C.ext_0, C.ext_1, C.ext3_0, C.ext3_1, C.ext3_2, C.guarded_yes, C.guarded_tf, C.guarded_ft, C.guarded_undef, Bool.not_true, Bool.not_false, Nat.zero_add, eq_self, decide_true, decide_false, show ((p : Int) < (n : Int)) by omega]
    refine F19.k19.to (C.appB hf hn' ho' (by simp; omega) fun v' w' hf' hn'' ho'' => F19.k18.to ?_)
    simp only [C.ite_true, C.ite_false, C.pick_true, C.pick_false, C.not_bool, C.field_ptr, C.nilCheck_ptr, C.add_mk, C.sub_mk, C.mul_mk, C.eql_mk, C.neq_mk, C.lss_mk, C.leq_mk, C.gtr_mk, C.geq_mk, C.conv_mk, C.len_mk, C.ext_0, C.ext_1, C.ext3_0, C.ext3_1, C.ext3_2, C.guarded_yes, C.guarded_tf, C.guarded_ft, C.guarded_undef, Bool.not_true, Bool.not_false, Nat.zero_add, eq_self, decide_true, decide_false]
    rw [wrap64_id (n := (p : Int) + 1) (by omega), show (p : Int) + 1 = ((p + 1 : Nat) : Int) by omega]
    refine ih (p + 1) v' w' (by omega) hf' hn'' ?_
    rw [List.replicate_succ', ← List.append_assoc]
    exact ho''
/-- The collector's letters, one by one. -/
theorem ltr_true {W1 : World} {lv av : Value} {t : Int} {i n : Nat} {k : Int} {fine : Bool} {out : List Bool} (hn : n ≤ 1024) (ho : out.length ≤ 100000) (hk : (k = 3 ∨ (k = 15 ∧ fine = true)))
    (h : ∀ v w', Fr [] W1 w' → NewS W1 v → OwnS w' v 4 1 (boolC (out ++ List.replicate n true)) → F19.k12 K lv av (.int .i64 t) v (.int .i64 (i : Int)) (.int .i64 k) (.bool fine) (.int .i64 0) w') :
    ∀ (d p : Nat) (v : Value) (w : World), n = p + d → Fr [] W1 w → NewS W1 v → OwnS w v 4 1 (boolC (out ++ List.replicate p true)) → F19.l9 K lv av (.int .i64 t) v (.int .i64 (i : Int)) (.int .i64 k) (.bool fine) (.int .i64 0) (.int .i64 (n : Int)) (.int .i64 (p : Int)) w := by
  intro d
  induction d with
  | zero =>
    intro p v w hp hf hn' ho'
    refine F19.l9.to ?_
    simp only [C.ite_true, C.ite_false, C.pick_true, C.pick_false, C.not_bool, C.field_ptr, C.nilCheck_ptr, C.add_mk, C.sub_mk, C.mul_mk, C.eql_mk, C.neq_mk, C.lss_mk, C.leq_mk, C.gtr_mk, C.geq_mk, C.conv_mk, C.len_mk, C.ext_0, C.ext_1, C.ext3_0, C.ext3_1, C.ext3_2, C.guarded_yes, C.guarded_tf, C.guarded_ft, C.guarded_undef, Bool.not_true, Bool.not_false, Nat.zero_add, eq_self, decide_true, decide_false, show ¬ ((p : Int) < (n : Int)) by omega]
    obtain rfl : p = n := by omega
    exact h v w hf hn' ho'
  | succ d ih =>
    intro p v w hp hf hn' ho'
    have go : F19.k11 K lv av (.int .i64 t) v (.int .i64 (i : Int)) (.int .i64 k) (.bool fine) (.int .i64 0) (.int .i64 (n : Int)) (.int .i64 (p : Int)) w := by
      refine F19.k11.to (C.appB hf hn' ho' (by simp; omega) fun v' w' hf' hn'' ho'' => F19.k10.to ?_)
      simp only [C.ite_true, C.ite_false, C.pick_true, C.pick_false, C.not_bool, C.field_ptr, C.nilCheck_ptr, C.add_mk, C.sub_mk, C.mul_mk, C.eql_mk, C.neq_mk, C.lss_mk, C.leq_mk, C.gtr_mk, C.geq_mk, C.conv_mk, C.len_mk, C.ext_0, C.ext_1, C.ext3_0, C.ext3_1, C.ext3_2, C.guarded_yes, C.guarded_tf, C.guarded_ft, C.guarded_undef, Bool.not_true, Bool.not_false, Nat.zero_add, eq_self, decide_true, decide_false]
      rw [wrap64_id (n := (p : Int) + 1) (by omega), show (p : Int) + 1 = ((p + 1 : Nat) : Int) by omega]
      refine ih (p + 1) v' w' (by omega) hf' hn'' ?_
      rw [List.replicate_succ', ← List.append_assoc]
      exact ho''
    refine F19.l9.to ?_
    by_cases h3 : k = 3
    · simp only [C.ite_true, C.ite_false, C.pick_true, C.pick_false, C.not_bool, C.field_ptr, C.nilCheck_ptr, C.add_mk, C.sub_mk, C.mul_mk, C.eql_mk, C.neq_mk, C.lss_mk, C.leq_mk, C.gtr_mk, C.geq_mk, C.conv_mk, C.len_mk, C.ext_0, C.ext_1, C.ext3_0, C.ext3_1, C.ext3_2, C.guarded_yes, C.guarded_tf, C.guarded_ft, C.guarded_undef, Bool.not_true, Bool.not_false, Nat.zero_add, eq_self, decide_true, decide_false, show ((p : Int) < (n : Int)) by omega, h3]
      rw [h3] at go
      exact go
    · have h15 : k = 15 ∧ fine = true := hk.resolve_left h3
      simp only [C.ite_true, C.ite_false, C.pick_true, C.pick_false, C.not_bool, C.field_ptr, C.nilCheck_ptr, C.add_mk, C.sub_mk, C.mul_mk, C.eql_mk, C.neq_mk, C.lss_mk, C.leq_mk, C.gtr_mk, C.geq_mk, C.conv_mk, C.len_mk, C.ext_0, C.ext_1, C.ext3_0, C.ext3_1, C.ext3_2, C.guarded_yes, C.guarded_tf, C.guarded_ft, C.guarded_undef, Bool.not_true, Bool.not_false, Nat.zero_add, eq_self, decide_true, decide_false, show ((p : Int) < (n : Int)) by omega, h3, h15.1, h15.2, show ¬ ((15 : Int) = 3) by omega]
      rw [h15.1, h15.2] at go
      exact go
theorem ltr_not {lv av v : Value} {t : Int} {i : Nat} {n k : Int} {fine : Bool} (hk : ¬ (k = 3 ∨ (k = 15 ∧ fine = true))) (h : F19.k12 K lv av (.int .i64 t) v (.int .i64 (i : Int)) (.int .i64 k) (.bool fine) (.int .i64 0) w) :
    F19.l9 K lv av (.int .i64 t) v (.int .i64 (i : Int)) (.int .i64 k) (.bool fine) (.int .i64 0) (.int .i64 n) (.int .i64 0) w := by
  refine F19.l9.to ?_
  have h3 : ¬ k = 3 := fun c => hk (.inl c)
  by_cases hn : 0 < n
  · by_cases h15 : k = 15
    · cases fine with
      | true => exact absurd (.inr ⟨h15, rfl⟩) hk
      | false =>
        simp only [C.ite_true, C.ite_false, C.pick_true, C.pick_false, C.not_bool, C.field_ptr, C.nilCheck_ptr, C.add_mk, C.sub_mk, C.mul_mk, C.eql_mk, C.neq_mk, C.lss_mk, C.leq_mk, C.gtr_mk, C.geq_mk, C.conv_mk, C.len_mk, C.ext_0, C.ext_1, C.ext3_0, C.ext3_1, C.ext3_2, C.guarded_yes, C.guarded_tf, C.guarded_ft, C.guarded_undef, Bool.not_true, Bool.not_false, Nat.zero_add, eq_self, decide_true, decide_false, hn, h3, h15, show ¬ ((15 : Int) = 3) by omega]
        rw [h15] at h
        exact h
    · simp only [C.ite_true, C.ite_false, C.pick_true, C.pick_false, C.not_bool, C.field_ptr, C.nilCheck_ptr, C.add_mk, C.sub_mk, C.mul_mk, C.eql_mk, C.neq_mk, C.lss_mk, C.leq_mk, C.gtr_mk, C.geq_mk, C.conv_mk, C.len_mk, C.ext_0, C.ext_1, C.ext3_0, C.ext3_1, C.ext3_2, C.guarded_yes, C.guarded_tf, C.guarded_ft, C.guarded_undef, Bool.not_true, Bool.not_false, Nat.zero_add, eq_self, decide_true, decide_false, hn, h3, h15]
      exact h
  · simp only [C.ite_true, C.ite_false, C.pick_true, C.pick_false, C.not_bool, C.field_ptr, C.nilCheck_ptr, C.add_mk, C.sub_mk, C.mul_mk, C.eql_mk, C.neq_mk, C.lss_mk, C.leq_mk, C.gtr_mk, C.geq_mk, C.conv_mk, C.len_mk, C.ext_0, C.ext_1, C.ext3_0, C.ext3_1, C.ext3_2, C.guarded_yes, C.guarded_tf, C.guarded_ft, C.guarded_undef, Bool.not_true, Bool.not_false, Nat.zero_add, eq_self, decide_true, decide_false, hn]
    exact h
theorem letters_loop {W1 : World} {lv av : Value} {L : List Stp} {A : List Ans} {t : Int} (r1 : RdS W1 lv 7 (stpC L)) (r2 : RdS W1 av 5 (ansC A)) (hL : L.length ≤ 60) (h : ∀ v w', Fr [] W1 w' → OwnS w' v 4 1 (boolC (ltrL t L A (min L.length A.length))) → K v w') :
    ∀ (d i : Nat) (v : Value) (w : World), min L.length A.length = i + d → Fr [] W1 w → NewS W1 v → OwnS w v 4 1 (boolC (ltrL t L A i)) → F19.l3 K lv av (.int .i64 t) v (.int .i64 (i : Int)) w := by
  intro d
  induction d with
  | zero =>
    intro i v w hi hf hn ho
    refine F19.l3.to (C.len_rd (r1.keep hf) ?_)
    rw [stpC_len]
    have fin : F19.k20 K v w := F19.k20.to (h v w hf (by rw [hi]; exact ho))
    by_cases h1 : (i : Int) < (L.length : Int)
    · simp only [C.ite_true, C.ite_false, C.pick_true, C.pick_false, C.not_bool, C.field_ptr, C.nilCheck_ptr, C.add_mk, C.sub_mk, C.mul_mk, C.eql_mk, C.neq_mk, C.lss_mk, C.leq_mk, C.gtr_mk, C.geq_mk, C.conv_mk, C.len_mk, C.ext_0, C.ext_1, C.ext3_0, C.ext3_1, C.ext3_2, C.guarded_yes, C.guarded_tf, C.guarded_ft, C.guarded_undef, Bool.not_true, Bool.not_false, Nat.zero_add, eq_self, decide_true, decide_false, h1]
      refine C.len_rd (r2.keep hf) ?_
      rw [ansC_len]
      simp only [C.ite_true, C.ite_false, C.pick_true, C.pick_false, C.not_bool, C.field_ptr, C.nilCheck_ptr, C.add_mk, C.sub_mk, C.mul_mk, C.eql_mk, C.neq_mk, C.lss_mk, C.leq_mk, C.gtr_mk, C.geq_mk, C.conv_mk, C.len_mk, C.ext_0, C.ext_1, C.ext3_0, C.ext3_1, C.ext3_2, C.guarded_yes, C.guarded_tf, C.guarded_ft, C.guarded_undef, Bool.not_true, Bool.not_false, Nat.zero_add, eq_self, decide_true, decide_false, show ¬ ((i : Int) < (A.length : Int)) by omega]
      exact fin
    · simp only [C.ite_true, C.ite_false, C.pick_true, C.pick_false, C.not_bool, C.field_ptr, C.nilCheck_ptr, C.add_mk, C.sub_mk, C.mul_mk, C.eql_mk, C.neq_mk, C.lss_mk, C.leq_mk, C.gtr_mk, C.geq_mk, C.conv_mk, C.len_mk, C.ext_0, C.ext_1, C.ext3_0, C.ext3_1, C.ext3_2, C.guarded_yes, C.guarded_tf, C.guarded_ft, C.guarded_undef, Bool.not_true, Bool.not_false, Nat.zero_add, eq_self, decide_true, decide_false, h1]
      exact fin
  | succ d ih =>
    intro i v w hi hf hn ho
    have hiL : i < L.length := by omega
    have hiA : i < A.length := by omega
    refine F19.l3.to (C.len_rd (r1.keep hf) ?_)
    rw [stpC_len]
    simp only [C.ite_true, C.ite_false, C.pick_true, C.pick_false, C.not_bool, C.field_ptr, C.nilCheck_ptr, C.add_mk, C.sub_mk, C.mul_mk, C.eql_mk, C.neq_mk, C.lss_mk, C.leq_mk, C.gtr_mk, C.geq_mk, C.conv_mk, C.len_mk, C.ext_0, C.ext_1, C.ext3_0, C.ext3_1, C.ext3_2, C.guarded_yes, C.guarded_tf, C.guarded_ft, C.guarded_undef, Bool.not_true, Bool.not_false, Nat.zero_add, eq_self, decide_true, decide_false, show ((i : Int) < (L.length : Int)) by omega]
    refine C.len_rd (r2.keep hf) ?_
    rw [ansC_len]
    simp only [C.ite_true, C.ite_false, C.pick_true, C.pick_false, C.not_bool, C.field_ptr, C.nilCheck_ptr, C.add_mk, C.sub_mk, C.mul_mk, C.eql_mk, C.neq_mk, C.lss_mk, C.leq_mk, C.gtr_mk, C.geq_mk, C.conv_mk, C.len_mk, C.ext_0, C.ext_1, C.ext3_0, C.ext3_1, C.ext3_2, C.guarded_yes, C.guarded_tf, C.guarded_ft, C.guarded_undef, Bool.not_true, Bool.not_false, Nat.zero_add, eq_self, decide_true, decide_false, show ((i : Int) < (A.length : Int)) by omega]
    have hsucc : ltrL t L A (i + 1) = ltrL t L A i ++ ltrS t L[i] A[i] := by show _ ++ _ = _; rw [ltrAt_get hiL hiA]
    have hlen := ltrL_len t L A i
    have hmul := mul_bd A[i].d L[i].c
    have nx : ∀ v' w', Fr [] W1 w' → NewS W1 v' → OwnS w' v' 4 1 (boolC (ltrL t L A i ++ ltrS t L[i] A[i])) → F19.k4 K lv av (.int .i64 t) v' (.int .i64 (i : Int)) w' := by
      intro v' w' a b c
      refine F19.k4.to ?_
      simp only [C.ite_true, C.ite_false, C.pick_true, C.pick_false, C.not_bool, C.field_ptr, C.nilCheck_ptr, C.add_mk, C.sub_mk, C.mul_mk, C.eql_mk, C.neq_mk, C.lss_mk, C.leq_mk, C.gtr_mk, C.geq_mk, C.conv_mk, C.len_mk, C.ext_0, C.ext_1, C.ext3_0, C.ext3_1, C.ext3_2, C.guarded_yes, C.guarded_tf, C.guarded_ft, C.guarded_undef, Bool.not_true, Bool.not_false, Nat.zero_add, eq_self, decide_true, decide_false]
      rw [wrap64_id (n := (i : Int) + 1) (by omega), show (i : Int) + 1 = ((i + 1 : Nat) : Int) by omega]
      exact ih (i + 1) v' w' (by omega) a b (by rw [hsucc]; exact c)
    have g1 := stpC_get hiL
    have g2 := ansC_get hiA
    generalize hX : L[i] = X at *
    generalize hY : A[i] = Y at *
    generalize hout : ltrL t L A i = out at *
    refine F19.k5.to (C.idx_rd (r1.keep hf) (by omega) (by rw [Int.toNat_natCast]; exact g1) fun g o cs e fz hg _ hc => ?_)
    simp only [C.ite_true, C.ite_false, C.pick_true, C.pick_false, C.not_bool, C.field_ptr, C.nilCheck_ptr, C.add_mk, C.sub_mk, C.mul_mk, C.eql_mk, C.neq_mk, C.lss_mk, C.leq_mk, C.gtr_mk, C.geq_mk, C.conv_mk, C.len_mk, C.ext_0, C.ext_1, C.ext3_0, C.ext3_1, C.ext3_2, C.guarded_yes, C.guarded_tf, C.guarded_ft, C.guarded_undef, Bool.not_true, Bool.not_false, Nat.zero_add, eq_self, decide_true, decide_false]
    refine C.load1_of (v := .int .i64 X.t) hg (by simpa [stpL] using hc 1 (by omega)) ?_
    by_cases hT : X.t = t
    · have e : ¬ (X.t ≠ t) := fun c => c hT
      rw [C.neq_mk, decide_eq_false e, C.ite_false]
      have hS : ltrS t X Y = ltrA X Y ++ ltrB X Y ++ ltrC X Y := if_pos hT
      rw [hS] at nx
      have lA : (ltrA X Y).length ≤ 1024 := by unfold ltrA; split <;> simp; omega
      have lB : (ltrB X Y).length ≤ 1 := by unfold ltrB; split <;> simp
      -- what comes behind the collector's letters
      have fin : ∀ (m : Nat) (v' : Value) (w' : World), m ≤ 64 → List.replicate m false = ltrB X Y ++ ltrC X Y → Fr [] W1 w' → NewS W1 v' → OwnS w' v' 4 1 (boolC (out ++ ltrA X Y)) → F19.k16 K lv av (.int .i64 t) v' (.int .i64 (i : Int)) (.int .i64 (m : Int)) w' := by
        intro m v' w' hm he a b c
        refine F19.k16.to (ltr_false (out := out ++ ltrA X Y) hm (by rw [List.length_append]; omega) (fun v'' w'' a' b' c' => nx v'' w'' a' b' ?_) m 0 v' w' (by omega) a b (by simpa using c))
        rw [List.append_assoc (ltrA X Y), ← he, ← List.append_assoc]
        exact c'
      have behind : ∀ v' w', Fr [] W1 w' → NewS W1 v' → OwnS w' v' 4 1 (boolC (out ++ ltrA X Y)) → F19.k12 K lv av (.int .i64 t) v' (.int .i64 (i : Int)) (.int .i64 X.k) (.bool (decide (Y.c = 0))) (.int .i64 0) w' := by
        intro v' w' a b c
        refine F19.k12.to ?_
        by_cases hc : Y.c = 0
        · simp only [C.ite_true, C.ite_false, C.pick_true, C.pick_false, C.not_bool, C.field_ptr, C.nilCheck_ptr, C.add_mk, C.sub_mk, C.mul_mk, C.eql_mk, C.neq_mk, C.lss_mk, C.leq_mk, C.gtr_mk, C.geq_mk, C.conv_mk, C.len_mk, C.ext_0, C.ext_1, C.ext3_0, C.ext3_1, C.ext3_2, C.guarded_yes, C.guarded_tf, C.guarded_ft, C.guarded_undef, Bool.not_true, Bool.not_false, Nat.zero_add, eq_self, decide_true, decide_false, hc]
          by_cases h3 : X.k ≥ 3
          · simp only [C.ite_true, C.ite_false, C.pick_true, C.pick_false, C.not_bool, C.field_ptr, C.nilCheck_ptr, C.add_mk, C.sub_mk, C.mul_mk, C.eql_mk, C.neq_mk, C.lss_mk, C.leq_mk, C.gtr_mk, C.geq_mk, C.conv_mk, C.len_mk, C.ext_0, C.ext_1, C.ext3_0, C.ext3_1, C.ext3_2, C.guarded_yes, C.guarded_tf, C.guarded_ft, C.guarded_undef, Bool.not_true, Bool.not_false, Nat.zero_add, eq_self, decide_true, decide_false, h3]
            by_cases h12 : X.k ≤ 12
            · simp only [C.ite_true, C.ite_false, C.pick_true, C.pick_false, C.not_bool, C.field_ptr, C.nilCheck_ptr, C.add_mk, C.sub_mk, C.mul_mk, C.eql_mk, C.neq_mk, C.lss_mk, C.leq_mk, C.gtr_mk, C.geq_mk, C.conv_mk, C.len_mk, C.ext_0, C.ext_1, C.ext3_0, C.ext3_1, C.ext3_2, C.guarded_yes, C.guarded_tf, C.guarded_ft, C.guarded_undef, Bool.not_true, Bool.not_false, Nat.zero_add, eq_self, decide_true, decide_false, h12]
              refine F19.k14.to ?_
              have e13 : ¬ X.k = 13 := by omega
              simp only [C.ite_true, C.ite_false, C.pick_true, C.pick_false, C.not_bool, C.field_ptr, C.nilCheck_ptr, C.add_mk, C.sub_mk, C.mul_mk, C.eql_mk, C.neq_mk, C.lss_mk, C.leq_mk, C.gtr_mk, C.geq_mk, C.conv_mk, C.len_mk, C.ext_0, C.ext_1, C.ext3_0, C.ext3_1, C.ext3_2, C.guarded_yes, C.guarded_tf, C.guarded_ft, C.guarded_undef, Bool.not_true, Bool.not_false, Nat.zero_add, eq_self, decide_true, decide_false, e13]
              refine fin 1 v' w' (by omega) ?_ a b c
              rw [show ltrB X Y = [false] from if_pos ⟨⟨h3, h12⟩, hc⟩, show ltrC X Y = [] from if_neg (fun x => e13 x.1)]
              rfl
            · simp only [C.ite_true, C.ite_false, C.pick_true, C.pick_false, C.not_bool, C.field_ptr, C.nilCheck_ptr, C.add_mk, C.sub_mk, C.mul_mk, C.eql_mk, C.neq_mk, C.lss_mk, C.leq_mk, C.gtr_mk, C.geq_mk, C.conv_mk, C.len_mk, C.ext_0, C.ext_1, C.ext3_0, C.ext3_1, C.ext3_2, C.guarded_yes, C.guarded_tf, C.guarded_ft, C.guarded_undef, Bool.not_true, Bool.not_false, Nat.zero_add, eq_self, decide_true, decide_false, h12]
              refine F19.k14.to ?_
              by_cases h13 : X.k = 13
              · simp only [C.ite_true, C.ite_false, C.pick_true, C.pick_false, C.not_bool, C.field_ptr, C.nilCheck_ptr, C.add_mk, C.sub_mk, C.mul_mk, C.eql_mk, C.neq_mk, C.lss_mk, C.leq_mk, C.gtr_mk, C.geq_mk, C.conv_mk, C.len_mk, C.ext_0, C.ext_1, C.ext3_0, C.ext3_1, C.ext3_2, C.guarded_yes, C.guarded_tf, C.guarded_ft, C.guarded_undef, Bool.not_true, Bool.not_false, Nat.zero_add, eq_self, decide_true, decide_false, h13]
                refine C.idx_rd (r1.keep a) (by omega) (by rw [Int.toNat_natCast]; exact g1) fun g o cs e fz hg _ hcell => ?_
                simp only [C.ite_true, C.ite_false, C.pick_true, C.pick_false, C.not_bool, C.field_ptr, C.nilCheck_ptr, C.add_mk, C.sub_mk, C.mul_mk, C.eql_mk, C.neq_mk, C.lss_mk, C.leq_mk, C.gtr_mk, C.geq_mk, C.conv_mk, C.len_mk, C.ext_0, C.ext_1, C.ext3_0, C.ext3_1, C.ext3_2, C.guarded_yes, C.guarded_tf, C.guarded_ft, C.guarded_undef, Bool.not_true, Bool.not_false, Nat.zero_add, eq_self, decide_true, decide_false]
                refine C.load1_of (v := .int .i64 X.n) hg (by simpa [stpL] using hcell 6 (by omega)) (C.run_of (max2_run _ _ _ _ _) (C.run_of (min2_run _ _ _ _ _) ?_))
                have e2 : min (max X.n 0) 64 = (((min (max X.n 0) 64).toNat : Nat) : Int) := by omega
                rw [e2]
                refine fin _ v' w' (by omega) ?_ a b c
                rw [show ltrB X Y = [] from if_neg (fun x => h12 x.1.2), show ltrC X Y = _ from if_pos ⟨h13, hc⟩]
                rfl
              · simp only [C.ite_true, C.ite_false, C.pick_true, C.pick_false, C.not_bool, C.field_ptr, C.nilCheck_ptr, C.add_mk, C.sub_mk, C.mul_mk, C.eql_mk, C.neq_mk, C.lss_mk, C.leq_mk, C.gtr_mk, C.geq_mk, C.conv_mk, C.len_mk, C.ext_0, C.ext_1, C.ext3_0, C.ext3_1, C.ext3_2, C.guarded_yes, C.guarded_tf, C.guarded_ft, C.guarded_undef, Bool.not_true, Bool.not_false, Nat.zero_add, eq_self, decide_true, decide_false, h13]
                refine fin 0 v' w' (by omega) ?_ a b c
                rw [show ltrB X Y = [] from if_neg (fun x => h12 x.1.2), show ltrC X Y = [] from if_neg (fun x => h13 x.1)]
                rfl
          · simp only [C.ite_true, C.ite_false, C.pick_true, C.pick_false, C.not_bool, C.field_ptr, C.nilCheck_ptr, C.add_mk, C.sub_mk, C.mul_mk, C.eql_mk, C.neq_mk, C.lss_mk, C.leq_mk, C.gtr_mk, C.geq_mk, C.conv_mk, C.len_mk, C.ext_0, C.ext_1, C.ext3_0, C.ext3_1, C.ext3_2, C.guarded_yes, C.guarded_tf, C.guarded_ft, C.guarded_undef, Bool.not_true, Bool.not_false, Nat.zero_add, eq_self, decide_true, decide_false, h3]
            refine F19.k14.to ?_
            have e13 : ¬ X.k = 13 := by omega
            simp only [C.ite_true, C.ite_false, C.pick_true, C.pick_false, C.not_bool, C.field_ptr, C.nilCheck_ptr, C.add_mk, C.sub_mk, C.mul_mk, C.eql_mk, C.neq_mk, C.lss_mk, C.leq_mk, C.gtr_mk, C.geq_mk, C.conv_mk, C.len_mk, C.ext_0, C.ext_1, C.ext3_0, C.ext3_1, C.ext3_2, C.guarded_yes, C.guarded_tf, C.guarded_ft, C.guarded_undef, Bool.not_true, Bool.not_false, Nat.zero_add, eq_self, decide_true, decide_false, e13]
            refine fin 0 v' w' (by omega) ?_ a b c
            rw [show ltrB X Y = [] from if_neg (fun x => h3 x.1.1), show ltrC X Y = [] from if_neg (fun x => e13 x.1)]
            rfl
        · simp only [C.ite_true, C.ite_false, C.pick_true, C.pick_false, C.not_bool, C.field_ptr, C.nilCheck_ptr, C.add_mk, C.sub_mk, C.mul_mk, C.eql_mk, C.neq_mk, C.lss_mk, C.leq_mk, C.gtr_mk, C.geq_mk, C.conv_mk, C.len_mk, C.ext_0, C.ext_1, C.ext3_0, C.ext3_1, C.ext3_2, C.guarded_yes, C.guarded_tf, C.guarded_ft, C.guarded_undef, Bool.not_true, Bool.not_false, Nat.zero_add, eq_self, decide_true, decide_false, hc]
          refine F19.k14.to ?_
          simp only [C.ite_true, C.ite_false, C.pick_true, C.pick_false, C.not_bool, C.field_ptr, C.nilCheck_ptr, C.add_mk, C.sub_mk, C.mul_mk, C.eql_mk, C.neq_mk, C.lss_mk, C.leq_mk, C.gtr_mk, C.geq_mk, C.conv_mk, C.len_mk, C.ext_0, C.ext_1, C.ext3_0, C.ext3_1, C.ext3_2, C.guarded_yes, C.guarded_tf, C.guarded_ft, C.guarded_undef, Bool.not_true, Bool.not_false, Nat.zero_add, eq_self, decide_true, decide_false]
          refine fin 0 v' w' (by omega) ?_ a b c
          rw [show ltrB X Y = [] from if_neg (fun x => hc x.2), show ltrC X Y = [] from if_neg (fun x => hc x.2)]
          rfl
      refine F19.k6.to (C.draw_of (fun w' => Fr [] W1 w') fun w1 hf1 he1 => ⟨hf.trans hf1, ?_⟩)
      have f1 := hf.trans hf1
      refine C.idx_rdS (S := fun w' => Fr [] W1 w') (fun w' hw => r1.keep hw) f1 (by omega) (by rw [Int.toNat_natCast]; exact g1) fun ga oa _ hs1 => ?_
      simp only [C.ite_true, C.ite_false, C.pick_true, C.pick_false, C.not_bool, C.field_ptr, C.nilCheck_ptr, C.add_mk, C.sub_mk, C.mul_mk, C.eql_mk, C.neq_mk, C.lss_mk, C.leq_mk, C.gtr_mk, C.geq_mk, C.conv_mk, C.len_mk, C.ext_0, C.ext_1, C.ext3_0, C.ext3_1, C.ext3_2, C.guarded_yes, C.guarded_tf, C.guarded_ft, C.guarded_undef, Bool.not_true, Bool.not_false, Nat.zero_add, eq_self, decide_true, decide_false]
      refine C.idx_rdS (S := fun w' => Fr [] W1 w') (fun w' hw => r2.keep hw) f1 (by omega) (by rw [Int.toNat_natCast]; exact g2) fun gb ob _ hs2 => ?_
      simp only [C.ite_true, C.ite_false, C.pick_true, C.pick_false, C.not_bool, C.field_ptr, C.nilCheck_ptr, C.add_mk, C.sub_mk, C.mul_mk, C.eql_mk, C.neq_mk, C.lss_mk, C.leq_mk, C.gtr_mk, C.geq_mk, C.conv_mk, C.len_mk, C.ext_0, C.ext_1, C.ext3_0, C.ext3_1, C.ext3_2, C.guarded_yes, C.guarded_tf, C.guarded_ft, C.guarded_undef, Bool.not_true, Bool.not_false, Nat.zero_add, eq_self, decide_true, decide_false]
      refine C.load1S_of (v := .int .i64 X.k) (fun w' hw => by obtain ⟨cs, e, fz, x, y⟩ := hs1 w' hw; exact ⟨cs, e, fz, x, by simpa [stpL] using y 0 (by omega)⟩) ?_
      refine C.load1S_of (v := .int .i64 Y.c) (fun w' hw => by obtain ⟨cs, e, fz, x, y⟩ := hs2 w' hw; exact ⟨cs, e, fz, x, by simpa [ansL] using y 0 (by omega)⟩) ?_
      simp only [C.ite_true, C.ite_false, C.pick_true, C.pick_false, C.not_bool, C.field_ptr, C.nilCheck_ptr, C.add_mk, C.sub_mk, C.mul_mk, C.eql_mk, C.neq_mk, C.lss_mk, C.leq_mk, C.gtr_mk, C.geq_mk, C.conv_mk, C.len_mk, C.ext_0, C.ext_1, C.ext3_0, C.ext3_1, C.ext3_2, C.guarded_yes, C.guarded_tf, C.guarded_ft, C.guarded_undef, Bool.not_true, Bool.not_false, Nat.zero_add, eq_self, decide_true, decide_false]
      refine C.draw_of (fun w' => Fr [] W1 w') fun w2 hf2 he2 => ⟨f1.trans hf2, ?_⟩
      have f2 := f1.trans hf2
      simp only [and_true]
      refine C.idx_rdS (S := fun w' => Fr [] W1 w') (fun w' hw => r2.keep hw) f2 (by omega) (by rw [Int.toNat_natCast]; exact g2) fun gb ob _ hs2 => ?_
      simp only [C.ite_true, C.ite_false, C.pick_true, C.pick_false, C.not_bool, C.field_ptr, C.nilCheck_ptr, C.add_mk, C.sub_mk, C.mul_mk, C.eql_mk, C.neq_mk, C.lss_mk, C.leq_mk, C.gtr_mk, C.geq_mk, C.conv_mk, C.len_mk, C.ext_0, C.ext_1, C.ext3_0, C.ext3_1, C.ext3_2, C.guarded_yes, C.guarded_tf, C.guarded_ft, C.guarded_undef, Bool.not_true, Bool.not_false, Nat.zero_add, eq_self, decide_true, decide_false]
      refine C.idx_rdS (S := fun w' => Fr [] W1 w') (fun w' hw => r1.keep hw) f2 (by omega) (by rw [Int.toNat_natCast]; exact g1) fun ga oa _ hs1 => ?_
      simp only [C.ite_true, C.ite_false, C.pick_true, C.pick_false, C.not_bool, C.field_ptr, C.nilCheck_ptr, C.add_mk, C.sub_mk, C.mul_mk, C.eql_mk, C.neq_mk, C.lss_mk, C.leq_mk, C.gtr_mk, C.geq_mk, C.conv_mk, C.len_mk, C.ext_0, C.ext_1, C.ext3_0, C.ext3_1, C.ext3_2, C.guarded_yes, C.guarded_tf, C.guarded_ft, C.guarded_undef, Bool.not_true, Bool.not_false, Nat.zero_add, eq_self, decide_true, decide_false]
      refine C.load1S_of (v := .int .i64 Y.d) (fun w' hw => by obtain ⟨cs, e, fz, x, y⟩ := hs2 w' hw; exact ⟨cs, e, fz, x, by simpa [ansL] using y 3 (by omega)⟩) ?_
      refine C.load1S_of (v := .int .i64 X.c) (fun w' hw => by obtain ⟨cs, e, fz, x, y⟩ := hs1 w' hw; exact ⟨cs, e, fz, x, by simpa [stpL] using y 5 (by omega)⟩) ?_
      refine Near_c _ _ _ ⟨f2, Near_c _ _ _ ⟨f2, ?_⟩⟩
      rw [C.mul_mk, wrap64_id (by omega)]
      have ho2 := (ho.keep hf1 (by simp)).keep hf2 (by simp)
      by_cases hk : X.k = 3 ∨ (X.k = 15 ∧ Y.c = 0)
      · have e2 : clamp Y.d 0 64 * clamp X.c 0 16 = (((clamp Y.d 0 64 * clamp X.c 0 16).toNat : Nat) : Int) := by omega
        rw [e2]
        refine ltr_true (n := (clamp Y.d 0 64 * clamp X.c 0 16).toNat) (out := out) (by omega) (by omega) (by simpa using hk) (fun v' w' a b c => behind v' w' a b ?_) (clamp Y.d 0 64 * clamp X.c 0 16).toNat 0 v w2 (by omega) f2 hn (by simpa using ho2)
        rw [show ltrA X Y = _ from if_pos hk]
        exact c
      · refine ltr_not (by simpa using hk) (behind v w2 f2 hn ?_)
        rw [show ltrA X Y = [] from if_neg hk, List.append_nil]
        exact ho2
    · rw [C.neq_mk, decide_eq_true (show X.t ≠ t from hT), C.ite_true]
      refine nx v w hf hn ?_
      rw [show ltrS t X Y = [] from if_neg hT, List.append_nil]
      exact ho
theorem letters_c {lv av : Value} {L : List Stp} {A : List Ans} {t : Int} (r1 : RdS w lv 7 (stpC L)) (r2 : RdS w av 5 (ansC A)) (hL : L.length ≤ 60) (h : ∀ v w', Fr [] w w' → OwnS w' v 4 1 (boolC (ltrL t L A (min L.length A.length))) → K v w') : C.call Try.prog 19 #[lv, av, .int .i64 t] w K := by
  refine F19.sh ?_
  exact letters_loop r1 r2 hL h (min L.length A.length) 0 _ w (by omega) (Fr.refl _ _) (NewS.nil _) (OwnS.nil _ _ _)
end
end Go.Proofs.YtfhgjncbhjjbfaaV
