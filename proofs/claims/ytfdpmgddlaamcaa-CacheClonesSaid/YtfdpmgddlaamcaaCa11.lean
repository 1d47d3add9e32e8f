/- The cache of pages: the law's own functions, and CacheOne. -/
import Derived.Test.YtfdpmgddlaamcaaCa10
import Derived.Test.YtfdpmgddlaamcaaRow
import Derived.Test.YtfdpmgddlaamcaaGCacheL
namespace Go.Proofs.YtfdpmgddlaamcaaV
open Go Go.Proofs Go.RowKit
set_option linter.unusedVariables false
set_option linter.unusedSimpArgs false
set_option maxRecDepth 10000
structure Ca (w : World) (b m : Nat) (n : Int) (l : Pgs) (c : Nat) : Prop where
  is : IsC w b m n l c
  good : Good l c
  kept : Kept n l
theorem Ca.keep {S : List Nat} {w w' : World} {b m c : Nat} {n : Int} {l : Pgs} (h : Ca w b m n l c) (hf : Fr S w w') (hb : b ∉ S) (hm : m ∉ S) : Ca w' b m n l c := ⟨h.is.keep hf hb hm, h.good, h.kept⟩
/-- May it be set? -/
def may (n : Int) (l : Pgs) (t k p : Int) : Prop := 0 ≤ t ∧ t < n ∧ csz k ≠ 0 ∧ 0 ≤ p ∧ p < 64 ∧ (ownerOf l p).1 < 0
section
variable {K : VK} {w : World}
theorem SetCa_c {b m c : Nat} {n t k p : Int} {l : Pgs} (hC : Ca w b m n l c)
    (h0 : ¬ may n l t k p → ∀ w', Fr [] w w' → K (.bool false) w')
    (h1 : may n l t k p → ∀ w', Fr [m] w w' → Ca w' b m n (setL l (t, k) p c).1 (setL l (t, k) p c).2 → K (.bool true) w') :
    C.call Try.prog 19 #[.pointer (some ⟨b, 0, none⟩), .int .i64 t, .int .i64 k, .int .i64 p] w K :=
  Set_c hC.is hC.good h0 fun hm w' hf hi => h1 hm w' hf ⟨hi, good_set hC.good fun x hx e => by
    rcases owner_is hC.good hC.kept p with ⟨h2, _⟩ | ⟨_, h2⟩
    · have := hm.2.2.2.2.2; omega
    · exact h2 x.1 ⟨x, hx, rfl, e⟩, by
    have hk : ¬ (k < 1 ∨ k ≥ 5) := fun e => hm.2.2.1 (csz_zero.2 e)
    exact kept_set hC.kept hm.1 hm.2.1 (by omega) (by omega) hm.2.2.2.1 hm.2.2.2.2.1⟩
theorem kept_nil (n : Int) : Kept n [] := ⟨by simp, by simp⟩
theorem NewCa_c {t : Int} (h : ∀ b m w', Fr [] w w' → w.heap.size ≤ b → w.heap.size ≤ m → Ca w' b m (if t < 0 then 0 else if t > 9 then 9 else t) [] 0 → K (.pointer (some ⟨b, 0, none⟩)) w') : C.call Try.prog 15 #[.int .i64 t] w K :=
  New_c fun b m w' hf h1 h2 _ hi => h b m w' hf h1 h2 ⟨hi, good_nil, kept_nil _⟩
theorem bs34_1 (a : Int) : (Instr.buildSlice 34 1 #[(0, .int .i64 a)]).run Try.prog w = .ok (.slice (some ⟨w.heap.size, 0, none⟩) 1 1) (w.alloc (.cells #[.int .i64 a] 3)) := by kernel_rfl
theorem srt_one (a : Int) : srt [a] = [a] := srt_is (by simp) (List.Perm.refl _)
theorem alive13_c (h : ∀ w', Fr [] w w' → K (.bool true) w') : C.call Try.prog 13 #[] w K := by
  refine F13.sh (NewCa_c fun b m w1 hf1 hb hm hC1 => ?_)
  rw [if_neg (by omega), if_neg (by omega)] at hC1
  have o0 : ∀ p a, ¬ On [] a p := fun p a => by rintro ⟨x, hx, _⟩; cases hx
  refine SetCa_c hC1 (fun hn => absurd ⟨by omega, by omega, by decide, by omega, by omega, by rw [owner_off (o0 5)]; decide⟩ hn) fun _ w2 hf2 hC2 => ?_
  generalize hl2 : (setL [] ((0 : Int), (1 : Int)) 5 0).1 = l2 at hC2
  generalize (setL [] ((0 : Int), (1 : Int)) 5 0).2 = c2 at hC2
  have o2 : ∀ a q, On l2 a q ↔ a = (0, 1) ∧ q = 5 := fun a q => by
    rw [← hl2, on_set (n := 2) (kept_nil 2)]
    simp [o0]
  have ow : ownerOf l2 5 = (0, 1) := owner_on hC2.good ((o2 _ _).2 ⟨rfl, rfl⟩)
  refine SetCa_c hC2 (fun _ w3 hf3 => ?_) fun hm => absurd hm.2.2.2.2.2 (by rw [ow]; decide)
  have hC3 := hC2.keep hf3 (by simp) (by simp)
  refine Owner_c hC3.is hC3.good fun w4 hf4 => ?_
  have hC4 := hC3.keep hf4 (by simp) (by simp)
  rw [ow]
  have p1 : pageOf l2 (0, 1) = 5 := page_on hC2.kept ((o2 _ _).2 ⟨rfl, rfl⟩)
  have p2 : pageOf l2 (1, 2) = -1 := page_off hC2.kept fun p hp => by have := (o2 _ _).1 hp; simp at this
  simp only [C.ite_true, C.ite_false, C.pick_true, C.pick_false, C.not_bool, C.field_ptr, C.nilCheck_ptr, C.add_mk, C.sub_mk, C.mul_mk, C.eql_mk, C.neq_mk, C.lss_mk, C.leq_mk, C.gtr_mk, C.geq_mk, C.conv_mk, C.len_mk, C.ext_0, C.ext_1, C.ext3_0, C.ext3_1, C.ext3_2, C.guarded_yes, C.guarded_tf, C.guarded_ft, C.guarded_undef, Bool.not_true, Bool.not_false, Nat.zero_add, eq_self, decide_true, decide_false]
  refine Page_c hC4.is ?_
  rw [p1]
  simp only [C.ite_true, C.ite_false, C.pick_true, C.pick_false, C.not_bool, C.field_ptr, C.nilCheck_ptr, C.add_mk, C.sub_mk, C.mul_mk, C.eql_mk, C.neq_mk, C.lss_mk, C.leq_mk, C.gtr_mk, C.geq_mk, C.conv_mk, C.len_mk, C.ext_0, C.ext_1, C.ext3_0, C.ext3_1, C.ext3_2, C.guarded_yes, C.guarded_tf, C.guarded_ft, C.guarded_undef, Bool.not_true, Bool.not_false, Nat.zero_add, eq_self, decide_true, decide_false]
  refine Page_c hC4.is ?_
  rw [p2]
  simp only [C.ite_true, C.ite_false, C.pick_true, C.pick_false, C.not_bool, C.field_ptr, C.nilCheck_ptr, C.add_mk, C.sub_mk, C.mul_mk, C.eql_mk, C.neq_mk, C.lss_mk, C.leq_mk, C.gtr_mk, C.geq_mk, C.conv_mk, C.len_mk, C.ext_0, C.ext_1, C.ext3_0, C.ext3_1, C.ext3_2, C.guarded_yes, C.guarded_tf, C.guarded_ft, C.guarded_undef, Bool.not_true, Bool.not_false, Nat.zero_add, eq_self, decide_true, decide_false]
  refine Drop_c hC4.is hC4.good hC4.kept fun v w5 l5 out hf5 hi5 hg5 hk5 o5 hout hnd hnv ho5 => ?_
  have e : out = [5] := by
    have h5 : (5 : Int) ∈ out := (hout 5).2 ⟨1, (o2 _ _).2 ⟨rfl, rfl⟩⟩
    have hall : ∀ x ∈ out, x = 5 := fun x hx => by
      obtain ⟨j, hj⟩ := (hout x).1 hx
      exact ((o2 _ _).1 hj).2
    match out, h5, hall, hnd with
    | [x], _, ha, _ => rw [ha x (by simp)]
    | x :: y :: r, _, ha, hn =>
      have h1 := ha x (by simp)
      have h2 := ha y (by simp)
      rw [h1, h2] at hn
      simp at hn
  rw [e, srt_one] at ho5
  refine C.run_of (bs34_1 5) ?_
  have hn6 := New.mk' w5 (.cells #[.int .i64 5] 3)
  refine Ints_c (x := [5]) (y := [5]) (ho5.keep hn6.fr (by simp)).rd (RdS.of_block hn6.at_ rfl (by simp) (by simp) (by simp [intC]) (by simp [intC])) fun w7 hf7 => ?_
  rw [decide_eq_true rfl]
  have hC7 : IsC w7 b m 2 l5 c2 := hi5.keep (hn6.fr.trans hf7) (by simp) (by simp)
  simp only [C.ite_true, C.ite_false, C.pick_true, C.pick_false, C.not_bool, C.field_ptr, C.nilCheck_ptr, C.add_mk, C.sub_mk, C.mul_mk, C.eql_mk, C.neq_mk, C.lss_mk, C.leq_mk, C.gtr_mk, C.geq_mk, C.conv_mk, C.len_mk, C.ext_0, C.ext_1, C.ext3_0, C.ext3_1, C.ext3_2, C.guarded_yes, C.guarded_tf, C.guarded_ft, C.guarded_undef, Bool.not_true, Bool.not_false, Nat.zero_add, eq_self, decide_true, decide_false]
  refine Page_c hC7 ?_
  have p3 : pageOf l5 (0, 1) = -1 := page_off hk5 fun p hp => ((o5 _ _).1 hp).2 rfl
  rw [p3]
  simp only [C.ite_true, C.ite_false, C.pick_true, C.pick_false, C.not_bool, C.field_ptr, C.nilCheck_ptr, C.add_mk, C.sub_mk, C.mul_mk, C.eql_mk, C.neq_mk, C.lss_mk, C.leq_mk, C.gtr_mk, C.geq_mk, C.conv_mk, C.len_mk, C.ext_0, C.ext_1, C.ext3_0, C.ext3_1, C.ext3_2, C.guarded_yes, C.guarded_tf, C.guarded_ft, C.guarded_undef, Bool.not_true, Bool.not_false, Nat.zero_add, eq_self, decide_true, decide_false]
  refine h w7 ((((hf1.then hf2 fun z hz => ?_).trans (hf3.trans hf4)).then hf5 fun z hz => ?_).trans (hn6.fr.trans hf7))
  · simp only [List.mem_singleton] at hz; exact .inr (by omega)
  · simp only [List.mem_singleton] at hz; exact .inr (by omega)
end
/-! ### Scripts -/
structure COp where
  kd : Int
  t : Int
  k : Int
  p : Int
def copC (l : List COp) : List (List Value) := l.map fun x => [.int .i64 x.kd, .int .i64 x.t, .int .i64 x.k, .int .i64 x.p]
theorem copC_len (l : List COp) : (copC l).length = l.length := by simp [copC]
theorem copC_get {l : List COp} {j : Nat} (h : j < l.length) : (copC l)[j]? = some [.int .i64 l[j].kd, .int .i64 l[j].t, .int .i64 l[j].k, .int .i64 l[j].p] := by simp [copC, h]
theorem okc4 {k1 k2 k3 k4 : IntKind} {x : List Value} (h : okCells [.int k1, .int k2, .int k3, .int k4] x) : ∃ a b c d, x = [.int k1 a, .int k2 b, .int k3 c, .int k4 d] := by
  match x with
  | [] => exact h.elim
  | [_] => exact h.2.elim
  | [_, _] => exact h.2.2.elim
  | [_, _, _] => exact h.2.2.2.elim
  | _ :: _ :: _ :: _ :: _ :: _ => exact h.2.2.2.2.elim
  | [a, b, c, d] =>
    obtain ⟨⟨n, ha, _⟩, ⟨m, hb, _⟩, ⟨o, hc, _⟩, ⟨q, hd, _⟩, _⟩ := h
    exact ⟨n, m, o, q, by rw [ha, hb, hc, hd]⟩
theorem copC_of : ∀ (xs : List (List Value)), (∀ x ∈ xs, okCells [.int .i64, .int .i64, .int .i64, .int .i64] x) → ∃ l, xs = copC l
  | [], _ => ⟨[], rfl⟩
  | x :: xs, h => by
    obtain ⟨l, hl⟩ := copC_of xs fun y hy => h y (by simp [hy])
    obtain ⟨a, b, c, d, hx⟩ := okc4 (h x (by simp))
    exact ⟨⟨a, b, c, d⟩ :: l, by rw [hl, hx]; rfl⟩
section
variable {K : VK} {w : World}
theorem few17_c {W : World} {v : Value} {l : List COp} (hr : RdS W v 4 (copC l)) (h : ∀ v', RdS W v' 4 (copC (l.take 50)) → K v' w) : C.call Try.prog 17 #[v] w K := by
  refine F17.sh (C.len_rd hr ?_)
  simp only [C.ite_true, C.ite_false, C.pick_true, C.pick_false, C.not_bool, C.field_ptr, C.nilCheck_ptr, C.add_mk, C.sub_mk, C.mul_mk, C.eql_mk, C.neq_mk, C.lss_mk, C.leq_mk, C.gtr_mk, C.geq_mk, C.conv_mk, C.len_mk, C.ext_0, C.ext_1, C.ext3_0, C.ext3_1, C.ext3_2, C.guarded_yes, C.guarded_tf, C.guarded_ft, C.guarded_undef, Bool.not_true, Bool.not_false, Nat.zero_add, eq_self, decide_true, decide_false, C.ite_bool, decide_eq_true_eq, decide_eq_false_iff_not, copC_len]
  refine ⟨fun h1 => ?_, fun h1 => ?_⟩
  · obtain ⟨A, c, rfl, hc⟩ := hr.len_c (P := Try.prog) (K := K)
    rw [copC_len] at hc
    refine C.run_of (sliceTo_run (e := 33) (sz := 4) A _ c .i64 50 Try.underlying22 (by kernel_rfl) (by omega) (by omega)) (h _ ?_)
    have := hr.take 50 (by rw [copC_len]; omega)
    have e : copC (l.take 50) = (copC l).take 50 := by simp [copC, List.map_take]
    rw [e]
    exact this
  · refine F17.k3.to (h _ ?_)
    rw [List.take_of_length_le (by omega)]
    exact hr
end
end Go.Proofs.YtfdpmgddlaamcaaV
