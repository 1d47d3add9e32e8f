/- Images opened, by the program: open, Check, Objects, start. -/
import Derived.Test.YtfjilngljnlkjaaEv4
import Derived.Test.YtfjilngljnlkjaaLibOwn
import Derived.Test.YtfjilngljnlkjaaLibMap
import Derived.Test.YtfjilngljnlkjaaEv2
namespace Go.Proofs.YtfjilngljnlkjaaV
open Go Go.Proofs Go.RowKit
set_option linter.unusedVariables false
set_option linter.unusedSimpArgs false
set_option maxRecDepth 10000
section
variable {K : VK} {w : World}
theorem bImg0 : (Instr.build 61 #[]).run Try.prog w = .ok (.agg #[.slice none 0 0, .slice none 0 0]) w := by kernel_rfl
theorem bImg (A : Option Addr) (n c : Nat) : (Instr.build 61 #[(0, .slice A n c)]).run Try.prog w = .ok (.agg #[.slice A n c, .slice none 0 0]) w := by kernel_rfl
/-- What stands while words are opened. -/
structure OI (W0 w : World) (b2 b4 : Nat) (lv sv : Value) (m : List Ob) : Prop where
  fr : Fr [] W0 w
  h2 : w.heap[b2]? = some (.cells #[.slice none 0 0, .slice none 0 0] 61 (0, 0))
  h4 : w.heap[b4]? = some (.cells #[lv, sv] 61 (0, 0))
  lo : W0.heap.size ≤ b2 ∧ W0.heap.size ≤ b4 ∧ b2 ≠ b4
  own : OwnS w sv 3 1 (intC (atL m))
  new : NewS W0 sv
theorem OI.keep {W0 w w' : World} {b2 b4 : Nat} {lv sv : Value} {m : List Ob} (h : OI W0 w b2 b4 lv sv m) (hf : Fr [] w w') : OI W0 w' b2 b4 lv sv m :=
  ⟨h.fr.trans hf, hf.at_ h.h2 (by simp), hf.at_ h.h4 (by simp), h.lo, h.own.keep hf (by simp), h.new⟩
theorem img_cells {a b : Value} (ha : a.cells = #[a]) (hb : b.cells = #[b]) : Value.cells (.agg #[a, b]) = #[a, b] := by simp [Value.cells, ha, hb]
theorem img_ones {a b : Value} (ha : a.cells = #[a]) (hb : b.cells = #[b]) (ha' : a.oneCell' = true) (hb' : b.oneCell' = true) : ∀ u ∈ (Value.cells (.agg #[a, b])).toList, u.oneCell' = true := by
  rw [img_cells ha hb]
  intro u hu
  simp only [List.mem_cons, List.not_mem_nil, or_false] at hu
  rcases hu with rfl | rfl
  · exact ha'
  · exact hb'
/-- An image goes out. -/
theorem img_out {b g : Nat} {a c a' c' : Value} {n : Int} (hb : w.heap[b]? = some (.cells #[a', c'] 61 (0, 0))) (ha : a.cells = #[a]) (hc : c.cells = #[c]) (ha' : a.oneCell' = true) (hc' : c.oneCell' = true)
    (hk : ∀ w', Fr [b] w w' → K (.tuple #[.agg #[a, c], .int .i64 n]) w') : C.store 2 (.pointer (some ⟨b, 0, none⟩)) (.agg #[a, c]) w fun w7 => C.loadA 2 (.pointer (some ⟨b, 0, none⟩)) w7 fun r8 _ => K (.tuple #[r8, .int .i64 n]) w7 := by
  have e := img_cells ha hc
  refine C.store_all (x := .agg #[a, c]) hb (by rw [e]; rfl) (img_ones ha hc ha' hc') rfl fun w1 hu => ?_
  have := hu.at_
  rw [e] at this
  exact C.loadA_all this rfl (hk w1 hu.fr)
theorem bodied_o1 : bodied Try.prog 52 = true := by kernel_rfl
theorem bodied_s1 : bodied Try.prog 54 = true := by kernel_rfl
theorem open_fine {W0 : World} {lv sv : Value} {l : List Int} {m : List Ob} {b2 b4 : Nat} (hl : RdS W0 lv 1 (intC l)) (hr : Rng l) (hlen : l.length ≤ 2048) (hS : Spl 0 l m) (h16 : ∀ w', Fr [] W0 w' → ¬ fineM m → K (.tuple #[.agg #[.slice none 0 0, .slice none 0 0], .int .i64 16]) w')
    (h0 : ∀ w', Fr [] W0 w' → fineM m → OwnS w' sv 3 1 (intC (atL m)) → K (.tuple #[.agg #[lv, sv], .int .i64 0]) w') :
    ∀ (d j : Nat) (w : World), m.length = j + d → OI W0 w b2 b4 lv sv m → (∀ i (h : i < m.length), i < j → fineL m m[i].fs) → F31.l12 K (.pointer (some ⟨b2, 0, none⟩)) (.pointer (some ⟨b4, 0, none⟩)) sv (.int .i64 (m.length : Int)) (.int .i64 (j : Int)) w := by
  have hml := hS.len
  intro d
  induction d with
  | zero =>
    intro j w hj hI hd
    refine F31.l12.to ?_
    simp only [C.ite_true, C.ite_false, C.pick_true, C.pick_false, C.not_bool, C.field_ptr, C.nilCheck_ptr, C.add_mk, C.sub_mk, C.mul_mk, C.eql_mk, C.neq_mk, C.lss_mk, C.leq_mk, C.gtr_mk, C.geq_mk, C.conv_mk, C.len_mk, C.ext_0, C.ext_1, C.ext3_0, C.ext3_1, C.ext3_2, C.guarded_yes, C.guarded_tf, C.guarded_ft, C.guarded_undef, Bool.not_true, Bool.not_false, Nat.zero_add, eq_self, decide_true, decide_false, show ¬ ((j : Int) < (m.length : Int)) by omega]
    have hl' := hl.keep hI.fr
    have hlo := hI.lo
    refine F31.k17.to (C.loadA_all hI.h4 rfl (img_out (g := 0) hI.h2 hl'.one.2 hI.own.one.2 hl'.one.1 hI.own.one.1 fun w' hf' => h0 w' (hI.fr.then hf' fun z hz => .inr (by simp only [List.mem_singleton] at hz; omega)) (fun o ho => ?_) (hI.own.keep' hf' fun g hg => by
      simp only [List.mem_singleton]
      intro e
      subst e
      exact hI.own.nb hI.h2 (by decide) hg)))
    obtain ⟨i, hi, rfl⟩ := List.getElem_of_mem ho
    exact hd i hi (by omega)
  | succ d ih =>
    intro j w hj hI hd
    have jl : j < m.length := by omega
    have jl' : j < (atL m).length := by rw [atL_len]; exact jl
    refine F31.l12.to ?_
    simp only [C.ite_true, C.ite_false, C.pick_true, C.pick_false, C.not_bool, C.field_ptr, C.nilCheck_ptr, C.add_mk, C.sub_mk, C.mul_mk, C.eql_mk, C.neq_mk, C.lss_mk, C.leq_mk, C.gtr_mk, C.geq_mk, C.conv_mk, C.len_mk, C.ext_0, C.ext_1, C.ext3_0, C.ext3_1, C.ext3_2, C.guarded_yes, C.guarded_tf, C.guarded_ft, C.guarded_undef, Bool.not_true, Bool.not_false, Nat.zero_add, eq_self, decide_true, decide_false, show ((j : Int) < (m.length : Int)) by omega]
    refine F31.k13.to (C.idx_int hI.own.rd jl' fun g o cs e fz hg hv => C.load1_of hg hv (C.loadA_all hI.h4 rfl ?_))
    rw [atL_get jl jl']
    refine fields_c (hl.keep hI.fr) hI.own.one.2 hr (hS.get j jl).1 fun fv w1 hf1 hfv _ => ?_
    have hI1 := hI.keep hf1
    have hrf : Rng m[j].fs := fun x hx => by
      have := (hS.get j jl).1.fs
      rw [← this] at hx
      exact hr x (List.mem_of_mem_drop (List.mem_of_mem_take hx))
    refine HasW_c (p := fun x => !fineS (atL m) x) hfv (fun w' n K' hf' hn hk => vcCall_of bodied_o1 (F52.sh (C.loadA_all (hf'.at_ hI1.h4 (by simp)) rfl (may_c (hl.one.2) (hI1.own.keep hf' (by simp)).rd (hrf n hn) fun w'' hf'' => ?_)))) fun w2 hf2 => ?_
    · simp only [C.ite_true, C.ite_false, C.pick_true, C.pick_false, C.not_bool, C.field_ptr, C.nilCheck_ptr, C.add_mk, C.sub_mk, C.mul_mk, C.eql_mk, C.neq_mk, C.lss_mk, C.leq_mk, C.gtr_mk, C.geq_mk, C.conv_mk, C.len_mk, C.ext_0, C.ext_1, C.ext3_0, C.ext3_1, C.ext3_2, C.guarded_yes, C.guarded_tf, C.guarded_ft, C.guarded_undef, Bool.not_true, Bool.not_false, Nat.zero_add, eq_self, decide_true, decide_false]
      exact hk w'' hf''
    · have hI2 := hI1.keep hf2
      cases ha : m[j].fs.any fun x => !fineS (atL m) x with
      | true =>
        simp only [C.ite_true, C.ite_false, C.pick_true, C.pick_false, C.not_bool, C.field_ptr, C.nilCheck_ptr, C.add_mk, C.sub_mk, C.mul_mk, C.eql_mk, C.neq_mk, C.lss_mk, C.leq_mk, C.gtr_mk, C.geq_mk, C.conv_mk, C.len_mk, C.ext_0, C.ext_1, C.ext3_0, C.ext3_1, C.ext3_2, C.guarded_yes, C.guarded_tf, C.guarded_ft, C.guarded_undef, Bool.not_true, Bool.not_false, Nat.zero_add, eq_self, decide_true, decide_false]
        refine C.run_of bImg0 (img_out (g := 0) hI2.h2 rfl rfl rfl rfl fun w' hf' => h16 w' (hI2.fr.then hf' fun z hz => .inr (by simp only [List.mem_singleton] at hz; have := hI.lo; omega)) fun hfm => ?_)
        obtain ⟨x, hx, hbad⟩ := List.any_eq_true.1 ha
        rw [fineS_eq, hfm m[j] (List.getElem_mem jl) x hx] at hbad
        cases hbad
      | false =>
        simp only [C.ite_true, C.ite_false, C.pick_true, C.pick_false, C.not_bool, C.field_ptr, C.nilCheck_ptr, C.add_mk, C.sub_mk, C.mul_mk, C.eql_mk, C.neq_mk, C.lss_mk, C.leq_mk, C.gtr_mk, C.geq_mk, C.conv_mk, C.len_mk, C.ext_0, C.ext_1, C.ext3_0, C.ext3_1, C.ext3_2, C.guarded_yes, C.guarded_tf, C.guarded_ft, C.guarded_undef, Bool.not_true, Bool.not_false, Nat.zero_add, eq_self, decide_true, decide_false]
        refine F31.k16.to ?_
        simp only [C.ite_true, C.ite_false, C.pick_true, C.pick_false, C.not_bool, C.field_ptr, C.nilCheck_ptr, C.add_mk, C.sub_mk, C.mul_mk, C.eql_mk, C.neq_mk, C.lss_mk, C.leq_mk, C.gtr_mk, C.geq_mk, C.conv_mk, C.len_mk, C.ext_0, C.ext_1, C.ext3_0, C.ext3_1, C.ext3_2, C.guarded_yes, C.guarded_tf, C.guarded_ft, C.guarded_undef, Bool.not_true, Bool.not_false, Nat.zero_add, eq_self, decide_true, decide_false]
        rw [wrap64_id (n := (j : Int) + 1) (by omega), show (j : Int) + 1 = ((j + 1 : Nat) : Int) by omega]
        refine ih (j + 1) w2 (by omega) hI2 fun i hi hij x hx => ?_
        by_cases c : i = j
        · subst c
          have := List.any_eq_false.1 ha x hx
          rw [fineS_eq] at this
          simpa using this
        · exact hd i hi (by omega) x hx
theorem open_loop {W0 : World} {lv : Value} {l : List Int} {b2 b4 : Nat} (hl : RdS W0 lv 1 (intC l)) (hr : Rng l) (hlen : l.length ≤ 2048) (h16 : ∀ w', Fr [] W0 w' → (¬ ∃ m, Spl 0 l m ∧ fineM m) → K (.tuple #[.agg #[.slice none 0 0, .slice none 0 0], .int .i64 16]) w')
    (h0 : ∀ m sv w', Fr [] W0 w' → Spl 0 l m → fineM m → NewS W0 sv → OwnS w' sv 3 1 (intC (atL m)) → K (.tuple #[.agg #[lv, sv], .int .i64 0]) w') :
    ∀ (d at_ : Nat) (w : World) (sv : Value) (m : List Ob), l.length ≤ at_ + d → OI W0 w b2 b4 lv sv m → SI l at_ m → F31.l5 K lv (.pointer (some ⟨b2, 0, none⟩)) (.pointer (some ⟨b4, 0, none⟩)) (.int .i64 (at_ : Int)) w := by
  have fin : ∀ (at_ : Nat) (w : World) (sv : Value) (m : List Ob), l.length = at_ → OI W0 w b2 b4 lv sv m → SI l at_ m → F31.l5 K lv (.pointer (some ⟨b2, 0, none⟩)) (.pointer (some ⟨b4, 0, none⟩)) (.int .i64 (at_ : Int)) w := by
    intro at_ w sv m ha hI hs
    subst ha
    have hS := hs.done
    have hml := hS.len
    refine F31.l5.to (C.len_rd (hl.keep hI.fr) ?_)
    rw [intC_len]
    simp only [C.ite_true, C.ite_false, C.pick_true, C.pick_false, C.not_bool, C.field_ptr, C.nilCheck_ptr, C.add_mk, C.sub_mk, C.mul_mk, C.eql_mk, C.neq_mk, C.lss_mk, C.leq_mk, C.gtr_mk, C.geq_mk, C.conv_mk, C.len_mk, C.ext_0, C.ext_1, C.ext3_0, C.ext3_1, C.ext3_2, C.guarded_yes, C.guarded_tf, C.guarded_ft, C.guarded_undef, Bool.not_true, Bool.not_false, Nat.zero_add, eq_self, decide_true, decide_false, show ¬ ((l.length : Int) < (l.length : Int)) by omega]
    refine F31.k11.to ?_
    simp only [C.ite_true, C.ite_false, C.pick_true, C.pick_false, C.not_bool, C.field_ptr, C.nilCheck_ptr, C.add_mk, C.sub_mk, C.mul_mk, C.eql_mk, C.neq_mk, C.lss_mk, C.leq_mk, C.gtr_mk, C.geq_mk, C.conv_mk, C.len_mk, C.ext_0, C.ext_1, C.ext3_0, C.ext3_1, C.ext3_2, C.guarded_yes, C.guarded_tf, C.guarded_ft, C.guarded_undef, Bool.not_true, Bool.not_false, Nat.zero_add, eq_self, decide_true, decide_false]
    refine C.load1_of (v := sv) hI.h4 rfl (C.len_rd hI.own.rd ?_)
    rw [intC_len, atL_len]
    exact open_fine hl hr hlen hS (fun w' hf hn => h16 w' hf fun ⟨m', h1, h2⟩ => by have := hS.det h1; subst this; exact hn h2) (fun w' hf hm ho => h0 m sv w' hf hS hm hI.new ho) m.length 0 w (by omega) hI fun i hi hij => by omega
  intro d
  induction d with
  | zero => exact fun at_ w sv m ha hI hs => fin at_ w sv m (by have := hs.le; omega) hI hs
  | succ d ih =>
    intro at_ w sv m ha hI hs
    by_cases hend : l.length = at_
    · exact fin at_ w sv m hend hI hs
    have hle := hs.le
    have hal : at_ < l.length := by omega
    have hml := hs.len
    have hrx := hr l[at_] (List.getElem_mem hal)
    refine F31.l5.to (C.len_rd (hl.keep hI.fr) ?_)
    rw [intC_len]
    simp only [C.ite_true, C.ite_false, C.pick_true, C.pick_false, C.not_bool, C.field_ptr, C.nilCheck_ptr, C.add_mk, C.sub_mk, C.mul_mk, C.eql_mk, C.neq_mk, C.lss_mk, C.leq_mk, C.gtr_mk, C.geq_mk, C.conv_mk, C.len_mk, C.ext_0, C.ext_1, C.ext3_0, C.ext3_1, C.ext3_2, C.guarded_yes, C.guarded_tf, C.guarded_ft, C.guarded_undef, Bool.not_true, Bool.not_false, Nat.zero_add, eq_self, decide_true, decide_false, show ((at_ : Int) < (l.length : Int)) by omega]
    have bad : ∀ w', Fr [] w w' → ¬ okHd l[at_] (l.length - at_) → C.run Try.prog (Instr.build 61 #[]) w' fun x w3 => C.store 2 (.pointer (some ⟨b2, 0, none⟩)) x w3 fun w4 => C.loadA 2 (.pointer (some ⟨b2, 0, none⟩)) w4 fun r17 _ => K (.tuple #[r17, .int .i64 16]) w4 := fun w' hf' hb =>
      C.run_of bImg0 (img_out (g := 0) (hI.keep hf').h2 rfl rfl rfl rfl fun w'' hf'' => h16 w'' ((hI.fr.trans hf').then hf'' fun z hz => .inr (by simp only [List.mem_singleton] at hz; have := hI.lo; omega)) (hs.bad hal hb))
    refine F31.k6.to (C.idx_int (hl.keep hI.fr) hal fun g o cs e fz hg hv => C.load1_of hg hv (Split_c hrx.2 (fun h0 h1 => ?_) (fun hno => ?_)))
    · simp only [C.ite_true, C.ite_false, C.pick_true, C.pick_false, C.not_bool, C.field_ptr, C.nilCheck_ptr, C.add_mk, C.sub_mk, C.mul_mk, C.eql_mk, C.neq_mk, C.lss_mk, C.leq_mk, C.gtr_mk, C.geq_mk, C.conv_mk, C.len_mk, C.ext_0, C.ext_1, C.ext3_0, C.ext3_1, C.ext3_2, C.guarded_yes, C.guarded_tf, C.guarded_ft, C.guarded_undef, Bool.not_true, Bool.not_false, Nat.zero_add, eq_self, decide_true, decide_false]
      refine C.len_rd (hl.keep hI.fr) ?_
      rw [intC_len]
      simp only [C.ite_true, C.ite_false, C.pick_true, C.pick_false, C.not_bool, C.field_ptr, C.nilCheck_ptr, C.add_mk, C.sub_mk, C.mul_mk, C.eql_mk, C.neq_mk, C.lss_mk, C.leq_mk, C.gtr_mk, C.geq_mk, C.conv_mk, C.len_mk, C.ext_0, C.ext_1, C.ext3_0, C.ext3_1, C.ext3_2, C.guarded_yes, C.guarded_tf, C.guarded_ft, C.guarded_undef, Bool.not_true, Bool.not_false, Nat.zero_add, eq_self, decide_true, decide_false]
      rw [wrap64_id (n := (l.length : Int) - (at_ : Int)) (by omega)]
      by_cases hc : l[at_] % 128 ≥ (l.length : Int) - (at_ : Int)
      · simp only [C.ite_true, C.ite_false, C.pick_true, C.pick_false, C.not_bool, C.field_ptr, C.nilCheck_ptr, C.add_mk, C.sub_mk, C.mul_mk, C.eql_mk, C.neq_mk, C.lss_mk, C.leq_mk, C.gtr_mk, C.geq_mk, C.conv_mk, C.len_mk, C.ext_0, C.ext_1, C.ext3_0, C.ext3_1, C.ext3_2, C.guarded_yes, C.guarded_tf, C.guarded_ft, C.guarded_undef, Bool.not_true, Bool.not_false, Nat.zero_add, eq_self, decide_true, decide_false, hc]
        exact bad w (Fr.refl _ _) fun h => by unfold okHd at h; omega
      · simp only [C.ite_true, C.ite_false, C.pick_true, C.pick_false, C.not_bool, C.field_ptr, C.nilCheck_ptr, C.add_mk, C.sub_mk, C.mul_mk, C.eql_mk, C.neq_mk, C.lss_mk, C.leq_mk, C.gtr_mk, C.geq_mk, C.conv_mk, C.len_mk, C.ext_0, C.ext_1, C.ext3_0, C.ext3_1, C.ext3_2, C.guarded_yes, C.guarded_tf, C.guarded_ft, C.guarded_undef, Bool.not_true, Bool.not_false, Nat.zero_add, eq_self, decide_true, decide_false, hc]
        refine F31.k9.to ?_
        simp only [C.ite_true, C.ite_false, C.pick_true, C.pick_false, C.not_bool, C.field_ptr, C.nilCheck_ptr, C.add_mk, C.sub_mk, C.mul_mk, C.eql_mk, C.neq_mk, C.lss_mk, C.leq_mk, C.gtr_mk, C.geq_mk, C.conv_mk, C.len_mk, C.ext_0, C.ext_1, C.ext3_0, C.ext3_1, C.ext3_2, C.guarded_yes, C.guarded_tf, C.guarded_ft, C.guarded_undef, Bool.not_true, Bool.not_false, Nat.zero_add, eq_self, decide_true, decide_false]
        refine C.load1_of (v := sv) hI.h4 rfl (C.appI hI.fr hI.new hI.own (by rw [atL_len]; omega) fun v' w1 hf1 hn1 ho1 hb1 hg1 => ?_)
        have hs1 := hs.step hal (show okHd l[at_] (l.length - at_) from ⟨h0, h1, by omega⟩)
        have h4' := hb1.at_ hI.h4 (hI.own.nb hI.h4 (by decide))
        have h2' := hb1.at_ hI.h2 (hI.own.nb hI.h2 (by decide))
        obtain ⟨l1, l2, l3⟩ := hI.lo
        refine C.store1_of h4' ho1.one.2 ho1.one.1 (by simp) fun w2 hu2 => ?_
        have hle1 := hs1.le
        try simp only [C.ite_true, C.ite_false, C.pick_true, C.pick_false, C.not_bool, C.field_ptr, C.nilCheck_ptr, C.add_mk, C.sub_mk, C.mul_mk, C.eql_mk, C.neq_mk, C.lss_mk, C.leq_mk, C.gtr_mk, C.geq_mk, C.conv_mk, C.len_mk, C.ext_0, C.ext_1, C.ext3_0, C.ext3_1, C.ext3_2, C.guarded_yes, C.guarded_tf, C.guarded_ft, C.guarded_undef, Bool.not_true, Bool.not_false, Nat.zero_add, eq_self, decide_true, decide_false]
        rw [wrap64_id (n := 1 + l[at_] % 128) (by omega), wrap64_id (n := (at_ : Int) + (1 + l[at_] % 128)) (by omega), show (at_ : Int) + (1 + l[at_] % 128) = ((at_ + 1 + (l[at_] % 128).toNat : Nat) : Int) by omega]
        refine ih _ w2 v' _ (by omega) ⟨hf1.then hu2.fr fun z hz => .inr (by simp only [List.mem_singleton] at hz; omega), hu2.fr.at_ h2' (by simp; omega), hu2.at_, hI.lo, ?_, hn1⟩ hs1
        rw [atL_app]
        exact ho1.keep' hu2.fr fun g hg => by
          simp only [List.mem_singleton]
          intro e
          subst e
          exact ho1.nb h4' (by decide) hg
    · simp only [C.ite_true, C.ite_false, C.pick_true, C.pick_false, C.not_bool, C.field_ptr, C.nilCheck_ptr, C.add_mk, C.sub_mk, C.mul_mk, C.eql_mk, C.neq_mk, C.lss_mk, C.leq_mk, C.gtr_mk, C.geq_mk, C.conv_mk, C.len_mk, C.ext_0, C.ext_1, C.ext3_0, C.ext3_1, C.ext3_2, C.guarded_yes, C.guarded_tf, C.guarded_ft, C.guarded_undef, Bool.not_true, Bool.not_false, Nat.zero_add, eq_self, decide_true, decide_false]
      exact bad w (Fr.refl _ _) fun h => hno ⟨h.1, h.2.1⟩
theorem open_c {lv : Value} {l : List Int} (hl : RdS w lv 1 (intC l)) (hr : Rng l) (h : ∀ c m lv' sv w', Cd l c m → Fr [] w w' → (c = 0 → lv' = lv ∧ NewS w sv ∧ OwnS w' sv 3 1 (intC (atL m))) → (c ≠ 0 → lv' = .slice none 0 0 ∧ sv = .slice none 0 0) → K (.tuple #[.agg #[lv', sv], .int .i64 c]) w') :
    C.call Try.prog 31 #[lv] w K := by
  refine F31.sh (C.new_of fun b2 w1 hn1 => C.len_rd (hl.keep hn1.fr) ?_)
  rw [intC_len]
  have hle := hl.le
  rw [intC_len] at hle
  have i1 := hn1.is
  by_cases hc : (l.length : Int) > 2048
  · simp only [C.ite_true, C.ite_false, C.pick_true, C.pick_false, C.not_bool, C.field_ptr, C.nilCheck_ptr, C.add_mk, C.sub_mk, C.mul_mk, C.eql_mk, C.neq_mk, C.lss_mk, C.leq_mk, C.gtr_mk, C.geq_mk, C.conv_mk, C.len_mk, C.ext_0, C.ext_1, C.ext3_0, C.ext3_1, C.ext3_2, C.guarded_yes, C.guarded_tf, C.guarded_ft, C.guarded_undef, Bool.not_true, Bool.not_false, Nat.zero_add, eq_self, decide_true, decide_false, hc]
    exact C.run_of bImg0 (img_out (g := 0) hn1.at_ rfl rfl rfl rfl fun w' hf' => h 5 [] _ _ w' (.inl ⟨rfl, by omega, rfl⟩) (hn1.fr.then hf' fun z hz => .inr (by simp only [List.mem_singleton] at hz; omega)) (fun e => by cases e) fun _ => ⟨rfl, rfl⟩)
  · simp only [C.ite_true, C.ite_false, C.pick_true, C.pick_false, C.not_bool, C.field_ptr, C.nilCheck_ptr, C.add_mk, C.sub_mk, C.mul_mk, C.eql_mk, C.neq_mk, C.lss_mk, C.leq_mk, C.gtr_mk, C.geq_mk, C.conv_mk, C.len_mk, C.ext_0, C.ext_1, C.ext3_0, C.ext3_1, C.ext3_2, C.guarded_yes, C.guarded_tf, C.guarded_ft, C.guarded_undef, Bool.not_true, Bool.not_false, Nat.zero_add, eq_self, decide_true, decide_false, hc]
    have hl1 := hl.keep hn1.fr
    have hl1' := hl1
    obtain ⟨A, c, rfl, _⟩ := hl1'
    refine F31.k3.to (C.run_of (bImg A _ c) (C.new_of fun b4 w2 hn2 => C.store_all (x := .agg #[.slice A (intC l).length c, .slice none 0 0]) hn2.at_ rfl (by simp [Value.cells, Value.oneCell']) rfl fun w3 hu3 => ?_))
    have i2 := hn2.is
    have z1 := hn1.sz
    have f3 : Fr [] w1 w3 := hn2.fr.then hu3.fr fun z hz => .inr (by simp only [List.mem_singleton] at hz; omega)
    exact open_loop (W0 := w) hl hr (by omega) (fun w' hf hn => h 16 [] _ _ w' (.inr (.inl ⟨rfl, by omega, rfl, hn⟩)) hf (fun e => by cases e) fun _ => ⟨rfl, rfl⟩) (fun m sv w' hf hS hm hn ho => h 0 m _ sv w' (.inr (.inr ⟨rfl, by omega, hS, hm⟩)) hf (fun _ => ⟨rfl, hn, ho⟩) fun e => absurd rfl e) l.length 0 w3 (.slice none 0 0) [] (by omega)
      ⟨hn1.fr.trans f3, f3.at_ hn1.at_ (by simp), hu3.at_, ⟨by omega, by omega, by omega⟩, OwnS.nil _ _ _, NewS.nil _⟩ (SI.start l)
theorem img_put {a c : Value} {F : Value → World → Prop} (ha : a.cells = #[a]) (hc : c.cells = #[c]) (ha' : a.oneCell' = true) (hc' : c.oneCell' = true)
    (hk : ∀ b w', Fr [] w w' → w.heap.size ≤ b → w'.heap[b]? = some (.cells #[a, c] 61 (0, 0)) → F (.pointer (some ⟨b, 0, none⟩)) w') : C.new (.cells #[.slice none 0 0, .slice none 0 0] 61) w fun x w1 => C.store 2 x (.agg #[a, c]) w1 fun w2 => F x w2 := by
  have e := img_cells ha hc
  refine C.new_of fun b w1 hn => C.store_all (x := .agg #[a, c]) hn.at_ (by rw [e]; rfl) (img_ones ha hc ha' hc') rfl fun w2 hu => ?_
  have i := hn.is
  have := hu.at_
  rw [e] at this
  exact hk b w2 (hn.fr.then hu.fr fun z hz => .inr (by simp only [List.mem_singleton] at hz; omega)) (by omega) this
theorem one_of {c : Int} {lv lv' sv : Value} {l : List Int} {w' : World} {X : List (List Value)} (hl : RdS w lv 1 (intC l)) (h1 : c = 0 → lv' = lv ∧ OwnS w' sv 3 1 X) (h2 : c ≠ 0 → lv' = .slice none 0 0 ∧ sv = .slice none 0 0) :
    lv'.cells = #[lv'] ∧ sv.cells = #[sv] ∧ lv'.oneCell' = true ∧ sv.oneCell' = true := by
  by_cases c0 : c = 0
  · obtain ⟨rfl, h⟩ := h1 c0
    exact ⟨hl.one.2, h.one.2, hl.one.1, h.one.1⟩
  · obtain ⟨rfl, rfl⟩ := h2 c0
    exact ⟨rfl, rfl, rfl, rfl⟩
theorem ECheck_c {lv : Value} {l : List Int} (hl : RdS w lv 1 (intC l)) (hr : Rng l) (h : ∀ c m w', Cd l c m → Fr [] w w' → K (.int .i64 c) w') : C.call Try.prog 11 #[lv] w K := by
  refine F11.sh (open_c hl hr fun c m lv' sv w1 hc hf1 h1 h2 => ?_)
  obtain ⟨e1, e2, e3, e4⟩ := one_of (X := intC (atL m)) hl (fun c0 => ⟨(h1 c0).1, (h1 c0).2.2⟩) h2
  simp only [C.ite_true, C.ite_false, C.pick_true, C.pick_false, C.not_bool, C.field_ptr, C.nilCheck_ptr, C.add_mk, C.sub_mk, C.mul_mk, C.eql_mk, C.neq_mk, C.lss_mk, C.leq_mk, C.gtr_mk, C.geq_mk, C.conv_mk, C.len_mk, C.ext_0, C.ext_1, C.ext3_0, C.ext3_1, C.ext3_2, C.guarded_yes, C.guarded_tf, C.guarded_ft, C.guarded_undef, Bool.not_true, Bool.not_false, Nat.zero_add, eq_self, decide_true, decide_false]
  exact img_put e1 e2 e3 e4 fun b w2 hf2 _ hb => h c m w2 hc (hf1.trans hf2)
theorem Objects_c {lv : Value} {l : List Int} (hl : RdS w lv 1 (intC l)) (hr : Rng l) (h : ∀ c m sv w', Cd l c m → Fr [] w w' → RdS w' sv 1 (intC (atL m)) → K sv w') : C.call Try.prog 12 #[lv] w K := by
  refine F12.sh (open_c hl hr fun c m lv' sv w1 hc hf1 h1 h2 => ?_)
  obtain ⟨e1, e2, e3, e4⟩ := one_of (X := intC (atL m)) hl (fun c0 => ⟨(h1 c0).1, (h1 c0).2.2⟩) h2
  simp only [C.ite_true, C.ite_false, C.pick_true, C.pick_false, C.not_bool, C.field_ptr, C.nilCheck_ptr, C.add_mk, C.sub_mk, C.mul_mk, C.eql_mk, C.neq_mk, C.lss_mk, C.leq_mk, C.gtr_mk, C.geq_mk, C.conv_mk, C.len_mk, C.ext_0, C.ext_1, C.ext3_0, C.ext3_1, C.ext3_2, C.guarded_yes, C.guarded_tf, C.guarded_ft, C.guarded_undef, Bool.not_true, Bool.not_false, Nat.zero_add, eq_self, decide_true, decide_false]
  refine img_put e1 e2 e3 e4 fun b w2 hf2 _ hb => ?_
  simp only [C.ite_true, C.ite_false, C.pick_true, C.pick_false, C.not_bool, C.field_ptr, C.nilCheck_ptr, C.add_mk, C.sub_mk, C.mul_mk, C.eql_mk, C.neq_mk, C.lss_mk, C.leq_mk, C.gtr_mk, C.geq_mk, C.conv_mk, C.len_mk, C.ext_0, C.ext_1, C.ext3_0, C.ext3_1, C.ext3_2, C.guarded_yes, C.guarded_tf, C.guarded_ft, C.guarded_undef, Bool.not_true, Bool.not_false, Nat.zero_add, eq_self, decide_true, decide_false]
  refine C.load1_of (v := sv) hb rfl (h c m sv w2 hc (hf1.trans hf2) ?_)
  by_cases c0 : c = 0
  · exact ((h1 c0).2.2.keep hf2 (by simp)).rd
  · obtain ⟨_, rfl⟩ := h2 c0
    have : m = [] := by
      rcases hc with ⟨_, _, e⟩ | ⟨_, _, e, _⟩ | ⟨e, _⟩
      · exact e
      · exact e
      · exact absurd e c0
    subst this
    exact (OwnS.nil w2 3 1).rd
end
end Go.Proofs.YtfjilngljnlkjaaV
