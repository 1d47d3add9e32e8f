/- Objects copied, by the program: Copy. · Images, by the reference: Split, Find, Fine, Open. · Images, by the reference: Order, moved, Lay. · Views in memory, compared. (Turned from the texts of seat r3.) · What an image shows, by the program: values. -/
import Derived.Test.YtfjilngljnlkjaaEvB
import Derived.Test.YtfjilngljnlkjaaEvA
import Derived.Test.YtfjilngljnlkjaaGRefE
import Derived.Test.YtfjilngljnlkjaaLibOwn
import Derived.Test.YtfjilngljnlkjaaGLib
import Derived.Test.YtfjilngljnlkjaaLib1
namespace Go.Proofs.YtfjilngljnlkjaaV
open Go Go.Proofs Go.RowKit
set_option linter.unusedVariables false
set_option linter.unusedSimpArgs false
set_option maxRecDepth 10000
/-- How words and roots are opened. -/
def Cr (l roots : List Int) (c : Int) (m : List Ob) : Prop := (Cd l c m ∧ c ≠ 0) ∨ (c = 4 ∧ Cd l 0 m ∧ ¬ fineL m roots) ∨ (c = 0 ∧ Cd l 0 m ∧ fineL m roots)
theorem Cr.det {l roots : List Int} {c c' : Int} {m m' : List Ob} (h : Cr l roots c m) (h' : Cr l roots c' m') : c = c' ∧ m = m' := by
  rcases h with ⟨a1, a2⟩ | ⟨a1, a2, a3⟩ | ⟨a1, a2, a3⟩ <;> rcases h' with ⟨b1, b2⟩ | ⟨b1, b2, b3⟩ | ⟨b1, b2, b3⟩
  · exact a1.det b1
  · exact absurd (a1.det b2).1 a2
  · exact absurd (a1.det b2).1 a2
  · exact absurd (a2.det b1).1.symm b2
  · exact ⟨a1.trans b1.symm, (a2.det b2).2⟩
  · have := (a2.det b2).2; subst this; exact absurd b3 a3
  · exact absurd (a2.det b1).1.symm b2
  · have := (a2.det b2).2; subst this; exact absurd a3 b3
  · exact ⟨a1.trans b1.symm, (a2.det b2).2⟩
theorem Cd.zero {l : List Int} {m : List Ob} (h : Cd l 0 m) : l.length ≤ 2048 ∧ Spl 0 l m ∧ fineM m := by
  rcases h with ⟨e, _⟩ | ⟨e, _⟩ | ⟨_, h⟩
  · cases e
  · cases e
  · exact h
theorem Cr.opn {l roots : List Int} {m : List Ob} (h : Cr l roots 0 m) : Opn l m roots := by
  rcases h with ⟨_, e⟩ | ⟨e, _⟩ | ⟨_, h1, h2⟩
  · exact absurd rfl e
  · cases e
  · obtain ⟨a, b, c⟩ := h1.zero
    exact ⟨b, a, c, h2⟩
theorem Opn.cr {l roots : List Int} {m : List Ob} (h : Opn l m roots) : Cr l roots 0 m := .inr (.inr ⟨rfl, .inr (.inr ⟨rfl, h.few, h.spl, h.fine⟩), h.fr⟩)
theorem layS_snoc (m : List Ob) (o S : List Nat) (p : Nat) : layS m o (S ++ [p]) = layS m o S ++ hdA m p :: (fsA m p).map (movW m o) := by simp [layS]
theorem layS_pre {m : List Ob} {o o' : List Nat} (hpre : o <+: o') : ∀ (S : List Nat), (∀ p ∈ S, ∀ w ∈ fsA m p, ∀ q, wPl m w = some q → q ∈ o) → layS m o' S = layS m o S
  | [], _ => rfl
  | p :: S, h => by
    have ih := layS_pre hpre S fun q hq => h q (by simp [hq])
    simp only [layS, List.flatMap_cons] at ih ⊢
    rw [ih]
    congr 2
    apply List.map_congr_left
    intro w hw
    exact movW_pre hpre (h p (by simp) w hw)
section
variable {K : VK} {w : World}
theorem MV.img {Wb : World} {mb tb : Nat} {lv sv ov : Value} {m : List Ob} {o : List Nat} {F : VK} (h : MV Wb w mb tb lv sv ov m o) (hk : F (.agg #[lv, sv]) w) : C.loadA 2 (.pointer (some ⟨mb, 0, none⟩)) w F :=
  C.loadA_of (vs := [lv, sv]) h.blk (by simp) (by simp) hk
/-- What Copy has while it goes on. -/
structure CI (W0 Wb w : World) (mb tb : Nat) (lv sv ov tv : Value) (l roots : List Int) (m : List Ob) (o : List Nat) (k : Nat) : Prop where
  mv : MV Wb w mb tb lv sv ov m o
  pls : Pls m o
  town : OwnS w tv 2 1 (intC (layS m o (o.take k)))
  tn : NewS Wb tv
  done : ∀ i p, i < k → o[i]? = some p → ∀ x ∈ fsA m p, ∀ q, wPl m x = some q → q ∈ o
  root : ∀ x ∈ roots, ∀ q, wPl m x = some q → q ∈ o
theorem Copy_loop {Wb : World} {mb tb : Nat} {lv sv hv : Value} {l roots : List Int} {m : List Ob} (hC : Opn l m roots) (hlv : RdS Wb lv 1 (intC l)) (hsv : RdS Wb sv 1 (intC (atL m))) (hr : Rng l)
    (h : ∀ tv w', Fr [] Wb w' → OwnS w' tv 2 1 (intC (lay m (ordO m roots))) → OwnS w' hv 2 1 (intC (roots.map (movW m (ordO m roots)))) → NewS Wb tv → K (.tuple #[tv, hv, .int .i64 0]) w') :
    ∀ (f k : Nat) (w : World) (o : List Nat) (ov tv : Value), m.length < k + f → bfs m f o k = ordO m roots → CI Wb Wb w mb tb lv sv ov tv l roots m o k → OwnS w hv 2 1 (intC (roots.map (movW m o))) → NewS Wb hv → (∀ g ∈ blkS hv, g ∉ blkS tv) →
      F16.l7 K lv (.pointer (some ⟨mb, 0, none⟩)) hv tv (.int .i64 (k : Int)) w := by
  have hO := hC.spl
  have hlen := hC.few
  have hml := hO.len
  have fin : ∀ (k : Nat) (w : World) (o : List Nat) (ov tv : Value), o.length ≤ k → k ≤ 100000 → o = ordO m roots → CI Wb Wb w mb tb lv sv ov tv l roots m o k → OwnS w hv 2 1 (intC (roots.map (movW m o))) → F16.l7 K lv (.pointer (some ⟨mb, 0, none⟩)) hv tv (.int .i64 (k : Int)) w := by
    intro k w o ov tv hk hk2 ho hI hh
    refine F16.l7.to ?_
    simp only [C.ite_true, C.ite_false, C.pick_true, C.pick_false, C.not_bool, C.field_ptr, C.nilCheck_ptr, C.add_mk, C.sub_mk, C.mul_mk, C.eql_mk, C.neq_mk, C.lss_mk, C.leq_mk, C.gtr_mk, C.geq_mk, C.conv_mk, C.len_mk, C.ext_0, C.ext_1, C.ext3_0, C.ext3_1, C.ext3_2, C.guarded_yes, C.guarded_tf, C.guarded_ft, C.guarded_undef, Bool.not_true, Bool.not_false, Nat.zero_add, eq_self, decide_true, decide_false]
    refine C.load1_of (v := ov) hI.mv.blk rfl (C.len_rd hI.mv.own.rd ?_)
    rw [intC_len, ordL_len]
    simp only [C.ite_true, C.ite_false, C.pick_true, C.pick_false, C.not_bool, C.field_ptr, C.nilCheck_ptr, C.add_mk, C.sub_mk, C.mul_mk, C.eql_mk, C.neq_mk, C.lss_mk, C.leq_mk, C.gtr_mk, C.geq_mk, C.conv_mk, C.len_mk, C.ext_0, C.ext_1, C.ext3_0, C.ext3_1, C.ext3_2, C.guarded_yes, C.guarded_tf, C.guarded_ft, C.guarded_undef, Bool.not_true, Bool.not_false, Nat.zero_add, eq_self, decide_true, decide_false, show ¬ ((k : Int) < (o.length : Int)) by omega]
    have ht := hI.town
    rw [List.take_of_length_le hk] at ht
    refine F16.k11.to (h tv w hI.mv.fr ?_ ?_ hI.tn)
    · rw [← ho]; exact ht
    · rw [← ho]; exact hh
  intro f
  induction f with
  | zero =>
    intro k w o ov tv hf hb hI hh hn hd
    have hol := hI.pls.len
    by_cases hk : k ≤ 100000
    · exact fin k w o ov tv (by omega) hk hb hI hh
    · refine F16.l7.to ?_
      simp only [C.ite_true, C.ite_false, C.pick_true, C.pick_false, C.not_bool, C.field_ptr, C.nilCheck_ptr, C.add_mk, C.sub_mk, C.mul_mk, C.eql_mk, C.neq_mk, C.lss_mk, C.leq_mk, C.gtr_mk, C.geq_mk, C.conv_mk, C.len_mk, C.ext_0, C.ext_1, C.ext3_0, C.ext3_1, C.ext3_2, C.guarded_yes, C.guarded_tf, C.guarded_ft, C.guarded_undef, Bool.not_true, Bool.not_false, Nat.zero_add, eq_self, decide_true, decide_false]
      refine C.load1_of (v := ov) hI.mv.blk rfl (C.len_rd hI.mv.own.rd ?_)
      rw [intC_len, ordL_len]
      simp only [C.ite_true, C.ite_false, C.pick_true, C.pick_false, C.not_bool, C.field_ptr, C.nilCheck_ptr, C.add_mk, C.sub_mk, C.mul_mk, C.eql_mk, C.neq_mk, C.lss_mk, C.leq_mk, C.gtr_mk, C.geq_mk, C.conv_mk, C.len_mk, C.ext_0, C.ext_1, C.ext3_0, C.ext3_1, C.ext3_2, C.guarded_yes, C.guarded_tf, C.guarded_ft, C.guarded_undef, Bool.not_true, Bool.not_false, Nat.zero_add, eq_self, decide_true, decide_false, show ¬ ((k : Int) < (o.length : Int)) by omega]
      have ht := hI.town
      rw [List.take_of_length_le (by omega)] at ht
      have ho : o = ordO m roots := hb
      refine F16.k11.to (h tv w hI.mv.fr ?_ ?_ hI.tn)
      · rw [← ho]; exact ht
      · rw [← ho]; exact hh
  | succ f ih =>
    intro k w o ov tv hf hb hI hh hn hd
    have hol := hI.pls.len
    by_cases hk : o.length ≤ k
    · have ho : o = ordO m roots := by
        rw [← hb]
        unfold bfs
        rw [List.getElem?_eq_none hk]
      by_cases hk2 : k ≤ 100000
      · exact fin k w o ov tv hk hk2 ho hI hh
      · refine F16.l7.to ?_
        simp only [C.ite_true, C.ite_false, C.pick_true, C.pick_false, C.not_bool, C.field_ptr, C.nilCheck_ptr, C.add_mk, C.sub_mk, C.mul_mk, C.eql_mk, C.neq_mk, C.lss_mk, C.leq_mk, C.gtr_mk, C.geq_mk, C.conv_mk, C.len_mk, C.ext_0, C.ext_1, C.ext3_0, C.ext3_1, C.ext3_2, C.guarded_yes, C.guarded_tf, C.guarded_ft, C.guarded_undef, Bool.not_true, Bool.not_false, Nat.zero_add, eq_self, decide_true, decide_false]
        refine C.load1_of (v := ov) hI.mv.blk rfl (C.len_rd hI.mv.own.rd ?_)
        rw [intC_len, ordL_len]
        simp only [C.ite_true, C.ite_false, C.pick_true, C.pick_false, C.not_bool, C.field_ptr, C.nilCheck_ptr, C.add_mk, C.sub_mk, C.mul_mk, C.eql_mk, C.neq_mk, C.lss_mk, C.leq_mk, C.gtr_mk, C.geq_mk, C.conv_mk, C.len_mk, C.ext_0, C.ext_1, C.ext3_0, C.ext3_1, C.ext3_2, C.guarded_yes, C.guarded_tf, C.guarded_ft, C.guarded_undef, Bool.not_true, Bool.not_false, Nat.zero_add, eq_self, decide_true, decide_false, show ¬ ((k : Int) < (o.length : Int)) by omega]
        have ht := hI.town
        rw [List.take_of_length_le hk] at ht
        refine F16.k11.to (h tv w hI.mv.fr ?_ ?_ hI.tn)
        · rw [← ho]; exact ht
        · rw [← ho]; exact hh
    have kl : k < o.length := by omega
    have kl' : k < (ordL m o).length := by rw [ordL_len]; exact kl
    have hp := hI.pls.2 o[k] (List.getElem_mem kl)
    have hOb := (hO.get o[k] hp).1
    have hal : m[o[k]].at_ < l.length := by have := hOb.end_; omega
    have hhd : l[m[o[k]].at_] = hdA m o[k] := by
      have := hOb.hd
      rw [Nat.sub_zero, List.getElem?_eq_getElem hal] at this
      rw [hdA_get hp]
      exact Option.some.inj this
    have hlw : ∀ w', Fr [] Wb w' → RdS w' lv 1 (intC l) := fun w' hw => hlv.keep hw
    refine F16.l7.to ?_
    simp only [C.ite_true, C.ite_false, C.pick_true, C.pick_false, C.not_bool, C.field_ptr, C.nilCheck_ptr, C.add_mk, C.sub_mk, C.mul_mk, C.eql_mk, C.neq_mk, C.lss_mk, C.leq_mk, C.gtr_mk, C.geq_mk, C.conv_mk, C.len_mk, C.ext_0, C.ext_1, C.ext3_0, C.ext3_1, C.ext3_2, C.guarded_yes, C.guarded_tf, C.guarded_ft, C.guarded_undef, Bool.not_true, Bool.not_false, Nat.zero_add, eq_self, decide_true, decide_false]
    refine C.load1_of (v := ov) hI.mv.blk rfl (C.len_rd hI.mv.own.rd ?_)
    rw [intC_len, ordL_len]
    simp only [C.ite_true, C.ite_false, C.pick_true, C.pick_false, C.not_bool, C.field_ptr, C.nilCheck_ptr, C.add_mk, C.sub_mk, C.mul_mk, C.eql_mk, C.neq_mk, C.lss_mk, C.leq_mk, C.gtr_mk, C.geq_mk, C.conv_mk, C.len_mk, C.ext_0, C.ext_1, C.ext3_0, C.ext3_1, C.ext3_2, C.guarded_yes, C.guarded_tf, C.guarded_ft, C.guarded_undef, Bool.not_true, Bool.not_false, Nat.zero_add, eq_self, decide_true, decide_false, show ((k : Int) < (o.length : Int)) by omega]
    refine F16.k9.to ?_
    simp only [C.ite_true, C.ite_false, C.pick_true, C.pick_false, C.not_bool, C.field_ptr, C.nilCheck_ptr, C.add_mk, C.sub_mk, C.mul_mk, C.eql_mk, C.neq_mk, C.lss_mk, C.leq_mk, C.gtr_mk, C.geq_mk, C.conv_mk, C.len_mk, C.ext_0, C.ext_1, C.ext3_0, C.ext3_1, C.ext3_2, C.guarded_yes, C.guarded_tf, C.guarded_ft, C.guarded_undef, Bool.not_true, Bool.not_false, Nat.zero_add, eq_self, decide_true, decide_false]
    refine C.load1_of (v := ov) hI.mv.blk rfl (C.idx_int hI.mv.own.rd kl' fun g oo cs e fz hg hcv => C.load1_of hg hcv ?_)
    rw [ordL_get kl kl', atA_get hp]
    have hS0 : ∀ (w' : World) ov' o', MV Wb w' mb tb lv sv ov' m o' → (∃ ov n, w'.heap[mb]? = some (.cells #[lv, sv, .map (some tb), ov, n] 72 (0, 0))) ∧ RdS w' lv 1 (intC l) := fun w' ov' o' M => ⟨⟨_, _, M.blk⟩, hlw w' M.fr⟩
    refine C.draw_of (fun w' => (∃ ov n, w'.heap[mb]? = some (.cells #[lv, sv, .map (some tb), ov, n] 72 (0, 0))) ∧ RdS w' lv 1 (intC l)) fun w1 hf1 he1 => ⟨hS0 w1 _ _ (hI.mv.keep hf1), ?_⟩
    have M1 := hI.mv.keep hf1
    simp only [C.ite_true, C.ite_false, C.pick_true, C.pick_false, C.not_bool, C.field_ptr, C.nilCheck_ptr, C.add_mk, C.sub_mk, C.mul_mk, C.eql_mk, C.neq_mk, C.lss_mk, C.leq_mk, C.gtr_mk, C.geq_mk, C.conv_mk, C.len_mk, C.ext_0, C.ext_1, C.ext3_0, C.ext3_1, C.ext3_2, C.guarded_yes, C.guarded_tf, C.guarded_ft, C.guarded_undef, Bool.not_true, Bool.not_false, Nat.zero_add, eq_self, decide_true, decide_false, and_true]
    refine C.idx_rdS (S := fun w' => (∃ ov n, w'.heap[mb]? = some (.cells #[lv, sv, .map (some tb), ov, n] 72 (0, 0))) ∧ RdS w' lv 1 (intC l)) (fun w' hw => hw.2) (hS0 w1 _ _ M1) (by omega) (by rw [Int.toNat_natCast]; exact intC_get hal) fun ga oa _ hs1 => ?_
    try simp only [C.ite_true, C.ite_false, C.pick_true, C.pick_false, C.not_bool, C.field_ptr, C.nilCheck_ptr, C.add_mk, C.sub_mk, C.mul_mk, C.eql_mk, C.neq_mk, C.lss_mk, C.leq_mk, C.gtr_mk, C.geq_mk, C.conv_mk, C.len_mk, C.ext_0, C.ext_1, C.ext3_0, C.ext3_1, C.ext3_2, C.guarded_yes, C.guarded_tf, C.guarded_ft, C.guarded_undef, Bool.not_true, Bool.not_false, Nat.zero_add, eq_self, decide_true, decide_false]
    refine C.load1S_of (v := .int .i64 (hdA m o[k])) (fun w' hw => by obtain ⟨cs, e, fz, x, y⟩ := hs1 w' hw; exact ⟨cs, e, fz, x, by rw [← hhd]; simpa using y 0 (by simp)⟩) ?_
    refine C.loadAS_of (vs := [lv, sv]) (fun w' hw => by obtain ⟨⟨ov', n, x⟩, _⟩ := hw; exact ⟨_, _, _, x, by simp, by simp⟩) ?_
    have htl : (layS m o (o.take k)).length ≤ 2048 := by
      rw [layS_len]
      have := (show Pls m (o.take k) from ⟨hI.pls.1.sublist (List.take_sublist _ _), fun p hp => hI.pls.2 p (List.mem_of_mem_take hp)⟩).sz hO
      omega
    have hfl := hOb.n
    have htv1 := hI.town.keep hf1 (by simp)
    have hbn := New.mk' w1 (.cells #[.int .i64 (hdA m o[k])] 2)
    have M2 := M1.keep hbn.fr
    refine C.run_of (bsW _) ⟨hS0 _ _ _ M2, ?_⟩
    refine C.appWs' (k := [hdA m o[k]]) (htv1.keep hbn.fr (by simp)) (RdS.of_block hbn.at_ rfl (by simp) (by simp) (by simp [intC]) (by simp [intC])) (by simp; omega) fun tv3 w3 ho3 hf3 hg3 => ?_
    have M3 := M2.keepS (htv1.keep hbn.fr (by simp)) (by decide) (by decide) hI.tn hf3
    refine ⟨hS0 _ _ _ M3, fields_c (hlw w3 M3.fr) hsv.one.2 hr hOb fun fv w4 hf4 hfv hfb => ?_⟩
    have M4 := M3.keep hf4
    have hoff : ∀ g ∈ mb :: tb :: blkS ov, g ∉ blkS fv := fun g hg c => by
      have h1 := hfb g c
      have h2 : g < Wb.heap.size := hlv.lt (fun e => by
        have h0 : (intC l).length = 0 := by rw [e]; rfl
        rw [intC_len] at h0
        omega) g h1
      obtain ⟨l1, l2, l3⟩ := M4.lo
      rcases List.mem_cons.1 hg with d | d
      · omega
      · rcases List.mem_cons.1 d with d | d
        · omega
        · have := M4.new g (mem_blkS.1 d); omega
    refine ⟨hS0 _ _ _ M4, moved_c hO hlen hlv hsv.one.2 hr hI.pls M4 hfv (hr.fs hO hp) (hC.fine _ (List.getElem_mem hp)) (by omega) (fun _ => hoff) fun nv ov5 w5 M5 hf5 hg5 hn5 ho5 => ⟨hS0 _ _ _ M5, ?_⟩⟩
    have tn3 : NewS Wb tv3 := fun g hg => by
      rcases hg3 g (mem_blkS.2 hg) with c | c
      · exact hI.tn g (mem_blkS.1 c)
      · have := M2.fr.size; omega
    have ho3' := (ho3.keep hf4 (by simp)).keep' hf5 (M4.off (ho3.keep hf4 (by simp)) (by decide) (by decide))
    refine C.appWs' (k := m[o[k]].fs.map (movW m (vis m o m[o[k]].fs))) ho3' ho5.rd (by simp; omega) fun tv6 w6 ho6 hf6 hg6 => ?_
    have M6 := M5.keepS ho3' (by decide) (by decide) tn3 hf6
    refine ⟨hS0 _ _ _ M6, ?_⟩
    refine F16.k8.to ?_
    simp only [C.ite_true, C.ite_false, C.pick_true, C.pick_false, C.not_bool, C.field_ptr, C.nilCheck_ptr, C.add_mk, C.sub_mk, C.mul_mk, C.eql_mk, C.neq_mk, C.lss_mk, C.leq_mk, C.gtr_mk, C.geq_mk, C.conv_mk, C.len_mk, C.ext_0, C.ext_1, C.ext3_0, C.ext3_1, C.ext3_2, C.guarded_yes, C.guarded_tf, C.guarded_ft, C.guarded_undef, Bool.not_true, Bool.not_false, Nat.zero_add, eq_self, decide_true, decide_false]
    rw [wrap64_id (n := (k : Int) + 1) (by omega), show (k : Int) + 1 = ((k + 1 : Nat) : Int) by omega]
    have hpre := vis_pre m (fsA m o[k]) o
    have hfs := fsA_get hp
    have hpl' := hI.pls.vis (fsA m o[k])
    rw [← hfs] at M6 ho6
    have hkk : (vis m o (fsA m o[k]))[k]? = some o[k] := by
      obtain ⟨t, ht⟩ := hpre
      rw [← ht, List.getElem?_append_left kl, List.getElem?_eq_getElem kl]
    have hdone : ∀ i p, i < k + 1 → (vis m o (fsA m o[k]))[i]? = some p → ∀ x ∈ fsA m p, ∀ q, wPl m x = some q → q ∈ vis m o (fsA m o[k]) := by
      intro i p hi hip x hx q hq
      have e : (vis m o (fsA m o[k]))[i]? = o[i]? := by
        obtain ⟨t, ht⟩ := hpre
        rw [← ht, List.getElem?_append_left (by omega)]
      rw [e] at hip
      by_cases c : i = k
      · subst c
        rw [List.getElem?_eq_getElem kl] at hip
        simp only [Option.some.injEq] at hip
        subst hip
        exact (vis_mem _).2 (.inr ⟨x, hx, hq⟩)
      · exact hpre.subset (hI.done i p (by omega) hip x hx q hq)
    have hroot : ∀ x ∈ roots, ∀ q, wPl m x = some q → q ∈ vis m o (fsA m o[k]) := fun x hx q hq => hpre.subset (hI.root x hx q hq)
    have ht6 : layS m (vis m o (fsA m o[k])) ((vis m o (fsA m o[k])).take (k + 1)) = layS m o (o.take k) ++ [hdA m o[k]] ++ (fsA m o[k]).map (movW m (vis m o (fsA m o[k]))) := by
      have e : (vis m o (fsA m o[k])).take (k + 1) = o.take k ++ [o[k]] := by
        obtain ⟨t, ht⟩ := hpre
        rw [← ht, List.take_append_of_le_length (by omega), List.take_add_one, List.getElem?_eq_getElem kl]
        rfl
      rw [e, layS_snoc, layS_pre hpre _ fun p hp x hx q hq => ?_]
      · simp
      · obtain ⟨i, hi, rfl⟩ := List.getElem_of_mem hp
        rw [List.length_take] at hi
        rw [List.getElem_take] at hx
        exact hI.done i _ (by omega) (List.getElem?_eq_getElem (by omega)) x hx q hq
    have hh6 : OwnS w6 hv 2 1 (intC (roots.map (movW m (vis m o (fsA m o[k]))))) := by
      have e : roots.map (movW m (vis m o (fsA m o[k]))) = roots.map (movW m o) := List.map_congr_left fun x hx => movW_pre hpre (hI.root x hx)
      rw [e]
      have h1 := hh.keep (hf1.trans hbn.fr) (by simp)
      have h3 := h1.keep' hf3 hd
      have h4 := h3.keep hf4 (by simp)
      have h5 := h4.keep' hf5 (M4.off h4 (by decide) (by decide))
      refine h5.keep' hf6 fun g hg c => ?_
      rcases hg3 g c with d | d
      · exact hd g hg d
      · have := h1.mem_lt g hg; omega
    refine ih (k + 1) w6 (vis m o (fsA m o[k])) ov5 tv6 (by omega) ?_ ⟨M6, hpl', ?_, ?_, hdone, hroot⟩ hh6 hn ?_
    · rw [← hb]
      conv => rhs; unfold bfs
      rw [List.getElem?_eq_getElem kl]
    · rw [ht6]
      exact ho6
    · intro g hg
      rcases hg6 g (mem_blkS.2 hg) with c | c
      · exact tn3 g (mem_blkS.1 c)
      · have := M5.fr.size; omega
    · intro g hg c
      rcases hg6 g c with d | d
      · rcases hg3 g d with e | e
        · exact hd g hg e
        · have := (hh.keep (hf1.trans hbn.fr) (by simp)).mem_lt g hg; omega
      · have := (hh.keep (hf1.trans hbn.fr) (by simp)).mem_lt g hg
        have := hf3.size; have := hf4.size; have := hf5.size; omega
theorem Copy_c {lv rv : Value} {l roots : List Int} (hl : RdS w lv 1 (intC l)) (hr : Rng l) (hrv : RdS w rv 1 (intC roots)) (hrr : Rng roots) (hrl : roots.length ≤ 17592186044415)
    (h1 : ∀ c m w', Cr l roots c m → c ≠ 0 → Fr [] w w' → K (.tuple #[.slice none 0 0, .slice none 0 0, .int .i64 c]) w')
    (h0 : ∀ m tv hv w', Cr l roots 0 m → Fr [] w w' → OwnS w' tv 2 1 (intC (lay m (ordO m roots))) → OwnS w' hv 2 1 (intC (roots.map (movW m (ordO m roots)))) → NewS w tv → NewS w hv → K (.tuple #[tv, hv, .int .i64 0]) w') :
    C.call Try.prog 16 #[lv, rv] w K := by
  refine F16.sh (start_c hl hr hrv hrr (fun c m w' hc c0 hf => ?_) (fun m w' hc hn hf => ?_) fun m sv mb tb Wb w1 hc hfr hfb hlb hrb hsb hM => ?_)
  · simp only [C.ite_true, C.ite_false, C.pick_true, C.pick_false, C.not_bool, C.field_ptr, C.nilCheck_ptr, C.add_mk, C.sub_mk, C.mul_mk, C.eql_mk, C.neq_mk, C.lss_mk, C.leq_mk, C.gtr_mk, C.geq_mk, C.conv_mk, C.len_mk, C.ext_0, C.ext_1, C.ext3_0, C.ext3_1, C.ext3_2, C.guarded_yes, C.guarded_tf, C.guarded_ft, C.guarded_undef, Bool.not_true, Bool.not_false, Nat.zero_add, eq_self, decide_true, decide_false, ne_eq, c0, not_false_eq_true]
    exact h1 c m w' (.inl ⟨hc, c0⟩) c0 hf
  · simp only [C.ite_true, C.ite_false, C.pick_true, C.pick_false, C.not_bool, C.field_ptr, C.nilCheck_ptr, C.add_mk, C.sub_mk, C.mul_mk, C.eql_mk, C.neq_mk, C.lss_mk, C.leq_mk, C.gtr_mk, C.geq_mk, C.conv_mk, C.len_mk, C.ext_0, C.ext_1, C.ext3_0, C.ext3_1, C.ext3_2, C.guarded_yes, C.guarded_tf, C.guarded_ft, C.guarded_undef, Bool.not_true, Bool.not_false, Nat.zero_add, eq_self, decide_true, decide_false, ne_eq, show ¬ (4 : Int) = 0 by decide, not_false_eq_true]
    exact h1 4 m w' (.inr (.inl ⟨rfl, hc, hn⟩)) (by decide) hf
  · have hcr : Cr l roots 0 m := .inr (.inr ⟨rfl, hc, hfr⟩)
    have hO := hcr.opn
    simp only [C.ite_true, C.ite_false, C.pick_true, C.pick_false, C.not_bool, C.field_ptr, C.nilCheck_ptr, C.add_mk, C.sub_mk, C.mul_mk, C.eql_mk, C.neq_mk, C.lss_mk, C.leq_mk, C.gtr_mk, C.geq_mk, C.conv_mk, C.len_mk, C.ext_0, C.ext_1, C.ext3_0, C.ext3_1, C.ext3_2, C.guarded_yes, C.guarded_tf, C.guarded_ft, C.guarded_undef, Bool.not_true, Bool.not_false, Nat.zero_add, eq_self, decide_true, decide_false, ne_eq, not_true_eq_false]
    have hoff : roots ≠ [] → ∀ g ∈ mb :: tb :: blkS (.slice none 0 0), g ∉ blkS rv := fun hne g hg c => by
      have := hrb.lt (fun e => hne (by cases roots with | nil => rfl | cons x t => simp [intC] at e)) g c
      obtain ⟨l1, l2, l3⟩ := hM.lo
      rcases List.mem_cons.1 hg with d | d
      · omega
      · rcases List.mem_cons.1 d with d | d
        · omega
        · simp [blkS, Value.ownBlock] at d
    refine F16.k4.to (moved_c hO.spl hO.few hlb hsb.one.2 hr (Pls.nil m) hM (hrb.keep hM.fr) hrr hfr hrl hoff fun hv ov w2 M2 hf2 hg2 hn2 ho2 => ?_)
    have hz := M2.fr.size
    have hsz1 := hM.fr.size
    refine Copy_loop hO hlb hsb hr (fun tv w3 hf3 ho3 hh3 hn3 => h0 m tv hv w3 hcr (hfb.trans hf3) ho3 hh3 (hn3.mono hfb.size) (hn2.mono (by have := hfb.size; omega))) (m.length + 1) 0 w2 (vis m [] roots) ov (.slice none 0 0) (by omega) rfl ⟨M2, (Pls.nil m).vis _, ?_, NewS.nil _, fun i p hi => by omega, fun x hx q hq => (vis_mem _).2 (.inr ⟨x, hx, hq⟩)⟩ ho2 (hn2.mono hsz1) fun g hg c => by simp [blkS, Value.ownBlock] at c
    simp only [List.take_zero, layS, List.flatMap_nil]
    exact OwnS.nil _ _ _
end
end Go.Proofs.YtfjilngljnlkjaaV
namespace Go.Proofs.YtfjilngljnlkjaaV
open Go Go.Proofs Go.RowKit
set_option linter.unusedVariables false
set_option linter.unusedSimpArgs false
set_option maxRecDepth 10000
/-! ### 1. Objects in memory -/
def obC (m : List Ob) (fs : List Value) : List (List Value) := List.zipWith (fun o f => [.int .i64 (o.at_ : Int), .int .i64 o.ser, f]) m fs
theorem obC_len {m : List Ob} {fs : List Value} (h : fs.length = m.length) : (obC m fs).length = m.length := by simp [obC, h]
theorem obC_get {m : List Ob} {fs : List Value} {j : Nat} (h : j < m.length) (h' : j < fs.length) : (obC m fs)[j]? = some [.int .i64 (m[j].at_ : Int), .int .i64 m[j].ser, fs[j]] := by
  simp [obC, List.getElem?_zipWith, List.getElem?_eq_getElem h, List.getElem?_eq_getElem h']
theorem obC_snoc {m : List Ob} {fs : List Value} (h : fs.length = m.length) (o : Ob) (f : Value) : obC (m ++ [o]) (fs ++ [f]) = obC m fs ++ [[.int .i64 (o.at_ : Int), .int .i64 o.ser, f]] := by
  unfold obC
  rw [List.zipWith_append h.symm]
  rfl
structure ObsAt (w : World) (mv : Value) (m : List Ob) (fs : List Value) : Prop where
  len : fs.length = m.length
  rd : RdS w mv 3 (obC m fs)
  fld : ∀ i (h : i < m.length) (h' : i < fs.length), RdS w fs[i] 1 (intC m[i].fs)
theorem ObsAt.keep {w w' : World} {mv : Value} {m : List Ob} {fs : List Value} (h : ObsAt w mv m fs) (hf : Fr [] w w') : ObsAt w' mv m fs := ⟨h.len, h.rd.keep hf, fun i a b => (h.fld i a b).keep hf⟩
theorem ObsAt.le {w : World} {mv : Value} {m : List Ob} {fs : List Value} (h : ObsAt w mv m fs) : m.length ≤ 9223372036854775807 := by
  have := h.rd.le
  rwa [obC_len h.len] at this
section
variable {K : VK} {w : World}
theorem ObsAt.lenC {mv : Value} {m : List Ob} {fs : List Value} (h : ObsAt w mv m fs) {w1 : World} (hk : K (.int .i64 (m.length : Int)) w1) : C.len mv w1 K := by
  obtain ⟨A, c, rfl, _⟩ := h.rd
  rw [obC_len h.len]
  simpa only [C.len_mk] using hk
/-- An object's cells. -/
theorem ObsAt.get {mv : Value} {m : List Ob} {fs : List Value} {j : Nat} (h : ObsAt w mv m fs) (hj : j < m.length)
    (hk : ∀ g o cs e fz fv, w.heap[g]? = some (.cells cs e fz) → cs[o]? = some (.int .i64 (m[j].at_ : Int)) → cs[o + 1]? = some (.int .i64 m[j].ser) → cs[o + 2]? = some fv → RdS w fv 1 (intC m[j].fs) → K (.pointer (some ⟨g, o, none⟩)) w) :
    C.idx 3 mv (.int .i64 (j : Int)) w K := by
  have hj' : j < fs.length := by rw [h.len]; exact hj
  refine C.idx_rd h.rd (by omega) (by rw [Int.toNat_natCast]; exact obC_get hj hj') fun g o cs e fz hg _ hc => hk g o cs e fz fs[j] hg ?_ ?_ ?_ (h.fld j hj hj')
  · simpa using hc 0 (by omega)
  · simpa using hc 1 (by omega)
  · simpa using hc 2 (by omega)
theorem bOb (a s : Int) (A : Option Addr) (n c : Nat) : (Instr.build 32 #[(0, .int .i64 a), (1, .int .i64 s), (2, .slice A n c)]).run Try.prog w = .ok (.agg #[.int .i64 a, .int .i64 s, .slice A n c]) w := by kernel_rfl
theorem bsOb (a s : Int) (A : Option Addr) (n c : Nat) : (Instr.buildSlice 28 1 #[(0, .agg #[.int .i64 a, .int .i64 s, .slice A n c])]).run Try.prog w = .ok (.slice (some ⟨w.heap.size, 0, none⟩) 1 1) (w.alloc (.cells #[.int .i64 a, .int .i64 s, .slice A n c] 32)) := by kernel_rfl
/-! ### 2. Split -/
structure RI (W0 w : World) (mv : Value) (m : List Ob) (fs : List Value) : Prop where
  fr : Fr [] W0 w
  len : fs.length = m.length
  own : OwnS w mv 32 3 (obC m fs)
  new : NewS W0 mv
  fld : ∀ i (h : i < m.length) (h' : i < fs.length), RdS W0 fs[i] 1 (intC m[i].fs)
theorem RI.obs {W0 w : World} {mv : Value} {m : List Ob} {fs : List Value} (h : RI W0 w mv m fs) : ObsAt w mv m fs := ⟨h.len, h.own.rd, fun i a b => (h.fld i a b).keep h.fr⟩
theorem RSplit_loop {W0 : World} {lv : Value} {l : List Int} (hl : RdS W0 lv 1 (intC l)) (hr : Rng l) (hlen : l.length ≤ 2048)
    (hb : ∀ w', Fr [] W0 w' → (¬ ∃ m, Spl 0 l m ∧ fineM m) → K (.tuple #[.slice none 0 0, .bool false]) w') (h0 : ∀ m fs mv w', Spl 0 l m → RI W0 w' mv m fs → K (.tuple #[mv, .bool true]) w') :
    ∀ (d at_ : Nat) (w : World) (mv : Value) (m : List Ob) (fs : List Value), l.length ≤ at_ + d → RI W0 w mv m fs → SI l at_ m → F32.l3 K lv mv (.int .i64 (at_ : Int)) w := by
  have fin : ∀ (at_ : Nat) (w : World) (mv : Value) (m : List Ob) (fs : List Value), l.length = at_ → RI W0 w mv m fs → SI l at_ m → F32.l3 K lv mv (.int .i64 (at_ : Int)) w := by
    intro at_ w mv m fs ha hI hs
    subst ha
    refine F32.l3.to (C.len_rd (hl.keep hI.fr) ?_)
    rw [intC_len]
    simp only [C.ite_true, C.ite_false, C.pick_true, C.pick_false, C.not_bool, C.field_ptr, C.nilCheck_ptr, C.add_mk, C.sub_mk, C.mul_mk, C.eql_mk, C.neq_mk, C.lss_mk, C.leq_mk, C.gtr_mk, C.geq_mk, C.conv_mk, C.len_mk, C.ext_0, C.ext_1, C.ext3_0, C.ext3_1, C.ext3_2, C.guarded_yes, C.guarded_tf, C.guarded_ft, C.guarded_undef, Bool.not_true, Bool.not_false, Nat.zero_add, eq_self, decide_true, decide_false, show ¬ ((l.length : Int) < (l.length : Int)) by omega]
    exact F32.k10.to (h0 m fs mv w hs.done hI)
  intro d
  induction d with
  | zero => exact fun at_ w mv m fs ha hI hs => fin at_ w mv m fs (by have := hs.le; omega) hI hs
  | succ d ih =>
    intro at_ w mv m fs ha hI hs
    by_cases hend : l.length = at_
    · exact fin at_ w mv m fs hend hI hs
    have hle := hs.le
    have hal : at_ < l.length := by omega
    have hml := hs.len
    have hrx := hr l[at_] (List.getElem_mem hal)
    have hlw := hl.keep hI.fr
    refine F32.l3.to (C.len_rd hlw ?_)
    rw [intC_len]
    simp only [C.ite_true, C.ite_false, C.pick_true, C.pick_false, C.not_bool, C.field_ptr, C.nilCheck_ptr, C.add_mk, C.sub_mk, C.mul_mk, C.eql_mk, C.neq_mk, C.lss_mk, C.leq_mk, C.gtr_mk, C.geq_mk, C.conv_mk, C.len_mk, C.ext_0, C.ext_1, C.ext3_0, C.ext3_1, C.ext3_2, C.guarded_yes, C.guarded_tf, C.guarded_ft, C.guarded_undef, Bool.not_true, Bool.not_false, Nat.zero_add, eq_self, decide_true, decide_false, show ((at_ : Int) < (l.length : Int)) by omega]
    refine F32.k4.to (C.idx_int hlw hal fun g o cs e fz hg hv => C.load1_of hg hv ?_)
    have bad : ¬ okHd l[at_] (l.length - at_) → K (.tuple #[.slice none 0 0, .bool false]) w := fun h => hb w hI.fr (hs.bad hal h)
    by_cases c1 : l[at_] < 0
    · simp only [C.ite_true, C.ite_false, C.pick_true, C.pick_false, C.not_bool, C.field_ptr, C.nilCheck_ptr, C.add_mk, C.sub_mk, C.mul_mk, C.eql_mk, C.neq_mk, C.lss_mk, C.leq_mk, C.gtr_mk, C.geq_mk, C.conv_mk, C.len_mk, C.ext_0, C.ext_1, C.ext3_0, C.ext3_1, C.ext3_2, C.guarded_yes, C.guarded_tf, C.guarded_ft, C.guarded_undef, Bool.not_true, Bool.not_false, Nat.zero_add, eq_self, decide_true, decide_false, c1]
      exact bad fun h => by unfold okHd at h; omega
    · by_cases c2 : l[at_] ≥ 140737488355328
      · simp only [C.ite_true, C.ite_false, C.pick_true, C.pick_false, C.not_bool, C.field_ptr, C.nilCheck_ptr, C.add_mk, C.sub_mk, C.mul_mk, C.eql_mk, C.neq_mk, C.lss_mk, C.leq_mk, C.gtr_mk, C.geq_mk, C.conv_mk, C.len_mk, C.ext_0, C.ext_1, C.ext3_0, C.ext3_1, C.ext3_2, C.guarded_yes, C.guarded_tf, C.guarded_ft, C.guarded_undef, Bool.not_true, Bool.not_false, Nat.zero_add, eq_self, decide_true, decide_false, c1, c2]
        exact bad fun h => by unfold okHd at h; omega
      · have em : l[at_].tmod 128 = l[at_] % 128 := by rw [Int.tmod_eq_emod_of_nonneg (by omega)]
        have et : l[at_].tdiv 128 = l[at_] / 128 := Int.tdiv_eq_ediv_of_nonneg (by omega)
        simp only [C.ite_true, C.ite_false, C.pick_true, C.pick_false, C.not_bool, C.field_ptr, C.nilCheck_ptr, C.add_mk, C.sub_mk, C.mul_mk, C.eql_mk, C.neq_mk, C.lss_mk, C.leq_mk, C.gtr_mk, C.geq_mk, C.conv_mk, C.len_mk, C.ext_0, C.ext_1, C.ext3_0, C.ext3_1, C.ext3_2, C.guarded_yes, C.guarded_tf, C.guarded_ft, C.guarded_undef, Bool.not_true, Bool.not_false, Nat.zero_add, eq_self, decide_true, decide_false, c1, c2]
        refine ⟨_, rem_run _ _ _ _ (by decide), C.len_rd hlw ?_⟩
        rw [intC_len, em]
        simp only [C.ite_true, C.ite_false, C.pick_true, C.pick_false, C.not_bool, C.field_ptr, C.nilCheck_ptr, C.add_mk, C.sub_mk, C.mul_mk, C.eql_mk, C.neq_mk, C.lss_mk, C.leq_mk, C.gtr_mk, C.geq_mk, C.conv_mk, C.len_mk, C.ext_0, C.ext_1, C.ext3_0, C.ext3_1, C.ext3_2, C.guarded_yes, C.guarded_tf, C.guarded_ft, C.guarded_undef, Bool.not_true, Bool.not_false, Nat.zero_add, eq_self, decide_true, decide_false]
        rw [wrap64_id (n := (l.length : Int) - (at_ : Int)) (by omega)]
        by_cases c3 : l[at_] % 128 ≥ (l.length : Int) - (at_ : Int)
        · simp only [C.ite_true, C.ite_false, C.pick_true, C.pick_false, C.not_bool, C.field_ptr, C.nilCheck_ptr, C.add_mk, C.sub_mk, C.mul_mk, C.eql_mk, C.neq_mk, C.lss_mk, C.leq_mk, C.gtr_mk, C.geq_mk, C.conv_mk, C.len_mk, C.ext_0, C.ext_1, C.ext3_0, C.ext3_1, C.ext3_2, C.guarded_yes, C.guarded_tf, C.guarded_ft, C.guarded_undef, Bool.not_true, Bool.not_false, Nat.zero_add, eq_self, decide_true, decide_false, c3]
          exact bad fun h => by unfold okHd at h; omega
        · simp only [C.ite_true, C.ite_false, C.pick_true, C.pick_false, C.not_bool, C.field_ptr, C.nilCheck_ptr, C.add_mk, C.sub_mk, C.mul_mk, C.eql_mk, C.neq_mk, C.lss_mk, C.leq_mk, C.gtr_mk, C.geq_mk, C.conv_mk, C.len_mk, C.ext_0, C.ext_1, C.ext3_0, C.ext3_1, C.ext3_2, C.guarded_yes, C.guarded_tf, C.guarded_ft, C.guarded_undef, Bool.not_true, Bool.not_false, Nat.zero_add, eq_self, decide_true, decide_false, c3]
          have ok : okHd l[at_] (l.length - at_) := by unfold okHd; omega
          have hs1 := hs.step hal ok
          have hle1 := hs1.le
          refine F32.k7.to ⟨_, rem_run _ _ _ _ (by decide), _, quo_run _ _ _ _ (by decide), ?_⟩
          rw [em, et]
          simp only [C.ite_true, C.ite_false, C.pick_true, C.pick_false, C.not_bool, C.field_ptr, C.nilCheck_ptr, C.add_mk, C.sub_mk, C.mul_mk, C.eql_mk, C.neq_mk, C.lss_mk, C.leq_mk, C.gtr_mk, C.geq_mk, C.conv_mk, C.len_mk, C.ext_0, C.ext_1, C.ext3_0, C.ext3_1, C.ext3_2, C.guarded_yes, C.guarded_tf, C.guarded_ft, C.guarded_undef, Bool.not_true, Bool.not_false, Nat.zero_add, eq_self, decide_true, decide_false]
          rw [wrap64_id (n := l[at_] / 128) (by omega), wrap64_id (n := (at_ : Int) + 1) (by omega), wrap64_id (n := (at_ : Int) + 1 + l[at_] % 128) (by omega)]
          have en : (at_ : Int) + 1 + l[at_] % 128 = ((at_ + 1 + (l[at_] % 128).toNat : Nat) : Int) := by omega
          rw [en, show (at_ : Int) + 1 = ((at_ + 1 : Nat) : Int) by omega]
          refine C.mid_of hl Try.underlying22 (by kernel_rfl : szOf Try.prog 2 = some 1) (by omega) (by rw [intC_len]; omega) fun fv hfv _ => ?_
          have efs : ((intC l).drop (at_ + 1)).take (at_ + 1 + (l[at_] % 128).toNat - (at_ + 1)) = intC ((l.drop (at_ + 1)).take (l[at_] % 128).toNat) := by
            rw [show at_ + 1 + (l[at_] % 128).toNat - (at_ + 1) = (l[at_] % 128).toNat by omega]
            simp [intC, List.map_take, List.map_drop]
          rw [efs] at hfv
          have hfv0 := hfv
          obtain ⟨A, cc, rfl, q1, q2, q3⟩ := hfv
          refine C.run_of (bOb _ _ _ _ _) ?_
          refine C.app1 (W0 := W0) (x := [.int .i64 (at_ : Int), .int .i64 (l[at_] / 128), .slice A (intC ((l.drop (at_ + 1)).take (l[at_] % 128).toNat)).length cc]) (e := 32) (sz := 3) (bytes := 40) (z := .agg #[.int .i64 0, .int .i64 0, .slice none 0 0]) Try.underlying28 (by kernel_rfl) rfl (by decide) (bsOb _ _ _ _ _) rfl (by simp [Value.oneCell']) hI.fr hI.new hI.own (by rw [obC_len hI.len]; omega) (by rw [obC_len hI.len]; omega) fun mv' w1 hf1 hn1 ho1 _ _ => ?_
          try simp only [C.ite_true, C.ite_false, C.pick_true, C.pick_false, C.not_bool, C.field_ptr, C.nilCheck_ptr, C.add_mk, C.sub_mk, C.mul_mk, C.eql_mk, C.neq_mk, C.lss_mk, C.leq_mk, C.gtr_mk, C.geq_mk, C.conv_mk, C.len_mk, C.ext_0, C.ext_1, C.ext3_0, C.ext3_1, C.ext3_2, C.guarded_yes, C.guarded_tf, C.guarded_ft, C.guarded_undef, Bool.not_true, Bool.not_false, Nat.zero_add, eq_self, decide_true, decide_false]
          refine ih _ w1 mv' _ (fs ++ [_]) (by omega) ⟨hf1, by simp [hI.len], by rw [obC_snoc hI.len]; exact ho1, hn1, fun i a b => ?_⟩ hs1
          by_cases c : i < m.length
          · have c' : i < fs.length := by rw [hI.len]; exact c
            rw [List.getElem_append_left c, List.getElem_append_left c']
            exact hI.fld i c c'
          · have ei : i = m.length := by simp at a; omega
            have ei' : i = fs.length := by rw [hI.len]; exact ei
            rw [List.getElem_append_right (by omega), List.getElem_append_right (by omega)]
            simp only [ei', Nat.sub_self, hI.len, List.getElem_cons_zero]
            exact hfv0
theorem RSplit_c {lv : Value} {l : List Int} (hl : RdS w lv 1 (intC l)) (hr : Rng l) (hlen : l.length ≤ 2048)
    (hb : ∀ w', Fr [] w w' → (¬ ∃ m, Spl 0 l m ∧ fineM m) → K (.tuple #[.slice none 0 0, .bool false]) w') (h0 : ∀ m fs mv w', Spl 0 l m → RI w w' mv m fs → K (.tuple #[mv, .bool true]) w') : C.call Try.prog 32 #[lv] w K :=
  F32.sh (RSplit_loop hl hr hlen hb h0 l.length 0 w (.slice none 0 0) [] [] (by omega) ⟨Fr.refl _ _, rfl, OwnS.nil _ _ _, NewS.nil _, fun i a b => by simp at a⟩ (SI.start l))
/-! ### 3. Find, Fine, Open -/
def plI (m : List Ob) (a : Nat) : Int := match pl m a with
  | some p => (p : Int)
  | none => -1
theorem Find_loop {mv : Value} {m : List Ob} {fs : List Value} {a : Nat} (hM : ObsAt w mv m fs) (h : K (.int .i64 (plI m a)) w) :
    ∀ (d j : Nat), m.length = j + d → (∀ i (hi : i < m.length), i < j → m[i].at_ ≠ a) → F37.l2 K mv (.int .i64 (a : Int)) (.int .i64 (j : Int)) w := by
  have hle := hM.le
  intro d
  induction d with
  | zero =>
    intro j hj hn
    refine F37.l2.to (hM.lenC ?_)
    simp only [C.ite_true, C.ite_false, C.pick_true, C.pick_false, C.not_bool, C.field_ptr, C.nilCheck_ptr, C.add_mk, C.sub_mk, C.mul_mk, C.eql_mk, C.neq_mk, C.lss_mk, C.leq_mk, C.gtr_mk, C.geq_mk, C.conv_mk, C.len_mk, C.ext_0, C.ext_1, C.ext3_0, C.ext3_1, C.ext3_2, C.guarded_yes, C.guarded_tf, C.guarded_ft, C.guarded_undef, Bool.not_true, Bool.not_false, Nat.zero_add, eq_self, decide_true, decide_false, show ¬ ((j : Int) < (m.length : Int)) by omega]
    have : pl m a = none := pl_none.2 fun o ho => by
      obtain ⟨i, hi, rfl⟩ := List.getElem_of_mem ho
      exact hn i hi (by omega)
    unfold plI at h
    rw [this] at h
    exact F37.k6.to h
  | succ d ih =>
    intro j hj hn
    have jl : j < m.length := by omega
    refine F37.l2.to (hM.lenC ?_)
    simp only [C.ite_true, C.ite_false, C.pick_true, C.pick_false, C.not_bool, C.field_ptr, C.nilCheck_ptr, C.add_mk, C.sub_mk, C.mul_mk, C.eql_mk, C.neq_mk, C.lss_mk, C.leq_mk, C.gtr_mk, C.geq_mk, C.conv_mk, C.len_mk, C.ext_0, C.ext_1, C.ext3_0, C.ext3_1, C.ext3_2, C.guarded_yes, C.guarded_tf, C.guarded_ft, C.guarded_undef, Bool.not_true, Bool.not_false, Nat.zero_add, eq_self, decide_true, decide_false, show ((j : Int) < (m.length : Int)) by omega]
    refine F37.k4.to (hM.get jl fun g o cs e fz fv hg h0 h1 h2 hf => ?_)
    simp only [C.ite_true, C.ite_false, C.pick_true, C.pick_false, C.not_bool, C.field_ptr, C.nilCheck_ptr, C.add_mk, C.sub_mk, C.mul_mk, C.eql_mk, C.neq_mk, C.lss_mk, C.leq_mk, C.gtr_mk, C.geq_mk, C.conv_mk, C.len_mk, C.ext_0, C.ext_1, C.ext3_0, C.ext3_1, C.ext3_2, C.guarded_yes, C.guarded_tf, C.guarded_ft, C.guarded_undef, Bool.not_true, Bool.not_false, Nat.zero_add, eq_self, decide_true, decide_false]
    refine C.load1_of hg (by simpa using h0) ?_
    by_cases c : m[j].at_ = a
    · simp only [C.ite_true, C.ite_false, C.pick_true, C.pick_false, C.not_bool, C.field_ptr, C.nilCheck_ptr, C.add_mk, C.sub_mk, C.mul_mk, C.eql_mk, C.neq_mk, C.lss_mk, C.leq_mk, C.gtr_mk, C.geq_mk, C.conv_mk, C.len_mk, C.ext_0, C.ext_1, C.ext3_0, C.ext3_1, C.ext3_2, C.guarded_yes, C.guarded_tf, C.guarded_ft, C.guarded_undef, Bool.not_true, Bool.not_false, Nat.zero_add, eq_self, decide_true, decide_false, show (m[j].at_ : Int) = (a : Int) by omega]
      have : pl m a = some j := by
        unfold pl
        rw [List.findIdx?_eq_some_iff_getElem]
        exact ⟨jl, by simpa using c, fun i hi => by simpa using hn i (by omega) hi⟩
      unfold plI at h
      rw [this] at h
      exact h
    · simp only [C.ite_true, C.ite_false, C.pick_true, C.pick_false, C.not_bool, C.field_ptr, C.nilCheck_ptr, C.add_mk, C.sub_mk, C.mul_mk, C.eql_mk, C.neq_mk, C.lss_mk, C.leq_mk, C.gtr_mk, C.geq_mk, C.conv_mk, C.len_mk, C.ext_0, C.ext_1, C.ext3_0, C.ext3_1, C.ext3_2, C.guarded_yes, C.guarded_tf, C.guarded_ft, C.guarded_undef, Bool.not_true, Bool.not_false, Nat.zero_add, eq_self, decide_true, decide_false, show ¬ (m[j].at_ : Int) = (a : Int) by omega]
      refine F37.k3.to ?_
      simp only [C.ite_true, C.ite_false, C.pick_true, C.pick_false, C.not_bool, C.field_ptr, C.nilCheck_ptr, C.add_mk, C.sub_mk, C.mul_mk, C.eql_mk, C.neq_mk, C.lss_mk, C.leq_mk, C.gtr_mk, C.geq_mk, C.conv_mk, C.len_mk, C.ext_0, C.ext_1, C.ext3_0, C.ext3_1, C.ext3_2, C.guarded_yes, C.guarded_tf, C.guarded_ft, C.guarded_undef, Bool.not_true, Bool.not_false, Nat.zero_add, eq_self, decide_true, decide_false]
      rw [wrap64_id (n := (j : Int) + 1) (by omega), show (j : Int) + 1 = ((j + 1 : Nat) : Int) by omega]
      refine ih (j + 1) (by omega) fun i hi hij => ?_
      by_cases e : i = j
      · subst e; exact c
      · exact hn i hi (by omega)
theorem Find_c {mv : Value} {m : List Ob} {fs : List Value} {a : Nat} (hM : ObsAt w mv m fs) (h : K (.int .i64 (plI m a)) w) : C.call Try.prog 37 #[mv, .int .i64 (a : Int)] w K :=
  F37.sh (Find_loop hM h m.length 0 (by omega) fun i hi hij => by omega)
/-- A word read into a block. -/
theorem readPut {k n : Int} {F : Value → World → Prop} (hk : ∀ b w', Fr [] w w' → w.heap.size ≤ b → w'.heap[b]? = some (vB k n) → F (.pointer (some ⟨b, 0, none⟩)) w') : C.new (.cells #[.int .i64 0, .int .i64 0] 75) w fun x w1 => C.store 2 x (V k n) w1 fun w2 => F x w2 := by
  refine C.new_of fun b w1 hn => C.store_all hn.at_ rfl v2_cells rfl fun w2 hu => ?_
  have i := hn.is
  exact hk b w2 (hn.fr.then hu.fr fun z hz => .inr (by simp only [List.mem_singleton] at hz; omega)) (by omega) hu.at_
theorem Fine_loop {W0 : World} {mv wv : Value} {m : List Ob} {fs : List Value} {ws : List Int} (hM : ObsAt W0 mv m fs) (hws : RdS W0 wv 1 (intC ws)) (hr : Rng ws) (h : ∀ w', Fr [] W0 w' → K (.bool (ws.all (fineW m))) w') :
    ∀ (d j : Nat) (w : World), ws.length = j + d → Fr [] W0 w → (∀ i (hi : i < ws.length), i < j → fineW m ws[i] = true) → F17.l2 K mv wv (.int .i64 (j : Int)) w := by
  have hle := hws.le
  rw [intC_len] at hle
  intro d
  induction d with
  | zero =>
    intro j w hj hf hn
    refine F17.l2.to (C.len_rd hws ?_)
    rw [intC_len]
    simp only [C.ite_true, C.ite_false, C.pick_true, C.pick_false, C.not_bool, C.field_ptr, C.nilCheck_ptr, C.add_mk, C.sub_mk, C.mul_mk, C.eql_mk, C.neq_mk, C.lss_mk, C.leq_mk, C.gtr_mk, C.geq_mk, C.conv_mk, C.len_mk, C.ext_0, C.ext_1, C.ext3_0, C.ext3_1, C.ext3_2, C.guarded_yes, C.guarded_tf, C.guarded_ft, C.guarded_undef, Bool.not_true, Bool.not_false, Nat.zero_add, eq_self, decide_true, decide_false, show ¬ ((j : Int) < (ws.length : Int)) by omega]
    have : ws.all (fineW m) = true := List.all_eq_true.2 fun x hx => by
      obtain ⟨i, hi, rfl⟩ := List.getElem_of_mem hx
      exact hn i hi (by omega)
    have hk := h w hf
    rw [this] at hk
    exact F17.k7.to hk
  | succ d ih =>
    intro j w hj hf hn
    have jl : j < ws.length := by omega
    refine F17.l2.to (C.len_rd hws ?_)
    rw [intC_len]
    simp only [C.ite_true, C.ite_false, C.pick_true, C.pick_false, C.not_bool, C.field_ptr, C.nilCheck_ptr, C.add_mk, C.sub_mk, C.mul_mk, C.eql_mk, C.neq_mk, C.lss_mk, C.leq_mk, C.gtr_mk, C.geq_mk, C.conv_mk, C.len_mk, C.ext_0, C.ext_1, C.ext3_0, C.ext3_1, C.ext3_2, C.guarded_yes, C.guarded_tf, C.guarded_ft, C.guarded_undef, Bool.not_true, Bool.not_false, Nat.zero_add, eq_self, decide_true, decide_false, show ((j : Int) < (ws.length : Int)) by omega]
    have bad : ∀ w', Fr [] w w' → fineW m ws[j] = false → K (.bool false) w' := fun w' hf' hb => by
      have : ws.all (fineW m) = false := by
        rw [List.all_eq_false]
        exact ⟨ws[j], List.getElem_mem jl, by simp [hb]⟩
      have hk := h w' (hf.trans hf')
      rwa [this] at hk
    have good : ∀ w', Fr [] w w' → fineW m ws[j] = true → F17.k3 K mv wv (.int .i64 (j : Int)) w' := fun w' hf' hg => by
      refine F17.k3.to ?_
      simp only [C.ite_true, C.ite_false, C.pick_true, C.pick_false, C.not_bool, C.field_ptr, C.nilCheck_ptr, C.add_mk, C.sub_mk, C.mul_mk, C.eql_mk, C.neq_mk, C.lss_mk, C.leq_mk, C.gtr_mk, C.geq_mk, C.conv_mk, C.len_mk, C.ext_0, C.ext_1, C.ext3_0, C.ext3_1, C.ext3_2, C.guarded_yes, C.guarded_tf, C.guarded_ft, C.guarded_undef, Bool.not_true, Bool.not_false, Nat.zero_add, eq_self, decide_true, decide_false]
      rw [wrap64_id (n := (j : Int) + 1) (by omega), show (j : Int) + 1 = ((j + 1 : Nat) : Int) by omega]
      refine ih (j + 1) w' (by omega) (hf.trans hf') fun i hi hij => ?_
      by_cases e : i = j
      · subst e; exact hg
      · exact hn i hi (by omega)
    refine F17.k4.to (C.idx_int (hws.keep hf) jl fun g o cs e fz hg hv => C.load1_of hg hv (RefRead_c _ (hr _ (List.getElem_mem jl)) (fun hc w1 hf1 => ?_) (fun hc w1 hf1 => ?_)))
    · have ok : okW ws[j] = true := by simp [okW, hc]
      simp only [C.ite_true, C.ite_false, C.pick_true, C.pick_false, C.not_bool, C.field_ptr, C.nilCheck_ptr, C.add_mk, C.sub_mk, C.mul_mk, C.eql_mk, C.neq_mk, C.lss_mk, C.leq_mk, C.gtr_mk, C.geq_mk, C.conv_mk, C.len_mk, C.ext_0, C.ext_1, C.ext3_0, C.ext3_1, C.ext3_2, C.guarded_yes, C.guarded_tf, C.guarded_ft, C.guarded_undef, Bool.not_true, Bool.not_false, Nat.zero_add, eq_self, decide_true, decide_false]
      refine readPut fun b w2 hf2 _ hb => ?_
      have f2 := hf1.trans hf2
      try simp only [C.ite_true, C.ite_false, C.pick_true, C.pick_false, C.not_bool, C.field_ptr, C.nilCheck_ptr, C.add_mk, C.sub_mk, C.mul_mk, C.eql_mk, C.neq_mk, C.lss_mk, C.leq_mk, C.gtr_mk, C.geq_mk, C.conv_mk, C.len_mk, C.ext_0, C.ext_1, C.ext3_0, C.ext3_1, C.ext3_2, C.guarded_yes, C.guarded_tf, C.guarded_ft, C.guarded_undef, Bool.not_true, Bool.not_false, Nat.zero_add, eq_self, decide_true, decide_false]
      refine C.load1_of (v := .int .i64 (rdK ws[j])) hb rfl ?_
      by_cases k2 : rdK ws[j] = 2
      · have hw : wRef ws[j] = some (rdN ws[j]).toNat := by unfold wRef; rw [if_pos ⟨hc, k2⟩]
        have hn2 := (wRef_ok hw).2.2
        simp only [C.ite_true, C.ite_false, C.pick_true, C.pick_false, C.not_bool, C.field_ptr, C.nilCheck_ptr, C.add_mk, C.sub_mk, C.mul_mk, C.eql_mk, C.neq_mk, C.lss_mk, C.leq_mk, C.gtr_mk, C.geq_mk, C.conv_mk, C.len_mk, C.ext_0, C.ext_1, C.ext3_0, C.ext3_1, C.ext3_2, C.guarded_yes, C.guarded_tf, C.guarded_ft, C.guarded_undef, Bool.not_true, Bool.not_false, Nat.zero_add, eq_self, decide_true, decide_false, k2]
        refine C.load1_of (v := .int .i64 (rdN ws[j])) hb rfl ?_
        rw [hn2]
        refine Find_c (hM.keep (hf.trans f2)) ?_
        unfold plI
        cases hp : pl m (rdN ws[j]).toNat with
        | none =>
          simp only [C.ite_true, C.ite_false, C.pick_true, C.pick_false, C.not_bool, C.field_ptr, C.nilCheck_ptr, C.add_mk, C.sub_mk, C.mul_mk, C.eql_mk, C.neq_mk, C.lss_mk, C.leq_mk, C.gtr_mk, C.geq_mk, C.conv_mk, C.len_mk, C.ext_0, C.ext_1, C.ext3_0, C.ext3_1, C.ext3_2, C.guarded_yes, C.guarded_tf, C.guarded_ft, C.guarded_undef, Bool.not_true, Bool.not_false, Nat.zero_add, eq_self, decide_true, decide_false, show ((-1 : Int) < 0) by omega]
          exact bad w2 f2 (by unfold fineW; rw [hw, ok]; simp [hp])
        | some p =>
          simp only [C.ite_true, C.ite_false, C.pick_true, C.pick_false, C.not_bool, C.field_ptr, C.nilCheck_ptr, C.add_mk, C.sub_mk, C.mul_mk, C.eql_mk, C.neq_mk, C.lss_mk, C.leq_mk, C.gtr_mk, C.geq_mk, C.conv_mk, C.len_mk, C.ext_0, C.ext_1, C.ext3_0, C.ext3_1, C.ext3_2, C.guarded_yes, C.guarded_tf, C.guarded_ft, C.guarded_undef, Bool.not_true, Bool.not_false, Nat.zero_add, eq_self, decide_true, decide_false, show ¬ ((p : Int) < 0) by omega]
          exact good w2 f2 (by unfold fineW; rw [hw, ok]; simp [hp])
      · have hw : wRef ws[j] = none := by unfold wRef; rw [if_neg fun c => k2 c.2]
        simp only [C.ite_true, C.ite_false, C.pick_true, C.pick_false, C.not_bool, C.field_ptr, C.nilCheck_ptr, C.add_mk, C.sub_mk, C.mul_mk, C.eql_mk, C.neq_mk, C.lss_mk, C.leq_mk, C.gtr_mk, C.geq_mk, C.conv_mk, C.len_mk, C.ext_0, C.ext_1, C.ext3_0, C.ext3_1, C.ext3_2, C.guarded_yes, C.guarded_tf, C.guarded_ft, C.guarded_undef, Bool.not_true, Bool.not_false, Nat.zero_add, eq_self, decide_true, decide_false, k2]
        exact good w2 f2 (by unfold fineW; rw [hw, ok]; rfl)
    · have ok : okW ws[j] = false := by simp [okW, hc]
      simp only [C.ite_true, C.ite_false, C.pick_true, C.pick_false, C.not_bool, C.field_ptr, C.nilCheck_ptr, C.add_mk, C.sub_mk, C.mul_mk, C.eql_mk, C.neq_mk, C.lss_mk, C.leq_mk, C.gtr_mk, C.geq_mk, C.conv_mk, C.len_mk, C.ext_0, C.ext_1, C.ext3_0, C.ext3_1, C.ext3_2, C.guarded_yes, C.guarded_tf, C.guarded_ft, C.guarded_undef, Bool.not_true, Bool.not_false, Nat.zero_add, eq_self, decide_true, decide_false]
      refine readPut fun b w2 hf2 _ hb => ?_
      try simp only [C.ite_true, C.ite_false, C.pick_true, C.pick_false, C.not_bool, C.field_ptr, C.nilCheck_ptr, C.add_mk, C.sub_mk, C.mul_mk, C.eql_mk, C.neq_mk, C.lss_mk, C.leq_mk, C.gtr_mk, C.geq_mk, C.conv_mk, C.len_mk, C.ext_0, C.ext_1, C.ext3_0, C.ext3_1, C.ext3_2, C.guarded_yes, C.guarded_tf, C.guarded_ft, C.guarded_undef, Bool.not_true, Bool.not_false, Nat.zero_add, eq_self, decide_true, decide_false]
      exact bad w2 (hf1.trans hf2) (by unfold fineW; rw [ok]; rfl)
theorem Fine_c {mv wv : Value} {m : List Ob} {fs : List Value} {ws : List Int} (hM : ObsAt w mv m fs) (hws : RdS w wv 1 (intC ws)) (hr : Rng ws) (h : ∀ w', Fr [] w w' → K (.bool (ws.all (fineW m))) w') : C.call Try.prog 17 #[mv, wv] w K :=
  F17.sh (Fine_loop hM hws hr h ws.length 0 w (by omega) (Fr.refl _ _) fun i hi hij => by omega)
theorem all_fine {m : List Ob} {ws : List Int} : ws.all (fineW m) = true ↔ fineL m ws := by rw [List.all_eq_true]; exact Iff.rfl
theorem ROpen_loop {W0 : World} {mv : Value} {m : List Ob} {fs : List Value} (hM : ObsAt W0 mv m fs) (hr : ∀ o ∈ m, Rng o.fs) (hb : ∀ w', Fr [] W0 w' → ¬ fineM m → K (.tuple #[.slice none 0 0, .int .i64 16]) w') (h0 : ∀ w', Fr [] W0 w' → fineM m → K (.tuple #[mv, .int .i64 0]) w') :
    ∀ (d j : Nat) (w : World), m.length = j + d → Fr [] W0 w → (∀ i (hi : i < m.length), i < j → fineL m m[i].fs) → F13.l7 K mv (.int .i64 (j : Int)) w := by
  have hle := hM.le
  intro d
  induction d with
  | zero =>
    intro j w hj hf hn
    refine F13.l7.to (hM.lenC ?_)
    simp only [C.ite_true, C.ite_false, C.pick_true, C.pick_false, C.not_bool, C.field_ptr, C.nilCheck_ptr, C.add_mk, C.sub_mk, C.mul_mk, C.eql_mk, C.neq_mk, C.lss_mk, C.leq_mk, C.gtr_mk, C.geq_mk, C.conv_mk, C.len_mk, C.ext_0, C.ext_1, C.ext3_0, C.ext3_1, C.ext3_2, C.guarded_yes, C.guarded_tf, C.guarded_ft, C.guarded_undef, Bool.not_true, Bool.not_false, Nat.zero_add, eq_self, decide_true, decide_false, show ¬ ((j : Int) < (m.length : Int)) by omega]
    refine F13.k11.to (h0 w hf fun o ho => ?_)
    obtain ⟨i, hi, rfl⟩ := List.getElem_of_mem ho
    exact hn i hi (by omega)
  | succ d ih =>
    intro j w hj hf hn
    have jl : j < m.length := by omega
    have hM' := hM.keep hf
    refine F13.l7.to (hM.lenC ?_)
    simp only [C.ite_true, C.ite_false, C.pick_true, C.pick_false, C.not_bool, C.field_ptr, C.nilCheck_ptr, C.add_mk, C.sub_mk, C.mul_mk, C.eql_mk, C.neq_mk, C.lss_mk, C.leq_mk, C.gtr_mk, C.geq_mk, C.conv_mk, C.len_mk, C.ext_0, C.ext_1, C.ext3_0, C.ext3_1, C.ext3_2, C.guarded_yes, C.guarded_tf, C.guarded_ft, C.guarded_undef, Bool.not_true, Bool.not_false, Nat.zero_add, eq_self, decide_true, decide_false, show ((j : Int) < (m.length : Int)) by omega]
    refine F13.k9.to (hM'.get jl fun g o cs e fz fv hg h0' h1 h2 hfv => ?_)
    simp only [C.ite_true, C.ite_false, C.pick_true, C.pick_false, C.not_bool, C.field_ptr, C.nilCheck_ptr, C.add_mk, C.sub_mk, C.mul_mk, C.eql_mk, C.neq_mk, C.lss_mk, C.leq_mk, C.gtr_mk, C.geq_mk, C.conv_mk, C.len_mk, C.ext_0, C.ext_1, C.ext3_0, C.ext3_1, C.ext3_2, C.guarded_yes, C.guarded_tf, C.guarded_ft, C.guarded_undef, Bool.not_true, Bool.not_false, Nat.zero_add, eq_self, decide_true, decide_false]
    refine C.load1_of hg h2 (Fine_c hM' hfv (hr _ (List.getElem_mem jl)) fun w1 hf1 => ?_)
    cases ha : m[j].fs.all (fineW m) with
    | true =>
      simp only [C.ite_true, C.ite_false, C.pick_true, C.pick_false, C.not_bool, C.field_ptr, C.nilCheck_ptr, C.add_mk, C.sub_mk, C.mul_mk, C.eql_mk, C.neq_mk, C.lss_mk, C.leq_mk, C.gtr_mk, C.geq_mk, C.conv_mk, C.len_mk, C.ext_0, C.ext_1, C.ext3_0, C.ext3_1, C.ext3_2, C.guarded_yes, C.guarded_tf, C.guarded_ft, C.guarded_undef, Bool.not_true, Bool.not_false, Nat.zero_add, eq_self, decide_true, decide_false]
      refine F13.k8.to ?_
      simp only [C.ite_true, C.ite_false, C.pick_true, C.pick_false, C.not_bool, C.field_ptr, C.nilCheck_ptr, C.add_mk, C.sub_mk, C.mul_mk, C.eql_mk, C.neq_mk, C.lss_mk, C.leq_mk, C.gtr_mk, C.geq_mk, C.conv_mk, C.len_mk, C.ext_0, C.ext_1, C.ext3_0, C.ext3_1, C.ext3_2, C.guarded_yes, C.guarded_tf, C.guarded_ft, C.guarded_undef, Bool.not_true, Bool.not_false, Nat.zero_add, eq_self, decide_true, decide_false]
      rw [wrap64_id (n := (j : Int) + 1) (by omega), show (j : Int) + 1 = ((j + 1 : Nat) : Int) by omega]
      refine ih (j + 1) w1 (by omega) (hf.trans hf1) fun i hi hij => ?_
      by_cases e : i = j
      · subst e; exact all_fine.1 ha
      · exact hn i hi (by omega)
    | false =>
      simp only [C.ite_true, C.ite_false, C.pick_true, C.pick_false, C.not_bool, C.field_ptr, C.nilCheck_ptr, C.add_mk, C.sub_mk, C.mul_mk, C.eql_mk, C.neq_mk, C.lss_mk, C.leq_mk, C.gtr_mk, C.geq_mk, C.conv_mk, C.len_mk, C.ext_0, C.ext_1, C.ext3_0, C.ext3_1, C.ext3_2, C.guarded_yes, C.guarded_tf, C.guarded_ft, C.guarded_undef, Bool.not_true, Bool.not_false, Nat.zero_add, eq_self, decide_true, decide_false]
      refine hb w1 (hf.trans hf1) fun hm => ?_
      have := all_fine.2 (hm _ (List.getElem_mem jl))
      rw [ha] at this
      cases this
theorem ROpen_c {lv : Value} {l : List Int} (hl : RdS w lv 1 (intC l)) (hr : Rng l) (h : ∀ c m fs mv w', Cd l c m → Fr [] w w' → ObsAt w' mv m fs → K (.tuple #[mv, .int .i64 c]) w') : C.call Try.prog 13 #[lv] w K := by
  have nilO : ∀ w', ObsAt w' (.slice none 0 0) [] [] := fun w' => ⟨rfl, (OwnS.nil w' 3 3).rd, fun i a b => by simp at a⟩
  refine F13.sh (C.len_rd hl ?_)
  rw [intC_len]
  by_cases c : (l.length : Int) > 2048
  · simp only [C.ite_true, C.ite_false, C.pick_true, C.pick_false, C.not_bool, C.field_ptr, C.nilCheck_ptr, C.add_mk, C.sub_mk, C.mul_mk, C.eql_mk, C.neq_mk, C.lss_mk, C.leq_mk, C.gtr_mk, C.geq_mk, C.conv_mk, C.len_mk, C.ext_0, C.ext_1, C.ext3_0, C.ext3_1, C.ext3_2, C.guarded_yes, C.guarded_tf, C.guarded_ft, C.guarded_undef, Bool.not_true, Bool.not_false, Nat.zero_add, eq_self, decide_true, decide_false, c]
    exact h 5 [] [] _ w (.inl ⟨rfl, by omega, rfl⟩) (Fr.refl _ _) (nilO w)
  · simp only [C.ite_true, C.ite_false, C.pick_true, C.pick_false, C.not_bool, C.field_ptr, C.nilCheck_ptr, C.add_mk, C.sub_mk, C.mul_mk, C.eql_mk, C.neq_mk, C.lss_mk, C.leq_mk, C.gtr_mk, C.geq_mk, C.conv_mk, C.len_mk, C.ext_0, C.ext_1, C.ext3_0, C.ext3_1, C.ext3_2, C.guarded_yes, C.guarded_tf, C.guarded_ft, C.guarded_undef, Bool.not_true, Bool.not_false, Nat.zero_add, eq_self, decide_true, decide_false, c]
    have hlen : l.length ≤ 2048 := by omega
    refine F13.k3.to (RSplit_c hl hr hlen (fun w1 hf1 hn => ?_) fun m fs mv w1 hS hI => ?_)
    · simp only [C.ite_true, C.ite_false, C.pick_true, C.pick_false, C.not_bool, C.field_ptr, C.nilCheck_ptr, C.add_mk, C.sub_mk, C.mul_mk, C.eql_mk, C.neq_mk, C.lss_mk, C.leq_mk, C.gtr_mk, C.geq_mk, C.conv_mk, C.len_mk, C.ext_0, C.ext_1, C.ext3_0, C.ext3_1, C.ext3_2, C.guarded_yes, C.guarded_tf, C.guarded_ft, C.guarded_undef, Bool.not_true, Bool.not_false, Nat.zero_add, eq_self, decide_true, decide_false]
      exact h 16 [] [] _ w1 (.inr (.inl ⟨rfl, hlen, rfl, hn⟩)) hf1 (nilO w1)
    · simp only [C.ite_true, C.ite_false, C.pick_true, C.pick_false, C.not_bool, C.field_ptr, C.nilCheck_ptr, C.add_mk, C.sub_mk, C.mul_mk, C.eql_mk, C.neq_mk, C.lss_mk, C.leq_mk, C.gtr_mk, C.geq_mk, C.conv_mk, C.len_mk, C.ext_0, C.ext_1, C.ext3_0, C.ext3_1, C.ext3_2, C.guarded_yes, C.guarded_tf, C.guarded_ft, C.guarded_undef, Bool.not_true, Bool.not_false, Nat.zero_add, eq_self, decide_true, decide_false]
      refine F13.k6.to (ROpen_loop hI.obs (fun o ho => ?_) (fun w2 hf2 hn => h 16 [] [] _ w2 (.inr (.inl ⟨rfl, hlen, rfl, fun ⟨m', a, b⟩ => ?_⟩)) (hI.fr.trans hf2) (nilO w2)) (fun w2 hf2 hm => h 0 m fs mv w2 (.inr (.inr ⟨rfl, hlen, hS, hm⟩)) (hI.fr.trans hf2) (hI.obs.keep hf2)) m.length 0 w1 (by omega) (Fr.refl _ _) fun i hi hij => by omega)
      · obtain ⟨i, hi, rfl⟩ := List.getElem_of_mem ho
        exact hr.fs hS hi
      · have := hS.det a
        subst this
        exact hn b
end
end Go.Proofs.YtfjilngljnlkjaaV
namespace Go.Proofs.YtfjilngljnlkjaaV
open Go Go.Proofs Go.RowKit
set_option linter.unusedVariables false
set_option linter.unusedSimpArgs false
set_option maxRecDepth 10000
def natI (o : List Nat) : List Int := o.map fun p : Nat => (p : Int)
theorem natI_len (o : List Nat) : (natI o).length = o.length := by simp [natI]
theorem natI_get {o : List Nat} {j : Nat} (h : j < o.length) (h' : j < (natI o).length) : (natI o)[j] = (o[j] : Int) := by simp [natI]
theorem natI_app (a b : List Nat) : natI (a ++ b) = natI a ++ natI b := by simp [natI]
theorem layS_app (m : List Ob) (o a b : List Nat) : layS m o (a ++ b) = layS m o a ++ layS m o b := List.flatMap_append
theorem layS_one (m : List Ob) (o : List Nat) (p : Nat) : layS m o [p] = hdA m p :: (fsA m p).map (movW m o) := by simp [layS]
section
variable {K : VK} {w : World}
theorem ObsAt.get0 {W0 : World} {mv : Value} {m : List Ob} {fs : List Value} {j : Nat} (h : ObsAt W0 mv m fs) (hf : Fr [] W0 w) (hj : j < m.length)
    (hk : ∀ g o cs e fz fv, w.heap[g]? = some (.cells cs e fz) → cs[o]? = some (.int .i64 (m[j].at_ : Int)) → cs[o + 1]? = some (.int .i64 m[j].ser) → cs[o + 2]? = some fv → RdS W0 fv 1 (intC m[j].fs) → K (.pointer (some ⟨g, o, none⟩)) w) :
    C.idx 3 mv (.int .i64 (j : Int)) w K := by
  have hj' : j < fs.length := by rw [h.len]; exact hj
  refine C.idx_rd (h.keep hf).rd (by omega) (by rw [Int.toNat_natCast]; exact obC_get hj hj') fun g o cs e fz hg _ hc => hk g o cs e fz fs[j] hg ?_ ?_ ?_ (h.fld j hj hj')
  · simpa using hc 0 (by omega)
  · simpa using hc 1 (by omega)
  · simpa using hc 2 (by omega)
/-- Was it met? -/
theorem met_loop {mv ov wv : Value} {y7 y8 : Value} {o : List Nat} {p : Nat} (ho : RdS w ov 1 (intC (natI o))) (h : F20.k16 K mv ov wv y7 y8 (.int .i64 (p : Int)) (.bool (decide (p ∈ o))) w) :
    ∀ (d j : Nat) (b : Bool), o.length = j + d → b = decide (p ∈ o.take j) → F20.l13 K mv ov wv y7 y8 (.int .i64 (p : Int)) (.bool b) (.int .i64 (j : Int)) w := by
  have hle := ho.le
  rw [intC_len, natI_len] at hle
  intro d
  induction d with
  | zero =>
    intro j b hj hb
    refine F20.l13.to (C.len_rd ho ?_)
    rw [intC_len, natI_len]
    simp only [C.ite_true, C.ite_false, C.pick_true, C.pick_false, C.not_bool, C.field_ptr, C.nilCheck_ptr, C.add_mk, C.sub_mk, C.mul_mk, C.eql_mk, C.neq_mk, C.lss_mk, C.leq_mk, C.gtr_mk, C.geq_mk, C.conv_mk, C.len_mk, C.ext_0, C.ext_1, C.ext3_0, C.ext3_1, C.ext3_2, C.guarded_yes, C.guarded_tf, C.guarded_ft, C.guarded_undef, Bool.not_true, Bool.not_false, Nat.zero_add, eq_self, decide_true, decide_false, show ¬ ((j : Int) < (o.length : Int)) by omega]
    rw [List.take_of_length_le (by omega)] at hb
    rw [hb]
    exact h
  | succ d ih =>
    intro j b hj hb
    have jl : j < o.length := by omega
    have jl' : j < (natI o).length := by rw [natI_len]; exact jl
    refine F20.l13.to (C.len_rd ho ?_)
    rw [intC_len, natI_len]
    simp only [C.ite_true, C.ite_false, C.pick_true, C.pick_false, C.not_bool, C.field_ptr, C.nilCheck_ptr, C.add_mk, C.sub_mk, C.mul_mk, C.eql_mk, C.neq_mk, C.lss_mk, C.leq_mk, C.gtr_mk, C.geq_mk, C.conv_mk, C.len_mk, C.ext_0, C.ext_1, C.ext3_0, C.ext3_1, C.ext3_2, C.guarded_yes, C.guarded_tf, C.guarded_ft, C.guarded_undef, Bool.not_true, Bool.not_false, Nat.zero_add, eq_self, decide_true, decide_false, show ((j : Int) < (o.length : Int)) by omega]
    have nx : ∀ b', b' = decide (p ∈ o.take (j + 1)) → F20.k14 K mv ov wv y7 y8 (.int .i64 (p : Int)) (.bool b') (.int .i64 (j : Int)) w := fun b' hb' => by
      refine F20.k14.to ?_
      simp only [C.ite_true, C.ite_false, C.pick_true, C.pick_false, C.not_bool, C.field_ptr, C.nilCheck_ptr, C.add_mk, C.sub_mk, C.mul_mk, C.eql_mk, C.neq_mk, C.lss_mk, C.leq_mk, C.gtr_mk, C.geq_mk, C.conv_mk, C.len_mk, C.ext_0, C.ext_1, C.ext3_0, C.ext3_1, C.ext3_2, C.guarded_yes, C.guarded_tf, C.guarded_ft, C.guarded_undef, Bool.not_true, Bool.not_false, Nat.zero_add, eq_self, decide_true, decide_false]
      rw [wrap64_id (n := (j : Int) + 1) (by omega), show (j : Int) + 1 = ((j + 1 : Nat) : Int) by omega]
      exact ih (j + 1) b' (by omega) hb'
    have et : o.take (j + 1) = o.take j ++ [o[j]] := by rw [List.take_add_one, List.getElem?_eq_getElem jl]; rfl
    refine F20.k15.to ?_
    cases b with
    | true =>
      simp only [C.ite_true, C.ite_false, C.pick_true, C.pick_false, C.not_bool, C.field_ptr, C.nilCheck_ptr, C.add_mk, C.sub_mk, C.mul_mk, C.eql_mk, C.neq_mk, C.lss_mk, C.leq_mk, C.gtr_mk, C.geq_mk, C.conv_mk, C.len_mk, C.ext_0, C.ext_1, C.ext3_0, C.ext3_1, C.ext3_2, C.guarded_yes, C.guarded_tf, C.guarded_ft, C.guarded_undef, Bool.not_true, Bool.not_false, Nat.zero_add, eq_self, decide_true, decide_false]
      refine nx true ?_
      have := of_decide_eq_true hb.symm
      rw [eq_comm, decide_eq_true_eq, et]
      exact List.mem_append.2 (.inl this)
    | false =>
      have hn : p ∉ o.take j := of_decide_eq_false hb.symm
      simp only [C.ite_true, C.ite_false, C.pick_true, C.pick_false, C.not_bool, C.field_ptr, C.nilCheck_ptr, C.add_mk, C.sub_mk, C.mul_mk, C.eql_mk, C.neq_mk, C.lss_mk, C.leq_mk, C.gtr_mk, C.geq_mk, C.conv_mk, C.len_mk, C.ext_0, C.ext_1, C.ext3_0, C.ext3_1, C.ext3_2, C.guarded_yes, C.guarded_tf, C.guarded_ft, C.guarded_undef, Bool.not_true, Bool.not_false, Nat.zero_add, eq_self, decide_true, decide_false]
      refine C.idx_int ho jl' fun g oo cs e fz hg hv => C.load1_of hg hv ?_
      rw [natI_get jl jl']
      by_cases c : o[j] = p
      · simp only [C.ite_true, C.ite_false, C.pick_true, C.pick_false, C.not_bool, C.field_ptr, C.nilCheck_ptr, C.add_mk, C.sub_mk, C.mul_mk, C.eql_mk, C.neq_mk, C.lss_mk, C.leq_mk, C.gtr_mk, C.geq_mk, C.conv_mk, C.len_mk, C.ext_0, C.ext_1, C.ext3_0, C.ext3_1, C.ext3_2, C.guarded_yes, C.guarded_tf, C.guarded_ft, C.guarded_undef, Bool.not_true, Bool.not_false, Nat.zero_add, eq_self, decide_true, decide_false, show (o[j] : Int) = (p : Int) by omega]
        refine nx true ?_
        rw [eq_comm, decide_eq_true_eq, et]
        simp [c]
      · simp only [C.ite_true, C.ite_false, C.pick_true, C.pick_false, C.not_bool, C.field_ptr, C.nilCheck_ptr, C.add_mk, C.sub_mk, C.mul_mk, C.eql_mk, C.neq_mk, C.lss_mk, C.leq_mk, C.gtr_mk, C.geq_mk, C.conv_mk, C.len_mk, C.ext_0, C.ext_1, C.ext3_0, C.ext3_1, C.ext3_2, C.guarded_yes, C.guarded_tf, C.guarded_ft, C.guarded_undef, Bool.not_true, Bool.not_false, Nat.zero_add, eq_self, decide_true, decide_false, show ¬ (o[j] : Int) = (p : Int) by omega]
        refine nx false ?_
        rw [eq_comm, decide_eq_false_iff_not, et]
        exact fun h => (List.mem_append.1 h).elim hn fun h => c (List.mem_singleton.1 h).symm
/-- Words, each to its object. -/
theorem ord_words {W0 : World} {mv wv y7 : Value} {m : List Ob} {fs : List Value} {ws : List Int} {o : List Nat} (hM : ObsAt W0 mv m fs) (hws : RdS W0 wv 1 (intC ws)) (hr : Rng ws) (hf : fineL m ws) (hP : Pls m o) (hml : m.length ≤ 2048)
    (h : ∀ ov w', Fr [] W0 w' → NewS W0 ov → OwnS w' ov 3 1 (intC (natI (vis m o ws))) → F20.k18 K mv ov y7 w') :
    ∀ (d j : Nat) (w : World) (ov : Value), ws.length = j + d → Fr [] W0 w → NewS W0 ov → OwnS w ov 3 1 (intC (natI (vis m o (ws.take j)))) → F20.l6 K mv ov wv y7 (.int .i64 (j : Int)) w := by
  have hle := hws.le
  rw [intC_len] at hle
  intro d
  induction d with
  | zero =>
    intro j w ov hj hf0 hn ho
    refine F20.l6.to (C.len_rd hws ?_)
    rw [intC_len]
    simp only [C.ite_true, C.ite_false, C.pick_true, C.pick_false, C.not_bool, C.field_ptr, C.nilCheck_ptr, C.add_mk, C.sub_mk, C.mul_mk, C.eql_mk, C.neq_mk, C.lss_mk, C.leq_mk, C.gtr_mk, C.geq_mk, C.conv_mk, C.len_mk, C.ext_0, C.ext_1, C.ext3_0, C.ext3_1, C.ext3_2, C.guarded_yes, C.guarded_tf, C.guarded_ft, C.guarded_undef, Bool.not_true, Bool.not_false, Nat.zero_add, eq_self, decide_true, decide_false, show ¬ ((j : Int) < (ws.length : Int)) by omega]
    rw [List.take_of_length_le (by omega)] at ho
    exact h ov w hf0 hn ho
  | succ d ih =>
    intro j w ov hj hf0 hn ho
    have jl : j < ws.length := by omega
    have hin := List.getElem_mem jl
    have hfx := hf _ hin
    have hPj := hP.vis (ws.take j)
    have hol := hPj.len
    refine F20.l6.to (C.len_rd hws ?_)
    rw [intC_len]
    simp only [C.ite_true, C.ite_false, C.pick_true, C.pick_false, C.not_bool, C.field_ptr, C.nilCheck_ptr, C.add_mk, C.sub_mk, C.mul_mk, C.eql_mk, C.neq_mk, C.lss_mk, C.leq_mk, C.gtr_mk, C.geq_mk, C.conv_mk, C.len_mk, C.ext_0, C.ext_1, C.ext3_0, C.ext3_1, C.ext3_2, C.guarded_yes, C.guarded_tf, C.guarded_ft, C.guarded_undef, Bool.not_true, Bool.not_false, Nat.zero_add, eq_self, decide_true, decide_false, show ((j : Int) < (ws.length : Int)) by omega]
    have nx : ∀ ov' w', Fr [] W0 w' → NewS W0 ov' → OwnS w' ov' 3 1 (intC (natI (vis1 m (vis m o (ws.take j)) ws[j]))) → F20.k7 K mv ov' wv y7 (.int .i64 (j : Int)) w' := fun ov' w' a b c => by
      refine F20.k7.to ?_
      simp only [C.ite_true, C.ite_false, C.pick_true, C.pick_false, C.not_bool, C.field_ptr, C.nilCheck_ptr, C.add_mk, C.sub_mk, C.mul_mk, C.eql_mk, C.neq_mk, C.lss_mk, C.leq_mk, C.gtr_mk, C.geq_mk, C.conv_mk, C.len_mk, C.ext_0, C.ext_1, C.ext3_0, C.ext3_1, C.ext3_2, C.guarded_yes, C.guarded_tf, C.guarded_ft, C.guarded_undef, Bool.not_true, Bool.not_false, Nat.zero_add, eq_self, decide_true, decide_false]
      rw [wrap64_id (n := (j : Int) + 1) (by omega), show (j : Int) + 1 = ((j + 1 : Nat) : Int) by omega]
      refine ih (j + 1) w' ov' (by omega) a b ?_
      rw [take_snoc jl, vis_snoc]
      exact c
    have ok := fine_ok hfx
    refine F20.k8.to (C.idx_int (hws.keep hf0) jl fun g oo cs e fz hg hv => C.load1_of hg hv (RefRead_c _ (hr _ hin) (fun hc w1 hf1 => ?_) (fun hc w1 hf1 => absurd (of_decide_eq_true ok) hc)))
    simp only [C.ite_true, C.ite_false, C.pick_true, C.pick_false, C.not_bool, C.field_ptr, C.nilCheck_ptr, C.add_mk, C.sub_mk, C.mul_mk, C.eql_mk, C.neq_mk, C.lss_mk, C.leq_mk, C.gtr_mk, C.geq_mk, C.conv_mk, C.len_mk, C.ext_0, C.ext_1, C.ext3_0, C.ext3_1, C.ext3_2, C.guarded_yes, C.guarded_tf, C.guarded_ft, C.guarded_undef, Bool.not_true, Bool.not_false, Nat.zero_add, eq_self, decide_true, decide_false]
    refine readPut fun b w2 hf2 _ hb => ?_
    have f2 := hf0.trans (hf1.trans hf2)
    have ho2 := (ho.keep hf1 (by simp)).keep hf2 (by simp)
    try simp only [C.ite_true, C.ite_false, C.pick_true, C.pick_false, C.not_bool, C.field_ptr, C.nilCheck_ptr, C.add_mk, C.sub_mk, C.mul_mk, C.eql_mk, C.neq_mk, C.lss_mk, C.leq_mk, C.gtr_mk, C.geq_mk, C.conv_mk, C.len_mk, C.ext_0, C.ext_1, C.ext3_0, C.ext3_1, C.ext3_2, C.guarded_yes, C.guarded_tf, C.guarded_ft, C.guarded_undef, Bool.not_true, Bool.not_false, Nat.zero_add, eq_self, decide_true, decide_false]
    refine C.load1_of (v := .int .i64 (rdK ws[j])) hb rfl ?_
    by_cases k2 : rdK ws[j] = 2
    · have hw : wRef ws[j] = some (rdN ws[j]).toNat := by unfold wRef; rw [if_pos ⟨hc, k2⟩]
      have hn2 := (wRef_ok hw).2.2
      obtain ⟨p, hp, hwp⟩ := fine_pl hfx hw
      simp only [C.ite_true, C.ite_false, C.pick_true, C.pick_false, C.not_bool, C.field_ptr, C.nilCheck_ptr, C.add_mk, C.sub_mk, C.mul_mk, C.eql_mk, C.neq_mk, C.lss_mk, C.leq_mk, C.gtr_mk, C.geq_mk, C.conv_mk, C.len_mk, C.ext_0, C.ext_1, C.ext3_0, C.ext3_1, C.ext3_2, C.guarded_yes, C.guarded_tf, C.guarded_ft, C.guarded_undef, Bool.not_true, Bool.not_false, Nat.zero_add, eq_self, decide_true, decide_false, ne_eq, k2, not_true_eq_false]
      refine F20.k10.to ?_
      simp only [C.ite_true, C.ite_false, C.pick_true, C.pick_false, C.not_bool, C.field_ptr, C.nilCheck_ptr, C.add_mk, C.sub_mk, C.mul_mk, C.eql_mk, C.neq_mk, C.lss_mk, C.leq_mk, C.gtr_mk, C.geq_mk, C.conv_mk, C.len_mk, C.ext_0, C.ext_1, C.ext3_0, C.ext3_1, C.ext3_2, C.guarded_yes, C.guarded_tf, C.guarded_ft, C.guarded_undef, Bool.not_true, Bool.not_false, Nat.zero_add, eq_self, decide_true, decide_false]
      refine C.load1_of (v := .int .i64 (rdN ws[j])) hb rfl ?_
      rw [hn2]
      refine Find_c (hM.keep f2) ?_
      have e : plI m (rdN ws[j]).toNat = (p : Int) := by unfold plI; rw [hp]
      rw [e]
      refine met_loop ho2.rd ?_ _ 0 false (by simp; rfl) (by simp)
      refine F20.k16.to ?_
      by_cases c : p ∈ vis m o (ws.take j)
      · have e2 : vis1 m (vis m o (ws.take j)) ws[j] = vis m o (ws.take j) := by unfold vis1; rw [hwp]; simp only [c, if_true]
        simp only [C.ite_true, C.ite_false, C.pick_true, C.pick_false, C.not_bool, C.field_ptr, C.nilCheck_ptr, C.add_mk, C.sub_mk, C.mul_mk, C.eql_mk, C.neq_mk, C.lss_mk, C.leq_mk, C.gtr_mk, C.geq_mk, C.conv_mk, C.len_mk, C.ext_0, C.ext_1, C.ext3_0, C.ext3_1, C.ext3_2, C.guarded_yes, C.guarded_tf, C.guarded_ft, C.guarded_undef, Bool.not_true, Bool.not_false, Nat.zero_add, eq_self, decide_true, decide_false, c]
        refine nx ov w2 f2 hn ?_
        rw [e2]
        exact ho2
      · have e2 : vis1 m (vis m o (ws.take j)) ws[j] = vis m o (ws.take j) ++ [p] := by unfold vis1; rw [hwp]; simp only [c, if_false]
        simp only [C.ite_true, C.ite_false, C.pick_true, C.pick_false, C.not_bool, C.field_ptr, C.nilCheck_ptr, C.add_mk, C.sub_mk, C.mul_mk, C.eql_mk, C.neq_mk, C.lss_mk, C.leq_mk, C.gtr_mk, C.geq_mk, C.conv_mk, C.len_mk, C.ext_0, C.ext_1, C.ext3_0, C.ext3_1, C.ext3_2, C.guarded_yes, C.guarded_tf, C.guarded_ft, C.guarded_undef, Bool.not_true, Bool.not_false, Nat.zero_add, eq_self, decide_true, decide_false, c]
        refine C.appI f2 hn ho2 (by rw [natI_len]; omega) fun ov' w3 hf3 hn3 ho3 _ _ => nx ov' w3 hf3 hn3 ?_
        rw [e2, natI_app]
        simpa [natI] using ho3
    · have hw : wRef ws[j] = none := by unfold wRef; rw [if_neg fun c => k2 c.2]
      have e2 : vis1 m (vis m o (ws.take j)) ws[j] = vis m o (ws.take j) := by unfold vis1; rw [wPl_none hw]
      simp only [C.ite_true, C.ite_false, C.pick_true, C.pick_false, C.not_bool, C.field_ptr, C.nilCheck_ptr, C.add_mk, C.sub_mk, C.mul_mk, C.eql_mk, C.neq_mk, C.lss_mk, C.leq_mk, C.gtr_mk, C.geq_mk, C.conv_mk, C.len_mk, C.ext_0, C.ext_1, C.ext3_0, C.ext3_1, C.ext3_2, C.guarded_yes, C.guarded_tf, C.guarded_ft, C.guarded_undef, Bool.not_true, Bool.not_false, Nat.zero_add, eq_self, decide_true, decide_false, ne_eq, k2, not_false_eq_true]
      refine nx ov w2 f2 hn ?_
      rw [e2]
      exact ho2
theorem ord_outer {W0 : World} {mv : Value} {m : List Ob} {fs : List Value} {R : List Nat} (hM : ObsAt W0 mv m fs) (hr : ∀ o ∈ m, Rng o.fs) (hf : fineM m) (hml : m.length ≤ 2048)
    (h : ∀ ov w', Fr [] W0 w' → NewS W0 ov → OwnS w' ov 3 1 (intC (natI R)) → K ov w') :
    ∀ (f k : Nat) (w : World) (ov wv : Value) (ws : List Int) (o : List Nat), m.length < k + f → k ≤ 100000 → Fr [] W0 w → NewS W0 ov → OwnS w ov 3 1 (intC (natI o)) → Pls m o → RdS W0 wv 1 (intC ws) → Rng ws → fineL m ws → bfs m f (vis m o ws) k = R →
      F20.l5 K mv ov wv (.int .i64 (k : Int)) w := by
  intro f
  induction f with
  | zero =>
    intro k w ov wv ws o hk hk2 hf0 hn ho hP hws hrw hfw hR
    refine F20.l5.to (ord_words hM hws hrw hfw hP hml (fun ov' w' a b c => ?_) ws.length 0 w ov (by omega) hf0 hn ho)
    have := (hP.vis ws).len
    refine F20.k18.to (C.len_rd c.rd ?_)
    rw [intC_len, natI_len]
    simp only [C.ite_true, C.ite_false, C.pick_true, C.pick_false, C.not_bool, C.field_ptr, C.nilCheck_ptr, C.add_mk, C.sub_mk, C.mul_mk, C.eql_mk, C.neq_mk, C.lss_mk, C.leq_mk, C.gtr_mk, C.geq_mk, C.conv_mk, C.len_mk, C.ext_0, C.ext_1, C.ext3_0, C.ext3_1, C.ext3_2, C.guarded_yes, C.guarded_tf, C.guarded_ft, C.guarded_undef, Bool.not_true, Bool.not_false, Nat.zero_add, eq_self, decide_true, decide_false, show ((k : Int) ≥ ((vis m o ws).length : Int)) by omega]
    have e : vis m o ws = R := hR
    exact h ov' w' a b (by rw [← e]; exact c)
  | succ f ih =>
    intro k w ov wv ws o hk hk2 hf0 hn ho hP hws hrw hfw hR
    refine F20.l5.to (ord_words hM hws hrw hfw hP hml (fun ov' w' a b c => ?_) ws.length 0 w ov (by omega) hf0 hn ho)
    have hP' := hP.vis ws
    have hl := hP'.len
    refine F20.k18.to (C.len_rd c.rd ?_)
    rw [intC_len, natI_len]
    by_cases hkl : (vis m o ws).length ≤ k
    · simp only [C.ite_true, C.ite_false, C.pick_true, C.pick_false, C.not_bool, C.field_ptr, C.nilCheck_ptr, C.add_mk, C.sub_mk, C.mul_mk, C.eql_mk, C.neq_mk, C.lss_mk, C.leq_mk, C.gtr_mk, C.geq_mk, C.conv_mk, C.len_mk, C.ext_0, C.ext_1, C.ext3_0, C.ext3_1, C.ext3_2, C.guarded_yes, C.guarded_tf, C.guarded_ft, C.guarded_undef, Bool.not_true, Bool.not_false, Nat.zero_add, eq_self, decide_true, decide_false, show ((k : Int) ≥ ((vis m o ws).length : Int)) by omega]
      have e : vis m o ws = R := by
        rw [← hR]
        unfold bfs
        rw [List.getElem?_eq_none hkl]
      exact h ov' w' a b (by rw [← e]; exact c)
    · have kl : k < (vis m o ws).length := by omega
      have kl' : k < (natI (vis m o ws)).length := by rw [natI_len]; exact kl
      have hp := hP'.2 _ (List.getElem_mem kl)
      simp only [C.ite_true, C.ite_false, C.pick_true, C.pick_false, C.not_bool, C.field_ptr, C.nilCheck_ptr, C.add_mk, C.sub_mk, C.mul_mk, C.eql_mk, C.neq_mk, C.lss_mk, C.leq_mk, C.gtr_mk, C.geq_mk, C.conv_mk, C.len_mk, C.ext_0, C.ext_1, C.ext3_0, C.ext3_1, C.ext3_2, C.guarded_yes, C.guarded_tf, C.guarded_ft, C.guarded_undef, Bool.not_true, Bool.not_false, Nat.zero_add, eq_self, decide_true, decide_false, show ¬ ((k : Int) ≥ ((vis m o ws).length : Int)) by omega]
      refine F20.k20.to (C.idx_int c.rd kl' fun g oo cs e fz hg hv => C.load1_of hg hv ?_)
      rw [natI_get kl kl']
      -- the fields, as they were ahead
      have hp' : (vis m o ws)[k] < fs.length := by rw [hM.len]; exact hp
      refine C.idx_rd (hM.keep a).rd (by omega) (by rw [Int.toNat_natCast]; exact obC_get hp hp') fun g2 o2 cs2 e2 fz2 hg2 _ hc2 => ?_
      simp only [C.ite_true, C.ite_false, C.pick_true, C.pick_false, C.not_bool, C.field_ptr, C.nilCheck_ptr, C.add_mk, C.sub_mk, C.mul_mk, C.eql_mk, C.neq_mk, C.lss_mk, C.leq_mk, C.gtr_mk, C.geq_mk, C.conv_mk, C.len_mk, C.ext_0, C.ext_1, C.ext3_0, C.ext3_1, C.ext3_2, C.guarded_yes, C.guarded_tf, C.guarded_ft, C.guarded_undef, Bool.not_true, Bool.not_false, Nat.zero_add, eq_self, decide_true, decide_false]
      refine C.load1_of (v := fs[(vis m o ws)[k]]) hg2 (by simpa using hc2 2 (by omega)) ?_
      refine F20.k4.to ?_
      simp only [C.ite_true, C.ite_false, C.pick_true, C.pick_false, C.not_bool, C.field_ptr, C.nilCheck_ptr, C.add_mk, C.sub_mk, C.mul_mk, C.eql_mk, C.neq_mk, C.lss_mk, C.leq_mk, C.gtr_mk, C.geq_mk, C.conv_mk, C.len_mk, C.ext_0, C.ext_1, C.ext3_0, C.ext3_1, C.ext3_2, C.guarded_yes, C.guarded_tf, C.guarded_ft, C.guarded_undef, Bool.not_true, Bool.not_false, Nat.zero_add, eq_self, decide_true, decide_false]
      rw [wrap64_id (n := (k : Int) + 1) (by omega), show (k : Int) + 1 = ((k + 1 : Nat) : Int) by omega]
      refine ih (k + 1) w' ov' _ m[(vis m o ws)[k]].fs (vis m o ws) (by omega) (by omega) a b c hP' (hM.fld _ hp hp') (hr _ (List.getElem_mem hp)) (hf _ (List.getElem_mem hp)) ?_
      rw [← hR]
      conv => rhs; unfold bfs
      rw [List.getElem?_eq_getElem kl]
      simp only [fsA_get hp]
theorem Order_c {mv rv : Value} {m : List Ob} {fs : List Value} {roots : List Int} (hM : ObsAt w mv m fs) (hr : ∀ o ∈ m, Rng o.fs) (hf : fineM m) (hml : m.length ≤ 2048) (hrv : RdS w rv 1 (intC roots)) (hrr : Rng roots) (hfr : fineL m roots)
    (h : ∀ ov w', Fr [] w w' → NewS w ov → OwnS w' ov 3 1 (intC (natI (ordO m roots))) → K ov w') : C.call Try.prog 20 #[mv, rv] w K :=
  F20.sh (ord_outer hM hr hf hml h (m.length + 1) 0 w (.slice none 0 0) rv roots [] (by omega) (by omega) (Fr.refl _ _) (NewS.nil _) (OwnS.nil _ _ _) (Pls.nil m) hrv hrr hfr rfl)
/-- Where an object stands, counted. -/
theorem pos_loop {W0 : World} {mv ov wv y7 y8 : Value} {m : List Ob} {fs : List Value} {o : List Nat} {p : Nat} (hM : ObsAt W0 mv m fs) (ho : RdS W0 ov 1 (intC (natI o))) (hP : Pls m o) (hp : p ∈ o) (hsz : szS m o ≤ 2048)
    (h : ∀ w', Fr [] W0 w' → F44.k13 K mv ov wv y7 y8 (.int .i64 (pos m o p : Int)) w') :
    ∀ (d j : Nat) (w : World), o.idxOf p = j + d → Fr [] W0 w → F44.l10 K mv ov wv y7 y8 (.int .i64 (p : Int)) (.int .i64 (szS m (o.take j) : Int)) (.int .i64 (j : Int)) w := by
  have hix := idx_lt hp
  have hgx := idx_get hp
  have hpx := pos_get (m := m) hP.1 hix
  rw [hgx] at hpx
  have hol := ho.le
  rw [intC_len, natI_len] at hol
  intro d
  induction d with
  | zero =>
    intro j w hj hf
    have ej : j = o.idxOf p := by omega
    subst ej
    have jl' : o.idxOf p < (natI o).length := by rw [natI_len]; exact hix
    refine F44.l10.to (C.idx_int (ho.keep hf) jl' fun g oo cs e fz hg hv => C.load1_of hg hv ?_)
    rw [natI_get hix jl', hgx]
    rw [C.neq_mk, decide_eq_false (by simp), C.ite_false, ← hpx]
    exact h w hf
  | succ d ih =>
    intro j w hj hf
    have jl : j < o.length := by omega
    have jl' : j < (natI o).length := by rw [natI_len]; exact jl
    have hne : o[j] ≠ p := fun e => by
      have hne := List.pairwise_iff_getElem.1 (List.nodup_iff_pairwise_ne.1 hP.1) j (o.idxOf p) jl hix (by omega)
      exact hne (e.trans hgx.symm)
    have hq := hP.2 _ (List.getElem_mem jl)
    have hM' := hM.keep hf
    have est : szS m (o.take (j + 1)) = szS m (o.take j) + szA m o[j] := by rw [List.take_add_one, List.getElem?_eq_getElem jl]; exact szI m _ _
    have hle : szS m (o.take (j + 1)) ≤ szS m o := by
      have e := List.take_append_drop (j + 1) o
      have : szS m o = szS m (o.take (j + 1)) + szS m (o.drop (j + 1)) := by rw [← szS_app, e]
      omega
    have hszp : szA m o[j] = 1 + m[o[j]].fs.length := by unfold szA; rw [fsA_get hq]
    refine F44.l10.to (C.idx_int (ho.keep hf) jl' fun g oo cs e fz hg hv => C.load1_of hg hv ?_)
    rw [natI_get jl jl', C.neq_mk, decide_eq_true (show (o[j] : Int) ≠ (p : Int) by omega), C.ite_true]
    refine F44.k12.to ?_
    simp only [C.ite_true, C.ite_false, C.pick_true, C.pick_false, C.not_bool, C.field_ptr, C.nilCheck_ptr, C.add_mk, C.sub_mk, C.mul_mk, C.eql_mk, C.neq_mk, C.lss_mk, C.leq_mk, C.gtr_mk, C.geq_mk, C.conv_mk, C.len_mk, C.ext_0, C.ext_1, C.ext3_0, C.ext3_1, C.ext3_2, C.guarded_yes, C.guarded_tf, C.guarded_ft, C.guarded_undef, Bool.not_true, Bool.not_false, Nat.zero_add, eq_self, decide_true, decide_false]
    refine C.idx_int (ho.keep hf) jl' fun g oo cs e fz hg hv => C.load1_of hg hv ?_
    rw [natI_get jl jl']
    refine hM'.get hq fun g o2 cs e fz fv hg h0 h1 h2 hfv => ?_
    simp only [C.ite_true, C.ite_false, C.pick_true, C.pick_false, C.not_bool, C.field_ptr, C.nilCheck_ptr, C.add_mk, C.sub_mk, C.mul_mk, C.eql_mk, C.neq_mk, C.lss_mk, C.leq_mk, C.gtr_mk, C.geq_mk, C.conv_mk, C.len_mk, C.ext_0, C.ext_1, C.ext3_0, C.ext3_1, C.ext3_2, C.guarded_yes, C.guarded_tf, C.guarded_ft, C.guarded_undef, Bool.not_true, Bool.not_false, Nat.zero_add, eq_self, decide_true, decide_false]
    refine C.load1_of hg h2 (C.len_rd hfv ?_)
    rw [intC_len]
    simp only [C.ite_true, C.ite_false, C.pick_true, C.pick_false, C.not_bool, C.field_ptr, C.nilCheck_ptr, C.add_mk, C.sub_mk, C.mul_mk, C.eql_mk, C.neq_mk, C.lss_mk, C.leq_mk, C.gtr_mk, C.geq_mk, C.conv_mk, C.len_mk, C.ext_0, C.ext_1, C.ext3_0, C.ext3_1, C.ext3_2, C.guarded_yes, C.guarded_tf, C.guarded_ft, C.guarded_undef, Bool.not_true, Bool.not_false, Nat.zero_add, eq_self, decide_true, decide_false]
    refine F44.k11.to ?_
    simp only [C.ite_true, C.ite_false, C.pick_true, C.pick_false, C.not_bool, C.field_ptr, C.nilCheck_ptr, C.add_mk, C.sub_mk, C.mul_mk, C.eql_mk, C.neq_mk, C.lss_mk, C.leq_mk, C.gtr_mk, C.geq_mk, C.conv_mk, C.len_mk, C.ext_0, C.ext_1, C.ext3_0, C.ext3_1, C.ext3_2, C.guarded_yes, C.guarded_tf, C.guarded_ft, C.guarded_undef, Bool.not_true, Bool.not_false, Nat.zero_add, eq_self, decide_true, decide_false]
    rw [wrap64_id (n := (szS m (o.take j) : Int) + 1) (by omega), wrap64_id (n := (szS m (o.take j) : Int) + 1 + (m[o[j]].fs.length : Int)) (by omega), wrap64_id (n := (j : Int) + 1) (by omega), show (j : Int) + 1 = ((j + 1 : Nat) : Int) by omega, show (szS m (o.take j) : Int) + 1 + (m[o[j]].fs.length : Int) = (szS m (o.take (j + 1)) : Int) by omega]
    exact ih (j + 1) w (by omega) hf
theorem rmoved_loop {W0 : World} {mv ov wv : Value} {m : List Ob} {fs : List Value} {o : List Nat} {ws : List Int} (hM : ObsAt W0 mv m fs) (ho : RdS W0 ov 1 (intC (natI o))) (hP : Pls m o) (hsz : szS m o ≤ 2048) (hws : RdS W0 wv 1 (intC ws)) (hr : Rng ws) (hfw : fineL m ws) (hin : ∀ x ∈ ws, ∀ p, wPl m x = some p → p ∈ o) (hwl : ws.length ≤ 17592186044415)
    (h : ∀ nv w', Fr [] W0 w' → NewS W0 nv → OwnS w' nv 2 1 (intC (ws.map (movW m o))) → K nv w') :
    ∀ (d j : Nat) (w : World) (nv : Value), ws.length = j + d → Fr [] W0 w → NewS W0 nv → OwnS w nv 2 1 (intC ((ws.take j).map (movW m o))) → F44.l3 K mv ov wv nv (.int .i64 (j : Int)) w := by
  intro d
  induction d with
  | zero =>
    intro j w nv hj hf hn hnv
    refine F44.l3.to (C.len_rd hws ?_)
    rw [intC_len]
    simp only [C.ite_true, C.ite_false, C.pick_true, C.pick_false, C.not_bool, C.field_ptr, C.nilCheck_ptr, C.add_mk, C.sub_mk, C.mul_mk, C.eql_mk, C.neq_mk, C.lss_mk, C.leq_mk, C.gtr_mk, C.geq_mk, C.conv_mk, C.len_mk, C.ext_0, C.ext_1, C.ext3_0, C.ext3_1, C.ext3_2, C.guarded_yes, C.guarded_tf, C.guarded_ft, C.guarded_undef, Bool.not_true, Bool.not_false, Nat.zero_add, eq_self, decide_true, decide_false, show ¬ ((j : Int) < (ws.length : Int)) by omega]
    rw [List.take_of_length_le (by omega)] at hnv
    exact F44.k15.to (h nv w hf hn hnv)
  | succ d ih =>
    intro j w nv hj hf hn hnv
    have jl : j < ws.length := by omega
    have hinx := List.getElem_mem jl
    have hfx := hfw _ hinx
    refine F44.l3.to (C.len_rd hws ?_)
    rw [intC_len]
    simp only [C.ite_true, C.ite_false, C.pick_true, C.pick_false, C.not_bool, C.field_ptr, C.nilCheck_ptr, C.add_mk, C.sub_mk, C.mul_mk, C.eql_mk, C.neq_mk, C.lss_mk, C.leq_mk, C.gtr_mk, C.geq_mk, C.conv_mk, C.len_mk, C.ext_0, C.ext_1, C.ext3_0, C.ext3_1, C.ext3_2, C.guarded_yes, C.guarded_tf, C.guarded_ft, C.guarded_undef, Bool.not_true, Bool.not_false, Nat.zero_add, eq_self, decide_true, decide_false, show ((j : Int) < (ws.length : Int)) by omega]
    have fin : ∀ w', Fr [] w w' → F44.k14 K mv ov wv nv (.int .i64 (j : Int)) (.int .i64 (movW m o ws[j])) w' := fun w' hf' => by
      refine F44.k14.to (C.appW (hf.trans hf') hn (hnv.keep hf' (by simp)) (by simp; omega) fun nv' w1 hf1 hn1 ho1 _ _ => ?_)
      refine F44.k4.to ?_
      simp only [C.ite_true, C.ite_false, C.pick_true, C.pick_false, C.not_bool, C.field_ptr, C.nilCheck_ptr, C.add_mk, C.sub_mk, C.mul_mk, C.eql_mk, C.neq_mk, C.lss_mk, C.leq_mk, C.gtr_mk, C.geq_mk, C.conv_mk, C.len_mk, C.ext_0, C.ext_1, C.ext3_0, C.ext3_1, C.ext3_2, C.guarded_yes, C.guarded_tf, C.guarded_ft, C.guarded_undef, Bool.not_true, Bool.not_false, Nat.zero_add, eq_self, decide_true, decide_false]
      rw [wrap64_id (n := (j : Int) + 1) (by omega), show (j : Int) + 1 = ((j + 1 : Nat) : Int) by omega]
      refine ih (j + 1) w1 nv' (by omega) hf1 hn1 ?_
      rw [take_snoc jl, List.map_append]
      exact ho1
    refine F44.k5.to (C.idx_int (hws.keep hf) jl fun g oo cs e fz hg hv => C.load1_of hg hv (RefRead_c _ (hr _ hinx) (fun hc w1 hf1 => ?_) (fun hc w1 hf1 => absurd (of_decide_eq_true (fine_ok hfx)) hc)))
    simp only [C.ite_true, C.ite_false, C.pick_true, C.pick_false, C.not_bool, C.field_ptr, C.nilCheck_ptr, C.add_mk, C.sub_mk, C.mul_mk, C.eql_mk, C.neq_mk, C.lss_mk, C.leq_mk, C.gtr_mk, C.geq_mk, C.conv_mk, C.len_mk, C.ext_0, C.ext_1, C.ext3_0, C.ext3_1, C.ext3_2, C.guarded_yes, C.guarded_tf, C.guarded_ft, C.guarded_undef, Bool.not_true, Bool.not_false, Nat.zero_add, eq_self, decide_true, decide_false]
    refine readPut fun b w2 hf2 _ hb => ?_
    have f2 := hf1.trans hf2
    refine C.idx_int (hws.keep (hf.trans f2)) jl fun g oo cs e fz hg hv => C.load1_of hg hv ?_
    simp only [C.ite_true, C.ite_false, C.pick_true, C.pick_false, C.not_bool, C.field_ptr, C.nilCheck_ptr, C.add_mk, C.sub_mk, C.mul_mk, C.eql_mk, C.neq_mk, C.lss_mk, C.leq_mk, C.gtr_mk, C.geq_mk, C.conv_mk, C.len_mk, C.ext_0, C.ext_1, C.ext3_0, C.ext3_1, C.ext3_2, C.guarded_yes, C.guarded_tf, C.guarded_ft, C.guarded_undef, Bool.not_true, Bool.not_false, Nat.zero_add, eq_self, decide_true, decide_false]
    refine C.load1_of (v := .int .i64 (rdK ws[j])) hb rfl ?_
    by_cases k2 : rdK ws[j] = 2
    · have hw : wRef ws[j] = some (rdN ws[j]).toNat := by unfold wRef; rw [if_pos ⟨hc, k2⟩]
      have hn2 := (wRef_ok hw).2.2
      obtain ⟨p, hp, hwp⟩ := fine_pl hfx hw
      simp only [C.ite_true, C.ite_false, C.pick_true, C.pick_false, C.not_bool, C.field_ptr, C.nilCheck_ptr, C.add_mk, C.sub_mk, C.mul_mk, C.eql_mk, C.neq_mk, C.lss_mk, C.leq_mk, C.gtr_mk, C.geq_mk, C.conv_mk, C.len_mk, C.ext_0, C.ext_1, C.ext3_0, C.ext3_1, C.ext3_2, C.guarded_yes, C.guarded_tf, C.guarded_ft, C.guarded_undef, Bool.not_true, Bool.not_false, Nat.zero_add, eq_self, decide_true, decide_false, k2]
      refine C.load1_of (v := .int .i64 (rdN ws[j])) hb rfl ?_
      rw [hn2]
      refine Find_c (hM.keep (hf.trans f2)) ?_
      have e : plI m (rdN ws[j]).toNat = (p : Int) := by unfold plI; rw [hp]
      rw [e]
      have hpo := hin _ hinx p hwp
      have hpl := pos_lt (m := m) hpo
      have hsp : 1 ≤ szA m p := by unfold szA; omega
      refine pos_loop (W0 := w2) (hM.keep (hf.trans f2)) (ho.keep (hf.trans f2)) hP hpo hsz (fun w3 hf3 => ?_) (o.idxOf p) 0 w2 (by omega) (Fr.refl _ _)
      refine F44.k13.to (C.run_of (buildV _ _) (RefPut_c 2 _ (by unfold chk; rw [if_neg (by decide), if_neg (by decide), if_pos rfl, if_pos (by omega)]) fun w4 hf4 => ?_))
      have e2 : putW 2 (pos m o p : Int) = movW m o ws[j] := by
        rw [mov_some hwp]
        unfold putW
        rw [if_pos rfl]
      rw [e2]
      exact fin w4 ((f2.trans hf3).trans hf4)
    · have hw : wRef ws[j] = none := by unfold wRef; rw [if_neg fun c => k2 c.2]
      simp only [C.ite_true, C.ite_false, C.pick_true, C.pick_false, C.not_bool, C.field_ptr, C.nilCheck_ptr, C.add_mk, C.sub_mk, C.mul_mk, C.eql_mk, C.neq_mk, C.lss_mk, C.leq_mk, C.gtr_mk, C.geq_mk, C.conv_mk, C.len_mk, C.ext_0, C.ext_1, C.ext3_0, C.ext3_1, C.ext3_2, C.guarded_yes, C.guarded_tf, C.guarded_ft, C.guarded_undef, Bool.not_true, Bool.not_false, Nat.zero_add, eq_self, decide_true, decide_false, k2]
      have := fin w2 f2
      rwa [mov_none (wPl_none hw)] at this
theorem rmoved_c {mv ov wv : Value} {m : List Ob} {fs : List Value} {o : List Nat} {ws : List Int} (hM : ObsAt w mv m fs) (ho : RdS w ov 1 (intC (natI o))) (hP : Pls m o) (hsz : szS m o ≤ 2048) (hws : RdS w wv 1 (intC ws)) (hr : Rng ws) (hfw : fineL m ws) (hin : ∀ x ∈ ws, ∀ p, wPl m x = some p → p ∈ o) (hwl : ws.length ≤ 17592186044415)
    (h : ∀ nv w', Fr [] w w' → NewS w nv → OwnS w' nv 2 1 (intC (ws.map (movW m o))) → K nv w') : C.call Try.prog 44 #[mv, ov, wv] w K :=
  F44.sh (rmoved_loop hM ho hP hsz hws hr hfw hin hwl h ws.length 0 w (.slice none 0 0) (by omega) (Fr.refl _ _) (NewS.nil _) (OwnS.nil _ _ _))
theorem Lay_loop {W0 : World} {mv ov rv : Value} {l roots : List Int} {m : List Ob} {fs : List Value} {o : List Nat} (hM : ObsAt W0 mv m fs) (hL : Lyd l m roots o) (hr : Rng l) (hrr : Rng roots) (hrl : roots.length ≤ 17592186044415) (ho : RdS W0 ov 1 (intC (natI o))) (hrv : RdS W0 rv 1 (intC roots))
    (h : ∀ tv hv w', Fr [] W0 w' → OwnS w' tv 2 1 (intC (lay m o)) → OwnS w' hv 2 1 (intC (roots.map (movW m o))) → K (.tuple #[tv, hv]) w') :
    ∀ (d j : Nat) (w : World) (tv : Value), o.length = j + d → Fr [] W0 w → NewS W0 tv → OwnS w tv 2 1 (intC (layS m o (o.take j))) → F19.l3 K mv ov rv tv (.int .i64 (j : Int)) w := by
  have hsz := hL.pls.sz hL.spl
  have hfew := hL.few
  have hol := hL.pls.len
  have hml := hL.spl.len
  intro d
  induction d with
  | zero =>
    intro j w tv hj hf hn ht
    refine F19.l3.to (C.len_rd ho ?_)
    rw [intC_len, natI_len]
    simp only [C.ite_true, C.ite_false, C.pick_true, C.pick_false, C.not_bool, C.field_ptr, C.nilCheck_ptr, C.add_mk, C.sub_mk, C.mul_mk, C.eql_mk, C.neq_mk, C.lss_mk, C.leq_mk, C.gtr_mk, C.geq_mk, C.conv_mk, C.len_mk, C.ext_0, C.ext_1, C.ext3_0, C.ext3_1, C.ext3_2, C.guarded_yes, C.guarded_tf, C.guarded_ft, C.guarded_undef, Bool.not_true, Bool.not_false, Nat.zero_add, eq_self, decide_true, decide_false, show ¬ ((j : Int) < (o.length : Int)) by omega]
    rw [List.take_of_length_le (by omega)] at ht
    refine F19.k8.to (rmoved_c (hM.keep hf) (ho.keep hf) hL.pls (by omega) (hrv.keep hf) hrr hL.fr hL.root hrl fun hv w1 hf1 hn1 ho1 => ?_)
    exact h tv hv w1 (hf.trans hf1) (ht.keep hf1 (by simp)) ho1
  | succ d ih =>
    intro j w tv hj hf hn ht
    have jl : j < o.length := by omega
    have jl' : j < (natI o).length := by rw [natI_len]; exact jl
    have hq := hL.pls.2 _ (List.getElem_mem jl)
    have hM' := hM.keep hf
    obtain ⟨b1, b2, b3⟩ := hL.spl.fits m[o[j]] (List.getElem_mem hq)
    have htl : (layS m o (o.take j)).length ≤ 2048 := by
      rw [layS_len]
      have := (show Pls m (o.take j) from ⟨hL.pls.1.sublist (List.take_sublist _ _), fun p hp => hL.pls.2 p (List.mem_of_mem_take hp)⟩).sz hL.spl
      omega
    refine F19.l3.to (C.len_rd ho ?_)
    rw [intC_len, natI_len]
    simp only [C.ite_true, C.ite_false, C.pick_true, C.pick_false, C.not_bool, C.field_ptr, C.nilCheck_ptr, C.add_mk, C.sub_mk, C.mul_mk, C.eql_mk, C.neq_mk, C.lss_mk, C.leq_mk, C.gtr_mk, C.geq_mk, C.conv_mk, C.len_mk, C.ext_0, C.ext_1, C.ext3_0, C.ext3_1, C.ext3_2, C.guarded_yes, C.guarded_tf, C.guarded_ft, C.guarded_undef, Bool.not_true, Bool.not_false, Nat.zero_add, eq_self, decide_true, decide_false, show ((j : Int) < (o.length : Int)) by omega]
    refine F19.k5.to (C.idx_int (ho.keep hf) jl' fun g oo cs e fz hg hv => C.load1_of hg hv ?_)
    rw [natI_get jl jl']
    refine hM.get0 hf hq fun g o2 cs e fz fv hg h0 h1 h2 hfv => C.loadA_cells (x := [.int .i64 (m[o[j]].at_ : Int), .int .i64 m[o[j]].ser, fv]) hg rfl (by omega) (fun i hi => ?_) ?_
    · match i, hi with
      | 0, _ => simpa using h0
      | 1, _ => simpa using h1
      | 2, _ => simpa using h2
    have e3 : Value.cells (.agg #[.int .i64 (m[o[j]].at_ : Int), .int .i64 m[o[j]].ser, fv]) = #[.int .i64 (m[o[j]].at_ : Int), .int .i64 m[o[j]].ser, fv] := by simp [Value.cells, hfv.one.2]
    refine C.new_of fun b w1 hn1 => C.store_all (x := .agg #[.int .i64 (m[o[j]].at_ : Int), .int .i64 m[o[j]].ser, fv]) hn1.at_ (by rw [e3]; rfl) (by
      rw [e3]
      intro u hu
      simp only [List.mem_cons, List.not_mem_nil, or_false] at hu
      rcases hu with rfl | rfl | rfl
      · rfl
      · rfl
      · exact hfv.one.1) rfl fun w2 hu2 => ?_
    have hb := hu2.at_
    rw [e3] at hb
    have i1 := hn1.is
    have f02 : Fr [] w w2 := hn1.fr.then hu2.fr fun z hz => .inr (by simp only [List.mem_singleton] at hz; omega)
    simp only [C.ite_true, C.ite_false, C.pick_true, C.pick_false, C.not_bool, C.field_ptr, C.nilCheck_ptr, C.add_mk, C.sub_mk, C.mul_mk, C.eql_mk, C.neq_mk, C.lss_mk, C.leq_mk, C.gtr_mk, C.geq_mk, C.conv_mk, C.len_mk, C.ext_0, C.ext_1, C.ext3_0, C.ext3_1, C.ext3_2, C.guarded_yes, C.guarded_tf, C.guarded_ft, C.guarded_undef, Bool.not_true, Bool.not_false, Nat.zero_add, eq_self, decide_true, decide_false]
    refine C.load1_of (v := .int .i64 m[o[j]].ser) hb rfl ?_
    simp only [C.ite_true, C.ite_false, C.pick_true, C.pick_false, C.not_bool, C.field_ptr, C.nilCheck_ptr, C.add_mk, C.sub_mk, C.mul_mk, C.eql_mk, C.neq_mk, C.lss_mk, C.leq_mk, C.gtr_mk, C.geq_mk, C.conv_mk, C.len_mk, C.ext_0, C.ext_1, C.ext3_0, C.ext3_1, C.ext3_2, C.guarded_yes, C.guarded_tf, C.guarded_ft, C.guarded_undef, Bool.not_true, Bool.not_false, Nat.zero_add, eq_self, decide_true, decide_false]
    refine C.load1_of (v := fv) hb rfl (C.len_rd hfv ?_)
    rw [intC_len]
    simp only [C.ite_true, C.ite_false, C.pick_true, C.pick_false, C.not_bool, C.field_ptr, C.nilCheck_ptr, C.add_mk, C.sub_mk, C.mul_mk, C.eql_mk, C.neq_mk, C.lss_mk, C.leq_mk, C.gtr_mk, C.geq_mk, C.conv_mk, C.len_mk, C.ext_0, C.ext_1, C.ext3_0, C.ext3_1, C.ext3_2, C.guarded_yes, C.guarded_tf, C.guarded_ft, C.guarded_undef, Bool.not_true, Bool.not_false, Nat.zero_add, eq_self, decide_true, decide_false]
    rw [wrap64_id (n := m[o[j]].ser * 128) (by omega), wrap64_id (n := m[o[j]].ser * 128 + (m[o[j]].fs.length : Int)) (by omega)]
    refine C.appW (hf.trans f02) hn (ht.keep f02 (by simp)) (by omega) fun tv3 w3 hf3 hn3 ho3 hb3 hg3 => ?_
    have hb3' := hb3.at_ hb ((ht.keep f02 (by simp)).nb hb (by decide))
    try simp only [C.ite_true, C.ite_false, C.pick_true, C.pick_false, C.not_bool, C.field_ptr, C.nilCheck_ptr, C.add_mk, C.sub_mk, C.mul_mk, C.eql_mk, C.neq_mk, C.lss_mk, C.leq_mk, C.gtr_mk, C.geq_mk, C.conv_mk, C.len_mk, C.ext_0, C.ext_1, C.ext3_0, C.ext3_1, C.ext3_2, C.guarded_yes, C.guarded_tf, C.guarded_ft, C.guarded_undef, Bool.not_true, Bool.not_false, Nat.zero_add, eq_self, decide_true, decide_false]
    refine C.load1_of (v := fv) hb3' rfl ?_
    -- the fields, as they were ahead
    refine rmoved_c (hM.keep hf3) (ho.keep hf3) hL.pls (by omega) (ws := m[o[j]].fs) (hfv.keep hf3) (hr.fs hL.spl hq) (hL.fine _ (List.getElem_mem hq)) (fun x hx p hp => hL.closed _ (List.getElem_mem jl) x (by rw [fsA_get hq]; exact hx) p hp) (by omega) fun nv w4 hf4 hn4 ho4 => ?_
    refine C.appWs (hf3.trans hf4) hn3 (ho3.keep hf4 (by simp)) ho4.rd (by simp; omega) fun tv5 w5 hf5 hn5 ho5 _ _ => ?_
    refine F19.k4.to ?_
    simp only [C.ite_true, C.ite_false, C.pick_true, C.pick_false, C.not_bool, C.field_ptr, C.nilCheck_ptr, C.add_mk, C.sub_mk, C.mul_mk, C.eql_mk, C.neq_mk, C.lss_mk, C.leq_mk, C.gtr_mk, C.geq_mk, C.conv_mk, C.len_mk, C.ext_0, C.ext_1, C.ext3_0, C.ext3_1, C.ext3_2, C.guarded_yes, C.guarded_tf, C.guarded_ft, C.guarded_undef, Bool.not_true, Bool.not_false, Nat.zero_add, eq_self, decide_true, decide_false]
    rw [wrap64_id (n := (j : Int) + 1) (by omega), show (j : Int) + 1 = ((j + 1 : Nat) : Int) by omega]
    refine ih (j + 1) w5 tv5 (by omega) hf5 hn5 ?_
    have et : o.take (j + 1) = o.take j ++ [o[j]] := by rw [List.take_add_one, List.getElem?_eq_getElem jl]; rfl
    have e6 : hdA m o[j] = m[o[j]].ser * 128 + (m[o[j]].fs.length : Int) := by rw [hdA_get hq]; rfl
    rw [et]
    have e5 : layS m o (o.take j ++ [o[j]]) = layS m o (o.take j) ++ [m[o[j]].ser * 128 + (m[o[j]].fs.length : Int)] ++ m[o[j]].fs.map (movW m o) := by
      rw [layS_app, layS_one, e6, fsA_get hq, List.append_assoc]
      rfl
    rw [e5]
    exact ho5
theorem Lay_c {mv ov rv : Value} {l roots : List Int} {m : List Ob} {fs : List Value} {o : List Nat} (hM : ObsAt w mv m fs) (hL : Lyd l m roots o) (hr : Rng l) (hrr : Rng roots) (hrl : roots.length ≤ 17592186044415) (ho : RdS w ov 1 (intC (natI o))) (hrv : RdS w rv 1 (intC roots))
    (h : ∀ tv hv w', Fr [] w w' → OwnS w' tv 2 1 (intC (lay m o)) → OwnS w' hv 2 1 (intC (roots.map (movW m o))) → K (.tuple #[tv, hv]) w') : C.call Try.prog 19 #[mv, ov, rv] w K :=
  F19.sh (Lay_loop hM hL hr hrr hrl ho hrv h o.length 0 w (.slice none 0 0) (by omega) (Fr.refl _ _) (NewS.nil _) (OwnS.nil _ _ _))
end
end Go.Proofs.YtfjilngljnlkjaaV
namespace Go.Proofs.YtfjilngljnlkjaaV
open Go Go.Proofs Go.RowKit
set_option linter.unusedVariables false
set_option linter.unusedSimpArgs false
set_option maxRecDepth 10000
theorem list_eq_of {α : Type} {a b : List α} {i : Nat} (hl : a.length = b.length) (hi : a.length ≤ i) (h : ∀ j, j < i → a[j]? = b[j]?) : a = b := List.ext_getElem? fun j => by
  by_cases hj : j < i
  · exact h j hj
  · rw [List.getElem?_eq_none (by omega), List.getElem?_eq_none (by omega)]
theorem step_eq {α : Type} {a b : List α} {i : Nat} (ha : i < a.length) (hb : i < b.length) (h : ∀ j, j < i → a[j]? = b[j]?) (he : a[i] = b[i]) : ∀ j, j < i + 1 → a[j]? = b[j]? := fun j hj => by
  by_cases e : j = i
  · subst e; rw [List.getElem?_eq_getElem ha, List.getElem?_eq_getElem hb, he]
  · exact h j (by omega)
/-! ### 1. Views in memory -/
def slC (vs : List Value) : List (List Value) := vs.map fun v => [v]
theorem slC_len (vs : List Value) : (slC vs).length = vs.length := by simp [slC]
theorem slC_get {vs : List Value} {j : Nat} (h : j < vs.length) : (slC vs)[j]? = some [vs[j]] := by simp [slC, h]
theorem slC_app (a b : List Value) : slC (a ++ b) = slC a ++ slC b := by simp [slC]
def valC (l : List Va) : List (List Value) := l.map fun x => [.int .i64 x.1, .int .i64 x.2]
theorem valC_len (l : List Va) : (valC l).length = l.length := by simp [valC]
theorem valC_get {l : List Va} {j : Nat} (h : j < l.length) : (valC l)[j]? = some [.int .i64 l[j].1, .int .i64 l[j].2] := by simp [valC, h]
theorem valC_app (a b : List Va) : valC (a ++ b) = valC a ++ valC b := by simp [valC]
theorem valC_one {l : List Va} : ∀ y ∈ valC l, ∀ u ∈ y, u.oneCell' = true := by
  intro y hy u hu
  simp only [valC, List.mem_map] at hy
  obtain ⟨x, _, rfl⟩ := hy
  simp only [List.mem_cons, List.not_mem_nil, or_false] at hu
  rcases hu with rfl | rfl <;> rfl
def ndC (N : List Nd) (fs : List Value) : List (List Value) := List.zipWith (fun nd f => [.int .i64 nd.1, f]) N fs
theorem ndC_len {N : List Nd} {fs : List Value} (h : fs.length = N.length) : (ndC N fs).length = N.length := by simp [ndC, h]
theorem ndC_get {N : List Nd} {fs : List Value} {j : Nat} (h : j < N.length) (h' : j < fs.length) : (ndC N fs)[j]? = some [.int .i64 N[j].1, fs[j]] := by simp [ndC, List.getElem?_zipWith, List.getElem?_eq_getElem h, List.getElem?_eq_getElem h']
def boolC (l : List Bool) : List (List Value) := l.map fun b => [.bool b]
theorem boolC_len (l : List Bool) : (boolC l).length = l.length := by simp [boolC]
theorem boolC_get {l : List Bool} {j : Nat} (h : j < l.length) : (boolC l)[j]? = some [.bool l[j]] := by simp [boolC, h]
theorem boolC_set (l : List Bool) (j : Nat) (b : Bool) : (boolC l).set j [.bool b] = boolC (l.set j b) := by simp [boolC, List.map_set]
def RowsV (w : World) (rv : Value) (L : List (List Va)) : Prop := ∃ vs : List Value, RdS w rv 1 (slC vs) ∧ vs.length = L.length ∧ ∀ i (h : i < L.length) (h' : i < vs.length), RdS w vs[i] 2 (valC L[i])
theorem RowsV.keep {w w' : World} {rv : Value} {L : List (List Va)} (h : RowsV w rv L) (hf : Fr [] w w') : RowsV w' rv L := by
  obtain ⟨vs, h1, h2, h3⟩ := h
  exact ⟨vs, h1.keep hf, h2, fun i a b => (h3 i a b).keep hf⟩
def NodesAt (w : World) (nv : Value) (N : List Nd) : Prop := ∃ fs : List Value, fs.length = N.length ∧ RdS w nv 2 (ndC N fs) ∧ ∀ i (h : i < N.length) (h' : i < fs.length), RdS w fs[i] 2 (valC N[i].2)
theorem NodesAt.keep {w w' : World} {nv : Value} {N : List Nd} (h : NodesAt w nv N) (hf : Fr [] w w') : NodesAt w' nv N := by
  obtain ⟨fs, h1, h2, h3⟩ := h
  exact ⟨fs, h1, h2.keep hf, fun i a b => (h3 i a b).keep hf⟩
structure IsV (w : World) (rv nv : Value) (V : Vw) : Prop where
  rows : RowsV w rv V.1
  nodes : NodesAt w nv V.2
theorem IsV.keep {w w' : World} {rv nv : Value} {V : Vw} (h : IsV w rv nv V) (hf : Fr [] w w') : IsV w' rv nv V := ⟨h.rows.keep hf, h.nodes.keep hf⟩
theorem RowsV.one {w : World} {rv : Value} {L : List (List Va)} (h : RowsV w rv L) : rv.oneCell' = true ∧ rv.cells = #[rv] := by
  obtain ⟨vs, h1, _⟩ := h
  exact h1.one
theorem NodesAt.one {w : World} {nv : Value} {N : List Nd} (h : NodesAt w nv N) : nv.oneCell' = true ∧ nv.cells = #[nv] := by
  obtain ⟨fs, _, h1, _⟩ := h
  exact h1.one
theorem IsV.cells {w : World} {rv nv : Value} {V : Vw} (h : IsV w rv nv V) : Value.cells (.agg #[rv, nv]) = #[rv, nv] := by
  simp [Value.cells, h.rows.one.2, h.nodes.one.2]
theorem IsV.ones {w : World} {rv nv : Value} {V : Vw} (h : IsV w rv nv V) : ∀ u ∈ (Value.cells (.agg #[rv, nv])).toList, u.oneCell' = true := by
  rw [h.cells]
  intro u hu
  simp only [List.mem_cons, List.not_mem_nil, or_false] at hu
  rcases hu with rfl | rfl
  · exact h.rows.one.1
  · exact h.nodes.one.1
theorem RowsV.le {w : World} {rv : Value} {L : List (List Va)} (h : RowsV w rv L) : L.length ≤ 9223372036854775807 := by
  obtain ⟨vs, h1, h2, _⟩ := h
  have := h1.le
  rw [slC_len] at this
  omega
theorem NodesAt.le {w : World} {nv : Value} {N : List Nd} (h : NodesAt w nv N) : N.length ≤ 9223372036854775807 := by
  obtain ⟨fs, h1, h2, _⟩ := h
  have := h2.le
  rwa [ndC_len h1] at this
/-- A view's block. -/
def VB (w : World) (b : Nat) (rv nv : Value) : Prop := w.heap[b]? = some (.cells #[rv, nv] 42 (0, 0))
theorem VB.keep {S : List Nat} {w w' : World} {b : Nat} {rv nv : Value} (h : VB w b rv nv) (hf : Fr S w w') (hS : b ∉ S) : VB w' b rv nv := hf.at_ h hS
section
variable {K : VK} {w : World}
theorem VB.f0 {b : Nat} {rv nv : Value} (h : VB w b rv nv) (hk : K rv w) : C.field 0 (.pointer (some ⟨b, 0, none⟩)) w fun p w1 => C.load1 p w1 K := by
  simp only [C.ite_true, C.ite_false, C.pick_true, C.pick_false, C.not_bool, C.field_ptr, C.nilCheck_ptr, C.add_mk, C.sub_mk, C.mul_mk, C.eql_mk, C.neq_mk, C.lss_mk, C.leq_mk, C.gtr_mk, C.geq_mk, C.conv_mk, C.len_mk, C.ext_0, C.ext_1, C.ext3_0, C.ext3_1, C.ext3_2, C.guarded_yes, C.guarded_tf, C.guarded_ft, C.guarded_undef, Bool.not_true, Bool.not_false, Nat.zero_add, eq_self, decide_true, decide_false]
  exact C.load1_of h rfl hk
theorem VB.f1 {b : Nat} {rv nv : Value} (h : VB w b rv nv) (hk : K nv w) : C.field 1 (.pointer (some ⟨b, 0, none⟩)) w fun p w1 => C.load1 p w1 K := by
  simp only [C.ite_true, C.ite_false, C.pick_true, C.pick_false, C.not_bool, C.field_ptr, C.nilCheck_ptr, C.add_mk, C.sub_mk, C.mul_mk, C.eql_mk, C.neq_mk, C.lss_mk, C.leq_mk, C.gtr_mk, C.geq_mk, C.conv_mk, C.len_mk, C.ext_0, C.ext_1, C.ext3_0, C.ext3_1, C.ext3_2, C.guarded_yes, C.guarded_tf, C.guarded_ft, C.guarded_undef, Bool.not_true, Bool.not_false, Nat.zero_add, eq_self, decide_true, decide_false]
  exact C.load1_of h rfl hk
theorem VB.all {b : Nat} {rv nv : Value} (h : VB w b rv nv) (hk : K (.agg #[rv, nv]) w) : C.loadA 2 (.pointer (some ⟨b, 0, none⟩)) w K := C.loadA_all h rfl hk
theorem VB.new {rv nv : Value} {V : Vw} (hV : IsV w rv nv V) (hk : ∀ b w', Fr [] w w' → w.heap.size ≤ b → VB w' b rv nv → IsV w' rv nv V → K (.pointer (some ⟨b, 0, none⟩)) w') : C.new (.cells (Value.cells (.agg #[rv, nv])) 42) w K := by
  refine C.new_of fun b w1 hn => hk b w1 hn.fr (by have := hn.is; omega) ?_ (hV.keep hn.fr)
  have := hn.at_
  rw [hV.cells] at this
  exact this
theorem NodesAt.len {nv : Value} {N : List Nd} (h : NodesAt w nv N) {w1 : World} (hk : K (.int .i64 (N.length : Int)) w1) : C.len nv w1 K := by
  obtain ⟨fs, h1, ⟨A, c, rfl, _⟩, _⟩ := h
  rw [ndC_len h1]
  simpa only [C.len_mk] using hk
theorem RowsV.len {rv : Value} {L : List (List Va)} (h : RowsV w rv L) {w1 : World} (hk : K (.int .i64 (L.length : Int)) w1) : C.len rv w1 K := by
  obtain ⟨vs, ⟨A, c, rfl, _⟩, h2, _⟩ := h
  rw [slC_len, h2]
  simpa only [C.len_mk] using hk
theorem RowsV.get {rv : Value} {L : List (List Va)} {i : Nat} (h : RowsV w rv L) (hi : i < L.length) (hk : ∀ v, RdS w v 2 (valC L[i]) → K v w) : C.idx 1 rv (.int .i64 (i : Int)) w fun p w1 => C.load1 p w1 K := by
  obtain ⟨vs, h1, h2, h3⟩ := h
  have hi' : i < vs.length := by omega
  refine C.idx_rd h1 (by omega) (by rw [Int.toNat_natCast]; exact slC_get hi') fun g o cs e fz hg _ hc => C.load1_of hg (v := vs[i]) ?_ (hk _ (h3 i hi hi'))
  have := hc 0 (by omega)
  simpa using this
theorem NodesAt.get {nv : Value} {N : List Nd} {i : Nat} (h : NodesAt w nv N) (hi : i < N.length)
    (hk : ∀ g o cs e fz f, w.heap[g]? = some (.cells cs e fz) → cs[o]? = some (.int .i64 N[i].1) → cs[o + 1]? = some f → RdS w f 2 (valC N[i].2) → K (.pointer (some ⟨g, o, none⟩)) w) : C.idx 2 nv (.int .i64 (i : Int)) w K := by
  obtain ⟨fs, h1, h2, h3⟩ := h
  have hi' : i < fs.length := by omega
  refine C.idx_rd h2 (by omega) (by rw [Int.toNat_natCast]; exact ndC_get hi hi') fun g o cs e fz hg _ hc => hk g o cs e fz fs[i] hg ?_ ?_ (h3 i hi hi')
  · simpa using hc 0 (by omega)
  · simpa using hc 1 (by omega)
/-- A node's two cells, loaded at once. -/
theorem loadNd {g o : Nat} {cs : Array Value} {e : TypeId} {fz : Nat × Nat} {s f : Value} (hg : w.heap[g]? = some (.cells cs e fz)) (h0 : cs[o]? = some s) (h1 : cs[o + 1]? = some f) (hk : K (.agg #[s, f]) w) : C.loadA 2 (.pointer (some ⟨g, o, none⟩)) w K := by
  refine C.loadA_cells (x := [s, f]) hg rfl (by omega) (fun j hj => ?_) hk
  match j, hj with
  | 0, _ => simpa using h0
  | 1, _ => simpa using h1
/-! ### 3. Values compared -/
theorem neqV (x y : Operand) (a b : Va) : (do eqGuard .neq 75 x y (.agg #[.int .i64 a.1, .int .i64 a.2]) (.agg #[.int .i64 b.1, .int .i64 b.2]); binOp .neq 75 (.agg #[.int .i64 a.1, .int .i64 a.2]) (.agg #[.int .i64 b.1, .int .i64 b.2]) : Sem Value).run Try.prog w = .ok (.bool (!([a.1, a.2] == [b.1, b.2]))) w :=
  neq_ints (ks := [.i64, .i64]) x y Try.underlying75 (by kernel_rfl) (by kernel_rfl) (by kernel_rfl) [a.1, a.2] [b.1, b.2] rfl rfl
theorem va_beq (a b : Va) : (!([a.1, a.2] == [b.1, b.2])) = !(decide (a = b)) := by
  by_cases h : a = b
  · subst h; simp
  · have : ¬ (a.1 = b.1 ∧ a.2 = b.2) := fun c => h (Prod.ext c.1 c.2)
    rw [decide_eq_false h]
    simp only [Bool.not_false, Bool.not_eq_true', beq_eq_false_iff_ne]
    intro c
    simp only [List.cons.injEq, and_true] at c
    exact this c
theorem Values_loop {a b : Value} {xs ys : List Va} (ra : RdS w a 2 (valC xs)) (rb : RdS w b 2 (valC ys)) (hl : xs.length = ys.length) (h : ∀ w', Fr [] w w' → K (.bool (decide (xs = ys))) w') :
    ∀ (d i : Nat) (w' : World), xs.length = i + d → Fr [] w w' → (∀ j, j < i → xs[j]? = ys[j]?) → F45.l4 K a b (.int .i64 (i : Int)) w' := by
  have hl2 := ra.le
  rw [valC_len] at hl2
  intro d
  induction d with
  | zero =>
    intro i w' hi hf he
    refine F45.l4.to (C.len_rd (ra.keep hf) ?_)
    rw [valC_len]
    simp only [C.ite_true, C.ite_false, C.pick_true, C.pick_false, C.not_bool, C.field_ptr, C.nilCheck_ptr, C.add_mk, C.sub_mk, C.mul_mk, C.eql_mk, C.neq_mk, C.lss_mk, C.leq_mk, C.gtr_mk, C.geq_mk, C.conv_mk, C.len_mk, C.ext_0, C.ext_1, C.ext3_0, C.ext3_1, C.ext3_2, C.guarded_yes, C.guarded_tf, C.guarded_ft, C.guarded_undef, Bool.not_true, Bool.not_false, Nat.zero_add, eq_self, decide_true, decide_false, show ¬ ((i : Int) < (xs.length : Int)) by omega]
    refine F45.k8.to ?_
    have e : xs = ys := List.ext_getElem? fun j => by
      by_cases hj : j < i
      · exact he j hj
      · rw [List.getElem?_eq_none (by omega), List.getElem?_eq_none (by omega)]
    have := h w' hf
    rwa [decide_eq_true e] at this
  | succ d ih =>
    intro i w' hi hf he
    have hix : i < xs.length := by omega
    have hiy : i < ys.length := by omega
    refine F45.l4.to (C.len_rd (ra.keep hf) ?_)
    rw [valC_len]
    simp only [C.ite_true, C.ite_false, C.pick_true, C.pick_false, C.not_bool, C.field_ptr, C.nilCheck_ptr, C.add_mk, C.sub_mk, C.mul_mk, C.eql_mk, C.neq_mk, C.lss_mk, C.leq_mk, C.gtr_mk, C.geq_mk, C.conv_mk, C.len_mk, C.ext_0, C.ext_1, C.ext3_0, C.ext3_1, C.ext3_2, C.guarded_yes, C.guarded_tf, C.guarded_ft, C.guarded_undef, Bool.not_true, Bool.not_false, Nat.zero_add, eq_self, decide_true, decide_false, show ((i : Int) < (xs.length : Int)) by omega]
    refine F45.k6.to (C.draw_of (fun w2 => Fr [] w w2) fun w1 hf1 he1 => ⟨hf.trans hf1, ?_⟩)
    have f1 := hf.trans hf1
    refine C.idx_rdS (S := fun w2 => Fr [] w w2) (fun w2 hw => ra.keep hw) f1 (by omega) (by rw [Int.toNat_natCast]; exact valC_get hix) fun ga oa hl1 hs1 => ?_
    refine C.idx_rdS (S := fun w2 => Fr [] w w2) (fun w2 hw => rb.keep hw) f1 (by omega) (by rw [Int.toNat_natCast]; exact valC_get hiy) fun gb ob hl2 hs2 => ?_
    refine C.loadAS_cells hl1 (by omega) hs1 (C.loadAS_cells hl2 (by omega) hs2 ?_)
    refine ⟨_, fun w' _ => neqV _ _ _ _, ?_⟩
    rw [va_beq]
    by_cases hb : xs[i] = ys[i]
    · rw [hb, decide_eq_true rfl]
      simp only [C.ite_true, C.ite_false, C.pick_true, C.pick_false, C.not_bool, C.field_ptr, C.nilCheck_ptr, C.add_mk, C.sub_mk, C.mul_mk, C.eql_mk, C.neq_mk, C.lss_mk, C.leq_mk, C.gtr_mk, C.geq_mk, C.conv_mk, C.len_mk, C.ext_0, C.ext_1, C.ext3_0, C.ext3_1, C.ext3_2, C.guarded_yes, C.guarded_tf, C.guarded_ft, C.guarded_undef, Bool.not_true, Bool.not_false, Nat.zero_add, eq_self, decide_true, decide_false]
      refine F45.k5.to ?_
      simp only [C.ite_true, C.ite_false, C.pick_true, C.pick_false, C.not_bool, C.field_ptr, C.nilCheck_ptr, C.add_mk, C.sub_mk, C.mul_mk, C.eql_mk, C.neq_mk, C.lss_mk, C.leq_mk, C.gtr_mk, C.geq_mk, C.conv_mk, C.len_mk, C.ext_0, C.ext_1, C.ext3_0, C.ext3_1, C.ext3_2, C.guarded_yes, C.guarded_tf, C.guarded_ft, C.guarded_undef, Bool.not_true, Bool.not_false, Nat.zero_add, eq_self, decide_true, decide_false]
      rw [wrap64_id (n := (i : Int) + 1) (by omega), show (i : Int) + 1 = ((i + 1 : Nat) : Int) by omega]
      refine ih (i + 1) w1 (by omega) f1 fun j hj => ?_
      by_cases hji : j = i
      · subst hji
        rw [List.getElem?_eq_getElem hix, List.getElem?_eq_getElem hiy, hb]
      · exact he j (by omega)
    · rw [decide_eq_false hb]
      simp only [C.ite_true, C.ite_false, C.pick_true, C.pick_false, C.not_bool, C.field_ptr, C.nilCheck_ptr, C.add_mk, C.sub_mk, C.mul_mk, C.eql_mk, C.neq_mk, C.lss_mk, C.leq_mk, C.gtr_mk, C.geq_mk, C.conv_mk, C.len_mk, C.ext_0, C.ext_1, C.ext3_0, C.ext3_1, C.ext3_2, C.guarded_yes, C.guarded_tf, C.guarded_ft, C.guarded_undef, Bool.not_true, Bool.not_false, Nat.zero_add, eq_self, decide_true, decide_false]
      have ne : ¬ xs = ys := fun e => hb (by subst e; rfl)
      have := h w1 f1
      rwa [decide_eq_false ne] at this
theorem Values_c {a b : Value} {xs ys : List Va} (ra : RdS w a 2 (valC xs)) (rb : RdS w b 2 (valC ys)) (h : ∀ w', Fr [] w w' → K (.bool (decide (xs = ys))) w') : C.call Try.prog 45 #[a, b] w K := by
  refine F45.sh (C.len_rd ra (C.len_rd rb ?_))
  rw [valC_len, valC_len]
  by_cases e : (xs.length : Int) = (ys.length : Int)
  · have : ¬ ((xs.length : Int) ≠ (ys.length : Int)) := fun c => c e
    rw [C.neq_mk, decide_eq_false this, C.ite_false]
    exact F45.k3.to (Values_loop ra rb (by omega) h xs.length 0 w (by omega) (Fr.refl _ _) fun j hj => by omega)
  · rw [C.neq_mk, decide_eq_true (show (xs.length : Int) ≠ (ys.length : Int) from e), C.ite_true]
    have := h w (Fr.refl _ _)
    rwa [decide_eq_false (fun c => e (by rw [c]))] at this
theorem RowsV.getS {W w1 : World} {rv : Value} {L : List (List Va)} {i : Nat} (h : RowsV W rv L) (hf : Fr [] W w1) (hi : i < L.length)
    (hk : ∀ g o v, RdS W v 2 (valC L[i]) → (∀ w', Fr [] W w' → ∃ cs e fz, w'.heap[g]? = some (.cells cs e fz) ∧ cs[o]? = some v) → K (.pointer (some ⟨g, o, none⟩)) w1) : C.idx 1 rv (.int .i64 (i : Int)) w1 K := by
  obtain ⟨vs, h1, h2, h3⟩ := h
  have hi' : i < vs.length := by omega
  refine C.idx_rdS (S := fun w' => Fr [] W w') (fun w' hw => h1.keep hw) hf (by omega) (by rw [Int.toNat_natCast]; exact slC_get hi') fun g o _ hs => hk g o vs[i] (h3 i hi hi') fun w' hw => ?_
  obtain ⟨cs, e, fz, x, y⟩ := hs w' hw
  exact ⟨cs, e, fz, x, by simpa using y 0 (by simp)⟩
theorem NodesAt.getS {W w1 : World} {nv : Value} {N : List Nd} {i : Nat} (h : NodesAt W nv N) (hf : Fr [] W w1) (hi : i < N.length)
    (hk : ∀ g o f, RdS W f 2 (valC N[i].2) → (∀ w', Fr [] W w' → ∃ cs e fz, w'.heap[g]? = some (.cells cs e fz) ∧ cs[o]? = some (.int .i64 N[i].1)) → (∀ w', Fr [] W w' → ∃ cs e fz, w'.heap[g]? = some (.cells cs e fz) ∧ cs[o + 1]? = some f) → K (.pointer (some ⟨g, o, none⟩)) w1) : C.idx 2 nv (.int .i64 (i : Int)) w1 K := by
  obtain ⟨fs, h1, h2, h3⟩ := h
  have hi' : i < fs.length := by omega
  refine C.idx_rdS (S := fun w' => Fr [] W w') (fun w' hw => h2.keep hw) hf (by omega) (by rw [Int.toNat_natCast]; exact ndC_get hi hi') fun g o _ hs => hk g o fs[i] (h3 i hi hi') (fun w' hw => ?_) fun w' hw => ?_
  · obtain ⟨cs, e, fz, x, y⟩ := hs w' hw
    exact ⟨cs, e, fz, x, by simpa using y 0 (by omega)⟩
  · obtain ⟨cs, e, fz, x, y⟩ := hs w' hw
    exact ⟨cs, e, fz, x, by simpa using y 1 (by omega)⟩
/-- A field of a view's block, in a draw. -/
theorem VB.s {W : World} {b : Nat} {rv nv : Value} (h : VB W b rv nv) {o : Nat} {v : Value} (ho : (#[rv, nv] : Array Value)[o]? = some v) {w1 : World} (hk : K v w1) : C.load1S (fun w' => Fr [] W w') (.pointer (some ⟨b, o, none⟩)) w1 K :=
  C.load1S_of (fun w' hw => ⟨_, _, _, h.keep hw (by simp), ho⟩) hk
/-! ### scutageplain.View -/
theorem View_nodes {W : World} {b c : Nat} {rv nv rv' nv' : Value} {V V' : Vw} (hV : IsV W rv nv V) (hV' : IsV W rv' nv' V') (hb : VB W b rv nv) (hc : VB W c rv' nv') (h1 : V.1 = V'.1) (hl : V.2.length = V'.2.length) (h : ∀ w', Fr [] W w' → K (.bool (decide (V = V'))) w') :
    ∀ (d j : Nat) (w : World), V.2.length = j + d → Fr [] W w → (∀ i, i < j → V.2[i]? = V'.2[i]?) → F22.l9 K (.pointer (some ⟨b, 0, none⟩)) (.pointer (some ⟨c, 0, none⟩)) (.int .i64 (j : Int)) w := by
  have hle := hV.nodes.le
  intro d
  induction d with
  | zero =>
    intro j w hj hf he
    refine F22.l9.to ((hb.keep hf (by simp)).f1 (hV.nodes.len ?_))
    simp only [C.ite_true, C.ite_false, C.pick_true, C.pick_false, C.not_bool, C.field_ptr, C.nilCheck_ptr, C.add_mk, C.sub_mk, C.mul_mk, C.eql_mk, C.neq_mk, C.lss_mk, C.leq_mk, C.gtr_mk, C.geq_mk, C.conv_mk, C.len_mk, C.ext_0, C.ext_1, C.ext3_0, C.ext3_1, C.ext3_2, C.guarded_yes, C.guarded_tf, C.guarded_ft, C.guarded_undef, Bool.not_true, Bool.not_false, Nat.zero_add, eq_self, decide_true, decide_false, show ¬ ((j : Int) < (V.2.length : Int)) by omega]
    refine F22.k13.to ?_
    have := h w hf
    rwa [decide_eq_true (Prod.ext h1 (list_eq_of hl (by omega) he))] at this
  | succ d ih =>
    intro j w hj hf he
    have jl : j < V.2.length := by omega
    have jl' : j < V'.2.length := by omega
    refine F22.l9.to ((hb.keep hf (by simp)).f1 (hV.nodes.len ?_))
    simp only [C.ite_true, C.ite_false, C.pick_true, C.pick_false, C.not_bool, C.field_ptr, C.nilCheck_ptr, C.add_mk, C.sub_mk, C.mul_mk, C.eql_mk, C.neq_mk, C.lss_mk, C.leq_mk, C.gtr_mk, C.geq_mk, C.conv_mk, C.len_mk, C.ext_0, C.ext_1, C.ext3_0, C.ext3_1, C.ext3_2, C.guarded_yes, C.guarded_tf, C.guarded_ft, C.guarded_undef, Bool.not_true, Bool.not_false, Nat.zero_add, eq_self, decide_true, decide_false, show ((j : Int) < (V.2.length : Int)) by omega]
    have no : ∀ w', Fr [] W w' → ¬ V.2[j] = V'.2[j] → K (.bool false) w' := fun w' hw hne => by
      have := h w' hw
      rwa [decide_eq_false (fun e => hne (by subst e; rfl))] at this
    have go : ∀ w', Fr [] W w' → V.2[j] = V'.2[j] → F22.k10 K (.pointer (some ⟨b, 0, none⟩)) (.pointer (some ⟨c, 0, none⟩)) (.int .i64 (j : Int)) w' := fun w' hw heq => by
      refine F22.k10.to ?_
      simp only [C.ite_true, C.ite_false, C.pick_true, C.pick_false, C.not_bool, C.field_ptr, C.nilCheck_ptr, C.add_mk, C.sub_mk, C.mul_mk, C.eql_mk, C.neq_mk, C.lss_mk, C.leq_mk, C.gtr_mk, C.geq_mk, C.conv_mk, C.len_mk, C.ext_0, C.ext_1, C.ext3_0, C.ext3_1, C.ext3_2, C.guarded_yes, C.guarded_tf, C.guarded_ft, C.guarded_undef, Bool.not_true, Bool.not_false, Nat.zero_add, eq_self, decide_true, decide_false]
      rw [wrap64_id (n := (j : Int) + 1) (by omega), show (j : Int) + 1 = ((j + 1 : Nat) : Int) by omega]
      exact ih (j + 1) w' (by omega) hw (step_eq jl jl' he heq)
    refine F22.k11.to (C.draw_of (fun w' => Fr [] W w') fun w1 hf1 he1 => ⟨hf.trans hf1, ?_⟩)
    have f1 := hf.trans hf1
    simp only [C.ite_true, C.ite_false, C.pick_true, C.pick_false, C.not_bool, C.field_ptr, C.nilCheck_ptr, C.add_mk, C.sub_mk, C.mul_mk, C.eql_mk, C.neq_mk, C.lss_mk, C.leq_mk, C.gtr_mk, C.geq_mk, C.conv_mk, C.len_mk, C.ext_0, C.ext_1, C.ext3_0, C.ext3_1, C.ext3_2, C.guarded_yes, C.guarded_tf, C.guarded_ft, C.guarded_undef, Bool.not_true, Bool.not_false, Nat.zero_add, eq_self, decide_true, decide_false]
    refine hb.s rfl (hV.nodes.getS f1 jl fun g o f hr hs0 hs1 => ?_)
    simp only [C.ite_true, C.ite_false, C.pick_true, C.pick_false, C.not_bool, C.field_ptr, C.nilCheck_ptr, C.add_mk, C.sub_mk, C.mul_mk, C.eql_mk, C.neq_mk, C.lss_mk, C.leq_mk, C.gtr_mk, C.geq_mk, C.conv_mk, C.len_mk, C.ext_0, C.ext_1, C.ext3_0, C.ext3_1, C.ext3_2, C.guarded_yes, C.guarded_tf, C.guarded_ft, C.guarded_undef, Bool.not_true, Bool.not_false, Nat.zero_add, eq_self, decide_true, decide_false]
    refine C.load1S_of hs0 (hc.s rfl (hV'.nodes.getS f1 jl' fun g' o' f' hr' hs0' hs1' => ?_))
    simp only [C.ite_true, C.ite_false, C.pick_true, C.pick_false, C.not_bool, C.field_ptr, C.nilCheck_ptr, C.add_mk, C.sub_mk, C.mul_mk, C.eql_mk, C.neq_mk, C.lss_mk, C.leq_mk, C.gtr_mk, C.geq_mk, C.conv_mk, C.len_mk, C.ext_0, C.ext_1, C.ext3_0, C.ext3_1, C.ext3_2, C.guarded_yes, C.guarded_tf, C.guarded_ft, C.guarded_undef, Bool.not_true, Bool.not_false, Nat.zero_add, eq_self, decide_true, decide_false]
    refine C.load1S_of hs0' ?_
    by_cases hs : V.2[j].1 = V'.2[j].1
    · have : ¬ (V.2[j].1 ≠ V'.2[j].1) := fun c => c hs
      rw [C.neq_mk, decide_eq_false this]
      simp only [C.ite_true, C.ite_false, C.pick_true, C.pick_false, C.not_bool, C.field_ptr, C.nilCheck_ptr, C.add_mk, C.sub_mk, C.mul_mk, C.eql_mk, C.neq_mk, C.lss_mk, C.leq_mk, C.gtr_mk, C.geq_mk, C.conv_mk, C.len_mk, C.ext_0, C.ext_1, C.ext3_0, C.ext3_1, C.ext3_2, C.guarded_yes, C.guarded_tf, C.guarded_ft, C.guarded_undef, Bool.not_true, Bool.not_false, Nat.zero_add, eq_self, decide_true, decide_false]
      refine hb.s rfl (hV.nodes.getS f1 jl fun g o f hr hs0 hs1 => ?_)
      simp only [C.ite_true, C.ite_false, C.pick_true, C.pick_false, C.not_bool, C.field_ptr, C.nilCheck_ptr, C.add_mk, C.sub_mk, C.mul_mk, C.eql_mk, C.neq_mk, C.lss_mk, C.leq_mk, C.gtr_mk, C.geq_mk, C.conv_mk, C.len_mk, C.ext_0, C.ext_1, C.ext3_0, C.ext3_1, C.ext3_2, C.guarded_yes, C.guarded_tf, C.guarded_ft, C.guarded_undef, Bool.not_true, Bool.not_false, Nat.zero_add, eq_self, decide_true, decide_false]
      refine C.load1S_of hs1 (hc.s rfl (hV'.nodes.getS f1 jl' fun g' o' f' hr' hs0' hs1' => ?_))
      simp only [C.ite_true, C.ite_false, C.pick_true, C.pick_false, C.not_bool, C.field_ptr, C.nilCheck_ptr, C.add_mk, C.sub_mk, C.mul_mk, C.eql_mk, C.neq_mk, C.lss_mk, C.leq_mk, C.gtr_mk, C.geq_mk, C.conv_mk, C.len_mk, C.ext_0, C.ext_1, C.ext3_0, C.ext3_1, C.ext3_2, C.guarded_yes, C.guarded_tf, C.guarded_ft, C.guarded_undef, Bool.not_true, Bool.not_false, Nat.zero_add, eq_self, decide_true, decide_false]
      refine C.load1S_of hs1' ⟨Values_c (hr.keep f1) (hr'.keep f1) fun w2 hf2 => ⟨f1.trans hf2, ?_⟩, trivial⟩
      by_cases hq : V.2[j].2 = V'.2[j].2
      · rw [decide_eq_true hq]
        simp only [C.ite_true, C.ite_false, C.pick_true, C.pick_false, C.not_bool, C.field_ptr, C.nilCheck_ptr, C.add_mk, C.sub_mk, C.mul_mk, C.eql_mk, C.neq_mk, C.lss_mk, C.leq_mk, C.gtr_mk, C.geq_mk, C.conv_mk, C.len_mk, C.ext_0, C.ext_1, C.ext3_0, C.ext3_1, C.ext3_2, C.guarded_yes, C.guarded_tf, C.guarded_ft, C.guarded_undef, Bool.not_true, Bool.not_false, Nat.zero_add, eq_self, decide_true, decide_false]
        exact go w2 (f1.trans hf2) (Prod.ext hs hq)
      · rw [decide_eq_false hq]
        simp only [C.ite_true, C.ite_false, C.pick_true, C.pick_false, C.not_bool, C.field_ptr, C.nilCheck_ptr, C.add_mk, C.sub_mk, C.mul_mk, C.eql_mk, C.neq_mk, C.lss_mk, C.leq_mk, C.gtr_mk, C.geq_mk, C.conv_mk, C.len_mk, C.ext_0, C.ext_1, C.ext3_0, C.ext3_1, C.ext3_2, C.guarded_yes, C.guarded_tf, C.guarded_ft, C.guarded_undef, Bool.not_true, Bool.not_false, Nat.zero_add, eq_self, decide_true, decide_false]
        exact no w2 (f1.trans hf2) fun e => hq (by rw [e])
    · rw [C.neq_mk, decide_eq_true (show V.2[j].1 ≠ V'.2[j].1 from hs)]
      simp only [C.ite_true, C.ite_false, C.pick_true, C.pick_false, C.not_bool, C.field_ptr, C.nilCheck_ptr, C.add_mk, C.sub_mk, C.mul_mk, C.eql_mk, C.neq_mk, C.lss_mk, C.leq_mk, C.gtr_mk, C.geq_mk, C.conv_mk, C.len_mk, C.ext_0, C.ext_1, C.ext3_0, C.ext3_1, C.ext3_2, C.guarded_yes, C.guarded_tf, C.guarded_ft, C.guarded_undef, Bool.not_true, Bool.not_false, Nat.zero_add, eq_self, decide_true, decide_false]
      exact ⟨⟨f1, no w1 f1 fun e => hs (by rw [e])⟩, trivial⟩
theorem View_rows {W : World} {b c : Nat} {rv nv rv' nv' : Value} {V V' : Vw} (hV : IsV W rv nv V) (hV' : IsV W rv' nv' V') (hb : VB W b rv nv) (hc : VB W c rv' nv') (hl1 : V.1.length = V'.1.length) (hl : V.2.length = V'.2.length) (h : ∀ w', Fr [] W w' → K (.bool (decide (V = V'))) w') :
    ∀ (d j : Nat) (w : World), V.1.length = j + d → Fr [] W w → (∀ i, i < j → V.1[i]? = V'.1[i]?) → F22.l4 K (.pointer (some ⟨b, 0, none⟩)) (.pointer (some ⟨c, 0, none⟩)) (.int .i64 (j : Int)) w := by
  have hle := hV.rows.le
  intro d
  induction d with
  | zero =>
    intro j w hj hf he
    refine F22.l4.to ((hb.keep hf (by simp)).f0 (hV.rows.len ?_))
    simp only [C.ite_true, C.ite_false, C.pick_true, C.pick_false, C.not_bool, C.field_ptr, C.nilCheck_ptr, C.add_mk, C.sub_mk, C.mul_mk, C.eql_mk, C.neq_mk, C.lss_mk, C.leq_mk, C.gtr_mk, C.geq_mk, C.conv_mk, C.len_mk, C.ext_0, C.ext_1, C.ext3_0, C.ext3_1, C.ext3_2, C.guarded_yes, C.guarded_tf, C.guarded_ft, C.guarded_undef, Bool.not_true, Bool.not_false, Nat.zero_add, eq_self, decide_true, decide_false, show ¬ ((j : Int) < (V.1.length : Int)) by omega]
    exact F22.k8.to (View_nodes hV hV' hb hc (list_eq_of hl1 (by omega) he) hl h V.2.length 0 w (by omega) hf fun i hi => by omega)
  | succ d ih =>
    intro j w hj hf he
    have jl : j < V.1.length := by omega
    have jl' : j < V'.1.length := by omega
    refine F22.l4.to ((hb.keep hf (by simp)).f0 (hV.rows.len ?_))
    simp only [C.ite_true, C.ite_false, C.pick_true, C.pick_false, C.not_bool, C.field_ptr, C.nilCheck_ptr, C.add_mk, C.sub_mk, C.mul_mk, C.eql_mk, C.neq_mk, C.lss_mk, C.leq_mk, C.gtr_mk, C.geq_mk, C.conv_mk, C.len_mk, C.ext_0, C.ext_1, C.ext3_0, C.ext3_1, C.ext3_2, C.guarded_yes, C.guarded_tf, C.guarded_ft, C.guarded_undef, Bool.not_true, Bool.not_false, Nat.zero_add, eq_self, decide_true, decide_false, show ((j : Int) < (V.1.length : Int)) by omega]
    refine F22.k6.to (C.draw_of (fun w' => Fr [] W w') fun w1 hf1 he1 => ⟨hf.trans hf1, ?_⟩)
    have f1 := hf.trans hf1
    simp only [C.ite_true, C.ite_false, C.pick_true, C.pick_false, C.not_bool, C.field_ptr, C.nilCheck_ptr, C.add_mk, C.sub_mk, C.mul_mk, C.eql_mk, C.neq_mk, C.lss_mk, C.leq_mk, C.gtr_mk, C.geq_mk, C.conv_mk, C.len_mk, C.ext_0, C.ext_1, C.ext3_0, C.ext3_1, C.ext3_2, C.guarded_yes, C.guarded_tf, C.guarded_ft, C.guarded_undef, Bool.not_true, Bool.not_false, Nat.zero_add, eq_self, decide_true, decide_false]
    refine hb.s rfl (hV.rows.getS f1 jl fun g o v hr hs => C.load1S_of hs (hc.s rfl (hV'.rows.getS f1 jl' fun g' o' v' hr' hs' => C.load1S_of hs' ⟨Values_c (hr.keep f1) (hr'.keep f1) fun w2 hf2 => ⟨f1.trans hf2, ?_⟩, trivial⟩)))
    by_cases hq : V.1[j] = V'.1[j]
    · rw [decide_eq_true hq]
      simp only [C.ite_true, C.ite_false, C.pick_true, C.pick_false, C.not_bool, C.field_ptr, C.nilCheck_ptr, C.add_mk, C.sub_mk, C.mul_mk, C.eql_mk, C.neq_mk, C.lss_mk, C.leq_mk, C.gtr_mk, C.geq_mk, C.conv_mk, C.len_mk, C.ext_0, C.ext_1, C.ext3_0, C.ext3_1, C.ext3_2, C.guarded_yes, C.guarded_tf, C.guarded_ft, C.guarded_undef, Bool.not_true, Bool.not_false, Nat.zero_add, eq_self, decide_true, decide_false]
      refine F22.k5.to ?_
      simp only [C.ite_true, C.ite_false, C.pick_true, C.pick_false, C.not_bool, C.field_ptr, C.nilCheck_ptr, C.add_mk, C.sub_mk, C.mul_mk, C.eql_mk, C.neq_mk, C.lss_mk, C.leq_mk, C.gtr_mk, C.geq_mk, C.conv_mk, C.len_mk, C.ext_0, C.ext_1, C.ext3_0, C.ext3_1, C.ext3_2, C.guarded_yes, C.guarded_tf, C.guarded_ft, C.guarded_undef, Bool.not_true, Bool.not_false, Nat.zero_add, eq_self, decide_true, decide_false]
      rw [wrap64_id (n := (j : Int) + 1) (by omega), show (j : Int) + 1 = ((j + 1 : Nat) : Int) by omega]
      exact ih (j + 1) w2 (by omega) (f1.trans hf2) (step_eq jl jl' he hq)
    · rw [decide_eq_false hq]
      simp only [C.ite_true, C.ite_false, C.pick_true, C.pick_false, C.not_bool, C.field_ptr, C.nilCheck_ptr, C.add_mk, C.sub_mk, C.mul_mk, C.eql_mk, C.neq_mk, C.lss_mk, C.leq_mk, C.gtr_mk, C.geq_mk, C.conv_mk, C.len_mk, C.ext_0, C.ext_1, C.ext3_0, C.ext3_1, C.ext3_2, C.guarded_yes, C.guarded_tf, C.guarded_ft, C.guarded_undef, Bool.not_true, Bool.not_false, Nat.zero_add, eq_self, decide_true, decide_false]
      have := h w2 (f1.trans hf2)
      rwa [decide_eq_false (fun e => hq (by subst e; rfl))] at this
theorem View_c {rv nv rv' nv' : Value} {V V' : Vw} (hV : IsV w rv nv V) (hV' : IsV w rv' nv' V') (h : ∀ w', Fr [] w w' → K (.bool (decide (V = V'))) w') : C.call Try.prog 22 #[.agg #[rv, nv], .agg #[rv', nv']] w K := by
  refine F22.sh (VB.new hV fun b w1 hf1 _ hb hV1 => VB.new (hV'.keep hf1) fun c w2 hf2 _ hc hV2' => ?_)
  have hb2 := hb.keep hf2 (by simp)
  have hV2 := hV1.keep hf2
  have f2 := hf1.trans hf2
  refine hb2.f0 (hV2.rows.len (hc.f0 (hV2'.rows.len ?_)))
  by_cases e1 : V.1.length = V'.1.length
  · have : ¬ ((V.1.length : Int) ≠ (V'.1.length : Int)) := by omega
    rw [C.neq_mk, decide_eq_false this]
    simp only [C.guarded_ft, C.guarded_tf, C.guarded_yes]
    refine hb2.f1 (hV2.nodes.len (hc.f1 (hV2'.nodes.len ?_)))
    by_cases e2 : V.2.length = V'.2.length
    · have : ¬ ((V.2.length : Int) ≠ (V'.2.length : Int)) := by omega
      rw [C.neq_mk, decide_eq_false this]
      simp only [C.ite_true, C.ite_false, C.pick_true, C.pick_false, C.not_bool, C.field_ptr, C.nilCheck_ptr, C.add_mk, C.sub_mk, C.mul_mk, C.eql_mk, C.neq_mk, C.lss_mk, C.leq_mk, C.gtr_mk, C.geq_mk, C.conv_mk, C.len_mk, C.ext_0, C.ext_1, C.ext3_0, C.ext3_1, C.ext3_2, C.guarded_yes, C.guarded_tf, C.guarded_ft, C.guarded_undef, Bool.not_true, Bool.not_false, Nat.zero_add, eq_self, decide_true, decide_false]
      exact F22.k3.to (View_rows hV2 hV2' hb2 hc e1 e2 (fun w' hf => h w' (f2.trans hf)) V.1.length 0 w2 (by omega) (Fr.refl _ _) fun i hi => by omega)
    · rw [C.neq_mk, decide_eq_true (show (V.2.length : Int) ≠ (V'.2.length : Int) by omega)]
      simp only [C.ite_true, C.ite_false, C.pick_true, C.pick_false, C.not_bool, C.field_ptr, C.nilCheck_ptr, C.add_mk, C.sub_mk, C.mul_mk, C.eql_mk, C.neq_mk, C.lss_mk, C.leq_mk, C.gtr_mk, C.geq_mk, C.conv_mk, C.len_mk, C.ext_0, C.ext_1, C.ext3_0, C.ext3_1, C.ext3_2, C.guarded_yes, C.guarded_tf, C.guarded_ft, C.guarded_undef, Bool.not_true, Bool.not_false, Nat.zero_add, eq_self, decide_true, decide_false]
      have := h w2 f2
      rwa [decide_eq_false (fun e => e2 (by rw [e]))] at this
  · rw [C.neq_mk, decide_eq_true (show (V.1.length : Int) ≠ (V'.1.length : Int) by omega)]
    simp only [C.ite_true, C.ite_false, C.pick_true, C.pick_false, C.not_bool, C.field_ptr, C.nilCheck_ptr, C.add_mk, C.sub_mk, C.mul_mk, C.eql_mk, C.neq_mk, C.lss_mk, C.leq_mk, C.gtr_mk, C.geq_mk, C.conv_mk, C.len_mk, C.ext_0, C.ext_1, C.ext3_0, C.ext3_1, C.ext3_2, C.guarded_yes, C.guarded_tf, C.guarded_ft, C.guarded_undef, Bool.not_true, Bool.not_false, Nat.zero_add, eq_self, decide_true, decide_false]
    have := h w2 f2
    rwa [decide_eq_false (fun e => e1 (by rw [e]))] at this
/-! ### view.Same -/
theorem C.newNd {s : Int} {f : Value} {fl : List (List Value)} (hr : RdS w f 2 fl) (hk : ∀ b w', Fr [] w w' → w'.heap[b]? = some (.cells #[.int .i64 s, f] 59 (0, 0)) → K (.pointer (some ⟨b, 0, none⟩)) w') : C.new (.cells (Value.cells (.agg #[.int .i64 s, f])) 59) w K := by
  refine C.new_of fun b w1 hn => hk b w1 hn.fr ?_
  have := hn.at_
  rwa [show Value.cells (.agg #[.int .i64 s, f]) = #[.int .i64 s, f] by simp [Value.cells, hr.one.2]] at this
/-- A block made and a node put into it. -/
theorem C.putNd {s : Int} {f : Value} {fl : List (List Value)} (hr : RdS w f 2 fl) (hk : ∀ b w', Fr [] w w' → w.heap.size ≤ b → w'.heap[b]? = some (.cells #[.int .i64 s, f] 59 (0, 0)) → K (.pointer (some ⟨b, 0, none⟩)) w') :
    C.new (.cells #[.int .i64 0, .slice none 0 0] 59) w fun p w1 => C.store 2 p (.agg #[.int .i64 s, f]) w1 fun w2 => K p w2 := by
  have e : Value.cells (.agg #[.int .i64 s, f]) = #[.int .i64 s, f] := by simp [Value.cells, hr.one.2]
  refine C.new_of fun b w1 hn => C.store_all (x := .agg #[.int .i64 s, f]) hn.at_ (by rw [e]; rfl) (by
    rw [e]
    intro u hu
    simp only [List.mem_cons, List.not_mem_nil, or_false] at hu
    rcases hu with rfl | rfl
    · rfl
    · exact hr.one.1) rfl fun w2 hu => ?_
  have := hu.at_
  rw [e] at this
  have hb : w.heap.size ≤ b := by have := hn.is; omega
  exact hk b w2 (hn.fr.then hu.fr fun z hz => .inr (by simp only [List.mem_singleton] at hz; omega)) hb this
theorem WordsEq_loop {a b : Value} {xs ys : List Int} (ra : RdS w a 1 (intC xs)) (rb : RdS w b 1 (intC ys)) (hl : xs.length = ys.length) (h : ∀ w', Fr [] w w' → K (.bool (decide (xs = ys))) w') :
    ∀ (d i : Nat) (w' : World), xs.length = i + d → Fr [] w w' → (∀ j, j < i → xs[j]? = ys[j]?) → F21.l4 K a b (.int .i64 (i : Int)) w' := by
  have hl2 := ra.le
  rw [intC_len] at hl2
  intro d
  induction d with
  | zero =>
    intro i w' hi hf he
    refine F21.l4.to (C.len_rd (ra.keep hf) ?_)
    rw [intC_len]
    simp only [C.ite_true, C.ite_false, C.pick_true, C.pick_false, C.not_bool, C.field_ptr, C.nilCheck_ptr, C.add_mk, C.sub_mk, C.mul_mk, C.eql_mk, C.neq_mk, C.lss_mk, C.leq_mk, C.gtr_mk, C.geq_mk, C.conv_mk, C.len_mk, C.ext_0, C.ext_1, C.ext3_0, C.ext3_1, C.ext3_2, C.guarded_yes, C.guarded_tf, C.guarded_ft, C.guarded_undef, Bool.not_true, Bool.not_false, Nat.zero_add, eq_self, decide_true, decide_false, show ¬ ((i : Int) < (xs.length : Int)) by omega]
    refine F21.k8.to ?_
    have := h w' hf
    rwa [decide_eq_true (list_eq_of hl (by omega) he)] at this
  | succ d ih =>
    intro i w' hi hf he
    have hix : i < xs.length := by omega
    have hiy : i < ys.length := by omega
    refine F21.l4.to (C.len_rd (ra.keep hf) ?_)
    rw [intC_len]
    simp only [C.ite_true, C.ite_false, C.pick_true, C.pick_false, C.not_bool, C.field_ptr, C.nilCheck_ptr, C.add_mk, C.sub_mk, C.mul_mk, C.eql_mk, C.neq_mk, C.lss_mk, C.leq_mk, C.gtr_mk, C.geq_mk, C.conv_mk, C.len_mk, C.ext_0, C.ext_1, C.ext3_0, C.ext3_1, C.ext3_2, C.guarded_yes, C.guarded_tf, C.guarded_ft, C.guarded_undef, Bool.not_true, Bool.not_false, Nat.zero_add, eq_self, decide_true, decide_false, show ((i : Int) < (xs.length : Int)) by omega]
    refine F21.k6.to (C.draw_of (fun w2 => Fr [] w w2) fun w1 hf1 he1 => ⟨hf.trans hf1, ?_⟩)
    have f1 := hf.trans hf1
    refine C.idx_rdS (S := fun w2 => Fr [] w w2) (fun w2 hw => ra.keep hw) f1 (by omega) (by rw [Int.toNat_natCast]; exact intC_get hix) fun ga oa _ hs1 => ?_
    refine C.idx_rdS (S := fun w2 => Fr [] w w2) (fun w2 hw => rb.keep hw) f1 (by omega) (by rw [Int.toNat_natCast]; exact intC_get hiy) fun gb ob _ hs2 => ?_
    refine C.load1S_of (v := .int .i64 xs[i]) (fun w' hw => by obtain ⟨cs, e, fz, x, y⟩ := hs1 w' hw; exact ⟨cs, e, fz, x, by simpa using y 0 (by simp)⟩) ?_
    refine C.load1S_of (v := .int .i64 ys[i]) (fun w' hw => by obtain ⟨cs, e, fz, x, y⟩ := hs2 w' hw; exact ⟨cs, e, fz, x, by simpa using y 0 (by simp)⟩) ?_
    by_cases hb : xs[i] = ys[i]
    · have : ¬ (xs[i] ≠ ys[i]) := fun c => c hb
      rw [C.neq_mk, decide_eq_false this]
      simp only [C.ite_true, C.ite_false, C.pick_true, C.pick_false, C.not_bool, C.field_ptr, C.nilCheck_ptr, C.add_mk, C.sub_mk, C.mul_mk, C.eql_mk, C.neq_mk, C.lss_mk, C.leq_mk, C.gtr_mk, C.geq_mk, C.conv_mk, C.len_mk, C.ext_0, C.ext_1, C.ext3_0, C.ext3_1, C.ext3_2, C.guarded_yes, C.guarded_tf, C.guarded_ft, C.guarded_undef, Bool.not_true, Bool.not_false, Nat.zero_add, eq_self, decide_true, decide_false]
      refine F21.k5.to ?_
      simp only [C.ite_true, C.ite_false, C.pick_true, C.pick_false, C.not_bool, C.field_ptr, C.nilCheck_ptr, C.add_mk, C.sub_mk, C.mul_mk, C.eql_mk, C.neq_mk, C.lss_mk, C.leq_mk, C.gtr_mk, C.geq_mk, C.conv_mk, C.len_mk, C.ext_0, C.ext_1, C.ext3_0, C.ext3_1, C.ext3_2, C.guarded_yes, C.guarded_tf, C.guarded_ft, C.guarded_undef, Bool.not_true, Bool.not_false, Nat.zero_add, eq_self, decide_true, decide_false]
      rw [wrap64_id (n := (i : Int) + 1) (by omega), show (i : Int) + 1 = ((i + 1 : Nat) : Int) by omega]
      exact ih (i + 1) w1 (by omega) f1 (step_eq hix hiy he hb)
    · rw [C.neq_mk, decide_eq_true (show xs[i] ≠ ys[i] from hb)]
      simp only [C.ite_true, C.ite_false, C.pick_true, C.pick_false, C.not_bool, C.field_ptr, C.nilCheck_ptr, C.add_mk, C.sub_mk, C.mul_mk, C.eql_mk, C.neq_mk, C.lss_mk, C.leq_mk, C.gtr_mk, C.geq_mk, C.conv_mk, C.len_mk, C.ext_0, C.ext_1, C.ext3_0, C.ext3_1, C.ext3_2, C.guarded_yes, C.guarded_tf, C.guarded_ft, C.guarded_undef, Bool.not_true, Bool.not_false, Nat.zero_add, eq_self, decide_true, decide_false]
      have := h w1 f1
      rwa [decide_eq_false (fun e => hb (by subst e; rfl))] at this
theorem WordsEq_c {a b : Value} {xs ys : List Int} (ra : RdS w a 1 (intC xs)) (rb : RdS w b 1 (intC ys)) (h : ∀ w', Fr [] w w' → K (.bool (decide (xs = ys))) w') : C.call Try.prog 21 #[a, b] w K := by
  refine F21.sh (C.len_rd ra (C.len_rd rb ?_))
  rw [intC_len, intC_len]
  by_cases e : (xs.length : Int) = (ys.length : Int)
  · have : ¬ ((xs.length : Int) ≠ (ys.length : Int)) := fun c => c e
    rw [C.neq_mk, decide_eq_false this, C.ite_false]
    exact F21.k3.to (WordsEq_loop ra rb (by omega) h xs.length 0 w (by omega) (Fr.refl _ _) fun j hj => by omega)
  · rw [C.neq_mk, decide_eq_true (show (xs.length : Int) ≠ (ys.length : Int) from e), C.ite_true]
    have := h w (Fr.refl _ _)
    rwa [decide_eq_false (fun c => e (by rw [c]))] at this
end
/-- Lists of values, each in memory of its own, from a place on. -/
structure OwnRows (lo : Nat) (w : World) (rv : Value) (L : List (List Va)) (vs : List Value) : Prop where
  sp : OwnS w rv 57 1 (slC vs)
  ge : ∀ g ∈ blkS rv, lo ≤ g
  len : vs.length = L.length
  row : ∀ i (h : i < L.length) (h' : i < vs.length), OwnS w vs[i] 75 2 (valC L[i]) ∧ ∀ g ∈ blkS vs[i], lo ≤ g
structure OwnNodes (lo : Nat) (w : World) (nv : Value) (N : List Nd) (fs : List Value) : Prop where
  len : fs.length = N.length
  sp : OwnS w nv 59 2 (ndC N fs)
  ge : ∀ g ∈ blkS nv, lo ≤ g
  row : ∀ i (h : i < N.length) (h' : i < fs.length), OwnS w fs[i] 75 2 (valC N[i].2) ∧ ∀ g ∈ blkS fs[i], lo ≤ g
theorem OwnRows.rd {lo : Nat} {w : World} {rv : Value} {L : List (List Va)} {vs : List Value} (h : OwnRows lo w rv L vs) : RowsV w rv L := ⟨vs, h.sp.rd, h.len, fun i a b => (h.row i a b).1.rd⟩
theorem OwnNodes.rd {lo : Nat} {w : World} {nv : Value} {N : List Nd} {fs : List Value} (h : OwnNodes lo w nv N fs) : NodesAt w nv N := ⟨fs, h.len, h.sp.rd, fun i a b => (h.row i a b).1.rd⟩
theorem OwnRows.keep {lo : Nat} {S : List Nat} {w w' : World} {rv : Value} {L : List (List Va)} {vs : List Value} (h : OwnRows lo w rv L vs) (hf : Fr S w w') (hS : ∀ g ∈ S, g < lo ∨ w.heap.size ≤ g ∨ ∃ cs e fz, w.heap[g]? = some (.cells cs e fz) ∧ e ≠ 57 ∧ e ≠ 75) : OwnRows lo w' rv L vs := by
  have key : ∀ {v : Value} {e : TypeId} {sz : Nat} {xs : List (List Value)}, (e = 57 ∨ e = 75) → OwnS w v e sz xs → (∀ g ∈ blkS v, lo ≤ g) → OwnS w' v e sz xs := fun he ho hl => ho.keep' hf fun g hg c => by
    rcases hS g c with d | d | ⟨cs, e, fz, d, e1, e2⟩
    · have := hl g hg; omega
    · have := ho.mem_lt g hg; omega
    · refine ho.nb d (fun c => ?_) hg
      rcases he with rfl | rfl
      · exact e1 c.symm
      · exact e2 c.symm
  exact ⟨key (.inl rfl) h.sp h.ge, h.ge, h.len, fun i a b => ⟨key (.inr rfl) (h.row i a b).1 (h.row i a b).2, (h.row i a b).2⟩⟩
theorem OwnNodes.keep {lo : Nat} {S : List Nat} {w w' : World} {nv : Value} {N : List Nd} {fs : List Value} (h : OwnNodes lo w nv N fs) (hf : Fr S w w') (hS : ∀ g ∈ S, g < lo ∨ w.heap.size ≤ g ∨ ∃ cs e fz, w.heap[g]? = some (.cells cs e fz) ∧ e ≠ 59 ∧ e ≠ 75) : OwnNodes lo w' nv N fs := by
  have key : ∀ {v : Value} {e : TypeId} {sz : Nat} {xs : List (List Value)}, (e = 59 ∨ e = 75) → OwnS w v e sz xs → (∀ g ∈ blkS v, lo ≤ g) → OwnS w' v e sz xs := fun he ho hl => ho.keep' hf fun g hg c => by
    rcases hS g c with d | d | ⟨cs, e, fz, d, e1, e2⟩
    · have := hl g hg; omega
    · have := ho.mem_lt g hg; omega
    · refine ho.nb d (fun c => ?_) hg
      rcases he with rfl | rfl
      · exact e1 c.symm
      · exact e2 c.symm
  exact ⟨h.len, key (.inl rfl) h.sp h.ge, h.ge, fun i a b => ⟨key (.inr rfl) (h.row i a b).1 (h.row i a b).2, (h.row i a b).2⟩⟩
/-- One more, behind the others. -/
theorem OwnRows.snoc {lo : Nat} {w w' : World} {rv rv' v : Value} {L : List (List Va)} {vs : List Value} {l : List Va} (h : OwnRows lo w rv L vs) (hlo : lo ≤ w.heap.size) (hf : Fr (blkS rv) w w') (hg : ∀ g ∈ blkS rv', g ∈ blkS rv ∨ w.heap.size ≤ g) (hs : OwnS w' rv' 57 1 (slC vs ++ [[v]])) (hv : OwnS w v 75 2 (valC l)) (hvl : ∀ g ∈ blkS v, lo ≤ g) :
    OwnRows lo w' rv' (L ++ [l]) (vs ++ [v]) := by
  refine ⟨by rw [slC_app]; exact hs, fun g hgg => ?_, by simp [h.len], fun i a b => ?_⟩
  · rcases hg g hgg with c | c
    · exact h.ge g c
    · omega
  · by_cases e : i < L.length
    · have e' : i < vs.length := by rw [h.len]; exact e
      rw [List.getElem_append_left e, List.getElem_append_left e']
      exact ⟨(h.row i e e').1.keep' hf ((h.row i e e').1.ne h.sp (by decide)), (h.row i e e').2⟩
    · have ei : i = L.length := by simp at a; omega
      have ei' : i = vs.length := by rw [h.len]; exact ei
      rw [List.getElem_append_right (by omega), List.getElem_append_right (by omega)]
      simp only [ei', Nat.sub_self, h.len, List.getElem_cons_zero]
      exact ⟨hv.keep' hf (hv.ne h.sp (by decide)), hvl⟩
theorem ndC_snoc {N : List Nd} {fs : List Value} (h : fs.length = N.length) (nd : Nd) (f : Value) : ndC (N ++ [nd]) (fs ++ [f]) = ndC N fs ++ [[.int .i64 nd.1, f]] := by
  unfold ndC
  rw [List.zipWith_append h.symm]
  rfl
theorem OwnNodes.snoc {lo : Nat} {w w' : World} {nv nv' v : Value} {N : List Nd} {fs : List Value} {nd : Nd} (h : OwnNodes lo w nv N fs) (hlo : lo ≤ w.heap.size) (hf : Fr (blkS nv) w w') (hg : ∀ g ∈ blkS nv', g ∈ blkS nv ∨ w.heap.size ≤ g) (hs : OwnS w' nv' 59 2 (ndC N fs ++ [[.int .i64 nd.1, v]])) (hv : OwnS w v 75 2 (valC nd.2)) (hvl : ∀ g ∈ blkS v, lo ≤ g) :
    OwnNodes lo w' nv' (N ++ [nd]) (fs ++ [v]) := by
  refine ⟨by simp [h.len], by rw [ndC_snoc h.len]; exact hs, fun g hgg => ?_, fun i a b => ?_⟩
  · rcases hg g hgg with c | c
    · exact h.ge g c
    · omega
  · by_cases e : i < N.length
    · have e' : i < fs.length := by rw [h.len]; exact e
      rw [List.getElem_append_left e, List.getElem_append_left e']
      exact ⟨(h.row i e e').1.keep' hf ((h.row i e e').1.ne h.sp (by decide)), (h.row i e e').2⟩
    · have ei : i = N.length := by simp at a; omega
      have ei' : i = fs.length := by rw [h.len]; exact ei
      rw [List.getElem_append_right (by omega), List.getElem_append_right (by omega)]
      simp only [ei', Nat.sub_self, h.len, List.getElem_cons_zero]
      exact ⟨hv.keep' hf (hv.ne h.sp (by decide)), hvl⟩
end Go.Proofs.YtfjilngljnlkjaaV
namespace Go.Proofs.YtfjilngljnlkjaaV
open Go Go.Proofs Go.RowKit
set_option linter.unusedVariables false
set_option linter.unusedSimpArgs false
set_option maxRecDepth 10000
section
variable {K : VK} {w : World}
theorem val_V (m : List Ob) (x : Int) : V (val m x).1 (val m x).2 = .agg #[.int .i64 (val m x).1, .int .i64 (val m x).2] := rfl
theorem value_c {lv sv : Value} {l : List Int} {m : List Ob} {x : Int} (hl : RdS w lv 1 (intC l)) (h2 : sv.cells = #[sv]) (hr : Rng l) (hO : Spl 0 l m) (hx : -9223372036854775808 ≤ x ∧ x ≤ 9223372036854775807) (hf : fineW m x = true)
    (h : ∀ w', Fr [] w w' → K (V (val m x).1 (val m x).2) w') : C.call Try.prog 56 #[.agg #[lv, sv], .int .i64 x] w K := by
  have hc0 : Value.cells (.agg #[lv, sv]) = #[lv, sv] := by simp [Value.cells, hl.one.2, h2]
  refine F56.sh ?_
  rw [hc0]
  refine C.new_of fun b1 w1 hn1 => C.new_of fun b2 w2 hn2 => ?_
  have i1 := hn1.is; have i2 := hn2.is; have z1 := hn1.sz; have z2 := hn2.sz
  refine Read_c x hx (fun hc w3 hf3 => ?_) (fun hc => absurd (of_decide_eq_true (fine_ok hf)) hc)
  simp only [C.ite_true, C.ite_false, C.pick_true, C.pick_false, C.not_bool, C.field_ptr, C.nilCheck_ptr, C.add_mk, C.sub_mk, C.mul_mk, C.eql_mk, C.neq_mk, C.lss_mk, C.leq_mk, C.gtr_mk, C.geq_mk, C.conv_mk, C.len_mk, C.ext_0, C.ext_1, C.ext3_0, C.ext3_1, C.ext3_2, C.guarded_yes, C.guarded_tf, C.guarded_ft, C.guarded_undef, Bool.not_true, Bool.not_false, Nat.zero_add, eq_self, decide_true, decide_false]
  refine readPut fun b3 w4 hf4 lo4 hb3 => ?_
  have f24 := hf3.trans hf4
  have f04 : Fr [] w w4 := (hn1.fr.trans hn2.fr).trans f24
  have h1' : w4.heap[b1]? = some (.cells #[lv, sv] 61 (0, 0)) := (hn2.fr.trans f24).at_ hn1.at_ (by simp)
  have h2' : w4.heap[b2]? = some (.cells #[.int .i64 0, .int .i64 0] 75 (0, 0)) := f24.at_ hn2.at_ (by simp)
  have s3 := hf3.size
  have fin : ∀ (k n : Int) (w5 : World), Fr [b3] w4 w5 → w5.heap[b3]? = some (vB k n) → V k n = V (val m x).1 (val m x).2 → F56.k4 K (.pointer (some ⟨b2, 0, none⟩)) (.pointer (some ⟨b3, 0, none⟩)) w5 := by
    intro k n w5 hf5 hb5 he
    refine F56.k4.to (C.loadA_all hb5 rfl (C.store_all (x := V k n) (hf5.at_ h2' (by simp; omega)) rfl v2_cells rfl fun w6 hu6 => C.loadA_all hu6.at_ rfl ?_))
    show K (V k n) w6
    rw [he]
    exact h w6 ((f04.then hf5 fun z hz => .inr (by simp only [List.mem_singleton] at hz; omega)).then hu6.fr fun z hz => .inr (by simp only [List.mem_singleton] at hz; omega))
  simp only [C.ite_true, C.ite_false, C.pick_true, C.pick_false, C.not_bool, C.field_ptr, C.nilCheck_ptr, C.add_mk, C.sub_mk, C.mul_mk, C.eql_mk, C.neq_mk, C.lss_mk, C.leq_mk, C.gtr_mk, C.geq_mk, C.conv_mk, C.len_mk, C.ext_0, C.ext_1, C.ext3_0, C.ext3_1, C.ext3_2, C.guarded_yes, C.guarded_tf, C.guarded_ft, C.guarded_undef, Bool.not_true, Bool.not_false, Nat.zero_add, eq_self, decide_true, decide_false]
  refine C.load1_of (v := .int .i64 (rdK x)) hb3 rfl ?_
  by_cases k2 : rdK x = 2
  · have hw : wRef x = some (rdN x).toNat := by unfold wRef; rw [if_pos ⟨hc, k2⟩]
    have hn2' := (wRef_ok hw).2.2
    obtain ⟨p, hp, hwp⟩ := fine_pl hf hw
    obtain ⟨pm, pat, _⟩ := pl_some hp
    have hOb := (hO.get p pm).1
    have hal : m[p].at_ < l.length := by have := hOb.end_; omega
    have hhd : l[m[p].at_] = m[p].hd := by
      have := hOb.hd
      rw [Nat.sub_zero, List.getElem?_eq_getElem hal] at this
      exact Option.some.inj this
    obtain ⟨d1, d2⟩ := hd_div hOb.n
    have hhd' : m[p].hd = m[p].ser * 128 + (m[p].fs.length : Int) := rfl
    have := hOb.s0; have := hOb.s1; have := hOb.n
    simp only [C.ite_true, C.ite_false, C.pick_true, C.pick_false, C.not_bool, C.field_ptr, C.nilCheck_ptr, C.add_mk, C.sub_mk, C.mul_mk, C.eql_mk, C.neq_mk, C.lss_mk, C.leq_mk, C.gtr_mk, C.geq_mk, C.conv_mk, C.len_mk, C.ext_0, C.ext_1, C.ext3_0, C.ext3_1, C.ext3_2, C.guarded_yes, C.guarded_tf, C.guarded_ft, C.guarded_undef, Bool.not_true, Bool.not_false, Nat.zero_add, eq_self, decide_true, decide_false, k2]
    refine C.load1_of (v := lv) h1' rfl ?_
    try simp only [C.ite_true, C.ite_false, C.pick_true, C.pick_false, C.not_bool, C.field_ptr, C.nilCheck_ptr, C.add_mk, C.sub_mk, C.mul_mk, C.eql_mk, C.neq_mk, C.lss_mk, C.leq_mk, C.gtr_mk, C.geq_mk, C.conv_mk, C.len_mk, C.ext_0, C.ext_1, C.ext3_0, C.ext3_1, C.ext3_2, C.guarded_yes, C.guarded_tf, C.guarded_ft, C.guarded_undef, Bool.not_true, Bool.not_false, Nat.zero_add, eq_self, decide_true, decide_false]
    refine C.load1_of (v := .int .i64 (rdN x)) hb3 rfl ?_
    rw [hn2', ← pat]
    refine C.idx_int (hl.keep f04) hal fun g oo cs e fz hg hv => C.load1_of hg hv ?_
    rw [hhd]
    refine Split_c (by omega) (fun _ _ => ?_) (fun c => absurd ⟨by omega, by omega⟩ c)
    rw [d1, d2]
    simp only [C.ite_true, C.ite_false, C.pick_true, C.pick_false, C.not_bool, C.field_ptr, C.nilCheck_ptr, C.add_mk, C.sub_mk, C.mul_mk, C.eql_mk, C.neq_mk, C.lss_mk, C.leq_mk, C.gtr_mk, C.geq_mk, C.conv_mk, C.len_mk, C.ext_0, C.ext_1, C.ext3_0, C.ext3_1, C.ext3_2, C.guarded_yes, C.guarded_tf, C.guarded_ft, C.guarded_undef, Bool.not_true, Bool.not_false, Nat.zero_add, eq_self, decide_true, decide_false]
    refine C.store1_of hb3 rfl rfl (by simp) fun w5 hu5 => ?_
    refine fin 2 m[p].ser w5 hu5.fr (by have := hu5.at_; rw [k2] at this; exact this) ?_
    have : val m x = (2, m[p].ser) := by unfold val; rw [hwp]; simp only [serA_get pm]
    rw [this]
  · have hw : wRef x = none := by unfold wRef; rw [if_neg fun c => k2 c.2]
    simp only [C.ite_true, C.ite_false, C.pick_true, C.pick_false, C.not_bool, C.field_ptr, C.nilCheck_ptr, C.add_mk, C.sub_mk, C.mul_mk, C.eql_mk, C.neq_mk, C.lss_mk, C.leq_mk, C.gtr_mk, C.geq_mk, C.conv_mk, C.len_mk, C.ext_0, C.ext_1, C.ext3_0, C.ext3_1, C.ext3_2, C.guarded_yes, C.guarded_tf, C.guarded_ft, C.guarded_undef, Bool.not_true, Bool.not_false, Nat.zero_add, eq_self, decide_true, decide_false, k2]
    refine fin (rdK x) (rdN x) w4 (Fr.refl _ _) hb3 ?_
    have : val m x = (rdK x, rdN x) := by unfold val; rw [wPl_none hw]
    rw [this]
theorem bsV (a b : Int) : (Instr.buildSlice 57 1 #[(0, .agg #[.int .i64 a, .int .i64 b])]).run Try.prog w = .ok (.slice (some ⟨w.heap.size, 0, none⟩) 1 1) (w.alloc (.cells #[.int .i64 a, .int .i64 b] 75)) := by kernel_rfl
theorem C.appV {W0 : World} {v : Value} {l : List Va} {x : Va} (hf : Fr [] W0 w) (hn : NewS W0 v) (hv : OwnS w v 75 2 (valC l)) (hl : l.length ≤ 8796093022207)
    (hk : ∀ v' w', Fr [] W0 w' → NewS W0 v' → OwnS w' v' 75 2 (valC (l ++ [x])) → Fr (blkS v) w w' → (∀ g ∈ blkS v', g ∈ blkS v ∨ w.heap.size ≤ g) → K v' w') :
    C.run Try.prog (Instr.buildSlice 57 1 #[(0, .agg #[.int .i64 x.1, .int .i64 x.2])]) w fun y w1 => C.run Try.prog (Builtin.append_ #[57, 57] 57 #[v, y]) w1 K :=
  C.app1 (x := [.int .i64 x.1, .int .i64 x.2]) (e := 75) (sz := 2) (bytes := 16) (z := .agg #[.int .i64 0, .int .i64 0]) Try.underlying57 (by kernel_rfl) rfl (by decide) (bsV x.1 x.2) rfl (by simp [Value.oneCell']) hf hn hv (by rw [valC_len]; omega) (by rw [valC_len]; omega) fun v' w' a b c d e => hk v' w' a b (by rw [valC_app]; exact c) d e
theorem values_loop {W0 : World} {b : Nat} {lv sv wv : Value} {l ws : List Int} {m : List Ob} (hl : RdS W0 lv 1 (intC l)) (h2 : sv.cells = #[sv]) (hb : W0.heap[b]? = some (.cells #[lv, sv] 61 (0, 0))) (hr : Rng l) (hO : Spl 0 l m) (hws : RdS W0 wv 1 (intC ws)) (hrw : Rng ws) (hfw : fineL m ws) (hwl : ws.length ≤ 8796093022207)
    (h : ∀ nv w', Fr [] W0 w' → NewS W0 nv → OwnS w' nv 75 2 (valC (ws.map (val m))) → K nv w') :
    ∀ (d j : Nat) (w : World) (nv : Value), ws.length = j + d → Fr [] W0 w → NewS W0 nv → OwnS w nv 75 2 (valC ((ws.take j).map (val m))) → F38.l3 K (.pointer (some ⟨b, 0, none⟩)) nv wv (.int .i64 (ws.length : Int)) (.int .i64 (j : Int)) w := by
  intro d
  induction d with
  | zero =>
    intro j w nv hj hf hn ho
    refine F38.l3.to ?_
    simp only [C.ite_true, C.ite_false, C.pick_true, C.pick_false, C.not_bool, C.field_ptr, C.nilCheck_ptr, C.add_mk, C.sub_mk, C.mul_mk, C.eql_mk, C.neq_mk, C.lss_mk, C.leq_mk, C.gtr_mk, C.geq_mk, C.conv_mk, C.len_mk, C.ext_0, C.ext_1, C.ext3_0, C.ext3_1, C.ext3_2, C.guarded_yes, C.guarded_tf, C.guarded_ft, C.guarded_undef, Bool.not_true, Bool.not_false, Nat.zero_add, eq_self, decide_true, decide_false, show ¬ ((j : Int) < (ws.length : Int)) by omega]
    rw [List.take_of_length_le (by omega)] at ho
    exact F38.k7.to (h nv w hf hn ho)
  | succ d ih =>
    intro j w nv hj hf hn ho
    have jl : j < ws.length := by omega
    have hin := List.getElem_mem jl
    refine F38.l3.to ?_
    simp only [C.ite_true, C.ite_false, C.pick_true, C.pick_false, C.not_bool, C.field_ptr, C.nilCheck_ptr, C.add_mk, C.sub_mk, C.mul_mk, C.eql_mk, C.neq_mk, C.lss_mk, C.leq_mk, C.gtr_mk, C.geq_mk, C.conv_mk, C.len_mk, C.ext_0, C.ext_1, C.ext3_0, C.ext3_1, C.ext3_2, C.guarded_yes, C.guarded_tf, C.guarded_ft, C.guarded_undef, Bool.not_true, Bool.not_false, Nat.zero_add, eq_self, decide_true, decide_false, show ((j : Int) < (ws.length : Int)) by omega]
    refine F38.k4.to (C.idx_int (hws.keep hf) jl fun g oo cs e fz hg hv => C.load1_of hg hv (C.loadA_all (hf.at_ hb (by simp)) rfl (value_c (hl.keep hf) h2 hr hO (hrw _ hin) (hfw _ hin) fun w1 hf1 => ?_)))
    refine C.appV (x := val m ws[j]) (hf.trans hf1) hn (ho.keep hf1 (by simp)) (by simp; omega) fun nv' w2 hf2 hn2 ho2 _ _ => ?_
    refine F38.k6.to ?_
    simp only [C.ite_true, C.ite_false, C.pick_true, C.pick_false, C.not_bool, C.field_ptr, C.nilCheck_ptr, C.add_mk, C.sub_mk, C.mul_mk, C.eql_mk, C.neq_mk, C.lss_mk, C.leq_mk, C.gtr_mk, C.geq_mk, C.conv_mk, C.len_mk, C.ext_0, C.ext_1, C.ext3_0, C.ext3_1, C.ext3_2, C.guarded_yes, C.guarded_tf, C.guarded_ft, C.guarded_undef, Bool.not_true, Bool.not_false, Nat.zero_add, eq_self, decide_true, decide_false]
    rw [wrap64_id (n := (j : Int) + 1) (by omega), show (j : Int) + 1 = ((j + 1 : Nat) : Int) by omega]
    refine ih (j + 1) w2 nv' (by omega) hf2 hn2 ?_
    rw [take_snoc jl, List.map_append]
    exact ho2
theorem values_c {lv sv wv : Value} {l ws : List Int} {m : List Ob} (hl : RdS w lv 1 (intC l)) (h2 : sv.cells = #[sv]) (h2' : sv.oneCell' = true) (hr : Rng l) (hO : Spl 0 l m) (hws : RdS w wv 1 (intC ws)) (hrw : Rng ws) (hfw : fineL m ws) (hwl : ws.length ≤ 8796093022207)
    (h : ∀ nv w', Fr [] w w' → NewS w nv → OwnS w' nv 75 2 (valC (ws.map (val m))) → K nv w') : C.call Try.prog 38 #[.agg #[lv, sv], wv] w K := by
  have hc0 : Value.cells (.agg #[lv, sv]) = #[lv, sv] := by simp [Value.cells, hl.one.2, h2]
  refine F38.sh ?_
  rw [hc0]
  refine C.new_of fun b w1 hn1 => C.len_rd (hws.keep hn1.fr) ?_
  rw [intC_len]
  exact values_loop (hl.keep hn1.fr) h2 hn1.at_ hr hO (hws.keep hn1.fr) hrw hfw hwl (fun nv w' a b c => h nv w' (hn1.fr.trans a) (b.mono hn1.fr.size) c) ws.length 0 w1 (.slice none 0 0) (by omega) (Fr.refl _ _) (NewS.nil _) (OwnS.nil _ _ _)
end
end Go.Proofs.YtfjilngljnlkjaaV
