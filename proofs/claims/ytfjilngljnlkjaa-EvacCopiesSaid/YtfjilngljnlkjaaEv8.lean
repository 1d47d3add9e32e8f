/- Objects copied, by the program: Copy. -/
import Derived.Test.YtfjilngljnlkjaaEv7
import Derived.Test.YtfjilngljnlkjaaEv3
namespace Go.Proofs.YtfjilngljnlkjaaV
open Go Go.Proofs Go.RowKit
set_option linter.unusedVariables false
set_option linter.unusedSimpArgs false
set_option maxRecDepth 10000
/-- How words and roots are opened. -/
def Cr (l roots : List Int) (c : Int) (m : List Ob) : Prop := (Cd l c m ∧ c ≠ 0) ∨ (c = 4 ∧ Cd l 0 m ∧ ¬ fineL m roots) ∨ (c = 0 ∧ Cd l 0 m ∧ fineL m roots)
theorem Cr.det {l roots : List Int} {c c' : Int} {m m' : List Ob} (h : Cr l roots c m) (h' : Cr l roots c' m') : c = c' ∧ m = m' := by
  rcases h with ⟨a1, a2⟩ | ⟨a1, a2, a3⟩ | ⟨a1, a2, a3⟩ <;> rcases h' with ⟨b1, b2⟩ | ⟨b1, b2, b3⟩ | ⟨b1, b2, b3⟩
  · exact a1.det b1
  · exact absurd (a1.det b2).1 a2
  · exact absurd (a1.det b2).1 a2
  · exact absurd (a2.det b1).1.symm b2
  · exact ⟨a1.trans b1.symm, (a2.det b2).2⟩
  · have := (a2.det b2).2; subst this; exact absurd b3 a3
  · exact absurd (a2.det b1).1.symm b2
  · have := (a2.det b2).2; subst this; exact absurd a3 b3
  · exact ⟨a1.trans b1.symm, (a2.det b2).2⟩
theorem Cd.zero {l : List Int} {m : List Ob} (h : Cd l 0 m) : l.length ≤ 2048 ∧ Spl 0 l m ∧ fineM m := by
  rcases h with ⟨e, _⟩ | ⟨e, _⟩ | ⟨_, h⟩
  · cases e
  · cases e
  · exact h
theorem Cr.opn {l roots : List Int} {m : List Ob} (h : Cr l roots 0 m) : Opn l m roots := by
  rcases h with ⟨_, e⟩ | ⟨e, _⟩ | ⟨_, h1, h2⟩
  · exact absurd rfl e
  · cases e
  · obtain ⟨a, b, c⟩ := h1.zero
    exact ⟨b, a, c, h2⟩
theorem Opn.cr {l roots : List Int} {m : List Ob} (h : Opn l m roots) : Cr l roots 0 m := .inr (.inr ⟨rfl, .inr (.inr ⟨rfl, h.few, h.spl, h.fine⟩), h.fr⟩)
theorem layS_snoc (m : List Ob) (o S : List Nat) (p : Nat) : layS m o (S ++ [p]) = layS m o S ++ hdA m p :: (fsA m p).map (movW m o) := by simp [layS]
theorem layS_pre {m : List Ob} {o o' : List Nat} (hpre : o <+: o') : ∀ (S : List Nat), (∀ p ∈ S, ∀ w ∈ fsA m p, ∀ q, wPl m w = some q → q ∈ o) → layS m o' S = layS m o S
  | [], _ => rfl
  | p :: S, h => by
    have ih := layS_pre hpre S fun q hq => h q (by simp [hq])
    simp only [layS, List.flatMap_cons] at ih ⊢
    rw [ih]
    congr 2
    apply List.map_congr_left
    intro w hw
    exact movW_pre hpre (h p (by simp) w hw)
section
variable {K : VK} {w : World}
theorem MV.img {Wb : World} {mb tb : Nat} {lv sv ov : Value} {m : List Ob} {o : List Nat} {F : VK} (h : MV Wb w mb tb lv sv ov m o) (hk : F (.agg #[lv, sv]) w) : C.loadA 2 (.pointer (some ⟨mb, 0, none⟩)) w F :=
  C.loadA_of (vs := [lv, sv]) h.blk (by simp) (by simp) hk
/-- What Copy has while it goes on. -/
structure CI (W0 Wb w : World) (mb tb : Nat) (lv sv ov tv : Value) (l roots : List Int) (m : List Ob) (o : List Nat) (k : Nat) : Prop where
  mv : MV Wb w mb tb lv sv ov m o
  pls : Pls m o
  town : OwnS w tv 2 1 (intC (layS m o (o.take k)))
  tn : NewS Wb tv
  done : ∀ i p, i < k → o[i]? = some p → ∀ x ∈ fsA m p, ∀ q, wPl m x = some q → q ∈ o
  root : ∀ x ∈ roots, ∀ q, wPl m x = some q → q ∈ o
theorem Copy_loop {Wb : World} {mb tb : Nat} {lv sv hv : Value} {l roots : List Int} {m : List Ob} (hC : Opn l m roots) (hlv : RdS Wb lv 1 (intC l)) (hsv : RdS Wb sv 1 (intC (atL m))) (hr : Rng l)
    (h : ∀ tv w', Fr [] Wb w' → OwnS w' tv 2 1 (intC (lay m (ordO m roots))) → OwnS w' hv 2 1 (intC (roots.map (movW m (ordO m roots)))) → NewS Wb tv → K (.tuple #[tv, hv, .int .i64 0]) w') :
    ∀ (f k : Nat) (w : World) (o : List Nat) (ov tv : Value), m.length < k + f → bfs m f o k = ordO m roots → CI Wb Wb w mb tb lv sv ov tv l roots m o k → OwnS w hv 2 1 (intC (roots.map (movW m o))) → NewS Wb hv → (∀ g ∈ blkS hv, g ∉ blkS tv) →
      F16.l7 K lv (.pointer (some ⟨mb, 0, none⟩)) hv tv (.int .i64 (k : Int)) w := by
  have hO := hC.spl
  have hlen := hC.few
  have hml := hO.len
  have fin : ∀ (k : Nat) (w : World) (o : List Nat) (ov tv : Value), o.length ≤ k → k ≤ 100000 → o = ordO m roots → CI Wb Wb w mb tb lv sv ov tv l roots m o k → OwnS w hv 2 1 (intC (roots.map (movW m o))) → F16.l7 K lv (.pointer (some ⟨mb, 0, none⟩)) hv tv (.int .i64 (k : Int)) w := by
    intro k w o ov tv hk hk2 ho hI hh
    refine F16.l7.to ?_
    simp only [C.ite_true, C.ite_false, C.pick_true, C.pick_false, C.not_bool, C.field_ptr, C.nilCheck_ptr, C.add_mk, C.sub_mk, C.mul_mk, C.eql_mk, C.neq_mk, C.lss_mk, C.leq_mk, C.gtr_mk, C.geq_mk, C.conv_mk, C.len_mk, C.ext_0, C.ext_1, C.ext3_0, C.ext3_1, C.ext3_2, C.guarded_yes, C.guarded_tf, C.guarded_ft, C.guarded_undef, Bool.not_true, Bool.not_false, Nat.zero_add, eq_self, decide_true, decide_false]
    refine C.load1_of (v := ov) hI.mv.blk rfl (C.len_rd hI.mv.own.rd ?_)
    rw [intC_len, ordL_len]
    simp only [C.ite_true, C.ite_false, C.pick_true, C.pick_false, C.not_bool, C.field_ptr, C.nilCheck_ptr, C.add_mk, C.sub_mk, C.mul_mk, C.eql_mk, C.neq_mk, C.lss_mk, C.leq_mk, C.gtr_mk, C.geq_mk, C.conv_mk, C.len_mk, C.ext_0, C.ext_1, C.ext3_0, C.ext3_1, C.ext3_2, C.guarded_yes, C.guarded_tf, C.guarded_ft, C.guarded_undef, Bool.not_true, Bool.not_false, Nat.zero_add, eq_self, decide_true, decide_false, show ¬ ((k : Int) < (o.length : Int)) by omega]
    have ht := hI.town
    rw [List.take_of_length_le hk] at ht
    refine F16.k11.to (h tv w hI.mv.fr ?_ ?_ hI.tn)
    · rw [← ho]; exact ht
    · rw [← ho]; exact hh
  intro f
  induction f with
  | zero =>
    intro k w o ov tv hf hb hI hh hn hd
    have hol := hI.pls.len
    by_cases hk : k ≤ 100000
    · exact fin k w o ov tv (by omega) hk hb hI hh
    · refine F16.l7.to ?_
      simp only [C.ite_true, C.ite_false, C.pick_true, C.pick_false, C.not_bool, C.field_ptr, C.nilCheck_ptr, C.add_mk, C.sub_mk, C.mul_mk, C.eql_mk, C.neq_mk, C.lss_mk, C.leq_mk, C.gtr_mk, C.geq_mk, C.conv_mk, C.len_mk, C.ext_0, C.ext_1, C.ext3_0, C.ext3_1, C.ext3_2, C.guarded_yes, C.guarded_tf, C.guarded_ft, C.guarded_undef, Bool.not_true, Bool.not_false, Nat.zero_add, eq_self, decide_true, decide_false]
      refine C.load1_of (v := ov) hI.mv.blk rfl (C.len_rd hI.mv.own.rd ?_)
      rw [intC_len, ordL_len]
      simp only [C.ite_true, C.ite_false, C.pick_true, C.pick_false, C.not_bool, C.field_ptr, C.nilCheck_ptr, C.add_mk, C.sub_mk, C.mul_mk, C.eql_mk, C.neq_mk, C.lss_mk, C.leq_mk, C.gtr_mk, C.geq_mk, C.conv_mk, C.len_mk, C.ext_0, C.ext_1, C.ext3_0, C.ext3_1, C.ext3_2, C.guarded_yes, C.guarded_tf, C.guarded_ft, C.guarded_undef, Bool.not_true, Bool.not_false, Nat.zero_add, eq_self, decide_true, decide_false, show ¬ ((k : Int) < (o.length : Int)) by omega]
      have ht := hI.town
      rw [List.take_of_length_le (by omega)] at ht
      have ho : o = ordO m roots := hb
      refine F16.k11.to (h tv w hI.mv.fr ?_ ?_ hI.tn)
      · rw [← ho]; exact ht
      · rw [← ho]; exact hh
  | succ f ih =>
    intro k w o ov tv hf hb hI hh hn hd
    have hol := hI.pls.len
    by_cases hk : o.length ≤ k
    · have ho : o = ordO m roots := by
        rw [← hb]
        unfold bfs
        rw [List.getElem?_eq_none hk]
      by_cases hk2 : k ≤ 100000
      · exact fin k w o ov tv hk hk2 ho hI hh
      · refine F16.l7.to ?_
        simp only [C.ite_true, C.ite_false, C.pick_true, C.pick_false, C.not_bool, C.field_ptr, C.nilCheck_ptr, C.add_mk, C.sub_mk, C.mul_mk, C.eql_mk, C.neq_mk, C.lss_mk, C.leq_mk, C.gtr_mk, C.geq_mk, C.conv_mk, C.len_mk, C.ext_0, C.ext_1, C.ext3_0, C.ext3_1, C.ext3_2, C.guarded_yes, C.guarded_tf, C.guarded_ft, C.guarded_undef, Bool.not_true, Bool.not_false, Nat.zero_add, eq_self, decide_true, decide_false]
        refine C.load1_of (v := ov) hI.mv.blk rfl (C.len_rd hI.mv.own.rd ?_)
        rw [intC_len, ordL_len]
        simp only [C.ite_true, C.ite_false, C.pick_true, C.pick_false, C.not_bool, C.field_ptr, C.nilCheck_ptr, C.add_mk, C.sub_mk, C.mul_mk, C.eql_mk, C.neq_mk, C.lss_mk, C.leq_mk, C.gtr_mk, C.geq_mk, C.conv_mk, C.len_mk, C.ext_0, C.ext_1, C.ext3_0, C.ext3_1, C.ext3_2, C.guarded_yes, C.guarded_tf, C.guarded_ft, C.guarded_undef, Bool.not_true, Bool.not_false, Nat.zero_add, eq_self, decide_true, decide_false, show ¬ ((k : Int) < (o.length : Int)) by omega]
        have ht := hI.town
        rw [List.take_of_length_le hk] at ht
        refine F16.k11.to (h tv w hI.mv.fr ?_ ?_ hI.tn)
        · rw [← ho]; exact ht
        · rw [← ho]; exact hh
    have kl : k < o.length := by omega
    have kl' : k < (ordL m o).length := by rw [ordL_len]; exact kl
    have hp := hI.pls.2 o[k] (List.getElem_mem kl)
    have hOb := (hO.get o[k] hp).1
    have hal : m[o[k]].at_ < l.length := by have := hOb.end_; omega
    have hhd : l[m[o[k]].at_] = hdA m o[k] := by
      have := hOb.hd
      rw [Nat.sub_zero, List.getElem?_eq_getElem hal] at this
      rw [hdA_get hp]
      exact Option.some.inj this
    have hlw : ∀ w', Fr [] Wb w' → RdS w' lv 1 (intC l) := fun w' hw => hlv.keep hw
    refine F16.l7.to ?_
    simp only [C.ite_true, C.ite_false, C.pick_true, C.pick_false, C.not_bool, C.field_ptr, C.nilCheck_ptr, C.add_mk, C.sub_mk, C.mul_mk, C.eql_mk, C.neq_mk, C.lss_mk, C.leq_mk, C.gtr_mk, C.geq_mk, C.conv_mk, C.len_mk, C.ext_0, C.ext_1, C.ext3_0, C.ext3_1, C.ext3_2, C.guarded_yes, C.guarded_tf, C.guarded_ft, C.guarded_undef, Bool.not_true, Bool.not_false, Nat.zero_add, eq_self, decide_true, decide_false]
    refine C.load1_of (v := ov) hI.mv.blk rfl (C.len_rd hI.mv.own.rd ?_)
    rw [intC_len, ordL_len]
    simp only [C.ite_true, C.ite_false, C.pick_true, C.pick_false, C.not_bool, C.field_ptr, C.nilCheck_ptr, C.add_mk, C.sub_mk, C.mul_mk, C.eql_mk, C.neq_mk, C.lss_mk, C.leq_mk, C.gtr_mk, C.geq_mk, C.conv_mk, C.len_mk, C.ext_0, C.ext_1, C.ext3_0, C.ext3_1, C.ext3_2, C.guarded_yes, C.guarded_tf, C.guarded_ft, C.guarded_undef, Bool.not_true, Bool.not_false, Nat.zero_add, eq_self, decide_true, decide_false, show ((k : Int) < (o.length : Int)) by omega]
    refine F16.k9.to ?_
    simp only [C.ite_true, C.ite_false, C.pick_true, C.pick_false, C.not_bool, C.field_ptr, C.nilCheck_ptr, C.add_mk, C.sub_mk, C.mul_mk, C.eql_mk, C.neq_mk, C.lss_mk, C.leq_mk, C.gtr_mk, C.geq_mk, C.conv_mk, C.len_mk, C.ext_0, C.ext_1, C.ext3_0, C.ext3_1, C.ext3_2, C.guarded_yes, C.guarded_tf, C.guarded_ft, C.guarded_undef, Bool.not_true, Bool.not_false, Nat.zero_add, eq_self, decide_true, decide_false]
    refine C.load1_of (v := ov) hI.mv.blk rfl (C.idx_int hI.mv.own.rd kl' fun g oo cs e fz hg hcv => C.load1_of hg hcv ?_)
    rw [ordL_get kl kl', atA_get hp]
    have hS0 : ∀ (w' : World) ov' o', MV Wb w' mb tb lv sv ov' m o' → (∃ ov n, w'.heap[mb]? = some (.cells #[lv, sv, .map (some tb), ov, n] 72 (0, 0))) ∧ RdS w' lv 1 (intC l) := fun w' ov' o' M => ⟨⟨_, _, M.blk⟩, hlw w' M.fr⟩
    refine C.draw_of (fun w' => (∃ ov n, w'.heap[mb]? = some (.cells #[lv, sv, .map (some tb), ov, n] 72 (0, 0))) ∧ RdS w' lv 1 (intC l)) fun w1 hf1 he1 => ⟨hS0 w1 _ _ (hI.mv.keep hf1), ?_⟩
    have M1 := hI.mv.keep hf1
    simp only [C.ite_true, C.ite_false, C.pick_true, C.pick_false, C.not_bool, C.field_ptr, C.nilCheck_ptr, C.add_mk, C.sub_mk, C.mul_mk, C.eql_mk, C.neq_mk, C.lss_mk, C.leq_mk, C.gtr_mk, C.geq_mk, C.conv_mk, C.len_mk, C.ext_0, C.ext_1, C.ext3_0, C.ext3_1, C.ext3_2, C.guarded_yes, C.guarded_tf, C.guarded_ft, C.guarded_undef, Bool.not_true, Bool.not_false, Nat.zero_add, eq_self, decide_true, decide_false, and_true]
    refine C.idx_rdS (S := fun w' => (∃ ov n, w'.heap[mb]? = some (.cells #[lv, sv, .map (some tb), ov, n] 72 (0, 0))) ∧ RdS w' lv 1 (intC l)) (fun w' hw => hw.2) (hS0 w1 _ _ M1) (by omega) (by rw [Int.toNat_natCast]; exact intC_get hal) fun ga oa _ hs1 => ?_
    try simp only [C.ite_true, C.ite_false, C.pick_true, C.pick_false, C.not_bool, C.field_ptr, C.nilCheck_ptr, C.add_mk, C.sub_mk, C.mul_mk, C.eql_mk, C.neq_mk, C.lss_mk, C.leq_mk, C.gtr_mk, C.geq_mk, C.conv_mk, C.len_mk, C.ext_0, C.ext_1, C.ext3_0, C.ext3_1, C.ext3_2, C.guarded_yes, C.guarded_tf, C.guarded_ft, C.guarded_undef, Bool.not_true, Bool.not_false, Nat.zero_add, eq_self, decide_true, decide_false]
    refine C.load1S_of (v := .int .i64 (hdA m o[k])) (fun w' hw => by obtain ⟨cs, e, fz, x, y⟩ := hs1 w' hw; exact ⟨cs, e, fz, x, by rw [← hhd]; simpa using y 0 (by simp)⟩) ?_
    refine C.loadAS_of (vs := [lv, sv]) (fun w' hw => by obtain ⟨⟨ov', n, x⟩, _⟩ := hw; exact ⟨_, _, _, x, by simp, by simp⟩) ?_
    have htl : (layS m o (o.take k)).length ≤ 2048 := by
      rw [layS_len]
      have := (show Pls m (o.take k) from ⟨hI.pls.1.sublist (List.take_sublist _ _), fun p hp => hI.pls.2 p (List.mem_of_mem_take hp)⟩).sz hO
      omega
    have hfl := hOb.n
    have htv1 := hI.town.keep hf1 (by simp)
    have hbn := New.mk' w1 (.cells #[.int .i64 (hdA m o[k])] 2)
    have M2 := M1.keep hbn.fr
    refine C.run_of (bsW _) ⟨hS0 _ _ _ M2, ?_⟩
    refine C.appWs' (k := [hdA m o[k]]) (htv1.keep hbn.fr (by simp)) (RdS.of_block hbn.at_ rfl (by simp) (by simp) (by simp [intC]) (by simp [intC])) (by simp; omega) fun tv3 w3 ho3 hf3 hg3 => ?_
    have M3 := M2.keepS (htv1.keep hbn.fr (by simp)) (by decide) (by decide) hI.tn hf3
    refine ⟨hS0 _ _ _ M3, fields_c (hlw w3 M3.fr) hsv.one.2 hr hOb fun fv w4 hf4 hfv hfb => ?_⟩
    have M4 := M3.keep hf4
    have hoff : ∀ g ∈ mb :: tb :: blkS ov, g ∉ blkS fv := fun g hg c => by
      have h1 := hfb g c
      have h2 : g < Wb.heap.size := hlv.lt (fun e => by
        have h0 : (intC l).length = 0 := by rw [e]; rfl
        rw [intC_len] at h0
        omega) g h1
      obtain ⟨l1, l2, l3⟩ := M4.lo
      rcases List.mem_cons.1 hg with d | d
      · omega
      · rcases List.mem_cons.1 d with d | d
        · omega
        · have := M4.new g (mem_blkS.1 d); omega
    refine ⟨hS0 _ _ _ M4, moved_c hO hlen hlv hsv.one.2 hr hI.pls M4 hfv (hr.fs hO hp) (hC.fine _ (List.getElem_mem hp)) (by omega) (fun _ => hoff) fun nv ov5 w5 M5 hf5 hg5 hn5 ho5 => ⟨hS0 _ _ _ M5, ?_⟩⟩
    have tn3 : NewS Wb tv3 := fun g hg => by
      rcases hg3 g (mem_blkS.2 hg) with c | c
      · exact hI.tn g (mem_blkS.1 c)
      · have := M2.fr.size; omega
    have ho3' := (ho3.keep hf4 (by simp)).keep' hf5 (M4.off (ho3.keep hf4 (by simp)) (by decide) (by decide))
    refine C.appWs' (k := m[o[k]].fs.map (movW m (vis m o m[o[k]].fs))) ho3' ho5.rd (by simp; omega) fun tv6 w6 ho6 hf6 hg6 => ?_
    have M6 := M5.keepS ho3' (by decide) (by decide) tn3 hf6
    refine ⟨hS0 _ _ _ M6, ?_⟩
    refine F16.k8.to ?_
    simp only [C.ite_true, C.ite_false, C.pick_true, C.pick_false, C.not_bool, C.field_ptr, C.nilCheck_ptr, C.add_mk, C.sub_mk, C.mul_mk, C.eql_mk, C.neq_mk, C.lss_mk, C.leq_mk, C.gtr_mk, C.geq_mk, C.conv_mk, C.len_mk, C.ext_0, C.ext_1, C.ext3_0, C.ext3_1, C.ext3_2, C.guarded_yes, C.guarded_tf, C.guarded_ft, C.guarded_undef, Bool.not_true, Bool.not_false, Nat.zero_add, eq_self, decide_true, decide_false]
    rw [wrap64_id (n := (k : Int) + 1) (by omega), show (k : Int) + 1 = ((k + 1 : Nat) : Int) by omega]
    have hpre := vis_pre m (fsA m o[k]) o
    have hfs := fsA_get hp
    have hpl' := hI.pls.vis (fsA m o[k])
    rw [← hfs] at M6 ho6
    have hkk : (vis m o (fsA m o[k]))[k]? = some o[k] := by
      obtain ⟨t, ht⟩ := hpre
      rw [← ht, List.getElem?_append_left kl, List.getElem?_eq_getElem kl]
    have hdone : ∀ i p, i < k + 1 → (vis m o (fsA m o[k]))[i]? = some p → ∀ x ∈ fsA m p, ∀ q, wPl m x = some q → q ∈ vis m o (fsA m o[k]) := by
      intro i p hi hip x hx q hq
      have e : (vis m o (fsA m o[k]))[i]? = o[i]? := by
        obtain ⟨t, ht⟩ := hpre
        rw [← ht, List.getElem?_append_left (by omega)]
      rw [e] at hip
      by_cases c : i = k
      · subst c
        rw [List.getElem?_eq_getElem kl] at hip
        simp only [Option.some.injEq] at hip
        subst hip
        exact (vis_mem _).2 (.inr ⟨x, hx, hq⟩)
      · exact hpre.subset (hI.done i p (by omega) hip x hx q hq)
    have hroot : ∀ x ∈ roots, ∀ q, wPl m x = some q → q ∈ vis m o (fsA m o[k]) := fun x hx q hq => hpre.subset (hI.root x hx q hq)
    have ht6 : layS m (vis m o (fsA m o[k])) ((vis m o (fsA m o[k])).take (k + 1)) = layS m o (o.take k) ++ [hdA m o[k]] ++ (fsA m o[k]).map (movW m (vis m o (fsA m o[k]))) := by
      have e : (vis m o (fsA m o[k])).take (k + 1) = o.take k ++ [o[k]] := by
        obtain ⟨t, ht⟩ := hpre
        rw [← ht, List.take_append_of_le_length (by omega), List.take_add_one, List.getElem?_eq_getElem kl]
        rfl
      rw [e, layS_snoc, layS_pre hpre _ fun p hp x hx q hq => ?_]
      · simp
      · obtain ⟨i, hi, rfl⟩ := List.getElem_of_mem hp
        rw [List.length_take] at hi
        rw [List.getElem_take] at hx
        exact hI.done i _ (by omega) (List.getElem?_eq_getElem (by omega)) x hx q hq
    have hh6 : OwnS w6 hv 2 1 (intC (roots.map (movW m (vis m o (fsA m o[k]))))) := by
      have e : roots.map (movW m (vis m o (fsA m o[k]))) = roots.map (movW m o) := List.map_congr_left fun x hx => movW_pre hpre (hI.root x hx)
      rw [e]
      have h1 := hh.keep (hf1.trans hbn.fr) (by simp)
      have h3 := h1.keep' hf3 hd
      have h4 := h3.keep hf4 (by simp)
      have h5 := h4.keep' hf5 (M4.off h4 (by decide) (by decide))
      refine h5.keep' hf6 fun g hg c => ?_
      rcases hg3 g c with d | d
      · exact hd g hg d
      · have := h1.mem_lt g hg; omega
    refine ih (k + 1) w6 (vis m o (fsA m o[k])) ov5 tv6 (by omega) ?_ ⟨M6, hpl', ?_, ?_, hdone, hroot⟩ hh6 hn ?_
    · rw [← hb]
      conv => rhs; unfold bfs
      rw [List.getElem?_eq_getElem kl]
    · rw [ht6]
      exact ho6
    · intro g hg
      rcases hg6 g (mem_blkS.2 hg) with c | c
      · exact tn3 g (mem_blkS.1 c)
      · have := M5.fr.size; omega
    · intro g hg c
      rcases hg6 g c with d | d
      · rcases hg3 g d with e | e
        · exact hd g hg e
        · have := (hh.keep (hf1.trans hbn.fr) (by simp)).mem_lt g hg; omega
      · have := (hh.keep (hf1.trans hbn.fr) (by simp)).mem_lt g hg
        have := hf3.size; have := hf4.size; have := hf5.size; omega
theorem Copy_c {lv rv : Value} {l roots : List Int} (hl : RdS w lv 1 (intC l)) (hr : Rng l) (hrv : RdS w rv 1 (intC roots)) (hrr : Rng roots) (hrl : roots.length ≤ 17592186044415)
    (h1 : ∀ c m w', Cr l roots c m → c ≠ 0 → Fr [] w w' → K (.tuple #[.slice none 0 0, .slice none 0 0, .int .i64 c]) w')
    (h0 : ∀ m tv hv w', Cr l roots 0 m → Fr [] w w' → OwnS w' tv 2 1 (intC (lay m (ordO m roots))) → OwnS w' hv 2 1 (intC (roots.map (movW m (ordO m roots)))) → NewS w tv → NewS w hv → K (.tuple #[tv, hv, .int .i64 0]) w') :
    C.call Try.prog 16 #[lv, rv] w K := by
  refine F16.sh (start_c hl hr hrv hrr (fun c m w' hc c0 hf => ?_) (fun m w' hc hn hf => ?_) fun m sv mb tb Wb w1 hc hfr hfb hlb hrb hsb hM => ?_)
  · simp only [C.ite_true, C.ite_false, C.pick_true, C.pick_false, C.not_bool, C.field_ptr, C.nilCheck_ptr, C.add_mk, C.sub_mk, C.mul_mk, C.eql_mk, C.neq_mk, C.lss_mk, C.leq_mk, C.gtr_mk, C.geq_mk, C.conv_mk, C.len_mk, C.ext_0, C.ext_1, C.ext3_0, C.ext3_1, C.ext3_2, C.guarded_yes, C.guarded_tf, C.guarded_ft, C.guarded_undef, Bool.not_true, Bool.not_false, Nat.zero_add, eq_self, decide_true, decide_false, ne_eq, c0, not_false_eq_true]
    exact h1 c m w' (.inl ⟨hc, c0⟩) c0 hf
  · simp only [C.ite_true, C.ite_false, C.pick_true, C.pick_false, C.not_bool, C.field_ptr, C.nilCheck_ptr, C.add_mk, C.sub_mk, C.mul_mk, C.eql_mk, C.neq_mk, C.lss_mk, C.leq_mk, C.gtr_mk, C.geq_mk, C.conv_mk, C.len_mk, C.ext_0, C.ext_1, C.ext3_0, C.ext3_1, C.ext3_2, C.guarded_yes, C.guarded_tf, C.guarded_ft, C.guarded_undef, Bool.not_true, Bool.not_false, Nat.zero_add, eq_self, decide_true, decide_false, ne_eq, show ¬ (4 : Int) = 0 by decide, not_false_eq_true]
    exact h1 4 m w' (.inr (.inl ⟨rfl, hc, hn⟩)) (by decide) hf
  · have hcr : Cr l roots 0 m := .inr (.inr ⟨rfl, hc, hfr⟩)
    have hO := hcr.opn
    simp only [C.ite_true, C.ite_false, C.pick_true, C.pick_false, C.not_bool, C.field_ptr, C.nilCheck_ptr, C.add_mk, C.sub_mk, C.mul_mk, C.eql_mk, C.neq_mk, C.lss_mk, C.leq_mk, C.gtr_mk, C.geq_mk, C.conv_mk, C.len_mk, C.ext_0, C.ext_1, C.ext3_0, C.ext3_1, C.ext3_2, C.guarded_yes, C.guarded_tf, C.guarded_ft, C.guarded_undef, Bool.not_true, Bool.not_false, Nat.zero_add, eq_self, decide_true, decide_false, ne_eq, not_true_eq_false]
    have hoff : roots ≠ [] → ∀ g ∈ mb :: tb :: blkS (.slice none 0 0), g ∉ blkS rv := fun hne g hg c => by
      have := hrb.lt (fun e => hne (by cases roots with | nil => rfl | cons x t => simp [intC] at e)) g c
      obtain ⟨l1, l2, l3⟩ := hM.lo
      rcases List.mem_cons.1 hg with d | d
      · omega
      · rcases List.mem_cons.1 d with d | d
        · omega
        · simp [blkS, Value.ownBlock] at d
    refine F16.k4.to (moved_c hO.spl hO.few hlb hsb.one.2 hr (Pls.nil m) hM (hrb.keep hM.fr) hrr hfr hrl hoff fun hv ov w2 M2 hf2 hg2 hn2 ho2 => ?_)
    have hz := M2.fr.size
    have hsz1 := hM.fr.size
    refine Copy_loop hO hlb hsb hr (fun tv w3 hf3 ho3 hh3 hn3 => h0 m tv hv w3 hcr (hfb.trans hf3) ho3 hh3 (hn3.mono hfb.size) (hn2.mono (by have := hfb.size; omega))) (m.length + 1) 0 w2 (vis m [] roots) ov (.slice none 0 0) (by omega) rfl ⟨M2, (Pls.nil m).vis _, ?_, NewS.nil _, fun i p hi => by omega, fun x hx q hq => (vis_mem _).2 (.inr ⟨x, hx, hq⟩)⟩ ho2 (hn2.mono hsz1) fun g hg c => by simp [blkS, Value.ownBlock] at c
    simp only [List.take_zero, layS, List.flatMap_nil]
    exact OwnS.nil _ _ _
end
end Go.Proofs.YtfjilngljnlkjaaV
