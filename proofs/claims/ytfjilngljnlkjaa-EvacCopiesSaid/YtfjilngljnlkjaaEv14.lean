/- What an image shows, by the program: View. -/
import Derived.Test.YtfjilngljnlkjaaEv13
namespace Go.Proofs.YtfjilngljnlkjaaV
open Go Go.Proofs Go.RowKit
set_option linter.unusedVariables false
set_option linter.unusedSimpArgs false
set_option maxRecDepth 10000
theorem ordL_srt {l : List Int} {m : List Ob} {roots : List Int} (hS : Spl 0 l m) : srt (ordL m (ordO m roots)) = ordL m (slO m roots) := by
  refine srt_is ?_ ((slO_perm m roots).map _)
  unfold ordL
  rw [List.pairwise_map]
  refine List.Pairwise.imp_of_mem (fun {a b} ha hb h => ?_) (slO_sorted m roots)
  have pa := (slO_pls m roots).2 a ha
  have pb := (slO_pls m roots).2 b hb
  rw [atA_get pa, atA_get pb]
  have := hS.mono h pb
  omega
theorem nodes_srt {m : List Ob} {roots : List Int} {A : List Nat} (hA : A.Perm (List.range ((slO m roots).map (nodeA m)).length)) (hs : SrtL (fun i => (nodeD ((slO m roots).map (nodeA m)) i).1) A) :
    A.map (nodeD ((slO m roots).map (nodeA m))) = (srtS m (ordO m roots)).map (nodeA m) := by
  rw [List.length_map] at hA
  have hn : ∀ i, i < (slO m roots).length → nodeD ((slO m roots).map (nodeA m)) i = nodeA m ((slO m roots).getD i 0) := fun i hi => by
    simp [nodeD, List.getD_eq_getElem?_getD, List.getElem?_eq_getElem hi]
  have hs' : SrtL (fun i => serA m ((slO m roots).getD i 0)) A := by
    refine List.Pairwise.imp_of_mem (fun {a b} ha hb h => ?_) hs
    have la := List.mem_range.1 (hA.mem_iff.1 ha)
    have lb := List.mem_range.1 (hA.mem_iff.1 hb)
    unfold lexS at h ⊢
    simp only [hn a la, hn b lb] at h
    exact h
  rw [← srt_places (slO_sorted m roots) (slO_perm m roots) hA hs', List.map_map]
  apply List.map_congr_left
  intro i hi
  exact hn i (List.mem_range.1 (hA.mem_iff.1 hi))
section
variable {K : VK} {w : World}
theorem EView_c {lv rv : Value} {l roots : List Int} (hl : RdS w lv 1 (intC l)) (hr : Rng l) (hrv : RdS w rv 1 (intC roots)) (hrr : Rng roots) (hrl : roots.length ≤ 8796093022207)
    (h1 : ∀ c m w', Cr l roots c m → c ≠ 0 → Fr [] w w' → K (.tuple #[.agg #[.slice none 0 0, .slice none 0 0], .int .i64 c]) w')
    (h0 : ∀ m rows nodes w', Cr l roots 0 m → Fr [] w w' → IsV w' rows nodes (vwO m roots) → K (.tuple #[.agg #[rows, nodes], .int .i64 0]) w') :
    C.call Try.prog 18 #[lv, rv] w K := by
  refine F18.sh (C.new_of fun b4 w0 hn0 => ?_)
  have i0 := hn0.is
  have z0 := hn0.sz
  have h40 := hn0.at_
  have out1 : ∀ (c : Int) w1, Fr [] w0 w1 → (∀ w', Fr [] w w' → K (.tuple #[.agg #[.slice none 0 0, .slice none 0 0], .int .i64 c]) w') → C.run Try.prog (Instr.build 42 #[]) w1 fun x w6 => C.store 2 (.pointer (some ⟨b4, 0, none⟩)) x w6 fun w7 => C.loadA 2 (.pointer (some ⟨b4, 0, none⟩)) w7 fun r8 _ => K (.tuple #[r8, .int .i64 c]) w7 := by
    intro c w1 hf1 hk
    refine C.run_of bView0 (C.store_all (x := .agg #[.slice none 0 0, .slice none 0 0]) (hf1.at_ h40 (by simp)) rfl (by simp [Value.cells, Value.oneCell']) rfl fun w2 hu2 => C.loadA_all hu2.at_ rfl ?_)
    exact hk w2 ((hn0.fr.trans hf1).then hu2.fr fun z hz => .inr (by simp only [List.mem_singleton] at hz; omega))
  refine start_c (hl.keep hn0.fr) hr (hrv.keep hn0.fr) hrr (fun c m w1 hc c0 hf1 => ?_) (fun m w1 hc hn hf1 => ?_) fun m sv mb tb Wb w1 hc hfr hfb hlb hrb hsb hM => ?_
  · simp only [C.ite_true, C.ite_false, C.pick_true, C.pick_false, C.not_bool, C.field_ptr, C.nilCheck_ptr, C.add_mk, C.sub_mk, C.mul_mk, C.eql_mk, C.neq_mk, C.lss_mk, C.leq_mk, C.gtr_mk, C.geq_mk, C.conv_mk, C.len_mk, C.ext_0, C.ext_1, C.ext3_0, C.ext3_1, C.ext3_2, C.guarded_yes, C.guarded_tf, C.guarded_ft, C.guarded_undef, Bool.not_true, Bool.not_false, Nat.zero_add, eq_self, decide_true, decide_false, ne_eq, c0, not_false_eq_true]
    exact out1 c w1 hf1 fun w' hf' => h1 c m w' (.inl ⟨hc, c0⟩) c0 hf'
  · simp only [C.ite_true, C.ite_false, C.pick_true, C.pick_false, C.not_bool, C.field_ptr, C.nilCheck_ptr, C.add_mk, C.sub_mk, C.mul_mk, C.eql_mk, C.neq_mk, C.lss_mk, C.leq_mk, C.gtr_mk, C.geq_mk, C.conv_mk, C.len_mk, C.ext_0, C.ext_1, C.ext3_0, C.ext3_1, C.ext3_2, C.guarded_yes, C.guarded_tf, C.guarded_ft, C.guarded_undef, Bool.not_true, Bool.not_false, Nat.zero_add, eq_self, decide_true, decide_false, ne_eq, show ¬ (4 : Int) = 0 by decide, not_false_eq_true]
    exact out1 4 w1 hf1 fun w' hf' => h1 4 m w' (.inr (.inl ⟨rfl, hc, hn⟩)) (by decide) hf'
  · have hcr : Cr l roots 0 m := .inr (.inr ⟨rfl, hc, hfr⟩)
    have hO := hcr.opn
    have hS := hO.spl
    have hlen := hO.few
    have hml := hS.len
    simp only [C.ite_true, C.ite_false, C.pick_true, C.pick_false, C.not_bool, C.field_ptr, C.nilCheck_ptr, C.add_mk, C.sub_mk, C.mul_mk, C.eql_mk, C.neq_mk, C.lss_mk, C.leq_mk, C.gtr_mk, C.geq_mk, C.conv_mk, C.len_mk, C.ext_0, C.ext_1, C.ext3_0, C.ext3_1, C.ext3_2, C.guarded_yes, C.guarded_tf, C.guarded_ft, C.guarded_undef, Bool.not_true, Bool.not_false, Nat.zero_add, eq_self, decide_true, decide_false, ne_eq, not_true_eq_false]
    have hoff : roots ≠ [] → ∀ g ∈ mb :: tb :: blkS (.slice none 0 0), g ∉ blkS rv := fun hne g hg c => by
      have := hrb.lt (fun e => hne (by cases roots with | nil => rfl | cons x t => simp [intC] at e)) g c
      obtain ⟨l1, l2, l3⟩ := hM.lo
      rcases List.mem_cons.1 hg with d | d
      · omega
      · rcases List.mem_cons.1 d with d | d
        · omega
        · simp [blkS, Value.ownBlock] at d
    refine F18.k4.to (moved_c hO.spl hO.few hlb hsb.one.2 hr (Pls.nil m) hM (hrb.keep hM.fr) hrr hfr (by omega) hoff fun hv ov w2 M2 hf2 hg2 hn2 ho2 => ?_)
    refine EView_loop hO hlb hsb hr (fun ov3 w3 M3 => ?_) (m.length + 1) 0 w2 (vis m [] roots) ov (by omega) (by omega) rfl ⟨M2, (Pls.nil m).vis _, fun i p hi => by omega⟩
    refine F18.k9.to ?_
    simp only [C.ite_true, C.ite_false, C.pick_true, C.pick_false, C.not_bool, C.field_ptr, C.nilCheck_ptr, C.add_mk, C.sub_mk, C.mul_mk, C.eql_mk, C.neq_mk, C.lss_mk, C.leq_mk, C.gtr_mk, C.geq_mk, C.conv_mk, C.len_mk, C.ext_0, C.ext_1, C.ext3_0, C.ext3_1, C.ext3_2, C.guarded_yes, C.guarded_tf, C.guarded_ft, C.guarded_undef, Bool.not_true, Bool.not_false, Nat.zero_add, eq_self, decide_true, decide_false]
    refine M3.img (values_c (hlb.keep M3.fr) hsb.one.2 hsb.one.1 hr hS (hrb.keep M3.fr) hrr hfr hrl fun rw4 w4 hf4 hn4 ho4 => ?_)
    obtain ⟨A, c, erw⟩ := ho4.len
    subst erw
    have hn5 := New.mk' w4 (.cells #[.slice A (valC (roots.map (val m))).length c] 57)
    refine C.run_of (bsRows A _ c) (C.run_of (bView _ _ _) (C.new_of fun b9 w6 hn6 => C.store_all (x := .agg #[.slice (some ⟨w4.heap.size, 0, none⟩) 1 1, .slice none 0 0]) hn6.at_ rfl (by simp [Value.cells, Value.oneCell']) rfl fun w7 hu7 => ?_))
    have i6 := hn6.is
    have z5 := hn5.sz
    have z6 := hn6.sz
    have f47 : Fr [] w4 w7 := (hn5.fr.trans hn6.fr).then hu7.fr fun z hz => .inr (by simp only [List.mem_singleton] at hz; omega)
    have M7 := (M3.keep hf4).keep f47
    -- the rows
    have rows7 : OwnRows w3.heap.size w7 (.slice (some ⟨w4.heap.size, 0, none⟩) 1 1) [roots.map (val m)] [.slice A (valC (roots.map (val m))).length c] := by
      have hat : w7.heap[w4.heap.size]? = some (.cells #[.slice A (valC (roots.map (val m))).length c] 57 (0, 0)) := hu7.fr.at_ (hn6.fr.at_ hn5.at_ (by simp)) (by simp; omega)
      refine ⟨OwnS.of_block hat rfl (by simp) (by simp) rfl (by simp [slC, Value.oneCell']) (by simp [slC]), fun g hg => ?_, rfl, fun i a b => ?_⟩
      · have := mem_blkS.1 hg
        simp only [Value.ownBlock, Option.some.injEq] at this
        have := hf4.size
        omega
      · have : i = 0 := by simp at a; omega
        subst this
        exact ⟨ho4.keep f47 (by simp), fun g hg => hn4 g (mem_blkS.1 hg)⟩
    try simp only [C.ite_true, C.ite_false, C.pick_true, C.pick_false, C.not_bool, C.field_ptr, C.nilCheck_ptr, C.add_mk, C.sub_mk, C.mul_mk, C.eql_mk, C.neq_mk, C.lss_mk, C.leq_mk, C.gtr_mk, C.geq_mk, C.conv_mk, C.len_mk, C.ext_0, C.ext_1, C.ext3_0, C.ext3_1, C.ext3_2, C.guarded_yes, C.guarded_tf, C.guarded_ft, C.guarded_undef, Bool.not_true, Bool.not_false, Nat.zero_add, eq_self, decide_true, decide_false]
    refine C.load1_of (v := ov3) M7.blk rfl (SortI_c M7.own (by rw [ordL_len]; have := (ordO_pls m roots).len; omega) fun w8 hf8 ho8 => ?_)
    rw [ordL_srt hS] at ho8
    have hmb8 := hf8.at_ M7.blk (M7.own.nb M7.blk (by decide))
    have h98 : w8.heap[b9]? = some (.cells #[.slice (some ⟨w4.heap.size, 0, none⟩) 1 1, .slice none 0 0] 42 (0, 0)) := hf8.at_ hu7.at_ (M7.own.nb hu7.at_ (by decide))
    have rows8 := rows7.keep hf8 fun g hg => by
      obtain ⟨⟨_, hx⟩, _⟩ := M7.own
      rcases hx with ⟨e, _⟩ | ⟨k, cap, cur, e, _, hh, _⟩
      · rw [e] at hg; simp [blkS, Value.ownBlock] at hg
      · rw [e] at hg
        simp [blkS, Value.ownBlock] at hg
        subst hg
        exact .inr (.inr ⟨_, _, _, hh, by decide, by decide⟩)
    have fb8 : Fr [] Wb w8 := M7.fr.then hf8 fun z hz => .inr (M7.new z (mem_blkS.1 hz))
    have hb4 : b4 < Wb.heap.size := by have := hfb.size; omega
    try simp only [C.ite_true, C.ite_false, C.pick_true, C.pick_false, C.not_bool, C.field_ptr, C.nilCheck_ptr, C.add_mk, C.sub_mk, C.mul_mk, C.eql_mk, C.neq_mk, C.lss_mk, C.leq_mk, C.gtr_mk, C.geq_mk, C.conv_mk, C.len_mk, C.ext_0, C.ext_1, C.ext3_0, C.ext3_1, C.ext3_2, C.guarded_yes, C.guarded_tf, C.guarded_ft, C.guarded_undef, Bool.not_true, Bool.not_false, Nat.zero_add, eq_self, decide_true, decide_false]
    refine C.load1_of (v := ov3) hmb8 rfl (C.len_rd ho8.rd ?_)
    rw [intC_len, ordL_len]
    have hne9 : mb ≠ b9 := by
      have := lt_of_at (M3.keep hf4).blk
      omega
    have hl9 : l ≠ [] → b9 ∉ blkS lv := fun e hc9 => by
      have := hlb.lt (fun e2 => e (by cases l with | nil => rfl | cons x t => simp [intC] at e2)) b9 hc9
      have := (M3.keep hf4).fr.size
      omega
    refine EView_nodes (W1 := w8) (tb := tb) hO (hlb.keep fb8) hsb.one.2 hsb.one.1 hr (slO_pls m roots) hmb8 ho8 hne9 (lt_of_at h98) hl9 (ho8.nb h98 (by decide)) (fun nodes fs w9 hI => ?_) (slO m roots).length 0 w8 (.slice none 0 0) [] (by omega) ⟨Fr.refl _ _, h98, ⟨rfl, OwnS.nil _ _ _, fun g hg => by simp [blkS, Value.ownBlock] at hg, fun i a b => by simp at b⟩⟩
    refine F18.k17.to ?_
    simp only [C.ite_true, C.ite_false, C.pick_true, C.pick_false, C.not_bool, C.field_ptr, C.nilCheck_ptr, C.add_mk, C.sub_mk, C.mul_mk, C.eql_mk, C.neq_mk, C.lss_mk, C.leq_mk, C.gtr_mk, C.geq_mk, C.conv_mk, C.len_mk, C.ext_0, C.ext_1, C.ext3_0, C.ext3_1, C.ext3_2, C.guarded_yes, C.guarded_tf, C.guarded_ft, C.guarded_undef, Bool.not_true, Bool.not_false, Nat.zero_add, eq_self, decide_true, decide_false]
    have hsl := (slO_pls m roots).len
    refine C.load1_of (v := nodes) hI.h9 rfl (SortNodes_c hI.own (by simp; omega) fun P w10 hf10 hP hsP hoP => ?_)
    rw [nodes_srt hP hsP] at hoP
    have h910 := hf10.at_ hI.h9 (hI.own.sp.nb hI.h9 (by decide))
    have rows9 := rows8.keep hI.fr fun g hg => by
      simp only [List.mem_singleton] at hg
      subst hg
      exact .inr (.inr ⟨_, _, _, h98, by decide, by decide⟩)
    have rows10 := rows9.keep hf10 fun g hg => by
      have := hI.own.ge g hg
      obtain ⟨⟨_, hx⟩, _⟩ := hI.own.sp
      rcases hx with ⟨e, _⟩ | ⟨k, cap, cur, e, _, hh, _⟩
      · rw [e] at hg; simp [blkS, Value.ownBlock] at hg
      · rw [e] at hg
        simp [blkS, Value.ownBlock] at hg
        subst hg
        exact .inr (.inr ⟨_, _, _, hh, by decide, by decide⟩)
    have e3 := img_cells rows10.sp.one.2 hoP.sp.one.2
    have h410 : w10.heap[b4]? = some (.cells #[.slice none 0 0, .slice none 0 0] 42 (0, 0)) := by
      have a1 := hfb.at_ h40 (by simp)
      have a2 := fb8.at_ a1 (by simp)
      have hz := fb8.size
      have a3 := hI.fr.at_ a2 (by simp only [List.mem_singleton]; have := (M3.keep hf4).fr.size; omega)
      exact hf10.at_ a3 fun hg => by have := hI.own.ge _ hg; omega
    refine C.loadA_all h910 rfl (C.store_all (x := .agg #[_, nodes]) h410 (by rw [e3]; rfl) (img_ones rows10.sp.one.2 hoP.sp.one.2 rows10.sp.one.1 hoP.sp.one.1) rfl fun w11 hu11 => ?_)
    have h411 := hu11.at_
    rw [e3] at h411
    refine C.loadA_all h411 rfl (h0 m _ nodes w11 hcr ?_ ⟨(rows10.keep hu11.fr fun g hg => ?_).rd, (hoP.keep hu11.fr fun g hg => ?_).rd⟩)
    · have a1 : Fr [] w Wb := hn0.fr.trans hfb
      have a2 : Fr [] w w8 := a1.trans fb8
      have sw : w.heap.size ≤ b9 := by have := a1.size; have := (M3.keep hf4).fr.size; omega
      have a3 : Fr [] w w9 := a2.then hI.fr fun z hz => .inr (by simp only [List.mem_singleton] at hz; omega)
      have a4 : Fr [] w w10 := a3.then hf10 fun z hz => .inr (by have := hI.own.ge z hz; have := a2.size; omega)
      exact a4.then hu11.fr fun z hz => .inr (by simp only [List.mem_singleton] at hz; omega)
    · simp only [List.mem_singleton] at hg
      subst hg
      exact .inr (.inr ⟨_, _, _, h410, by decide, by decide⟩)
    · simp only [List.mem_singleton] at hg
      subst hg
      exact .inr (.inr ⟨_, _, _, h410, by decide, by decide⟩)
end
end Go.Proofs.YtfjilngljnlkjaaV
