/- What an image shows, by the program: View, the whole. -/
import Derived.Test.YtfjilngljnlkjaaEv12
namespace Go.Proofs.YtfjilngljnlkjaaV
open Go Go.Proofs Go.RowKit
set_option linter.unusedVariables false
set_option linter.unusedSimpArgs false
set_option maxRecDepth 10000
section
variable {K : VK} {w : World}
theorem bsNd (s : Int) (A : Option Addr) (n c : Nat) : (Instr.buildSlice 40 1 #[(0, .agg #[.int .i64 s, .slice A n c])]).run Try.prog w = .ok (.slice (some ⟨w.heap.size, 0, none⟩) 1 1) (w.alloc (.cells #[.int .i64 s, .slice A n c] 59)) := by kernel_rfl
theorem bNd (s : Int) (A : Option Addr) (n c : Nat) : (Instr.build 59 #[(0, .int .i64 s), (1, .slice A n c)]).run Try.prog w = .ok (.agg #[.int .i64 s, .slice A n c]) w := by kernel_rfl
theorem bsRows (A : Option Addr) (n c : Nat) : (Instr.buildSlice 39 1 #[(0, .slice A n c)]).run Try.prog w = .ok (.slice (some ⟨w.heap.size, 0, none⟩) 1 1) (w.alloc (.cells #[.slice A n c] 57)) := by kernel_rfl
theorem bView (A : Option Addr) (n c : Nat) : (Instr.build 42 #[(0, .slice A n c)]).run Try.prog w = .ok (.agg #[.slice A n c, .slice none 0 0]) w := by kernel_rfl
theorem bView0 : (Instr.build 42 #[]).run Try.prog w = .ok (.agg #[.slice none 0 0, .slice none 0 0]) w := by kernel_rfl
/-- What stands while nodes are laid. -/
structure NI (W1 w : World) (b9 : Nat) (rows nodes : Value) (N : List Nd) (fs : List Value) : Prop where
  fr : Fr [b9] W1 w
  h9 : w.heap[b9]? = some (.cells #[rows, nodes] 42 (0, 0))
  own : OwnNodes W1.heap.size w nodes N fs
theorem NI.keep {W1 w w' : World} {b9 : Nat} {rows nodes : Value} {N : List Nd} {fs : List Value} (h : NI W1 w b9 rows nodes N fs) (hf : Fr [] w w') : NI W1 w' b9 rows nodes N fs :=
  ⟨h.fr.trans hf.w, hf.at_ h.h9 (by simp), h.own.keep hf fun g hg => by simp at hg⟩
theorem NI.app {W1 : World} {b9 : Nat} {rows nodes : Value} {N : List Nd} {fs : List Value} {s : Int} {vs : List Va} {g : Nat} {v : Value} (h : NI W1 w b9 rows nodes N fs) (h9 : b9 < W1.heap.size) (hg : w.heap[g]? = some (.cells #[.int .i64 s, v] 59 (0, 0))) (hv : OwnS w v 75 2 (valC vs)) (hvl : ∀ g ∈ blkS v, W1.heap.size ≤ g) (hL : (N.length + 1) * 32 ≤ 140737488355328)
    {G F : World → Prop} (hG : ∀ w', Fr [b9] W1 w' → G w') (hk : ∀ w' nodes' fs', NI W1 w' b9 rows nodes' (N ++ [(s, vs)]) fs' → F w') :
    C.run Try.prog (Builtin.append_ #[40, 40] 40 #[nodes, .slice (some ⟨g, 0, none⟩) 1 1]) w fun y w1 => (G w1 ∧ C.store 1 (.pointer (some ⟨b9, 1, none⟩)) y w1 fun w2 => (G w2 ∧ F w2)) := by
  have hone := hv.one
  refine C.appN (W0 := bare w) (xs := ndC N fs) (ys := [[.int .i64 s, v]]) (e := 59) (sz := 2) (bytes := 32) (z := .agg #[.int .i64 0, .slice none 0 0]) Try.underlying40 (by kernel_rfl) rfl (by decide) (fr_bare w) (new_bare w _) h.own.sp (RdS.of_block hg rfl (by simp) (by simp) (by simp) (by simp))
    (by
      intro y hy u hu
      simp only [List.mem_singleton] at hy
      subst hy
      simp only [List.mem_cons, List.not_mem_nil, or_false] at hu
      rcases hu with rfl | rfl
      · rfl
      · exact hone.1)
    (by rw [ndC_len h.own.len]; simpa using hL) (by rw [ndC_len h.own.len]; simp; omega) fun x' w1 hf1 hn1 ho1 hb1 hg1 => ?_
  have n9 : b9 ∉ blkS nodes := h.own.sp.nb h.h9 (by decide)
  have fr1 : Fr [b9] W1 w1 := h.fr.then hb1 fun z hz => .inr (h.own.ge z hz)
  have h91 := hb1.at_ h.h9 n9
  refine ⟨hG w1 fr1, C.store1_of h91 ho1.one.2 ho1.one.1 (by simp) fun w2 hu2 => ?_⟩
  have fr2 := fr1.trans hu2.fr
  refine ⟨hG w2 fr2, hk w2 x' (fs ++ [v]) ⟨fr2, hu2.at_, ?_⟩⟩
  have own1 := h.own.snoc (nd := (s, vs)) h.fr.size hb1 hg1 ho1 hv hvl
  exact own1.keep hu2.fr fun z hz => .inl (by simp only [List.mem_singleton] at hz; omega)
theorem EView_nodes {W1 : World} {mb tb b9 b4 : Nat} {lv sv ov rows : Value} {l roots : List Int} {m : List Ob} {O : List Nat} {sz : Value} (hC : Opn l m roots) (hlv : RdS W1 lv 1 (intC l)) (hsv : sv.cells = #[sv]) (hsv' : sv.oneCell' = true) (hr : Rng l) (hO : Pls m O)
    (hmb : W1.heap[mb]? = some (.cells #[lv, sv, .map (some tb), ov, sz] 72 (0, 0))) (hov : OwnS W1 ov 3 1 (intC (ordL m O))) (hm9 : mb ≠ b9) (h9 : b9 < W1.heap.size) (hl9 : l ≠ [] → b9 ∉ blkS lv) (ho9 : b9 ∉ blkS ov)
    (h : ∀ nodes fs w', NI W1 w' b9 rows nodes (O.map (nodeA m)) fs → F18.k17 K (.pointer (some ⟨b4, 0, none⟩)) (.pointer (some ⟨b9, 0, none⟩)) w') :
    ∀ (d j : Nat) (w : World) (nodes : Value) (fs : List Value), O.length = j + d → NI W1 w b9 rows nodes ((O.take j).map (nodeA m)) fs →
      F18.l12 K lv (.pointer (some ⟨b4, 0, none⟩)) (.pointer (some ⟨mb, 0, none⟩)) (.pointer (some ⟨b9, 0, none⟩)) ov (.int .i64 (O.length : Int)) (.int .i64 (j : Int)) w := by
  have hS := hC.spl
  have hlen := hC.few
  have hml := hS.len
  have hol := hO.len
  intro d
  induction d with
  | zero =>
    intro j w nodes fs hj hI
    refine F18.l12.to ?_
    simp only [C.ite_true, C.ite_false, C.pick_true, C.pick_false, C.not_bool, C.field_ptr, C.nilCheck_ptr, C.add_mk, C.sub_mk, C.mul_mk, C.eql_mk, C.neq_mk, C.lss_mk, C.leq_mk, C.gtr_mk, C.geq_mk, C.conv_mk, C.len_mk, C.ext_0, C.ext_1, C.ext3_0, C.ext3_1, C.ext3_2, C.guarded_yes, C.guarded_tf, C.guarded_ft, C.guarded_undef, Bool.not_true, Bool.not_false, Nat.zero_add, eq_self, decide_true, decide_false, show ¬ ((j : Int) < (O.length : Int)) by omega]
    rw [List.take_of_length_le (by omega)] at hI
    exact h nodes fs w hI
  | succ d ih =>
    intro j w nodes fs hj hI
    have jl : j < O.length := by omega
    have jl' : j < (ordL m O).length := by rw [ordL_len]; exact jl
    have hp := hO.2 _ (List.getElem_mem jl)
    have hOb := (hS.get O[j] hp).1
    have hal : m[O[j]].at_ < l.length := by have := hOb.end_; omega
    have hhd : l[m[O[j]].at_] = m[O[j]].hd := by
      have := hOb.hd
      rw [Nat.sub_zero, List.getElem?_eq_getElem hal] at this
      exact Option.some.inj this
    obtain ⟨d1, d2⟩ := hd_div hOb.n
    have hhd' : m[O[j]].hd = m[O[j]].ser * 128 + (m[O[j]].fs.length : Int) := rfl
    have s0 := hOb.s0; have s1 := hOb.s1; have sn := hOb.n
    have ovw := hov.keep' hI.fr fun g hg c => by simp only [List.mem_singleton] at c; subst c; exact ho9 hg
    have lvw : ∀ w', Fr [b9] W1 w' → RdS w' lv 1 (intC l) := fun w' hw => hlv.keepS hw fun hx g hg c => by simp only [List.mem_singleton] at hg; subst hg; exact hl9 (intC_ne hx) c
    have mbw : ∀ w', Fr [b9] W1 w' → w'.heap[mb]? = some (.cells #[lv, sv, .map (some tb), ov, sz] 72 (0, 0)) := fun w' hw => hw.at_ hmb (by simp; exact hm9)
    refine F18.l12.to ?_
    simp only [C.ite_true, C.ite_false, C.pick_true, C.pick_false, C.not_bool, C.field_ptr, C.nilCheck_ptr, C.add_mk, C.sub_mk, C.mul_mk, C.eql_mk, C.neq_mk, C.lss_mk, C.leq_mk, C.gtr_mk, C.geq_mk, C.conv_mk, C.len_mk, C.ext_0, C.ext_1, C.ext3_0, C.ext3_1, C.ext3_2, C.guarded_yes, C.guarded_tf, C.guarded_ft, C.guarded_undef, Bool.not_true, Bool.not_false, Nat.zero_add, eq_self, decide_true, decide_false, show ((j : Int) < (O.length : Int)) by omega]
    refine F18.k13.to (C.idx_int ovw.rd jl' fun g oo cs e fz hg hcv => C.load1_of hg hcv ?_)
    rw [ordL_get jl jl', atA_get hp]
    refine C.idx_int (lvw w hI.fr) hal fun g oo cs e fz hg hcv => C.load1_of hg hcv ?_
    rw [hhd]
    refine Split_c (by omega) (fun _ _ => ?_) (fun c => absurd ⟨by omega, by omega⟩ c)
    rw [d1, d2]
    simp only [C.ite_true, C.ite_false, C.pick_true, C.pick_false, C.not_bool, C.field_ptr, C.nilCheck_ptr, C.add_mk, C.sub_mk, C.mul_mk, C.eql_mk, C.neq_mk, C.lss_mk, C.leq_mk, C.gtr_mk, C.geq_mk, C.conv_mk, C.len_mk, C.ext_0, C.ext_1, C.ext3_0, C.ext3_1, C.ext3_2, C.guarded_yes, C.guarded_tf, C.guarded_ft, C.guarded_undef, Bool.not_true, Bool.not_false, Nat.zero_add, eq_self, decide_true, decide_false]
    refine C.draw_of (fun w' => w'.heap[mb]? = some (.cells #[lv, sv, .map (some tb), ov, sz] 72 (0, 0))) fun w1 hf1 he1 => ⟨mbw w1 (hI.fr.trans hf1.w), ?_⟩
    have I1 := hI.keep hf1
    simp only [C.ite_true, C.ite_false, C.pick_true, C.pick_false, C.not_bool, C.field_ptr, C.nilCheck_ptr, C.add_mk, C.sub_mk, C.mul_mk, C.eql_mk, C.neq_mk, C.lss_mk, C.leq_mk, C.gtr_mk, C.geq_mk, C.conv_mk, C.len_mk, C.ext_0, C.ext_1, C.ext3_0, C.ext3_1, C.ext3_2, C.guarded_yes, C.guarded_tf, C.guarded_ft, C.guarded_undef, Bool.not_true, Bool.not_false, Nat.zero_add, eq_self, decide_true, decide_false, and_true]
    refine C.loadAS_of (vs := [lv, sv]) (fun w' hw => ⟨_, _, _, hw, by simp, by simp⟩) (C.loadAS_of (vs := [lv, sv]) (fun w' hw => ⟨_, _, _, hw, by simp, by simp⟩) ?_)
    have SS : ∀ w', Fr [] w1 w' → w'.heap[mb]? = some (.cells #[lv, sv, .map (some tb), ov, sz] 72 (0, 0)) := fun w' hw => mbw w' (I1.fr.trans hw.w)
    have ld : ∀ w' (F : VK), Fr [] w1 w' → F nodes w' → C.load1 (.pointer (some ⟨b9, 1, none⟩)) w' F := fun w' F hw hF => C.load1_of (v := nodes) (I1.keep hw).h9 rfl hF
    have nx : ∀ w' nodes' fs', NI W1 w' b9 rows nodes' ((O.take j).map (nodeA m) ++ [(m[O[j]].ser, m[O[j]].fs.map (val m))]) fs' → F18.k16 K lv (.pointer (some ⟨b4, 0, none⟩)) (.pointer (some ⟨mb, 0, none⟩)) (.pointer (some ⟨b9, 0, none⟩)) ov (.int .i64 (O.length : Int)) (.int .i64 (j : Int)) w' := fun w' nodes' fs' hI' => by
      refine F18.k16.to ?_
      simp only [C.ite_true, C.ite_false, C.pick_true, C.pick_false, C.not_bool, C.field_ptr, C.nilCheck_ptr, C.add_mk, C.sub_mk, C.mul_mk, C.eql_mk, C.neq_mk, C.lss_mk, C.leq_mk, C.gtr_mk, C.geq_mk, C.conv_mk, C.len_mk, C.ext_0, C.ext_1, C.ext3_0, C.ext3_1, C.ext3_2, C.guarded_yes, C.guarded_tf, C.guarded_ft, C.guarded_undef, Bool.not_true, Bool.not_false, Nat.zero_add, eq_self, decide_true, decide_false]
      rw [wrap64_id (n := (j : Int) + 1) (by omega), show (j : Int) + 1 = ((j + 1 : Nat) : Int) by omega]
      refine ih (j + 1) w' nodes' fs' (by omega) ?_
      have et : O.take (j + 1) = O.take j ++ [O[j]] := by rw [List.take_add_one, List.getElem?_eq_getElem jl]; rfl
      have en : nodeA m O[j] = (m[O[j]].ser, m[O[j]].fs.map (val m)) := by unfold nodeA; rw [serA_get hp, fsA_get hp]
      rw [et, List.map_append, List.map_singleton, en]
      exact hI'
    have app : ∀ (A : Option Addr) (n c : Nat) (w7 : World), Fr [] w1 w7 → OwnS w7 (.slice A n c) 75 2 (valC (m[O[j]].fs.map (val m))) → (∀ g ∈ blkS (.slice A n c), W1.heap.size ≤ g) →
        C.run Try.prog (Builtin.append_ #[40, 40] 40 #[nodes, .slice (some ⟨w7.heap.size, 0, none⟩) 1 1]) (w7.alloc (.cells #[.int .i64 m[O[j]].ser, .slice A n c] 59)) fun y w8 => (w8.heap[mb]? = some (.cells #[lv, sv, .map (some tb), ov, sz] 72 (0, 0)) ∧ C.store 1 (.pointer (some ⟨b9, 1, none⟩)) y w8 fun w9 => (w9.heap[mb]? = some (.cells #[lv, sv, .map (some tb), ov, sz] 72 (0, 0)) ∧ F18.k16 K lv (.pointer (some ⟨b4, 0, none⟩)) (.pointer (some ⟨mb, 0, none⟩)) (.pointer (some ⟨b9, 0, none⟩)) ov (.int .i64 (O.length : Int)) (.int .i64 (j : Int)) w9)) := by
      intro A n c w7 hf7 ho7 hn7
      have hn := New.mk' w7 (.cells #[.int .i64 m[O[j]].ser, .slice A n c] 59)
      exact ((I1.keep hf7).keep hn.fr).app h9 hn.at_ (ho7.keep hn.fr (by simp)) hn7 (by simp; omega) mbw nx
    have al : ∀ (A : Option Addr) (n c : Nat) (w7 : World), Fr [] w1 w7 → Fr [] w1 (w7.alloc (.cells #[.int .i64 m[O[j]].ser, .slice A n c] 59)) := fun A n c w7 hf7 => hf7.trans (New.mk' w7 _).fr
    have fl : ∀ (w7 : World) (F : VK), Fr [] w1 w7 → (∀ fv w8, Fr [] w7 w8 → RdS w8 fv 1 (intC m[O[j]].fs) → F fv w8) → C.call Try.prog 35 #[.agg #[lv, sv], .int .i64 (m[O[j]].at_ : Int)] w7 F := fun w7 F hf7 hF => fields_c (lvw w7 (I1.fr.trans hf7.w)) hsv hr hOb fun fv w8 a b _ => hF fv w8 a b
    have vl : ∀ (fv : Value) (w7 : World) (F : VK), Fr [] w1 w7 → RdS w7 fv 1 (intC m[O[j]].fs) → (∀ A n c w8, Fr [] w7 w8 → OwnS w8 (.slice A n c) 75 2 (valC (m[O[j]].fs.map (val m))) → (∀ g ∈ blkS (.slice A n c), W1.heap.size ≤ g) → F (.slice A n c) w8) → C.call Try.prog 38 #[.agg #[lv, sv], fv] w7 F := fun fv w7 F hf7 hfv hF =>
      values_c (lvw w7 (I1.fr.trans hf7.w)) hsv hsv' hr hS hfv (hr.fs hS hp) (hC.fine _ (List.getElem_mem hp)) (by omega) fun nv w8 hf8 hn8 ho8 => by
        obtain ⟨A, c, e⟩ := ho8.len
        subst e
        exact hF _ _ _ w8 hf8 ho8 fun g hg => by have := hn8 g (mem_blkS.1 hg); have := (I1.fr.trans hf7.w).size; omega
    have R0 := Fr.refl [] w1
    refine ⟨ld w1 _ R0 ⟨SS _ R0, fl w1 _ R0 fun fv w2 hf2 hfv => ⟨SS _ hf2, vl fv w2 _ hf2 hfv fun A n c w3 hf3 ho3 hn3 => ⟨SS _ (hf2.trans hf3), _, fun w' _ => bNd _ A n c, C.run_of (bsNd _ A n c) ⟨SS _ (al A n c w3 (hf2.trans hf3)), app A n c w3 (hf2.trans hf3) ho3 hn3⟩⟩⟩⟩, ?_⟩
    refine fl w1 _ R0 fun fv w2 hf2 hfv => ⟨SS _ hf2, ld w2 _ hf2 ⟨SS _ hf2, vl fv w2 _ hf2 hfv fun A n c w3 hf3 ho3 hn3 => ⟨SS _ (hf2.trans hf3), _, fun w' _ => bNd _ A n c, C.run_of (bsNd _ A n c) ⟨SS _ (al A n c w3 (hf2.trans hf3)), app A n c w3 (hf2.trans hf3) ho3 hn3⟩⟩⟩, ?_⟩
    refine vl fv w2 _ hf2 hfv fun A n c w3 hf3 ho3 hn3 => ⟨SS _ (hf2.trans hf3), _, fun w' _ => bNd _ A n c, ?_⟩
    have f3 := hf2.trans hf3
    exact ⟨ld w3 _ f3 ⟨SS _ f3, C.run_of (bsNd _ A n c) ⟨SS _ (al A n c w3 f3), app A n c w3 f3 ho3 hn3⟩⟩, C.run_of (bsNd _ A n c) ⟨SS _ (al A n c w3 f3), ld _ _ (al A n c w3 f3) ⟨SS _ (al A n c w3 f3), app A n c w3 f3 ho3 hn3⟩⟩⟩
end
end Go.Proofs.YtfjilngljnlkjaaV
