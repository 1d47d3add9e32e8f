/- How far each node is; which nodes can be reached: what the calls come to. -/
import Derived.Test.YtfhgjncbhjjbfaaGr3
namespace Go.Proofs.YtfhgjncbhjjbfaaV
open Go Go.Proofs Go.RowKit
set_option linter.unusedVariables false
set_option linter.unusedSimpArgs false
set_option maxRecDepth 10000
section
variable {K : VK} {w : World}
theorem d35_roots {W1 : World} {G : Gr} {bg bo bq : Nat} {nv rv ov : Value} (hG : IsG W1 nv rv G) (hb : GBlk W1 bg 46 nv rv)
    (h : ∀ w out q, BS W1 w bo bq ov out q → BI G 0 (fun j b => b = 0 ∧ (j : Int) ∈ G.roots ∧ j < G.n) out q →
      F35.k9 K (.pointer (some ⟨bg, 0, none⟩)) (.pointer (some ⟨bo, 0, none⟩)) (.pointer (some ⟨bq, 0, none⟩)) (.func (.func 69) #[] #[.pointer (some ⟨bg, 0, none⟩), .pointer (some ⟨bo, 0, none⟩), .pointer (some ⟨bq, 0, none⟩)]) w) :
    ∀ (d k : Nat) (out : List Int) (q : List Nat) (w : World), G.roots.length = k + d → BS W1 w bo bq ov out q → BI G 0 (fun j b => b = 0 ∧ (j : Int) ∈ G.roots.take k ∧ j < G.n) out q →
      F35.l5 K (.pointer (some ⟨bg, 0, none⟩)) (.pointer (some ⟨bo, 0, none⟩)) (.pointer (some ⟨bq, 0, none⟩)) (.func (.func 69) #[] #[.pointer (some ⟨bg, 0, none⟩), .pointer (some ⟨bo, 0, none⟩), .pointer (some ⟨bq, 0, none⟩)]) rv (.int .i64 (G.roots.length : Int)) (.int .i64 (k : Int)) w := by
  intro d
  induction d with
  | zero =>
    intro k out q w hk hB hI
    refine F35.l5.to ?_
    simp only [C.ite_true, C.ite_false, C.pick_true, C.pick_false, C.not_bool, C.field_ptr, C.nilCheck_ptr, C.add_mk, C.sub_mk, C.mul_mk, C.eql_mk, C.neq_mk, C.lss_mk, C.leq_mk, C.gtr_mk, C.geq_mk, C.conv_mk, C.len_mk, C.ext_0, C.ext_1, C.ext3_0, C.ext3_1, C.ext3_2, C.guarded_yes, C.guarded_tf, C.guarded_ft, C.guarded_undef, Bool.not_true, Bool.not_false, Nat.zero_add, eq_self, decide_true, decide_false, show ¬ ((k : Int) < (G.roots.length : Int)) by omega]
    refine h w out q hB (hI.weak fun j b e => ?_)
    rw [List.take_of_length_le (by omega)]
    exact e
  | succ d ih =>
    intro k out q w hk hB hI
    have hkl : k < G.roots.length := by omega
    have hrl := hG.rlen
    have hfew := hG.few
    have hql := hI.qlen
    refine F35.l5.to ?_
    simp only [C.ite_true, C.ite_false, C.pick_true, C.pick_false, C.not_bool, C.field_ptr, C.nilCheck_ptr, C.add_mk, C.sub_mk, C.mul_mk, C.eql_mk, C.neq_mk, C.lss_mk, C.leq_mk, C.gtr_mk, C.geq_mk, C.conv_mk, C.len_mk, C.ext_0, C.ext_1, C.ext3_0, C.ext3_1, C.ext3_2, C.guarded_yes, C.guarded_tf, C.guarded_ft, C.guarded_undef, Bool.not_true, Bool.not_false, Nat.zero_add, eq_self, decide_true, decide_false, show ((k : Int) < (G.roots.length : Int)) by omega]
    have nx : ∀ (out' : List Int) (q' : List Nat) (w' : World), BS W1 w' bo bq ov out' q' → BI G 0 (fun j b => b = 0 ∧ (j : Int) ∈ G.roots.take (k + 1) ∧ j < G.n) out' q' →
        F35.k8 K (.pointer (some ⟨bg, 0, none⟩)) (.pointer (some ⟨bo, 0, none⟩)) (.pointer (some ⟨bq, 0, none⟩)) (.func (.func 69) #[] #[.pointer (some ⟨bg, 0, none⟩), .pointer (some ⟨bo, 0, none⟩), .pointer (some ⟨bq, 0, none⟩)]) rv (.int .i64 (G.roots.length : Int)) (.int .i64 (k : Int)) w' := by
      intro out' q' w' a1 a2
      refine F35.k8.to ?_
      simp only [C.ite_true, C.ite_false, C.pick_true, C.pick_false, C.not_bool, C.field_ptr, C.nilCheck_ptr, C.add_mk, C.sub_mk, C.mul_mk, C.eql_mk, C.neq_mk, C.lss_mk, C.leq_mk, C.gtr_mk, C.geq_mk, C.conv_mk, C.len_mk, C.ext_0, C.ext_1, C.ext3_0, C.ext3_1, C.ext3_2, C.guarded_yes, C.guarded_tf, C.guarded_ft, C.guarded_undef, Bool.not_true, Bool.not_false, Nat.zero_add, eq_self, decide_true, decide_false]
      rw [wrap64_id (n := (k : Int) + 1) (by omega), show (k : Int) + 1 = ((k + 1 : Nat) : Int) by omega]
      exact ih (k + 1) out' q' w' (by omega) a1 a2
    refine F35.k6.to (C.idx_int (hG.keep hB.fr).roots hkl fun g o cs e fz hg hc => C.load1_of hg hc ?_)
    refine meet_c hG hb hB hI.len (by omega) (fun r hr e hm w' hB' => ?_) (fun hno w' hB' => ?_)
    · have hrn : r < G.n := by rw [← hI.len]; exact hr
      refine nx _ _ w' hB' ((hI.push hr hm (by omega) (by omega) ?_).weak fun j b hj => ?_)
      · exact wk_zero.2 ⟨hrn, by rw [← e]; exact List.getElem_mem _⟩
      · obtain ⟨h1, h2, h3⟩ := hj
        rw [List.take_succ_eq_append_getElem hkl, List.mem_append, List.mem_singleton, e] at h2
        rcases h2 with h2 | h2
        · exact .inl ⟨h1, h2, h3⟩
        · exact .inr ⟨by omega, h1⟩
    · refine nx out q w' hB' ?_
      by_cases hx : ∃ r : Nat, G.roots[k] = (r : Int)
      · obtain ⟨r, hr⟩ := hx
        refine (hI.skip (j := r) fun hj => hno r hj hr).weak fun j b hj => ?_
        obtain ⟨h1, h2, h3⟩ := hj
        rw [List.take_succ_eq_append_getElem hkl, List.mem_append, List.mem_singleton, hr] at h2
        rcases h2 with h2 | h2
        · exact .inl ⟨h1, h2, h3⟩
        · exact .inr ⟨by omega, h1, by rw [hI.len]; omega⟩
      · refine hI.weak fun j b hj => ?_
        obtain ⟨h1, h2, h3⟩ := hj
        rw [List.take_succ_eq_append_getElem hkl, List.mem_append, List.mem_singleton] at h2
        rcases h2 with h2 | h2
        · exact ⟨h1, h2, h3⟩
        · exact absurd ⟨j, h2.symm⟩ hx
theorem Dist_c {nv rv : Value} {G : Gr} (hG : IsG w nv rv G) (h : ∀ v w', Fr [] w w' → NewS w v → OwnS w' v 3 1 (intC G.distL) → K v w') : C.call Try.prog 35 #[.agg #[nv, rv]] w K := by
  have hfew := hG.few
  refine F35.sh (GBlk.new hG fun b w1 hf1 hb1 hb hG1 => C.run_of (bsI (-1)) ?_)
  have hw2 := New.mk' w1 (.cells #[.int .i64 (-1)] 3)
  have hb2 := hb.keep hw2.fr (by simp)
  refine hb2.next ((hG1.keep hw2.fr).len_next (RepInt_c (n := G.n) (x := .int .i64 (-1)) (RdS.of_block hw2.at_ rfl (by simp) (by simp) (by simp) (by simp)) rfl (by omega) fun ov w3 hf3 ho3 hn3 => ?_))
  refine C.new_of fun bo w4 hw4 => C.store1_of hw4.at_ ho3.one.2 ho3.one.1 (by simp) fun w5 hu5 => C.new_of fun bq w6 hw6 => ?_
  have hs2 := hw2.fr.size
  have hs3 := hf3.size
  have e4 := hw4.is
  have e4' := hw4.sz
  have e5 := hu5.sz
  have e6 := hw6.is
  have f13 := hw2.fr.trans hf3
  have f15 : Fr [] w1 w5 := (f13.trans hw4.fr).then hu5.fr fun x hx => .inr (by simp only [List.mem_singleton] at hx; omega)
  have f16 := f15.trans hw6.fr
  have lo := ho3.mem_lt
  refine GBlk.roots (hb.keep f16 (by simp)) (C.len_rd (hG1.keep f16).roots ?_)
  rw [intC_len]
  have hB : BS w1 w6 bo bq ov (List.replicate G.n (-1)) [] := by
    refine ⟨f16, hw6.fr.at_ hu5.at_ (by simp), ?_, hn3.mono hw2.fr.size, by omega, by omega, by omega, fun g hg => ?_, .slice none 0 0, hw6.at_, OwnS.nil _ _ _, NewS.nil _, fun g hg => ?_⟩
    · rw [← intC_rep]
      exact ((ho3.keep hw4.fr (by simp)).keep' hu5.fr fun g hg c => by
        simp only [List.mem_singleton] at c
        have := lo g hg
        omega).keep hw6.fr (by simp)
    · have := lo g hg
      exact ⟨by omega, by omega⟩
    · simp [blkS, Value.ownBlock] at hg
  refine d35_roots hG1 hb (fun w7 out q hB7 hI7 => F35.k9.to ?_) G.roots.length 0 _ _ w6 (by omega) hB ?_
  · refine d35_at hG1 hb (fun w8 hf8 ho8 => h ov w8 (hf1.trans hf8) (hn3.mono (Nat.le_trans hf1.size hw2.fr.size)) ho8) G.n 0 0 out q w7 (by omega) hB7 hI7 (fun p hp hp0 => by omega) (by omega) (fun p hp _ x hx h1 h2 => ?_)
    rcases hI7.iff x h1 with c | c
    · exact absurd hx c.2
    · rcases hI7.iff _ h2 with c' | c'
      · exact absurd (List.getElem_mem _) c'.2
      · omega
  · refine ⟨by simp, by simp, by simp, fun j hj => .inl ⟨by simp, by simp⟩, fun a b ha => by simp at ha, fun j b e => by simp at e, fun p hp => by simp at hp⟩
def Gr.where_ (G : Gr) (p : Int → Bool) : List Nat := (List.range G.n).filter fun i => p (G.dst i)
def Gr.nodes (G : Gr) : List Nat := (List.range G.n).filter fun i => G.rch i
def Gr.dead (G : Gr) : List Nat := (List.range G.n).filter fun i => !G.rch i
theorem range_take {n i : Nat} (h : i ≤ n) : (List.range n).take i = List.range i := by
  apply List.ext_getElem
  · simp; omega
  · intro j h1 h2
    simp
theorem filter_range_succ (p : Nat → Bool) (i : Nat) : (List.range (i + 1)).filter p = (List.range i).filter p ++ if p i = true then [i] else [] := by
  rw [List.range_succ, List.filter_append]
  congr 1
  cases hp : p i <;> simp [hp]
theorem where_loop {W1 : World} {f dv : Value} {L : List Int} {p : Int → Bool} (hp : ∀ (n : Int) (w' : World) (K' : VK), K' (.bool (p n)) w' → vcCall Try.prog f [.int .i64 n] w' K') (hd : RdS W1 dv 1 (intC L)) (hL : L.length ≤ 1000)
    (h : ∀ v w', Fr [] W1 w' → NewS W1 v → OwnS w' v 3 1 (intC (natC ((List.range L.length).filter fun i => p (L[i]?.getD 0)))) → K v w') :
    ∀ (d i : Nat) (v : Value) (w : World), L.length = i + d → Fr [] W1 w → NewS W1 v → OwnS w v 3 1 (intC (natC ((List.range i).filter fun i => p (L[i]?.getD 0)))) → F71.l3 K f v dv (.int .i64 (L.length : Int)) (.int .i64 (i : Int)) w := by
  intro d
  induction d with
  | zero =>
    intro i v w hi hf hn ho
    refine F71.l3.to ?_
    simp only [C.ite_true, C.ite_false, C.pick_true, C.pick_false, C.not_bool, C.field_ptr, C.nilCheck_ptr, C.add_mk, C.sub_mk, C.mul_mk, C.eql_mk, C.neq_mk, C.lss_mk, C.leq_mk, C.gtr_mk, C.geq_mk, C.conv_mk, C.len_mk, C.ext_0, C.ext_1, C.ext3_0, C.ext3_1, C.ext3_2, C.guarded_yes, C.guarded_tf, C.guarded_ft, C.guarded_undef, Bool.not_true, Bool.not_false, Nat.zero_add, eq_self, decide_true, decide_false, show ¬ ((i : Int) < (L.length : Int)) by omega]
    refine F71.k8.to (h v w hf hn ?_)
    rw [hi]; exact ho
  | succ d ih =>
    intro i v w hi hf hn ho
    have il : i < L.length := by omega
    refine F71.l3.to ?_
    simp only [C.ite_true, C.ite_false, C.pick_true, C.pick_false, C.not_bool, C.field_ptr, C.nilCheck_ptr, C.add_mk, C.sub_mk, C.mul_mk, C.eql_mk, C.neq_mk, C.lss_mk, C.leq_mk, C.gtr_mk, C.geq_mk, C.conv_mk, C.len_mk, C.ext_0, C.ext_1, C.ext3_0, C.ext3_1, C.ext3_2, C.guarded_yes, C.guarded_tf, C.guarded_ft, C.guarded_undef, Bool.not_true, Bool.not_false, Nat.zero_add, eq_self, decide_true, decide_false, show ((i : Int) < (L.length : Int)) by omega]
    have nx : ∀ (v' : Value) (w' : World), Fr [] W1 w' → NewS W1 v' → OwnS w' v' 3 1 (intC (natC ((List.range (i + 1)).filter fun i => p (L[i]?.getD 0)))) → F71.k7 K f v' dv (.int .i64 (L.length : Int)) (.int .i64 (i : Int)) w' := by
      intro v' w' a b c
      refine F71.k7.to ?_
      simp only [C.ite_true, C.ite_false, C.pick_true, C.pick_false, C.not_bool, C.field_ptr, C.nilCheck_ptr, C.add_mk, C.sub_mk, C.mul_mk, C.eql_mk, C.neq_mk, C.lss_mk, C.leq_mk, C.gtr_mk, C.geq_mk, C.conv_mk, C.len_mk, C.ext_0, C.ext_1, C.ext3_0, C.ext3_1, C.ext3_2, C.guarded_yes, C.guarded_tf, C.guarded_ft, C.guarded_undef, Bool.not_true, Bool.not_false, Nat.zero_add, eq_self, decide_true, decide_false]
      rw [wrap64_id (n := (i : Int) + 1) (by omega), show (i : Int) + 1 = ((i + 1 : Nat) : Int) by omega]
      exact ih (i + 1) v' w' (by omega) a b c
    refine F71.k4.to (C.idx_int (hd.keep hf) il fun g o cs e fz hg hc => C.load1_of hg hc (hp _ _ _ ?_))
    have e : L[i]?.getD 0 = L[i] := by rw [List.getElem?_eq_getElem il]; rfl
    have hs := filter_range_succ (fun i => p (L[i]?.getD 0)) i
    simp only [e] at hs
    have hlen : (natC ((List.range i).filter fun i => p (L[i]?.getD 0))).length ≤ i := by rw [natC_len]; exact Nat.le_trans (List.length_filter_le _ _) (by simp)
    cases hpi : p L[i] with
    | true =>
      simp only [C.ite_true, C.ite_false, C.pick_true, C.pick_false, C.not_bool, C.field_ptr, C.nilCheck_ptr, C.add_mk, C.sub_mk, C.mul_mk, C.eql_mk, C.neq_mk, C.lss_mk, C.leq_mk, C.gtr_mk, C.geq_mk, C.conv_mk, C.len_mk, C.ext_0, C.ext_1, C.ext3_0, C.ext3_1, C.ext3_2, C.guarded_yes, C.guarded_tf, C.guarded_ft, C.guarded_undef, Bool.not_true, Bool.not_false, Nat.zero_add, eq_self, decide_true, decide_false]
      refine C.appInt hf hn ho (by omega) fun v' w' hf' hn' ho' _ => nx v' w' hf' hn' ?_
      rw [hs, if_pos hpi, natC_app]
      exact ho'
    | false =>
      simp only [C.ite_true, C.ite_false, C.pick_true, C.pick_false, C.not_bool, C.field_ptr, C.nilCheck_ptr, C.add_mk, C.sub_mk, C.mul_mk, C.eql_mk, C.neq_mk, C.lss_mk, C.leq_mk, C.gtr_mk, C.geq_mk, C.conv_mk, C.len_mk, C.ext_0, C.ext_1, C.ext3_0, C.ext3_1, C.ext3_2, C.guarded_yes, C.guarded_tf, C.guarded_ft, C.guarded_undef, Bool.not_true, Bool.not_false, Nat.zero_add, eq_self, decide_true, decide_false]
      refine nx v w hf hn ?_
      rw [hs, if_neg (by simp [hpi]), List.append_nil]
      exact ho
theorem distL_len (G : Gr) : G.distL.length = G.n := by simp [Gr.distL]
theorem distL_get {G : Gr} {i : Nat} (h : i < G.distL.length) : G.distL[i] = G.dst i := by simp [Gr.distL]
theorem where_c {nv rv f : Value} {G : Gr} {p : Int → Bool} (hG : IsG w nv rv G) (hp : ∀ (n : Int) (w' : World) (K' : VK), K' (.bool (p n)) w' → vcCall Try.prog f [.int .i64 n] w' K')
    (h : ∀ v w', Fr [] w w' → NewS w v → OwnS w' v 3 1 (intC (natC (G.where_ p))) → K v w') : C.call Try.prog 71 #[.agg #[nv, rv], f] w K := by
  have hfew := hG.few
  refine F71.sh (GBlk.new hG fun b w1 hf1 hb1 hb hG1 => hb.all (Dist_c hG1 fun dv w2 hf2 hn2 ho2 => C.len_rd ho2.rd ?_))
  rw [intC_len]
  have e : (List.range G.distL.length).filter (fun i => p (G.distL[i]?.getD 0)) = G.where_ p := by
    unfold Gr.where_
    rw [distL_len]
    refine List.filter_congr fun i hi => ?_
    have hi' := List.mem_range.1 hi
    rw [List.getElem?_eq_getElem (by rw [distL_len]; exact hi'), Option.getD_some, distL_get]
  refine where_loop hp ho2.rd (by rw [distL_len]; exact hfew) (fun v w' hf hn ho => h v w' ((hf1.trans hf2).trans hf) (hn.mono (hf1.trans hf2).size) ?_) G.distL.length 0 _ w2 (by omega) (Fr.refl _ _) (NewS.nil _) (OwnS.nil _ _ _)
  rw [← e]
  exact ho
theorem bodied72 : bodied Try.prog 72 = true := by kernel_rfl
theorem bodied73 : bodied Try.prog 73 = true := by kernel_rfl
theorem Nodes_c {nv rv : Value} {G : Gr} (hG : IsG w nv rv G) (h : ∀ v w', Fr [] w w' → NewS w v → OwnS w' v 3 1 (intC (natC G.nodes)) → K v w') : C.call Try.prog 36 #[.agg #[nv, rv]] w K := by
  refine F36.sh (GBlk.new hG fun b w1 hf1 hb1 hb hG1 => hb.all (where_c (p := fun n => decide (n ≠ -1)) hG1 (fun n w' K' hk => vcCall_of bodied72 (F72.sh ?_)) fun v w' hf hn ho => h v w' (hf1.trans hf) (hn.mono hf1.size) ?_))
  · simp only [C.ite_true, C.ite_false, C.pick_true, C.pick_false, C.not_bool, C.field_ptr, C.nilCheck_ptr, C.add_mk, C.sub_mk, C.mul_mk, C.eql_mk, C.neq_mk, C.lss_mk, C.leq_mk, C.gtr_mk, C.geq_mk, C.conv_mk, C.len_mk, C.ext_0, C.ext_1, C.ext3_0, C.ext3_1, C.ext3_2, C.guarded_yes, C.guarded_tf, C.guarded_ft, C.guarded_undef, Bool.not_true, Bool.not_false, Nat.zero_add, eq_self, decide_true, decide_false]
    exact hk
  · have : G.where_ (fun n => decide (n ≠ -1)) = G.nodes := by
      refine List.filter_congr fun i _ => ?_
      have := dst_ge (G := G) i
      exact decide_eq_decide.2 (by omega)
    rw [← this]
    exact ho
theorem Dead_c {nv rv : Value} {G : Gr} (hG : IsG w nv rv G) (h : ∀ v w', Fr [] w w' → NewS w v → OwnS w' v 3 1 (intC (natC G.dead)) → K v w') : C.call Try.prog 37 #[.agg #[nv, rv]] w K := by
  refine F37.sh (GBlk.new hG fun b w1 hf1 hb1 hb hG1 => hb.all (where_c (p := fun n => decide (n = -1)) hG1 (fun n w' K' hk => vcCall_of bodied73 (F73.sh ?_)) fun v w' hf hn ho => h v w' (hf1.trans hf) (hn.mono hf1.size) ?_))
  · simp only [C.ite_true, C.ite_false, C.pick_true, C.pick_false, C.not_bool, C.field_ptr, C.nilCheck_ptr, C.add_mk, C.sub_mk, C.mul_mk, C.eql_mk, C.neq_mk, C.lss_mk, C.leq_mk, C.gtr_mk, C.geq_mk, C.conv_mk, C.len_mk, C.ext_0, C.ext_1, C.ext3_0, C.ext3_1, C.ext3_2, C.guarded_yes, C.guarded_tf, C.guarded_ft, C.guarded_undef, Bool.not_true, Bool.not_false, Nat.zero_add, eq_self, decide_true, decide_false]
    exact hk
  · have : G.where_ (fun n => decide (n = -1)) = G.dead := by
      refine List.filter_congr fun i _ => ?_
      have := dst_ge (G := G) i
      unfold Gr.rch
      rw [← decide_not]
      exact decide_eq_decide.2 (by omega)
    rw [← this]
    exact ho
end
end Go.Proofs.YtfhgjncbhjjbfaaV
