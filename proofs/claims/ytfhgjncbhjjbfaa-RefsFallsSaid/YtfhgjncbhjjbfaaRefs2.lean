/- Each edge that leads to a node, handed on: what the call comes to. -/
import Derived.Test.YtfhgjncbhjjbfaaRefs1
namespace Go.Proofs.YtfhgjncbhjjbfaaV
open Go Go.Proofs Go.RowKit
set_option linter.unusedVariables false
set_option linter.unusedSimpArgs false
set_option maxRecDepth 10000
theorem flat_split {G : Gr} {R : List (List Int)} {p t : Nat} (hp : p < R.length) (ht : t < R[p].length) : ∃ suf, G.nod R.flatten = G.nod ((R.take p).flatten ++ R[p].take t) ++ G.nod [R[p][t]] ++ suf := by
  refine ⟨G.nod (R[p].drop (t + 1) ++ (R.drop (p + 1)).flatten), ?_⟩
  rw [← nod_app, ← nod_app]
  congr 1
  have e1 : R = R.take p ++ R[p] :: R.drop (p + 1) := by rw [← List.drop_eq_getElem_cons hp, List.take_append_drop]
  have e2 : R[p] = R[p].take t ++ R[p][t] :: R[p].drop (t + 1) := by rw [← List.drop_eq_getElem_cons ht, List.take_append_drop]
  conv => lhs; rw [e1]
  rw [List.flatten_append, List.flatten_cons]
  conv => lhs; rw [e2]
  simp [List.append_assoc]
  rw [← List.append_assoc, List.take_append_drop]
section
variable {K : VK} {w : World}
theorem bsSS (A B : Option Addr) (n c m d : Nat) : (Instr.buildSlice 118 2 #[(0, .slice A n c), (1, .slice B m d)]).run Try.prog w = .ok (.slice (some ⟨w.heap.size, 0, none⟩) 2 2) (w.alloc (.cells #[.slice A n c, .slice B m d] 43)) := by kernel_rfl
/-- What stands while the edges are gone through. -/
structure LD (w : World) (bg b1 : Nat) (nv rv cv : Value) (vs : List Value) : Prop where
  g : GBlk w bg 46 nv rv
  c : RdS w cv 1 (slC (rv :: vs))
theorem LD.same {w w' : World} {bg b0 b1 : Nat} {nv rv cv : Value} {vs : List Value} (h : LD w bg b1 nv rv cv vs) (hg : b0 ≤ bg ∧ bg < b1) (hc : ∀ g ∈ blkS cv, b0 ≤ g ∧ g < b1) (hs : ∀ b, b0 ≤ b → b < b1 → w'.heap[b]? = w.heap[b]?) : LD w' bg b1 nv rv cv vs :=
  ⟨by unfold GBlk; rw [hs bg hg.1 hg.2]; exact h.g, h.c.same fun g hg => hs g (hc g hg).1 (hc g hg).2⟩
theorem lead_row {G : Gr} {nv rv f cv rw_ : Value} {vs : List Value} {b0 b1 bg p : Nat} {y15 : Value} {I : List Int → World → Prop} (hR : ∀ pre w', I pre w' → RdS w' rw_ 1 (intC ((G.roots :: G.next)[p]?.getD []))) (hnv : ∃ A c, nv = .slice A G.n c) (hfew : G.n ≤ 1000) (hp : p < (G.roots :: G.next).length)
    (hgb : b0 ≤ bg ∧ bg < b1) (hcb : ∀ g ∈ blkS cv, b0 ≤ g ∧ g < b1)
    (hst : ∀ pre (k : Nat) suf w' (K' : VK), I pre w' → k < G.n → G.flat = pre ++ (k : Int) :: suf → (∀ w'', I (pre ++ [(k : Int)]) w'' → (∀ b, b0 ≤ b → b < b1 → w''.heap[b]? = w'.heap[b]?) → K' (.tuple #[]) w'') → vcCall Try.prog f [.int .i64 (k : Int)] w' K')
    (h : ∀ w', I (G.nod ((G.roots :: G.next).take (p + 1)).flatten) w' → LD w' bg b1 nv rv cv vs → F75.k10 K f (.pointer (some ⟨bg, 0, none⟩)) cv y15 (.int .i64 (p : Int)) w') :
    ∀ (d t : Nat) (w : World), (G.roots :: G.next)[p].length = t + d → I (G.nod (((G.roots :: G.next).take p).flatten ++ (G.roots :: G.next)[p].take t)) w → LD w bg b1 nv rv cv vs →
      F75.l5 K f (.pointer (some ⟨bg, 0, none⟩)) cv y15 (.int .i64 (p : Int)) rw_ (.int .i64 ((G.roots :: G.next)[p].length : Int)) (.int .i64 (t : Int)) w := by
  obtain ⟨A, c, rfl⟩ := hnv
  have hget : (G.roots :: G.next)[p]?.getD [] = (G.roots :: G.next)[p] := by rw [List.getElem?_eq_getElem hp]; rfl
  intro d
  induction d with
  | zero =>
    intro t w ht hI hL
    refine F75.l5.to ?_
    simp only [C.ite_true, C.ite_false, C.pick_true, C.pick_false, C.not_bool, C.field_ptr, C.nilCheck_ptr, C.add_mk, C.sub_mk, C.mul_mk, C.eql_mk, C.neq_mk, C.lss_mk, C.leq_mk, C.gtr_mk, C.geq_mk, C.conv_mk, C.len_mk, C.ext_0, C.ext_1, C.ext3_0, C.ext3_1, C.ext3_2, C.guarded_yes, C.guarded_tf, C.guarded_ft, C.guarded_undef, Bool.not_true, Bool.not_false, Nat.zero_add, eq_self, decide_true, decide_false, show ¬ ((t : Int) < ((G.roots :: G.next)[p].length : Int)) by omega]
    refine h w ?_ hL
    rw [List.take_succ_eq_append_getElem hp, List.flatten_append]
    rw [List.take_of_length_le (show (G.roots :: G.next)[p].length ≤ t by omega)] at hI
    simpa using hI
  | succ d ih =>
    intro t w ht hI hL
    have htl : t < (G.roots :: G.next)[p].length := by omega
    have hrd := hR _ _ hI
    rw [hget] at hrd
    have hle := hrd.le
    rw [intC_len] at hle
    refine F75.l5.to ?_
    simp only [C.ite_true, C.ite_false, C.pick_true, C.pick_false, C.not_bool, C.field_ptr, C.nilCheck_ptr, C.add_mk, C.sub_mk, C.mul_mk, C.eql_mk, C.neq_mk, C.lss_mk, C.leq_mk, C.gtr_mk, C.geq_mk, C.conv_mk, C.len_mk, C.ext_0, C.ext_1, C.ext3_0, C.ext3_1, C.ext3_2, C.guarded_yes, C.guarded_tf, C.guarded_ft, C.guarded_undef, Bool.not_true, Bool.not_false, Nat.zero_add, eq_self, decide_true, decide_false, show ((t : Int) < ((G.roots :: G.next)[p].length : Int)) by omega]
    obtain ⟨suf, hsuf⟩ := flat_split (G := G) hp htl
    have e1 : G.nod (((G.roots :: G.next).take p).flatten ++ (G.roots :: G.next)[p].take (t + 1)) = G.nod (((G.roots :: G.next).take p).flatten ++ (G.roots :: G.next)[p].take t) ++ G.nod [(G.roots :: G.next)[p][t]] := by
      rw [← nod_app, List.take_succ_eq_append_getElem htl, List.append_assoc]
    have nx : ∀ w', I (G.nod (((G.roots :: G.next).take p).flatten ++ (G.roots :: G.next)[p].take (t + 1))) w' → LD w' bg b1 (.slice A G.n c) rv cv vs →
        F75.k9 K f (.pointer (some ⟨bg, 0, none⟩)) cv y15 (.int .i64 (p : Int)) rw_ (.int .i64 ((G.roots :: G.next)[p].length : Int)) (.int .i64 (t : Int)) w' := by
      intro w' a b
      refine F75.k9.to ?_
      simp only [C.ite_true, C.ite_false, C.pick_true, C.pick_false, C.not_bool, C.field_ptr, C.nilCheck_ptr, C.add_mk, C.sub_mk, C.mul_mk, C.eql_mk, C.neq_mk, C.lss_mk, C.leq_mk, C.gtr_mk, C.geq_mk, C.conv_mk, C.len_mk, C.ext_0, C.ext_1, C.ext3_0, C.ext3_1, C.ext3_2, C.guarded_yes, C.guarded_tf, C.guarded_ft, C.guarded_undef, Bool.not_true, Bool.not_false, Nat.zero_add, eq_self, decide_true, decide_false]
      rw [wrap64_id (n := (t : Int) + 1) (by omega), show (t : Int) + 1 = ((t + 1 : Nat) : Int) by omega]
      exact ih (t + 1) w' (by omega) a b
    refine F75.k6.to (C.idx_int hrd htl fun g o cs e fz hg hc => C.load1_of hg hc ?_)
    generalize hx : (G.roots :: G.next)[p][t] = x at *
    have no : ¬ (0 ≤ x ∧ x < (G.n : Int)) → F75.k9 K f (.pointer (some ⟨bg, 0, none⟩)) cv y15 (.int .i64 (p : Int)) rw_ (.int .i64 ((G.roots :: G.next)[p].length : Int)) (.int .i64 (t : Int)) w := fun hn => by
      refine nx w ?_ hL
      rw [e1, nod_one, if_neg hn, List.append_nil]
      exact hI
    by_cases h0 : 0 ≤ x
    · simp only [C.ite_true, C.ite_false, C.pick_true, C.pick_false, C.not_bool, C.field_ptr, C.nilCheck_ptr, C.add_mk, C.sub_mk, C.mul_mk, C.eql_mk, C.neq_mk, C.lss_mk, C.leq_mk, C.gtr_mk, C.geq_mk, C.conv_mk, C.len_mk, C.ext_0, C.ext_1, C.ext3_0, C.ext3_1, C.ext3_2, C.guarded_yes, C.guarded_tf, C.guarded_ft, C.guarded_undef, Bool.not_true, Bool.not_false, Nat.zero_add, eq_self, decide_true, decide_false, ge_iff_le, h0]
      refine C.load1_of (v := .slice A G.n c) hL.g rfl ?_
      simp only [C.ite_true, C.ite_false, C.pick_true, C.pick_false, C.not_bool, C.field_ptr, C.nilCheck_ptr, C.add_mk, C.sub_mk, C.mul_mk, C.eql_mk, C.neq_mk, C.lss_mk, C.leq_mk, C.gtr_mk, C.geq_mk, C.conv_mk, C.len_mk, C.ext_0, C.ext_1, C.ext3_0, C.ext3_1, C.ext3_2, C.guarded_yes, C.guarded_tf, C.guarded_ft, C.guarded_undef, Bool.not_true, Bool.not_false, Nat.zero_add, eq_self, decide_true, decide_false]
      by_cases h1 : x < (G.n : Int)
      · simp only [C.ite_true, C.ite_false, C.pick_true, C.pick_false, C.not_bool, C.field_ptr, C.nilCheck_ptr, C.add_mk, C.sub_mk, C.mul_mk, C.eql_mk, C.neq_mk, C.lss_mk, C.leq_mk, C.gtr_mk, C.geq_mk, C.conv_mk, C.len_mk, C.ext_0, C.ext_1, C.ext3_0, C.ext3_1, C.ext3_2, C.guarded_yes, C.guarded_tf, C.guarded_ft, C.guarded_undef, Bool.not_true, Bool.not_false, Nat.zero_add, eq_self, decide_true, decide_false, h1]
        obtain ⟨k, rfl⟩ : ∃ k : Nat, x = (k : Int) := ⟨x.toNat, by omega⟩
        rw [nod_one, if_pos ⟨h0, h1⟩] at hsuf e1
        refine hst _ k suf w _ hI (by omega) (by unfold Gr.flat; rw [hsuf]; simp) fun w' hI' hs => nx w' ?_ (hL.same hgb hcb hs)
        rw [e1]
        exact hI'
      · simp only [C.ite_true, C.ite_false, C.pick_true, C.pick_false, C.not_bool, C.field_ptr, C.nilCheck_ptr, C.add_mk, C.sub_mk, C.mul_mk, C.eql_mk, C.neq_mk, C.lss_mk, C.leq_mk, C.gtr_mk, C.geq_mk, C.conv_mk, C.len_mk, C.ext_0, C.ext_1, C.ext3_0, C.ext3_1, C.ext3_2, C.guarded_yes, C.guarded_tf, C.guarded_ft, C.guarded_undef, Bool.not_true, Bool.not_false, Nat.zero_add, eq_self, decide_true, decide_false, h1]
        exact no (by omega)
    · simp only [C.ite_true, C.ite_false, C.pick_true, C.pick_false, C.not_bool, C.field_ptr, C.nilCheck_ptr, C.add_mk, C.sub_mk, C.mul_mk, C.eql_mk, C.neq_mk, C.lss_mk, C.leq_mk, C.gtr_mk, C.geq_mk, C.conv_mk, C.len_mk, C.ext_0, C.ext_1, C.ext3_0, C.ext3_1, C.ext3_2, C.guarded_yes, C.guarded_tf, C.guarded_ft, C.guarded_undef, Bool.not_true, Bool.not_false, Nat.zero_add, eq_self, decide_true, decide_false, ge_iff_le, h0]
      exact no (by omega)
theorem lead_loop {G : Gr} {nv rv f cv : Value} {vs : List Value} {b0 b1 bg : Nat} {I : List Int → World → Prop} (hvl : vs.length = G.next.length) (hR : ∀ pre w', I pre w' → RdS w' rv 1 (intC G.roots) ∧ ∀ i (h : i < vs.length) (h' : i < G.next.length), RdS w' vs[i] 1 (intC G.next[i])) (hnv : ∃ A c, nv = .slice A G.n c) (hfew : G.n ≤ 1000)
    (hgb : b0 ≤ bg ∧ bg < b1) (hcb : ∀ g ∈ blkS cv, b0 ≤ g ∧ g < b1)
    (hst : ∀ pre (k : Nat) suf w' (K' : VK), I pre w' → k < G.n → G.flat = pre ++ (k : Int) :: suf → (∀ w'', I (pre ++ [(k : Int)]) w'' → (∀ b, b0 ≤ b → b < b1 → w''.heap[b]? = w'.heap[b]?) → K' (.tuple #[]) w'') → vcCall Try.prog f [.int .i64 (k : Int)] w' K')
    (h : ∀ w', I G.flat w' → K (.tuple #[]) w') :
    ∀ (d p : Nat) (w : World), G.n + 1 = p + d → I (G.nod ((G.roots :: G.next).take p).flatten) w → LD w bg b1 nv rv cv vs →
      F75.l2 K f (.pointer (some ⟨bg, 0, none⟩)) cv (.int .i64 ((G.n + 1 : Nat) : Int)) (.int .i64 (p : Int)) w := by
  have hlen : (G.roots :: G.next).length = G.n + 1 := rfl
  have hvl' : (rv :: vs).length = G.n + 1 := by rw [List.length_cons, hvl]; rfl
  intro d
  induction d with
  | zero =>
    intro p w hp hI hL
    refine F75.l2.to ?_
    simp only [C.ite_true, C.ite_false, C.pick_true, C.pick_false, C.not_bool, C.field_ptr, C.nilCheck_ptr, C.add_mk, C.sub_mk, C.mul_mk, C.eql_mk, C.neq_mk, C.lss_mk, C.leq_mk, C.gtr_mk, C.geq_mk, C.conv_mk, C.len_mk, C.ext_0, C.ext_1, C.ext3_0, C.ext3_1, C.ext3_2, C.guarded_yes, C.guarded_tf, C.guarded_ft, C.guarded_undef, Bool.not_true, Bool.not_false, Nat.zero_add, eq_self, decide_true, decide_false, show ¬ ((p : Int) < ((G.n + 1 : Nat) : Int)) by omega]
    refine h w ?_
    rw [List.take_of_length_le (by omega)] at hI
    exact hI
  | succ d ih =>
    intro p w hp hI hL
    have hpl : p < (G.roots :: G.next).length := by omega
    have hpv : p < (rv :: vs).length := by omega
    refine F75.l2.to ?_
    simp only [C.ite_true, C.ite_false, C.pick_true, C.pick_false, C.not_bool, C.field_ptr, C.nilCheck_ptr, C.add_mk, C.sub_mk, C.mul_mk, C.eql_mk, C.neq_mk, C.lss_mk, C.leq_mk, C.gtr_mk, C.geq_mk, C.conv_mk, C.len_mk, C.ext_0, C.ext_1, C.ext3_0, C.ext3_1, C.ext3_2, C.guarded_yes, C.guarded_tf, C.guarded_ft, C.guarded_undef, Bool.not_true, Bool.not_false, Nat.zero_add, eq_self, decide_true, decide_false, show ((p : Int) < ((G.n + 1 : Nat) : Int)) by omega]
    have rows : ∀ pre w', I pre w' → RdS w' (rv :: vs)[p] 1 (intC ((G.roots :: G.next)[p]?.getD [])) := fun pre w' hI' => by
      obtain ⟨r1, r2⟩ := hR pre w' hI'
      rw [List.getElem?_eq_getElem hpl]
      match p, hpl, hpv with
      | 0, _, _ => exact r1
      | q + 1, a, b => exact r2 q (by simpa using b) (by simpa using a)
    have hrd := rows _ _ hI
    rw [List.getElem?_eq_getElem hpl] at hrd
    refine F75.k3.to (C.idx_sl hL.c hpv fun g o cs e fz hg hc => C.load1_of hg hc (C.len_rd hrd ?_))
    rw [intC_len, Option.getD_some]
    refine lead_row rows hnv hfew hpl hgb hcb hst (fun w' hI' hL' => F75.k10.to ?_) (G.roots :: G.next)[p].length 0 w (by omega) (by simpa using hI) hL
    simp only [C.ite_true, C.ite_false, C.pick_true, C.pick_false, C.not_bool, C.field_ptr, C.nilCheck_ptr, C.add_mk, C.sub_mk, C.mul_mk, C.eql_mk, C.neq_mk, C.lss_mk, C.leq_mk, C.gtr_mk, C.geq_mk, C.conv_mk, C.len_mk, C.ext_0, C.ext_1, C.ext3_0, C.ext3_1, C.ext3_2, C.guarded_yes, C.guarded_tf, C.guarded_ft, C.guarded_undef, Bool.not_true, Bool.not_false, Nat.zero_add, eq_self, decide_true, decide_false]
    rw [wrap64_id (n := (p : Int) + 1) (by omega), show (p : Int) + 1 = ((p + 1 : Nat) : Int) by omega]
    exact ih (p + 1) w' (by omega) hI' hL'
theorem lead_c {G : Gr} {nv rv f : Value} {vs : List Value} {b0 : Nat} {I : Nat → List Int → World → Prop} (hb0 : b0 ≤ w.heap.size) (hG : IsG w nv rv G) (hnv : RdS w nv 1 (slC vs)) (hvl : vs.length = G.next.length)
    (hR : ∀ b1 pre w', I b1 pre w' → RdS w' rv 1 (intC G.roots) ∧ ∀ i (h : i < vs.length) (h' : i < G.next.length), RdS w' vs[i] 1 (intC G.next[i]))
    (h0 : ∀ w', Fr [] w w' → I w'.heap.size [] w')
    (hst : ∀ b1 pre (k : Nat) suf w' (K' : VK), I b1 pre w' → k < G.n → G.flat = pre ++ (k : Int) :: suf → (∀ w'', I b1 (pre ++ [(k : Int)]) w'' → (∀ b, b0 ≤ b → b < b1 → w''.heap[b]? = w'.heap[b]?) → K' (.tuple #[]) w'') → vcCall Try.prog f [.int .i64 (k : Int)] w' K')
    (h : ∀ b1 w', I b1 G.flat w' → K (.tuple #[]) w') : C.call Try.prog 75 #[.agg #[nv, rv], f] w K := by
  have hfew := hG.few
  have hsl : ∀ v ∈ vs, v.oneCell' = true := fun v hv => by
    obtain ⟨i, hi, rfl⟩ := List.getElem_of_mem hv
    exact ((hR _ _ _ (h0 w (Fr.refl _ _))).2 i hi (by omega)).one.1
  have hG' := hG
  have hnvc := hG.slices
  refine F75.sh (GBlk.new hG fun bg w1 hf1 hb1 hb hG1 => hb.roots ?_)
  obtain ⟨A, c, B, d, hnv', hrv'⟩ := hG.slices
  have hbs := bsS (w := w1) B G.roots.length d
  rw [← hrv'] at hbs
  refine C.run_of hbs ?_
  have hw2 := New.mk' w1 (.cells #[rv] 44)
  generalize hs2 : w1.alloc (.cells #[rv] 44) = w2 at *
  have r2 : RdS w2 (.slice (some ⟨w1.heap.size, 0, none⟩) 1 1) 1 (slC [rv]) := RdS.of_block hw2.at_ rfl (by simp) (by simp) (by simp [slC]) (by simp [slC])
  refine (hb.keep hw2.fr (by simp)).next ?_
  have hbss := bsSS (w := w2) (some ⟨w1.heap.size, 0, none⟩) A 1 1 G.n c
  rw [← hnv'] at hbss
  refine C.run_of hbss ?_
  have hw3 := New.mk' w2 (.cells #[.slice (some ⟨w1.heap.size, 0, none⟩) 1 1, nv] 43)
  generalize hs3 : w2.alloc (.cells #[.slice (some ⟨w1.heap.size, 0, none⟩) 1 1, nv] 43) = w3 at *
  have f3 := (hf1.trans hw2.fr).trans hw3.fr
  have r3 : RdS w3 (.slice (some ⟨w2.heap.size, 0, none⟩) 2 2) 1 (slC [.slice (some ⟨w1.heap.size, 0, none⟩) 1 1, nv]) := RdS.of_block hw3.at_ rfl (by simp) (by simp) (by simp [slC]) (by simp [slC])
  have hfl : [[rv], vs].flatten = rv :: vs := by simp
  have hvl' : (rv :: vs).length = G.n + 1 := by rw [List.length_cons, hvl]; rfl
  refine Concat_c (Ls := [[rv], vs]) r3 rfl (fun i a b => ?_) (fun l hl v hv => ?_) (by rw [hfl, hvl']; omega) (by rw [hfl, hvl']; omega) fun cv w4 hf4 hn4 ho4 => C.len_rd ho4.rd ?_
  · match i, a, b with
    | 0, _, _ => exact r2.keep hw3.fr
    | 1, _, _ => exact hnv.keep f3
  · simp only [List.mem_cons, List.not_mem_nil, or_false] at hl
    rcases hl with rfl | rfl
    · simp only [List.mem_cons, List.not_mem_nil, or_false] at hv
      subst hv
      exact hG.roots.one.1
    · exact hsl v hv
  · rw [hfl] at ho4
    rw [hfl, slC_len, hvl']
    have f4 := f3.trans hf4
    have lc := ho4.mem_lt
    have s1 := hf1.size
    have s2 := hw2.fr.size
    have s3 := hw3.fr.size
    have s4 := hf4.size
    have lb := lt_of_at hb
    refine lead_loop (I := I w4.heap.size) (b0 := b0) (b1 := w4.heap.size) (vs := vs) hvl (hR _) ⟨A, c, hnv'⟩ hfew ⟨by omega, by omega⟩ (fun g hg => ⟨by have := hn4.blk g hg; omega, lc g hg⟩) (hst _) (h _) (G.n + 1) 0 w4 (by omega) ?_ ⟨hb.keep ((hw2.fr.trans hw3.fr).trans hf4) (by simp), ho4.rd⟩
    exact h0 w4 f4
end
end Go.Proofs.YtfhgjncbhjjbfaaV
