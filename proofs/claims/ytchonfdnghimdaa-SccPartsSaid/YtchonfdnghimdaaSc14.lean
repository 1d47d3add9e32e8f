/- SccParts: the statement. -/
import Derived.Test.YtchonfdnghimdaaSc13
namespace Go.Proofs.YtchonfdnghimdaaV
open Go Go.Proofs Go.RowKit
set_option linter.unusedVariables false
set_option linter.unusedSimpArgs false
set_option maxRecDepth 10000
theorem fromL_len (G : Gr) (i : Nat) : (G.fromL i).length = G.n := by simp [Gr.fromL]
theorem fromL_get {G : Gr} {i j : Nat} (h : j < (G.fromL i).length) : (G.fromL i)[j] = G.ld i j := by simp [Gr.fromL]
/-- Is it of a part of one of the first. -/
def Gr.seen (G : Gr) (i v : Nat) : Bool := (List.range i).any fun k => G.ld k v && G.ld v k
theorem seen_iff {G : Gr} {i v : Nat} : G.seen i v = true ↔ ∃ k, k < i ∧ G.eqv k v := by
  simp only [Gr.seen, List.any_eq_true, List.mem_range, Bool.and_eq_true]
  exact Iff.rfl
theorem seen_lead {G : Gr} {i : Nat} : G.seen i i = !G.lead i := by
  rw [Bool.eq_iff_iff, seen_iff]
  constructor
  · rintro ⟨k, hk, he⟩
    cases h : G.lead i with
    | false => rfl
    | true => exact absurd (eqv_symm he) (lead_iff.1 h k hk)
  · intro h
    apply Classical.byContradiction
    intro hc
    have : G.lead i = true := lead_iff.2 fun j hj he => hc ⟨j, hj, eqv_symm he⟩
    rw [this] at h
    cases h
theorem seen_succ {G : Gr} {i v : Nat} : G.seen (i + 1) v = (G.seen i v || (G.ld i v && G.ld v i)) := by
  simp [Gr.seen, List.range_succ]
def seenL (G : Gr) (i : Nat) : List Bool := (List.range G.n).map (G.seen i)
section
variable {K : VK} {w : World}
theorem RowsAt.app {W0 : World} {wv x : Value} {vs : List Value} {L : List (List Int)} {r : List Int} (hf : Fr [] W0 w) (hn : NewS W0 wv) (ho : OwnS w wv 23 1 (slC vs)) (hl : vs.length = L.length) (hr : ∀ i (h : i < L.length) (h' : i < vs.length), OwnS w vs[i] 3 1 (intC L[i])) (hx : OwnS w x 3 1 (intC r)) (hlen : vs.length ≤ 1000000)
    (hk : ∀ v' w', Fr [] W0 w' → NewS W0 v' → OwnS w' v' 23 1 (slC (vs ++ [x])) → (vs ++ [x]).length = (L ++ [r]).length → (∀ i (h : i < (L ++ [r]).length) (h' : i < (vs ++ [x]).length), OwnS w' (vs ++ [x])[i] 3 1 (intC (L ++ [r])[i])) → Fr (blkS wv) w w' → K v' w') :
    C.run Try.prog (Instr.buildSlice 22 1 #[(0, x)]) w fun y w1 => C.run Try.prog (Builtin.append_ #[22, 22] 22 #[wv, y]) w1 K := by
  obtain ⟨A, c, ex⟩ := hx.len
  rw [ex]
  refine C.appP ho hlen fun v' w1 ho1 hf1 hg1 => ?_
  rw [← ex] at ho1
  refine hk v' w1 (hf.then hf1 fun z hz => .inr (hn.blk z hz)) (new_app hn hf.size hg1) ho1 (by simp [hl]) (fun i a b => ?_) hf1
  by_cases ei : i < L.length
  · have ei' : i < vs.length := by omega
    rw [List.getElem_append_left ei, List.getElem_append_left ei']
    have h1 := hr i ei ei'
    exact h1.keep' hf1 (fun g hg c => (ho.ne h1 (by decide)) g c hg)
  · have e1 : i = L.length := by simp at a; omega
    have e2 : i = vs.length := by omega
    rw [List.getElem_append_right (by omega), List.getElem_append_right (by omega)]
    simp only [e2, hl, Nat.sub_self, List.getElem_cons_zero]
    exact hx.keep' hf1 (fun g hg c => (ho.ne hx (by decide)) g c hg)
/-- What stands while the page's parts are laid. -/
structure WI (G : Gr) (W w : World) (wv dv : Value) (vs : List Value) (L : List (List Nat)) (D : List Bool) : Prop where
  fr : Fr [] W w
  nw : NewS W wv
  ow : OwnS w wv 23 1 (slC vs)
  len : vs.length = (L.map natI).length
  row : ∀ i (h : i < (L.map natI).length) (h' : i < vs.length), OwnS w vs[i] 3 1 (intC ((L.map natI)[i]))
  nd : NewS W dv
  od : OwnS w dv 4 1 (boolC D)
  dl : D.length = G.n
theorem WI.keep {G : Gr} {W w' : World} {wv dv : Value} {vs : List Value} {L : List (List Nat)} {D : List Bool} (h : WI G W w wv dv vs L D) (hf : Fr [] w w') : WI G W w' wv dv vs L D :=
  ⟨h.fr.trans hf, h.nw, h.ow.keep hf (by simp), h.len, fun i a b => (h.row i a b).keep hf (by simp), h.nd, h.od.keep hf (by simp), h.dl⟩
theorem want_in {G : Gr} {W : World} {nv rv wv dv fv : Value} {b1 i : Nat} {vs : List Value} {L : List (List Nat)} (hG : IsG W nv rv G) (hb : GBlk W b1 25 nv rv) (hi : i < G.n) (hlead : G.lead i = true) (hLl : L.length ≤ 1000) {m : Nat} (hmW : W.heap.size ≤ m) (hmv : ∀ q (h' : q < vs.length), ∀ g ∈ blkS vs[q], g < m) (hfd : ∀ g ∈ blkS fv, g ∉ blkS dv)
    (hnext : ∀ wv' vs' w', WI G W w' wv' dv vs' (L ++ [G.scc i]) (seenL G (i + 1)) → F3.k9 K (.pointer (some ⟨b1, 0, none⟩)) (.int .i64 (G.n : Int)) wv' dv (.int .i64 (i : Int)) w') :
    ∀ (d j : Nat) (w : World) (lv : Value) (D : List Bool), G.n = j + d → WI G W w wv dv vs L D → OwnS w fv 4 1 (boolC (G.fromL i)) → (m ≤ w.heap.size ∧ ∀ g ∈ blkS lv, m ≤ g) → OwnS w lv 3 1 (intC (natI ((List.range j).filter fun v => G.ld i v && G.ld v i))) → (∀ v (hv : v < D.length), D[v] = (G.seen i v || (decide (v < j) && (G.ld i v && G.ld v i)))) →
      F3.l14 K (.pointer (some ⟨b1, 0, none⟩)) (.int .i64 (G.n : Int)) wv dv (.int .i64 (i : Int)) lv fv (.int .i64 (j : Int)) w := by
  have hfew := hG.few
  intro d
  induction d with
  | zero =>
    intro j w lv D hj hW hfv hnl hol hD
    refine F3.l14.to ?_
    simp only [C.ite_true, C.ite_false, C.pick_true, C.pick_false, C.not_bool, C.field_ptr, C.nilCheck_ptr, C.add_mk, C.sub_mk, C.mul_mk, C.eql_mk, C.neq_mk, C.lss_mk, C.leq_mk, C.gtr_mk, C.geq_mk, C.conv_mk, C.len_mk, C.ext_0, C.ext_1, C.ext3_0, C.ext3_1, C.ext3_2, C.guarded_yes, C.guarded_tf, C.guarded_ft, C.guarded_undef, Bool.not_true, Bool.not_false, Nat.zero_add, eq_self, decide_true, decide_false, show ¬ ((j : Int) < (G.n : Int)) by omega]
    have ej : j = G.n := by omega
    subst ej
    have hDe : D = seenL G (i + 1) := by
      apply List.ext_getElem
      · simp [seenL, hW.dl]
      · intro v h1 h2
        rw [hD v h1]
        have : v < G.n := by rw [← hW.dl]; exact h1
        simp [seenL, seen_succ, this]
    have hol' : OwnS w lv 3 1 (intC (natI (G.scc i))) := hol
    refine F3.k19.to (RowsAt.app hW.fr hW.nw hW.ow hW.len hW.row hol' (by have := hW.len; simp at this; omega) fun v' w1 a1 a2 a3 a4 a5 a6 => ?_)
    refine hnext v' _ w1 ⟨a1, a2, a3, by simpa using a4, fun q h h' => ?_, hW.nd, by rw [← hDe]; exact hW.od.keep' a6 (fun g hg c => (hW.ow.ne hW.od (by decide)) g c hg), by simp [seenL]⟩
    have e1 : (L ++ [G.scc i]).map natI = L.map natI ++ [natI (G.scc i)] := by simp
    have := a5 q (by rw [← e1]; exact h) h'
    simp only [e1]
    exact this
  | succ d ih =>
    intro j w lv D hj hW hfv hnl hol hD
    have jl : j < G.n := by omega
    refine F3.l14.to ?_
    simp only [C.ite_true, C.ite_false, C.pick_true, C.pick_false, C.not_bool, C.field_ptr, C.nilCheck_ptr, C.add_mk, C.sub_mk, C.mul_mk, C.eql_mk, C.neq_mk, C.lss_mk, C.leq_mk, C.gtr_mk, C.geq_mk, C.conv_mk, C.len_mk, C.ext_0, C.ext_1, C.ext3_0, C.ext3_1, C.ext3_2, C.guarded_yes, C.guarded_tf, C.guarded_ft, C.guarded_undef, Bool.not_true, Bool.not_false, Nat.zero_add, eq_self, decide_true, decide_false, show ((j : Int) < (G.n : Int)) by omega]
    have hfl : (((List.range j).filter fun v => G.ld i v && G.ld v i)).length ≤ j := by
      have := List.length_filter_le (fun v => G.ld i v && G.ld v i) (List.range j)
      rwa [List.length_range] at this
    have er : (List.range (j + 1)).filter (fun v => G.ld i v && G.ld v i) = ((List.range j).filter fun v => G.ld i v && G.ld v i) ++ if (G.ld i j && G.ld j i) = true then [j] else [] := by
      rw [List.range_succ, List.filter_append]
      congr 1
      cases h : (G.ld i j && G.ld j i) <;> simp [h]
    have nx : ∀ lv' D' w', WI G W w' wv dv vs L D' → OwnS w' fv 4 1 (boolC (G.fromL i)) → (m ≤ w'.heap.size ∧ ∀ g ∈ blkS lv', m ≤ g) → OwnS w' lv' 3 1 (intC (natI ((List.range (j + 1)).filter fun v => G.ld i v && G.ld v i))) → (∀ v (hv : v < D'.length), D'[v] = (G.seen i v || (decide (v < j + 1) && (G.ld i v && G.ld v i)))) →
        F3.k15 K (.pointer (some ⟨b1, 0, none⟩)) (.int .i64 (G.n : Int)) wv dv (.int .i64 (i : Int)) lv' fv (.int .i64 (j : Int)) w' := fun lv' D' w' a b c e f => by
      refine F3.k15.to ?_
      simp only [C.ite_true, C.ite_false, C.pick_true, C.pick_false, C.not_bool, C.field_ptr, C.nilCheck_ptr, C.add_mk, C.sub_mk, C.mul_mk, C.eql_mk, C.neq_mk, C.lss_mk, C.leq_mk, C.gtr_mk, C.geq_mk, C.conv_mk, C.len_mk, C.ext_0, C.ext_1, C.ext3_0, C.ext3_1, C.ext3_2, C.guarded_yes, C.guarded_tf, C.guarded_ft, C.guarded_undef, Bool.not_true, Bool.not_false, Nat.zero_add, eq_self, decide_true, decide_false]
      rw [wrap64_id (n := (j : Int) + 1) (by omega), show (j : Int) + 1 = ((j + 1 : Nat) : Int) by omega]
      exact ih (j + 1) w' lv' D' (by omega) a b c e f
    have skip : ∀ w', Fr [] w w' → (G.ld i j && G.ld j i) = false → F3.k15 K (.pointer (some ⟨b1, 0, none⟩)) (.int .i64 (G.n : Int)) wv dv (.int .i64 (i : Int)) lv fv (.int .i64 (j : Int)) w' := fun w' hf hc => by
      refine nx lv D w' (hW.keep hf) (hfv.keep hf (by simp)) ⟨Nat.le_trans hnl.1 hf.size, hnl.2⟩ ?_ fun v hv => ?_
      · rw [er, hc]
        simpa using hol.keep hf (by simp)
      · rw [hD v hv]
        by_cases e : v = j
        · subst e; simp [hc]
        · have : (v < j + 1) ↔ (v < j) := by omega
          simp [this]
    have jf : j < (G.fromL i).length := by rw [fromL_len]; exact jl
    refine F3.k16.to (C.idx_bool hfv.rd jf ?_)
    rw [fromL_get]
    cases c1 : G.ld i j with
    | false =>
      simp only [C.ite_true, C.ite_false, C.pick_true, C.pick_false, C.not_bool, C.field_ptr, C.nilCheck_ptr, C.add_mk, C.sub_mk, C.mul_mk, C.eql_mk, C.neq_mk, C.lss_mk, C.leq_mk, C.gtr_mk, C.geq_mk, C.conv_mk, C.len_mk, C.ext_0, C.ext_1, C.ext3_0, C.ext3_1, C.ext3_2, C.guarded_yes, C.guarded_tf, C.guarded_ft, C.guarded_undef, Bool.not_true, Bool.not_false, Nat.zero_add, eq_self, decide_true, decide_false]
      exact skip w (Fr.refl _ _) (by simp [c1])
    | true =>
      simp only [C.ite_true, C.ite_false, C.pick_true, C.pick_false, C.not_bool, C.field_ptr, C.nilCheck_ptr, C.add_mk, C.sub_mk, C.mul_mk, C.eql_mk, C.neq_mk, C.lss_mk, C.leq_mk, C.gtr_mk, C.geq_mk, C.conv_mk, C.len_mk, C.ext_0, C.ext_1, C.ext3_0, C.ext3_1, C.ext3_2, C.guarded_yes, C.guarded_tf, C.guarded_ft, C.guarded_undef, Bool.not_true, Bool.not_false, Nat.zero_add, eq_self, decide_true, decide_false]
      refine (hb.keep hW.fr (by simp)).all (plain34_c (hG.keep hW.fr) fun w1 hf1 => From_c (hG.keep (hW.fr.trans hf1)) fun f2 w2 hf2 hn2 ho2 => ?_)
      have f12 := hf1.trans hf2
      have il : i < (G.fromL j).length := by rw [fromL_len]; exact hi
      refine C.idx_bool ho2.rd il ?_
      rw [fromL_get]
      cases c2 : G.ld j i with
      | false =>
        simp only [C.ite_true, C.ite_false, C.pick_true, C.pick_false, C.not_bool, C.field_ptr, C.nilCheck_ptr, C.add_mk, C.sub_mk, C.mul_mk, C.eql_mk, C.neq_mk, C.lss_mk, C.leq_mk, C.gtr_mk, C.geq_mk, C.conv_mk, C.len_mk, C.ext_0, C.ext_1, C.ext3_0, C.ext3_1, C.ext3_2, C.guarded_yes, C.guarded_tf, C.guarded_ft, C.guarded_undef, Bool.not_true, Bool.not_false, Nat.zero_add, eq_self, decide_true, decide_false]
        exact skip w2 f12 (by simp [c2])
      | true =>
        simp only [C.ite_true, C.ite_false, C.pick_true, C.pick_false, C.not_bool, C.field_ptr, C.nilCheck_ptr, C.add_mk, C.sub_mk, C.mul_mk, C.eql_mk, C.neq_mk, C.lss_mk, C.leq_mk, C.gtr_mk, C.geq_mk, C.conv_mk, C.len_mk, C.ext_0, C.ext_1, C.ext3_0, C.ext3_1, C.ext3_2, C.guarded_yes, C.guarded_tf, C.guarded_ft, C.guarded_undef, Bool.not_true, Bool.not_false, Nat.zero_add, eq_self, decide_true, decide_false]
        have W2 := hW.keep f12
        have hol2 := hol.keep f12 (by simp)
        have hfv2 := hfv.keep f12 (by simp)
        have ms2 : m ≤ w2.heap.size := Nat.le_trans hnl.1 f12.size
        refine C.appI' hol2 (by rw [natI_len]; omega) fun lv' w3 ol3 hf3 hg3 => ?_
        have nl3 : ∀ g ∈ blkS lv', m ≤ g := fun g hg => by
          rcases hg3 g hg with c | c
          · exact hnl.2 g c
          · omega
        have fr3 : Fr [] W w3 := W2.fr.then hf3 fun z hz => .inr (by have := hnl.2 z hz; omega)
        have W3 : WI G W w3 wv dv vs L D := ⟨fr3, W2.nw, W2.ow.keep' hf3 (fun g hg c => (hol2.ne W2.ow (by decide)) g c hg), W2.len, fun q a b => (W2.row q a b).keep' hf3 (fun g hg c => by have := hmv q b g hg; have := hnl.2 g c; omega), W2.nd, W2.od.keep' hf3 (fun g hg c => (hol2.ne W2.od (by decide)) g c hg), W2.dl⟩
        have jD : j < D.length := by rw [hW.dl]; exact jl
        refine flag_set fr3 W3.nd W3.od jD fun w4 fr4 od4 hf4 => ?_
        have ms4 : m ≤ w4.heap.size := Nat.le_trans ms2 (Nat.le_trans hf3.size hf4.size)
        refine nx lv' (D.set j true) w4 ⟨fr4, W3.nw, W3.ow.keep' hf4 (fun g hg c => (W3.od.ne W3.ow (by decide)) g c hg), W3.len, fun q a b => (W3.row q a b).keep' hf4 (fun g hg c => (W3.od.ne (W3.row q a b) (by decide)) g c hg), W3.nd, od4, by simpa using W3.dl⟩ ?_ ⟨ms4, nl3⟩ ?_ fun v hv => ?_
        · exact (hfv2.keep' hf3 (fun g hg c => (hol2.ne hfv2 (by decide)) g c hg)).keep' hf4 hfd
        · rw [er]
          simp only [c1, c2, Bool.and_self, if_true]
          rw [natI_app]
          exact ol3.keep' hf4 (fun g hg c => (W3.od.ne ol3 (by decide)) g c hg)
        · rw [List.getElem_set]
          by_cases e : j = v
          · subst e; simp [c1, c2]
          · rw [if_neg e, hD v (by simpa using hv)]
            have : (v < j + 1) ↔ (v < j) := by omega
            simp [this]
theorem want_out {G : Gr} {W : World} {nv rv dv : Value} {b1 : Nat} (hG : IsG W nv rv G) (hb : GBlk W b1 25 nv rv)
    (h : ∀ wv w', Fr [] W w' → RowsAt w' wv (G.parts.map natI) → F3.k20 K (.pointer (some ⟨b1, 0, none⟩)) wv w') :
    ∀ (d i : Nat) (w : World) (wv : Value) (vs : List Value), G.n = i + d → WI G W w wv dv vs (((List.range i).filter G.lead).map G.scc) (seenL G i) →
      F3.l8 K (.pointer (some ⟨b1, 0, none⟩)) (.int .i64 (G.n : Int)) wv dv (.int .i64 (i : Int)) w := by
  have hfew := hG.few
  intro d
  induction d with
  | zero =>
    intro i w wv vs hi hW
    refine F3.l8.to ?_
    simp only [C.ite_true, C.ite_false, C.pick_true, C.pick_false, C.not_bool, C.field_ptr, C.nilCheck_ptr, C.add_mk, C.sub_mk, C.mul_mk, C.eql_mk, C.neq_mk, C.lss_mk, C.leq_mk, C.gtr_mk, C.geq_mk, C.conv_mk, C.len_mk, C.ext_0, C.ext_1, C.ext3_0, C.ext3_1, C.ext3_2, C.guarded_yes, C.guarded_tf, C.guarded_ft, C.guarded_undef, Bool.not_true, Bool.not_false, Nat.zero_add, eq_self, decide_true, decide_false, show ¬ ((i : Int) < (G.n : Int)) by omega]
    have e : i = G.n := by omega
    subst e
    exact h wv w hW.fr ⟨vs, hW.ow.rd, hW.len, fun q a b => (hW.row q a b).rd⟩
  | succ d ih =>
    intro i w wv vs hi hW
    have il : i < G.n := by omega
    refine F3.l8.to ?_
    simp only [C.ite_true, C.ite_false, C.pick_true, C.pick_false, C.not_bool, C.field_ptr, C.nilCheck_ptr, C.add_mk, C.sub_mk, C.mul_mk, C.eql_mk, C.neq_mk, C.lss_mk, C.leq_mk, C.gtr_mk, C.geq_mk, C.conv_mk, C.len_mk, C.ext_0, C.ext_1, C.ext3_0, C.ext3_1, C.ext3_2, C.guarded_yes, C.guarded_tf, C.guarded_ft, C.guarded_undef, Bool.not_true, Bool.not_false, Nat.zero_add, eq_self, decide_true, decide_false, show ((i : Int) < (G.n : Int)) by omega]
    have nx : ∀ wv' vs' w', WI G W w' wv' dv vs' (((List.range (i + 1)).filter G.lead).map G.scc) (seenL G (i + 1)) → F3.k9 K (.pointer (some ⟨b1, 0, none⟩)) (.int .i64 (G.n : Int)) wv' dv (.int .i64 (i : Int)) w' := fun wv' vs' w' a => by
      refine F3.k9.to ?_
      simp only [C.ite_true, C.ite_false, C.pick_true, C.pick_false, C.not_bool, C.field_ptr, C.nilCheck_ptr, C.add_mk, C.sub_mk, C.mul_mk, C.eql_mk, C.neq_mk, C.lss_mk, C.leq_mk, C.gtr_mk, C.geq_mk, C.conv_mk, C.len_mk, C.ext_0, C.ext_1, C.ext3_0, C.ext3_1, C.ext3_2, C.guarded_yes, C.guarded_tf, C.guarded_ft, C.guarded_undef, Bool.not_true, Bool.not_false, Nat.zero_add, eq_self, decide_true, decide_false]
      rw [wrap64_id (n := (i : Int) + 1) (by omega), show (i : Int) + 1 = ((i + 1 : Nat) : Int) by omega]
      exact ih (i + 1) w' wv' vs' (by omega) a
    have ids : i < (seenL G i).length := by simp [seenL]; exact il
    refine F3.k10.to (C.idx_bool hW.od.rd ids ?_)
    rw [show (seenL G i)[i] = G.seen i i by simp [seenL], seen_lead]
    cases hl : G.lead i with
    | false =>
      simp only [C.ite_true, C.ite_false, C.pick_true, C.pick_false, C.not_bool, C.field_ptr, C.nilCheck_ptr, C.add_mk, C.sub_mk, C.mul_mk, C.eql_mk, C.neq_mk, C.lss_mk, C.leq_mk, C.gtr_mk, C.geq_mk, C.conv_mk, C.len_mk, C.ext_0, C.ext_1, C.ext3_0, C.ext3_1, C.ext3_2, C.guarded_yes, C.guarded_tf, C.guarded_ft, C.guarded_undef, Bool.not_true, Bool.not_false, Nat.zero_add, eq_self, decide_true, decide_false]
      have e1 : ((List.range (i + 1)).filter G.lead).map G.scc = ((List.range i).filter G.lead).map G.scc := by rw [List.range_succ, List.filter_append]; simp [hl]
      have e2 : seenL G (i + 1) = seenL G i := by
        unfold seenL
        apply List.map_congr_left
        intro v _
        rw [seen_succ]
        cases c : (G.ld i v && G.ld v i) with
        | false => simp
        | true =>
          rw [Bool.and_eq_true] at c
          have : G.seen i i = true := by rw [seen_lead, hl]; rfl
          obtain ⟨k, hk, he⟩ := seen_iff.1 this
          have : G.seen i v = true := seen_iff.2 ⟨k, hk, eqv_trans he ⟨c.1, c.2⟩⟩
          simp [this]
      refine nx wv vs w ?_
      rw [e1, e2]
      exact hW
    | true =>
      simp only [C.ite_true, C.ite_false, C.pick_true, C.pick_false, C.not_bool, C.field_ptr, C.nilCheck_ptr, C.add_mk, C.sub_mk, C.mul_mk, C.eql_mk, C.neq_mk, C.lss_mk, C.leq_mk, C.gtr_mk, C.geq_mk, C.conv_mk, C.len_mk, C.ext_0, C.ext_1, C.ext3_0, C.ext3_1, C.ext3_2, C.guarded_yes, C.guarded_tf, C.guarded_ft, C.guarded_undef, Bool.not_true, Bool.not_false, Nat.zero_add, eq_self, decide_true, decide_false]
      refine F3.k11.to ((hb.keep hW.fr (by simp)).all (plain34_c (hG.keep hW.fr) fun w1 hf1 => From_c (hG.keep (hW.fr.trans hf1)) fun fv w2 hf2 hn2 ho2 => ?_))
      have f12 := hf1.trans hf2
      have W2 := hW.keep f12
      have hLl : (((List.range i).filter G.lead).map G.scc).length ≤ 1000 := by
        rw [List.length_map]
        have := List.length_filter_le G.lead (List.range i)
        rw [List.length_range] at this
        omega
      have e1 : ((List.range (i + 1)).filter G.lead).map G.scc = ((List.range i).filter G.lead).map G.scc ++ [G.scc i] := by rw [List.range_succ, List.filter_append]; simp [hl]
      refine want_in (m := w2.heap.size) hG hb il hl hLl W2.fr.size (fun q h' g hg => ?_) (fun g hg c => ?_) (fun wv' vs' w' hW' => nx wv' vs' w' (by rw [e1]; exact hW')) G.n 0 w2 (.slice none 0 0) (seenL G i) (by omega) W2 ho2 ⟨Nat.le_refl _, fun g hg => by simp [blkS, Value.ownBlock] at hg⟩ (OwnS.nil _ _ _) fun v hv => by simp [seenL]
      · exact (W2.row q (by rw [← W2.len]; exact h') h').mem_lt g hg
      · have h1 := hn2.blk g hg
        have h2 := hW.od.mem_lt g c
        have := hf1.size
        omega
theorem parts_cmp {W : World} {pv wv : Value} {L : List (List Int)} (hp : RowsAt W pv L) (hw : RowsAt W wv L) (hl : L.length ≤ 1000000) (h : ∀ w', Fr [] W w' → K (.bool true) w') :
    ∀ (d j : Nat) (w : World), L.length = j + d → Fr [] W w → F3.l24 K wv pv (.int .i64 (j : Int)) w := by
  intro d
  induction d with
  | zero =>
    intro j w hj hf
    refine F3.l24.to ((hw.keep hf).len ?_)
    simp only [C.ite_true, C.ite_false, C.pick_true, C.pick_false, C.not_bool, C.field_ptr, C.nilCheck_ptr, C.add_mk, C.sub_mk, C.mul_mk, C.eql_mk, C.neq_mk, C.lss_mk, C.leq_mk, C.gtr_mk, C.geq_mk, C.conv_mk, C.len_mk, C.ext_0, C.ext_1, C.ext3_0, C.ext3_1, C.ext3_2, C.guarded_yes, C.guarded_tf, C.guarded_ft, C.guarded_undef, Bool.not_true, Bool.not_false, Nat.zero_add, eq_self, decide_true, decide_false, show ¬ ((j : Int) < (L.length : Int)) by omega]
    exact F3.k28.to (h w hf)
  | succ d ih =>
    intro j w hj hf
    have jl : j < L.length := by omega
    refine F3.l24.to ((hw.keep hf).len ?_)
    simp only [C.ite_true, C.ite_false, C.pick_true, C.pick_false, C.not_bool, C.field_ptr, C.nilCheck_ptr, C.add_mk, C.sub_mk, C.mul_mk, C.eql_mk, C.neq_mk, C.lss_mk, C.leq_mk, C.gtr_mk, C.geq_mk, C.conv_mk, C.len_mk, C.ext_0, C.ext_1, C.ext3_0, C.ext3_1, C.ext3_2, C.guarded_yes, C.guarded_tf, C.guarded_ft, C.guarded_undef, Bool.not_true, Bool.not_false, Nat.zero_add, eq_self, decide_true, decide_false, show ((j : Int) < (L.length : Int)) by omega]
    obtain ⟨ps, p1, p2, p3⟩ := hp
    obtain ⟨qs, q1, q2, q3⟩ := hw
    have jp : j < ps.length := by omega
    have jq : j < qs.length := by omega
    refine F3.k26.to (C.draw_of (fun w' => Fr [] W w') fun w1 hf1 _ => ⟨hf.trans hf1, ?_⟩)
    have f1 := hf.trans hf1
    refine C.idx_rdS (S := fun w' => Fr [] W w') (fun w' hw => p1.keep hw) f1 (by omega) (by rw [Int.toNat_natCast]; exact slC_get jp) fun g1 o1 _ hs1 => ?_
    refine C.idx_rdS (S := fun w' => Fr [] W w') (fun w' hw => q1.keep hw) f1 (by omega) (by rw [Int.toNat_natCast]; exact slC_get jq) fun g2 o2 _ hs2 => ?_
    refine C.load1S_of (v := ps[j]) (fun w' hw => by obtain ⟨cs, e, fz, hg, hc⟩ := hs1 w' hw; exact ⟨cs, e, fz, hg, by simpa using hc 0 (by omega)⟩) ?_
    refine C.load1S_of (v := qs[j]) (fun w' hw => by obtain ⟨cs, e, fz, hg, hc⟩ := hs2 w' hw; exact ⟨cs, e, fz, hg, by simpa using hc 0 (by omega)⟩) ?_
    simp only [and_true]
    refine Ints_c ((p3 j jl jp).keep f1) ((q3 j jl jq).keep f1) fun w2 hf2 => ⟨f1.trans hf2, ?_⟩
    rw [decide_eq_true rfl]
    simp only [C.ite_true, C.ite_false, C.pick_true, C.pick_false, C.not_bool, C.field_ptr, C.nilCheck_ptr, C.add_mk, C.sub_mk, C.mul_mk, C.eql_mk, C.neq_mk, C.lss_mk, C.leq_mk, C.gtr_mk, C.geq_mk, C.conv_mk, C.len_mk, C.ext_0, C.ext_1, C.ext3_0, C.ext3_1, C.ext3_2, C.guarded_yes, C.guarded_tf, C.guarded_ft, C.guarded_undef, Bool.not_true, Bool.not_false, Nat.zero_add, eq_self, decide_true, decide_false]
    refine F3.k25.to ?_
    simp only [C.ite_true, C.ite_false, C.pick_true, C.pick_false, C.not_bool, C.field_ptr, C.nilCheck_ptr, C.add_mk, C.sub_mk, C.mul_mk, C.eql_mk, C.neq_mk, C.lss_mk, C.leq_mk, C.gtr_mk, C.geq_mk, C.conv_mk, C.len_mk, C.ext_0, C.ext_1, C.ext3_0, C.ext3_1, C.ext3_2, C.guarded_yes, C.guarded_tf, C.guarded_ft, C.guarded_undef, Bool.not_true, Bool.not_false, Nat.zero_add, eq_self, decide_true, decide_false]
    rw [wrap64_id (n := (j : Int) + 1) (by omega), show (j : Int) + 1 = ((j + 1 : Nat) : Int) by omega]
    exact ih (j + 1) w2 (by omega) (f1.trans hf2)
theorem SccParts_c {nv rv : Value} {G : Gr} (hG : IsG0 w nv rv G) (h : ∀ w', Fr [] w w' → K (.bool true) w') : C.call Try.prog 3 #[.agg #[nv, rv]] w K := by
  refine F3.sh (GBlk.new0 hG fun b w1 hf1 hb1 hb hG1 => alive34_c fun w2 hf2 => ?_)
  simp only [C.ite_true, C.ite_false, C.pick_true, C.pick_false, C.not_bool, C.field_ptr, C.nilCheck_ptr, C.add_mk, C.sub_mk, C.mul_mk, C.eql_mk, C.neq_mk, C.lss_mk, C.leq_mk, C.gtr_mk, C.geq_mk, C.conv_mk, C.len_mk, C.ext_0, C.ext_1, C.ext3_0, C.ext3_1, C.ext3_2, C.guarded_yes, C.guarded_tf, C.guarded_ft, C.guarded_undef, Bool.not_true, Bool.not_false, Nat.zero_add, eq_self, decide_true, decide_false]
  refine F3.k3.to ((hb.keep hf2 (by simp)).all (few34_c hG (hf1.trans hf2) fun nv' w3 hf3 hG3 => GBlk.set (hb.keep (hf2.trans hf3) (by simp)) (hG3.keep ((hf1.trans hf2).trans hf3)) fun w4 hu => ?_))
  have f04 : Fr [] w w4 := ((hf1.trans hf2).trans hf3).then hu.fr fun x hx => .inr (by simp only [List.mem_singleton] at hx; omega)
  have hG4 := hG3.keep f04
  have hb4 : GBlk w4 b 25 nv' rv := hu.at_
  generalize G.cut 16 = H at *
  have hfew := hG4.few
  refine hb4.next (hG4.len_next (flags_new (by omega) fun dv w5 hf5 hn5 ho5 => ?_))
  have es : List.replicate H.n false = seenL H 0 := by
    apply List.ext_getElem
    · simp [seenL]
    · intro i h1 h2
      simp [seenL, Gr.seen]
  rw [es] at ho5
  refine want_out (W := w4) hG4 hb4 (fun wv w6 hf6 hR6 => ?_) H.n 0 w5 (.slice none 0 0) [] (by omega) ⟨hf5, NewS.nil _, OwnS.nil _ _ _, rfl, fun i a b => by simp at b, hn5, ho5, by simp [seenL]⟩
  refine F3.k20.to ((hb4.keep hf6 (by simp)).all (Parts_c (hG4.keep hf6) fun pv w7 hf7 hP => hP.len ((hR6.keep hf7).len ?_)))
  simp only [C.ite_true, C.ite_false, C.pick_true, C.pick_false, C.not_bool, C.field_ptr, C.nilCheck_ptr, C.add_mk, C.sub_mk, C.mul_mk, C.eql_mk, C.neq_mk, C.lss_mk, C.leq_mk, C.gtr_mk, C.geq_mk, C.conv_mk, C.len_mk, C.ext_0, C.ext_1, C.ext3_0, C.ext3_1, C.ext3_2, C.guarded_yes, C.guarded_tf, C.guarded_ft, C.guarded_undef, Bool.not_true, Bool.not_false, Nat.zero_add, eq_self, decide_true, decide_false, ne_eq, not_true_eq_false]
  have hpf := parts_few H
  exact F3.k23.to (parts_cmp hP (hR6.keep hf7) (by simp; omega) (fun w' hf' => h w' (f04.trans (hf6.trans (hf7.trans hf')))) (H.parts.map natI).length 0 w7 (by omega) (Fr.refl _ _))
end
end Go.Proofs.YtchonfdnghimdaaV
