/- Layer 33: who leads to a node, the way to it: what the calls come to. -/
import Derived.Test.YtfhgjncbhjjbfaaDom3
namespace Go.Proofs.YtfhgjncbhjjbfaaV
open Go Go.Proofs Go.RowKit
set_option linter.unusedVariables false
set_option linter.unusedSimpArgs false
set_option maxRecDepth 10000
section
variable {K : VK} {w : World}
theorem few33_c {W0 : World} {nv rv : Value} {G : Gr} (hG : IsG0 W0 nv rv G) (hf0 : Fr [] W0 w) (h : ∀ nv' w', Fr [] w w' → IsG W0 nv' rv (G.cut 24) → K (.agg #[nv', rv]) w') : C.call Try.prog 32 #[.agg #[nv, rv]] w K := by
  refine F32.sh (GBlk.new0 (hG.keep hf0) fun b w1 hf1 hb1 hb hG1 => C.new_of fun b2 w2 hw2 => ?_)
  have hb2 := hb.keep hw2.fr (by simp)
  have e2 := hw2.is
  have e2' := hw2.sz
  have s1 := hf1.size
  have hl := hG.le
  have lb := lt_of_at hb
  have f2 := hf1.trans hw2.fr
  have fin : ∀ nv' w3, Fr [] w w3 → IsG W0 nv' rv (G.cut 24) → GBlk w3 b 46 nv' rv → w3.heap[b2]? = some (.cells #[.slice none 0 0, .slice none 0 0] 46 (0, 0)) → F32.k3 K (.pointer (some ⟨b, 0, none⟩)) (.pointer (some ⟨b2, 0, none⟩)) w3 := by
    intro nv' w3 f3 hG3 hb3 h23
    refine F32.k3.to (hb3.all (GBlk.set h23 (hG3.keep (hf0.trans f3)) fun w4 hu => C.loadA_all hu.at_ rfl ?_))
    have fr : Fr [] w w4 := f3.then hu.fr fun x hx => .inr (by simp only [List.mem_singleton] at hx; omega)
    exact h nv' w4 fr hG3
  have hG' := hG
  obtain ⟨A, c, B, d, rfl, rfl⟩ := hG.slices
  simp only [C.ite_true, C.ite_false, C.pick_true, C.pick_false, C.not_bool, C.field_ptr, C.nilCheck_ptr, C.add_mk, C.sub_mk, C.mul_mk, C.eql_mk, C.neq_mk, C.lss_mk, C.leq_mk, C.gtr_mk, C.geq_mk, C.conv_mk, C.len_mk, C.ext_0, C.ext_1, C.ext3_0, C.ext3_1, C.ext3_2, C.guarded_yes, C.guarded_tf, C.guarded_ft, C.guarded_undef, Bool.not_true, Bool.not_false, Nat.zero_add, eq_self, decide_true, decide_false]
  refine C.load1_of (v := .slice A G.n c) hb2 rfl ?_
  simp only [C.ite_true, C.ite_false, C.pick_true, C.pick_false, C.not_bool, C.field_ptr, C.nilCheck_ptr, C.add_mk, C.sub_mk, C.mul_mk, C.eql_mk, C.neq_mk, C.lss_mk, C.leq_mk, C.gtr_mk, C.geq_mk, C.conv_mk, C.len_mk, C.ext_0, C.ext_1, C.ext3_0, C.ext3_1, C.ext3_2, C.guarded_yes, C.guarded_tf, C.guarded_ft, C.guarded_undef, Bool.not_true, Bool.not_false, Nat.zero_add, eq_self, decide_true, decide_false]
  by_cases hc : (G.n : Int) > 24
  · simp only [C.ite_true, C.ite_false, C.pick_true, C.pick_false, C.not_bool, C.field_ptr, C.nilCheck_ptr, C.add_mk, C.sub_mk, C.mul_mk, C.eql_mk, C.neq_mk, C.lss_mk, C.leq_mk, C.gtr_mk, C.geq_mk, C.conv_mk, C.len_mk, C.ext_0, C.ext_1, C.ext3_0, C.ext3_1, C.ext3_2, C.guarded_yes, C.guarded_tf, C.guarded_ft, C.guarded_undef, Bool.not_true, Bool.not_false, Nat.zero_add, eq_self, decide_true, decide_false, hc]
    refine C.load1_of (v := .slice A G.n c) hb2 rfl ?_
    obtain ⟨vs, ⟨A', c', he, hle, _⟩, hvl, _⟩ := hG.next
    simp only [Value.slice.injEq] at he
    obtain ⟨rfl, he, rfl⟩ := he
    refine C.run_of (sliceTo_run (sz := 1) _ _ _ _ _ Try.underlying43 (by kernel_rfl) (by omega) (by omega)) ?_
    rw [show (24 : Int).toNat = 24 from rfl]
    try simp only [C.ite_true, C.ite_false, C.pick_true, C.pick_false, C.not_bool, C.field_ptr, C.nilCheck_ptr, C.add_mk, C.sub_mk, C.mul_mk, C.eql_mk, C.neq_mk, C.lss_mk, C.leq_mk, C.gtr_mk, C.geq_mk, C.conv_mk, C.len_mk, C.ext_0, C.ext_1, C.ext3_0, C.ext3_1, C.ext3_2, C.guarded_yes, C.guarded_tf, C.guarded_ft, C.guarded_undef, Bool.not_true, Bool.not_false, Nat.zero_add, eq_self, decide_true, decide_false]
    refine C.store1_of hb2 rfl rfl (by simp) fun w3 hu => ?_
    have fr : Fr [] w w3 := f2.then hu.fr fun x hx => .inr (by simp only [List.mem_singleton] at hx; omega)
    refine fin (.slice A 24 c) w3 fr ⟨hG'.next.take (by omega), hG'.roots, Nat.le_trans (cut_n _ _) (by omega), hG'.rlen, fun r hr => hG'.nlen r (List.mem_of_mem_take hr)⟩ hu.at_ (hu.fr.at_ hw2.at_ (by simp; omega))
  · simp only [C.ite_true, C.ite_false, C.pick_true, C.pick_false, C.not_bool, C.field_ptr, C.nilCheck_ptr, C.add_mk, C.sub_mk, C.mul_mk, C.eql_mk, C.neq_mk, C.lss_mk, C.leq_mk, C.gtr_mk, C.geq_mk, C.conv_mk, C.len_mk, C.ext_0, C.ext_1, C.ext3_0, C.ext3_1, C.ext3_2, C.guarded_yes, C.guarded_tf, C.guarded_ft, C.guarded_undef, Bool.not_true, Bool.not_false, Nat.zero_add, eq_self, decide_true, decide_false, hc]
    have e : G.cut 24 = G := cut_id (by omega)
    exact fin _ w2 f2 (by rw [e]; exact hG'.isG (by omega)) hb2 hw2.at_
theorem plain33_c {nv rv : Value} {G : Gr} (hG : IsG w nv rv G) (h : ∀ w', Fr [] w w' → IsG w' nv rv G → K (.agg #[nv, rv]) w') : C.call Try.prog 33 #[.agg #[nv, rv]] w K := by
  refine F33.sh (GBlk.new hG fun b w1 hf1 hb1 hb hG1 => C.new_of fun b2 w2 hw2 => ?_)
  have hb2 := hb.keep hw2.fr (by simp)
  have hG2 := hG1.keep hw2.fr
  simp only [C.ite_true, C.ite_false, C.pick_true, C.pick_false, C.not_bool, C.field_ptr, C.nilCheck_ptr, C.add_mk, C.sub_mk, C.mul_mk, C.eql_mk, C.neq_mk, C.lss_mk, C.leq_mk, C.gtr_mk, C.geq_mk, C.conv_mk, C.len_mk, C.ext_0, C.ext_1, C.ext3_0, C.ext3_1, C.ext3_2, C.guarded_yes, C.guarded_tf, C.guarded_ft, C.guarded_undef, Bool.not_true, Bool.not_false, Nat.zero_add, eq_self, decide_true, decide_false]
  refine C.load1_of (v := nv) hb2 rfl (C.load1_of (v := rv) hb2 rfl ?_)
  have hcells := hG2.cells
  obtain ⟨A, c, B, d, rfl, rfl⟩ := hG.slices
  refine C.run_of (build33 _ _ _ _ _ _) (C.store_all hw2.at_ rfl hG2.ones rfl fun w3 hu => C.loadA_all hu.at_ rfl ?_)
  have fr : Fr [] w w3 := (hf1.trans hw2.fr).then hu.fr fun x hx => .inr (by simp only [List.mem_singleton] at hx; have := hw2.is; have := hf1.size; omega)
  exact h w3 fr (hG.keep fr)

theorem Leads_loop {W1 : World} {G : Gr} {b i : Nat} {nv rv : Value} {j : Int} (hG : IsG W1 nv rv G) (hb : GBlk W1 b 52 nv rv) (hi : i < G.n) (h : ∀ w', Fr [] W1 w' → K (.bool (decide (j ∈ G.row i))) w') :
    ∀ (d k : Nat) (w : World), (G.row i).length = k + d → Fr [] W1 w → j ∉ (G.row i).take k → F39.l2 K (.int .i64 (i : Int)) (.int .i64 j) (.pointer (some ⟨b, 0, none⟩)) (.int .i64 (k : Int)) w := by
  have hrl := row_len hG i
  intro d
  induction d with
  | zero =>
    intro k w hk hf hn
    refine F39.l2.to ((hb.keep hf (by simp)).row (hG.keep hf) hi fun r hr => C.len_rd hr ?_)
    simp only [C.ite_true, C.ite_false, C.pick_true, C.pick_false, C.not_bool, C.field_ptr, C.nilCheck_ptr, C.add_mk, C.sub_mk, C.mul_mk, C.eql_mk, C.neq_mk, C.lss_mk, C.leq_mk, C.gtr_mk, C.geq_mk, C.conv_mk, C.len_mk, C.ext_0, C.ext_1, C.ext3_0, C.ext3_1, C.ext3_2, C.guarded_yes, C.guarded_tf, C.guarded_ft, C.guarded_undef, Bool.not_true, Bool.not_false, Nat.zero_add, eq_self, decide_true, decide_false, intC_len, show ¬ ((k : Int) < ((G.row i).length : Int)) by omega]
    refine F39.k6.to ?_
    rw [List.take_of_length_le (by omega)] at hn
    have := h w hf
    rw [decide_eq_false hn] at this
    exact this
  | succ d ih =>
    intro k w hk hf hn
    have hkl : k < (G.row i).length := by omega
    refine F39.l2.to ((hb.keep hf (by simp)).row (hG.keep hf) hi fun r hr => C.len_rd hr ?_)
    simp only [C.ite_true, C.ite_false, C.pick_true, C.pick_false, C.not_bool, C.field_ptr, C.nilCheck_ptr, C.add_mk, C.sub_mk, C.mul_mk, C.eql_mk, C.neq_mk, C.lss_mk, C.leq_mk, C.gtr_mk, C.geq_mk, C.conv_mk, C.len_mk, C.ext_0, C.ext_1, C.ext3_0, C.ext3_1, C.ext3_2, C.guarded_yes, C.guarded_tf, C.guarded_ft, C.guarded_undef, Bool.not_true, Bool.not_false, Nat.zero_add, eq_self, decide_true, decide_false, intC_len, show ((k : Int) < ((G.row i).length : Int)) by omega]
    refine F39.k4.to ((hb.keep hf (by simp)).row (hG.keep hf) hi fun r hr => C.idx_int hr hkl fun g o cs e fz hg hc => C.load1_of hg hc ?_)
    by_cases he : (G.row i)[k] = j
    · simp only [C.ite_true, C.ite_false, C.pick_true, C.pick_false, C.not_bool, C.field_ptr, C.nilCheck_ptr, C.add_mk, C.sub_mk, C.mul_mk, C.eql_mk, C.neq_mk, C.lss_mk, C.leq_mk, C.gtr_mk, C.geq_mk, C.conv_mk, C.len_mk, C.ext_0, C.ext_1, C.ext3_0, C.ext3_1, C.ext3_2, C.guarded_yes, C.guarded_tf, C.guarded_ft, C.guarded_undef, Bool.not_true, Bool.not_false, Nat.zero_add, eq_self, decide_true, decide_false, he]
      have := h w hf
      rw [decide_eq_true (by rw [← he]; exact List.getElem_mem _)] at this
      exact this
    · simp only [C.ite_true, C.ite_false, C.pick_true, C.pick_false, C.not_bool, C.field_ptr, C.nilCheck_ptr, C.add_mk, C.sub_mk, C.mul_mk, C.eql_mk, C.neq_mk, C.lss_mk, C.leq_mk, C.gtr_mk, C.geq_mk, C.conv_mk, C.len_mk, C.ext_0, C.ext_1, C.ext3_0, C.ext3_1, C.ext3_2, C.guarded_yes, C.guarded_tf, C.guarded_ft, C.guarded_undef, Bool.not_true, Bool.not_false, Nat.zero_add, eq_self, decide_true, decide_false, he]
      refine F39.k3.to ?_
      simp only [C.ite_true, C.ite_false, C.pick_true, C.pick_false, C.not_bool, C.field_ptr, C.nilCheck_ptr, C.add_mk, C.sub_mk, C.mul_mk, C.eql_mk, C.neq_mk, C.lss_mk, C.leq_mk, C.gtr_mk, C.geq_mk, C.conv_mk, C.len_mk, C.ext_0, C.ext_1, C.ext3_0, C.ext3_1, C.ext3_2, C.guarded_yes, C.guarded_tf, C.guarded_ft, C.guarded_undef, Bool.not_true, Bool.not_false, Nat.zero_add, eq_self, decide_true, decide_false]
      rw [wrap64_id (n := (k : Int) + 1) (by omega), show (k : Int) + 1 = ((k + 1 : Nat) : Int) by omega]
      refine ih (k + 1) w (by omega) hf ?_
      rw [List.take_succ_eq_append_getElem hkl, List.mem_append, List.mem_singleton]
      rintro (c | c)
      · exact hn c
      · exact he c.symm
theorem Leads_c {G : Gr} {i : Nat} {nv rv : Value} {j : Int} (hG : IsG w nv rv G) (hi : i < G.n) (h : ∀ w', Fr [] w w' → K (.bool (decide (j ∈ G.row i))) w') : C.call Try.prog 39 #[.agg #[nv, rv], .int .i64 (i : Int), .int .i64 j] w K := by
  refine F39.sh (GBlk.new hG fun b w1 hf1 hb1 hb hG1 => ?_)
  exact Leads_loop hG1 hb hi (fun w' hf => h w' (hf1.trans hf)) (G.row i).length 0 w1 (by omega) (Fr.refl _ _) (by simp)
/-! ### Back -/
def Gr.bk (G : Gr) (i t j : Nat) : List Nat := ((List.range i).filter fun a => G.edge a j) ++ if (j : Int) ∈ (G.row i).take t then [i] else []
def Gr.bkL (G : Gr) (j : Nat) : List Nat := (List.range G.n).filter fun a => G.edge a j
structure BK (W1 w : World) (ov : Value) (vs : List Value) (L : List (List Int)) : Prop where
  fr : Fr [] W1 w
  ho : OwnS w ov 44 1 (slC vs)
  no : NewS W1 ov
  len : vs.length = L.length
  rows : ∀ k (h : k < vs.length) (h' : k < L.length), OwnS w vs[k] 3 1 (intC L[k]) ∧ NewS W1 vs[k] ∧ ∀ g ∈ blkS vs[k], g ∉ blkS ov
  apart : ∀ k m (h : k < vs.length) (h' : m < vs.length), k ≠ m → ∀ g ∈ blkS vs[k], g ∉ blkS vs[m]
theorem BK.keep {W1 w w' : World} {ov : Value} {vs : List Value} {L : List (List Int)} (h : BK W1 w ov vs L) (hf : Fr [] w w') : BK W1 w' ov vs L :=
  ⟨h.fr.trans hf, h.ho.keep hf (by simp), h.no, h.len, fun k a b => ⟨(h.rows k a b).1.keep hf (by simp), (h.rows k a b).2⟩, h.apart⟩
/-- out[k] = append(out[k], n) -/
theorem BK.add {W1 : World} {ov : Value} {vs : List Value} {L : List (List Int)} {k : Nat} {n : Int} {F : World → Prop} (h : BK W1 w ov vs L) (hk : k < vs.length) (hk' : k < L.length) (hl : L[k].length ≤ 1000) (hF : ∀ vs' w', BK W1 w' ov vs' (L.set k (L[k] ++ [n])) → F w') :
    C.idx 1 ov (.int .i64 (k : Int)) w fun x42 w13 => C.load1 x42 w13 fun x43 w14 => C.run Try.prog (Instr.buildSlice 44 1 #[(0, .int .i64 n)]) w14 fun x45 w15 => C.run Try.prog (Builtin.append_ #[44, 44] 44 #[x43, x45]) w15 fun x46 w16 =>
      C.idx 1 ov (.int .i64 (k : Int)) w16 fun x47 w17 => C.store 1 x47 x46 w17 F := by
  obtain ⟨r1, r2, r3⟩ := h.rows k hk hk'
  refine C.idx_sl h.ho.rd hk fun g o cs e fz hg hc => C.load1_of hg hc (C.appInt' r1 (by omega) fun v' w1 hf1 hb1 ho1 => ?_)
  have hov := h.ho.keep' hf1 fun g hg c => r3 g c hg
  have nb : ∀ g ∈ blkS v', g ∈ blkS vs[k] ∨ w.heap.size ≤ g := fun g hg => by
    rw [mem_blkS] at hg
    rcases hb1 with c | ⟨g', c, d⟩
    · exact .inl (mem_blkS.2 (by rw [← c]; exact hg))
    · rw [hg] at c
      simp only [Option.some.injEq] at c
      exact .inr (by omega)
  have lo := h.ho.mem_lt
  have hd : ∀ g ∈ blkS v', g ∉ blkS ov := fun g hg c => by
    rcases nb g hg with d | d
    · exact r3 g d c
    · have := lo g c; omega
  have ho1' := ho1.one
  refine C.storeAt_own hov (by omega) (by rw [slC_len]; omega) (by rw [ho1'.2]; rfl) (by rw [ho1'.2]; intro u hu; simp at hu; subst hu; exact ho1'.1) fun w2 ho2 hf2 _ => hF (vs.set k v') w2 ?_
  rw [Int.toNat_natCast, ho1'.2] at ho2
  have ho2' : OwnS w2 ov 44 1 (slC (vs.set k v')) := by rw [← slC_set]; exact ho2
  have f1 : Fr [] W1 w1 := h.fr.then hf1 fun g hg => .inr (r2.blk g hg)
  refine ⟨f1.then hf2 fun g hg => .inr (h.no.blk g hg), ho2', h.no, by simp [h.len], fun m a b => ?_, fun m p a b hmp g hg => ?_⟩
  · simp only [List.length_set] at a b
    rw [List.getElem_set, List.getElem_set]
    by_cases c : k = m
    · rw [if_pos c, if_pos c]
      exact ⟨ho1.keep' hf2 hd, fun g hg => by
        rcases nb g (mem_blkS.2 hg) with d | d
        · exact r2.blk g d
        · have := h.fr.size; omega, hd⟩
    · rw [if_neg c, if_neg c]
      obtain ⟨q1, q2, q3⟩ := h.rows m a b
      exact ⟨(q1.keep' hf1 fun g hg => h.apart m k a hk (fun e => c e.symm) g hg).keep' hf2 q3, q2, q3⟩
  · simp only [List.length_set] at a b
    rw [List.getElem_set] at hg ⊢
    by_cases cm : k = m
    · rw [if_pos cm] at hg
      rw [if_neg (fun e : k = p => hmp (by omega))]
      intro c
      rcases nb g hg with d | d
      · exact h.apart k p hk b (by omega) g d c
      · have := (h.rows p b (by rw [← h.len]; exact b)).1.mem_lt g c; omega
    · rw [if_neg cm] at hg
      by_cases cp : k = p
      · rw [if_pos cp]
        intro c
        rcases nb g c with d | d
        · exact h.apart m k a hk (fun e => cm e.symm) g hg d
        · have := (h.rows m a (by rw [← h.len]; exact a)).1.mem_lt g hg; omega
      · rw [if_neg cp]
        exact h.apart m p a b hmp g hg
theorem bk_mem {G : Gr} {i t j : Nat} : (i : Int) ∈ natC (G.bk i t j) ↔ (j : Int) ∈ (G.row i).take t := by
  rw [natC_mem]
  unfold Gr.bk
  constructor
  · rintro ⟨r, hr, e⟩
    obtain rfl : i = r := by omega
    rcases List.mem_append.1 hr with c | c
    · have := List.mem_range.1 (List.mem_filter.1 c).1; omega
    · split at c
      · assumption
      · simp at c
  · intro h
    exact ⟨i, List.mem_append_right _ (by rw [if_pos h]; simp), rfl⟩
theorem bk_len (G : Gr) (i t j : Nat) : (G.bk i t j).length ≤ i + 1 := by
  unfold Gr.bk
  have := List.length_filter_le (fun a => G.edge a j) (List.range i)
  rw [List.length_range] at this
  rw [List.length_append]
  split <;> simp <;> omega
theorem bk_row {G : Gr} {i j : Nat} : G.bk i (G.row i).length j = G.bk (i + 1) 0 j := by
  unfold Gr.bk
  rw [filter_range_succ, List.take_zero, List.take_of_length_le (Nat.le_refl _)]
  have : G.edge i j = true ↔ (j : Int) ∈ G.row i := by simp [Gr.edge]
  by_cases c : (j : Int) ∈ G.row i
  · rw [if_pos c, if_pos (this.2 c)]; simp
  · rw [if_neg c, if_neg (fun e => c (this.1 e))]; simp
theorem back_row {W1 : World} {G : Gr} {b i : Nat} {nv rv ov rw_ : Value} {y13 y14 : Value} (hG : IsG W1 nv rv G) (hb : GBlk W1 b 46 nv rv) (hi : i < G.n) (hr : ∀ w', Fr [] W1 w' → RdS w' rw_ 1 (intC (G.row i)))
    (h : ∀ vs w, BK W1 w ov vs (tab G.n fun j => natC (G.bk (i + 1) 0 j)) → F68.k11 K (.pointer (some ⟨b, 0, none⟩)) ov y13 y14 (.int .i64 (i : Int)) w) :
    ∀ (d t : Nat) (vs : List Value) (w : World), (G.row i).length = t + d → BK W1 w ov vs (tab G.n fun j => natC (G.bk i t j)) →
      F68.l6 K (.pointer (some ⟨b, 0, none⟩)) ov (.int .i64 (i : Int)) y13 y14 (.int .i64 (i : Int)) rw_ (.int .i64 ((G.row i).length : Int)) (.int .i64 (t : Int)) w := by
  have hrl := row_len hG i
  have hfew := hG.few
  intro d
  induction d with
  | zero =>
    intro t vs w ht hB
    refine F68.l6.to ?_
    simp only [C.ite_true, C.ite_false, C.pick_true, C.pick_false, C.not_bool, C.field_ptr, C.nilCheck_ptr, C.add_mk, C.sub_mk, C.mul_mk, C.eql_mk, C.neq_mk, C.lss_mk, C.leq_mk, C.gtr_mk, C.geq_mk, C.conv_mk, C.len_mk, C.ext_0, C.ext_1, C.ext3_0, C.ext3_1, C.ext3_2, C.guarded_yes, C.guarded_tf, C.guarded_ft, C.guarded_undef, Bool.not_true, Bool.not_false, Nat.zero_add, eq_self, decide_true, decide_false, show ¬ ((t : Int) < ((G.row i).length : Int)) by omega]
    refine h vs w ?_
    obtain rfl : t = (G.row i).length := by omega
    simp only [bk_row] at hB
    exact hB
  | succ d ih =>
    intro t vs w ht hB
    have htl : t < (G.row i).length := by omega
    refine F68.l6.to ?_
    simp only [C.ite_true, C.ite_false, C.pick_true, C.pick_false, C.not_bool, C.field_ptr, C.nilCheck_ptr, C.add_mk, C.sub_mk, C.mul_mk, C.eql_mk, C.neq_mk, C.lss_mk, C.leq_mk, C.gtr_mk, C.geq_mk, C.conv_mk, C.len_mk, C.ext_0, C.ext_1, C.ext3_0, C.ext3_1, C.ext3_2, C.guarded_yes, C.guarded_tf, C.guarded_ft, C.guarded_undef, Bool.not_true, Bool.not_false, Nat.zero_add, eq_self, decide_true, decide_false, show ((t : Int) < ((G.row i).length : Int)) by omega]
    have nx : ∀ vs' w', BK W1 w' ov vs' (tab G.n fun j => natC (G.bk i (t + 1) j)) → F68.k10 K (.pointer (some ⟨b, 0, none⟩)) ov (.int .i64 (i : Int)) y13 y14 (.int .i64 (i : Int)) rw_ (.int .i64 ((G.row i).length : Int)) (.int .i64 (t : Int)) w' := by
      intro vs' w' a
      refine F68.k10.to ?_
      simp only [C.ite_true, C.ite_false, C.pick_true, C.pick_false, C.not_bool, C.field_ptr, C.nilCheck_ptr, C.add_mk, C.sub_mk, C.mul_mk, C.eql_mk, C.neq_mk, C.lss_mk, C.leq_mk, C.gtr_mk, C.geq_mk, C.conv_mk, C.len_mk, C.ext_0, C.ext_1, C.ext3_0, C.ext3_1, C.ext3_2, C.guarded_yes, C.guarded_tf, C.guarded_ft, C.guarded_undef, Bool.not_true, Bool.not_false, Nat.zero_add, eq_self, decide_true, decide_false]
      rw [wrap64_id (n := (t : Int) + 1) (by omega), show (t : Int) + 1 = ((t + 1 : Nat) : Int) by omega]
      exact ih (t + 1) vs' w' (by omega) a
    have same : ∀ j : Nat, ((j : Int) ∈ (G.row i).take (t + 1) ↔ (j : Int) ∈ (G.row i).take t) → G.bk i (t + 1) j = G.bk i t j := fun j hj => by
      unfold Gr.bk
      by_cases c : (j : Int) ∈ (G.row i).take t
      · rw [if_pos c, if_pos (hj.2 c)]
      · rw [if_neg c, if_neg (fun e => c (hj.1 e))]
    have hsucc : ∀ j : Nat, (j : Int) ∈ (G.row i).take (t + 1) ↔ (j : Int) ∈ (G.row i).take t ∨ (j : Int) = (G.row i)[t] := fun j => by
      rw [List.take_succ_eq_append_getElem htl, List.mem_append, List.mem_singleton]
    refine F68.k7.to (C.idx_int (hr w hB.fr) htl fun g o cs e fz hg hc => C.load1_of hg hc ((hb.keep hB.fr (by simp)).all (is_c (hG.keep hB.fr) fun w1 hf1 => ?_)))
    have hB1 := hB.keep hf1
    by_cases hn : 0 ≤ (G.row i)[t] ∧ (G.row i)[t] < (G.n : Int)
    · obtain ⟨r, hr'⟩ : ∃ r : Nat, (G.row i)[t] = (r : Int) := ⟨(G.row i)[t].toNat, by omega⟩
      have hrn : r < G.n := by omega
      have hrv : r < vs.length := by rw [hB.len, tab_len]; exact hrn
      have hrL : r < (tab G.n fun j => natC (G.bk i t j)).length := by rw [tab_len]; exact hrn
      rw [decide_eq_true hn]
      simp only [C.ite_true, C.ite_false, C.pick_true, C.pick_false, C.not_bool, C.field_ptr, C.nilCheck_ptr, C.add_mk, C.sub_mk, C.mul_mk, C.eql_mk, C.neq_mk, C.lss_mk, C.leq_mk, C.gtr_mk, C.geq_mk, C.conv_mk, C.len_mk, C.ext_0, C.ext_1, C.ext3_0, C.ext3_1, C.ext3_2, C.guarded_yes, C.guarded_tf, C.guarded_ft, C.guarded_undef, Bool.not_true, Bool.not_false, Nat.zero_add, eq_self, decide_true, decide_false, hr']
      obtain ⟨q1, _, _⟩ := hB1.rows r hrv hrL
      rw [tab_get] at q1
      refine C.idx_sl hB1.ho.rd hrv fun g o cs e fz hg hc => C.load1_of hg hc (Contains_c q1.rd ?_)
      by_cases hm : (r : Int) ∈ (G.row i).take t
      · rw [decide_eq_true (bk_mem.2 hm)]
        simp only [C.ite_true, C.ite_false, C.pick_true, C.pick_false, C.not_bool, C.field_ptr, C.nilCheck_ptr, C.add_mk, C.sub_mk, C.mul_mk, C.eql_mk, C.neq_mk, C.lss_mk, C.leq_mk, C.gtr_mk, C.geq_mk, C.conv_mk, C.len_mk, C.ext_0, C.ext_1, C.ext3_0, C.ext3_1, C.ext3_2, C.guarded_yes, C.guarded_tf, C.guarded_ft, C.guarded_undef, Bool.not_true, Bool.not_false, Nat.zero_add, eq_self, decide_true, decide_false]
        refine nx vs w1 ?_
        rw [tab_congr (g := fun j => natC (G.bk i t j)) fun j hj => by rw [same j (by rw [hsucc, hr']; constructor; rintro (c | c); exact c; rw [c]; exact hm; exact .inl)]]
        exact hB1
      · rw [decide_eq_false (fun e => hm (bk_mem.1 e))]
        simp only [C.ite_true, C.ite_false, C.pick_true, C.pick_false, C.not_bool, C.field_ptr, C.nilCheck_ptr, C.add_mk, C.sub_mk, C.mul_mk, C.eql_mk, C.neq_mk, C.lss_mk, C.leq_mk, C.gtr_mk, C.geq_mk, C.conv_mk, C.len_mk, C.ext_0, C.ext_1, C.ext3_0, C.ext3_1, C.ext3_2, C.guarded_yes, C.guarded_tf, C.guarded_ft, C.guarded_undef, Bool.not_true, Bool.not_false, Nat.zero_add, eq_self, decide_true, decide_false]
        have hlr : (tab G.n fun j => natC (G.bk i t j))[r].length ≤ 1000 := by
          rw [tab_get, natC_len]
          have := bk_len G i t r
          omega
        refine hB1.add hrv hrL hlr fun vs' w2 hB2 => nx vs' w2 ?_
        rw [tab_set, tab_get] at hB2
        rw [tab_congr (g := upd (fun j => natC (G.bk i t j)) r (natC (G.bk i t r) ++ [(i : Int)])) fun j hj => ?_]
        · exact hB2
        · rw [upd_ap]
          by_cases c : j = r
          · rw [if_pos c]
            subst c
            unfold Gr.bk
            rw [if_pos ((hsucc j).2 (.inr hr'.symm)), if_neg hm, List.append_nil, natC_app]
          · rw [if_neg c, same j (by rw [hsucc, hr']; constructor; rintro (c' | c'); exact c'; omega; exact .inl)]
    · rw [decide_eq_false hn]
      simp only [C.ite_true, C.ite_false, C.pick_true, C.pick_false, C.not_bool, C.field_ptr, C.nilCheck_ptr, C.add_mk, C.sub_mk, C.mul_mk, C.eql_mk, C.neq_mk, C.lss_mk, C.leq_mk, C.gtr_mk, C.geq_mk, C.conv_mk, C.len_mk, C.ext_0, C.ext_1, C.ext3_0, C.ext3_1, C.ext3_2, C.guarded_yes, C.guarded_tf, C.guarded_ft, C.guarded_undef, Bool.not_true, Bool.not_false, Nat.zero_add, eq_self, decide_true, decide_false]
      refine nx vs w1 ?_
      rw [tab_congr (g := fun j => natC (G.bk i t j)) fun j hj => by rw [same j (by rw [hsucc]; constructor; rintro (c | c); exact c; omega; exact .inl)]]
      exact hB1
theorem back_loop {W1 : World} {G : Gr} {b : Nat} {nv rv ov : Value} (hG : IsG W1 nv rv G) (hb : GBlk W1 b 46 nv rv)
    (h : ∀ vs w, BK W1 w ov vs (tab G.n fun j => natC (G.bk G.n 0 j)) → K ov w) :
    ∀ (d i : Nat) (vs : List Value) (w : World), G.n = i + d → BK W1 w ov vs (tab G.n fun j => natC (G.bk i 0 j)) → F68.l3 K (.pointer (some ⟨b, 0, none⟩)) ov nv (.int .i64 (G.n : Int)) (.int .i64 (i : Int)) w := by
  have hfew := hG.few
  intro d
  induction d with
  | zero =>
    intro i vs w hi hB
    refine F68.l3.to ?_
    simp only [C.ite_true, C.ite_false, C.pick_true, C.pick_false, C.not_bool, C.field_ptr, C.nilCheck_ptr, C.add_mk, C.sub_mk, C.mul_mk, C.eql_mk, C.neq_mk, C.lss_mk, C.leq_mk, C.gtr_mk, C.geq_mk, C.conv_mk, C.len_mk, C.ext_0, C.ext_1, C.ext3_0, C.ext3_1, C.ext3_2, C.guarded_yes, C.guarded_tf, C.guarded_ft, C.guarded_undef, Bool.not_true, Bool.not_false, Nat.zero_add, eq_self, decide_true, decide_false, show ¬ ((i : Int) < (G.n : Int)) by omega]
    obtain rfl : i = G.n := by omega
    exact F68.k12.to (h vs w hB)
  | succ d ih =>
    intro i vs w hi hB
    have hin : i < G.n := by omega
    refine F68.l3.to ?_
    simp only [C.ite_true, C.ite_false, C.pick_true, C.pick_false, C.not_bool, C.field_ptr, C.nilCheck_ptr, C.add_mk, C.sub_mk, C.mul_mk, C.eql_mk, C.neq_mk, C.lss_mk, C.leq_mk, C.gtr_mk, C.geq_mk, C.conv_mk, C.len_mk, C.ext_0, C.ext_1, C.ext3_0, C.ext3_1, C.ext3_2, C.guarded_yes, C.guarded_tf, C.guarded_ft, C.guarded_undef, Bool.not_true, Bool.not_false, Nat.zero_add, eq_self, decide_true, decide_false, show ((i : Int) < (G.n : Int)) by omega]
    obtain ⟨ws, h1, h2, h3⟩ := hG.next
    have hi' : i < ws.length := by have : G.n = G.next.length := rfl; omega
    refine F68.k4.to (C.idx_sl (h1.keep hB.fr) hi' fun g o cs e fz hg hc => C.load1_of hg hc ?_)
    have hr : ∀ w', Fr [] W1 w' → RdS w' ws[i] 1 (intC (G.row i)) := fun w' hf => by
      rw [row_get hin]
      exact (h3 i hin hi').keep hf
    refine C.len_rd (hr w hB.fr) ?_
    rw [intC_len]
    refine back_row hG hb hin hr (fun vs' w' hB' => F68.k11.to ?_) (G.row i).length 0 vs w (by omega) hB
    simp only [C.ite_true, C.ite_false, C.pick_true, C.pick_false, C.not_bool, C.field_ptr, C.nilCheck_ptr, C.add_mk, C.sub_mk, C.mul_mk, C.eql_mk, C.neq_mk, C.lss_mk, C.leq_mk, C.gtr_mk, C.geq_mk, C.conv_mk, C.len_mk, C.ext_0, C.ext_1, C.ext3_0, C.ext3_1, C.ext3_2, C.guarded_yes, C.guarded_tf, C.guarded_ft, C.guarded_undef, Bool.not_true, Bool.not_false, Nat.zero_add, eq_self, decide_true, decide_false]
    rw [wrap64_id (n := (i : Int) + 1) (by omega), show (i : Int) + 1 = ((i + 1 : Nat) : Int) by omega]
    exact ih (i + 1) vs' w' (by omega) hB'
theorem Back_c {nv rv : Value} {G : Gr} (hG : IsG w nv rv G) (h : ∀ v w', Fr [] w w' → RowsAt w' v (tab G.n fun j => natC (G.bkL j)) → (∃ A c, v = .slice A G.n c) → K v w') : C.call Try.prog 68 #[.agg #[nv, rv]] w K := by
  have hfew := hG.few
  refine F68.sh (GBlk.new hG fun b w1 hf1 hb1 hb hG1 => hb.next (hG1.len_next ?_))
  refine C.make_of (e := 44) (sz := 1) (bytes := 24) (z := .slice none 0 0) G.n Try.underlying43 (by kernel_rfl) rfl (by decide) (by intro u hu; simp [Value.cells] at hu; subst hu; rfl) (by omega) (by omega) fun ga w2 hw2 ha2 => ?_
  refine GBlk.next (hb.keep hw2.fr (by simp)) ((hG1.keep hw2.fr).len_next ?_)
  have e2 := hw2.is
  have hB : BK w1 w2 (.slice (some ⟨ga, 0, none⟩) G.n G.n) (List.replicate G.n (.slice none 0 0)) (tab G.n fun j => natC (G.bk 0 0 j)) := by
    refine ⟨hw2.fr, ?_, fun g hg => ?_, by rw [tab_len]; simp, fun k a b => ?_, fun k m a b _ g hg => ?_⟩
    · have e : slC (List.replicate G.n (.slice none 0 0)) = List.replicate G.n [.slice none 0 0] := by simp [slC]
      rw [e]
      exact ha2
    · simp only [Value.ownBlock, Option.some.injEq] at hg
      omega
    · rw [tab_get]
      simp only [List.getElem_replicate]
      have : G.bk 0 0 k = [] := by simp [Gr.bk]
      rw [this]
      exact ⟨OwnS.nil _ _ _, NewS.nil _, fun g hg => by simp [blkS, Value.ownBlock] at hg⟩
    · simp only [List.getElem_replicate] at hg
      simp [blkS, Value.ownBlock] at hg
  refine back_loop hG1 hb (fun vs w3 hB3 => h _ w3 (hf1.trans hB3.fr) ⟨vs, hB3.ho.rd, by rw [hB3.len, tab_len, tab_len], fun i a b' => ?_⟩ ⟨_, _, rfl⟩) G.n 0 _ w2 (by omega) hB
  have := (hB3.rows i b' (by rw [tab_len] at a ⊢; exact a)).1.rd
  rw [tab_get] at this ⊢
  have e : G.bk G.n 0 i = G.bkL i := by simp [Gr.bk, Gr.bkL]
  rw [← e]
  exact this
end
end Go.Proofs.YtfhgjncbhjjbfaaV
