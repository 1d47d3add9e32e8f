/- Edges turned, by the program: Back. -/
import Derived.Test.YtchonfdnghimdaaGm2
namespace Go.Proofs.YtchonfdnghimdaaV
open Go Go.Proofs Go.RowKit
set_option linter.unusedVariables false
set_option linter.unusedSimpArgs false
set_option maxRecDepth 10000
/-- Rows of one's own, each apart. -/
structure OR (W0 w : World) (av : Value) (vs : List Value) (L : List (List Int)) : Prop where
  fr : Fr [] W0 w
  len : vs.length = L.length
  sp : OwnS w av 23 1 (slC vs)
  new : NewS W0 av
  row : ∀ i (h : i < L.length) (h' : i < vs.length), OwnS w vs[i] 3 1 (intC L[i]) ∧ NewS W0 vs[i]
  dis : ∀ i j (h : i < vs.length) (h' : j < vs.length), i ≠ j → ∀ g ∈ blkS vs[i], g ∉ blkS vs[j]
theorem OR.keep {W0 w w' : World} {av : Value} {vs : List Value} {L : List (List Int)} (h : OR W0 w av vs L) (hf : Fr [] w w') : OR W0 w' av vs L :=
  ⟨h.fr.trans hf, h.len, h.sp.keep hf (by simp), h.new, fun i a b => ⟨(h.row i a b).1.keep hf (by simp), (h.row i a b).2⟩, h.dis⟩
theorem OR.rd {W0 w : World} {av : Value} {vs : List Value} {L : List (List Int)} (h : OR W0 w av vs L) : RowsAt w av L := ⟨vs, h.sp.rd, h.len, fun i a b => (h.row i a b).1.rd⟩
section
variable {K : VK} {w : World}
theorem OR.get {W0 : World} {av : Value} {vs : List Value} {L : List (List Int)} {k : Nat} (h : OR W0 w av vs L) (hk : k < vs.length) (hK : K vs[k] w) : C.idx 1 av (.int .i64 (k : Int)) w fun p w1 => C.load1 p w1 K :=
  C.idx_rd h.sp.rd (by omega) (by rw [Int.toNat_natCast]; exact slC_get hk) fun g o cs e fz hg _ hc => C.load1_of hg (v := vs[k]) (by simpa using hc 0 (by omega)) hK
/-- One more in a row. -/
theorem OR.app {W0 : World} {av : Value} {vs : List Value} {L : List (List Int)} {k : Nat} {n : Int} {F : World → Prop} (h : OR W0 w av vs L) (hk : k < L.length) (hl : L[k].length ≤ 17592186044415)
    (hF : ∀ vs' w', OR W0 w' av vs' (L.set k (L[k] ++ [n])) → F w') :
    C.idx 1 av (.int .i64 (k : Int)) w fun p w1 => C.load1 p w1 fun x w2 => C.run Try.prog (Instr.buildSlice 23 1 #[(0, .int .i64 n)]) w2 fun y w3 => C.run Try.prog (Builtin.append_ #[23, 23] 23 #[x, y]) w3 fun z w4 => C.idx 1 av (.int .i64 (k : Int)) w4 fun q w5 => C.store 1 q z w5 F := by
  have hkv : k < vs.length := by rw [h.len]; exact hk
  obtain ⟨hr, hn⟩ := h.row k hk hkv
  refine h.get hkv (C.appI h.fr hn hr hl fun z w1 hf1 hn1 ho1 hb1 hg1 => ?_)
  have off : ∀ g ∈ blkS av, g ∉ blkS vs[k] := h.sp.ne hr (by decide)
  have sp1 := h.sp.keep' hb1 off
  refine C.storeAt_own sp1 (by omega) (by rw [slC_len, Int.toNat_natCast]; exact hkv) (by rw [ho1.one.2]; rfl) (by rw [ho1.one.2]; intro u hu; simp at hu; subst hu; exact ho1.one.1) fun w2 sp2 hf2 _ => hF (vs.set k z) w2 ?_
  rw [Int.toNat_natCast, ho1.one.2, show (#[z] : Array Value).toList = [z] from rfl, slC_set] at sp2
  refine ⟨hf1.then hf2 fun x hx => .inr (h.new x (mem_blkS.1 hx)), by simp [h.len], sp2, h.new, fun i a b => ?_, fun i j a b hij g hg => ?_⟩
  · simp only [List.length_set] at a b
    have zav : ∀ g ∈ blkS z, g ∉ blkS av := fun g hg c => (sp1.ne ho1 (by decide)) g c hg
    by_cases e : i = k
    · subst e
      rw [List.getElem_set_self, List.getElem_set_self]
      exact ⟨ho1.keep' hf2 zav, hn1⟩
    · rw [List.getElem_set_ne (Ne.symm e), List.getElem_set_ne (Ne.symm e)]
      obtain ⟨p, q⟩ := h.row i a b
      have p1 := p.keep' hb1 (h.dis i k b hkv e)
      exact ⟨p1.keep' hf2 fun g hg c => (sp1.ne p1 (by decide)) g c hg, q⟩
  · have a' : i < vs.length := by simpa using a
    have b' : j < vs.length := by simpa using b
    have old : ∀ i (hi : i < vs.length), ∀ g ∈ blkS vs[i], g < w.heap.size := fun i hi g hg => (h.row i (by rw [← h.len]; exact hi) hi).1.mem_lt g hg
    by_cases e1 : i = k
    · subst e1
      rw [List.getElem_set_self] at hg
      rw [List.getElem_set_ne hij]
      rcases hg1 g hg with c | c
      · exact h.dis i j a' b' hij g c
      · exact fun d => by have := old j b' g d; omega
    · rw [List.getElem_set_ne (Ne.symm e1)] at hg
      by_cases e2 : j = k
      · subst e2
        rw [List.getElem_set_self]
        intro d
        rcases hg1 g d with c | c
        · exact h.dis i j a' b' hij g hg c
        · have := old i a' g hg; omega
      · rw [List.getElem_set_ne (Ne.symm e2)]
        exact h.dis i j a' b' hij g hg
/-! ### Back -/
/-- Which edges were turned. -/
structure BK (G : Gr) (i e : Nat) (L : List (List Int)) : Prop where
  len : L.length = G.n
  mem : ∀ k (h : k < L.length) (a : Int), a ∈ L[k] ↔ ∃ x : Nat, a = (x : Int) ∧ x < G.n ∧ ((x < i ∧ G.edge x k = true) ∨ (x = i ∧ (k : Int) ∈ (G.row i).take e))
  nd : ∀ r ∈ L, r.Nodup
theorem BK.few {G : Gr} {i e : Nat} {L : List (List Int)} (h : BK G i e L) {k : Nat} (hk : k < L.length) : L[k].length ≤ G.n := by
  have hnd := h.nd _ (List.getElem_mem hk)
  have : (L[k].map Int.toNat).Nodup := by
    rw [List.nodup_iff_pairwise_ne, List.pairwise_map]
    refine List.Pairwise.imp_of_mem (fun {a b} ha hb hne => ?_) (List.nodup_iff_pairwise_ne.1 hnd)
    obtain ⟨x, rfl, _⟩ := (h.mem k hk a).1 ha
    obtain ⟨y, rfl, _⟩ := (h.mem k hk b).1 hb
    simp only [Int.toNat_natCast]
    omega
  have := nodup_lt_length G.n _ this fun x hx => by
    obtain ⟨a, ha, rfl⟩ := List.mem_map.1 hx
    obtain ⟨y, rfl, hy, _⟩ := (h.mem k hk a).1 ha
    simpa using hy
  simpa using this
theorem BK.next {G : Gr} {i : Nat} {L : List (List Int)} (hi : i < G.n) (h : BK G i (G.row i).length L) : BK G (i + 1) 0 L :=
  ⟨h.len, fun k hk a => by
    rw [h.mem k hk a]
    constructor
    · rintro ⟨x, rfl, hx, ⟨c, d⟩ | ⟨rfl, d⟩⟩
      · exact ⟨x, rfl, hx, .inl ⟨by omega, d⟩⟩
      · refine ⟨x, rfl, hx, .inl ⟨by omega, ?_⟩⟩
        rw [List.take_length, row_get hi] at d
        exact (edge_row hi).2 d
    · rintro ⟨x, rfl, hx, ⟨c, d⟩ | ⟨rfl, d⟩⟩
      · by_cases e : x = i
        · subst e
          refine ⟨x, rfl, hx, .inr ⟨rfl, ?_⟩⟩
          rw [List.take_length, row_get hi]
          exact (edge_row hi).1 d
        · exact ⟨x, rfl, hx, .inl ⟨by omega, d⟩⟩
      · simp at d, h.nd⟩
theorem BK.skip {G : Gr} {i e : Nat} {L : List (List Int)} (h : BK G i e L) (he : e < (G.row i).length) (hn : ∀ k (hk : k < L.length), (G.row i)[e] = (k : Int) → (i : Int) ∈ L[k]) : BK G i (e + 1) L :=
  ⟨h.len, fun k hk a => by
    rw [List.take_succ_eq_append_getElem he]
    constructor
    · intro ha
      obtain ⟨x, rfl, hx, c⟩ := (h.mem k hk a).1 ha
      refine ⟨x, rfl, hx, ?_⟩
      rcases c with c | ⟨rfl, d⟩
      · exact .inl c
      · exact .inr ⟨rfl, List.mem_append.2 (.inl d)⟩
    · rintro ⟨x, rfl, hx, c | ⟨rfl, d⟩⟩
      · exact (h.mem k hk _).2 ⟨x, rfl, hx, .inl c⟩
      · rcases List.mem_append.1 d with d | d
        · exact (h.mem k hk _).2 ⟨x, rfl, hx, .inr ⟨rfl, d⟩⟩
        · exact hn k hk (List.mem_singleton.1 d).symm, h.nd⟩
theorem BK.add {G : Gr} {i e k0 : Nat} {L : List (List Int)} (h : BK G i e L) (hi : i < G.n) (he : e < (G.row i).length) (hk0 : k0 < L.length) (hr : (G.row i)[e] = (k0 : Int)) (hn : (i : Int) ∉ L[k0]) : BK G i (e + 1) (L.set k0 (L[k0] ++ [(i : Int)])) :=
  ⟨by simp [h.len], fun k hk a => by
    have hk' : k < L.length := by simpa using hk
    rw [List.take_succ_eq_append_getElem he, hr, List.getElem_set]
    by_cases ek : k0 = k
    · subst ek
      rw [if_pos rfl, List.mem_append, List.mem_singleton]
      constructor
      · rintro (ha | rfl)
        · obtain ⟨x, rfl, hx, c⟩ := (h.mem k0 hk0 a).1 ha
          refine ⟨x, rfl, hx, ?_⟩
          rcases c with c | ⟨rfl, d⟩
          · exact .inl c
          · exact .inr ⟨rfl, List.mem_append.2 (.inl d)⟩
        · exact ⟨i, rfl, hi, .inr ⟨rfl, by simp⟩⟩
      · rintro ⟨x, rfl, hx, c | ⟨rfl, d⟩⟩
        · exact .inl ((h.mem k0 hk0 _).2 ⟨x, rfl, hx, .inl c⟩)
        · exact .inr rfl
    · rw [if_neg ek]
      constructor
      · intro ha
        obtain ⟨x, rfl, hx, c⟩ := (h.mem k hk' a).1 ha
        refine ⟨x, rfl, hx, ?_⟩
        rcases c with c | ⟨rfl, d⟩
        · exact .inl c
        · exact .inr ⟨rfl, List.mem_append.2 (.inl d)⟩
      · rintro ⟨x, rfl, hx, c | ⟨rfl, d⟩⟩
        · exact (h.mem k hk' _).2 ⟨x, rfl, hx, .inl c⟩
        · rcases List.mem_append.1 d with d | d
          · exact (h.mem k hk' _).2 ⟨x, rfl, hx, .inr ⟨rfl, d⟩⟩
          · have := List.mem_singleton.1 d; omega, fun r hr' => by
    rcases List.mem_or_eq_of_mem_set hr' with c | rfl
    · exact h.nd r c
    · rw [List.nodup_append]
      exact ⟨h.nd _ (List.getElem_mem hk0), by simp, fun a ha b hb => by simp at hb; subst hb; exact fun e => hn (e ▸ ha)⟩⟩
theorem BK.turned {G : Gr} {L : List (List Int)} {rt : List Int} (h : BK G G.n 0 L) : Turned G ⟨L, rt⟩ := by
  have key : ∀ i j, j < G.n → ((⟨L, rt⟩ : Gr).edge j i = true ↔ i < G.n ∧ G.edge i j = true) := fun i j hj => by
    have hj' : j < L.length := by rw [h.len]; exact hj
    have : (⟨L, rt⟩ : Gr).edge j i = true ↔ (i : Int) ∈ L[j] := edge_row (G := ⟨L, rt⟩) hj'
    rw [this, h.mem j hj']
    constructor
    · rintro ⟨x, e, hx, ⟨c, d⟩ | ⟨rfl, d⟩⟩
      · have : i = x := by omega
        subst this
        exact ⟨hx, d⟩
      · simp at d
    · rintro ⟨a, b⟩
      exact ⟨i, rfl, a, .inl ⟨a, b⟩⟩
  exact ⟨h.len, fun i j hi hj => ⟨fun c => ((key i j hj).1 c).2, fun c => (key i j hj).2 ⟨hi, c⟩⟩, fun i j hj c => ((key i j hj).1 c).1⟩
theorem back_row {W0 : World} {G : Gr} {nv rv av : Value} {b i : Nat} {y13 y14 rw_ : Value} (hG : IsG W0 nv rv G) (hb : GBlk W0 b 25 nv rv) (hi : i < G.n) (hrw : RdS W0 rw_ 1 (intC (G.row i)))
    (h : ∀ vs L w', OR W0 w' av vs L → BK G i (G.row i).length L → F24.k11 K (.pointer (some ⟨b, 0, none⟩)) av y13 y14 (.int .i64 (i : Int)) w') :
    ∀ (d e : Nat) (w : World) (vs : List Value) (L : List (List Int)), (G.row i).length = e + d → OR W0 w av vs L → BK G i e L →
      F24.l6 K (.pointer (some ⟨b, 0, none⟩)) av (.int .i64 (i : Int)) y13 y14 (.int .i64 (i : Int)) rw_ (.int .i64 ((G.row i).length : Int)) (.int .i64 (e : Int)) w := by
  have hle := row_len hG i
  have hfew := hG.few
  intro d
  induction d with
  | zero =>
    intro e w vs L he hR hB
    refine F24.l6.to ?_
    simp only [C.ite_true, C.ite_false, C.pick_true, C.pick_false, C.not_bool, C.field_ptr, C.nilCheck_ptr, C.add_mk, C.sub_mk, C.mul_mk, C.eql_mk, C.neq_mk, C.lss_mk, C.leq_mk, C.gtr_mk, C.geq_mk, C.conv_mk, C.len_mk, C.ext_0, C.ext_1, C.ext3_0, C.ext3_1, C.ext3_2, C.guarded_yes, C.guarded_tf, C.guarded_ft, C.guarded_undef, Bool.not_true, Bool.not_false, Nat.zero_add, eq_self, decide_true, decide_false, show ¬ ((e : Int) < ((G.row i).length : Int)) by omega]
    rw [show e = (G.row i).length by omega] at hB
    exact h vs L w hR hB
  | succ d ih =>
    intro e w vs L he hR hB
    have el : e < (G.row i).length := by omega
    refine F24.l6.to ?_
    simp only [C.ite_true, C.ite_false, C.pick_true, C.pick_false, C.not_bool, C.field_ptr, C.nilCheck_ptr, C.add_mk, C.sub_mk, C.mul_mk, C.eql_mk, C.neq_mk, C.lss_mk, C.leq_mk, C.gtr_mk, C.geq_mk, C.conv_mk, C.len_mk, C.ext_0, C.ext_1, C.ext3_0, C.ext3_1, C.ext3_2, C.guarded_yes, C.guarded_tf, C.guarded_ft, C.guarded_undef, Bool.not_true, Bool.not_false, Nat.zero_add, eq_self, decide_true, decide_false, show ((e : Int) < ((G.row i).length : Int)) by omega]
    have nx : ∀ vs' L' w', OR W0 w' av vs' L' → BK G i (e + 1) L' → F24.k10 K (.pointer (some ⟨b, 0, none⟩)) av (.int .i64 (i : Int)) y13 y14 (.int .i64 (i : Int)) rw_ (.int .i64 ((G.row i).length : Int)) (.int .i64 (e : Int)) w' := fun vs' L' w' a c => by
      refine F24.k10.to ?_
      simp only [C.ite_true, C.ite_false, C.pick_true, C.pick_false, C.not_bool, C.field_ptr, C.nilCheck_ptr, C.add_mk, C.sub_mk, C.mul_mk, C.eql_mk, C.neq_mk, C.lss_mk, C.leq_mk, C.gtr_mk, C.geq_mk, C.conv_mk, C.len_mk, C.ext_0, C.ext_1, C.ext3_0, C.ext3_1, C.ext3_2, C.guarded_yes, C.guarded_tf, C.guarded_ft, C.guarded_undef, Bool.not_true, Bool.not_false, Nat.zero_add, eq_self, decide_true, decide_false]
      rw [wrap64_id (n := (e : Int) + 1) (by omega), show (e : Int) + 1 = ((e + 1 : Nat) : Int) by omega]
      exact ih (e + 1) w' vs' L' (by omega) a c
    refine F24.k7.to (C.idx_int (hrw.keep hR.fr) el fun g o cs e1 fz hg hc => C.load1_of hg hc ((hb.keep hR.fr (by simp)).all (is_c (hG.keep hR.fr) fun w2 hf2 => ?_)))
    have R2 := hR.keep hf2
    by_cases hn2 : 0 ≤ (G.row i)[e] ∧ (G.row i)[e] < (G.n : Int)
    · rw [decide_eq_true hn2]
      obtain ⟨r, hr⟩ : ∃ r : Nat, (G.row i)[e] = (r : Int) := ⟨(G.row i)[e].toNat, by omega⟩
      have hrn : r < L.length := by rw [hB.len]; omega
      have hrv : r < vs.length := by rw [R2.len]; exact hrn
      rw [hr]
      simp only [C.ite_true, C.ite_false, C.pick_true, C.pick_false, C.not_bool, C.field_ptr, C.nilCheck_ptr, C.add_mk, C.sub_mk, C.mul_mk, C.eql_mk, C.neq_mk, C.lss_mk, C.leq_mk, C.gtr_mk, C.geq_mk, C.conv_mk, C.len_mk, C.ext_0, C.ext_1, C.ext3_0, C.ext3_1, C.ext3_2, C.guarded_yes, C.guarded_tf, C.guarded_ft, C.guarded_undef, Bool.not_true, Bool.not_false, Nat.zero_add, eq_self, decide_true, decide_false]
      refine R2.get hrv (Contains_c (R2.row r hrn hrv).1.rd ?_)
      by_cases hin : (i : Int) ∈ L[r]
      · rw [decide_eq_true hin]
        simp only [C.ite_true, C.ite_false, C.pick_true, C.pick_false, C.not_bool, C.field_ptr, C.nilCheck_ptr, C.add_mk, C.sub_mk, C.mul_mk, C.eql_mk, C.neq_mk, C.lss_mk, C.leq_mk, C.gtr_mk, C.geq_mk, C.conv_mk, C.len_mk, C.ext_0, C.ext_1, C.ext3_0, C.ext3_1, C.ext3_2, C.guarded_yes, C.guarded_tf, C.guarded_ft, C.guarded_undef, Bool.not_true, Bool.not_false, Nat.zero_add, eq_self, decide_true, decide_false]
        refine nx vs L w2 R2 (hB.skip el fun k hk hk2 => ?_)
        have : r = k := by omega
        subst this
        exact hin
      · rw [decide_eq_false hin]
        simp only [C.ite_true, C.ite_false, C.pick_true, C.pick_false, C.not_bool, C.field_ptr, C.nilCheck_ptr, C.add_mk, C.sub_mk, C.mul_mk, C.eql_mk, C.neq_mk, C.lss_mk, C.leq_mk, C.gtr_mk, C.geq_mk, C.conv_mk, C.len_mk, C.ext_0, C.ext_1, C.ext3_0, C.ext3_1, C.ext3_2, C.guarded_yes, C.guarded_tf, C.guarded_ft, C.guarded_undef, Bool.not_true, Bool.not_false, Nat.zero_add, eq_self, decide_true, decide_false]
        have := hB.few hrn
        exact R2.app hrn (by omega) fun vs' w3 R3 => nx vs' _ w3 R3 (hB.add hi el hrn hr hin)
    · rw [decide_eq_false hn2]
      simp only [C.ite_true, C.ite_false, C.pick_true, C.pick_false, C.not_bool, C.field_ptr, C.nilCheck_ptr, C.add_mk, C.sub_mk, C.mul_mk, C.eql_mk, C.neq_mk, C.lss_mk, C.leq_mk, C.gtr_mk, C.geq_mk, C.conv_mk, C.len_mk, C.ext_0, C.ext_1, C.ext3_0, C.ext3_1, C.ext3_2, C.guarded_yes, C.guarded_tf, C.guarded_ft, C.guarded_undef, Bool.not_true, Bool.not_false, Nat.zero_add, eq_self, decide_true, decide_false]
      refine nx vs L w2 R2 (hB.skip el fun k hk hk2 => absurd ⟨by omega, ?_⟩ hn2)
      rw [hk2]
      have := hB.len
      omega
theorem back_loop {W0 : World} {G : Gr} {nv rv av : Value} {b : Nat} (hG : IsG W0 nv rv G) (hb : GBlk W0 b 25 nv rv)
    (h : ∀ vs L w', OR W0 w' av vs L → BK G G.n 0 L → K av w') :
    ∀ (d i : Nat) (w : World) (vs : List Value) (L : List (List Int)), G.n = i + d → OR W0 w av vs L → BK G i 0 L →
      F24.l3 K (.pointer (some ⟨b, 0, none⟩)) av nv (.int .i64 (G.n : Int)) (.int .i64 (i : Int)) w := by
  have hfew := hG.few
  intro d
  induction d with
  | zero =>
    intro i w vs L hi hR hB
    refine F24.l3.to ?_
    simp only [C.ite_true, C.ite_false, C.pick_true, C.pick_false, C.not_bool, C.field_ptr, C.nilCheck_ptr, C.add_mk, C.sub_mk, C.mul_mk, C.eql_mk, C.neq_mk, C.lss_mk, C.leq_mk, C.gtr_mk, C.geq_mk, C.conv_mk, C.len_mk, C.ext_0, C.ext_1, C.ext3_0, C.ext3_1, C.ext3_2, C.guarded_yes, C.guarded_tf, C.guarded_ft, C.guarded_undef, Bool.not_true, Bool.not_false, Nat.zero_add, eq_self, decide_true, decide_false, show ¬ ((i : Int) < (G.n : Int)) by omega]
    rw [show i = G.n by omega] at hB
    exact F24.k12.to (h vs L w hR hB)
  | succ d ih =>
    intro i w vs L hi hR hB
    have il : i < G.n := by omega
    refine F24.l3.to ?_
    simp only [C.ite_true, C.ite_false, C.pick_true, C.pick_false, C.not_bool, C.field_ptr, C.nilCheck_ptr, C.add_mk, C.sub_mk, C.mul_mk, C.eql_mk, C.neq_mk, C.lss_mk, C.leq_mk, C.gtr_mk, C.geq_mk, C.conv_mk, C.len_mk, C.ext_0, C.ext_1, C.ext3_0, C.ext3_1, C.ext3_2, C.guarded_yes, C.guarded_tf, C.guarded_ft, C.guarded_undef, Bool.not_true, Bool.not_false, Nat.zero_add, eq_self, decide_true, decide_false, show ((i : Int) < (G.n : Int)) by omega]
    obtain ⟨ws, h1, h2, h3⟩ := hG.next
    have il' : i < ws.length := by rw [h2]; exact il
    have hrw := h3 i il il'
    rw [← row_get il] at hrw
    refine F24.k4.to (C.idx_rd (h1.keep hR.fr) (by omega) (by rw [Int.toNat_natCast]; exact slC_get il') fun g o cs e fz hg _ hc => C.load1_of hg (v := ws[i]) (by simpa using hc 0 (by omega)) (C.len_rd hrw ?_))
    rw [intC_len]
    refine back_row hG hb il hrw (fun vs' L' w' R' B' => ?_) (G.row i).length 0 w vs L (by omega) hR hB
    refine F24.k11.to ?_
    simp only [C.ite_true, C.ite_false, C.pick_true, C.pick_false, C.not_bool, C.field_ptr, C.nilCheck_ptr, C.add_mk, C.sub_mk, C.mul_mk, C.eql_mk, C.neq_mk, C.lss_mk, C.leq_mk, C.gtr_mk, C.geq_mk, C.conv_mk, C.len_mk, C.ext_0, C.ext_1, C.ext3_0, C.ext3_1, C.ext3_2, C.guarded_yes, C.guarded_tf, C.guarded_ft, C.guarded_undef, Bool.not_true, Bool.not_false, Nat.zero_add, eq_self, decide_true, decide_false]
    rw [wrap64_id (n := (i : Int) + 1) (by omega), show (i : Int) + 1 = ((i + 1 : Nat) : Int) by omega]
    exact ih (i + 1) w' vs' L' (by omega) R' (B'.next il)
theorem Back_c {nv rv : Value} {G : Gr} (hG : IsG w nv rv G) (h : ∀ av vs L W1 w', Fr [] w w' → Fr [] w W1 → OR W1 w' av vs L → L.length = G.n → (∀ r ∈ L, r.length ≤ G.n) → BK G G.n 0 L → Turned G ⟨L, G.roots⟩ → K av w') : C.call Try.prog 24 #[.agg #[nv, rv]] w K := by
  have hfew := hG.few
  refine F24.sh (GBlk.new hG fun b w1 hf1 _ hb hG1 => hb.next (hG1.len_next ?_))
  refine C.make_of (e := 23) (sz := 1) (bytes := 24) (z := .slice none 0 0) G.n Try.underlying22 (by kernel_rfl) rfl (by decide) (by intro u hu; simp [Value.cells] at hu; subst hu; rfl) (by omega) (by omega) fun ga w2 hn2 ho2 => ?_
  have hG2 := hG1.keep hn2.fr
  have hb2 := hb.keep hn2.fr (by simp)
  refine hb2.next (hG2.len_next ?_)
  have gi := hn2.is
  have e2 : List.replicate G.n (Value.cells (.slice none 0 0)).toList = slC (List.replicate G.n (.slice none 0 0)) := by simp [slC, Value.cells]
  rw [e2] at ho2
  have R0 : OR w1 w2 (.slice (some ⟨ga, 0, none⟩) G.n G.n) (List.replicate G.n (.slice none 0 0)) (List.replicate G.n []) := by
    refine ⟨hn2.fr, by simp, ho2, fun g hg => ?_, fun i a b => ?_, fun i j a b _ g hg => ?_⟩
    · simp only [Value.ownBlock, Option.some.injEq] at hg
      omega
    · simp only [List.getElem_replicate]
      exact ⟨OwnS.nil _ _ _, NewS.nil _⟩
    · simp [blkS, Value.ownBlock] at hg
  have B0 : BK G 0 0 (List.replicate G.n []) := by
    refine ⟨by simp, fun k hk a => ?_, fun r hr => ?_⟩
    · simp only [List.getElem_replicate, List.not_mem_nil, false_iff]
      rintro ⟨x, _, _, ⟨c, _⟩ | ⟨_, c⟩⟩
      · omega
      · simp at c
    · rw [List.eq_of_mem_replicate hr]
      simp
  refine back_loop (W0 := w1) hG1 hb (fun vs L w' R B => ?_) G.n 0 w2 _ _ (by omega) R0 B0
  have f' := hf1.trans R.fr
  refine h _ vs L w1 w' f' hf1 R B.len (fun r hr => ?_) B B.turned
  obtain ⟨k, hk, rfl⟩ := List.getElem_of_mem hr
  exact B.few hk
end
end Go.Proofs.YtchonfdnghimdaaV
