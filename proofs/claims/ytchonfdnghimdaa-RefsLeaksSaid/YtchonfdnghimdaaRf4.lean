/- Counting references: what the program's calls come to. -/
import Derived.Test.YtchonfdnghimdaaRgB
namespace Go.Proofs.YtchonfdnghimdaaV
open Go Go.Proofs Go.RowKit
set_option linter.unusedVariables false
set_option linter.unusedSimpArgs false
set_option maxRecDepth 10000
def Gr.countsL (G : Gr) : List Int := tab G.n fun j => (G.cnt (fun _ => false) (j : Int) : Int)
theorem bodied76 : bodied Try.prog 51 = true := by kernel_rfl
theorem bodied98 : bodied Try.prog 52 = true := by kernel_rfl
theorem bodied80 : bodied Try.prog 39 = true := by kernel_rfl
section
variable {K : VK} {w : World}
theorem Counts_c {nv rv : Value} {G : Gr} (hG : IsG w nv rv G) (h : ∀ v w', Fr [] w w' → NewS w v → OwnS w' v 3 1 (intC G.countsL) → K v w') : C.call Try.prog 34 #[.agg #[nv, rv]] w K := by
  have hfew := hG.few
  refine F34.sh (GBlk.new hG fun bg w1 hf1 hb1 hb hG1 => hb.next (hG1.len_next ?_))
  refine C.make_of (e := 3) (sz := 1) (bytes := 8) (z := .int .i64 0) G.n Try.underlying23 (by kernel_rfl) rfl (by decide) (by intro u hu; simp [Value.cells] at hu; subst hu; rfl) (by omega) (by omega) fun ga w2 hw2 ha2 => ?_
  refine C.new_of fun b3 w3 hw3 => C.store1_of hw3.at_ rfl rfl (by simp) fun w4 hu => ?_
  generalize hcv : (Value.slice (some ⟨ga, 0, none⟩) G.n G.n) = cv at *
  have e2 := hw2.is
  have e2' := hw2.sz
  have e3 := hw3.is
  have e3' := hw3.sz
  have e4 := hu.sz
  have bl : ∀ g ∈ blkS cv, g = ga := fun g hg => by
    rw [← hcv, mem_blkS] at hg
    simp only [Value.ownBlock, Option.some.injEq] at hg
    exact hg.symm
  have f14 : Fr [] w1 w4 := (hw2.fr.trans hw3.fr).then hu.fr fun x hx => .inr (by simp only [List.mem_singleton] at hx; omega)
  have ho4 : OwnS w4 cv 3 1 (intC (tab G.n fun _ => 0)) := by
    have e : intC (tab G.n fun _ => 0) = List.replicate G.n [.int .i64 0] := by simp [tab, intC, List.map_const']
    rw [e]
    exact (ha2.keep hw3.fr (by simp)).keep' hu.fr fun g hg c => by have := bl g hg; simp only [List.mem_singleton] at c; omega
  obtain ⟨vs, h1, h2, h3⟩ := hG1.next
  refine (hb.keep f14 (by simp)).all (lead_c (b0 := w4.heap.size) (I := fun b1 pre w' => Fr [] w1 w' ∧ b1 ≤ w'.heap.size ∧ w'.heap[b3]? = some (.cells #[cv] 23 (0, 0)) ∧ OwnS w' cv 3 1 (intC (tab G.n fun j => (pre.count (j : Int) : Int)))) (Nat.le_refl _) (hG1.keep f14) (h1.keep f14) h2 (fun b1 pre w' hI => ⟨hG1.roots.keep hI.1, fun i a b => (h3 i b a).keep hI.1⟩) (fun w' hf => ⟨f14.trans hf, Nat.le_refl _, hf.at_ hu.at_ (by simp), ?_⟩) (fun b1 pre k suf w' K' hI hk he hK => ?_) (fun b1 w' hI => ?_))
  · simpa using ho4.keep hf (by simp)
  · obtain ⟨i1, i2, i3, i4⟩ := hI
    have hkl : k < (tab G.n fun j => (pre.count (j : Int) : Int)).length := by rw [tab_len]; exact hk
    have hlen : pre.count (k : Int) ≤ 17609778230460416 := by
      have c1 : pre.count (k : Int) ≤ pre.length := List.count_le_length
      have c2 := flat_le hG
      rw [he, List.length_append] at c2
      omega
    refine vcCall_ofR bodied76 (F51.sh (C.load1_of (v := cv) i3 rfl (C.idx_int i4.rd hkl fun g o cs e fz hg hc => C.load1_of hg hc ?_)))
    rw [tab_get]
    simp only [C.ite_true, C.ite_false, C.pick_true, C.pick_false, C.not_bool, C.field_ptr, C.nilCheck_ptr, C.add_mk, C.sub_mk, C.mul_mk, C.eql_mk, C.neq_mk, C.lss_mk, C.leq_mk, C.gtr_mk, C.geq_mk, C.conv_mk, C.len_mk, C.ext_0, C.ext_1, C.ext3_0, C.ext3_1, C.ext3_2, C.guarded_yes, C.guarded_tf, C.guarded_ft, C.guarded_undef, Bool.not_true, Bool.not_false, Nat.zero_add, eq_self, decide_true, decide_false]
    rw [wrap64_id (by omega)]
    refine C.storeAt_own i4 (by omega) (by rw [intC_len]; omega) rfl (by intro u hu; simp [Value.cells] at hu; subst hu; rfl) fun w5 ho5 hf5 hs5 => hK w5 ⟨i1.then hf5 fun g hg => .inr (by have := bl g hg; omega), by omega, hf5.at_ i3 (fun c => by have := bl _ c; omega), ?_⟩ (fun b hb1' hb2' => hf5.eq b (by omega) fun c => by have := bl b c; omega)
    rw [Int.toNat_natCast] at ho5
    have e5 : (tab G.n fun j => (pre.count (j : Int) : Int)).set k ((pre.count (k : Int) : Int) + 1) = tab G.n fun j => ((pre ++ [(k : Int)]).count (j : Int) : Int) := by
      rw [tab_set]
      refine tab_congr fun j _ => ?_
      rw [upd_ap, List.count_append, List.count_singleton]
      by_cases c : j = k
      · subst c; simp
      · have : ¬ ((k : Int) = (j : Int)) := by omega
        simp [c, this]
    rw [← e5, ← intC_setR]
    exact ho5
  · obtain ⟨i1, i2, i3, i4⟩ := hI
    refine C.load1_of (v := cv) i3 rfl (h cv w' (hf1.trans i1) (fun g hg => ?_) ?_)
    · have := bl g (mem_blkS.2 hg); have := hf1.size; omega
    · have e : G.countsL = tab G.n fun j => (G.flat.count (j : Int) : Int) := tab_congr fun j hj => by rw [flat_count hj]
      rw [e]
      exact i4
/-! ### The blocks of the falls -/
structure FL (W1 w : World) (b0 b1 bo bq : Nat) (ov fv : Value) (Ct : List Int) (P : List Bool) (q : List Nat) : Prop where
  bs : BS W1 w bo bq ov Ct q
  hf : OwnS w fv 4 1 (boolC P)
  nf : NewS W1 fv
  df : ∀ g ∈ blkS fv, g ≠ bo ∧ g ≠ bq ∧ g ∉ blkS ov
  qf : ∀ qv, w.heap[bq]? = some (.cells #[qv] 23 (0, 0)) → ∀ g ∈ blkS qv, g ∉ blkS fv ∧ (g < b0 ∨ b1 ≤ g)
  lo : bo < b0 ∧ bq < b0 ∧ (∀ g ∈ blkS ov, g < b0) ∧ ∀ g ∈ blkS fv, g < b0
  hi : b0 ≤ b1 ∧ b1 ≤ w.heap.size
theorem FL.keep {W1 w w' : World} {b0 b1 bo bq : Nat} {ov fv : Value} {Ct : List Int} {P : List Bool} {q : List Nat} (h : FL W1 w b0 b1 bo bq ov fv Ct P q) (hf : Fr [] w w') : FL W1 w' b0 b1 bo bq ov fv Ct P q := by
  refine ⟨h.bs.keep hf, h.hf.keep hf (by simp), h.nf, h.df, fun qv hq => ?_, h.lo, h.hi.1, Nat.le_trans h.hi.2 hf.size⟩
  obtain ⟨qv', q1, _⟩ := h.bs.que
  have := hf.at_ q1 (by simp)
  rw [this] at hq
  simp only [Option.some.injEq, Obj.cells.injEq, and_true] at hq
  have e : qv' = qv := by simpa using hq
  subst e
  exact h.qf _ q1
theorem FL.rebase {W1 w w' : World} {b0 b1 bo bq : Nat} {ov fv : Value} {Ct : List Int} {P : List Bool} {q : List Nat} (h : FL W1 w b0 b1 bo bq ov fv Ct P q) (hf : Fr [] w w') : FL W1 w' w.heap.size w'.heap.size bo bq ov fv Ct P q := by
  obtain ⟨qv', q1, q2, q3, q4⟩ := h.bs.que
  have hk := h.keep hf
  refine ⟨hk.bs, hk.hf, h.nf, h.df, fun qv hq => ?_, ⟨lt_of_at h.bs.hbo, lt_of_at q1, h.bs.ho.mem_lt, h.hf.mem_lt⟩, hf.size, Nat.le_refl _⟩
  have := hf.at_ q1 (by simp)
  rw [this] at hq
  simp only [Option.some.injEq, Obj.cells.injEq, and_true] at hq
  have e : qv' = qv := by simpa using hq
  subst e
  exact fun g hg => ⟨(h.qf _ q1 g hg).1, .inl (q2.mem_lt g hg)⟩
/-- A count set. -/
theorem FL.dec {W1 : World} {b0 b1 bo bq k : Nat} {ov fv : Value} {Ct : List Int} {P : List Bool} {q : List Nat} {x : Int} {F : World → Prop} (h : FL W1 w b0 b1 bo bq ov fv Ct P q) (hk : k < Ct.length)
    (hF : ∀ w', FL W1 w' b0 b1 bo bq ov fv (Ct.set k x) P q → (∀ b, b0 ≤ b → b < b1 → w'.heap[b]? = w.heap[b]?) → F w') : C.idx 1 ov (.int .i64 (k : Int)) w fun p w1 => C.store 1 p (.int .i64 x) w1 F := by
  refine C.storeAt_own h.bs.ho (by omega) (by rw [intC_len]; omega) rfl (by intro u hu; simp [Value.cells] at hu; subst hu; rfl) fun w2 ho2 hf2 hs2 => ?_
  have ho2' : OwnS w2 ov 3 1 (intC (Ct.set k x)) := by rw [Int.toNat_natCast] at ho2; rw [← intC_setR]; exact ho2
  obtain ⟨qv, q1, q2, q3, q4⟩ := h.bs.que
  have q1' := hf2.at_ q1 (fun c => (h.bs.do' bq c).2 rfl)
  refine hF w2 ⟨⟨h.bs.fr.then hf2 fun g hg => .inr (h.bs.no.blk g hg), hf2.at_ h.bs.hbo (fun c => (h.bs.do' bo c).1 rfl), ho2', h.bs.no, h.bs.l1, h.bs.l2, h.bs.ne, h.bs.do', qv, q1', q2.keep' hf2 fun g hg c => (q4 g hg).2.2 c, q3, q4⟩, h.hf.keep' hf2 fun g hg c => (h.df g hg).2.2 c, h.nf, h.df, fun qv' hq => ?_, h.lo, h.hi.1, by rw [hs2]; exact h.hi.2⟩ fun b hb hb' => hf2.eq b (by have := h.hi.2; omega) fun c => by have := h.lo.2.2.1 b c; omega
  rw [q1'] at hq
  simp only [Option.some.injEq, Obj.cells.injEq, and_true] at hq
  have e : qv = qv' := by simpa using hq
  subst e
  exact h.qf _ q1
/-- A node freed. -/
theorem FL.mark {W1 : World} {b0 b1 bo bq k : Nat} {ov fv : Value} {Ct : List Int} {P : List Bool} {q : List Nat} {x : Bool} {F : World → Prop} (h : FL W1 w b0 b1 bo bq ov fv Ct P q) (hk : k < P.length)
    (hF : ∀ w', FL W1 w' b0 b1 bo bq ov fv Ct (P.set k x) q → F w') : C.idx 1 fv (.int .i64 (k : Int)) w fun p w1 => C.store 1 p (.bool x) w1 F := by
  refine C.storeAt_own h.hf (by omega) (by rw [boolC_len]; omega) rfl (by intro u hu; simp [Value.cells] at hu; subst hu; rfl) fun w2 ho2 hf2 hs2 => ?_
  have ho2' : OwnS w2 fv 4 1 (boolC (P.set k x)) := by rw [Int.toNat_natCast] at ho2; rw [← boolC_set]; exact ho2
  obtain ⟨qv, q1, q2, q3, q4⟩ := h.bs.que
  have q1' := hf2.at_ q1 (fun c => (h.df bq c).2.1 rfl)
  refine hF w2 ⟨⟨h.bs.fr.then hf2 fun g hg => .inr (h.nf.blk g hg), hf2.at_ h.bs.hbo (fun c => (h.df bo c).1 rfl), h.bs.ho.keep' hf2 fun g hg c => (h.df g c).2.2 hg, h.bs.no, h.bs.l1, h.bs.l2, h.bs.ne, h.bs.do', qv, q1', q2.keep' hf2 fun g hg c => (h.qf _ q1 g hg).1 c, q3, q4⟩, ho2', h.nf, h.df, fun qv' hq => ?_, h.lo, h.hi.1, by rw [hs2]; exact h.hi.2⟩
  rw [q1'] at hq
  simp only [Option.some.injEq, Obj.cells.injEq, and_true] at hq
  have e : qv = qv' := by simpa using hq
  subst e
  exact h.qf _ q1
/-- A node put behind the others. -/
theorem FL.push {W1 : World} {b0 b1 bo bq r : Nat} {ov fv : Value} {Ct : List Int} {P : List Bool} {q : List Nat} {F : World → Prop} (h : FL W1 w b0 b1 bo bq ov fv Ct P q) (hq : q.length ≤ 1000)
    (hF : ∀ w', FL W1 w' b0 b1 bo bq ov fv Ct P (q ++ [r]) → (∀ b, b0 ≤ b → b < b1 → w'.heap[b]? = w.heap[b]?) → F w') :
    C.load1 (.pointer (some ⟨bq, 0, none⟩)) w fun x15 w11 => C.run Try.prog (Instr.buildSlice 23 1 #[(0, .int .i64 (r : Int))]) w11 fun x17 w12 => C.run Try.prog (Builtin.append_ #[23, 23] 23 #[x15, x17]) w12 fun x18 w13 => C.store 1 (.pointer (some ⟨bq, 0, none⟩)) x18 w13 F := by
  obtain ⟨qv, q1, q2, q3, q4⟩ := h.bs.que
  have hqf := h.qf _ q1
  refine C.load1_of (v := qv) q1 rfl (C.appInt' q2 (by rw [natC_len]; omega) fun qv' w3 hf3 hblk ho3 => ?_)
  have q1' := hf3.at_ q1 (fun c => (q4 bq c).2.1 rfl)
  have lo := h.bs.ho.mem_lt
  have lf := h.hf.mem_lt
  have hbo' := lt_of_at h.bs.hbo
  have hbq' := lt_of_at q1
  have s3 := hf3.size
  have hhi := h.hi
  have nb : ∀ g ∈ blkS qv', g ∈ blkS qv ∨ w.heap.size ≤ g := fun g hg => by
    rw [mem_blkS] at hg
    rcases hblk with c | ⟨g', c, d⟩
    · exact .inl (mem_blkS.2 (by rw [← c]; exact hg))
    · rw [hg] at c
      simp only [Option.some.injEq] at c
      exact .inr (by omega)
  refine C.store1_of q1' (ho3.one.2) (ho3.one.1) (by simp) fun w4 hu => ?_
  have hne : ∀ g ∈ blkS qv', g ≠ bo ∧ g ≠ bq ∧ g ∉ blkS ov := fun g hg => by
    rcases nb g hg with c | c
    · exact q4 g c
    · exact ⟨by omega, by omega, fun d => by have := lo g d; omega⟩
  have fr : Fr [] W1 w4 := (h.bs.fr.then hf3 fun g hg => .inr (q3.blk g hg)).then hu.fr fun g hg => .inr (by simp only [List.mem_singleton] at hg; have := h.bs.l2; omega)
  have keep : ∀ b, b < w.heap.size → b ∉ blkS qv → b ≠ bq → w4.heap[b]? = w.heap[b]? := fun b hb h1 h2 => by
    rw [hu.fr.eq b (by omega) (by simp; exact h2), hf3.eq b hb h1]
  refine hF w4 ⟨⟨fr, ?_, ?_, h.bs.no, h.bs.l1, h.bs.l2, h.bs.ne, h.bs.do', qv', hu.at_, ?_, fun g hg => ?_, hne⟩, ?_, h.nf, h.df, fun qv2 hq2 => ?_, h.lo, h.hi.1, by have := hu.sz; omega⟩ fun b hb hb' => keep b (by omega) (fun c => by rcases (hqf b c).2 with d | d <;> omega) (by have := h.lo.2.1; omega)
  · rw [keep bo hbo' (fun c => (q4 bo c).1 rfl) h.bs.ne]
    exact h.bs.hbo
  · exact (h.bs.ho.keep' hf3 fun g hg c => (q4 g c).2.2 hg).keep' hu.fr fun g hg c => by simp only [List.mem_singleton] at c; exact (h.bs.do' g hg).2 c
  · rw [natC_app]
    exact ho3.keep' hu.fr fun g hg c => by simp only [List.mem_singleton] at c; exact (hne g hg).2.1 c
  · rcases nb g (mem_blkS.2 hg) with c | c
    · exact q3.blk g c
    · have := h.bs.fr.size; omega
  · exact (h.hf.keep' hf3 fun g hg c => (hqf g c).1 hg).keep' hu.fr fun g hg c => by simp only [List.mem_singleton] at c; exact (h.df g hg).2.1 c
  · rw [hu.at_] at hq2
    simp only [Option.some.injEq, Obj.cells.injEq, and_true] at hq2
    have e : qv' = qv2 := by simpa using hq2
    subst e
    intro g hg
    rcases nb g hg with c | c
    · exact hqf g c
    · exact ⟨fun d => by have := lf g d; omega, .inr (by omega)⟩
end
end Go.Proofs.YtchonfdnghimdaaV
