/- How far each node is, by a row of nodes met; which nodes can be reached: what the calls come to. -/
import Derived.Test.YtfhgjncbhjjbfaaGr2
import Derived.Test.YtfhgjncbhjjbfaaLibRepInt
namespace Go.Proofs.YtfhgjncbhjjbfaaV
open Go Go.Proofs Go.RowKit
set_option linter.unusedVariables false
set_option linter.unusedSimpArgs false
set_option maxRecDepth 10000
def natC (q : List Nat) : List Int := q.map fun (x : Nat) => (x : Int)
theorem natC_len (q : List Nat) : (natC q).length = q.length := by simp [natC]
theorem natC_get {q : List Nat} {i : Nat} (h : i < (natC q).length) : (natC q)[i] = ((q[i]'(by simpa [natC] using h) : Nat) : Int) := by simp [natC]
theorem natC_app (q : List Nat) (r : Nat) : natC (q ++ [r]) = natC q ++ [(r : Int)] := by simp [natC]
theorem natC_mem {q : List Nat} {i : Int} : i ∈ natC q ↔ ∃ r : Nat, r ∈ q ∧ i = (r : Int) := by
  simp only [natC, List.mem_map]
  constructor
  · rintro ⟨a, h, rfl⟩; exact ⟨a, h, rfl⟩
  · rintro ⟨a, h, rfl⟩; exact ⟨a, h, rfl⟩
/-- The blocks of a search. -/
structure BS (W1 w : World) (bo bq : Nat) (ov : Value) (out : List Int) (q : List Nat) : Prop where
  fr : Fr [] W1 w
  hbo : w.heap[bo]? = some (.cells #[ov] 44 (0, 0))
  ho : OwnS w ov 3 1 (intC out)
  no : NewS W1 ov
  l1 : W1.heap.size ≤ bo
  l2 : W1.heap.size ≤ bq
  ne : bo ≠ bq
  do' : ∀ g ∈ blkS ov, g ≠ bo ∧ g ≠ bq
  que : ∃ qv, w.heap[bq]? = some (.cells #[qv] 44 (0, 0)) ∧ OwnS w qv 3 1 (intC (natC q)) ∧ NewS W1 qv ∧ ∀ g ∈ blkS qv, g ≠ bo ∧ g ≠ bq ∧ g ∉ blkS ov
theorem BS.keep {W1 w w' : World} {bo bq : Nat} {ov : Value} {out : List Int} {q : List Nat} (h : BS W1 w bo bq ov out q) (hf : Fr [] w w') : BS W1 w' bo bq ov out q := by
  obtain ⟨qv, h1, h2, h3, h4⟩ := h.que
  exact ⟨h.fr.trans hf, hf.at_ h.hbo (by simp), h.ho.keep hf (by simp), h.no, h.l1, h.l2, h.ne, h.do', qv, hf.at_ h1 (by simp), h2.keep hf (by simp), h3, h4⟩
theorem Asked.push {G : Gr} {f f' : Int} {D : Nat → Int → Prop} {out : List Int} {q : List Nat} {n j : Nat} (h : BI G f D out q) (hA : Asked G out q n) (hn : n ≤ q.length) (hj : ∀ hj : j < out.length, out[j] = -1) : Asked G (out.set j f') (q ++ [j]) n := by
  intro p hp hpn x he hx
  have hpq : p < q.length := by omega
  have e : (q ++ [j])[p] = q[p] := List.getElem_append_left hpq
  rw [e] at he
  obtain ⟨h1, h2, h3, h4⟩ := hA p hpq hpn x he hx
  have hqp : 0 ≤ out[q[p]] := by
    rcases h.iff _ h2 with c | c
    · exact absurd (List.getElem_mem _) c.2
    · exact c.1
  refine ⟨by simpa using h1, by rw [e]; simpa using h2, ?_⟩
  simp only [e]
  rw [List.getElem_set, List.getElem_set, if_neg (by rintro rfl; have := hj h1; omega), if_neg (by intro c; subst c; have := hj h2; omega)]
  exact ⟨h3, h4⟩
theorem vcCall_to {f : FuncId} {cap : Array Value} {args : List Value} {all : Array Value} {w : World} {K : VK} (hb : bodied Try.prog f = true) (he : (args ++ cap.toList).toArray = all) (h : C.call Try.prog f all w K) : vcCall Try.prog (.func (.func f) #[] cap) args w K := vcCall_of hb (by rw [he]; exact h)
theorem bodied69 : bodied Try.prog 69 = true := by kernel_rfl
section
variable {K : VK} {w : World}
theorem GBlk.rowK {W1 : World} {b : Nat} {e : TypeId} {nv rv : Value} {G : Gr} {i : Nat} (h : GBlk w b e nv rv) (hG : IsG W1 nv rv G) (hf : Fr [] W1 w) (hi : i < G.n) (hk : ∀ v, (∀ w', Fr [] W1 w' → RdS w' v 1 (intC (G.row i))) → K v w) :
    C.field 0 (.pointer (some ⟨b, 0, none⟩)) w fun p w1 => C.load1 p w1 fun x w2 => C.idx 1 x (.int .i64 (i : Int)) w2 fun q w3 => C.load1 q w3 K := by
  refine h.next ?_
  obtain ⟨vs, h1, h2, h3⟩ := hG.next
  have hi' : i < vs.length := by have : G.n = G.next.length := rfl; omega
  refine C.idx_rd (h1.keep hf) (by omega) (by rw [Int.toNat_natCast]; exact slC_get hi') fun g o cs e fz hg _ hc => C.load1_of hg (v := vs[i]) ?_ (hk _ fun w' hw' => ?_)
  · have := hc 0 (by omega)
    simpa using this
  · rw [row_get hi]
    exact (h3 i hi hi').keep hw'
/-- A node met. -/
theorem meet_c {W1 : World} {G : Gr} {bg bo bq : Nat} {nv rv ov : Value} {out : List Int} {q : List Nat} {i far : Int} (hG : IsG W1 nv rv G) (hb : GBlk W1 bg 46 nv rv) (hB : BS W1 w bo bq ov out q) (hl : out.length = G.n) (hq : q.length ≤ 1000)
    (h1 : ∀ (r : Nat) (hr : r < out.length), i = (r : Int) → out[r] = -1 → ∀ w', BS W1 w' bo bq ov (out.set r far) (q ++ [r]) → K (.tuple #[]) w')
    (h2 : (∀ (r : Nat) (hr : r < out.length), i = (r : Int) → out[r] ≠ -1) → ∀ w', BS W1 w' bo bq ov out q → K (.tuple #[]) w') :
    vcCall Try.prog (.func (.func 69) #[] #[.pointer (some ⟨bg, 0, none⟩), .pointer (some ⟨bo, 0, none⟩), .pointer (some ⟨bq, 0, none⟩)]) [.int .i64 i, .int .i64 far] w K := by
  refine vcCall_to bodied69 rfl ?_
  refine F69.sh ((hb.keep hB.fr (by simp)).all (is_c (hG.keep hB.fr) fun w1 hf1 => ?_))
  have hB1 := hB.keep hf1
  by_cases hn : 0 ≤ i ∧ i < (G.n : Int)
  · obtain ⟨r, rfl⟩ : ∃ r : Nat, i = (r : Int) := ⟨i.toNat, by omega⟩
    have hr : r < out.length := by omega
    rw [decide_eq_true hn]
    simp only [C.ite_true, C.ite_false, C.pick_true, C.pick_false, C.not_bool, C.field_ptr, C.nilCheck_ptr, C.add_mk, C.sub_mk, C.mul_mk, C.eql_mk, C.neq_mk, C.lss_mk, C.leq_mk, C.gtr_mk, C.geq_mk, C.conv_mk, C.len_mk, C.ext_0, C.ext_1, C.ext3_0, C.ext3_1, C.ext3_2, C.guarded_yes, C.guarded_tf, C.guarded_ft, C.guarded_undef, Bool.not_true, Bool.not_false, Nat.zero_add, eq_self, decide_true, decide_false]
    refine C.load1_of (v := ov) hB1.hbo rfl (C.idx_int hB1.ho.rd hr fun g o cs e fz hg hc => C.load1_of hg hc ?_)
    by_cases hm : out[r] = -1
    · simp only [C.ite_true, C.ite_false, C.pick_true, C.pick_false, C.not_bool, C.field_ptr, C.nilCheck_ptr, C.add_mk, C.sub_mk, C.mul_mk, C.eql_mk, C.neq_mk, C.lss_mk, C.leq_mk, C.gtr_mk, C.geq_mk, C.conv_mk, C.len_mk, C.ext_0, C.ext_1, C.ext3_0, C.ext3_1, C.ext3_2, C.guarded_yes, C.guarded_tf, C.guarded_ft, C.guarded_undef, Bool.not_true, Bool.not_false, Nat.zero_add, eq_self, decide_true, decide_false, hm]
      refine C.load1_of (v := ov) hB1.hbo rfl ?_
      refine C.storeAt_own hB1.ho (by omega) (by rw [intC_len]; omega) rfl (by intro u hu; simp [Value.cells] at hu; subst hu; rfl) fun w2 ho2 hf2 _ => ?_
      have ho2' : OwnS w2 ov 3 1 (intC (out.set r far)) := by rw [Int.toNat_natCast] at ho2; rw [← intC_set]; exact ho2
      obtain ⟨qv, q1, q2, q3, q4⟩ := hB1.que
      have q1' := hf2.at_ q1 (fun c => (hB1.do' bq c).2 rfl)
      have q2' := q2.keep' hf2 fun g hg c => (q4 g hg).2.2 c
      refine C.load1_of (v := qv) q1' rfl (C.appInt' q2' (by rw [natC_len]; omega) fun qv' w3 hf3 hblk ho3 => ?_)
      have hov : ∀ g ∈ blkS ov, g ∉ blkS qv := fun g hg c => (q4 g c).2.2 hg
      have q1'' := hf3.at_ q1' (fun c => (q4 bq c).2.1 rfl)
      have hlt2 : ∀ g ∈ blkS ov, g < w2.heap.size := fun g hg => ho2'.mem_lt g hg
      have hbo2 : w2.heap[bo]? = some (.cells #[ov] 44 (0, 0)) := hf2.at_ hB1.hbo (fun c => (hB1.do' bo c).1 rfl)
      have hbq2 := lt_of_at q1'
      have hbo2' := lt_of_at hbo2
      have hqb : ∀ g ∈ blkS qv', g ∈ blkS qv ∨ w2.heap.size ≤ g := fun g hg => by
        rw [mem_blkS] at hg
        rcases hblk with c | ⟨g', c, d⟩
        · exact .inl (mem_blkS.2 (by rw [← c]; exact hg))
        · rw [hg] at c
          simp only [Option.some.injEq] at c
          exact .inr (by omega)
      refine C.store1_of q1'' (ho3.one.2) (ho3.one.1) (by simp) fun w4 hu => h1 r hr rfl hm w4 ?_
      have hne : ∀ g ∈ blkS qv', g ≠ bo ∧ g ≠ bq ∧ g ∉ blkS ov := fun g hg => by
        rcases hqb g hg with c | c
        · exact q4 g c
        · refine ⟨by omega, by omega, fun d => ?_⟩
          have := hlt2 g d
          omega
      have hbo3 : w3.heap[bo]? = some (.cells #[ov] 44 (0, 0)) := hf3.at_ hbo2 (fun c => (q4 bo c).1 rfl)
      refine ⟨?_, hu.fr.at_ hbo3 (by simp; exact hB1.ne), (ho2'.keep' hf3 hov).keep' hu.fr fun g hg c => ?_, hB1.no, hB1.l1, hB1.l2, hB1.ne, hB1.do', qv', hu.at_, ?_, fun g hg => ?_, hne⟩
      · refine ((hB1.fr.then hf2 fun g hg => .inr (hB1.no.blk g hg)).then hf3 fun g hg => .inr (q3.blk g hg)).then hu.fr fun g hg => .inr ?_
        simp only [List.mem_singleton] at hg
        have := hB1.l2
        omega
      · simp only [List.mem_singleton] at c
        exact (hB1.do' g hg).2 c
      · rw [natC_app]
        exact ho3.keep' hu.fr fun g hg c => by
          simp only [List.mem_singleton] at c
          exact (hne g hg).2.1 c
      · rcases hqb g (mem_blkS.2 hg) with c | c
        · exact q3.blk g c
        · have := (hB1.fr.then hf2 fun g hg => .inr (hB1.no.blk g hg)).size
          omega
    · simp only [C.ite_true, C.ite_false, C.pick_true, C.pick_false, C.not_bool, C.field_ptr, C.nilCheck_ptr, C.add_mk, C.sub_mk, C.mul_mk, C.eql_mk, C.neq_mk, C.lss_mk, C.leq_mk, C.gtr_mk, C.geq_mk, C.conv_mk, C.len_mk, C.ext_0, C.ext_1, C.ext3_0, C.ext3_1, C.ext3_2, C.guarded_yes, C.guarded_tf, C.guarded_ft, C.guarded_undef, Bool.not_true, Bool.not_false, Nat.zero_add, eq_self, decide_true, decide_false, hm]
      refine h2 (fun r' hr' e => ?_) w1 hB1
      obtain rfl : r' = r := by omega
      exact hm
  · rw [decide_eq_false hn]
    simp only [C.ite_true, C.ite_false, C.pick_true, C.pick_false, C.not_bool, C.field_ptr, C.nilCheck_ptr, C.add_mk, C.sub_mk, C.mul_mk, C.eql_mk, C.neq_mk, C.lss_mk, C.leq_mk, C.gtr_mk, C.geq_mk, C.conv_mk, C.len_mk, C.ext_0, C.ext_1, C.ext3_0, C.ext3_1, C.ext3_2, C.guarded_yes, C.guarded_tf, C.guarded_ft, C.guarded_undef, Bool.not_true, Bool.not_false, Nat.zero_add, eq_self, decide_true, decide_false]
    exact h2 (fun r hr e => absurd ⟨by omega, by omega⟩ hn) w1 hB1
theorem d35_row {W1 : World} {G : Gr} {bg bo bq at_ i : Nat} {nv rv ov : Value} {c : Int} {D : Nat → Int → Prop} {rw_ : Value} (hG : IsG W1 nv rv G) (hb : GBlk W1 bg 46 nv rv) (hi : i < G.n) (hc : 0 ≤ c ∧ c ≤ (at_ : Int) ∧ at_ ≤ 1000) (hw0 : ∀ w, Fr [] W1 w → RdS w rw_ 1 (intC (G.row i)))
    (h : ∀ w out q, BS W1 w bo bq ov out q → BI G (c + 1) (fun j b => D j b ∨ (b = c + 1 ∧ (j : Int) ∈ G.row i ∧ j < G.n)) out q → Asked G out q at_ → (∃ h : at_ < q.length, q[at_] = i) → (∃ h : i < out.length, out[i] = c) →
      F35.k11 K (.pointer (some ⟨bg, 0, none⟩)) (.pointer (some ⟨bo, 0, none⟩)) (.pointer (some ⟨bq, 0, none⟩)) (.func (.func 69) #[] #[.pointer (some ⟨bg, 0, none⟩), .pointer (some ⟨bo, 0, none⟩), .pointer (some ⟨bq, 0, none⟩)]) (.int .i64 (at_ : Int)) w) :
    ∀ (d k : Nat) (out : List Int) (q : List Nat) (w : World), (G.row i).length = k + d → BS W1 w bo bq ov out q → BI G (c + 1) (fun j b => D j b ∨ (b = c + 1 ∧ (j : Int) ∈ (G.row i).take k ∧ j < G.n)) out q → Asked G out q at_ → (∃ h : at_ < q.length, q[at_] = i) → (∃ h : i < out.length, out[i] = c) →
      F35.l14 K (.pointer (some ⟨bg, 0, none⟩)) (.pointer (some ⟨bo, 0, none⟩)) (.pointer (some ⟨bq, 0, none⟩)) (.func (.func 69) #[] #[.pointer (some ⟨bg, 0, none⟩), .pointer (some ⟨bo, 0, none⟩), .pointer (some ⟨bq, 0, none⟩)]) (.int .i64 (at_ : Int)) (.int .i64 (i : Int)) rw_ (.int .i64 ((G.row i).length : Int)) (.int .i64 (k : Int)) w := by
  intro d
  induction d with
  | zero =>
    intro k out q w hk hB hI hA hq hci
    refine F35.l14.to ?_
    simp only [C.ite_true, C.ite_false, C.pick_true, C.pick_false, C.not_bool, C.field_ptr, C.nilCheck_ptr, C.add_mk, C.sub_mk, C.mul_mk, C.eql_mk, C.neq_mk, C.lss_mk, C.leq_mk, C.gtr_mk, C.geq_mk, C.conv_mk, C.len_mk, C.ext_0, C.ext_1, C.ext3_0, C.ext3_1, C.ext3_2, C.guarded_yes, C.guarded_tf, C.guarded_ft, C.guarded_undef, Bool.not_true, Bool.not_false, Nat.zero_add, eq_self, decide_true, decide_false, show ¬ ((k : Int) < ((G.row i).length : Int)) by omega]
    refine h w out q hB (hI.weak fun j b e => ?_) hA hq hci
    rw [List.take_of_length_le (by omega)]
    exact e
  | succ d ih =>
    intro k out q w hk hB hI hA hq hci
    have hkl : k < (G.row i).length := by omega
    have hrl := row_len hG i
    have hfew := hG.few
    have hql := hI.qlen
    refine F35.l14.to ?_
    simp only [C.ite_true, C.ite_false, C.pick_true, C.pick_false, C.not_bool, C.field_ptr, C.nilCheck_ptr, C.add_mk, C.sub_mk, C.mul_mk, C.eql_mk, C.neq_mk, C.lss_mk, C.leq_mk, C.gtr_mk, C.geq_mk, C.conv_mk, C.len_mk, C.ext_0, C.ext_1, C.ext3_0, C.ext3_1, C.ext3_2, C.guarded_yes, C.guarded_tf, C.guarded_ft, C.guarded_undef, Bool.not_true, Bool.not_false, Nat.zero_add, eq_self, decide_true, decide_false, show ((k : Int) < ((G.row i).length : Int)) by omega]
    have nx : ∀ (out' : List Int) (q' : List Nat) (w' : World), BS W1 w' bo bq ov out' q' → BI G (c + 1) (fun j b => D j b ∨ (b = c + 1 ∧ (j : Int) ∈ (G.row i).take (k + 1) ∧ j < G.n)) out' q' → Asked G out' q' at_ → (∃ h : at_ < q'.length, q'[at_] = i) → (∃ h : i < out'.length, out'[i] = c) →
        F35.k17 K (.pointer (some ⟨bg, 0, none⟩)) (.pointer (some ⟨bo, 0, none⟩)) (.pointer (some ⟨bq, 0, none⟩)) (.func (.func 69) #[] #[.pointer (some ⟨bg, 0, none⟩), .pointer (some ⟨bo, 0, none⟩), .pointer (some ⟨bq, 0, none⟩)]) (.int .i64 (at_ : Int)) (.int .i64 (i : Int)) rw_ (.int .i64 ((G.row i).length : Int)) (.int .i64 (k : Int)) w' := by
      intro out' q' w' a1 a2 a3 a4 a5
      refine F35.k17.to ?_
      simp only [C.ite_true, C.ite_false, C.pick_true, C.pick_false, C.not_bool, C.field_ptr, C.nilCheck_ptr, C.add_mk, C.sub_mk, C.mul_mk, C.eql_mk, C.neq_mk, C.lss_mk, C.leq_mk, C.gtr_mk, C.geq_mk, C.conv_mk, C.len_mk, C.ext_0, C.ext_1, C.ext3_0, C.ext3_1, C.ext3_2, C.guarded_yes, C.guarded_tf, C.guarded_ft, C.guarded_undef, Bool.not_true, Bool.not_false, Nat.zero_add, eq_self, decide_true, decide_false]
      rw [wrap64_id (n := (k : Int) + 1) (by omega), show (k : Int) + 1 = ((k + 1 : Nat) : Int) by omega]
      exact ih (k + 1) out' q' w' (by omega) a1 a2 a3 a4 a5
    obtain ⟨hio, hic⟩ := hci
    refine F35.k15.to (C.idx_int (hw0 w hB.fr) hkl fun g o cs e fz hg hcell => C.load1_of hg hcell (C.load1_of (v := ov) hB.hbo rfl (C.idx_int hB.ho.rd hio fun g o cs e fz hg hc2 => C.load1_of hg hc2 ?_)))
    simp only [C.ite_true, C.ite_false, C.pick_true, C.pick_false, C.not_bool, C.field_ptr, C.nilCheck_ptr, C.add_mk, C.sub_mk, C.mul_mk, C.eql_mk, C.neq_mk, C.lss_mk, C.leq_mk, C.gtr_mk, C.geq_mk, C.conv_mk, C.len_mk, C.ext_0, C.ext_1, C.ext3_0, C.ext3_1, C.ext3_2, C.guarded_yes, C.guarded_tf, C.guarded_ft, C.guarded_undef, Bool.not_true, Bool.not_false, Nat.zero_add, eq_self, decide_true, decide_false]
    rw [hic, wrap64_id (n := c + 1) (by omega)]
    have hcx : ∃ x : Nat, G.dst i ≤ c := ⟨0, by
      rcases hI.iff i hio with e | e
      · omega
      · have := dst_le e.2.2.1; omega⟩
    have hwk : G.wk c.toNat i = true := by
      rcases hI.iff i hio with e | e
      · omega
      · rw [← hic]; exact e.2.2.1
    refine meet_c hG hb hB hI.len (by omega) (fun r hr e hm w' hB' => ?_) (fun hno w' hB' => ?_)
    · have hrn : r < G.n := by rw [← hI.len]; exact hr
      have he : G.edge i r = true := by rw [edge_row hi, ← row_get hi, ← e]; exact List.getElem_mem _
      refine nx _ _ w' hB' ((hI.push hr hm (by omega) (by have := hq.1; omega) ?_).weak fun j b hj => ?_) (hA.push hI (Nat.le_of_lt hq.1) (fun _ => hm)) ?_ ⟨by simpa using hio, ?_⟩
      · rw [show (c + 1).toNat = c.toNat + 1 by omega]
        exact wk_succ.2 ⟨hrn, i, hwk, he⟩
      · rcases hj with hj | ⟨h1, h2, h3⟩
        · exact .inl (.inl hj)
        · rw [List.take_succ_eq_append_getElem hkl, List.mem_append, List.mem_singleton, e] at h2
          rcases h2 with h2 | h2
          · exact .inl (.inr ⟨h1, h2, h3⟩)
          · exact .inr ⟨by omega, h1⟩
      · obtain ⟨ha, hqa⟩ := hq
        exact ⟨by simp; omega, by rw [List.getElem_append_left ha]; exact hqa⟩
      · rw [List.getElem_set, if_neg (by rintro rfl; omega)]
        exact hic
    · refine nx out q w' hB' ?_ hA hq ⟨hio, hic⟩
      by_cases hx : ∃ r : Nat, (G.row i)[k] = (r : Int)
      · obtain ⟨r, hr⟩ := hx
        refine (hI.skip (j := r) fun hj => hno r hj hr).weak fun j b hj => ?_
        rcases hj with hj | ⟨h1, h2, h3⟩
        · exact .inl (.inl hj)
        · rw [List.take_succ_eq_append_getElem hkl, List.mem_append, List.mem_singleton, hr] at h2
          rcases h2 with h2 | h2
          · exact .inl (.inr ⟨h1, h2, h3⟩)
          · exact .inr ⟨by omega, h1, by rw [hI.len]; omega⟩
      · refine hI.weak fun j b hj => ?_
        rcases hj with hj | ⟨h1, h2, h3⟩
        · exact .inl hj
        · rw [List.take_succ_eq_append_getElem hkl, List.mem_append, List.mem_singleton] at h2
          rcases h2 with h2 | h2
          · exact .inr ⟨h1, h2, h3⟩
          · exact absurd ⟨j, h2.symm⟩ hx
/-- The row of nodes met, gone through. -/
theorem d35_at {W1 : World} {G : Gr} {bg bo bq : Nat} {nv rv ov : Value} (hG : IsG W1 nv rv G) (hb : GBlk W1 bg 46 nv rv)
    (h : ∀ w, Fr [] W1 w → OwnS w ov 3 1 (intC G.distL) → K ov w) :
    ∀ (d at_ : Nat) (f : Int) (out : List Int) (q : List Nat) (w : World), G.n = at_ + d → BS W1 w bo bq ov out q → BI G f (fun j b => b = 0 ∧ (j : Int) ∈ G.roots ∧ j < G.n) out q → Asked G out q at_ → at_ ≤ q.length →
      (∀ p (hp : p < q.length), at_ ≤ p → ∀ x ∈ q, ∀ (h1 : x < out.length) (h2 : q[p] < out.length), out[x] ≤ out[q[p]] + 1) →
      F35.l10 K (.pointer (some ⟨bg, 0, none⟩)) (.pointer (some ⟨bo, 0, none⟩)) (.pointer (some ⟨bq, 0, none⟩)) (.func (.func 69) #[] #[.pointer (some ⟨bg, 0, none⟩), .pointer (some ⟨bo, 0, none⟩), .pointer (some ⟨bq, 0, none⟩)]) (.int .i64 (at_ : Int)) w := by
  have hfew := hG.few
  intro d
  have fin : ∀ (at_ : Nat) (f : Int) (out : List Int) (q : List Nat) (w : World), BS W1 w bo bq ov out q → BI G f (fun j b => b = 0 ∧ (j : Int) ∈ G.roots ∧ j < G.n) out q → Asked G out q at_ → at_ = q.length →
      F35.l10 K (.pointer (some ⟨bg, 0, none⟩)) (.pointer (some ⟨bo, 0, none⟩)) (.pointer (some ⟨bq, 0, none⟩)) (.func (.func 69) #[] #[.pointer (some ⟨bg, 0, none⟩), .pointer (some ⟨bo, 0, none⟩), .pointer (some ⟨bq, 0, none⟩)]) (.int .i64 (at_ : Int)) w := by
    intro at_ f out q w hB hI hA he
    obtain ⟨qv, q1, q2, q3, q4⟩ := hB.que
    refine F35.l10.to (C.load1_of (v := qv) q1 rfl (C.len_rd q2.rd ?_))
    simp only [C.ite_true, C.ite_false, C.pick_true, C.pick_false, C.not_bool, C.field_ptr, C.nilCheck_ptr, C.add_mk, C.sub_mk, C.mul_mk, C.eql_mk, C.neq_mk, C.lss_mk, C.leq_mk, C.gtr_mk, C.geq_mk, C.conv_mk, C.len_mk, C.ext_0, C.ext_1, C.ext3_0, C.ext3_1, C.ext3_2, C.guarded_yes, C.guarded_tf, C.guarded_ft, C.guarded_undef, Bool.not_true, Bool.not_false, Nat.zero_add, eq_self, decide_true, decide_false, intC_len, natC_len, show ¬ ((at_ : Int) < (q.length : Int)) by omega]
    refine F35.k18.to (C.load1_of (v := ov) hB.hbo rfl (h w hB.fr ?_))
    subst he
    rw [← hI.fin (fun j hj hr => ⟨rfl, hr, hj⟩) hA]
    exact hB.ho
  induction d with
  | zero =>
    intro at_ f out q w hd hB hI hA hle hT
    exact fin at_ f out q w hB hI hA (by have := hI.qlen; omega)
  | succ d ih =>
    intro at_ f out q w hd hB hI hA hle hT
    rcases Nat.lt_or_ge at_ q.length with hlt | hge
    · obtain ⟨qv, q1, q2, q3, q4⟩ := hB.que
      have hql := hI.qlen
      have hin : q[at_] < G.n := hI.lt _ (List.getElem_mem _)
      have hio : q[at_] < out.length := by rw [hI.len]; exact hin
      have hqs : 0 ≤ out[q[at_]] ∧ G.wk out[q[at_]].toNat q[at_] = true := by
        rcases hI.iff _ hio with e | e
        · exact absurd (List.getElem_mem _) e.2
        · exact ⟨e.1, e.2.2.1⟩
      refine F35.l10.to (C.load1_of (v := qv) q1 rfl (C.len_rd q2.rd ?_))
      simp only [C.ite_true, C.ite_false, C.pick_true, C.pick_false, C.not_bool, C.field_ptr, C.nilCheck_ptr, C.add_mk, C.sub_mk, C.mul_mk, C.eql_mk, C.neq_mk, C.lss_mk, C.leq_mk, C.gtr_mk, C.geq_mk, C.conv_mk, C.len_mk, C.ext_0, C.ext_1, C.ext3_0, C.ext3_1, C.ext3_2, C.guarded_yes, C.guarded_tf, C.guarded_ft, C.guarded_undef, Bool.not_true, Bool.not_false, Nat.zero_add, eq_self, decide_true, decide_false, intC_len, natC_len, show ((at_ : Int) < (q.length : Int)) by omega]
      refine F35.k12.to (C.load1_of (v := qv) q1 rfl (C.idx_int q2.rd (by rw [natC_len]; exact hlt) fun g o cs e fz hg hc => C.load1_of hg (by rw [hc, natC_get]) ((hb.keep hB.fr (by simp)).rowK hG hB.fr hin fun rw_ hrw => C.len_rd (hrw w hB.fr) ?_)))
      rw [intC_len]
      have hdl := dst_le hqs.2
      have hcn : out[q[at_]] ≤ f := by
        rcases hI.iff _ hio with e | e
        · omega
        · exact e.2.2.2
      have hcb : out[q[at_]] ≤ (at_ : Int) := hI.pos at_ hlt hio
      refine d35_row (c := out[q[at_]]) (D := fun j b => b = 0 ∧ (j : Int) ∈ G.roots ∧ j < G.n) (at_ := at_) (i := q[at_]) hG hb hin ⟨hqs.1, hcb, by omega⟩ hrw (fun w' out' q' hB' hI' hA' hq' hc' => ?_) (G.row q[at_]).length 0 out q w (by omega) hB ?_ hA ⟨hlt, rfl⟩ ⟨hio, rfl⟩
      · refine F35.k11.to ?_
        simp only [C.ite_true, C.ite_false, C.pick_true, C.pick_false, C.not_bool, C.field_ptr, C.nilCheck_ptr, C.add_mk, C.sub_mk, C.mul_mk, C.eql_mk, C.neq_mk, C.lss_mk, C.leq_mk, C.gtr_mk, C.geq_mk, C.conv_mk, C.len_mk, C.ext_0, C.ext_1, C.ext3_0, C.ext3_1, C.ext3_2, C.guarded_yes, C.guarded_tf, C.guarded_ft, C.guarded_undef, Bool.not_true, Bool.not_false, Nat.zero_add, eq_self, decide_true, decide_false]
        rw [wrap64_id (n := (at_ : Int) + 1) (by omega), show (at_ : Int) + 1 = ((at_ + 1 : Nat) : Int) by omega]
        obtain ⟨hlt', hq''⟩ := hq'
        obtain ⟨hio', hc''⟩ := hc'
        refine ih (at_ + 1) _ out' q' w' (by omega) hB' (hI'.weak fun j b e => .inl e) (fun p hp hpn x he hx => ?_) (by omega) (fun p hp hpa x hxq h1 h2 => ?_)
        · rcases Nat.lt_or_ge p at_ with c | c
          · exact hA' p hp c x he hx
          · obtain rfl : p = at_ := by omega
            rw [hq''] at he
            obtain ⟨y1, y2, y3⟩ := hI'.done x (out[q[p]] + 1) (.inr ⟨rfl, by rw [edge_row hin, ← row_get hin] at he; exact he, hx⟩)
            refine ⟨y1, by rw [hq'']; exact hio', y2, ?_⟩
            simp only [hq'', hc'']
            exact y3
        · have e1 : out'[x] ≤ out[q[at_]] + 1 := by
            rcases hI'.iff x h1 with e | e
            · exact absurd hxq e.2
            · exact e.2.2.2
          have e2 := hI'.sorted at_ p hlt' hp (by rw [hq'']; exact hio') h2 (by omega)
          simp only [hq'', hc''] at e2
          omega
      · refine (hI.raise (f' := out[q[at_]] + 1) fun x hx hx' => hT at_ hlt (Nat.le_refl _) x hx hx' hio).weak fun j b e => ?_
        rcases e with e | ⟨_, e, _⟩
        · exact e
        · simp at e
    · exact fin at_ f out q w hB hI hA (by omega)
end
end Go.Proofs.YtfhgjncbhjjbfaaV
