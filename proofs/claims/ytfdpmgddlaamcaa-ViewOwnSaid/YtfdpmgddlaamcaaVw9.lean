/- What can be reached, by the program: what the call comes to. -/
import Derived.Test.YtfdpmgddlaamcaaVw8
import Derived.Test.YtfdpmgddlaamcaaLibQ
namespace Go.Proofs.YtfdpmgddlaamcaaV
open Go Go.Proofs Go.RowKit
set_option linter.unusedVariables false
set_option linter.unusedSimpArgs false
set_option maxRecDepth 10000
def qI (q : List Nat) : List Int := q.map fun (k : Nat) => (k : Int)
theorem qI_len (q : List Nat) : (qI q).length = q.length := by simp [qI]
/-- What stands while the program meets what can be reached. -/
structure RI (W0 : World) (b1 b3 b4 b5 : Nat) (rv nv : Value) (V : Vw) (mq : List Bool × List Nat) (w : World) (mv qv : Value) : Prop where
  fr : Fr [] W0 w
  hb : VB w b1 rv nv
  h3 : w.heap[b3]? = some (.cells #[mv] 55 (0, 0))
  om : OwnS w mv 4 1 (boolC mq.1)
  nm : NewS W0 mv
  h4 : w.heap[b4]? = some (.cells #[qv] 34 (0, 0))
  oq : OffS w qv (qI mq.2)
  nq : NewS W0 qv
  h5 : w.heap[b5]? = some (.cells #[.func (.func 111) #[] #[.pointer (some ⟨b1, 0, none⟩), .pointer (some ⟨b3, 0, none⟩), .pointer (some ⟨b4, 0, none⟩)]] 168 (0, 0))
  lo : W0.heap.size ≤ b3 ∧ W0.heap.size ≤ b4 ∧ b3 ≠ b4 ∧ b3 ≠ b1 ∧ b4 ≠ b1 ∧ b3 ≠ b5 ∧ b4 ≠ b5
  ml : mq.1.length = V.2.length
  bnd : cntF mq.1 + mq.2.length ≤ V.2.length
theorem RI.keep {W0 w w' : World} {b1 b3 b4 b5 : Nat} {rv nv mv qv : Value} {V : Vw} {mq : List Bool × List Nat} (h : RI W0 b1 b3 b4 b5 rv nv V mq w mv qv) (hf : Fr [] w w') : RI W0 b1 b3 b4 b5 rv nv V mq w' mv qv :=
  ⟨h.fr.trans hf, h.hb.keep hf (by simp), hf.at_ h.h3 (by simp), h.om.keep hf (by simp), h.nm, hf.at_ h.h4 (by simp), h.oq.keep hf, h.nq, hf.at_ h.h5 (by simp), h.lo, h.ml, h.bnd⟩
section
variable {K : VK} {w : World}
theorem bodied111 : bodied Try.prog 111 = true := by kernel_rfl
theorem bodied112 : bodied Try.prog 112 = true := by kernel_rfl
theorem meet_v {W0 : World} {b1 b3 b4 b5 : Nat} {rv nv mv qv : Value} {V : Vw} {mq : List Bool × List Nat} {s : Int} (hV : IsV W0 rv nv V) (hn : V.2.length ≤ 4398046511104) (hI : RI W0 b1 b3 b4 b5 rv nv V mq w mv qv)
    (hk : ∀ w' mv' qv', RI W0 b1 b3 b4 b5 rv nv V (meetS V.2 s mq) w' mv' qv' → K (.tuple #[]) w') : vcCall Try.prog (.func (.func 111) #[] #[.pointer (some ⟨b1, 0, none⟩), .pointer (some ⟨b3, 0, none⟩), .pointer (some ⟨b4, 0, none⟩)]) [.int .i64 s] w K := by
  refine vcCall_of bodied111 (F111.sh (hI.hb.all (place_c (hV.keep hI.fr) fun w1 hf1 => ?_)))
  have hI1 := hI.keep hf1
  obtain ⟨m, q⟩ := mq
  obtain ⟨l1, l2, l3, l4, l5, l6, l7⟩ := hI.lo
  cases hp : plc V.2 s with
  | none =>
    have e : plcI V.2 s = -1 := by unfold plcI; rw [hp]
    rw [meetS_no hp] at hk
    rw [e]
    simp only [C.ite_true, C.ite_false, C.pick_true, C.pick_false, C.not_bool, C.field_ptr, C.nilCheck_ptr, C.add_mk, C.sub_mk, C.mul_mk, C.eql_mk, C.neq_mk, C.lss_mk, C.leq_mk, C.gtr_mk, C.geq_mk, C.conv_mk, C.len_mk, C.ext_0, C.ext_1, C.ext3_0, C.ext3_1, C.ext3_2, C.guarded_yes, C.guarded_tf, C.guarded_ft, C.guarded_undef, Bool.not_true, Bool.not_false, Nat.zero_add, eq_self, decide_true, decide_false, show ¬ ((-1 : Int) ≥ 0) by omega]
    exact hk w1 mv qv hI1
  | some i =>
    have e : plcI V.2 s = (i : Int) := by unfold plcI; rw [hp]
    have li := plc_lt hp
    have hml := hI.ml
    simp only at hml
    have lm : i < m.length := by omega
    rw [e]
    simp only [C.ite_true, C.ite_false, C.pick_true, C.pick_false, C.not_bool, C.field_ptr, C.nilCheck_ptr, C.add_mk, C.sub_mk, C.mul_mk, C.eql_mk, C.neq_mk, C.lss_mk, C.leq_mk, C.gtr_mk, C.geq_mk, C.conv_mk, C.len_mk, C.ext_0, C.ext_1, C.ext3_0, C.ext3_1, C.ext3_2, C.guarded_yes, C.guarded_tf, C.guarded_ft, C.guarded_undef, Bool.not_true, Bool.not_false, Nat.zero_add, eq_self, decide_true, decide_false, show ((i : Int) ≥ 0) by omega]
    refine C.load1_of (v := mv) hI1.h3 rfl (C.idx_rd hI1.om.rd (by omega) (by rw [Int.toNat_natCast]; exact boolC_get lm) fun g oo cs e' fz hg _ hc => C.load1_of (v := .bool m[i]) hg (by simpa using hc 0 (by simp)) ?_)
    cases hmi : m[i] with
    | true =>
      rw [meetS_at hp (by rw [List.getElem?_eq_getElem lm, hmi])] at hk
      simp only [C.ite_true, C.ite_false, C.pick_true, C.pick_false, C.not_bool, C.field_ptr, C.nilCheck_ptr, C.add_mk, C.sub_mk, C.mul_mk, C.eql_mk, C.neq_mk, C.lss_mk, C.leq_mk, C.gtr_mk, C.geq_mk, C.conv_mk, C.len_mk, C.ext_0, C.ext_1, C.ext3_0, C.ext3_1, C.ext3_2, C.guarded_yes, C.guarded_tf, C.guarded_ft, C.guarded_undef, Bool.not_true, Bool.not_false, Nat.zero_add, eq_self, decide_true, decide_false]
      exact hk w1 mv qv hI1
    | false =>
      have hmf : m[i]? = some false := by rw [List.getElem?_eq_getElem lm, hmi]
      rw [meetS_new hp hmf] at hk
      have hcf := cntF_set hmf
      have hbnd := hI.bnd
      simp only at hbnd
      simp only [C.ite_true, C.ite_false, C.pick_true, C.pick_false, C.not_bool, C.field_ptr, C.nilCheck_ptr, C.add_mk, C.sub_mk, C.mul_mk, C.eql_mk, C.neq_mk, C.lss_mk, C.leq_mk, C.gtr_mk, C.geq_mk, C.conv_mk, C.len_mk, C.ext_0, C.ext_1, C.ext3_0, C.ext3_1, C.ext3_2, C.guarded_yes, C.guarded_tf, C.guarded_ft, C.guarded_undef, Bool.not_true, Bool.not_false, Nat.zero_add, eq_self, decide_true, decide_false]
      refine C.load1_of (v := mv) hI1.h3 rfl (C.storeAt_own hI1.om (by omega) (by rw [Int.toNat_natCast, boolC_len]; exact lm) rfl (by simp [Value.cells, Value.oneCell']) fun w2 ho2 hf2 hz2 => ?_)
      rw [Int.toNat_natCast] at ho2
      have n1 : b1 ∉ blkS mv := hI1.om.nb hI1.hb (by decide)
      have n3 : b3 ∉ blkS mv := hI1.om.nb hI1.h3 (by decide)
      have n4 : b4 ∉ blkS mv := hI1.om.nb hI1.h4 (by decide)
      have n5 : b5 ∉ blkS mv := hI1.om.nb hI1.h5 (by decide)
      have hf02 : Fr [] W0 w2 := hI1.fr.then hf2 fun x hx => .inr (hI1.nm x (mem_blkS.1 hx))
      have oq2 := hI1.oq.keep' hf2 (hI1.oq.ne hI1.om (by decide))
      refine C.load1_of (v := qv) (hf2.at_ hI1.h4 n4) rfl (C.push hf02 hI1.nq oq2 (by show (qI q).length ≤ _; rw [qI_len]; omega) fun qv' w3 hf3 hn3 ho3 hb3 hg3 => ?_)
      have p1 : b1 ∉ blkS qv := oq2.nb (hf2.at_ hI1.hb n1) (by decide)
      have p3 : b3 ∉ blkS qv := oq2.nb (hf2.at_ hI1.h3 n3) (by decide)
      have p4 : b4 ∉ blkS qv := oq2.nb (hf2.at_ hI1.h4 n4) (by decide)
      have p5 : b5 ∉ blkS qv := oq2.nb (hf2.at_ hI1.h5 n5) (by decide)
      have om3 : OwnS w3 mv 4 1 (boolC (m.set i true)) := by
        rw [← boolC_set]
        exact ho2.keep' hb3 fun g hg c => oq2.ne ho2 (by decide) g c hg
      have h43 := hb3.at_ (hf2.at_ hI1.h4 n4) p4
      refine C.store1_of h43 ho3.one.2 ho3.one.1 (by simp) fun w4 hu4 => hk w4 mv qv' ?_
      have om4 : OwnS w4 mv 4 1 (boolC (m.set i true)) := om3.keep' hu4.fr fun g hg c => by
        simp only [List.mem_singleton] at c
        subst c
        exact om3.nb h43 (by decide) hg
      have oq4 : OffS w4 qv' (qI (q ++ [i])) := by
        have : qI (q ++ [i]) = qI q ++ [(i : Int)] := by simp [qI]
        rw [this]
        exact ho3.keep' hu4.fr fun g hg c => by
          simp only [List.mem_singleton] at c
          subst c
          exact ho3.nb h43 (by decide) hg
      exact ⟨hf3.then hu4.fr fun z hz => .inr (by simp only [List.mem_singleton] at hz; omega), hu4.fr.at_ (hb3.at_ (hf2.at_ hI1.hb n1) p1) (by simp; omega), hu4.fr.at_ (hb3.at_ (hf2.at_ hI1.h3 n3) p3) (by simp; omega), om4, hI1.nm, hu4.at_, oq4, hn3, hu4.fr.at_ (hb3.at_ (hf2.at_ hI1.h5 n5) p5) (by simp; omega), hI.lo, by simpa using hml, by simp only [List.length_append, List.length_cons, List.length_nil]; omega⟩
theorem values_loop {W0 : World} {b1 b3 b4 b5 : Nat} {rv nv lv : Value} {V : Vw} {mq : List Bool × List Nat} {l : List Va} (hV : IsV W0 rv nv V) (hn : V.2.length ≤ 4398046511104) (hr : RdS W0 lv 2 (valC l))
    (hk : ∀ w' mv' qv', RI W0 b1 b3 b4 b5 rv nv V (meetsS V.2 (refsOf l) mq) w' mv' qv' → K (.tuple #[]) w') :
    ∀ (d i : Nat) (mv qv : Value) (w : World), l.length = i + d → RI W0 b1 b3 b4 b5 rv nv V (meetsS V.2 (refsOf (l.take i)) mq) w mv qv → F112.l1 K (.pointer (some ⟨b5, 0, none⟩)) lv (.int .i64 (l.length : Int)) (.int .i64 (i : Int)) w := by
  have hle := hr.le
  rw [valC_len] at hle
  intro d
  induction d with
  | zero =>
    intro i mv qv w hi hI
    refine F112.l1.to ?_
    simp only [C.ite_true, C.ite_false, C.pick_true, C.pick_false, C.not_bool, C.field_ptr, C.nilCheck_ptr, C.add_mk, C.sub_mk, C.mul_mk, C.eql_mk, C.neq_mk, C.lss_mk, C.leq_mk, C.gtr_mk, C.geq_mk, C.conv_mk, C.len_mk, C.ext_0, C.ext_1, C.ext3_0, C.ext3_1, C.ext3_2, C.guarded_yes, C.guarded_tf, C.guarded_ft, C.guarded_undef, Bool.not_true, Bool.not_false, Nat.zero_add, eq_self, decide_true, decide_false, show ¬ ((i : Int) < (l.length : Int)) by omega]
    rw [List.take_of_length_le (by omega)] at hI
    exact hk w mv qv hI
  | succ d ih =>
    intro i mv qv w hi hI
    have il : i < l.length := by omega
    have hs := refsOf_succ il
    refine F112.l1.to ?_
    simp only [C.ite_true, C.ite_false, C.pick_true, C.pick_false, C.not_bool, C.field_ptr, C.nilCheck_ptr, C.add_mk, C.sub_mk, C.mul_mk, C.eql_mk, C.neq_mk, C.lss_mk, C.leq_mk, C.gtr_mk, C.geq_mk, C.conv_mk, C.len_mk, C.ext_0, C.ext_1, C.ext3_0, C.ext3_1, C.ext3_2, C.guarded_yes, C.guarded_tf, C.guarded_ft, C.guarded_undef, Bool.not_true, Bool.not_false, Nat.zero_add, eq_self, decide_true, decide_false, show ((i : Int) < (l.length : Int)) by omega]
    have nx : ∀ w' mv' qv', RI W0 b1 b3 b4 b5 rv nv V (meetsS V.2 (refsOf (l.take (i + 1))) mq) w' mv' qv' → F112.k5 K (.pointer (some ⟨b5, 0, none⟩)) lv (.int .i64 (l.length : Int)) (.int .i64 (i : Int)) w' := fun w' mv' qv' hI' => by
      refine F112.k5.to ?_
      simp only [C.ite_true, C.ite_false, C.pick_true, C.pick_false, C.not_bool, C.field_ptr, C.nilCheck_ptr, C.add_mk, C.sub_mk, C.mul_mk, C.eql_mk, C.neq_mk, C.lss_mk, C.leq_mk, C.gtr_mk, C.geq_mk, C.conv_mk, C.len_mk, C.ext_0, C.ext_1, C.ext3_0, C.ext3_1, C.ext3_2, C.guarded_yes, C.guarded_tf, C.guarded_ft, C.guarded_undef, Bool.not_true, Bool.not_false, Nat.zero_add, eq_self, decide_true, decide_false]
      rw [wrap64_id (n := (i : Int) + 1) (by omega), show (i : Int) + 1 = ((i + 1 : Nat) : Int) by omega]
      exact ih (i + 1) mv' qv' w' (by omega) hI'
    refine F112.k2.to (C.idx_rd (hr.keep hI.fr) (by omega) (by rw [Int.toNat_natCast]; exact valC_get il) fun g oo cs e fz hg _ hc => C.loadA_cells (x := [.int .i64 l[i].1, .int .i64 l[i].2]) hg rfl (by omega) hc ?_)
    refine C.new_of fun b w1 hn1 => C.store_all (x := .agg #[.int .i64 l[i].1, .int .i64 l[i].2]) hn1.at_ rfl (by
      intro u hu
      simp [Value.cells] at hu
      rcases hu with rfl | rfl <;> rfl) rfl fun w2 hu2 => ?_
    have i1 := hn1.is
    have f2 : Fr [] w w2 := hn1.fr.then hu2.fr fun z hz => .inr (by simp only [List.mem_singleton] at hz; omega)
    have hb2 : w2.heap[b]? = some (.cells #[.int .i64 l[i].1, .int .i64 l[i].2] 71 (0, 0)) := hu2.at_
    have hI2 := hI.keep f2
    simp only [C.ite_true, C.ite_false, C.pick_true, C.pick_false, C.not_bool, C.field_ptr, C.nilCheck_ptr, C.add_mk, C.sub_mk, C.mul_mk, C.eql_mk, C.neq_mk, C.lss_mk, C.leq_mk, C.gtr_mk, C.geq_mk, C.conv_mk, C.len_mk, C.ext_0, C.ext_1, C.ext3_0, C.ext3_1, C.ext3_2, C.guarded_yes, C.guarded_tf, C.guarded_ft, C.guarded_undef, Bool.not_true, Bool.not_false, Nat.zero_add, eq_self, decide_true, decide_false]
    refine C.load1_of (v := .int .i64 l[i].1) hb2 rfl ?_
    by_cases h2 : l[i].1 = 2
    · simp only [C.ite_true, C.ite_false, C.pick_true, C.pick_false, C.not_bool, C.field_ptr, C.nilCheck_ptr, C.add_mk, C.sub_mk, C.mul_mk, C.eql_mk, C.neq_mk, C.lss_mk, C.leq_mk, C.gtr_mk, C.geq_mk, C.conv_mk, C.len_mk, C.ext_0, C.ext_1, C.ext3_0, C.ext3_1, C.ext3_2, C.guarded_yes, C.guarded_tf, C.guarded_ft, C.guarded_undef, Bool.not_true, Bool.not_false, Nat.zero_add, eq_self, decide_true, decide_false, h2]
      rw [if_pos h2] at hs
      refine C.load1_of (v := .func (.func 111) #[] #[.pointer (some ⟨b1, 0, none⟩), .pointer (some ⟨b3, 0, none⟩), .pointer (some ⟨b4, 0, none⟩)]) hI2.h5 rfl (C.load1_of (v := .int .i64 l[i].2) hb2 rfl (meet_v hV hn hI2 fun w3 mv' qv' hI3 => nx w3 mv' qv' ?_))
      rw [hs, meetsS_app]
      exact hI3
    · simp only [C.ite_true, C.ite_false, C.pick_true, C.pick_false, C.not_bool, C.field_ptr, C.nilCheck_ptr, C.add_mk, C.sub_mk, C.mul_mk, C.eql_mk, C.neq_mk, C.lss_mk, C.leq_mk, C.gtr_mk, C.geq_mk, C.conv_mk, C.len_mk, C.ext_0, C.ext_1, C.ext3_0, C.ext3_1, C.ext3_2, C.guarded_yes, C.guarded_tf, C.guarded_ft, C.guarded_undef, Bool.not_true, Bool.not_false, Nat.zero_add, eq_self, decide_true, decide_false, h2]
      rw [if_neg h2, List.append_nil] at hs
      refine nx w2 mv qv ?_
      rw [hs]
      exact hI2
theorem values_v {W0 : World} {b1 b3 b4 b5 : Nat} {rv nv lv mv qv : Value} {V : Vw} {mq : List Bool × List Nat} {l : List Va} (hV : IsV W0 rv nv V) (hn : V.2.length ≤ 4398046511104) (hr : RdS W0 lv 2 (valC l)) (hI : RI W0 b1 b3 b4 b5 rv nv V mq w mv qv)
    (hk : ∀ w' mv' qv', RI W0 b1 b3 b4 b5 rv nv V (meetsS V.2 (refsOf l) mq) w' mv' qv' → K (.tuple #[]) w') : vcCall Try.prog (.func (.func 112) #[] #[.pointer (some ⟨b5, 0, none⟩)]) [lv] w K := by
  refine vcCall_of bodied112 (F112.sh (C.len_rd hr ?_))
  rw [valC_len]
  exact values_loop hV hn hr hk l.length 0 mv qv w (by omega) hI
theorem reach_loop {W0 : World} {b1 b3 b4 b5 : Nat} {rv nv : Value} {V : Vw} (hV : IsV W0 rv nv V) (hn : V.2.length ≤ 4398046511104) (h : ∀ v' w', Fr [] W0 w' → NewS W0 v' → OwnS w' v' 4 1 (boolC (metL V)) → K v' w') :
    ∀ (d : Nat) (m : List Bool) (q : List Nat) (mv qv : Value) (w : World), cntF m + q.length = d → RI W0 b1 b3 b4 b5 rv nv V (m, q) w mv qv → Wy V m q → (∀ s ∈ seeds V, ∀ i, plc V.2 s = some i → m[i]? = some true) →
      F68.l11 K (.pointer (some ⟨b1, 0, none⟩)) (.pointer (some ⟨b3, 0, none⟩)) (.pointer (some ⟨b4, 0, none⟩)) (.func (.func 112) #[] #[.pointer (some ⟨b5, 0, none⟩)]) w := by
  have fin : ∀ (m : List Bool) (mv qv : Value) (w : World), RI W0 b1 b3 b4 b5 rv nv V (m, []) w mv qv → Wy V m [] → (∀ s ∈ seeds V, ∀ i, plc V.2 s = some i → m[i]? = some true) →
      F68.l11 K (.pointer (some ⟨b1, 0, none⟩)) (.pointer (some ⟨b3, 0, none⟩)) (.pointer (some ⟨b4, 0, none⟩)) (.func (.func 112) #[] #[.pointer (some ⟨b5, 0, none⟩)]) w := fun m mv qv w hI hW hs => by
    refine F68.l11.to (C.load1_of (v := qv) hI.h4 rfl (C.len_rd hI.oq.rd ?_))
    simp only [qI, qC, List.map_nil, List.length_nil, C.ite_true, C.ite_false, C.pick_true, C.pick_false, C.not_bool, C.field_ptr, C.nilCheck_ptr, C.add_mk, C.sub_mk, C.mul_mk, C.eql_mk, C.neq_mk, C.lss_mk, C.leq_mk, C.gtr_mk, C.geq_mk, C.conv_mk, C.len_mk, C.ext_0, C.ext_1, C.ext3_0, C.ext3_1, C.ext3_2, C.guarded_yes, C.guarded_tf, C.guarded_ft, C.guarded_undef, Bool.not_true, Bool.not_false, Nat.zero_add, eq_self, decide_true, decide_false, show ¬ (((0 : Nat) : Int) > 0) by omega]
    refine F68.k15.to (C.load1_of (v := mv) hI.h3 rfl (h mv w hI.fr hI.nm ?_))
    have := hI.om
    rwa [wy_end hW hs] at this
  intro d
  induction d with
  | zero =>
    intro m q mv qv w hd hI hW hs
    obtain rfl : q = [] := List.eq_nil_of_length_eq_zero (by omega)
    exact fin m mv qv w hI hW hs
  | succ d ih =>
    intro m q mv qv w hd hI hW hs
    cases q with
    | nil => exact fin m mv qv w hI hW hs
    | cons i q =>
      have hri := hW.snd i (hW.qm i (by simp))
      have li := hri.lt
      have hni : V.2[i]? = some V.2[i] := List.getElem?_eq_getElem li
      obtain ⟨l1, l2, l3, l4, l5, l6, l7⟩ := hI.lo
      have hqi : qI (i :: q) = (i : Int) :: qI q := rfl
      have hoq := hI.oq
      simp only at hoq
      rw [hqi] at hoq
      refine F68.l11.to (C.load1_of (v := qv) hI.h4 rfl (C.len_rd hoq.rd ?_))
      have hlen : ((qC ((i : Int) :: qI q)).length : Int) > 0 := by simp [qC]
      simp only [C.ite_true, C.ite_false, C.pick_true, C.pick_false, C.not_bool, C.field_ptr, C.nilCheck_ptr, C.add_mk, C.sub_mk, C.mul_mk, C.eql_mk, C.neq_mk, C.lss_mk, C.leq_mk, C.gtr_mk, C.geq_mk, C.conv_mk, C.len_mk, C.ext_0, C.ext_1, C.ext3_0, C.ext3_1, C.ext3_2, C.guarded_yes, C.guarded_tf, C.guarded_ft, C.guarded_undef, Bool.not_true, Bool.not_false, Nat.zero_add, eq_self, decide_true, decide_false, hlen]
      refine F68.k12.to (C.load1_of (v := qv) hI.h4 rfl (C.idx_rd (x := [.int .i64 (i : Int)]) hoq.rd (by omega) rfl fun g oo cs e' fz hg _ hc => C.load1_of (v := .int .i64 (i : Int)) hg (by simpa using hc 0 (by simp)) (C.load1_of (v := qv) hI.h4 rfl (C.pop hoq fun qv' hq' hg' => ?_))))
      refine C.store1_of hI.h4 hq'.one.2 hq'.one.1 (by simp) fun w1 hu1 => ?_
      have hI1 : RI W0 b1 b3 b4 b5 rv nv V (m, q) w1 mv qv' := ⟨hI.fr.then hu1.fr fun z hz => .inr (by simp only [List.mem_singleton] at hz; omega), hu1.fr.at_ hI.hb (by simp; omega), hu1.fr.at_ hI.h3 (by simp; omega), hI.om.keep' hu1.fr fun z hz c => by
          simp only [List.mem_singleton] at c
          subst c
          exact hI.om.nb hI.h4 (by decide) hz, hI.nm, hu1.at_, hq'.keep' hu1.fr fun z hz c => by
          simp only [List.mem_singleton] at c
          subst c
          exact hq'.nb hI.h4 (by decide) hz, fun z hz => hI.nq z (mem_blkS.1 (hg' z (mem_blkS.2 hz))), hu1.fr.at_ hI.h5 (by simp; omega), hI.lo, hI.ml, by have := hI.bnd; simp only [List.length_cons] at this; simp only; omega⟩
      refine hI1.hb.f1 (hV.nodes.getS hI1.fr li fun g oo f hr hs0 hs1 => ?_)
      simp only [C.ite_true, C.ite_false, C.pick_true, C.pick_false, C.not_bool, C.field_ptr, C.nilCheck_ptr, C.add_mk, C.sub_mk, C.mul_mk, C.eql_mk, C.neq_mk, C.lss_mk, C.leq_mk, C.gtr_mk, C.geq_mk, C.conv_mk, C.len_mk, C.ext_0, C.ext_1, C.ext3_0, C.ext3_1, C.ext3_2, C.guarded_yes, C.guarded_tf, C.guarded_ft, C.guarded_undef, Bool.not_true, Bool.not_false, Nat.zero_add, eq_self, decide_true, decide_false]
      obtain ⟨cs, e', fz, hg, h1⟩ := hs1 w1 hI1.fr
      refine C.load1_of hg h1 (values_v hV hn hr hI1 fun w2 mv' qv'' hI2 => ?_)
      obtain ⟨p1, p2, p3⟩ := wy_pop hW hni
      refine ih (meetsS V.2 (refsOf V.2[i].2) (m, q)).1 (meetsS V.2 (refsOf V.2[i].2) (m, q)).2 mv' qv'' w2 (p2.trans (by simp only [List.length_cons] at hd; omega)) hI2 p1 fun s hs' k hk => p3 k (hs s hs' k hk)
theorem reach_rows {W0 : World} {b1 b3 b4 b5 : Nat} {rv nv : Value} {V : Vw} (hV : IsV W0 rv nv V) (hn : V.2.length ≤ 4398046511104) (h : ∀ v' w', Fr [] W0 w' → NewS W0 v' → OwnS w' v' 4 1 (boolC (metL V)) → K v' w') :
    ∀ (d j : Nat) (mv qv : Value) (w : World), V.1.length = j + d → RI W0 b1 b3 b4 b5 rv nv V (meetsS V.2 (0 :: (V.1.take j).flatMap refsOf) (List.replicate V.2.length false, [])) w mv qv →
      F68.l7 K (.pointer (some ⟨b1, 0, none⟩)) (.pointer (some ⟨b3, 0, none⟩)) (.pointer (some ⟨b4, 0, none⟩)) (.func (.func 112) #[] #[.pointer (some ⟨b5, 0, none⟩)]) rv (.int .i64 (V.1.length : Int)) (.int .i64 (j : Int)) w := by
  have hle := hV.rows.le
  intro d
  induction d with
  | zero =>
    intro j mv qv w hj hI
    refine F68.l7.to ?_
    simp only [C.ite_true, C.ite_false, C.pick_true, C.pick_false, C.not_bool, C.field_ptr, C.nilCheck_ptr, C.add_mk, C.sub_mk, C.mul_mk, C.eql_mk, C.neq_mk, C.lss_mk, C.leq_mk, C.gtr_mk, C.geq_mk, C.conv_mk, C.len_mk, C.ext_0, C.ext_1, C.ext3_0, C.ext3_1, C.ext3_2, C.guarded_yes, C.guarded_tf, C.guarded_ft, C.guarded_undef, Bool.not_true, Bool.not_false, Nat.zero_add, eq_self, decide_true, decide_false, show ¬ ((j : Int) < (V.1.length : Int)) by omega]
    rw [List.take_of_length_le (by omega)] at hI
    have hw := meetsS_wy (l := seeds V) (wy_0 V) fun s hs i hi => .seed hs hi
    exact F68.k11.to (reach_loop hV hn h _ (meetsS V.2 (seeds V) (List.replicate V.2.length false, [])).1 (meetsS V.2 (seeds V) (List.replicate V.2.length false, [])).2 mv qv w rfl hI hw.1 hw.2.2.2)
  | succ d ih =>
    intro j mv qv w hj hI
    have jl : j < V.1.length := by omega
    refine F68.l7.to ?_
    simp only [C.ite_true, C.ite_false, C.pick_true, C.pick_false, C.not_bool, C.field_ptr, C.nilCheck_ptr, C.add_mk, C.sub_mk, C.mul_mk, C.eql_mk, C.neq_mk, C.lss_mk, C.leq_mk, C.gtr_mk, C.geq_mk, C.conv_mk, C.len_mk, C.ext_0, C.ext_1, C.ext3_0, C.ext3_1, C.ext3_2, C.guarded_yes, C.guarded_tf, C.guarded_ft, C.guarded_undef, Bool.not_true, Bool.not_false, Nat.zero_add, eq_self, decide_true, decide_false, show ((j : Int) < (V.1.length : Int)) by omega]
    refine F68.k8.to (hV.rows.getS hI.fr jl fun g o v hr hs => ?_)
    obtain ⟨cs, e, fz, hg, hc⟩ := hs w hI.fr
    refine C.load1_of hg hc (values_v hV hn hr hI fun w1 mv' qv' hI1 => F68.k10.to ?_)
    simp only [C.ite_true, C.ite_false, C.pick_true, C.pick_false, C.not_bool, C.field_ptr, C.nilCheck_ptr, C.add_mk, C.sub_mk, C.mul_mk, C.eql_mk, C.neq_mk, C.lss_mk, C.leq_mk, C.gtr_mk, C.geq_mk, C.conv_mk, C.len_mk, C.ext_0, C.ext_1, C.ext3_0, C.ext3_1, C.ext3_2, C.guarded_yes, C.guarded_tf, C.guarded_ft, C.guarded_undef, Bool.not_true, Bool.not_false, Nat.zero_add, eq_self, decide_true, decide_false]
    rw [wrap64_id (n := (j : Int) + 1) (by omega), show (j : Int) + 1 = ((j + 1 : Nat) : Int) by omega]
    refine ih (j + 1) mv' qv' w1 (by omega) ?_
    have e : 0 :: (V.1.take (j + 1)).flatMap refsOf = (0 :: (V.1.take j).flatMap refsOf) ++ refsOf V.1[j] := by
      rw [List.take_succ_eq_append_getElem jl, List.flatMap_append]
      simp
    rw [e, meetsS_app]
    exact hI1
theorem cntF_rep : ∀ n, cntF (List.replicate n false) = n
  | 0 => rfl
  | n + 1 => by rw [List.replicate_succ]; simp only [cntF]; rw [cntF_rep n, if_neg Bool.false_ne_true]; omega
theorem reach_c {rv nv : Value} {V : Vw} (hV : IsV w rv nv V) (hF : FitV V) (h : ∀ v' w', Fr [] w w' → NewS w v' → OwnS w' v' 4 1 (boolC (metL V)) → K v' w') : C.call Try.prog 68 #[.agg #[rv, nv]] w K := by
  have hfit := hF.nodes
  refine F68.sh (VB.new hV fun b1 w1 hf1 hb10 hb1 hV1 => hb1.f1 (hV.nodes.len ?_))
  refine C.make_of (t := 55) (e := 4) (sz := 1) (bytes := 1) (z := .bool false) V.2.length Try.underlying55 (by kernel_rfl) rfl (by decide) (by simp [Value.cells, Value.oneCell']) (by omega) (by omega) fun gy w2 hn2 ho2 => ?_
  have e0 : List.replicate V.2.length (Value.cells (.bool false)).toList = boolC (List.replicate V.2.length false) := by simp [boolC, Value.cells]
  rw [e0] at ho2
  have f2 := hf1.trans hn2.fr
  have hb12 := hb1.keep hn2.fr (by simp)
  have i2 := hn2.is
  have z1 := hf1.size
  have z2 := hn2.sz
  have l1 := lt_of_at hb1
  refine C.new_of fun b3 w3 hn3 => C.store1_of hn3.at_ ho2.one.2 ho2.one.1 (by simp) fun w4 hu4 => C.new_of fun b4 w5 hn5 => C.new_of fun b5 w6 hn6 => C.store1_of hn6.at_ rfl rfl (by simp) fun w7 hu7 => ?_
  have i3 := hn3.is
  have z3 := hn3.sz
  have z4 := hu4.sz
  have i5 := hn5.is
  have z5 := hn5.sz
  have i6 := hn6.is
  have g34 : Fr [] w2 w4 := hn3.fr.then hu4.fr fun z hz => .inr (by simp only [List.mem_singleton] at hz; omega)
  have f4 : Fr [] w w4 := f2.trans g34
  have g57 : Fr [] w4 w7 := (hn5.fr.trans hn6.fr).then hu7.fr fun z hz => .inr (by simp only [List.mem_singleton] at hz; omega)
  have f7 : Fr [] w w7 := f4.trans g57
  have h3 : w7.heap[b3]? = some (.cells #[.slice (some ⟨gy, 0, none⟩) V.2.length V.2.length] 55 (0, 0)) := g57.at_ hu4.at_ (by simp)
  have h4 : w7.heap[b4]? = some (.cells #[.slice none 0 0] 34 (0, 0)) := hu7.fr.at_ (hn6.fr.at_ hn5.at_ (by simp)) (by simp; omega)
  have hI : RI w b1 b3 b4 b5 rv nv V (List.replicate V.2.length false, []) w7 (.slice (some ⟨gy, 0, none⟩) V.2.length V.2.length) (.slice none 0 0) :=
    ⟨f7, (hb12.keep g34 (by simp)).keep g57 (by simp), h3, (ho2.keep g34 (by simp)).keep g57 (by simp), fun g hg => by simp only [Value.ownBlock, Option.some.injEq] at hg; omega, h4, OffS.nil _, NewS.nil _, hu7.at_, ⟨by omega, by omega, by omega, by omega, by omega, by omega, by omega⟩, by simp, by simp [cntF_rep]⟩
  refine C.load1_of (v := .func (.func 111) #[] #[.pointer (some ⟨b1, 0, none⟩), .pointer (some ⟨b3, 0, none⟩), .pointer (some ⟨b4, 0, none⟩)]) hI.h5 rfl (meet_v hV (by omega) hI fun w8 mv' qv' hI8 => ?_)
  refine hI8.hb.f0 (hV.rows.len (reach_rows hV (by omega) h V.1.length 0 mv' qv' w8 (by omega) ?_))
  exact hI8
end
end Go.Proofs.YtfdpmgddlaamcaaV
