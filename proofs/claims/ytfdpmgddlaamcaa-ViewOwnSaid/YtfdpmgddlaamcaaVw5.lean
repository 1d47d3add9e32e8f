/- Views, cloned: what the call comes to. -/
import Derived.Test.YtfdpmgddlaamcaaVw4
namespace Go.Proofs.YtfdpmgddlaamcaaV
open Go Go.Proofs Go.RowKit
set_option linter.unusedVariables false
set_option linter.unusedSimpArgs false
set_option maxRecDepth 10000
/-- What stands while nodes are cloned. -/
structure CN (W0 : World) (b2 b3 : Nat) (L : List (List Va)) (N : List Nd) (w : World) (r x : Value) (vs fs : List Value) : Prop where
  fr : Fr [] W0 w
  h2 : w.heap[b2]? = some (.cells #[.slice none 0 0, .slice none 0 0] 51 (0, 0))
  h3 : w.heap[b3]? = some (.cells #[r, x] 51 (0, 0))
  lo : W0.heap.size ≤ b2 ∧ W0.heap.size ≤ b3 ∧ b3 ≠ b2
  ownR : OwnRows W0.heap.size w r L vs
  own : OwnNodes W0.heap.size w x N fs
theorem CN.keep {W0 w w' : World} {b2 b3 : Nat} {r x : Value} {L : List (List Va)} {N : List Nd} {vs fs : List Value} (h : CN W0 b2 b3 L N w r x vs fs) (hf : Fr [] w w') : CN W0 b2 b3 L N w' r x vs fs :=
  ⟨h.fr.trans hf, hf.at_ h.h2 (by simp), hf.at_ h.h3 (by simp), h.lo, h.ownR.keep hf fun g hg => by simp at hg, h.own.keep hf fun g hg => by simp at hg⟩
section
variable {K : VK} {w : World}
theorem CN.app {W0 : World} {b2 b3 : Nat} {r x : Value} {L : List (List Va)} {N : List Nd} {nd : Nd} {vs fs : List Value} {g b7 : Nat} {v : Value} {o7 : Obj} (h : CN W0 b2 b3 L N w r x vs fs) (hg : w.heap[g]? = some (.cells #[.int .i64 nd.1, v] 61 (0, 0))) (hv : OwnS w v 71 2 (valC nd.2)) (hvl : ∀ g ∈ blkS v, W0.heap.size ≤ g) (hL : (N.length + 1) * 32 ≤ 140737488355328)
    (h7 : w.heap[b7]? = some o7) (h70 : b7 ≠ b3) (h7x : b7 ∉ blkS x) {F G : World → Prop}
    (hk : ∀ w' x' fs', CN W0 b2 b3 L (N ++ [nd]) w' r x' vs fs' → w'.heap[b7]? = some o7 → F w') (hG : ∀ w', w'.heap[b7]? = some o7 → G w') : C.run Try.prog (Builtin.append_ #[49, 49] 49 #[x, .slice (some ⟨g, 0, none⟩) 1 1]) w fun y w1 => (G w1 ∧ C.store 1 (.pointer (some ⟨b3, 1, none⟩)) y w1 fun w2 => (G w2 ∧ F w2)) := by
  have hone := hv.one
  obtain ⟨l1, l2, l3⟩ := h.lo
  refine C.appN (W0 := W0) (xs := ndC N fs) (ys := [[.int .i64 nd.1, v]]) (e := 61) (sz := 2) (bytes := 32) (z := .agg #[.int .i64 0, .slice none 0 0]) Try.underlying49 (by kernel_rfl) rfl (by decide) h.fr (fun g hg => h.own.ge g (mem_blkS.2 hg)) h.own.sp (RdS.of_block hg rfl (by simp) (by simp) (by simp) (by simp))
    (by
      intro y hy u hu
      simp only [List.mem_singleton] at hy
      subst hy
      simp only [List.mem_cons, List.not_mem_nil, or_false] at hu
      rcases hu with rfl | rfl
      · rfl
      · exact hone.1)
    (by rw [ndC_len h.own.len]; simpa using hL) (by rw [ndC_len h.own.len]; simp; omega) fun x' w1 hf1 hn1 ho1 hb1 hg1 => ?_
  have n2 : b2 ∉ blkS x := h.own.sp.nb h.h2 (by decide)
  have n3 : b3 ∉ blkS x := h.own.sp.nb h.h3 (by decide)
  have h71 := hb1.at_ h7 h7x
  refine ⟨hG w1 h71, C.store1_of (hb1.at_ h.h3 n3) ho1.one.2 ho1.one.1 (by simp) fun w2 hu2 => ?_⟩
  have h72 := hu2.fr.at_ h71 (by simp; exact h70)
  refine ⟨hG w2 h72, hk w2 x' (fs ++ [v]) ?_ h72⟩
  have own1 := h.own.snoc h.fr.size hb1 hg1 ho1 hv hvl
  have ownR1 := h.ownR.keep hb1 fun z hz => .inr (.inr (by
    obtain ⟨⟨_, q3⟩, _⟩ := h.own.sp
    rcases q3 with ⟨rfl, _⟩ | ⟨k, cap, cur, rfl, _, hh, _⟩
    · simp [blkS, Value.ownBlock] at hz
    · simp [blkS, Value.ownBlock] at hz
      subst hz
      exact ⟨_, _, _, hh, by decide, by decide⟩))
  have e3 : ∀ z ∈ [b3], z < W0.heap.size ∨ w1.heap.size ≤ z ∨ ∃ cs e fz, w1.heap[z]? = some (.cells cs e fz) ∧ e ≠ 59 ∧ e ≠ 71 := fun z hz => by
    simp only [List.mem_singleton] at hz
    subst hz
    exact .inr (.inr ⟨_, _, _, hb1.at_ h.h3 n3, by decide, by decide⟩)
  have e3' : ∀ z ∈ [b3], z < W0.heap.size ∨ w1.heap.size ≤ z ∨ ∃ cs e fz, w1.heap[z]? = some (.cells cs e fz) ∧ e ≠ 61 ∧ e ≠ 71 := fun z hz => by
    simp only [List.mem_singleton] at hz
    subst hz
    exact .inr (.inr ⟨_, _, _, hb1.at_ h.h3 n3, by decide, by decide⟩)
  exact ⟨hf1.then hu2.fr fun z hz => .inr (by simp only [List.mem_singleton] at hz; omega), hu2.fr.at_ (hb1.at_ h.h2 n2) (by simp; omega), hu2.at_, h.lo, ownR1.keep hu2.fr e3, own1.keep hu2.fr e3'⟩
theorem Clone_nodes {W0 : World} {rv nv r : Value} {V : Vw} {b2 b3 : Nat} {vs : List Value} (hV : IsV W0 rv nv V) (hF : FitV V) (h : ∀ w' x fs, Fr [] W0 w' → OwnRows W0.heap.size w' r V.1 vs → OwnNodes W0.heap.size w' x V.2 fs → K (.agg #[r, x]) w') :
    ∀ (d j : Nat) (w : World) (x : Value) (fs : List Value), V.2.length = j + d → CN W0 b2 b3 V.1 (V.2.take j) w r x vs fs → F36.l8 K (.pointer (some ⟨b2, 0, none⟩)) (.pointer (some ⟨b3, 0, none⟩)) nv (.int .i64 (V.2.length : Int)) (.int .i64 (j : Int)) w := by
  have hle := hV.nodes.le
  have hfit := hF.nodes
  intro d
  induction d with
  | zero =>
    intro j w x fs hj hc
    refine F36.l8.to ?_
    simp only [C.ite_true, C.ite_false, C.pick_true, C.pick_false, C.not_bool, C.field_ptr, C.nilCheck_ptr, C.add_mk, C.sub_mk, C.mul_mk, C.eql_mk, C.neq_mk, C.lss_mk, C.leq_mk, C.gtr_mk, C.geq_mk, C.conv_mk, C.len_mk, C.ext_0, C.ext_1, C.ext3_0, C.ext3_1, C.ext3_2, C.guarded_yes, C.guarded_tf, C.guarded_ft, C.guarded_undef, Bool.not_true, Bool.not_false, Nat.zero_add, eq_self, decide_true, decide_false, show ¬ ((j : Int) < (V.2.length : Int)) by omega]
    rw [List.take_of_length_le (by omega)] at hc
    obtain ⟨l1, l2, l3⟩ := hc.lo
    have e : Value.cells (.agg #[r, x]) = #[r, x] := by simp [Value.cells, hc.ownR.sp.one.2, hc.own.sp.one.2]
    refine F36.k12.to (C.loadA_all hc.h3 rfl (C.store_all (x := .agg #[r, x]) hc.h2 (by rw [e]; rfl) (by
      rw [e]
      intro u hu
      simp only [List.mem_cons, List.not_mem_nil, or_false] at hu
      rcases hu with rfl | rfl
      · exact hc.ownR.sp.one.1
      · exact hc.own.sp.one.1) rfl fun w2 hu2 => ?_))
    have hb := hu2.at_
    rw [e] at hb
    refine C.loadA_all hb rfl (h w2 x fs (hc.fr.then hu2.fr fun z hz => .inr (by simp only [List.mem_singleton] at hz; omega)) (hc.ownR.keep hu2.fr fun z hz => ?_) (hc.own.keep hu2.fr fun z hz => ?_))
    · simp only [List.mem_singleton] at hz
      subst hz
      exact .inr (.inr ⟨_, _, _, hc.h2, by decide, by decide⟩)
    · simp only [List.mem_singleton] at hz
      subst hz
      exact .inr (.inr ⟨_, _, _, hc.h2, by decide, by decide⟩)
  | succ d ih =>
    intro j w x fs hj hc
    have jl : j < V.2.length := by omega
    have hlen : (V.2.take j).length = j := by simp; omega
    refine F36.l8.to ?_
    simp only [C.ite_true, C.ite_false, C.pick_true, C.pick_false, C.not_bool, C.field_ptr, C.nilCheck_ptr, C.add_mk, C.sub_mk, C.mul_mk, C.eql_mk, C.neq_mk, C.lss_mk, C.leq_mk, C.gtr_mk, C.geq_mk, C.conv_mk, C.len_mk, C.ext_0, C.ext_1, C.ext3_0, C.ext3_1, C.ext3_2, C.guarded_yes, C.guarded_tf, C.guarded_ft, C.guarded_undef, Bool.not_true, Bool.not_false, Nat.zero_add, eq_self, decide_true, decide_false, show ((j : Int) < (V.2.length : Int)) by omega]
    refine F36.k9.to ((hV.nodes.keep hc.fr).get jl fun g o cs e fz f hg h0 h1 hr => loadNd hg h0 h1 (C.putNd hr fun b7 w1 hf1 hb70 hb7 => ?_))
    have hc1 := hc.keep hf1
    refine C.draw_of (fun w' => w'.heap[b7]? = some (.cells #[.int .i64 V.2[j].1, f] 61 (0, 0))) fun w2 hf2 he2 => ⟨by rw [he2]; exact hb7, ?_⟩
    have hb72 : w2.heap[b7]? = some (.cells #[.int .i64 V.2[j].1, f] 61 (0, 0)) := by rw [he2]; exact hb7
    have hc2 := hc1.keep hf2
    have hr2 := (hr.keep hf1).keep hf2
    have l3 := lt_of_at hc.h3
    have h73 : b7 ≠ b3 := by omega
    have h7x : b7 ∉ blkS x := fun c => by have := hc.own.sp.mem_lt b7 c; omega
    simp only [C.ite_true, C.ite_false, C.pick_true, C.pick_false, C.not_bool, C.field_ptr, C.nilCheck_ptr, C.add_mk, C.sub_mk, C.mul_mk, C.eql_mk, C.neq_mk, C.lss_mk, C.leq_mk, C.gtr_mk, C.geq_mk, C.conv_mk, C.len_mk, C.ext_0, C.ext_1, C.ext3_0, C.ext3_1, C.ext3_2, C.guarded_yes, C.guarded_tf, C.guarded_ft, C.guarded_undef, Bool.not_true, Bool.not_false, Nat.zero_add, eq_self, decide_true, decide_false, and_true]
    refine C.loadAS_of (vs := [.int .i64 V.2[j].1, f]) (fun w' hw => ⟨_, _, _, hw, by simp, by simp⟩) ?_
    have nx : ∀ w' x' fs', CN W0 b2 b3 V.1 (V.2.take j ++ [V.2[j]]) w' r x' vs fs' → F36.k11 K (.pointer (some ⟨b2, 0, none⟩)) (.pointer (some ⟨b3, 0, none⟩)) nv (.int .i64 (V.2.length : Int)) (.int .i64 (j : Int)) w' := fun w' x' fs' hc' => by
      refine F36.k11.to ?_
      simp only [C.ite_true, C.ite_false, C.pick_true, C.pick_false, C.not_bool, C.field_ptr, C.nilCheck_ptr, C.add_mk, C.sub_mk, C.mul_mk, C.eql_mk, C.neq_mk, C.lss_mk, C.leq_mk, C.gtr_mk, C.geq_mk, C.conv_mk, C.len_mk, C.ext_0, C.ext_1, C.ext3_0, C.ext3_1, C.ext3_2, C.guarded_yes, C.guarded_tf, C.guarded_ft, C.guarded_undef, Bool.not_true, Bool.not_false, Nat.zero_add, eq_self, decide_true, decide_false]
      rw [wrap64_id (n := (j : Int) + 1) (by omega), show (j : Int) + 1 = ((j + 1 : Nat) : Int) by omega]
      exact ih (j + 1) w' x' fs' (by omega) (by rw [List.take_succ_eq_append_getElem jl]; exact hc')
    have cl : ∀ {F : VK}, (∀ A n c w3, CN W0 b2 b3 V.1 (V.2.take j) w3 r x vs fs → w3.heap[b7]? = some (.cells #[.int .i64 V.2[j].1, f] 61 (0, 0)) → OwnS w3 (.slice A n c) 71 2 (valC V.2[j].2) → (∀ g ∈ blkS (.slice A n c), W0.heap.size ≤ g) → F (.agg #[.int .i64 V.2[j].1, .slice A n c]) w3) → C.call Try.prog 73 #[.agg #[.int .i64 V.2[j].1, f]] w2 F := fun hk => own_c hr2 (hF.fld j jl) fun v' w3 hf3 ho hn => by
      obtain ⟨A, c, rfl, _⟩ := ho.cap
      exact hk _ _ _ w3 (hc2.keep hf3) (hf3.at_ hb72 (by simp)) ho fun g hg => by have := hn g hg; have := hc2.fr.size; omega
    have fin : ∀ A n c w3 w4, CN W0 b2 b3 V.1 (V.2.take j) w3 r x vs fs → w3.heap[b7]? = some (.cells #[.int .i64 V.2[j].1, f] 61 (0, 0)) → OwnS w3 (.slice A n c) 71 2 (valC V.2[j].2) → (∀ g ∈ blkS (.slice A n c), W0.heap.size ≤ g) → w4 = w3.alloc (.cells #[.int .i64 V.2[j].1, .slice A n c] 61) →
        C.run Try.prog (Builtin.append_ #[49, 49] 49 #[x, .slice (some ⟨w3.heap.size, 0, none⟩) 1 1]) w4 fun y w5 => (w5.heap[b7]? = some (.cells #[.int .i64 V.2[j].1, f] 61 (0, 0)) ∧ C.store 1 (.pointer (some ⟨b3, 1, none⟩)) y w5 fun w6 => (w6.heap[b7]? = some (.cells #[.int .i64 V.2[j].1, f] 61 (0, 0)) ∧ F36.k11 K (.pointer (some ⟨b2, 0, none⟩)) (.pointer (some ⟨b3, 0, none⟩)) nv (.int .i64 (V.2.length : Int)) (.int .i64 (j : Int)) w6)) := fun A n c w3 w4 hc3 h7 ho hlo e => by
      subst e
      have hn := New.mk' w3 (.cells #[.int .i64 V.2[j].1, .slice A n c] 61)
      exact (hc3.keep hn.fr).app hn.at_ (ho.keep hn.fr (by simp)) hlo (by rw [hlen]; omega) (hn.fr.at_ h7 (by simp)) h73 h7x (fun w' x' fs' hc' _ => nx w' x' fs' hc') fun w' hw => hw
    have al : ∀ (A : Option Addr) (n c : Nat) (w3 : World), w3.heap[b7]? = some (.cells #[.int .i64 V.2[j].1, f] 61 (0, 0)) → (w3.alloc (.cells #[.int .i64 V.2[j].1, .slice A n c] 61)).heap[b7]? = some (.cells #[.int .i64 V.2[j].1, f] 61 (0, 0)) := fun A n c w3 h7 => (New.mk' w3 (.cells #[.int .i64 V.2[j].1, .slice A n c] 61)).fr.at_ h7 (by simp)
    refine ⟨C.load1_of (v := x) hc2.h3 rfl ⟨hb72, cl fun A n c w3 hc3 h7 ho hlo => ⟨h7, C.run_of (bs49 _ A n c) ⟨al A n c w3 h7, fin A n c w3 _ hc3 h7 ho hlo rfl⟩⟩⟩, cl fun A n c w3 hc3 h7 ho hlo => ⟨h7, ⟨C.load1_of (v := x) hc3.h3 rfl ⟨h7, C.run_of (bs49 _ A n c) ⟨al A n c w3 h7, fin A n c w3 _ hc3 h7 ho hlo rfl⟩⟩, C.run_of (bs49 _ A n c) ⟨al A n c w3 h7, C.load1_of (v := x) ((hc3.keep (New.mk' w3 (.cells #[.int .i64 V.2[j].1, .slice A n c] 61)).fr).h3) rfl ⟨al A n c w3 h7, fin A n c w3 _ hc3 h7 ho hlo rfl⟩⟩⟩⟩⟩
theorem Clone_c {rv nv : Value} {V : Vw} (hV : IsV w rv nv V) (hF : FitV V) (h : ∀ w' r x vs fs, Fr [] w w' → OwnRows w.heap.size w' r V.1 vs → OwnNodes w.heap.size w' x V.2 fs → K (.agg #[r, x]) w') : C.call Try.prog 36 #[.agg #[rv, nv]] w K := by
  refine F36.sh (VB.new hV fun b1 w1 hf1 hb10 hb1 hV1 => C.new_of fun b2 w2 hn2 => C.new_of fun b3 w3 hn3 => ?_)
  have i2 := hn2.is
  have i3 := hn3.is
  have z2 := hn2.sz
  have z1 := hf1.size
  have l1 := lt_of_at hb1
  have f2 := hf1.trans hn2.fr
  have f3 := f2.trans hn3.fr
  have hb13 := (hb1.keep hn2.fr (by simp)).keep hn3.fr (by simp)
  refine hb13.f0 (hV.rows.len ?_)
  refine Clone_rows (W0 := w) hV hF (fun w4 x vs hc => ?_) V.1.length 0 w3 (.slice none 0 0) [] (by omega) ⟨f3, hb13, hn3.fr.at_ hn2.at_ (by simp), hn3.at_, ⟨by omega, by omega, by omega, by omega⟩, ⟨OwnS.nil _ _ _, fun g hg => by simp [blkS, Value.ownBlock] at hg, rfl, fun i a b => by simp at b⟩⟩
  refine F36.k7.to (hc.h1.f1 (hV.nodes.len ?_))
  obtain ⟨q1, q2, q3, q4⟩ := hc.lo
  exact Clone_nodes (W0 := w) hV hF (fun w' x' fs a b c => h w' x x' vs fs a b c) V.2.length 0 w4 (.slice none 0 0) [] (by omega) ⟨hc.fr, hc.h2, hc.h3, ⟨q1, q2, q4⟩, hc.own, ⟨rfl, OwnS.nil _ _ _, fun g hg => by simp [blkS, Value.ownBlock] at hg, fun i a b => by simp at b⟩⟩
end
end Go.Proofs.YtfdpmgddlaamcaaV
