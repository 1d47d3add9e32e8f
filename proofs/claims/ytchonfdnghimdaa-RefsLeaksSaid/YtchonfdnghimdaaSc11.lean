/- Rings, Same, by the program. -/
import Derived.Test.YtchonfdnghimdaaSc10
namespace Go.Proofs.YtchonfdnghimdaaV
open Go Go.Proofs Go.RowKit
set_option linter.unusedVariables false
set_option linter.unusedSimpArgs false
set_option maxRecDepth 10000
/-! ### 1. Plain -/
def rcond (G : Gr) (p : List Nat) : Bool := decide (1 < p.length) || G.edge (hd0 p) (hd0 p)
theorem rings_are (G : Gr) : srt (natI ((G.parts.filter (rcond G)).flatten)) = natI G.ringL := by
  have hp : ∀ p ∈ G.parts, ∃ i, i < G.n ∧ p = G.scc i ∧ hd0 p = i := fun p hp => by
    simp only [Gr.parts, List.mem_map, List.mem_filter, List.mem_range] at hp
    obtain ⟨i, ⟨h1, h2⟩, rfl⟩ := hp
    obtain ⟨t, e⟩ := lead_head h1 h2
    exact ⟨i, h1, rfl, by rw [e]; rfl⟩
  have hmem : ∀ k, k ∈ (G.parts.filter (rcond G)).flatten ↔ k ∈ G.ringL := fun k => by
    simp only [List.mem_flatten, List.mem_filter, Gr.ringL, List.mem_range]
    constructor
    · rintro ⟨p, ⟨h1, h2⟩, h3⟩
      obtain ⟨i, hi, rfl, h0⟩ := hp p h1
      have he := scc_mem.1 h3
      refine ⟨ld_node he.1, ?_⟩
      simp only [rcond, Bool.or_eq_true, decide_eq_true_eq, h0] at h2
      rcases h2 with c | c
      · exact ring_eqv he c
      · by_cases e : i = k
        · subst e; exact (ring_scc hi).2 (.inr c)
        · refine ring_eqv he ?_
          have := scc_self hi
          match hq : G.scc i with
          | [] => rw [hq] at this; cases this
          | [x] => rw [hq] at this h3; simp at this h3; omega
          | x :: y :: t => simp
    · rintro ⟨hk, hr⟩
      obtain ⟨x, t, e, hx, hl⟩ := scc_head hk
      have hpm : G.scc k ∈ G.parts := parts_mem.2 ⟨k, hk, rfl⟩
      refine ⟨G.scc k, ⟨hpm, ?_⟩, scc_self hk⟩
      simp only [rcond, Bool.or_eq_true, decide_eq_true_eq]
      rcases (ring_scc hk).1 hr with c | c
      · exact .inl c
      · by_cases hlen : 1 < (G.scc k).length
        · exact .inl hlen
        · right
          have := scc_self hk
          rw [e] at this hlen
          have ht : t = [] := by
            cases t with
            | nil => rfl
            | cons a b => simp at hlen
          subst ht
          have : k = x := by simpa using this
          subst this
          rw [e]
          exact c
  have hnd : ((G.parts.filter (rcond G)).flatten).Nodup := by
    rw [List.nodup_iff_pairwise_ne, List.pairwise_flatten]
    refine ⟨fun p hpm => ?_, ?_⟩
    · obtain ⟨i, _, rfl, _⟩ := hp p (List.mem_filter.1 hpm).1
      exact List.nodup_iff_pairwise_ne.1 (scc_nodup i)
    · refine List.Pairwise.imp_of_mem (fun {a b} ha hb hne x hx y hy e => ?_) (List.nodup_iff_pairwise_ne.1 (parts_nodup (G := G)) |>.filter _)
      subst e
      obtain ⟨i, _, rfl, _⟩ := hp a (List.mem_filter.1 ha).1
      obtain ⟨j, _, rfl, _⟩ := hp b (List.mem_filter.1 hb).1
      exact hne ((scc_eq (scc_mem.1 hx)).trans (scc_eq (scc_mem.1 hy)).symm)
  have hrs : G.ringL.Pairwise (· < ·) := (List.pairwise_lt_range).filter _
  refine srt_is ?_ (List.Perm.map _ ((List.perm_ext_iff_of_nodup (hrs.imp fun h => by omega) hnd).2 fun k => (hmem k).symm))
  unfold natI
  rw [List.pairwise_map]
  exact hrs.imp fun h => by omega
theorem flat_few (G : Gr) : ∀ (L : List (List Nat)), (∀ p ∈ L, p.length ≤ G.n) → L.flatten.length ≤ L.length * G.n
  | [], _ => by simp
  | p :: L, h => by
    have h1 := h p (by simp)
    have h2 := flat_few G L fun q hq => h q (by simp [hq])
    simp only [List.flatten_cons, List.length_append, List.length_cons, Nat.add_mul]
    omega
theorem parts_few (G : Gr) : G.parts.length ≤ G.n := by
  unfold Gr.parts
  rw [List.length_map]
  have := List.length_filter_le G.lead (List.range G.n)
  rwa [List.length_range] at this
section
variable {K : VK} {w : World}
theorem RowsAt.len {av : Value} {L : List (List Int)} (h : RowsAt w av L) {w1 : World} (hk : K (.int .i64 (L.length : Int)) w1) : C.len av w1 K := by
  obtain ⟨vs, ⟨A, c, rfl, _⟩, h2, _⟩ := h
  rw [slC_len, h2]
  simpa only [C.len_mk] using hk
theorem rings_loop {W : World} {G : Gr} {nv rv pv : Value} {b1 : Nat} (hG : IsG W nv rv G) (hb : GBlk W b1 25 nv rv) (hR : RowsAt W pv (G.parts.map natI))
    (h : ∀ v w', Fr [] W w' → NewS W v → OwnS w' v 3 1 (intC (natI G.ringL)) → K v w') :
    ∀ (d j : Nat) (w : World) (v : Value), G.parts.length = j + d → Fr [] W w → NewS W v → OwnS w v 3 1 (intC (natI (((G.parts.take j).filter (rcond G)).flatten))) →
      F13.l3 K (.pointer (some ⟨b1, 0, none⟩)) v pv (.int .i64 (G.parts.length : Int)) (.int .i64 (j : Int)) w := by
  have hfew := hG.few
  have hpf := parts_few G
  have hbig : ∀ j, (((G.parts.take j).filter (rcond G)).flatten).length ≤ 1000000 := fun j => by
    have h1 := flat_few G ((G.parts.take j).filter (rcond G)) fun p hp => by
      have := (List.mem_filter.1 hp).1
      obtain ⟨i, _, rfl⟩ := parts_mem.1 (List.mem_of_mem_take this)
      exact scc_len i
    have h2 := List.length_filter_le (rcond G) (G.parts.take j)
    have h3 : (G.parts.take j).length ≤ G.parts.length := by rw [List.length_take]; omega
    have h4 : ((G.parts.take j).filter (rcond G)).length * G.n ≤ 1000 * 1000 := Nat.mul_le_mul (by omega) hfew
    omega
  intro d
  induction d with
  | zero =>
    intro j w v hj hf hn ho
    refine F13.l3.to ?_
    simp only [C.ite_true, C.ite_false, C.pick_true, C.pick_false, C.not_bool, C.field_ptr, C.nilCheck_ptr, C.add_mk, C.sub_mk, C.mul_mk, C.eql_mk, C.neq_mk, C.lss_mk, C.leq_mk, C.gtr_mk, C.geq_mk, C.conv_mk, C.len_mk, C.ext_0, C.ext_1, C.ext3_0, C.ext3_1, C.ext3_2, C.guarded_yes, C.guarded_tf, C.guarded_ft, C.guarded_undef, Bool.not_true, Bool.not_false, Nat.zero_add, eq_self, decide_true, decide_false, show ¬ ((j : Int) < (G.parts.length : Int)) by omega]
    have hb1 := hbig j
    refine F13.k8.to (SortI_c ho (by rw [natI_len]; omega) fun w1 hf1 ho1 => ?_)
    rw [List.take_of_length_le (by omega), rings_are] at ho1
    exact h v w1 (hf.then hf1 fun z hz => .inr (hn.blk z hz)) hn ho1
  | succ d ih =>
    intro j w v hj hf hn ho
    have jl : j < G.parts.length := by omega
    obtain ⟨i, hi, hpi⟩ := parts_mem.1 (List.getElem_mem jl)
    obtain ⟨k, t, ek, hk, hlk⟩ := scc_head hi
    have hp0 : G.parts[j] = k :: t := hpi.trans ek
    have hkn : k < G.n := ld_node hk.1
    have et : G.parts.take (j + 1) = G.parts.take j ++ [G.parts[j]] := by rw [List.take_add_one, List.getElem?_eq_getElem jl]; rfl
    refine F13.l3.to ?_
    simp only [C.ite_true, C.ite_false, C.pick_true, C.pick_false, C.not_bool, C.field_ptr, C.nilCheck_ptr, C.add_mk, C.sub_mk, C.mul_mk, C.eql_mk, C.neq_mk, C.lss_mk, C.leq_mk, C.gtr_mk, C.geq_mk, C.conv_mk, C.len_mk, C.ext_0, C.ext_1, C.ext3_0, C.ext3_1, C.ext3_2, C.guarded_yes, C.guarded_tf, C.guarded_ft, C.guarded_undef, Bool.not_true, Bool.not_false, Nat.zero_add, eq_self, decide_true, decide_false, show ((j : Int) < (G.parts.length : Int)) by omega]
    have nx : ∀ v' w', Fr [] W w' → NewS W v' → OwnS w' v' 3 1 (intC (natI (((G.parts.take (j + 1)).filter (rcond G)).flatten))) → F13.k7 K (.pointer (some ⟨b1, 0, none⟩)) v' pv (.int .i64 (G.parts.length : Int)) (.int .i64 (j : Int)) w' := fun v' w' a b c => by
      refine F13.k7.to ?_
      simp only [C.ite_true, C.ite_false, C.pick_true, C.pick_false, C.not_bool, C.field_ptr, C.nilCheck_ptr, C.add_mk, C.sub_mk, C.mul_mk, C.eql_mk, C.neq_mk, C.lss_mk, C.leq_mk, C.gtr_mk, C.geq_mk, C.conv_mk, C.len_mk, C.ext_0, C.ext_1, C.ext3_0, C.ext3_1, C.ext3_2, C.guarded_yes, C.guarded_tf, C.guarded_ft, C.guarded_undef, Bool.not_true, Bool.not_false, Nat.zero_add, eq_self, decide_true, decide_false]
      rw [wrap64_id (n := (j : Int) + 1) (by omega), show (j : Int) + 1 = ((j + 1 : Nat) : Int) by omega]
      exact ih (j + 1) w' v' (by omega) a b c
    refine F13.k4.to ((hR.keep hf).get (by simpa using jl) fun x hx => ?_)
    rw [List.getElem_map, hp0] at hx
    have hxW := hx
    have yes : ∀ w', Fr [] w w' → rcond G (k :: t) = true → C.run Try.prog (Builtin.append_ #[23, 23] 23 #[v, x]) w' fun x31 w18 => F13.k7 K (.pointer (some ⟨b1, 0, none⟩)) x31 pv (.int .i64 (G.parts.length : Int)) (.int .i64 (j : Int)) w18 := fun w' hf' hc => by
      have h1 := hbig j
      have h2 : (k :: t).length ≤ G.n := by rw [← ek]; exact scc_len i
      refine C.appIs (hf.trans hf') hn (ho.keep hf' (by simp)) (hx.keep hf') (by rw [natI_len, natI_len]; omega) fun v' w2 a b c _ _ => nx v' w2 a b ?_
      rw [et, List.filter_append, List.flatten_append, natI_app, hp0]
      simpa [hc, natI] using c
    have no : ∀ w', Fr [] w w' → rcond G (k :: t) = false → F13.k7 K (.pointer (some ⟨b1, 0, none⟩)) v pv (.int .i64 (G.parts.length : Int)) (.int .i64 (j : Int)) w' := fun w' hf' hc => by
      refine nx v w' (hf.trans hf') hn ?_
      rw [et, List.filter_append, List.flatten_append, hp0]
      simpa [hc] using ho.keep hf' (by simp)
    refine C.draw_of (fun w' => Fr [] w w') fun w1 hf1 _ => ⟨hf1, C.len_rd hx ?_⟩
    rw [intC_len, natI_len]
    by_cases hl : ((k :: t).length : Int) > 1
    · have hc : rcond G (k :: t) = true := by simp only [rcond, Bool.or_eq_true, decide_eq_true_eq]; left; omega
      simp only [C.ite_true, C.ite_false, C.pick_true, C.pick_false, C.not_bool, C.field_ptr, C.nilCheck_ptr, C.add_mk, C.sub_mk, C.mul_mk, C.eql_mk, C.neq_mk, C.lss_mk, C.leq_mk, C.gtr_mk, C.geq_mk, C.conv_mk, C.len_mk, C.ext_0, C.ext_1, C.ext3_0, C.ext3_1, C.ext3_2, C.guarded_yes, C.guarded_tf, C.guarded_ft, C.guarded_undef, Bool.not_true, Bool.not_false, Nat.zero_add, eq_self, decide_true, decide_false, hl, and_true]
      exact ⟨hf1, yes w1 hf1 hc⟩
    · simp only [C.ite_true, C.ite_false, C.pick_true, C.pick_false, C.not_bool, C.field_ptr, C.nilCheck_ptr, C.add_mk, C.sub_mk, C.mul_mk, C.eql_mk, C.neq_mk, C.lss_mk, C.leq_mk, C.gtr_mk, C.geq_mk, C.conv_mk, C.len_mk, C.ext_0, C.ext_1, C.ext3_0, C.ext3_1, C.ext3_2, C.guarded_yes, C.guarded_tf, C.guarded_ft, C.guarded_undef, Bool.not_true, Bool.not_false, Nat.zero_add, eq_self, decide_true, decide_false, hl, and_true]
      have fW := hf.trans hf1
      have hne : (natI (k :: t))[0]'(by simp [natI]) = (k : Int) := by simp [natI]
      refine C.idx_intS (i := 0) (S := fun w' => Fr [] w w') (fun w' hw => hx.keep hw) hf1 (by simp [natI]) fun g1 o1 hs1 => ?_
      refine C.idx_intS (i := 0) (S := fun w' => Fr [] w w') (fun w' hw => hx.keep hw) hf1 (by simp [natI]) fun g2 o2 hs2 => ?_
      rw [hne] at hs1 hs2
      refine C.load1S_of (v := nv) (fun w' hw => ⟨_, _, _, (hb.keep (hf.trans hw) (by simp) : w'.heap[b1]? = _), rfl⟩) (C.load1S_of hs1 ?_)
      obtain ⟨ws, q1, q2, q3⟩ := hG.next
      have kl : k < ws.length := by rw [q2]; exact hkn
      refine C.idx_rdS (S := fun w' => Fr [] w w') (fun w' hw => q1.keep (hf.trans hw)) hf1 (by omega) (by rw [Int.toNat_natCast]; exact slC_get kl) fun g3 o3 _ hs3 => ?_
      refine C.load1S_of (v := ws[k]) (fun w' hw => by obtain ⟨cs, e, fz, hg, hc⟩ := hs3 w' hw; exact ⟨cs, e, fz, hg, by simpa using hc 0 (by omega)⟩) (C.load1S_of hs2 ?_)
      refine Contains_c ((q3 k hkn kl).keep fW) ⟨hf1, ?_⟩
      have ec : rcond G (k :: t) = decide ((k : Int) ∈ G.next[k]'hkn) := by
        have e1 : decide (1 < (k :: t).length) = false := decide_eq_false (by omega)
        have e2 : hd0 (k :: t) = k := rfl
        rw [rcond, e1, e2, Bool.false_or]
        by_cases c : (k : Int) ∈ G.next[k]'hkn
        · rw [decide_eq_true c]; exact (edge_row hkn).2 c
        · rw [decide_eq_false c]
          cases hx : G.edge k k with
          | false => rfl
          | true => exact absurd ((edge_row hkn).1 hx) c
      by_cases c : (k : Int) ∈ G.next[k]'hkn
      · rw [decide_eq_true c]
        simp only [C.ite_true, C.ite_false, C.pick_true, C.pick_false, C.not_bool, C.field_ptr, C.nilCheck_ptr, C.add_mk, C.sub_mk, C.mul_mk, C.eql_mk, C.neq_mk, C.lss_mk, C.leq_mk, C.gtr_mk, C.geq_mk, C.conv_mk, C.len_mk, C.ext_0, C.ext_1, C.ext3_0, C.ext3_1, C.ext3_2, C.guarded_yes, C.guarded_tf, C.guarded_ft, C.guarded_undef, Bool.not_true, Bool.not_false, Nat.zero_add, eq_self, decide_true, decide_false]
        exact yes w1 hf1 (by rw [ec, decide_eq_true c])
      · rw [decide_eq_false c]
        simp only [C.ite_true, C.ite_false, C.pick_true, C.pick_false, C.not_bool, C.field_ptr, C.nilCheck_ptr, C.add_mk, C.sub_mk, C.mul_mk, C.eql_mk, C.neq_mk, C.lss_mk, C.leq_mk, C.gtr_mk, C.geq_mk, C.conv_mk, C.len_mk, C.ext_0, C.ext_1, C.ext3_0, C.ext3_1, C.ext3_2, C.guarded_yes, C.guarded_tf, C.guarded_ft, C.guarded_undef, Bool.not_true, Bool.not_false, Nat.zero_add, eq_self, decide_true, decide_false]
        exact no w1 hf1 (by rw [ec, decide_eq_false c])
theorem Rings_c {nv rv : Value} {G : Gr} (hG : IsG w nv rv G) (h : ∀ v w', Fr [] w w' → NewS w v → OwnS w' v 3 1 (intC (natI G.ringL)) → K v w') : C.call Try.prog 13 #[.agg #[nv, rv]] w K := by
  refine F13.sh (GBlk.new hG fun b1 w1 hf1 _ hb hG1 => hb.all (Parts_c hG1 fun pv w2 hf2 hR => hR.len ?_))
  rw [List.length_map]
  have f2 := hf1.trans hf2
  exact rings_loop (W := w2) (hG.keep f2) (hb.keep hf2 (by simp)) hR (fun v w' a b c => h v w' (f2.trans a) (b.mono f2.size) c) G.parts.length 0 w2 (.slice none 0 0) (by omega) (Fr.refl _ _) (NewS.nil _) (OwnS.nil _ _ _)
/-! ### Same -/
def Gr.same (G : Gr) (i j : Int) : Bool := G.parts.any fun p => decide (i ∈ natI p) && decide (j ∈ natI p)
theorem vcCall_of {f : FuncId} {cap : Array Value} {args : List Value} (hb : bodied Try.prog f = true) (h : C.call Try.prog f (args ++ cap.toList).toArray w K) : vcCall Try.prog (.func (.func f) #[] cap) args w K := by
  simp only [vcCall, hb, cond_true]
  exact h
theorem bodied31 : bodied Try.prog 31 = true := by kernel_rfl
theorem same_loop {W : World} {pv : Value} {L : List (List Nat)} {i j : Int} {b4 b5 : Nat} (hR : RowsAt W pv (L.map natI)) (h4 : W.heap[b4]? = some (.cells #[.int .i64 i] 3 (0, 0))) (h5 : W.heap[b5]? = some (.cells #[.int .i64 j] 3 (0, 0))) (hll : L.length ≤ 1000000)
    (h1 : ∀ q : Nat, (L.any fun p => decide (i ∈ natI p) && decide (j ∈ natI p)) = true → K (.int .i64 (q : Int)) W) (h0 : (L.any fun p => decide (i ∈ natI p) && decide (j ∈ natI p)) = false → K (.int .i64 (-1)) W) :
    ∀ (d q : Nat), L.length = q + d → (∀ k (hk : k < L.length), k < q → (decide (i ∈ natI L[k]) && decide (j ∈ natI L[k])) = false) →
      F48.l2 K pv (.func (.func 31) #[] #[.pointer (some ⟨b4, 0, none⟩), .pointer (some ⟨b5, 0, none⟩)]) (.int .i64 (L.length : Int)) (.int .i64 (q : Int)) W := by
  intro d
  induction d with
  | zero =>
    intro q hq hn
    refine F48.l2.to ?_
    simp only [C.ite_true, C.ite_false, C.pick_true, C.pick_false, C.not_bool, C.field_ptr, C.nilCheck_ptr, C.add_mk, C.sub_mk, C.mul_mk, C.eql_mk, C.neq_mk, C.lss_mk, C.leq_mk, C.gtr_mk, C.geq_mk, C.conv_mk, C.len_mk, C.ext_0, C.ext_1, C.ext3_0, C.ext3_1, C.ext3_2, C.guarded_yes, C.guarded_tf, C.guarded_ft, C.guarded_undef, Bool.not_true, Bool.not_false, Nat.zero_add, eq_self, decide_true, decide_false, show ¬ ((q : Int) < (L.length : Int)) by omega]
    refine F48.k7.to (h0 (List.any_eq_false.2 fun p hp => ?_))
    obtain ⟨k, hk, rfl⟩ := List.getElem_of_mem hp
    simpa using hn k hk (by omega)
  | succ d ih =>
    intro q hq hn
    have ql : q < L.length := by omega
    refine F48.l2.to ?_
    simp only [C.ite_true, C.ite_false, C.pick_true, C.pick_false, C.not_bool, C.field_ptr, C.nilCheck_ptr, C.add_mk, C.sub_mk, C.mul_mk, C.eql_mk, C.neq_mk, C.lss_mk, C.leq_mk, C.gtr_mk, C.geq_mk, C.conv_mk, C.len_mk, C.ext_0, C.ext_1, C.ext3_0, C.ext3_1, C.ext3_2, C.guarded_yes, C.guarded_tf, C.guarded_ft, C.guarded_undef, Bool.not_true, Bool.not_false, Nat.zero_add, eq_self, decide_true, decide_false, show ((q : Int) < (L.length : Int)) by omega]
    refine F48.k3.to (hR.get (by simpa using ql) fun x hx => ?_)
    rw [List.getElem_map] at hx
    refine vcCall_of bodied31 (F31.sh (C.load1_of (v := .int .i64 i) h4 rfl (Contains_c hx ?_)))
    have go : (decide (i ∈ natI L[q]) && decide (j ∈ natI L[q])) = false → F48.k6 K pv (.func (.func 31) #[] #[.pointer (some ⟨b4, 0, none⟩), .pointer (some ⟨b5, 0, none⟩)]) (.int .i64 (L.length : Int)) (.int .i64 (q : Int)) W := fun hf => by
      refine F48.k6.to ?_
      simp only [C.ite_true, C.ite_false, C.pick_true, C.pick_false, C.not_bool, C.field_ptr, C.nilCheck_ptr, C.add_mk, C.sub_mk, C.mul_mk, C.eql_mk, C.neq_mk, C.lss_mk, C.leq_mk, C.gtr_mk, C.geq_mk, C.conv_mk, C.len_mk, C.ext_0, C.ext_1, C.ext3_0, C.ext3_1, C.ext3_2, C.guarded_yes, C.guarded_tf, C.guarded_ft, C.guarded_undef, Bool.not_true, Bool.not_false, Nat.zero_add, eq_self, decide_true, decide_false]
      rw [wrap64_id (n := (q : Int) + 1) (by omega), show (q : Int) + 1 = ((q + 1 : Nat) : Int) by omega]
      refine ih (q + 1) (by omega) fun k hk hkq => ?_
      by_cases e : k = q
      · subst e; exact hf
      · exact hn k hk (by omega)
    by_cases c1 : i ∈ natI L[q]
    · rw [decide_eq_true c1] at go ⊢
      simp only [C.ite_true, C.ite_false, C.pick_true, C.pick_false, C.not_bool, C.field_ptr, C.nilCheck_ptr, C.add_mk, C.sub_mk, C.mul_mk, C.eql_mk, C.neq_mk, C.lss_mk, C.leq_mk, C.gtr_mk, C.geq_mk, C.conv_mk, C.len_mk, C.ext_0, C.ext_1, C.ext3_0, C.ext3_1, C.ext3_2, C.guarded_yes, C.guarded_tf, C.guarded_ft, C.guarded_undef, Bool.not_true, Bool.not_false, Nat.zero_add, eq_self, decide_true, decide_false]
      refine C.load1_of (v := .int .i64 j) h5 rfl (Contains_c hx ?_)
      by_cases c2 : j ∈ natI L[q]
      · rw [decide_eq_true c2]
        simp only [C.ite_true, C.ite_false, C.pick_true, C.pick_false, C.not_bool, C.field_ptr, C.nilCheck_ptr, C.add_mk, C.sub_mk, C.mul_mk, C.eql_mk, C.neq_mk, C.lss_mk, C.leq_mk, C.gtr_mk, C.geq_mk, C.conv_mk, C.len_mk, C.ext_0, C.ext_1, C.ext3_0, C.ext3_1, C.ext3_2, C.guarded_yes, C.guarded_tf, C.guarded_ft, C.guarded_undef, Bool.not_true, Bool.not_false, Nat.zero_add, eq_self, decide_true, decide_false]
        exact h1 q (List.any_eq_true.2 ⟨L[q], List.getElem_mem ql, by simp [c1, c2]⟩)
      · rw [decide_eq_false c2] at go ⊢
        simp only [C.ite_true, C.ite_false, C.pick_true, C.pick_false, C.not_bool, C.field_ptr, C.nilCheck_ptr, C.add_mk, C.sub_mk, C.mul_mk, C.eql_mk, C.neq_mk, C.lss_mk, C.leq_mk, C.gtr_mk, C.geq_mk, C.conv_mk, C.len_mk, C.ext_0, C.ext_1, C.ext3_0, C.ext3_1, C.ext3_2, C.guarded_yes, C.guarded_tf, C.guarded_ft, C.guarded_undef, Bool.not_true, Bool.not_false, Nat.zero_add, eq_self, decide_true, decide_false]
        exact go rfl
    · rw [decide_eq_false c1] at go ⊢
      simp only [C.ite_true, C.ite_false, C.pick_true, C.pick_false, C.not_bool, C.field_ptr, C.nilCheck_ptr, C.add_mk, C.sub_mk, C.mul_mk, C.eql_mk, C.neq_mk, C.lss_mk, C.leq_mk, C.gtr_mk, C.geq_mk, C.conv_mk, C.len_mk, C.ext_0, C.ext_1, C.ext3_0, C.ext3_1, C.ext3_2, C.guarded_yes, C.guarded_tf, C.guarded_ft, C.guarded_undef, Bool.not_true, Bool.not_false, Nat.zero_add, eq_self, decide_true, decide_false]
      exact go rfl
theorem Same_c {nv rv : Value} {G : Gr} {i j : Int} (hG : IsG w nv rv G) (h : ∀ w', Fr [] w w' → K (.bool (G.same i j)) w') : C.call Try.prog 14 #[.agg #[nv, rv], .int .i64 i, .int .i64 j] w K := by
  have hfew := hG.few
  have hpf := parts_few G
  refine F14.sh (GBlk.new hG fun b1 w1 hf1 _ hb hG1 => C.new_of fun b4 w2 hn2 => C.new_of fun b5 w3 hn3 => ?_)
  have f13 := hn2.fr.trans hn3.fr
  refine (hb.keep f13 (by simp)).all (Parts_c (hG1.keep f13) fun pv w4 hf4 hR => ?_)
  have h4 : w4.heap[b4]? = some (.cells #[.int .i64 i] 3 (0, 0)) := hf4.at_ (hn3.fr.at_ hn2.at_ (by simp)) (by simp)
  have h5 : w4.heap[b5]? = some (.cells #[.int .i64 j] 3 (0, 0)) := hf4.at_ hn3.at_ (by simp)
  have f4 := hf1.trans (f13.trans hf4)
  refine F30.sh (F48.sh (hR.len ?_))
  rw [List.length_map]
  refine same_loop hR h4 h5 (by omega) (fun q hq => ?_) (fun hq => ?_) G.parts.length 0 (by omega) fun k _ hk => by omega
  · simp only [C.ite_true, C.ite_false, C.pick_true, C.pick_false, C.not_bool, C.field_ptr, C.nilCheck_ptr, C.add_mk, C.sub_mk, C.mul_mk, C.eql_mk, C.neq_mk, C.lss_mk, C.leq_mk, C.gtr_mk, C.geq_mk, C.conv_mk, C.len_mk, C.ext_0, C.ext_1, C.ext3_0, C.ext3_1, C.ext3_2, C.guarded_yes, C.guarded_tf, C.guarded_ft, C.guarded_undef, Bool.not_true, Bool.not_false, Nat.zero_add, eq_self, decide_true, decide_false, show ((q : Int) ≥ 0) by omega]
    have := h w4 f4
    rwa [show G.same i j = true from hq] at this
  · simp only [C.ite_true, C.ite_false, C.pick_true, C.pick_false, C.not_bool, C.field_ptr, C.nilCheck_ptr, C.add_mk, C.sub_mk, C.mul_mk, C.eql_mk, C.neq_mk, C.lss_mk, C.leq_mk, C.gtr_mk, C.geq_mk, C.conv_mk, C.len_mk, C.ext_0, C.ext_1, C.ext3_0, C.ext3_1, C.ext3_2, C.guarded_yes, C.guarded_tf, C.guarded_ft, C.guarded_undef, Bool.not_true, Bool.not_false, Nat.zero_add, eq_self, decide_true, decide_false, show ¬ ((-1 : Int) ≥ 0) by omega]
    have := h w4 f4
    rwa [show G.same i j = false from hq] at this
end
end Go.Proofs.YtchonfdnghimdaaV
