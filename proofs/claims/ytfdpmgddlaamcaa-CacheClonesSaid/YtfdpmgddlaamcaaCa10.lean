/- The cache of pages: Drop, All. -/
import Derived.Test.YtfdpmgddlaamcaaCa8
import Derived.Test.YtfdpmgddlaamcaaCa9
namespace Go.Proofs.YtfdpmgddlaamcaaV
open Go Go.Proofs Go.RowKit
set_option linter.unusedVariables false
set_option linter.unusedSimpArgs false
set_option maxRecDepth 10000
section
variable {K : VK} {w : World}
theorem csz_pos {k : Int} (h1 : 1 ≤ k) (h2 : k < 5) : csz k > 0 := by
  unfold csz
  by_cases c1 : k = 1
  · simp [c1]
  by_cases c2 : k = 2
  · simp [c2]
  by_cases c3 : k = 3
  · simp [c3]
  by_cases c4 : k = 4
  · simp [c4]
  omega
theorem IsC.mb {b m c : Nat} {n : Int} {l : Pgs} (h : IsC w b m n l c) : b ≠ m := fun e => by
  subst e; have h1 := h.blk; have h2 := h.map; unfold MapAt at h2; rw [h1] at h2; cases h2
theorem drop_loop {W : World} {b m c : Nat} {n t : Int} {l : Pgs} (hm0 : m < W.heap.size) (hb0 : b < W.heap.size)
    (h : ∀ v w' l' out, Fr [m] W w' → IsC w' b m n l' c → DropI n t l c 5 l' out → NewS W v → OwnS w' v 3 1 (intC (srt out)) → K v w') :
    ∀ (d : Nat) (k : Int) (w : World) (v : Value) (l' : Pgs) (out : List Int), k + d = 5 → 1 ≤ k → Fr [m] W w → IsC w b m n l' c → DropI n t l c k l' out → NewS W v → OwnS w v 3 1 (intC out) →
      F18.l5 K (.pointer (some ⟨b, 0, none⟩)) (.int .i64 t) v (.int .i64 k) w := by
  intro d
  induction d with
  | zero =>
    intro k w v l' out hk hk1 hf hC hD hn ho
    have e : k = 5 := by omega
    subst e
    have hlen := hD.len
    refine F18.l5.to (Size_c ?_)
    simp only [C.ite_true, C.ite_false, C.pick_true, C.pick_false, C.not_bool, C.field_ptr, C.nilCheck_ptr, C.add_mk, C.sub_mk, C.mul_mk, C.eql_mk, C.neq_mk, C.lss_mk, C.leq_mk, C.gtr_mk, C.geq_mk, C.conv_mk, C.len_mk, C.ext_0, C.ext_1, C.ext3_0, C.ext3_1, C.ext3_2, C.guarded_yes, C.guarded_tf, C.guarded_ft, C.guarded_undef, Bool.not_true, Bool.not_false, Nat.zero_add, eq_self, decide_true, decide_false, show csz 5 = 0 by decide, show ¬ ((0 : Int) > 0) by omega]
    refine F18.k11.to (SortI_c ho (by omega) fun w1 hf1 ho1 => ?_)
    have hb : b ∉ blkS v := fun hg => by have := hn.blk b hg; omega
    have hm : m ∉ blkS v := fun hg => by have := hn.blk m hg; omega
    exact h v w1 l' out (hf.then hf1 fun z hz => .inr (hn.blk z hz)) (hC.keep hf1 hb hm) hD hn ho1
  | succ d ih =>
    intro k w v l' out hk hk1 hf hC hD hn ho
    have k5 : k < 5 := by omega
    have hlen := hD.len
    refine F18.l5.to (Size_c ?_)
    simp only [C.ite_true, C.ite_false, C.pick_true, C.pick_false, C.not_bool, C.field_ptr, C.nilCheck_ptr, C.add_mk, C.sub_mk, C.mul_mk, C.eql_mk, C.neq_mk, C.lss_mk, C.leq_mk, C.gtr_mk, C.geq_mk, C.conv_mk, C.len_mk, C.ext_0, C.ext_1, C.ext3_0, C.ext3_1, C.ext3_2, C.guarded_yes, C.guarded_tf, C.guarded_ft, C.guarded_undef, Bool.not_true, Bool.not_false, Nat.zero_add, eq_self, decide_true, decide_false, csz_pos hk1 k5]
    refine F18.k7.to (Page_c hC ?_)
    rcases page_is hD.kept (t, k) with ⟨p0, pon⟩ | ⟨pm, pno⟩
    · simp only [C.ite_true, C.ite_false, C.pick_true, C.pick_false, C.not_bool, C.field_ptr, C.nilCheck_ptr, C.add_mk, C.sub_mk, C.mul_mk, C.eql_mk, C.neq_mk, C.lss_mk, C.leq_mk, C.gtr_mk, C.geq_mk, C.conv_mk, C.len_mk, C.ext_0, C.ext_1, C.ext3_0, C.ext3_1, C.ext3_2, C.guarded_yes, C.guarded_tf, C.guarded_ft, C.guarded_undef, Bool.not_true, Bool.not_false, Nat.zero_add, eq_self, decide_true, decide_false, p0, ge_iff_le]
      generalize pageOf l' (t, k) = p at *
      refine C.appI' ho (by omega) fun v1 w1 ho1 hf1 hg1 => ?_
      have hb : b ∉ blkS v := fun hg => by have := hn.blk b hg; omega
      have hm : m ∉ blkS v := fun hg => by have := hn.blk m hg; omega
      have hC1 := hC.keep hf1 hb hm
      have hn1 : NewS W v1 := new_app hn hf.size hg1
      try simp only [C.ite_true, C.ite_false, C.pick_true, C.pick_false, C.not_bool, C.field_ptr, C.nilCheck_ptr, C.add_mk, C.sub_mk, C.mul_mk, C.eql_mk, C.neq_mk, C.lss_mk, C.leq_mk, C.gtr_mk, C.geq_mk, C.conv_mk, C.len_mk, C.ext_0, C.ext_1, C.ext3_0, C.ext3_1, C.ext3_2, C.guarded_yes, C.guarded_tf, C.guarded_ft, C.guarded_undef, Bool.not_true, Bool.not_false, Nat.zero_add, eq_self, decide_true, decide_false]
      refine C.load1_of (v := .map (some m)) hC1.blk rfl (C.run_of (bSeat t k) ?_)
      refine C.delete_of keySeat Try.underlying44 hC1.map (t, k) (l' := delL l' (t, k)) rfl fun w2 hf2 _ hm2 => ?_
      have hm1 : m ∉ blkS v1 := fun hg => by have := hn1.blk m hg; omega
      refine F18.k6.to ?_
      simp only [C.ite_true, C.ite_false, C.pick_true, C.pick_false, C.not_bool, C.field_ptr, C.nilCheck_ptr, C.add_mk, C.sub_mk, C.mul_mk, C.eql_mk, C.neq_mk, C.lss_mk, C.leq_mk, C.gtr_mk, C.geq_mk, C.conv_mk, C.len_mk, C.ext_0, C.ext_1, C.ext3_0, C.ext3_1, C.ext3_2, C.guarded_yes, C.guarded_tf, C.guarded_ft, C.guarded_undef, Bool.not_true, Bool.not_false, Nat.zero_add, eq_self, decide_true, decide_false]
      rw [wrap64_id (n := k + 1) (by omega)]
      refine ih (k + 1) w2 v1 (delL l' (t, k)) (out ++ [p]) (by omega) (by omega) ((hf.then hf1 fun z hz => .inr (hn.blk z hz)).trans hf2) ⟨hf2.at_ hC1.blk (by simpa using hC.mb), hm2, fun x hx => hC.int x ((del_sub _ _).subset hx)⟩ (hD.take pon) hn1
        (ho1.keep' hf2 fun g hg e => by simp only [List.mem_singleton] at e; subst e; exact hm1 hg)
    · simp only [C.ite_true, C.ite_false, C.pick_true, C.pick_false, C.not_bool, C.field_ptr, C.nilCheck_ptr, C.add_mk, C.sub_mk, C.mul_mk, C.eql_mk, C.neq_mk, C.lss_mk, C.leq_mk, C.gtr_mk, C.geq_mk, C.conv_mk, C.len_mk, C.ext_0, C.ext_1, C.ext3_0, C.ext3_1, C.ext3_2, C.guarded_yes, C.guarded_tf, C.guarded_ft, C.guarded_undef, Bool.not_true, Bool.not_false, Nat.zero_add, eq_self, decide_true, decide_false, pm, show ¬ ((-1 : Int) ≥ 0) by omega]
      refine F18.k6.to ?_
      simp only [C.ite_true, C.ite_false, C.pick_true, C.pick_false, C.not_bool, C.field_ptr, C.nilCheck_ptr, C.add_mk, C.sub_mk, C.mul_mk, C.eql_mk, C.neq_mk, C.lss_mk, C.leq_mk, C.gtr_mk, C.geq_mk, C.conv_mk, C.len_mk, C.ext_0, C.ext_1, C.ext3_0, C.ext3_1, C.ext3_2, C.guarded_yes, C.guarded_tf, C.guarded_ft, C.guarded_undef, Bool.not_true, Bool.not_false, Nat.zero_add, eq_self, decide_true, decide_false]
      rw [wrap64_id (n := k + 1) (by omega)]
      exact ih (k + 1) w v l' out (by omega) (by omega) hf hC (hD.skip pno) hn ho
theorem Drop_c {b m c : Nat} {n t : Int} {l : Pgs} (hC : IsC w b m n l c) (hg : Good l c) (hk : Kept n l)
    (h : ∀ v w' l' out, Fr [m] w w' → IsC w' b m n l' c → Good l' c → Kept n l' → (∀ b q, On l' b q ↔ On l b q ∧ b.1 ≠ t) → (∀ q, q ∈ out ↔ ∃ j, On l (t, j) q) → out.Nodup → NewS w v → OwnS w' v 3 1 (intC (srt out)) → K v w') :
    C.call Try.prog 18 #[.pointer (some ⟨b, 0, none⟩), .int .i64 t] w K := by
  refine F18.sh ⟨_, eq_ptr_nil _ _ _ Try.underlying27, ?_⟩
  simp only [C.ite_true, C.ite_false, C.pick_true, C.pick_false, C.not_bool, C.field_ptr, C.nilCheck_ptr, C.add_mk, C.sub_mk, C.mul_mk, C.eql_mk, C.neq_mk, C.lss_mk, C.leq_mk, C.gtr_mk, C.geq_mk, C.conv_mk, C.len_mk, C.ext_0, C.ext_1, C.ext3_0, C.ext3_1, C.ext3_2, C.guarded_yes, C.guarded_tf, C.guarded_ft, C.guarded_undef, Bool.not_true, Bool.not_false, Nat.zero_add, eq_self, decide_true, decide_false]
  refine F18.k3.to (drop_loop (l := l) (lt_of_at hC.map) (lt_of_at hC.blk) (fun v w' l' out hf hC' hD hn ho => ?_) 4 1 w _ l [] rfl (by omega) (Fr.refl _ _) hC (DropI.start hg hk) (NewS.nil _) (OwnS.nil _ _ _))
  obtain ⟨h1, h2⟩ := hD.fin hk
  exact h v w' l' out hf hC' hD.good hD.kept h1 h2 hD.nd hn ho
theorem bodied103 : bodied Try.prog 103 = true := by kernel_rfl
theorem All_c {b m c : Nat} {n : Int} {l : Pgs} (hC : IsC w b m n l c) (hg : Good l c) (hk : Kept n l)
    (h : ∀ v w', Fr [] w w' → NewS w v → OwnS w' v 3 1 (intC (srt (allP l))) → K v w') :
    C.call Try.prog 23 #[.pointer (some ⟨b, 0, none⟩)] w K := by
  have hl := few_pages hg hk
  refine F23.sh ⟨_, eq_ptr_nil _ _ _ Try.underlying27, ?_⟩
  simp only [C.ite_true, C.ite_false, C.pick_true, C.pick_false, C.not_bool, C.field_ptr, C.nilCheck_ptr, C.add_mk, C.sub_mk, C.mul_mk, C.eql_mk, C.neq_mk, C.lss_mk, C.leq_mk, C.gtr_mk, C.geq_mk, C.conv_mk, C.len_mk, C.ext_0, C.ext_1, C.ext3_0, C.ext3_1, C.ext3_2, C.guarded_yes, C.guarded_tf, C.guarded_ft, C.guarded_undef, Bool.not_true, Bool.not_false, Nat.zero_add, eq_self, decide_true, decide_false]
  refine F23.k3.to ?_
  simp only [C.ite_true, C.ite_false, C.pick_true, C.pick_false, C.not_bool, C.field_ptr, C.nilCheck_ptr, C.add_mk, C.sub_mk, C.mul_mk, C.eql_mk, C.neq_mk, C.lss_mk, C.leq_mk, C.gtr_mk, C.geq_mk, C.conv_mk, C.len_mk, C.ext_0, C.ext_1, C.ext3_0, C.ext3_1, C.ext3_2, C.guarded_yes, C.guarded_tf, C.guarded_ft, C.guarded_undef, Bool.not_true, Bool.not_false, Nat.zero_add, eq_self, decide_true, decide_false]
  refine C.load1_of (v := .map (some m)) hC.blk rfl (F58.sh (C.new_of fun x1 w1 hn1 => F57.sh (F102.sh (F141.sh (C.new_of fun b2 w2 hn2 => ?_)))))
  simp only [C.range, bodied103, cond_true]
  intro fn tmps hsz henv
  have hw3 := New.mk' w2 (.deferred (some []))
  have hw4 := New.mk' (w2.alloc (.deferred (some []))) (.loop { state := .ready, pending := none, fn := fn, tmps := tmps, params := #[7], assign := F141.as2, body := F141.bd2, defers := w2.heap.size })
  have z3 := hw3.sz
  have f24 := hw3.fr.trans hw4.fr
  have hD4 := hw4.fr.at_ hw3.at_ (by simp)
  have hl4 := hw4.at_
  rw [z3] at hl4
  generalize ((w2.alloc (.deferred (some []))).alloc (.loop { state := .ready, pending := none, fn := fn, tmps := tmps, params := #[7], assign := F141.as2, body := F141.bd2, defers := w2.heap.size })) = w4 at *
  have i1 := hn1.is
  have i2 := hn2.is
  have z1 := hn1.sz
  have z2 := hn2.sz
  have f04 : Fr [] w w4 := hn1.fr.trans (hn2.fr.trans f24)
  have hx4 : w4.heap[x1]? = some (.cells #[.map (some m)] 44 (0, 0)) := (hn2.fr.trans f24).at_ hn1.at_ (by simp)
  have hb4 : w4.heap[b2]? = some (.cells #[.slice none 0 0] 34 (0, 0)) := f24.at_ hn2.at_ (by simp)
  refine F103.sh (C.load1_of (v := .map (some m)) hx4 rfl (C.run_of (run_range_map w4 44 104 3 m _ c Try.underlying44 (hC.map.keep f04 (by simp))) ?_))
  have hn5 := New.mk' w4 (.mapIter (some m) c #[] c)
  have z4 := f04.size
  have M0 : AQ .ready w (w4.alloc (.mapIter (some m) c #[] c)) m c (w2.heap.size + 1) w2.heap.size b2 w4.heap.size #[] (qOf []) :=
    ⟨f04.trans hn5.fr, ⟨_, hn5.fr.at_ hl4 (by simp), ⟨rfl, rfl, hsz, rfl, rfl, rfl, henv 2 _ rfl⟩⟩, hn5.fr.at_ hD4 (by simp), hn5.at_, ⟨_, hn5.fr.at_ hb4 (by simp), OwnS.nil _ _ _, NewS.nil _⟩, by omega⟩
  refine val_loop hC hg (by omega) (fun w' seen vis hp M => ?_) _ #[] [] _ (Nat.le_refl _) (Vis.nil l) M0
  obtain ⟨r, hr, hok⟩ := M.rec_
  refine ⟨r, hr, by rw [hok.st]; simp, ?_⟩
  have M1 := M.put (st' := .exhausted) (r' := { r with state := .exhausted }) hr ⟨rfl, hok.pe, hok.sz, hok.ps, hok.as_, hok.bd, hok.t2⟩ (upd_put hr)
  generalize w'.putObj (w2.heap.size + 1) (.loop { r with state := .exhausted }) = w5 at *
  rw [hok.pe]
  obtain ⟨v, c1, c2, c3⟩ := M1.box
  show F141.k4 _ (.pointer (some ⟨b2, 0, none⟩)) (.int .i64 (w2.heap.size : Int)) w5
  refine F141.k4.to (C.load1_of (v := v) c1 rfl ⟨by rw [Int.toNat_natCast]; exact M1.df, ?_⟩)
  rw [Int.toNat_natCast]
  have hu6 := upd_put (o := .deferred none) M1.df
  have nD := c2.no M1.df (by simp)
  generalize w5.putObj w2.heap.size (.deferred none) = w6 at *
  have ho6 : OwnS w6 v 3 1 (intC (qOf vis)) := c2.keep' hu6.fr fun g hg e => by simp only [List.mem_singleton] at e; subst e; exact nD hg
  have hpq : (qOf vis).Perm (allP l) := hp.map _
  have hlq : (qOf vis).length ≤ 64 := by rw [hpq.length_eq]; simpa [allP] using hl
  refine SortI_c ho6 (by omega) fun w7 hf7 ho7 => ?_
  have e : srt (qOf vis) = srt (allP l) := srt_same (hpq.nodup_iff.2 (nodup_allP hg hk)) (nodup_allP hg hk) fun x => hpq.mem_iff
  rw [e] at ho7
  exact h v w7 ((M1.fr.then hu6.fr fun z hz => .inr (by simp only [List.mem_singleton] at hz; have := M1.lo; omega)).then hf7 fun z hz => .inr (c3.blk z hz)) c3 ho7
end
end Go.Proofs.YtfdpmgddlaamcaaV
