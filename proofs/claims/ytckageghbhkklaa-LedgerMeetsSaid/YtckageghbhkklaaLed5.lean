/- LedgerMeets: the law's loops. -/
import Derived.Test.YtckageghbhkklaaLed4
namespace Go.Proofs.YtckageghbhkklaaV
open Go Go.Proofs Go.RowKit
set_option linter.unusedVariables false
set_option linter.unusedSimpArgs false
/-- The ledger, and beside it all letters. -/
structure LSt (W0 w : World) (g bb wb : Nat) (win most : Int) (S R : Nat → Value) (H : Nat → List Bool) : Prop where
  led : Led w g bb 8 win most S (fun t => lastN win.toNat (H t))
  tab : ∃ cs, w.heap[wb]? = some (.cells cs 90 (0, 0)) ∧ cs.size = 8 ∧ ∀ t, t < 8 → cs[t]? = some (R t)
  own : ∀ t, t < 8 → OwnS w (R t) 4 1 (boolC (H t))
  d0 : wb ≠ g ∧ wb ≠ bb
  d1 : ∀ t, t < 8 → ∀ x ∈ blkS (S t), x ≠ wb
  d2 : ∀ t, t < 8 → ∀ x ∈ blkS (R t), x ≠ g ∧ x ≠ bb ∧ x ≠ wb
  d3 : ∀ t, t < 8 → ∀ x ∈ blkS (R t), ∀ u, u < 8 → x ∉ blkS (S u)
  new : W0.heap.size ≤ g ∧ W0.heap.size ≤ bb ∧ W0.heap.size ≤ wb
  news : ∀ t, t < 8 → ∀ x ∈ blkS (S t), W0.heap.size ≤ x
  fr : Fr [] W0 w
theorem LSt.keep0 {W0 w w' : World} {g bb wb : Nat} {win most : Int} {S R : Nat → Value} {H : Nat → List Bool} (h : LSt W0 w g bb wb win most S R H) (hf : Fr [] w w') : LSt W0 w' g bb wb win most S R H := by
  obtain ⟨cs, h1, h2, h3⟩ := h.tab
  exact ⟨h.led.keep0 hf, ⟨cs, hf.at_ h1 (by simp), h2, h3⟩, fun t ht => (h.own t ht).keep hf (by simp), h.d0, h.d1, h.d2, h.d3, h.new, h.news, h.fr.trans hf⟩
/-- A call of the ledger, and the letters that came with it. -/
theorem LSt.step {W0 w w1 w2 w3 : World} {g bb wb t : Nat} {win most : Int} {S R : Nat → Value} {H : Nat → List Bool} {s v : Value} {n : Nat} {b : Bool} {cs : Array Value} (h : LSt W0 w g bb wb win most S R H) (ht : t < 8) (hwin : 0 ≤ win) (hx : LNx w w1 bb t S s)
    (hL : Led w1 g bb 8 win most (upd S t s) (upd (fun t => lastN win.toNat (H t)) t (lastN win.toNat (lastN win.toNat (H t) ++ List.replicate (min (n : Int) win).toNat b))))
    (hf2 : Fr [] w1 w2) (hv : OwnS w2 v 4 1 (boolC (H t ++ List.replicate n b))) (hnv : NewS w1 v) (hcs : w.heap[wb]? = some (.cells cs 90 (0, 0))) (hu : Upd w2 wb (.cells (cs.setIfInBounds t v) 90 (0, 0)) w3) :
    LSt W0 w3 g bb wb win most (upd S t s) (upd R t v) (upd H t (H t ++ List.replicate n b)) := by
  obtain ⟨cs', h1, h2, h3⟩ := h.tab
  rw [hcs] at h1
  simp only [Option.some.injEq, Obj.cells.injEq] at h1
  obtain ⟨rfl, _⟩ := h1
  have lw := lt_of_at hcs
  have lg := lt_of_at h.led.obj
  obtain ⟨_, hbb, _⟩ := h.led.bk
  have lbb := lt_of_at hbb
  have z1 := hx.fr.size
  have z2 := hf2.size
  have nv := hnv.blk
  have e1 : min (n : Int) win = ((min n win.toNat : Nat) : Int) := by omega
  rw [e1, Int.toNat_natCast, lastN_step] at hL
  have eL : (upd (fun t => lastN win.toNat (H t)) t (lastN win.toNat (H t ++ List.replicate n b))) = fun u => lastN win.toNat (upd H t (H t ++ List.replicate n b) u) := by
    funext u
    unfold upd
    split <;> rfl
  rw [eL] at hL
  have hR : ∀ u, u < 8 → ∀ x ∈ blkS (R u), x < w.heap.size := fun u hu => (h.own u hu).mem_lt
  have hSs : ∀ u, u < 8 → ∀ x ∈ blkS (upd S t s u), x ∈ blkS (S u) ∨ w.heap.size ≤ x := fun u hu x hx' => by
    by_cases e : u = t
    · subst e
      rw [upd_same] at hx'
      exact .inr (hx.new x hx')
    · rw [upd_ne _ _ e] at hx'
      exact .inl hx'
  have hlt : ∀ u, u < 8 → ∀ x ∈ blkS (upd S t s u), x < w1.heap.size := fun u hu => (hL.own u hu).mem_lt
  refine ⟨(hL.keep0 hf2).keep hu.fr (by simpa using Ne.symm h.d0.1) (by simpa using Ne.symm h.d0.2) (fun u hu' x hx' => ?_), ⟨_, hu.at_, by simpa using h2, fun u hu' => ?_⟩, fun u hu' => ?_, h.d0, fun u hu' x hx' => ?_, fun u hu' x hx' => ?_, fun u hu' x hx' v' hv' hx2 => ?_, h.new, fun u hu' x hx' => ?_, ?_⟩
  · simp only [List.mem_singleton]
    rcases hSs u hu' x hx' with h' | h'
    · exact h.d1 u hu' x h'
    · omega
  · rw [Array.getElem?_setIfInBounds]
    by_cases e : t = u
    · subst e
      rw [if_pos rfl, if_pos (by omega), upd_same]
    · rw [if_neg e, upd_ne _ _ (Ne.symm e)]
      exact h3 u hu'
  · by_cases e : u = t
    · subst e
      rw [upd_same, upd_same]
      refine hv.keep' hu.fr fun x hx' => ?_
      have := nv x hx'
      simp only [List.mem_singleton]
      omega
    · rw [upd_ne _ _ e, upd_ne _ _ e]
      refine (((h.own u hu').keep' hx.fr fun x hx' hx2 => ?_).keep hf2 (by simp)).keep' hu.fr fun x hx' => by simpa using (h.d2 u hu' x hx').2.2
      rcases List.mem_cons.1 hx2 with h' | h'
      · exact (h.d2 u hu' x hx').2.1 h'
      · exact h.d3 u hu' x hx' t ht h'
  · rcases hSs u hu' x hx' with h' | h'
    · exact h.d1 u hu' x h'
    · omega
  · by_cases e : u = t
    · subst e
      rw [upd_same] at hx'
      have := nv x hx'
      omega
    · rw [upd_ne _ _ e] at hx'
      exact h.d2 u hu' x hx'
  · by_cases e : u = t
    · subst e
      rw [upd_same] at hx'
      have := nv x hx'
      have := hlt v' hv' x hx2
      omega
    · rw [upd_ne _ _ e] at hx'
      rcases hSs v' hv' x hx2 with h' | h'
      · exact h.d3 u hu' x hx' v' hv' h'
      · have := hR u hu' x hx'
        omega
  · rcases hSs u hu' x hx' with h' | h'
    · exact h.news u hu' x h'
    · have := h.fr.size
      omega
  · refine ((h.fr.then hx.fr fun x hx' => ?_).trans hf2).then hu.fr fun x hx' => ?_
    · rcases List.mem_cons.1 hx' with rfl | hx'
      · exact .inr h.new.2.1
      · exact .inr (h.news t ht x hx')
    · simp only [List.mem_singleton] at hx'
      exact .inr (by have := h.new.2.2; omega)
theorem lastN_le (win : Int) (hw : win ≤ 64) (l : List Bool) : (lastN win.toNat l).length ≤ 64 := by rw [lastN_len]; omega
section
variable {K : VK} {w : World}
def lxB (k t n : Int) : Obj := .cells #[.int .i64 k, .int .i64 t, .int .i64 n] 88 (0, 0)
theorem i3_cells {a b c : Int} : ∀ v ∈ (Value.agg #[.int .i64 a, .int .i64 b, .int .i64 c]).cells.toList, v.oneCell' = true := by
  intro v hv
  simp only [Value.cells, List.mem_cons, List.not_mem_nil, or_false] at hv
  rcases hv with rfl | rfl | rfl <;> rfl
theorem meet_loop {W0 : World} {g bb wb : Nat} {win most : Int} {v : Value} {l : List LOp} (hv : RdS W0 v 3 (lopC l)) (hw : 1 ≤ win ∧ win ≤ 64) (hm : 0 ≤ most ∧ most ≤ win) (hl60 : l.length ≤ 60) :
    ∀ (d j : Nat) (w : World) (S R : Nat → Value) (H : Nat → List Bool), l.length = j + d → LSt W0 w g bb wb win most S R H → (∀ t, t < 8 → (H t).length ≤ 64 * j) → (∀ t, t < 8 → okH win.toNat most (H t)) →
      (∀ S' R' H' w', LSt W0 w' g bb wb win most S' R' H' → (∀ t, t < 8 → (H' t).length ≤ 10000) → (∀ t, t < 8 → okH win.toNat most (H' t)) → F13.k17 K (.int .i64 win) (.int .i64 most) (.slice (some ⟨wb, 0, none⟩) 8 8) w') →
      F13.l9 K (.int .i64 win) (.int .i64 most) v (.pointer (some ⟨g, 0, none⟩)) (.slice (some ⟨wb, 0, none⟩) 8 8) (.int .i64 (j : Int)) w := by
  intro d
  induction d with
  | zero =>
    intro j w S R H hd hI hH ho h
    refine F13.l9.to (C.len_rd (hv.keep hI.fr) ?_)
    simp only [C.ite_true, C.ite_false, C.pick_true, C.pick_false, C.not_bool, C.field_ptr, C.nilCheck_ptr, C.add_mk, C.sub_mk, C.mul_mk, C.eql_mk, C.neq_mk, C.lss_mk, C.leq_mk, C.gtr_mk, C.geq_mk, C.conv_mk, C.len_mk, C.ext_0, C.ext_1, C.ext3_0, C.ext3_1, C.ext3_2, C.guarded_yes, C.guarded_tf, C.guarded_ft, C.guarded_undef, Bool.not_true, Bool.not_false, Nat.zero_add, eq_self, decide_true, decide_false, lopC_len, show ¬ ((j : Int) < (l.length : Int)) by omega]
    exact h S R H w hI (fun t ht => by have := hH t ht; omega) ho
  | succ d ih =>
    intro j w S R H hd hI hH ho h
    have jl : j < l.length := by omega
    refine F13.l9.to (C.len_rd (hv.keep hI.fr) ?_)
    simp only [C.ite_true, C.ite_false, C.pick_true, C.pick_false, C.not_bool, C.field_ptr, C.nilCheck_ptr, C.add_mk, C.sub_mk, C.mul_mk, C.eql_mk, C.neq_mk, C.lss_mk, C.leq_mk, C.gtr_mk, C.geq_mk, C.conv_mk, C.len_mk, C.ext_0, C.ext_1, C.ext3_0, C.ext3_1, C.ext3_2, C.guarded_yes, C.guarded_tf, C.guarded_ft, C.guarded_undef, Bool.not_true, Bool.not_false, Nat.zero_add, eq_self, decide_true, decide_false, lopC_len, show ((j : Int) < (l.length : Int)) by omega]
    refine F13.k11.to (C.idx_rd (hv.keep hI.fr) (by omega) (by rw [Int.toNat_natCast]; exact lopC_get jl) fun g0 o cs e fz hg hlen hc => C.loadA_cells hg hlen (by decide) hc ?_)
    refine C.new_of fun b w1 hn1 => C.store_all (x := .agg #[.int .i64 l[j].k, .int .i64 l[j].t, .int .i64 l[j].n]) hn1.at_ rfl i3_cells rfl fun w2 hu2 => ?_
    have lb : w.heap.size ≤ b := by have := hn1.is; omega
    have hb2 : w2.heap[b]? = some (lxB l[j].k l[j].t l[j].n) := hu2.at_
    have f12 : Fr [] w w2 := hn1.fr.then hu2.fr (by simp; omega)
    try simp only [C.ite_true, C.ite_false, C.pick_true, C.pick_false, C.not_bool, C.field_ptr, C.nilCheck_ptr, C.add_mk, C.sub_mk, C.mul_mk, C.eql_mk, C.neq_mk, C.lss_mk, C.leq_mk, C.gtr_mk, C.geq_mk, C.conv_mk, C.len_mk, C.ext_0, C.ext_1, C.ext3_0, C.ext3_1, C.ext3_2, C.guarded_yes, C.guarded_tf, C.guarded_ft, C.guarded_undef, Bool.not_true, Bool.not_false, Nat.zero_add, eq_self, decide_true, decide_false]
    refine C.load1_of (v := .int .i64 l[j].t) hb2 rfl (Near_c _ _ _ ?_)
    have hcl := clamp_bd l[j].t 0 7 (by omega)
    obtain ⟨t, htc⟩ : ∃ t : Nat, clamp l[j].t 0 7 = (t : Int) := ⟨(clamp l[j].t 0 7).toNat, by omega⟩
    rw [htc] at hcl ⊢
    have ht : t < 8 := by omega
    refine C.store1_of hb2 rfl rfl (by simp) fun w3 hu3 => ?_
    have hb3 : w3.heap[b]? = some (lxB l[j].k (t : Int) l[j].n) := hu3.at_
    have f13 : Fr [] w w3 := f12.then hu3.fr (by simp; omega)
    have hI3 := hI.keep0 f13
    have hHt := hH t ht
    refine C.load1_of (v := .int .i64 l[j].k) hb3 rfl ?_
    have lo := fun t => lastN_le win hw.2 (H t)
    have next : ∀ (S' R' : Nat → Value) (H' : Nat → List Bool) (w' : World), LSt W0 w' g bb wb win most S' R' H' → (∀ t, t < 8 → (H' t).length ≤ 64 * (j + 1)) → (∀ t, t < 8 → okH win.toNat most (H' t)) → F13.k10 K (.int .i64 win) (.int .i64 most) v (.pointer (some ⟨g, 0, none⟩)) (.slice (some ⟨wb, 0, none⟩) 8 8) (.int .i64 (j : Int)) w' := by
      intro S' R' H' w' hI' hH' ho'
      refine F13.k10.to ?_
      simp only [C.ite_true, C.ite_false, C.pick_true, C.pick_false, C.not_bool, C.field_ptr, C.nilCheck_ptr, C.add_mk, C.sub_mk, C.mul_mk, C.eql_mk, C.neq_mk, C.lss_mk, C.leq_mk, C.gtr_mk, C.geq_mk, C.conv_mk, C.len_mk, C.ext_0, C.ext_1, C.ext3_0, C.ext3_1, C.ext3_2, C.guarded_yes, C.guarded_tf, C.guarded_ft, C.guarded_undef, Bool.not_true, Bool.not_false, Nat.zero_add, eq_self, decide_true, decide_false]
      rw [wrap64_id (n := (j : Int) + 1) (by omega), show (j : Int) + 1 = ((j + 1 : Nat) : Int) by omega]
      exact ih (j + 1) w' S' R' H' (by omega) hI' hH' ho' h
    have stay : ∀ w', Fr [] w3 w' → F13.k10 K (.int .i64 win) (.int .i64 most) v (.pointer (some ⟨g, 0, none⟩)) (.slice (some ⟨wb, 0, none⟩) 8 8) (.int .i64 (j : Int)) w' := fun w' hf => next S R H w' (hI3.keep0 hf) (fun t ht => by have := hH t ht; omega) ho
    -- letters that came, put beside
    have puts : ∀ (c : Bool) (n : Nat) (s : Value) (w4 : World), l[j].n = (n : Int) → n ≤ 64 → LNx w3 w4 bb t S s →
        Led w4 g bb 8 win most (upd S t s) (upd (fun t => lastN win.toNat (H t)) t (lastN win.toNat (lastN win.toNat (H t) ++ List.replicate (min (n : Int) win).toNat c))) → okH win.toNat most (H t ++ List.replicate n c) →
        C.draw w4 fun Q w42 => C.load1S Q (.pointer (some ⟨b, 1, none⟩)) w42 fun x76_46 w46 => C.load1S Q (.pointer (some ⟨b, 1, none⟩)) w46 fun x79_47 w47 => C.idx 1 (.slice (some ⟨wb, 0, none⟩) 8 8) x79_47 w47 fun x80_48 w48 => C.load1S Q (.pointer (some ⟨b, 2, none⟩)) w48 fun x83_49 w49 =>
          (C.load1 x80_48 w49 fun x81_50 w50 => (Q w50 ∧ (C.call Try.prog 54 #[x81_50, x83_49, (.bool c)] w50 fun x84_51 w51 => (Q w51 ∧ C.idx 1 (.slice (some ⟨wb, 0, none⟩) 8 8) x76_46 w51 fun x85_52 w52 => (C.store 1 x85_52 x84_51 w52 fun w53 => (Q w53 ∧
          F13.k10 K (.int .i64 win) (.int .i64 most) v (.pointer (some ⟨g, 0, none⟩)) (.slice (some ⟨wb, 0, none⟩) 8 8) (.int .i64 (j : Int)) w53)) ∧ True)) ∧ True)) ∧ True := by
      intro c n s w4 hn hn64 hx hL4 hok
      obtain ⟨cs, hcs, hcsz, hcr⟩ := hI3.tab
      have lb3 := lt_of_at hb3
      have lS3 : ∀ x ∈ blkS (S t), x < w.heap.size := (hI.led.own t ht).mem_lt
      obtain ⟨cb, hbb, _⟩ := hI.led.bk
      have lbb := lt_of_at hbb
      obtain ⟨cw, hcw, _⟩ := hI.tab
      have lwb := lt_of_at hcw
      have hb4 : w4.heap[b]? = some (lxB l[j].k (t : Int) l[j].n) := hx.fr.at_ hb3 fun hx' => by
        rcases List.mem_cons.1 hx' with rfl | hx'
        · omega
        · have := lS3 b hx'; omega
      have hcs4 := hx.fr.at_ hcs fun hx' => by
        rcases List.mem_cons.1 hx' with h' | h'
        · exact hI3.d0.2 h'
        · exact hI3.d1 t ht wb h' rfl
      have hR4 : OwnS w4 (R t) 4 1 (boolC (H t)) := (hI3.own t ht).keep' hx.fr fun x hx1 hx2 => by
        rcases List.mem_cons.1 hx2 with h' | h'
        · exact (hI3.d2 t ht x hx1).2.1 h'
        · exact hI3.d3 t ht x hx1 t ht h'
      refine C.draw_of (fun w' => w'.heap[b]? = some (lxB l[j].k (t : Int) l[j].n)) fun w5 hf5 he5 => ⟨by rw [he5]; exact hb4, ?_⟩
      have hb5 := hf5.at_ hb4 (by simp)
      refine C.load1S_of (v := .int .i64 (t : Int)) (fun w' hw' => ⟨_, _, _, hw', rfl⟩) (C.load1S_of (v := .int .i64 (t : Int)) (fun w' hw' => ⟨_, _, _, hw', rfl⟩) ?_)
      simp only [C.idx_mk, Int.toNat_natCast, Nat.zero_add, Nat.mul_one]
      refine ⟨⟨by omega, by omega⟩, C.load1S_of (v := .int .i64 (n : Int)) (fun w' hw' => ⟨_, _, _, hw', by rw [← hn]; rfl⟩) ⟨C.load1_of (hf5.at_ hcs4 (by simp)) (hcr t ht) ⟨hb5, ?_⟩, trivial⟩⟩
      refine ⟨put54_c hn64 (by omega) (hR4.keep hf5 (by simp)).rd fun v' w6 hf6 hn6 ho6 => ?_, trivial⟩
      have hb6 := hf6.at_ hb5 (by simp)
      refine ⟨hb6, ⟨by omega, by omega⟩, ?_⟩
      have hcs6 := hf6.at_ (hf5.at_ hcs4 (by simp)) (by simp)
      refine ⟨C.store1_of hcs6 ho6.one.2 ho6.one.1 (by omega) fun w7 hu7 => ⟨hu7.fr.at_ hb6 (by simp; omega), ?_⟩, trivial⟩
      have hI7 := hI3.step ht (by omega) hx hL4 (hf5.trans hf6) ho6 (hn6.mono hf5.size) hcs hu7
      refine next _ _ _ w7 hI7 (fun u hu => ?_) fun u hu => ?_
      · by_cases e : u = t
        · subst e
          rw [upd_same, List.length_append, List.length_replicate]
          omega
        · rw [upd_ne _ _ e]
          have := hH u hu
          omega
      · by_cases e : u = t
        · subst e
          rw [upd_same]
          exact hok
        · rw [upd_ne _ _ e]
          exact ho u hu
    by_cases k1 : l[j].k = 1
    · simp only [C.ite_true, C.ite_false, C.pick_true, C.pick_false, C.not_bool, C.field_ptr, C.nilCheck_ptr, C.add_mk, C.sub_mk, C.mul_mk, C.eql_mk, C.neq_mk, C.lss_mk, C.leq_mk, C.gtr_mk, C.geq_mk, C.conv_mk, C.len_mk, C.ext_0, C.ext_1, C.ext3_0, C.ext3_1, C.ext3_2, C.guarded_yes, C.guarded_tf, C.guarded_ft, C.guarded_undef, Bool.not_true, Bool.not_false, Nat.zero_add, eq_self, decide_true, decide_false, k1]
      refine C.load1_of (v := .int .i64 (t : Int)) hb3 rfl ?_
      try simp only [C.ite_true, C.ite_false, C.pick_true, C.pick_false, C.not_bool, C.field_ptr, C.nilCheck_ptr, C.add_mk, C.sub_mk, C.mul_mk, C.eql_mk, C.neq_mk, C.lss_mk, C.leq_mk, C.gtr_mk, C.geq_mk, C.conv_mk, C.len_mk, C.ext_0, C.ext_1, C.ext3_0, C.ext3_1, C.ext3_2, C.guarded_yes, C.guarded_tf, C.guarded_ft, C.guarded_undef, Bool.not_true, Bool.not_false, Nat.zero_add, eq_self, decide_true, decide_false]
      refine C.load1_of (v := .int .i64 l[j].n) hb3 rfl ?_
      by_cases hn : 0 ≤ l[j].n ∧ l[j].n ≤ 64
      · obtain ⟨n, hn'⟩ : ∃ n : Nat, l[j].n = (n : Int) := ⟨l[j].n.toNat, by omega⟩
        refine Run_yes hI3.led ht hn.1 hn.2 (by omega) hw.2 (lo t) fun s w4 hx hL4 => ?_
        rw [hn'] at hL4
        try simp only [C.ite_true, C.ite_false, C.pick_true, C.pick_false, C.not_bool, C.field_ptr, C.nilCheck_ptr, C.add_mk, C.sub_mk, C.mul_mk, C.eql_mk, C.neq_mk, C.lss_mk, C.leq_mk, C.gtr_mk, C.geq_mk, C.conv_mk, C.len_mk, C.ext_0, C.ext_1, C.ext3_0, C.ext3_1, C.ext3_2, C.guarded_yes, C.guarded_tf, C.guarded_ft, C.guarded_undef, Bool.not_true, Bool.not_false, Nat.zero_add, eq_self, decide_true, decide_false]
        have := puts false n s w4 hn' (by omega) hx hL4 (okH_false (ho t ht))
        exact this
      · refine Run_no hI3.led ht hn ?_
        try simp only [C.ite_true, C.ite_false, C.pick_true, C.pick_false, C.not_bool, C.field_ptr, C.nilCheck_ptr, C.add_mk, C.sub_mk, C.mul_mk, C.eql_mk, C.neq_mk, C.lss_mk, C.leq_mk, C.gtr_mk, C.geq_mk, C.conv_mk, C.len_mk, C.ext_0, C.ext_1, C.ext3_0, C.ext3_1, C.ext3_2, C.guarded_yes, C.guarded_tf, C.guarded_ft, C.guarded_undef, Bool.not_true, Bool.not_false, Nat.zero_add, eq_self, decide_true, decide_false]
        refine C.load1_of (v := .int .i64 l[j].k) hb3 rfl ?_
        simp only [C.ite_true, C.ite_false, C.pick_true, C.pick_false, C.not_bool, C.field_ptr, C.nilCheck_ptr, C.add_mk, C.sub_mk, C.mul_mk, C.eql_mk, C.neq_mk, C.lss_mk, C.leq_mk, C.gtr_mk, C.geq_mk, C.conv_mk, C.len_mk, C.ext_0, C.ext_1, C.ext3_0, C.ext3_1, C.ext3_2, C.guarded_yes, C.guarded_tf, C.guarded_ft, C.guarded_undef, Bool.not_true, Bool.not_false, Nat.zero_add, eq_self, decide_true, decide_false, k1, ne_eq, not_true_eq_false]
        exact stay w3 (Fr.refl _ _)
    · simp only [C.ite_true, C.ite_false, C.pick_true, C.pick_false, C.not_bool, C.field_ptr, C.nilCheck_ptr, C.add_mk, C.sub_mk, C.mul_mk, C.eql_mk, C.neq_mk, C.lss_mk, C.leq_mk, C.gtr_mk, C.geq_mk, C.conv_mk, C.len_mk, C.ext_0, C.ext_1, C.ext3_0, C.ext3_1, C.ext3_2, C.guarded_yes, C.guarded_tf, C.guarded_ft, C.guarded_undef, Bool.not_true, Bool.not_false, Nat.zero_add, eq_self, decide_true, decide_false, k1]
      refine C.load1_of (v := .int .i64 l[j].k) hb3 rfl ?_
      simp only [C.ite_true, C.ite_false, C.pick_true, C.pick_false, C.not_bool, C.field_ptr, C.nilCheck_ptr, C.add_mk, C.sub_mk, C.mul_mk, C.eql_mk, C.neq_mk, C.lss_mk, C.leq_mk, C.gtr_mk, C.geq_mk, C.conv_mk, C.len_mk, C.ext_0, C.ext_1, C.ext3_0, C.ext3_1, C.ext3_2, C.guarded_yes, C.guarded_tf, C.guarded_ft, C.guarded_undef, Bool.not_true, Bool.not_false, Nat.zero_add, eq_self, decide_true, decide_false, k1, ne_eq, not_false_eq_true]
      refine C.load1_of (v := .int .i64 (t : Int)) hb3 rfl ?_
      try simp only [C.ite_true, C.ite_false, C.pick_true, C.pick_false, C.not_bool, C.field_ptr, C.nilCheck_ptr, C.add_mk, C.sub_mk, C.mul_mk, C.eql_mk, C.neq_mk, C.lss_mk, C.leq_mk, C.gtr_mk, C.geq_mk, C.conv_mk, C.len_mk, C.ext_0, C.ext_1, C.ext3_0, C.ext3_1, C.ext3_2, C.guarded_yes, C.guarded_tf, C.guarded_ft, C.guarded_undef, Bool.not_true, Bool.not_false, Nat.zero_add, eq_self, decide_true, decide_false]
      refine C.load1_of (v := .int .i64 l[j].n) hb3 rfl ?_
      refine Work_c hI3.led ht (by omega) hw.2 hm.2 (lo t) (fun _ w4 hf4 => ?_) fun ha s w4 hx hL4 => ?_
      · try simp only [C.ite_true, C.ite_false, C.pick_true, C.pick_false, C.not_bool, C.field_ptr, C.nilCheck_ptr, C.add_mk, C.sub_mk, C.mul_mk, C.eql_mk, C.neq_mk, C.lss_mk, C.leq_mk, C.gtr_mk, C.geq_mk, C.conv_mk, C.len_mk, C.ext_0, C.ext_1, C.ext3_0, C.ext3_1, C.ext3_2, C.guarded_yes, C.guarded_tf, C.guarded_ft, C.guarded_undef, Bool.not_true, Bool.not_false, Nat.zero_add, eq_self, decide_true, decide_false]
        exact stay w4 hf4
      · have hadm := of_decide_eq_true ha
        obtain ⟨n, hn'⟩ : ∃ n : Nat, l[j].n = (n : Int) := ⟨l[j].n.toNat, by omega⟩
        rw [hn'] at hL4 ha
        try simp only [C.ite_true, C.ite_false, C.pick_true, C.pick_false, C.not_bool, C.field_ptr, C.nilCheck_ptr, C.add_mk, C.sub_mk, C.mul_mk, C.eql_mk, C.neq_mk, C.lss_mk, C.leq_mk, C.gtr_mk, C.geq_mk, C.conv_mk, C.len_mk, C.ext_0, C.ext_1, C.ext3_0, C.ext3_1, C.ext3_2, C.guarded_yes, C.guarded_tf, C.guarded_ft, C.guarded_undef, Bool.not_true, Bool.not_false, Nat.zero_add, eq_self, decide_true, decide_false]
        have ew : ((win.toNat : Nat) : Int) = win := by omega
        have := puts true n s w4 hn' (by omega) hx hL4 (okH_true (ho t ht) (by omega) (by rw [ew]; exact ha))
        exact this
theorem to_loop {W0 : World} {g bb wb t : Nat} {win most : Int} {S R : Nat → Value} {H : Nat → List Bool} (hI : LSt W0 w g bb wb win most S R H) (ht : t < 8) (hw : 1 ≤ win ∧ win ≤ 64) (hl : (H t).length ≤ 10000) (ho : okH win.toNat most (H t))
    (h : F13.k19 K (.int .i64 win) (.int .i64 most) (.slice (some ⟨wb, 0, none⟩) 8 8) (.int .i64 (t : Int)) w) :
    ∀ (d j : Nat), (H t).length + 1 = j + d → 1 ≤ j → F13.l21 K (.int .i64 win) (.int .i64 most) (.slice (some ⟨wb, 0, none⟩) 8 8) (.int .i64 (t : Int)) (.int .i64 (j : Int)) w := by
  obtain ⟨cs, hcs, hcsz, hcr⟩ := hI.tab
  have hrd := (hI.own t ht).rd
  intro d
  induction d with
  | zero =>
    intro j hd hj
    refine F13.l21.to ?_
    simp only [C.idx_mk, Int.toNat_natCast, Nat.zero_add, Nat.mul_one]
    refine ⟨⟨by omega, by omega⟩, C.load1_of hcs (hcr t ht) (C.len_rd hrd ?_)⟩
    simp only [C.ite_true, C.ite_false, C.pick_true, C.pick_false, C.not_bool, C.field_ptr, C.nilCheck_ptr, C.add_mk, C.sub_mk, C.mul_mk, C.eql_mk, C.neq_mk, C.lss_mk, C.leq_mk, C.gtr_mk, C.geq_mk, C.conv_mk, C.len_mk, C.ext_0, C.ext_1, C.ext3_0, C.ext3_1, C.ext3_2, C.guarded_yes, C.guarded_tf, C.guarded_ft, C.guarded_undef, Bool.not_true, Bool.not_false, Nat.zero_add, eq_self, decide_true, decide_false, boolC_len, show ¬ ((j : Int) ≤ ((H t).length : Int)) by omega]
    exact h
  | succ d ih =>
    intro j hd hj
    refine F13.l21.to ?_
    simp only [C.idx_mk, Int.toNat_natCast, Nat.zero_add, Nat.mul_one]
    refine ⟨⟨by omega, by omega⟩, C.load1_of hcs (hcr t ht) (C.len_rd hrd ?_)⟩
    simp only [C.ite_true, C.ite_false, C.pick_true, C.pick_false, C.not_bool, C.field_ptr, C.nilCheck_ptr, C.add_mk, C.sub_mk, C.mul_mk, C.eql_mk, C.neq_mk, C.lss_mk, C.leq_mk, C.gtr_mk, C.geq_mk, C.conv_mk, C.len_mk, C.ext_0, C.ext_1, C.ext3_0, C.ext3_1, C.ext3_2, C.guarded_yes, C.guarded_tf, C.guarded_ft, C.guarded_undef, Bool.not_true, Bool.not_false, Nat.zero_add, eq_self, decide_true, decide_false, boolC_len, show ((j : Int) ≤ ((H t).length : Int)) by omega]
    refine F13.k23.to ?_
    simp only [C.idx_mk, Int.toNat_natCast, Nat.zero_add, Nat.mul_one]
    refine ⟨⟨by omega, by omega⟩, C.load1_of hcs (hcr t ht) ?_⟩
    obtain ⟨A, c, he, hcap⟩ := hrd.len_c (P := Try.prog) (K := K)
    rw [boolC_len] at he hcap
    rw [he] at hrd ⊢
    refine C.run_of (sliceTo_run (e := 4) (sz := 1) A _ c .i64 (j : Int) Try.underlying90 (by kernel_rfl) (by omega) (by omega)) ?_
    rw [Int.toNat_natCast]
    have hr := hrd.take j (by omega)
    rw [← boolC_take] at hr
    refine count56_c hr win (by omega) ?_
    have hk := ho j (by omega)
    simp only [C.ite_true, C.ite_false, C.pick_true, C.pick_false, C.not_bool, C.field_ptr, C.nilCheck_ptr, C.add_mk, C.sub_mk, C.mul_mk, C.eql_mk, C.neq_mk, C.lss_mk, C.leq_mk, C.gtr_mk, C.geq_mk, C.conv_mk, C.len_mk, C.ext_0, C.ext_1, C.ext3_0, C.ext3_1, C.ext3_2, C.guarded_yes, C.guarded_tf, C.guarded_ft, C.guarded_undef, Bool.not_true, Bool.not_false, Nat.zero_add, eq_self, decide_true, decide_false, show ¬ ((cnt (lastN win.toNat ((H t).take j)) : Int) > most) by omega]
    refine F13.k22.to ?_
    simp only [C.ite_true, C.ite_false, C.pick_true, C.pick_false, C.not_bool, C.field_ptr, C.nilCheck_ptr, C.add_mk, C.sub_mk, C.mul_mk, C.eql_mk, C.neq_mk, C.lss_mk, C.leq_mk, C.gtr_mk, C.geq_mk, C.conv_mk, C.len_mk, C.ext_0, C.ext_1, C.ext3_0, C.ext3_1, C.ext3_2, C.guarded_yes, C.guarded_tf, C.guarded_ft, C.guarded_undef, Bool.not_true, Bool.not_false, Nat.zero_add, eq_self, decide_true, decide_false]
    rw [wrap64_id (n := (j : Int) + 1) (by omega), show (j : Int) + 1 = ((j + 1 : Nat) : Int) by omega]
    exact ih (j + 1) (by omega) (by omega)
theorem all_loop {W0 : World} {g bb wb : Nat} {win most : Int} {S R : Nat → Value} {H : Nat → List Bool} (hI : LSt W0 w g bb wb win most S R H) (hw : 1 ≤ win ∧ win ≤ 64) (hl : ∀ t, t < 8 → (H t).length ≤ 10000) (ho : ∀ t, t < 8 → okH win.toNat most (H t)) (h : K (.bool true) w) :
    ∀ (d t : Nat), 8 = t + d → F13.l18 K (.int .i64 win) (.int .i64 most) (.slice (some ⟨wb, 0, none⟩) 8 8) (.int .i64 (t : Int)) w := by
  intro d
  induction d with
  | zero =>
    intro t hd
    refine F13.l18.to ?_
    simp only [C.ite_true, C.ite_false, C.pick_true, C.pick_false, C.not_bool, C.field_ptr, C.nilCheck_ptr, C.add_mk, C.sub_mk, C.mul_mk, C.eql_mk, C.neq_mk, C.lss_mk, C.leq_mk, C.gtr_mk, C.geq_mk, C.conv_mk, C.len_mk, C.ext_0, C.ext_1, C.ext3_0, C.ext3_1, C.ext3_2, C.guarded_yes, C.guarded_tf, C.guarded_ft, C.guarded_undef, Bool.not_true, Bool.not_false, Nat.zero_add, eq_self, decide_true, decide_false, show ¬ ((t : Int) < 8) by omega]
    exact F13.k25.to h
  | succ d ih =>
    intro t hd
    refine F13.l18.to ?_
    simp only [C.ite_true, C.ite_false, C.pick_true, C.pick_false, C.not_bool, C.field_ptr, C.nilCheck_ptr, C.add_mk, C.sub_mk, C.mul_mk, C.eql_mk, C.neq_mk, C.lss_mk, C.leq_mk, C.gtr_mk, C.geq_mk, C.conv_mk, C.len_mk, C.ext_0, C.ext_1, C.ext3_0, C.ext3_1, C.ext3_2, C.guarded_yes, C.guarded_tf, C.guarded_ft, C.guarded_undef, Bool.not_true, Bool.not_false, Nat.zero_add, eq_self, decide_true, decide_false, show ((t : Int) < 8) by omega]
    refine F13.k20.to ?_
    have ht : t < 8 := by omega
    have := to_loop (K := K) hI ht hw (hl t ht) (ho t ht) ?_ (H t).length 1 (by omega) (Nat.le_refl _)
    · exact this
    · refine F13.k19.to ?_
      simp only [C.ite_true, C.ite_false, C.pick_true, C.pick_false, C.not_bool, C.field_ptr, C.nilCheck_ptr, C.add_mk, C.sub_mk, C.mul_mk, C.eql_mk, C.neq_mk, C.lss_mk, C.leq_mk, C.gtr_mk, C.geq_mk, C.conv_mk, C.len_mk, C.ext_0, C.ext_1, C.ext3_0, C.ext3_1, C.ext3_2, C.guarded_yes, C.guarded_tf, C.guarded_ft, C.guarded_undef, Bool.not_true, Bool.not_false, Nat.zero_add, eq_self, decide_true, decide_false]
      rw [wrap64_id (n := (t : Int) + 1) (by omega), show (t : Int) + 1 = ((t + 1 : Nat) : Int) by omega]
      exact ih (t + 1) (by omega)
theorem LedgerMeets_c {v : Value} {l : List LOp} (a b : Int) (hv : RdS w v 3 (lopC l)) (h : ∀ w', Fr [] w w' → K (.bool true) w') : C.call Try.prog 13 #[.int .i64 a, .int .i64 b, v] w K := by
  refine F13.sh (alive_l fun w1 hf1 => ?_)
  try simp only [C.ite_true, C.ite_false, C.pick_true, C.pick_false, C.not_bool, C.field_ptr, C.nilCheck_ptr, C.add_mk, C.sub_mk, C.mul_mk, C.eql_mk, C.neq_mk, C.lss_mk, C.leq_mk, C.gtr_mk, C.geq_mk, C.conv_mk, C.len_mk, C.ext_0, C.ext_1, C.ext3_0, C.ext3_1, C.ext3_2, C.guarded_yes, C.guarded_tf, C.guarded_ft, C.guarded_undef, Bool.not_true, Bool.not_false, Nat.zero_add, eq_self, decide_true, decide_false]
  refine F13.k3.to (Near_c _ _ _ (Near_c _ _ _ ?_))
  have hw := clamp_bd a 1 64 (by omega)
  generalize clamp a 1 64 = win at *
  have hm := clamp_bd b 0 win (by omega)
  generalize clamp b 0 win = most at *
  refine LedNew_c 8 (by omega) win most hw hm fun g bb w2 hf2 hg hbb hL2 => ?_
  refine C.make_of (e := 90) (sz := 1) (bytes := 24) (z := .slice none 0 0) 8 Try.underlying85 (by kernel_rfl) rfl (by decide) (by intro u hu; simp only [Value.cells, List.mem_cons, List.not_mem_nil, or_false] at hu; subst hu; rfl) (by omega) (by omega) fun wb w3 hn3 _ => ?_
  refine few_l hv fun v' hv' => ?_
  have hf12 := hf1.trans hf2
  have lg := lt_of_at hL2.obj
  obtain ⟨_, hb2, _⟩ := hL2.bk
  have lbb := lt_of_at hb2
  have z12 := hf12.size
  have z1 := hf1.size
  have := meet_loop (K := K) (g := g) (bb := bb) (wb := wb) (win := win) (most := most) hv' hw hm (by rw [List.length_take]; omega) (l.take 60).length 0 w3 (fun _ => .slice none 0 0) (fun _ => .slice none 0 0) (fun _ => []) (by omega) ?_ (by simp) ?_ fun S' R' H' w4 hI4 hH4 ho4 => ?_
  · exact this
  · refine ⟨by simpa [lastN] using hL2.keep0 hn3.fr, ⟨_, hn3.at_, by simp [size_madeCells], fun t ht => ?_⟩, fun t _ => OwnS.nil _ _ _, ⟨by have := hn3.is; omega, by have := hn3.is; omega⟩, by simp [blkS, Value.ownBlock], by simp [blkS, Value.ownBlock], by simp [blkS, Value.ownBlock], ⟨by omega, by omega, by have := hn3.is; omega⟩, by simp [blkS, Value.ownBlock], hf12.trans hn3.fr⟩
    unfold madeCells
    rw [Array.getElem?_map, Array.getElem?_range, if_pos (by omega)]
    simp [Value.cells, Nat.mod_one]
  · intro t ht k hk
    simp only [List.length_nil, Nat.le_zero] at hk
    subst hk
    simp [lastN, cnt]
    omega
  · exact F13.k17.to (all_loop hI4 hw hH4 ho4 (h w4 hI4.fr) 8 0 rfl)
end
end Go.Proofs.YtckageghbhkklaaV
