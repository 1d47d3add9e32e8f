/- Objects moved, by the program: start, move, moved. -/
import Derived.Test.YtfjilngljnlkjaaEv5
namespace Go.Proofs.YtfjilngljnlkjaaV
open Go Go.Proofs Go.RowKit
set_option linter.unusedVariables false
set_option linter.unusedSimpArgs false
set_option maxRecDepth 10000
/-! ### 1. Plain -/
def atA (m : List Ob) (p : Nat) : Nat := (m[p]?.map Ob.at_).getD 0
theorem atA_get {m : List Ob} {p : Nat} (h : p < m.length) : atA m p = m[p].at_ := by simp [atA, List.getElem?_eq_getElem h]
def ordL (m : List Ob) (o : List Nat) : List Int := o.map fun p => (atA m p : Int)
theorem ordL_len (m : List Ob) (o : List Nat) : (ordL m o).length = o.length := by simp [ordL]
theorem ordL_get {m : List Ob} {o : List Nat} {j : Nat} (h : j < o.length) (h' : j < (ordL m o).length) : (ordL m o)[j] = (atA m o[j] : Int) := by simp [ordL]
theorem ordL_app (m : List Ob) (a b : List Nat) : ordL m (a ++ b) = ordL m a ++ ordL m b := by simp [ordL]
/-- Where those that were met go, as the map has it. -/
def entA (m : List Ob) (o : List Nat) (i : Nat) : Int × Value × Nat := ((atA m (o.getD i 0) : Int), .int .i64 (szS m (o.take i) : Int), i)
def ents (m : List Ob) (o : List Nat) : List (Int × Value × Nat) := (List.range o.length).map (entA m o)
theorem ents_snoc (m : List Ob) (o : List Nat) (p : Nat) : ents m (o ++ [p]) = ents m o ++ [((atA m p : Int), .int .i64 (szS m o : Int), o.length)] := by
  unfold ents
  rw [List.length_append, List.length_singleton, List.range_succ, List.map_append]
  congr 1
  · apply List.map_congr_left
    intro i hi
    have hi' := List.mem_range.1 hi
    simp only [entA, List.getD_eq_getElem?_getD, List.getElem?_append_left hi', List.take_append_of_le_length (Nat.le_of_lt hi')]
  · simp [entA]
theorem ents_get {m : List Ob} {o : List Nat} {i : Nat} (h : i < o.length) : (ents m o)[i]? = some ((atA m o[i] : Int), .int .i64 (szS m (o.take i) : Int), i) := by
  simp [ents, entA, h]
section
variable {l : List Int} {m : List Ob} {o : List Nat}
theorem at_inj (h : Spl 0 l m) {p q : Nat} (hp : p < m.length) (hq : q < m.length) (e : atA m p = atA m q) : p = q := by
  rw [atA_get hp, atA_get hq] at e
  rcases Nat.lt_trichotomy p q with c | c | c
  · have := h.mono c hq; omega
  · exact c
  · have := h.mono c hp; omega
theorem ents_hit (h : Spl 0 l m) (hP : Pls m o) {p : Nat} (hp : p ∈ o) : fnd (atA m p : Int) (ents m o) 0 = some (o.idxOf p, .int .i64 (pos m o p : Int)) := by
  have hi := idx_lt hp
  have hg := idx_get hp
  have := fnd_some (a := (atA m p : Int)) (l := ents m o) (i := 0) (j := o.idxOf p) (ents_get hi) (by simp only [hg]) (fun k y hk hy e => by
    have hk' : k < o.length := by omega
    rw [ents_get hk'] at hy
    simp only [Option.some.injEq] at hy
    subst hy
    simp only at e
    have := at_inj h (hP.2 _ (List.getElem_mem hk')) (hP.2 p hp) (by omega)
    have hne := List.pairwise_iff_getElem.1 (List.nodup_iff_pairwise_ne.1 hP.1) k (o.idxOf p) hk' hi hk
    exact hne (this.trans hg.symm))
  rw [this]
  have e := pos_get (m := m) hP.1 hi
  rw [hg] at e
  simp [e]
theorem ents_miss (h : Spl 0 l m) (hP : Pls m o) {p : Nat} (hm : p < m.length) (hp : p ∉ o) : fnd (atA m p : Int) (ents m o) 0 = none := by
  refine fnd_none fun x hx e => ?_
  obtain ⟨i, hi, rfl⟩ := List.getElem_of_mem hx
  have hi' : i < o.length := by simpa [ents] using hi
  have := ents_get (m := m) hi'
  rw [List.getElem?_eq_getElem hi] at this
  simp only [Option.some.injEq] at this
  rw [this] at e
  simp only at e
  have e2 := at_inj h (hP.2 _ (List.getElem_mem hi')) hm (by omega)
  exact hp (e2 ▸ List.getElem_mem hi')
theorem movW_pre {x : Int} {o' : List Nat} (hpre : o <+: o') (hin : ∀ p, wPl m x = some p → p ∈ o) : movW m o' x = movW m o x := by
  obtain ⟨t, rfl⟩ := hpre
  cases hw : wPl m x with
  | none => rw [mov_none hw, mov_none hw]
  | some p => rw [mov_some hw, mov_some hw, pos_app (hin p hw)]
theorem vis1_in {x : Int} {p : Nat} (h : wPl m x = some p) : p ∈ vis1 m o x := by
  unfold vis1
  rw [h]
  simp only
  split
  · assumption
  · simp
end
/-! ### 2. The mover -/
structure MV (Wb w : World) (mb tb : Nat) (lv sv ov : Value) (m : List Ob) (o : List Nat) : Prop where
  fr : Fr [] Wb w
  blk : w.heap[mb]? = some (.cells #[lv, sv, .map (some tb), ov, .int .i64 (szS m o : Int)] 72 (0, 0))
  map : MapAt (fun a : Int => Value.int .i64 a) w tb (ents m o) o.length
  own : OwnS w ov 3 1 (intC (ordL m o))
  lo : Wb.heap.size ≤ mb ∧ Wb.heap.size ≤ tb ∧ mb ≠ tb
  new : NewS Wb ov
theorem MV.keep {Wb w w' : World} {mb tb : Nat} {lv sv ov : Value} {m : List Ob} {o : List Nat} (h : MV Wb w mb tb lv sv ov m o) (hf : Fr [] w w') : MV Wb w' mb tb lv sv ov m o :=
  ⟨h.fr.trans hf, hf.at_ h.blk (by simp), h.map.keep hf (by simp), h.own.keep hf (by simp), h.lo, h.new⟩
theorem MV.rebase {Wb W w : World} {mb tb : Nat} {lv sv ov : Value} {m : List Ob} {o : List Nat} (h : MV Wb w mb tb lv sv ov m o) (hf : Fr [] W Wb) : MV W w mb tb lv sv ov m o :=
  ⟨hf.trans h.fr, h.blk, h.map, h.own, ⟨by have := hf.size; have := h.lo; omega, by have := hf.size; have := h.lo; omega, h.lo.2.2⟩, h.new.mono hf.size⟩
/-- All that changes is the mover's. -/
theorem MV.off {Wb w : World} {mb tb : Nat} {lv sv ov v : Value} {m : List Ob} {o : List Nat} {e : TypeId} {sz : Nat} {xs : List (List Value)} (h : MV Wb w mb tb lv sv ov m o) (ho : OwnS w v e sz xs) (h1 : e ≠ 72) (h2 : e ≠ 3) : ∀ g ∈ blkS v, g ∉ mb :: tb :: blkS ov := fun g hg c => by
  rcases List.mem_cons.1 c with c | c
  · subst c; exact ho.nb h.blk h1 hg
  · rcases List.mem_cons.1 c with c | c
    · subst c
      obtain ⟨⟨_, hx⟩, _⟩ := ho
      rcases hx with ⟨rfl, _⟩ | ⟨k, cap, cur, rfl, _, hh, _⟩
      · simp [blkS, Value.ownBlock] at hg
      · simp [blkS, Value.ownBlock] at hg
        subst hg
        have := h.map
        unfold MapAt at this
        rw [hh] at this
        cases this
    · exact ho.ne h.own h2 g hg c
section
variable {K : VK} {w : World}
theorem Reference_c {a : Nat} (ha : a < 2048) (h : ∀ w', Fr [] w w' → K (V 2 (a : Int)) w') : C.call Try.prog 67 #[.int .i64 (a : Int)] w K := by
  refine F67.sh (C.new_of fun b w1 hn1 => C.run_of (buildV _ _) (F86.sh (C.new_of fun c w2 hn2 => C.new_of fun d w3 hn3 => ?_)))
  have i1 := hn1.is; have i2 := hn2.is; have i3 := hn3.is
  have z1 := hn1.sz; have z2 := hn2.sz
  have hc : w3.heap[c]? = some (vB 2 (a : Int)) := hn3.fr.at_ hn2.at_ (by simp)
  refine C.loadA_all hc rfl (Check_c 2 (a : Int) fun w4 hf4 => ?_)
  have e : chk 2 (a : Int) = 0 := by unfold chk; rw [if_neg (by decide), if_neg (by decide), if_pos rfl, if_pos (by omega)]
  rw [e]
  simp only [C.ite_true, C.ite_false, C.pick_true, C.pick_false, C.not_bool, C.field_ptr, C.nilCheck_ptr, C.add_mk, C.sub_mk, C.mul_mk, C.eql_mk, C.neq_mk, C.lss_mk, C.leq_mk, C.gtr_mk, C.geq_mk, C.conv_mk, C.len_mk, C.ext_0, C.ext_1, C.ext3_0, C.ext3_1, C.ext3_2, C.guarded_yes, C.guarded_tf, C.guarded_ft, C.guarded_undef, Bool.not_true, Bool.not_false, Nat.zero_add, eq_self, decide_true, decide_false, ne_eq, not_true_eq_false]
  refine F86.k3.to (C.loadA_all (hf4.at_ hc (by simp)) rfl (C.store_all (hf4.at_ hn3.at_ (by simp)) rfl v2_cells rfl fun w5 hu5 => C.loadA_all hu5.at_ rfl ?_))
  have f15 : Fr [] w1 w5 := ((hn2.fr.trans hn3.fr).trans hf4).then hu5.fr fun z hz => .inr (by simp only [List.mem_singleton] at hz; omega)
  refine C.store_all (f15.at_ hn1.at_ (by simp)) rfl v2_cells rfl fun w6 hu6 => C.loadA_all hu6.at_ rfl (h w6 ?_)
  exact (hn1.fr.trans f15).then hu6.fr fun z hz => .inr (by simp only [List.mem_singleton] at hz; omega)
theorem szI (m : List Ob) (o : List Nat) (p : Nat) : szS m (o ++ [p]) = szS m o + szA m p := by rw [szS_app, szS_one]
theorem move_c {Wb : World} {mb tb : Nat} {lv sv ov : Value} {l : List Int} {m : List Ob} {o : List Nat} {x : Int} (hO : Spl 0 l m) (hlen : l.length ≤ 2048) (hlv : RdS Wb lv 1 (intC l)) (hsv : sv.cells = #[sv]) (hr : Rng l) (hP : Pls m o) (hM : MV Wb w mb tb lv sv ov m o)
    (hx : -9223372036854775808 ≤ x ∧ x ≤ 9223372036854775807) (hf : fineW m x = true)
    (h : ∀ ov' w', MV Wb w' mb tb lv sv ov' m (vis1 m o x) → Fr (mb :: tb :: blkS ov) w w' → (∀ g ∈ blkS ov', g ∈ blkS ov ∨ w.heap.size ≤ g) → K (.int .i64 (movW m (vis1 m o x) x)) w') :
    C.call Try.prog 55 #[.pointer (some ⟨mb, 0, none⟩), .int .i64 x] w K := by
  refine F55.sh (Address_c x hx (fun hc w1 hf1 => ?_) (fun hc w1 hf1 => ?_))
  · have hw : wRef x = some (rdN x).toNat := by unfold wRef; rw [if_pos hc]
    obtain ⟨p, hp, hwp⟩ := fine_pl hf hw
    obtain ⟨pm, pat, _⟩ := pl_some hp
    have hn := (wRef_ok hw).2.2
    rw [hn, ← pat, ← atA_get pm]
    have M1 := hM.keep hf1
    have hz : zeroOf Try.prog 3 = some (.int .i64 0) := by kernel_rfl
    have hK : KeyOf Try.prog 3 (fun a : Int => Value.int .i64 a) := KeyOf.int Try.underlying3
    -- the end
    have fin : ∀ (o' : List Nat) ov' w', p ∈ o' → Pls m o' → o' = vis1 m o x → MV Wb w' mb tb lv sv ov' m o' → Fr (mb :: tb :: blkS ov) w w' → (∀ g ∈ blkS ov', g ∈ blkS ov ∨ w.heap.size ≤ g) → F55.k9 K (.pointer (some ⟨mb, 0, none⟩)) (.int .i64 (atA m p : Int)) w' := by
      intro o' ov' w' hpo hP' ho' M' hfr hg
      refine F55.k9.to ?_
      simp only [C.ite_true, C.ite_false, C.pick_true, C.pick_false, C.not_bool, C.field_ptr, C.nilCheck_ptr, C.add_mk, C.sub_mk, C.mul_mk, C.eql_mk, C.neq_mk, C.lss_mk, C.leq_mk, C.gtr_mk, C.geq_mk, C.conv_mk, C.len_mk, C.ext_0, C.ext_1, C.ext3_0, C.ext3_1, C.ext3_2, C.guarded_yes, C.guarded_tf, C.guarded_ft, C.guarded_undef, Bool.not_true, Bool.not_false, Nat.zero_add, eq_self, decide_true, decide_false]
      have hpos : pos m o' p < 2048 := by
        have h1 := pos_lt (m := m) hpo
        have h2 := hP'.sz hO
        have : 1 ≤ szA m p := by unfold szA; omega
        omega
      refine C.load1_of (v := .map (some tb)) M'.blk rfl (C.lookup_of hK Try.underlying70 hz M'.map (atA m p : Int) (v := .int .i64 (pos m o' p : Int)) (is := true) (.inr ⟨_, ents_hit hO hP' hpo, rfl⟩) ?_)
      simp only [Bool.false_eq_true, if_false]
      refine Reference_c hpos fun w2 hf2 => Put_yes 2 _ (by unfold chk; rw [if_neg (by decide), if_neg (by decide), if_pos rfl, if_pos (by omega)]) fun w3 hf3 => ?_
      simp only [C.ite_true, C.ite_false, C.pick_true, C.pick_false, C.not_bool, C.field_ptr, C.nilCheck_ptr, C.add_mk, C.sub_mk, C.mul_mk, C.eql_mk, C.neq_mk, C.lss_mk, C.leq_mk, C.gtr_mk, C.geq_mk, C.conv_mk, C.len_mk, C.ext_0, C.ext_1, C.ext3_0, C.ext3_1, C.ext3_2, C.guarded_yes, C.guarded_tf, C.guarded_ft, C.guarded_undef, Bool.not_true, Bool.not_false, Nat.zero_add, eq_self, decide_true, decide_false]
      have e : putW 2 (pos m o' p : Int) = movW m (vis1 m o x) x := by
        rw [mov_some hwp, ← ho']
        unfold putW
        rw [if_pos rfl]
      rw [e]
      refine h ov' w3 (by rw [← ho']; exact (M'.keep hf2).keep hf3) ((hfr.trans (hf2.w)).trans hf3.w) hg
    simp only [C.ite_true, C.ite_false, C.pick_true, C.pick_false, C.not_bool, C.field_ptr, C.nilCheck_ptr, C.add_mk, C.sub_mk, C.mul_mk, C.eql_mk, C.neq_mk, C.lss_mk, C.leq_mk, C.gtr_mk, C.geq_mk, C.conv_mk, C.len_mk, C.ext_0, C.ext_1, C.ext3_0, C.ext3_1, C.ext3_2, C.guarded_yes, C.guarded_tf, C.guarded_ft, C.guarded_undef, Bool.not_true, Bool.not_false, Nat.zero_add, eq_self, decide_true, decide_false]
    refine F55.k4.to ?_
    simp only [C.ite_true, C.ite_false, C.pick_true, C.pick_false, C.not_bool, C.field_ptr, C.nilCheck_ptr, C.add_mk, C.sub_mk, C.mul_mk, C.eql_mk, C.neq_mk, C.lss_mk, C.leq_mk, C.gtr_mk, C.geq_mk, C.conv_mk, C.len_mk, C.ext_0, C.ext_1, C.ext3_0, C.ext3_1, C.ext3_2, C.guarded_yes, C.guarded_tf, C.guarded_ft, C.guarded_undef, Bool.not_true, Bool.not_false, Nat.zero_add, eq_self, decide_true, decide_false]
    by_cases hin : p ∈ o
    · refine C.load1_of (v := .map (some tb)) M1.blk rfl (C.lookup_of hK Try.underlying70 hz M1.map (atA m p : Int) (v := .int .i64 (pos m o p : Int)) (is := true) (.inr ⟨_, ents_hit hO hP hin, rfl⟩) ?_)
      simp only [C.ite_true, C.ite_false, C.pick_true, C.pick_false, C.not_bool, C.field_ptr, C.nilCheck_ptr, C.add_mk, C.sub_mk, C.mul_mk, C.eql_mk, C.neq_mk, C.lss_mk, C.leq_mk, C.gtr_mk, C.geq_mk, C.conv_mk, C.len_mk, C.ext_0, C.ext_1, C.ext3_0, C.ext3_1, C.ext3_2, C.guarded_yes, C.guarded_tf, C.guarded_ft, C.guarded_undef, Bool.not_true, Bool.not_false, Nat.zero_add, eq_self, decide_true, decide_false, if_true]
      refine fin o ov w1 hin hP ?_ M1 hf1.w fun g hg => .inl hg
      unfold vis1
      rw [hwp]
      simp only [hin, if_true]
    · refine C.load1_of (v := .map (some tb)) M1.blk rfl (C.lookup_of hK Try.underlying70 hz M1.map (atA m p : Int) (v := .int .i64 0) (is := false) (.inl ⟨ents_miss hO hP pm hin, rfl, rfl⟩) ?_)
      simp only [C.ite_true, C.ite_false, C.pick_true, C.pick_false, C.not_bool, C.field_ptr, C.nilCheck_ptr, C.add_mk, C.sub_mk, C.mul_mk, C.eql_mk, C.neq_mk, C.lss_mk, C.leq_mk, C.gtr_mk, C.geq_mk, C.conv_mk, C.len_mk, C.ext_0, C.ext_1, C.ext3_0, C.ext3_1, C.ext3_2, C.guarded_yes, C.guarded_tf, C.guarded_ft, C.guarded_undef, Bool.not_true, Bool.not_false, Nat.zero_add, eq_self, decide_true, decide_false, if_true]
      obtain ⟨l1, l2, l3⟩ := hM.lo
      refine C.draw_of (fun w' => w'.heap[mb]? = some (.cells #[lv, sv, .map (some tb), ov, .int .i64 (szS m o : Int)] 72 (0, 0))) fun w2 hf2 he2 => ⟨by rw [he2]; exact M1.blk, ?_⟩
      have M2 := M1.keep hf2
      simp only [C.ite_true, C.ite_false, C.pick_true, C.pick_false, C.not_bool, C.field_ptr, C.nilCheck_ptr, C.add_mk, C.sub_mk, C.mul_mk, C.eql_mk, C.neq_mk, C.lss_mk, C.leq_mk, C.gtr_mk, C.geq_mk, C.conv_mk, C.len_mk, C.ext_0, C.ext_1, C.ext3_0, C.ext3_1, C.ext3_2, C.guarded_yes, C.guarded_tf, C.guarded_ft, C.guarded_undef, Bool.not_true, Bool.not_false, Nat.zero_add, eq_self, decide_true, decide_false, and_true]
      refine C.load1S_of (v := .map (some tb)) (fun w' hw => ⟨_, _, _, hw, rfl⟩) (C.load1S_of (v := .int .i64 (szS m o : Int)) (fun w' hw => ⟨_, _, _, hw, rfl⟩) (C.mapNew_of hK Try.underlying70 M2.map (atA m p : Int) (.int .i64 (szS m o : Int)) (ents_miss hO hP pm hin) fun w3 hf3 hz3 hm3 => ?_))
      have hb3 := hf3.at_ M2.blk (by simp; omega)
      refine ⟨hb3, ?_⟩
      rw [← ents_snoc] at hm3
      have own3 := M2.own.keep' hf3 fun g hg c => by
        simp only [List.mem_singleton] at c
        subst c
        obtain ⟨⟨_, hx⟩, _⟩ := M2.own
        rcases hx with ⟨rfl, _⟩ | ⟨k, cap, cur, rfl, _, hh, _⟩
        · simp [blkS, Value.ownBlock] at hg
        · simp [blkS, Value.ownBlock] at hg
          subst hg
          have := M2.map
          unfold MapAt at this
          rw [hh] at this
          cases this
      have f3 : Fr [] Wb w3 := M2.fr.then hf3 fun z hz => .inr (by simp only [List.mem_singleton] at hz; omega)
      have hol := hP.len
      have hml := hO.len
      refine C.load1_of (v := ov) hb3 rfl (C.appI f3 hM.new own3 (by rw [ordL_len]; omega) fun ov' w4 hf4 hn4 ho4 hb4 hg4 => ?_)
      try simp only [C.ite_true, C.ite_false, C.pick_true, C.pick_false, C.not_bool, C.field_ptr, C.nilCheck_ptr, C.add_mk, C.sub_mk, C.mul_mk, C.eql_mk, C.neq_mk, C.lss_mk, C.leq_mk, C.gtr_mk, C.geq_mk, C.conv_mk, C.len_mk, C.ext_0, C.ext_1, C.ext3_0, C.ext3_1, C.ext3_2, C.guarded_yes, C.guarded_tf, C.guarded_ft, C.guarded_undef, Bool.not_true, Bool.not_false, Nat.zero_add, eq_self, decide_true, decide_false]
      have nb4 : mb ∉ blkS ov := own3.nb hb3 (by decide)
      have nt4 : tb ∉ blkS ov := fun hg => by
        obtain ⟨⟨_, hx⟩, _⟩ := own3
        rcases hx with ⟨rfl, _⟩ | ⟨k, cap, cur, rfl, _, hh, _⟩
        · simp [blkS, Value.ownBlock] at hg
        · simp [blkS, Value.ownBlock] at hg
          subst hg
          unfold MapAt at hm3
          rw [hh] at hm3
          cases hm3
      have hb4' := hb4.at_ hb3 nb4
      have hm4 := hm3.keep hb4 nt4
      refine C.store1_of hb4' ho4.one.2 ho4.one.1 (by simp) fun w5 hu5 => ?_
      have hb5 : w5.heap[mb]? = some (.cells #[lv, sv, .map (some tb), ov', .int .i64 (szS m o : Int)] 72 (0, 0)) := hu5.at_
      have ho5 := ho4.keep' hu5.fr fun g hg => by
        simp only [List.mem_singleton]
        intro e
        subst e
        exact ho4.nb hb4' (by decide) hg
      have hm5 := hm4.keep hu5.fr (by simp; omega)
      have f5 : Fr [] Wb w5 := hf4.then hu5.fr fun z hz => .inr (by simp only [List.mem_singleton] at hz; omega)
      refine C.draw_of (fun _ => True) fun w6 hf6 he6 => ⟨trivial, ?_⟩
      simp only [C.ite_true, C.ite_false, C.pick_true, C.pick_false, C.not_bool, C.field_ptr, C.nilCheck_ptr, C.add_mk, C.sub_mk, C.mul_mk, C.eql_mk, C.neq_mk, C.lss_mk, C.leq_mk, C.gtr_mk, C.geq_mk, C.conv_mk, C.len_mk, C.ext_0, C.ext_1, C.ext3_0, C.ext3_1, C.ext3_2, C.guarded_yes, C.guarded_tf, C.guarded_ft, C.guarded_undef, Bool.not_true, Bool.not_false, Nat.zero_add, eq_self, decide_true, decide_false, true_and, and_true]
      have hO6 := (hO.get p pm).1
      have hszp : szA m p = 1 + m[p].fs.length := by unfold szA; rw [fsA_get pm]
      have hb6 := hf6.at_ hb5 (by simp)
      have hlv6 : ∀ w', Fr [] w6 w' → RdS w' lv 1 (intC l) := fun w' hw => hlv.keep ((f5.trans hf6).trans hw)
      have hnew : vis1 m o x = o ++ [p] := by unfold vis1; rw [hwp]; simp only [hin, if_false]
      have hP' : Pls m (o ++ [p]) := by rw [← hnew]; exact hP.vis1 x
      have hsz := hP'.sz hO
      rw [szI] at hsz
      -- the last store
      have last : ∀ (fv : Value) (w7 : World), Fr [] w6 w7 → RdS w7 fv 1 (intC m[p].fs) → C.len fv w7 fun x59 w49 => C.int .add (.int .i64 1) x59 w49 fun x60 w50 => C.int .add (.int .i64 (szS m o : Int)) x60 w50 fun x61 w51 => C.store 1 (.pointer (some ⟨mb, 4, none⟩)) x61 w51 fun w54 => F55.k9 K (.pointer (some ⟨mb, 0, none⟩)) (.int .i64 (atA m p : Int)) w54 := by
        intro fv w7 hf7 hfv
        refine C.len_rd hfv ?_
        rw [intC_len]
        simp only [C.ite_true, C.ite_false, C.pick_true, C.pick_false, C.not_bool, C.field_ptr, C.nilCheck_ptr, C.add_mk, C.sub_mk, C.mul_mk, C.eql_mk, C.neq_mk, C.lss_mk, C.leq_mk, C.gtr_mk, C.geq_mk, C.conv_mk, C.len_mk, C.ext_0, C.ext_1, C.ext3_0, C.ext3_1, C.ext3_2, C.guarded_yes, C.guarded_tf, C.guarded_ft, C.guarded_undef, Bool.not_true, Bool.not_false, Nat.zero_add, eq_self, decide_true, decide_false]
        rw [wrap64_id (n := 1 + (m[p].fs.length : Int)) (by omega), wrap64_id (n := (szS m o : Int) + (1 + (m[p].fs.length : Int))) (by omega), show (szS m o : Int) + (1 + (m[p].fs.length : Int)) = ((szS m (o ++ [p]) : Nat) : Int) by rw [szI]; omega]
        refine C.store1_of (hf7.at_ hb6 (by simp)) rfl rfl (by simp) fun w8 hu8 => ?_
        have f68 : Fr [mb] w6 w8 := hf7.w.trans hu8.fr
        have own8 := ((ho5.keep hf6 (by simp)).keep hf7 (by simp)).keep' hu8.fr fun g hg => by
          simp only [List.mem_singleton]
          intro e
          subst e
          exact ((ho5.keep hf6 (by simp)).keep hf7 (by simp)).nb (hf7.at_ hb6 (by simp)) (by decide) hg
        refine fin (o ++ [p]) ov' w8 (by simp) hP' hnew.symm ⟨((f5.trans hf6).trans hf7).then hu8.fr fun z hz => .inr (by simp only [List.mem_singleton] at hz; omega), hu8.at_, ?_, ?_, hM.lo, hn4⟩ ?_ ?_
        · have := ((hm5.keep hf6 (by simp)).keep hf7 (by simp)).keep hu8.fr (by simp; omega)
          rw [List.length_append]
          exact this
        · rw [ordL_app]
          exact own8
        · have a1 : Fr (mb :: tb :: blkS ov) w w3 := (hf1.w.trans hf2.w).trans (hf3.mono fun z hz => by simp only [List.mem_singleton] at hz; simp [hz])
          have a2 : Fr (mb :: tb :: blkS ov) w3 w4 := hb4.mono fun z hz => by simp [hz]
          have a3 : Fr (mb :: tb :: blkS ov) w4 w5 := hu5.fr.mono fun z hz => by simp only [List.mem_singleton] at hz; simp [hz]
          have a4 : Fr (mb :: tb :: blkS ov) w6 w8 := f68.mono fun z hz => by simp only [List.mem_singleton] at hz; simp [hz]
          exact ((a1.trans a2).trans a3).trans (hf6.w.trans a4)
        · intro g hg
          rcases hg4 g hg with c | c
          · exact .inl c
          · right
            have := hf1.size; have := hf2.size; have := hf3.size; omega
      have hlv7 : ∀ w7, Fr [] w6 w7 → ∀ F : VK, (∀ fv w8, Fr [] w7 w8 → RdS w8 fv 1 (intC m[p].fs) → F fv w8) → C.call Try.prog 35 #[.agg #[lv, sv], .int .i64 (atA m p : Int)] w7 F := fun w7 hf7 F hF => by
        rw [atA_get pm]
        exact fields_c (hlv6 w7 hf7) hsv hr hO6 fun fv w8 a b _ => hF fv w8 a b
      have img : ∀ w7, Fr [] w6 w7 → ∀ F : VK, F (.agg #[lv, sv]) w7 → C.loadA 2 (.pointer (some ⟨mb, 0, none⟩)) w7 F := fun w7 hf7 F hF => C.loadA_of (vs := [lv, sv]) (hf7.at_ hb6 (by simp)) (by simp) (by simp) hF
      have sz1 : ∀ w7, Fr [] w6 w7 → ∀ F : VK, F (.int .i64 (szS m o : Int)) w7 → C.load1 (.pointer (some ⟨mb, 4, none⟩)) w7 F := fun w7 hf7 F hF => C.load1_of (hf7.at_ hb6 (by simp)) rfl hF
      refine ⟨sz1 _ (Fr.refl _ _) _ (img _ (Fr.refl _ _) _ (hlv7 _ (Fr.refl _ _) _ fun fv w7 hf7 hfv => last fv w7 hf7 hfv)), img _ (Fr.refl _ _) _ ⟨sz1 _ (Fr.refl _ _) _ (hlv7 _ (Fr.refl _ _) _ fun fv w7 hf7 hfv => last fv w7 hf7 hfv), hlv7 _ (Fr.refl _ _) _ fun fv w7 hf7 hfv => ?_⟩⟩
      have := last fv w7 hf7 hfv
      obtain ⟨A, c, rfl, _⟩ := hfv
      simp only [C.ite_true, C.ite_false, C.pick_true, C.pick_false, C.not_bool, C.field_ptr, C.nilCheck_ptr, C.add_mk, C.sub_mk, C.mul_mk, C.eql_mk, C.neq_mk, C.lss_mk, C.leq_mk, C.gtr_mk, C.geq_mk, C.conv_mk, C.len_mk, C.ext_0, C.ext_1, C.ext3_0, C.ext3_1, C.ext3_2, C.guarded_yes, C.guarded_tf, C.guarded_ft, C.guarded_undef, Bool.not_true, Bool.not_false, Nat.zero_add, eq_self, decide_true, decide_false] at this ⊢
      exact sz1 _ hf7 _ (by simp only [C.ite_true, C.ite_false, C.pick_true, C.pick_false, C.not_bool, C.field_ptr, C.nilCheck_ptr, C.add_mk, C.sub_mk, C.mul_mk, C.eql_mk, C.neq_mk, C.lss_mk, C.leq_mk, C.gtr_mk, C.geq_mk, C.conv_mk, C.len_mk, C.ext_0, C.ext_1, C.ext3_0, C.ext3_1, C.ext3_2, C.guarded_yes, C.guarded_tf, C.guarded_ft, C.guarded_undef, Bool.not_true, Bool.not_false, Nat.zero_add, eq_self, decide_true, decide_false]; exact this)
  · have hw : wRef x = none := by unfold wRef; rw [if_neg hc]
    have hwp := wPl_none (m := m) hw
    have e : vis1 m o x = o := by unfold vis1; rw [hwp]
    simp only [C.ite_true, C.ite_false, C.pick_true, C.pick_false, C.not_bool, C.field_ptr, C.nilCheck_ptr, C.add_mk, C.sub_mk, C.mul_mk, C.eql_mk, C.neq_mk, C.lss_mk, C.leq_mk, C.gtr_mk, C.geq_mk, C.conv_mk, C.len_mk, C.ext_0, C.ext_1, C.ext3_0, C.ext3_1, C.ext3_2, C.guarded_yes, C.guarded_tf, C.guarded_ft, C.guarded_undef, Bool.not_true, Bool.not_false, Nat.zero_add, eq_self, decide_true, decide_false]
    have := h ov w1 (by rw [e]; exact hM.keep hf1) hf1.w fun g hg => .inl hg
    rwa [mov_none hwp] at this
end
end Go.Proofs.YtfjilngljnlkjaaV
