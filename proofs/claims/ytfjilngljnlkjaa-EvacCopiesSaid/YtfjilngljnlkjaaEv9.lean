/- Images, by the reference: Split, Find, Fine, Open. -/
import Derived.Test.YtfjilngljnlkjaaEv7
import Derived.Test.YtfjilngljnlkjaaGRefE
namespace Go.Proofs.YtfjilngljnlkjaaV
open Go Go.Proofs Go.RowKit
set_option linter.unusedVariables false
set_option linter.unusedSimpArgs false
set_option maxRecDepth 10000
/-! ### 1. Objects in memory -/
def obC (m : List Ob) (fs : List Value) : List (List Value) := List.zipWith (fun o f => [.int .i64 (o.at_ : Int), .int .i64 o.ser, f]) m fs
theorem obC_len {m : List Ob} {fs : List Value} (h : fs.length = m.length) : (obC m fs).length = m.length := by simp [obC, h]
theorem obC_get {m : List Ob} {fs : List Value} {j : Nat} (h : j < m.length) (h' : j < fs.length) : (obC m fs)[j]? = some [.int .i64 (m[j].at_ : Int), .int .i64 m[j].ser, fs[j]] := by
  simp [obC, List.getElem?_zipWith, List.getElem?_eq_getElem h, List.getElem?_eq_getElem h']
theorem obC_snoc {m : List Ob} {fs : List Value} (h : fs.length = m.length) (o : Ob) (f : Value) : obC (m ++ [o]) (fs ++ [f]) = obC m fs ++ [[.int .i64 (o.at_ : Int), .int .i64 o.ser, f]] := by
  unfold obC
  rw [List.zipWith_append h.symm]
  rfl
structure ObsAt (w : World) (mv : Value) (m : List Ob) (fs : List Value) : Prop where
  len : fs.length = m.length
  rd : RdS w mv 3 (obC m fs)
  fld : ∀ i (h : i < m.length) (h' : i < fs.length), RdS w fs[i] 1 (intC m[i].fs)
theorem ObsAt.keep {w w' : World} {mv : Value} {m : List Ob} {fs : List Value} (h : ObsAt w mv m fs) (hf : Fr [] w w') : ObsAt w' mv m fs := ⟨h.len, h.rd.keep hf, fun i a b => (h.fld i a b).keep hf⟩
theorem ObsAt.le {w : World} {mv : Value} {m : List Ob} {fs : List Value} (h : ObsAt w mv m fs) : m.length ≤ 9223372036854775807 := by
  have := h.rd.le
  rwa [obC_len h.len] at this
section
variable {K : VK} {w : World}
theorem ObsAt.lenC {mv : Value} {m : List Ob} {fs : List Value} (h : ObsAt w mv m fs) {w1 : World} (hk : K (.int .i64 (m.length : Int)) w1) : C.len mv w1 K := by
  obtain ⟨A, c, rfl, _⟩ := h.rd
  rw [obC_len h.len]
  simpa only [C.len_mk] using hk
/-- An object's cells. -/
theorem ObsAt.get {mv : Value} {m : List Ob} {fs : List Value} {j : Nat} (h : ObsAt w mv m fs) (hj : j < m.length)
    (hk : ∀ g o cs e fz fv, w.heap[g]? = some (.cells cs e fz) → cs[o]? = some (.int .i64 (m[j].at_ : Int)) → cs[o + 1]? = some (.int .i64 m[j].ser) → cs[o + 2]? = some fv → RdS w fv 1 (intC m[j].fs) → K (.pointer (some ⟨g, o, none⟩)) w) :
    C.idx 3 mv (.int .i64 (j : Int)) w K := by
  have hj' : j < fs.length := by rw [h.len]; exact hj
  refine C.idx_rd h.rd (by omega) (by rw [Int.toNat_natCast]; exact obC_get hj hj') fun g o cs e fz hg _ hc => hk g o cs e fz fs[j] hg ?_ ?_ ?_ (h.fld j hj hj')
  · simpa using hc 0 (by omega)
  · simpa using hc 1 (by omega)
  · simpa using hc 2 (by omega)
theorem bOb (a s : Int) (A : Option Addr) (n c : Nat) : (Instr.build 32 #[(0, .int .i64 a), (1, .int .i64 s), (2, .slice A n c)]).run Try.prog w = .ok (.agg #[.int .i64 a, .int .i64 s, .slice A n c]) w := by kernel_rfl
theorem bsOb (a s : Int) (A : Option Addr) (n c : Nat) : (Instr.buildSlice 28 1 #[(0, .agg #[.int .i64 a, .int .i64 s, .slice A n c])]).run Try.prog w = .ok (.slice (some ⟨w.heap.size, 0, none⟩) 1 1) (w.alloc (.cells #[.int .i64 a, .int .i64 s, .slice A n c] 32)) := by kernel_rfl
/-! ### 2. Split -/
structure RI (W0 w : World) (mv : Value) (m : List Ob) (fs : List Value) : Prop where
  fr : Fr [] W0 w
  len : fs.length = m.length
  own : OwnS w mv 32 3 (obC m fs)
  new : NewS W0 mv
  fld : ∀ i (h : i < m.length) (h' : i < fs.length), RdS W0 fs[i] 1 (intC m[i].fs)
theorem RI.obs {W0 w : World} {mv : Value} {m : List Ob} {fs : List Value} (h : RI W0 w mv m fs) : ObsAt w mv m fs := ⟨h.len, h.own.rd, fun i a b => (h.fld i a b).keep h.fr⟩
theorem RSplit_loop {W0 : World} {lv : Value} {l : List Int} (hl : RdS W0 lv 1 (intC l)) (hr : Rng l) (hlen : l.length ≤ 2048)
    (hb : ∀ w', Fr [] W0 w' → (¬ ∃ m, Spl 0 l m ∧ fineM m) → K (.tuple #[.slice none 0 0, .bool false]) w') (h0 : ∀ m fs mv w', Spl 0 l m → RI W0 w' mv m fs → K (.tuple #[mv, .bool true]) w') :
    ∀ (d at_ : Nat) (w : World) (mv : Value) (m : List Ob) (fs : List Value), l.length ≤ at_ + d → RI W0 w mv m fs → SI l at_ m → F32.l3 K lv mv (.int .i64 (at_ : Int)) w := by
  have fin : ∀ (at_ : Nat) (w : World) (mv : Value) (m : List Ob) (fs : List Value), l.length = at_ → RI W0 w mv m fs → SI l at_ m → F32.l3 K lv mv (.int .i64 (at_ : Int)) w := by
    intro at_ w mv m fs ha hI hs
    subst ha
    refine F32.l3.to (C.len_rd (hl.keep hI.fr) ?_)
    rw [intC_len]
    simp only [C.ite_true, C.ite_false, C.pick_true, C.pick_false, C.not_bool, C.field_ptr, C.nilCheck_ptr, C.add_mk, C.sub_mk, C.mul_mk, C.eql_mk, C.neq_mk, C.lss_mk, C.leq_mk, C.gtr_mk, C.geq_mk, C.conv_mk, C.len_mk, C.ext_0, C.ext_1, C.ext3_0, C.ext3_1, C.ext3_2, C.guarded_yes, C.guarded_tf, C.guarded_ft, C.guarded_undef, Bool.not_true, Bool.not_false, Nat.zero_add, eq_self, decide_true, decide_false, show ¬ ((l.length : Int) < (l.length : Int)) by omega]
    exact F32.k10.to (h0 m fs mv w hs.done hI)
  intro d
  induction d with
  | zero => exact fun at_ w mv m fs ha hI hs => fin at_ w mv m fs (by have := hs.le; omega) hI hs
  | succ d ih =>
    intro at_ w mv m fs ha hI hs
    by_cases hend : l.length = at_
    · exact fin at_ w mv m fs hend hI hs
    have hle := hs.le
    have hal : at_ < l.length := by omega
    have hml := hs.len
    have hrx := hr l[at_] (List.getElem_mem hal)
    have hlw := hl.keep hI.fr
    refine F32.l3.to (C.len_rd hlw ?_)
    rw [intC_len]
    simp only [C.ite_true, C.ite_false, C.pick_true, C.pick_false, C.not_bool, C.field_ptr, C.nilCheck_ptr, C.add_mk, C.sub_mk, C.mul_mk, C.eql_mk, C.neq_mk, C.lss_mk, C.leq_mk, C.gtr_mk, C.geq_mk, C.conv_mk, C.len_mk, C.ext_0, C.ext_1, C.ext3_0, C.ext3_1, C.ext3_2, C.guarded_yes, C.guarded_tf, C.guarded_ft, C.guarded_undef, Bool.not_true, Bool.not_false, Nat.zero_add, eq_self, decide_true, decide_false, show ((at_ : Int) < (l.length : Int)) by omega]
    refine F32.k4.to (C.idx_int hlw hal fun g o cs e fz hg hv => C.load1_of hg hv ?_)
    have bad : ¬ okHd l[at_] (l.length - at_) → K (.tuple #[.slice none 0 0, .bool false]) w := fun h => hb w hI.fr (hs.bad hal h)
    by_cases c1 : l[at_] < 0
    · simp only [C.ite_true, C.ite_false, C.pick_true, C.pick_false, C.not_bool, C.field_ptr, C.nilCheck_ptr, C.add_mk, C.sub_mk, C.mul_mk, C.eql_mk, C.neq_mk, C.lss_mk, C.leq_mk, C.gtr_mk, C.geq_mk, C.conv_mk, C.len_mk, C.ext_0, C.ext_1, C.ext3_0, C.ext3_1, C.ext3_2, C.guarded_yes, C.guarded_tf, C.guarded_ft, C.guarded_undef, Bool.not_true, Bool.not_false, Nat.zero_add, eq_self, decide_true, decide_false, c1]
      exact bad fun h => by unfold okHd at h; omega
    · by_cases c2 : l[at_] ≥ 140737488355328
      · simp only [C.ite_true, C.ite_false, C.pick_true, C.pick_false, C.not_bool, C.field_ptr, C.nilCheck_ptr, C.add_mk, C.sub_mk, C.mul_mk, C.eql_mk, C.neq_mk, C.lss_mk, C.leq_mk, C.gtr_mk, C.geq_mk, C.conv_mk, C.len_mk, C.ext_0, C.ext_1, C.ext3_0, C.ext3_1, C.ext3_2, C.guarded_yes, C.guarded_tf, C.guarded_ft, C.guarded_undef, Bool.not_true, Bool.not_false, Nat.zero_add, eq_self, decide_true, decide_false, c1, c2]
        exact bad fun h => by unfold okHd at h; omega
      · have em : l[at_].tmod 128 = l[at_] % 128 := by rw [Int.tmod_eq_emod_of_nonneg (by omega)]
        have et : l[at_].tdiv 128 = l[at_] / 128 := Int.tdiv_eq_ediv_of_nonneg (by omega)
        simp only [C.ite_true, C.ite_false, C.pick_true, C.pick_false, C.not_bool, C.field_ptr, C.nilCheck_ptr, C.add_mk, C.sub_mk, C.mul_mk, C.eql_mk, C.neq_mk, C.lss_mk, C.leq_mk, C.gtr_mk, C.geq_mk, C.conv_mk, C.len_mk, C.ext_0, C.ext_1, C.ext3_0, C.ext3_1, C.ext3_2, C.guarded_yes, C.guarded_tf, C.guarded_ft, C.guarded_undef, Bool.not_true, Bool.not_false, Nat.zero_add, eq_self, decide_true, decide_false, c1, c2]
        refine ⟨_, rem_run _ _ _ _ (by decide), C.len_rd hlw ?_⟩
        rw [intC_len, em]
        simp only [C.ite_true, C.ite_false, C.pick_true, C.pick_false, C.not_bool, C.field_ptr, C.nilCheck_ptr, C.add_mk, C.sub_mk, C.mul_mk, C.eql_mk, C.neq_mk, C.lss_mk, C.leq_mk, C.gtr_mk, C.geq_mk, C.conv_mk, C.len_mk, C.ext_0, C.ext_1, C.ext3_0, C.ext3_1, C.ext3_2, C.guarded_yes, C.guarded_tf, C.guarded_ft, C.guarded_undef, Bool.not_true, Bool.not_false, Nat.zero_add, eq_self, decide_true, decide_false]
        rw [wrap64_id (n := (l.length : Int) - (at_ : Int)) (by omega)]
        by_cases c3 : l[at_] % 128 ≥ (l.length : Int) - (at_ : Int)
        · simp only [C.ite_true, C.ite_false, C.pick_true, C.pick_false, C.not_bool, C.field_ptr, C.nilCheck_ptr, C.add_mk, C.sub_mk, C.mul_mk, C.eql_mk, C.neq_mk, C.lss_mk, C.leq_mk, C.gtr_mk, C.geq_mk, C.conv_mk, C.len_mk, C.ext_0, C.ext_1, C.ext3_0, C.ext3_1, C.ext3_2, C.guarded_yes, C.guarded_tf, C.guarded_ft, C.guarded_undef, Bool.not_true, Bool.not_false, Nat.zero_add, eq_self, decide_true, decide_false, c3]
          exact bad fun h => by unfold okHd at h; omega
        · simp only [C.ite_true, C.ite_false, C.pick_true, C.pick_false, C.not_bool, C.field_ptr, C.nilCheck_ptr, C.add_mk, C.sub_mk, C.mul_mk, C.eql_mk, C.neq_mk, C.lss_mk, C.leq_mk, C.gtr_mk, C.geq_mk, C.conv_mk, C.len_mk, C.ext_0, C.ext_1, C.ext3_0, C.ext3_1, C.ext3_2, C.guarded_yes, C.guarded_tf, C.guarded_ft, C.guarded_undef, Bool.not_true, Bool.not_false, Nat.zero_add, eq_self, decide_true, decide_false, c3]
          have ok : okHd l[at_] (l.length - at_) := by unfold okHd; omega
          have hs1 := hs.step hal ok
          have hle1 := hs1.le
          refine F32.k7.to ⟨_, rem_run _ _ _ _ (by decide), _, quo_run _ _ _ _ (by decide), ?_⟩
          rw [em, et]
          simp only [C.ite_true, C.ite_false, C.pick_true, C.pick_false, C.not_bool, C.field_ptr, C.nilCheck_ptr, C.add_mk, C.sub_mk, C.mul_mk, C.eql_mk, C.neq_mk, C.lss_mk, C.leq_mk, C.gtr_mk, C.geq_mk, C.conv_mk, C.len_mk, C.ext_0, C.ext_1, C.ext3_0, C.ext3_1, C.ext3_2, C.guarded_yes, C.guarded_tf, C.guarded_ft, C.guarded_undef, Bool.not_true, Bool.not_false, Nat.zero_add, eq_self, decide_true, decide_false]
          rw [wrap64_id (n := l[at_] / 128) (by omega), wrap64_id (n := (at_ : Int) + 1) (by omega), wrap64_id (n := (at_ : Int) + 1 + l[at_] % 128) (by omega)]
          have en : (at_ : Int) + 1 + l[at_] % 128 = ((at_ + 1 + (l[at_] % 128).toNat : Nat) : Int) := by omega
          rw [en, show (at_ : Int) + 1 = ((at_ + 1 : Nat) : Int) by omega]
          refine C.mid_of hl Try.underlying22 (by kernel_rfl : szOf Try.prog 2 = some 1) (by omega) (by rw [intC_len]; omega) fun fv hfv _ => ?_
          have efs : ((intC l).drop (at_ + 1)).take (at_ + 1 + (l[at_] % 128).toNat - (at_ + 1)) = intC ((l.drop (at_ + 1)).take (l[at_] % 128).toNat) := by
            rw [show at_ + 1 + (l[at_] % 128).toNat - (at_ + 1) = (l[at_] % 128).toNat by omega]
            simp [intC, List.map_take, List.map_drop]
          rw [efs] at hfv
          have hfv0 := hfv
          obtain ⟨A, cc, rfl, q1, q2, q3⟩ := hfv
          refine C.run_of (bOb _ _ _ _ _) ?_
          refine C.app1 (W0 := W0) (x := [.int .i64 (at_ : Int), .int .i64 (l[at_] / 128), .slice A (intC ((l.drop (at_ + 1)).take (l[at_] % 128).toNat)).length cc]) (e := 32) (sz := 3) (bytes := 40) (z := .agg #[.int .i64 0, .int .i64 0, .slice none 0 0]) Try.underlying28 (by kernel_rfl) rfl (by decide) (bsOb _ _ _ _ _) rfl (by simp [Value.oneCell']) hI.fr hI.new hI.own (by rw [obC_len hI.len]; omega) (by rw [obC_len hI.len]; omega) fun mv' w1 hf1 hn1 ho1 _ _ => ?_
          try simp only [C.ite_true, C.ite_false, C.pick_true, C.pick_false, C.not_bool, C.field_ptr, C.nilCheck_ptr, C.add_mk, C.sub_mk, C.mul_mk, C.eql_mk, C.neq_mk, C.lss_mk, C.leq_mk, C.gtr_mk, C.geq_mk, C.conv_mk, C.len_mk, C.ext_0, C.ext_1, C.ext3_0, C.ext3_1, C.ext3_2, C.guarded_yes, C.guarded_tf, C.guarded_ft, C.guarded_undef, Bool.not_true, Bool.not_false, Nat.zero_add, eq_self, decide_true, decide_false]
          refine ih _ w1 mv' _ (fs ++ [_]) (by omega) ⟨hf1, by simp [hI.len], by rw [obC_snoc hI.len]; exact ho1, hn1, fun i a b => ?_⟩ hs1
          by_cases c : i < m.length
          · have c' : i < fs.length := by rw [hI.len]; exact c
            rw [List.getElem_append_left c, List.getElem_append_left c']
            exact hI.fld i c c'
          · have ei : i = m.length := by simp at a; omega
            have ei' : i = fs.length := by rw [hI.len]; exact ei
            rw [List.getElem_append_right (by omega), List.getElem_append_right (by omega)]
            simp only [ei', Nat.sub_self, hI.len, List.getElem_cons_zero]
            exact hfv0
theorem RSplit_c {lv : Value} {l : List Int} (hl : RdS w lv 1 (intC l)) (hr : Rng l) (hlen : l.length ≤ 2048)
    (hb : ∀ w', Fr [] w w' → (¬ ∃ m, Spl 0 l m ∧ fineM m) → K (.tuple #[.slice none 0 0, .bool false]) w') (h0 : ∀ m fs mv w', Spl 0 l m → RI w w' mv m fs → K (.tuple #[mv, .bool true]) w') : C.call Try.prog 32 #[lv] w K :=
  F32.sh (RSplit_loop hl hr hlen hb h0 l.length 0 w (.slice none 0 0) [] [] (by omega) ⟨Fr.refl _ _, rfl, OwnS.nil _ _ _, NewS.nil _, fun i a b => by simp at a⟩ (SI.start l))
/-! ### 3. Find, Fine, Open -/
def plI (m : List Ob) (a : Nat) : Int := match pl m a with
  | some p => (p : Int)
  | none => -1
theorem Find_loop {mv : Value} {m : List Ob} {fs : List Value} {a : Nat} (hM : ObsAt w mv m fs) (h : K (.int .i64 (plI m a)) w) :
    ∀ (d j : Nat), m.length = j + d → (∀ i (hi : i < m.length), i < j → m[i].at_ ≠ a) → F37.l2 K mv (.int .i64 (a : Int)) (.int .i64 (j : Int)) w := by
  have hle := hM.le
  intro d
  induction d with
  | zero =>
    intro j hj hn
    refine F37.l2.to (hM.lenC ?_)
    simp only [C.ite_true, C.ite_false, C.pick_true, C.pick_false, C.not_bool, C.field_ptr, C.nilCheck_ptr, C.add_mk, C.sub_mk, C.mul_mk, C.eql_mk, C.neq_mk, C.lss_mk, C.leq_mk, C.gtr_mk, C.geq_mk, C.conv_mk, C.len_mk, C.ext_0, C.ext_1, C.ext3_0, C.ext3_1, C.ext3_2, C.guarded_yes, C.guarded_tf, C.guarded_ft, C.guarded_undef, Bool.not_true, Bool.not_false, Nat.zero_add, eq_self, decide_true, decide_false, show ¬ ((j : Int) < (m.length : Int)) by omega]
    have : pl m a = none := pl_none.2 fun o ho => by
      obtain ⟨i, hi, rfl⟩ := List.getElem_of_mem ho
      exact hn i hi (by omega)
    unfold plI at h
    rw [this] at h
    exact F37.k6.to h
  | succ d ih =>
    intro j hj hn
    have jl : j < m.length := by omega
    refine F37.l2.to (hM.lenC ?_)
    simp only [C.ite_true, C.ite_false, C.pick_true, C.pick_false, C.not_bool, C.field_ptr, C.nilCheck_ptr, C.add_mk, C.sub_mk, C.mul_mk, C.eql_mk, C.neq_mk, C.lss_mk, C.leq_mk, C.gtr_mk, C.geq_mk, C.conv_mk, C.len_mk, C.ext_0, C.ext_1, C.ext3_0, C.ext3_1, C.ext3_2, C.guarded_yes, C.guarded_tf, C.guarded_ft, C.guarded_undef, Bool.not_true, Bool.not_false, Nat.zero_add, eq_self, decide_true, decide_false, show ((j : Int) < (m.length : Int)) by omega]
    refine F37.k4.to (hM.get jl fun g o cs e fz fv hg h0 h1 h2 hf => ?_)
    simp only [C.ite_true, C.ite_false, C.pick_true, C.pick_false, C.not_bool, C.field_ptr, C.nilCheck_ptr, C.add_mk, C.sub_mk, C.mul_mk, C.eql_mk, C.neq_mk, C.lss_mk, C.leq_mk, C.gtr_mk, C.geq_mk, C.conv_mk, C.len_mk, C.ext_0, C.ext_1, C.ext3_0, C.ext3_1, C.ext3_2, C.guarded_yes, C.guarded_tf, C.guarded_ft, C.guarded_undef, Bool.not_true, Bool.not_false, Nat.zero_add, eq_self, decide_true, decide_false]
    refine C.load1_of hg (by simpa using h0) ?_
    by_cases c : m[j].at_ = a
    · simp only [C.ite_true, C.ite_false, C.pick_true, C.pick_false, C.not_bool, C.field_ptr, C.nilCheck_ptr, C.add_mk, C.sub_mk, C.mul_mk, C.eql_mk, C.neq_mk, C.lss_mk, C.leq_mk, C.gtr_mk, C.geq_mk, C.conv_mk, C.len_mk, C.ext_0, C.ext_1, C.ext3_0, C.ext3_1, C.ext3_2, C.guarded_yes, C.guarded_tf, C.guarded_ft, C.guarded_undef, Bool.not_true, Bool.not_false, Nat.zero_add, eq_self, decide_true, decide_false, show (m[j].at_ : Int) = (a : Int) by omega]
      have : pl m a = some j := by
        unfold pl
        rw [List.findIdx?_eq_some_iff_getElem]
        exact ⟨jl, by simpa using c, fun i hi => by simpa using hn i (by omega) hi⟩
      unfold plI at h
      rw [this] at h
      exact h
    · simp only [C.ite_true, C.ite_false, C.pick_true, C.pick_false, C.not_bool, C.field_ptr, C.nilCheck_ptr, C.add_mk, C.sub_mk, C.mul_mk, C.eql_mk, C.neq_mk, C.lss_mk, C.leq_mk, C.gtr_mk, C.geq_mk, C.conv_mk, C.len_mk, C.ext_0, C.ext_1, C.ext3_0, C.ext3_1, C.ext3_2, C.guarded_yes, C.guarded_tf, C.guarded_ft, C.guarded_undef, Bool.not_true, Bool.not_false, Nat.zero_add, eq_self, decide_true, decide_false, show ¬ (m[j].at_ : Int) = (a : Int) by omega]
      refine F37.k3.to ?_
      simp only [C.ite_true, C.ite_false, C.pick_true, C.pick_false, C.not_bool, C.field_ptr, C.nilCheck_ptr, C.add_mk, C.sub_mk, C.mul_mk, C.eql_mk, C.neq_mk, C.lss_mk, C.leq_mk, C.gtr_mk, C.geq_mk, C.conv_mk, C.len_mk, C.ext_0, C.ext_1, C.ext3_0, C.ext3_1, C.ext3_2, C.guarded_yes, C.guarded_tf, C.guarded_ft, C.guarded_undef, Bool.not_true, Bool.not_false, Nat.zero_add, eq_self, decide_true, decide_false]
      rw [wrap64_id (n := (j : Int) + 1) (by omega), show (j : Int) + 1 = ((j + 1 : Nat) : Int) by omega]
      refine ih (j + 1) (by omega) fun i hi hij => ?_
      by_cases e : i = j
      · subst e; exact c
      · exact hn i hi (by omega)
theorem Find_c {mv : Value} {m : List Ob} {fs : List Value} {a : Nat} (hM : ObsAt w mv m fs) (h : K (.int .i64 (plI m a)) w) : C.call Try.prog 37 #[mv, .int .i64 (a : Int)] w K :=
  F37.sh (Find_loop hM h m.length 0 (by omega) fun i hi hij => by omega)
/-- A word read into a block. -/
theorem readPut {k n : Int} {F : Value → World → Prop} (hk : ∀ b w', Fr [] w w' → w.heap.size ≤ b → w'.heap[b]? = some (vB k n) → F (.pointer (some ⟨b, 0, none⟩)) w') : C.new (.cells #[.int .i64 0, .int .i64 0] 75) w fun x w1 => C.store 2 x (V k n) w1 fun w2 => F x w2 := by
  refine C.new_of fun b w1 hn => C.store_all hn.at_ rfl v2_cells rfl fun w2 hu => ?_
  have i := hn.is
  exact hk b w2 (hn.fr.then hu.fr fun z hz => .inr (by simp only [List.mem_singleton] at hz; omega)) (by omega) hu.at_
theorem Fine_loop {W0 : World} {mv wv : Value} {m : List Ob} {fs : List Value} {ws : List Int} (hM : ObsAt W0 mv m fs) (hws : RdS W0 wv 1 (intC ws)) (hr : Rng ws) (h : ∀ w', Fr [] W0 w' → K (.bool (ws.all (fineW m))) w') :
    ∀ (d j : Nat) (w : World), ws.length = j + d → Fr [] W0 w → (∀ i (hi : i < ws.length), i < j → fineW m ws[i] = true) → F17.l2 K mv wv (.int .i64 (j : Int)) w := by
  have hle := hws.le
  rw [intC_len] at hle
  intro d
  induction d with
  | zero =>
    intro j w hj hf hn
    refine F17.l2.to (C.len_rd hws ?_)
    rw [intC_len]
    simp only [C.ite_true, C.ite_false, C.pick_true, C.pick_false, C.not_bool, C.field_ptr, C.nilCheck_ptr, C.add_mk, C.sub_mk, C.mul_mk, C.eql_mk, C.neq_mk, C.lss_mk, C.leq_mk, C.gtr_mk, C.geq_mk, C.conv_mk, C.len_mk, C.ext_0, C.ext_1, C.ext3_0, C.ext3_1, C.ext3_2, C.guarded_yes, C.guarded_tf, C.guarded_ft, C.guarded_undef, Bool.not_true, Bool.not_false, Nat.zero_add, eq_self, decide_true, decide_false, show ¬ ((j : Int) < (ws.length : Int)) by omega]
    have : ws.all (fineW m) = true := List.all_eq_true.2 fun x hx => by
      obtain ⟨i, hi, rfl⟩ := List.getElem_of_mem hx
      exact hn i hi (by omega)
    have hk := h w hf
    rw [this] at hk
    exact F17.k7.to hk
  | succ d ih =>
    intro j w hj hf hn
    have jl : j < ws.length := by omega
    refine F17.l2.to (C.len_rd hws ?_)
    rw [intC_len]
    simp only [C.ite_true, C.ite_false, C.pick_true, C.pick_false, C.not_bool, C.field_ptr, C.nilCheck_ptr, C.add_mk, C.sub_mk, C.mul_mk, C.eql_mk, C.neq_mk, C.lss_mk, C.leq_mk, C.gtr_mk, C.geq_mk, C.conv_mk, C.len_mk, C.ext_0, C.ext_1, C.ext3_0, C.ext3_1, C.ext3_2, C.guarded_yes, C.guarded_tf, C.guarded_ft, C.guarded_undef, Bool.not_true, Bool.not_false, Nat.zero_add, eq_self, decide_true, decide_false, show ((j : Int) < (ws.length : Int)) by omega]
    have bad : ∀ w', Fr [] w w' → fineW m ws[j] = false → K (.bool false) w' := fun w' hf' hb => by
      have : ws.all (fineW m) = false := by
        rw [List.all_eq_false]
        exact ⟨ws[j], List.getElem_mem jl, by simp [hb]⟩
      have hk := h w' (hf.trans hf')
      rwa [this] at hk
    have good : ∀ w', Fr [] w w' → fineW m ws[j] = true → F17.k3 K mv wv (.int .i64 (j : Int)) w' := fun w' hf' hg => by
      refine F17.k3.to ?_
      simp only [C.ite_true, C.ite_false, C.pick_true, C.pick_false, C.not_bool, C.field_ptr, C.nilCheck_ptr, C.add_mk, C.sub_mk, C.mul_mk, C.eql_mk, C.neq_mk, C.lss_mk, C.leq_mk, C.gtr_mk, C.geq_mk, C.conv_mk, C.len_mk, C.ext_0, C.ext_1, C.ext3_0, C.ext3_1, C.ext3_2, C.guarded_yes, C.guarded_tf, C.guarded_ft, C.guarded_undef, Bool.not_true, Bool.not_false, Nat.zero_add, eq_self, decide_true, decide_false]
      rw [wrap64_id (n := (j : Int) + 1) (by omega), show (j : Int) + 1 = ((j + 1 : Nat) : Int) by omega]
      refine ih (j + 1) w' (by omega) (hf.trans hf') fun i hi hij => ?_
      by_cases e : i = j
      · subst e; exact hg
      · exact hn i hi (by omega)
    refine F17.k4.to (C.idx_int (hws.keep hf) jl fun g o cs e fz hg hv => C.load1_of hg hv (RefRead_c _ (hr _ (List.getElem_mem jl)) (fun hc w1 hf1 => ?_) (fun hc w1 hf1 => ?_)))
    · have ok : okW ws[j] = true := by simp [okW, hc]
      simp only [C.ite_true, C.ite_false, C.pick_true, C.pick_false, C.not_bool, C.field_ptr, C.nilCheck_ptr, C.add_mk, C.sub_mk, C.mul_mk, C.eql_mk, C.neq_mk, C.lss_mk, C.leq_mk, C.gtr_mk, C.geq_mk, C.conv_mk, C.len_mk, C.ext_0, C.ext_1, C.ext3_0, C.ext3_1, C.ext3_2, C.guarded_yes, C.guarded_tf, C.guarded_ft, C.guarded_undef, Bool.not_true, Bool.not_false, Nat.zero_add, eq_self, decide_true, decide_false]
      refine readPut fun b w2 hf2 _ hb => ?_
      have f2 := hf1.trans hf2
      try simp only [C.ite_true, C.ite_false, C.pick_true, C.pick_false, C.not_bool, C.field_ptr, C.nilCheck_ptr, C.add_mk, C.sub_mk, C.mul_mk, C.eql_mk, C.neq_mk, C.lss_mk, C.leq_mk, C.gtr_mk, C.geq_mk, C.conv_mk, C.len_mk, C.ext_0, C.ext_1, C.ext3_0, C.ext3_1, C.ext3_2, C.guarded_yes, C.guarded_tf, C.guarded_ft, C.guarded_undef, Bool.not_true, Bool.not_false, Nat.zero_add, eq_self, decide_true, decide_false]
      refine C.load1_of (v := .int .i64 (rdK ws[j])) hb rfl ?_
      by_cases k2 : rdK ws[j] = 2
      · have hw : wRef ws[j] = some (rdN ws[j]).toNat := by unfold wRef; rw [if_pos ⟨hc, k2⟩]
        have hn2 := (wRef_ok hw).2.2
        simp only [C.ite_true, C.ite_false, C.pick_true, C.pick_false, C.not_bool, C.field_ptr, C.nilCheck_ptr, C.add_mk, C.sub_mk, C.mul_mk, C.eql_mk, C.neq_mk, C.lss_mk, C.leq_mk, C.gtr_mk, C.geq_mk, C.conv_mk, C.len_mk, C.ext_0, C.ext_1, C.ext3_0, C.ext3_1, C.ext3_2, C.guarded_yes, C.guarded_tf, C.guarded_ft, C.guarded_undef, Bool.not_true, Bool.not_false, Nat.zero_add, eq_self, decide_true, decide_false, k2]
        refine C.load1_of (v := .int .i64 (rdN ws[j])) hb rfl ?_
        rw [hn2]
        refine Find_c (hM.keep (hf.trans f2)) ?_
        unfold plI
        cases hp : pl m (rdN ws[j]).toNat with
        | none =>
          simp only [C.ite_true, C.ite_false, C.pick_true, C.pick_false, C.not_bool, C.field_ptr, C.nilCheck_ptr, C.add_mk, C.sub_mk, C.mul_mk, C.eql_mk, C.neq_mk, C.lss_mk, C.leq_mk, C.gtr_mk, C.geq_mk, C.conv_mk, C.len_mk, C.ext_0, C.ext_1, C.ext3_0, C.ext3_1, C.ext3_2, C.guarded_yes, C.guarded_tf, C.guarded_ft, C.guarded_undef, Bool.not_true, Bool.not_false, Nat.zero_add, eq_self, decide_true, decide_false, show ((-1 : Int) < 0) by omega]
          exact bad w2 f2 (by unfold fineW; rw [hw, ok]; simp [hp])
        | some p =>
          simp only [C.ite_true, C.ite_false, C.pick_true, C.pick_false, C.not_bool, C.field_ptr, C.nilCheck_ptr, C.add_mk, C.sub_mk, C.mul_mk, C.eql_mk, C.neq_mk, C.lss_mk, C.leq_mk, C.gtr_mk, C.geq_mk, C.conv_mk, C.len_mk, C.ext_0, C.ext_1, C.ext3_0, C.ext3_1, C.ext3_2, C.guarded_yes, C.guarded_tf, C.guarded_ft, C.guarded_undef, Bool.not_true, Bool.not_false, Nat.zero_add, eq_self, decide_true, decide_false, show ¬ ((p : Int) < 0) by omega]
          exact good w2 f2 (by unfold fineW; rw [hw, ok]; simp [hp])
      · have hw : wRef ws[j] = none := by unfold wRef; rw [if_neg fun c => k2 c.2]
        simp only [C.ite_true, C.ite_false, C.pick_true, C.pick_false, C.not_bool, C.field_ptr, C.nilCheck_ptr, C.add_mk, C.sub_mk, C.mul_mk, C.eql_mk, C.neq_mk, C.lss_mk, C.leq_mk, C.gtr_mk, C.geq_mk, C.conv_mk, C.len_mk, C.ext_0, C.ext_1, C.ext3_0, C.ext3_1, C.ext3_2, C.guarded_yes, C.guarded_tf, C.guarded_ft, C.guarded_undef, Bool.not_true, Bool.not_false, Nat.zero_add, eq_self, decide_true, decide_false, k2]
        exact good w2 f2 (by unfold fineW; rw [hw, ok]; rfl)
    · have ok : okW ws[j] = false := by simp [okW, hc]
      simp only [C.ite_true, C.ite_false, C.pick_true, C.pick_false, C.not_bool, C.field_ptr, C.nilCheck_ptr, C.add_mk, C.sub_mk, C.mul_mk, C.eql_mk, C.neq_mk, C.lss_mk, C.leq_mk, C.gtr_mk, C.geq_mk, C.conv_mk, C.len_mk, C.ext_0, C.ext_1, C.ext3_0, C.ext3_1, C.ext3_2, C.guarded_yes, C.guarded_tf, C.guarded_ft, C.guarded_undef, Bool.not_true, Bool.not_false, Nat.zero_add, eq_self, decide_true, decide_false]
      refine readPut fun b w2 hf2 _ hb => ?_
      try simp only [C.ite_true, C.ite_false, C.pick_true, C.pick_false, C.not_bool, C.field_ptr, C.nilCheck_ptr, C.add_mk, C.sub_mk, C.mul_mk, C.eql_mk, C.neq_mk, C.lss_mk, C.leq_mk, C.gtr_mk, C.geq_mk, C.conv_mk, C.len_mk, C.ext_0, C.ext_1, C.ext3_0, C.ext3_1, C.ext3_2, C.guarded_yes, C.guarded_tf, C.guarded_ft, C.guarded_undef, Bool.not_true, Bool.not_false, Nat.zero_add, eq_self, decide_true, decide_false]
      exact bad w2 (hf1.trans hf2) (by unfold fineW; rw [ok]; rfl)
theorem Fine_c {mv wv : Value} {m : List Ob} {fs : List Value} {ws : List Int} (hM : ObsAt w mv m fs) (hws : RdS w wv 1 (intC ws)) (hr : Rng ws) (h : ∀ w', Fr [] w w' → K (.bool (ws.all (fineW m))) w') : C.call Try.prog 17 #[mv, wv] w K :=
  F17.sh (Fine_loop hM hws hr h ws.length 0 w (by omega) (Fr.refl _ _) fun i hi hij => by omega)
theorem all_fine {m : List Ob} {ws : List Int} : ws.all (fineW m) = true ↔ fineL m ws := by rw [List.all_eq_true]; exact Iff.rfl
theorem ROpen_loop {W0 : World} {mv : Value} {m : List Ob} {fs : List Value} (hM : ObsAt W0 mv m fs) (hr : ∀ o ∈ m, Rng o.fs) (hb : ∀ w', Fr [] W0 w' → ¬ fineM m → K (.tuple #[.slice none 0 0, .int .i64 16]) w') (h0 : ∀ w', Fr [] W0 w' → fineM m → K (.tuple #[mv, .int .i64 0]) w') :
    ∀ (d j : Nat) (w : World), m.length = j + d → Fr [] W0 w → (∀ i (hi : i < m.length), i < j → fineL m m[i].fs) → F13.l7 K mv (.int .i64 (j : Int)) w := by
  have hle := hM.le
  intro d
  induction d with
  | zero =>
    intro j w hj hf hn
    refine F13.l7.to (hM.lenC ?_)
    simp only [C.ite_true, C.ite_false, C.pick_true, C.pick_false, C.not_bool, C.field_ptr, C.nilCheck_ptr, C.add_mk, C.sub_mk, C.mul_mk, C.eql_mk, C.neq_mk, C.lss_mk, C.leq_mk, C.gtr_mk, C.geq_mk, C.conv_mk, C.len_mk, C.ext_0, C.ext_1, C.ext3_0, C.ext3_1, C.ext3_2, C.guarded_yes, C.guarded_tf, C.guarded_ft, C.guarded_undef, Bool.not_true, Bool.not_false, Nat.zero_add, eq_self, decide_true, decide_false, show ¬ ((j : Int) < (m.length : Int)) by omega]
    refine F13.k11.to (h0 w hf fun o ho => ?_)
    obtain ⟨i, hi, rfl⟩ := List.getElem_of_mem ho
    exact hn i hi (by omega)
  | succ d ih =>
    intro j w hj hf hn
    have jl : j < m.length := by omega
    have hM' := hM.keep hf
    refine F13.l7.to (hM.lenC ?_)
    simp only [C.ite_true, C.ite_false, C.pick_true, C.pick_false, C.not_bool, C.field_ptr, C.nilCheck_ptr, C.add_mk, C.sub_mk, C.mul_mk, C.eql_mk, C.neq_mk, C.lss_mk, C.leq_mk, C.gtr_mk, C.geq_mk, C.conv_mk, C.len_mk, C.ext_0, C.ext_1, C.ext3_0, C.ext3_1, C.ext3_2, C.guarded_yes, C.guarded_tf, C.guarded_ft, C.guarded_undef, Bool.not_true, Bool.not_false, Nat.zero_add, eq_self, decide_true, decide_false, show ((j : Int) < (m.length : Int)) by omega]
    refine F13.k9.to (hM'.get jl fun g o cs e fz fv hg h0' h1 h2 hfv => ?_)
    simp only [C.ite_true, C.ite_false, C.pick_true, C.pick_false, C.not_bool, C.field_ptr, C.nilCheck_ptr, C.add_mk, C.sub_mk, C.mul_mk, C.eql_mk, C.neq_mk, C.lss_mk, C.leq_mk, C.gtr_mk, C.geq_mk, C.conv_mk, C.len_mk, C.ext_0, C.ext_1, C.ext3_0, C.ext3_1, C.ext3_2, C.guarded_yes, C.guarded_tf, C.guarded_ft, C.guarded_undef, Bool.not_true, Bool.not_false, Nat.zero_add, eq_self, decide_true, decide_false]
    refine C.load1_of hg h2 (Fine_c hM' hfv (hr _ (List.getElem_mem jl)) fun w1 hf1 => ?_)
    cases ha : m[j].fs.all (fineW m) with
    | true =>
      simp only [C.ite_true, C.ite_false, C.pick_true, C.pick_false, C.not_bool, C.field_ptr, C.nilCheck_ptr, C.add_mk, C.sub_mk, C.mul_mk, C.eql_mk, C.neq_mk, C.lss_mk, C.leq_mk, C.gtr_mk, C.geq_mk, C.conv_mk, C.len_mk, C.ext_0, C.ext_1, C.ext3_0, C.ext3_1, C.ext3_2, C.guarded_yes, C.guarded_tf, C.guarded_ft, C.guarded_undef, Bool.not_true, Bool.not_false, Nat.zero_add, eq_self, decide_true, decide_false]
      refine F13.k8.to ?_
      simp only [C.ite_true, C.ite_false, C.pick_true, C.pick_false, C.not_bool, C.field_ptr, C.nilCheck_ptr, C.add_mk, C.sub_mk, C.mul_mk, C.eql_mk, C.neq_mk, C.lss_mk, C.leq_mk, C.gtr_mk, C.geq_mk, C.conv_mk, C.len_mk, C.ext_0, C.ext_1, C.ext3_0, C.ext3_1, C.ext3_2, C.guarded_yes, C.guarded_tf, C.guarded_ft, C.guarded_undef, Bool.not_true, Bool.not_false, Nat.zero_add, eq_self, decide_true, decide_false]
      rw [wrap64_id (n := (j : Int) + 1) (by omega), show (j : Int) + 1 = ((j + 1 : Nat) : Int) by omega]
      refine ih (j + 1) w1 (by omega) (hf.trans hf1) fun i hi hij => ?_
      by_cases e : i = j
      · subst e; exact all_fine.1 ha
      · exact hn i hi (by omega)
    | false =>
      simp only [C.ite_true, C.ite_false, C.pick_true, C.pick_false, C.not_bool, C.field_ptr, C.nilCheck_ptr, C.add_mk, C.sub_mk, C.mul_mk, C.eql_mk, C.neq_mk, C.lss_mk, C.leq_mk, C.gtr_mk, C.geq_mk, C.conv_mk, C.len_mk, C.ext_0, C.ext_1, C.ext3_0, C.ext3_1, C.ext3_2, C.guarded_yes, C.guarded_tf, C.guarded_ft, C.guarded_undef, Bool.not_true, Bool.not_false, Nat.zero_add, eq_self, decide_true, decide_false]
      refine hb w1 (hf.trans hf1) fun hm => ?_
      have := all_fine.2 (hm _ (List.getElem_mem jl))
      rw [ha] at this
      cases this
theorem ROpen_c {lv : Value} {l : List Int} (hl : RdS w lv 1 (intC l)) (hr : Rng l) (h : ∀ c m fs mv w', Cd l c m → Fr [] w w' → ObsAt w' mv m fs → K (.tuple #[mv, .int .i64 c]) w') : C.call Try.prog 13 #[lv] w K := by
  have nilO : ∀ w', ObsAt w' (.slice none 0 0) [] [] := fun w' => ⟨rfl, (OwnS.nil w' 3 3).rd, fun i a b => by simp at a⟩
  refine F13.sh (C.len_rd hl ?_)
  rw [intC_len]
  by_cases c : (l.length : Int) > 2048
  · simp only [C.ite_true, C.ite_false, C.pick_true, C.pick_false, C.not_bool, C.field_ptr, C.nilCheck_ptr, C.add_mk, C.sub_mk, C.mul_mk, C.eql_mk, C.neq_mk, C.lss_mk, C.leq_mk, C.gtr_mk, C.geq_mk, C.conv_mk, C.len_mk, C.ext_0, C.ext_1, C.ext3_0, C.ext3_1, C.ext3_2, C.guarded_yes, C.guarded_tf, C.guarded_ft, C.guarded_undef, Bool.not_true, Bool.not_false, Nat.zero_add, eq_self, decide_true, decide_false, c]
    exact h 5 [] [] _ w (.inl ⟨rfl, by omega, rfl⟩) (Fr.refl _ _) (nilO w)
  · simp only [C.ite_true, C.ite_false, C.pick_true, C.pick_false, C.not_bool, C.field_ptr, C.nilCheck_ptr, C.add_mk, C.sub_mk, C.mul_mk, C.eql_mk, C.neq_mk, C.lss_mk, C.leq_mk, C.gtr_mk, C.geq_mk, C.conv_mk, C.len_mk, C.ext_0, C.ext_1, C.ext3_0, C.ext3_1, C.ext3_2, C.guarded_yes, C.guarded_tf, C.guarded_ft, C.guarded_undef, Bool.not_true, Bool.not_false, Nat.zero_add, eq_self, decide_true, decide_false, c]
    have hlen : l.length ≤ 2048 := by omega
    refine F13.k3.to (RSplit_c hl hr hlen (fun w1 hf1 hn => ?_) fun m fs mv w1 hS hI => ?_)
    · simp only [C.ite_true, C.ite_false, C.pick_true, C.pick_false, C.not_bool, C.field_ptr, C.nilCheck_ptr, C.add_mk, C.sub_mk, C.mul_mk, C.eql_mk, C.neq_mk, C.lss_mk, C.leq_mk, C.gtr_mk, C.geq_mk, C.conv_mk, C.len_mk, C.ext_0, C.ext_1, C.ext3_0, C.ext3_1, C.ext3_2, C.guarded_yes, C.guarded_tf, C.guarded_ft, C.guarded_undef, Bool.not_true, Bool.not_false, Nat.zero_add, eq_self, decide_true, decide_false]
      exact h 16 [] [] _ w1 (.inr (.inl ⟨rfl, hlen, rfl, hn⟩)) hf1 (nilO w1)
    · simp only [C.ite_true, C.ite_false, C.pick_true, C.pick_false, C.not_bool, C.field_ptr, C.nilCheck_ptr, C.add_mk, C.sub_mk, C.mul_mk, C.eql_mk, C.neq_mk, C.lss_mk, C.leq_mk, C.gtr_mk, C.geq_mk, C.conv_mk, C.len_mk, C.ext_0, C.ext_1, C.ext3_0, C.ext3_1, C.ext3_2, C.guarded_yes, C.guarded_tf, C.guarded_ft, C.guarded_undef, Bool.not_true, Bool.not_false, Nat.zero_add, eq_self, decide_true, decide_false]
      refine F13.k6.to (ROpen_loop hI.obs (fun o ho => ?_) (fun w2 hf2 hn => h 16 [] [] _ w2 (.inr (.inl ⟨rfl, hlen, rfl, fun ⟨m', a, b⟩ => ?_⟩)) (hI.fr.trans hf2) (nilO w2)) (fun w2 hf2 hm => h 0 m fs mv w2 (.inr (.inr ⟨rfl, hlen, hS, hm⟩)) (hI.fr.trans hf2) (hI.obs.keep hf2)) m.length 0 w1 (by omega) (Fr.refl _ _) fun i hi hij => by omega)
      · obtain ⟨i, hi, rfl⟩ := List.getElem_of_mem ho
        exact hr.fs hS hi
      · have := hS.det a
        subst this
        exact hn b
end
end Go.Proofs.YtfjilngljnlkjaaV
