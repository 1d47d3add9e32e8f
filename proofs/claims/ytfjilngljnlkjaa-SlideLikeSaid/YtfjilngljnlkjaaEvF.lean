/- The reference's view, the whole; serials unlike. · The reference's view, the walk. · EvacViews. -/
import Derived.Test.YtfjilngljnlkjaaEvE
namespace Go.Proofs.YtfjilngljnlkjaaV
open Go Go.Proofs Go.RowKit
set_option linter.unusedVariables false
set_option linter.unusedSimpArgs false
set_option maxRecDepth 10000
/-! ### 1. The least, plain -/
def sel (m : List Ob) (U : Nat → Bool) : Nat → Option Nat
  | 0 => none
  | q + 1 => if U q then (match sel m U q with
    | none => some q
    | some b => if serA m q < serA m b then some q else some b) else sel m U q
theorem sel_none {m : List Ob} {U : Nat → Bool} : ∀ {q : Nat}, sel m U q = none → ∀ x, x < q → U x = false
  | 0, _, x, hx => by omega
  | q + 1, h, x, hx => by
    unfold sel at h
    by_cases hu : U q = true
    · rw [if_pos hu] at h
      cases e : sel m U q with
      | none => rw [e] at h; cases h
      | some b => rw [e] at h; simp only at h; split at h <;> cases h
    · rw [if_neg hu] at h
      by_cases e : x = q
      · subst e; simpa using hu
      · exact sel_none h x (by omega)
theorem sel_some {m : List Ob} {U : Nat → Bool} : ∀ {q b : Nat}, sel m U q = some b → b < q ∧ U b = true ∧ ∀ x, x < q → U x = true → leS m b x = true
  | 0, b, h => by cases h
  | q + 1, b, h => by
    unfold sel at h
    by_cases hu : U q = true
    · rw [if_pos hu] at h
      cases e : sel m U q with
      | none =>
        rw [e] at h
        simp only [Option.some.injEq] at h
        subst h
        refine ⟨by omega, hu, fun x hx hux => ?_⟩
        by_cases ex : x = q
        · subst ex; simp [leS]
        · have := sel_none e x (by omega)
          rw [this] at hux; cases hux
      | some c =>
        obtain ⟨h1, h2, h3⟩ := sel_some e
        rw [e] at h
        simp only at h
        by_cases c1 : serA m q < serA m c
        · rw [if_pos c1] at h
          simp only [Option.some.injEq] at h
          subst h
          refine ⟨by omega, hu, fun x hx hux => ?_⟩
          by_cases ex : x = q
          · subst ex; simp [leS]
          · have := h3 x (by omega) hux
            simp only [leS, decide_eq_true_eq] at this ⊢
            omega
        · rw [if_neg c1] at h
          simp only [Option.some.injEq] at h
          subst h
          refine ⟨by omega, h2, fun x hx hux => ?_⟩
          by_cases ex : x = q
          · subst ex
            simp only [leS, decide_eq_true_eq]
            omega
          · exact h3 x (by omega) hux
    · rw [if_neg hu] at h
      obtain ⟨h1, h2, h3⟩ := sel_some h
      refine ⟨by omega, h2, fun x hx hux => ?_⟩
      by_cases ex : x = q
      · subst ex; exact absurd hux hu
      · exact h3 x (by omega) hux
def selI : Option Nat → Int
  | none => -1
  | some p => (p : Int)
/-- Which of them are still to be shown. -/
def toDo (o S : List Nat) (p : Nat) : Bool := decide (p ∈ o) && !decide (p ∈ S)
theorem sel_next {m : List Ob} {o : List Nat} (hP : Pls m o) {j : Nat} (hj : j < (srtS m o).length) : sel m (toDo o ((srtS m o).take j)) m.length = some (srtS m o)[j] := by
  have hp := srtS_perm m o
  have hs := srtS_sorted m o
  have hd : (srtS m o).Nodup := (hp.nodup_iff).2 hP.1
  generalize srtS m o = s at *
  have hin : s[j] ∈ o := hp.mem_iff.1 (List.getElem_mem hj)
  have hnot : s[j] ∉ s.take j := fun c => by
    obtain ⟨i, hi, e⟩ := List.getElem_of_mem c
    rw [List.length_take] at hi
    rw [List.getElem_take] at e
    have := (List.nodup_iff_pairwise_ne.1 hd)
    have := List.pairwise_iff_getElem.1 this i j (by omega) hj (by omega)
    exact this e
  have hu : toDo o (s.take j) s[j] = true := by simp [toDo, hin, hnot]
  cases e : sel m (toDo o (s.take j)) m.length with
  | none =>
    have := sel_none e s[j] (hP.2 _ hin)
    rw [this] at hu; cases hu
  | some b =>
    obtain ⟨h1, h2, h3⟩ := sel_some e
    have le1 := h3 s[j] (hP.2 _ hin) hu
    simp only [toDo, Bool.and_eq_true, decide_eq_true_eq, Bool.not_eq_true', decide_eq_false_iff_not] at h2
    obtain ⟨i, hi, ei⟩ := List.getElem_of_mem (hp.mem_iff.2 h2.1)
    have hij : j ≤ i := by
      rcases Nat.lt_or_ge i j with c | c
      · refine absurd ?_ h2.2
        rw [← ei]
        exact List.mem_iff_getElem.2 ⟨i, by rw [List.length_take]; omega, by rw [List.getElem_take]⟩
      · exact c
    rcases Nat.lt_or_ge j i with c | c
    · have le2 := List.pairwise_iff_getElem.1 hs j i hj hi c
      rw [ei] at le2
      simp only [leS, decide_eq_true_eq] at le1 le2
      congr 1
      omega
    · have : i = j := by omega
      subst this
      exact congrArg some ei.symm
/-! ### 2. The walk -/
theorem bsR (A : Option Addr) (n c : Nat) {w : World} : (Instr.buildSlice 39 1 #[(0, .slice A n c)]).run Try.prog w = .ok (.slice (some ⟨w.heap.size, 0, none⟩) 1 1) (w.alloc (.cells #[.slice A n c] 57)) := by kernel_rfl
/-- What stands while the reference lays nodes. -/
structure RV (W0 w : World) (b4 b5 : Nat) (ov : Value) (X : List Int) (rows nodes fv : Value) (R : List (List Va)) (vs : List Value) (N : List Nd) (fs : List Value) (D : List Bool) : Prop where
  fr : Fr [] W0 w
  h4 : w.heap[b4]? = some (.cells #[.slice none 0 0, .slice none 0 0] 42 (0, 0))
  h5 : w.heap[b5]? = some (.cells #[rows, nodes] 42 (0, 0))
  ne : b4 ≠ b5
  g4 : W0.heap.size ≤ b4
  g5 : W0.heap.size ≤ b5
  rws : OwnRows W0.heap.size w rows R vs
  own : OwnNodes W0.heap.size w nodes N fs
  fl : OwnS w fv 4 1 (boolC D)
  gf : ∀ g ∈ blkS fv, W0.heap.size ≤ g
  od : OwnS w ov 3 1 (intC X)
section
variable {W0 w w' : World} {b4 b5 : Nat} {rows nodes fv ov : Value} {X : List Int} {R : List (List Va)} {vs : List Value} {N : List Nd} {fs : List Value} {D : List Bool}
theorem RV.keep (h : RV W0 w b4 b5 ov X rows nodes fv R vs N fs D) (hf : Fr [] w w') : RV W0 w' b4 b5 ov X rows nodes fv R vs N fs D :=
  ⟨h.fr.trans hf, hf.at_ h.h4 (by simp), hf.at_ h.h5 (by simp), h.ne, h.g4, h.g5, h.rws.keep hf fun g hg => by simp at hg, h.own.keep hf fun g hg => by simp at hg, h.fl.keep hf (by simp), h.gf, h.od.keep hf (by simp)⟩
theorem RV.flag {e : Nat} {b : Bool} (h : RV W0 w b4 b5 ov X rows nodes fv R vs N fs D) (he : e < D.length) {F : World → Prop} (hk : ∀ w', RV W0 w' b4 b5 ov X rows nodes fv R vs N fs (D.set e b) → F w') : C.idx 1 fv (.int .i64 (e : Int)) w fun p w1 => C.store 1 p (.bool b) w1 F := by
  refine C.storeAt_own h.fl (by omega) (by rw [boolC_len]; omega) rfl (by intro u hu; simp [Value.cells] at hu; subst hu; rfl) fun w1 ho1 hf1 _ => hk w1 ?_
  have n4 := h.fl.nb h.h4 (by decide)
  have n5 := h.fl.nb h.h5 (by decide)
  have hS : ∀ g ∈ blkS fv, ∃ cs e fz, w.heap[g]? = some (.cells cs e fz) ∧ e = 4 := fun g hg => by
    obtain ⟨⟨_, hx⟩, _⟩ := h.fl
    rcases hx with ⟨e, _⟩ | ⟨k, cap, cur, e, _, hh, _⟩
    · rw [e] at hg; simp [blkS, Value.ownBlock] at hg
    · rw [e] at hg
      simp [blkS, Value.ownBlock] at hg
      subst hg
      exact ⟨_, _, _, hh, rfl⟩
  refine ⟨h.fr.then hf1 fun z hz => .inr (h.gf z hz), hf1.at_ h.h4 n4, hf1.at_ h.h5 n5, h.ne, h.g4, h.g5, h.rws.keep hf1 fun g hg => ?_, h.own.keep hf1 fun g hg => ?_, ?_, h.gf, h.od.keep' hf1 fun g hg c => ?_⟩
  · obtain ⟨cs, e, fz, a, rfl⟩ := hS g hg
    exact .inr (.inr ⟨cs, _, fz, a, by decide, by decide⟩)
  · obtain ⟨cs, e, fz, a, rfl⟩ := hS g hg
    exact .inr (.inr ⟨cs, _, fz, a, by decide, by decide⟩)
  · rw [Int.toNat_natCast, show (Value.cells (.bool b)).toList = [.bool b] from rfl, boolC_set] at ho1
    exact ho1
  · obtain ⟨cs, e, fz, a, rfl⟩ := hS g c
    exact h.od.nb a (by decide) hg
theorem RV.app {s : Int} {vl : List Va} {g : Nat} {v : Value} (h : RV W0 w b4 b5 ov X rows nodes fv R vs N fs D) (hg : w.heap[g]? = some (.cells #[.int .i64 s, v] 59 (0, 0))) (hv : OwnS w v 75 2 (valC vl)) (hvl : ∀ g ∈ blkS v, W0.heap.size ≤ g) (hL : (N.length + 1) * 32 ≤ 140737488355328)
    {G F : World → Prop} (hG : ∀ w', Fr [] W0 w' → G w') (hk : ∀ w' nodes' fs', RV W0 w' b4 b5 ov X rows nodes' fv R vs (N ++ [(s, vl)]) fs' D → F w') :
    C.run Try.prog (Builtin.append_ #[40, 40] 40 #[nodes, .slice (some ⟨g, 0, none⟩) 1 1]) w fun y w1 => (G w1 ∧ C.store 1 (.pointer (some ⟨b5, 1, none⟩)) y w1 fun w2 => (G w2 ∧ F w2)) := by
  have hone := hv.one
  refine C.appN (W0 := bare w) (xs := ndC N fs) (ys := [[.int .i64 s, v]]) (e := 59) (sz := 2) (bytes := 32) (z := .agg #[.int .i64 0, .slice none 0 0]) Try.underlying40 (by kernel_rfl) rfl (by decide) (fr_bare w) (new_bare w _) h.own.sp (RdS.of_block hg rfl (by simp) (by simp) (by simp) (by simp))
    (by
      intro y hy u hu
      simp only [List.mem_singleton] at hy
      subst hy
      simp only [List.mem_cons, List.not_mem_nil, or_false] at hu
      rcases hu with rfl | rfl
      · rfl
      · exact hone.1)
    (by rw [ndC_len h.own.len]; simpa using hL) (by rw [ndC_len h.own.len]; simp; omega) fun x' w1 hf1 hn1 ho1 hb1 hg1 => ?_
  have n4 : b4 ∉ blkS nodes := h.own.sp.nb h.h4 (by decide)
  have n5 : b5 ∉ blkS nodes := h.own.sp.nb h.h5 (by decide)
  have fr1 : Fr [] W0 w1 := h.fr.then hb1 fun z hz => .inr (h.own.ge z hz)
  have h51 := hb1.at_ h.h5 n5
  have hS : ∀ g ∈ blkS nodes, ∃ cs e fz, w.heap[g]? = some (.cells cs e fz) ∧ e = 59 := fun g hg => by
    obtain ⟨⟨_, hx⟩, _⟩ := h.own.sp
    rcases hx with ⟨e, _⟩ | ⟨k, cap, cur, e, _, hh, _⟩
    · rw [e] at hg; simp [blkS, Value.ownBlock] at hg
    · rw [e] at hg
      simp [blkS, Value.ownBlock] at hg
      subst hg
      exact ⟨_, _, _, hh, rfl⟩
  have rw1 := h.rws.keep hb1 fun g hg => by
    obtain ⟨cs, e, fz, a, rfl⟩ := hS g hg
    exact .inr (.inr ⟨cs, _, fz, a, by decide, by decide⟩)
  have fl1 := h.fl.keep' hb1 fun g hg c => by
    obtain ⟨cs, e, fz, a, rfl⟩ := hS g c
    exact h.fl.nb a (by decide) hg
  have od1 := h.od.keep' hb1 fun g hg c => by
    obtain ⟨cs, e, fz, a, rfl⟩ := hS g c
    exact h.od.nb a (by decide) hg
  have o52 : b5 ∉ blkS ov := od1.nb h51 (by decide)
  refine ⟨hG w1 fr1, C.store1_of h51 ho1.one.2 ho1.one.1 (by simp) fun w2 hu2 => ?_⟩
  have fr2 : Fr [] W0 w2 := fr1.then hu2.fr fun z hz => .inr (by simp only [List.mem_singleton] at hz; have := h.g5; omega)
  have n52 : b5 ∉ blkS fv := fl1.nb h51 (by decide)
  refine ⟨hG w2 fr2, hk w2 x' (fs ++ [v]) ⟨fr2, hu2.fr.at_ (hb1.at_ h.h4 n4) (by simp; exact h.ne), hu2.at_, h.ne, h.g4, h.g5, rw1.keep hu2.fr fun z hz => ?_, ?_, fl1.keep' hu2.fr fun g hg c => ?_, h.gf, od1.keep' hu2.fr fun g hg c => ?_⟩⟩
  · simp only [List.mem_singleton] at hz
    subst hz
    exact .inr (.inr ⟨_, _, _, h51, by decide, by decide⟩)
  · have own1 := h.own.snoc (nd := (s, vl)) h.fr.size hb1 hg1 ho1 hv hvl
    refine own1.keep hu2.fr fun z hz => ?_
    simp only [List.mem_singleton] at hz
    subst hz
    exact .inr (.inr ⟨_, _, _, h51, by decide, by decide⟩)
  · simp only [List.mem_singleton] at c
    subst c
    exact n52 hg
  · simp only [List.mem_singleton] at c
    subst c
    exact o52 hg
end
end Go.Proofs.YtfjilngljnlkjaaV
namespace Go.Proofs.YtfjilngljnlkjaaV
open Go Go.Proofs Go.RowKit
set_option linter.unusedVariables false
set_option linter.unusedSimpArgs false
set_option maxRecDepth 10000
section
variable {K : VK} {w : World}
theorem rmet_loop {mv ov fv y4 y5 y8 y9 : Value} {o : List Nat} {p : Nat} (ho : RdS w ov 1 (intC (natI o))) (h : F23.k16 K mv y4 y5 ov fv y8 y9 (.int .i64 (p : Int)) (.bool (decide (p ∈ o))) w) :
    ∀ (d j : Nat) (b : Bool), o.length = j + d → b = decide (p ∈ o.take j) → F23.l13 K mv y4 y5 ov fv y8 y9 (.int .i64 (p : Int)) (.bool b) (.int .i64 (j : Int)) w := by
  have hle := ho.le
  rw [intC_len, natI_len] at hle
  intro d
  induction d with
  | zero =>
    intro j b hj hb
    refine F23.l13.to (C.len_rd ho ?_)
    rw [intC_len, natI_len]
    simp only [C.ite_true, C.ite_false, C.pick_true, C.pick_false, C.not_bool, C.field_ptr, C.nilCheck_ptr, C.add_mk, C.sub_mk, C.mul_mk, C.eql_mk, C.neq_mk, C.lss_mk, C.leq_mk, C.gtr_mk, C.geq_mk, C.conv_mk, C.len_mk, C.ext_0, C.ext_1, C.ext3_0, C.ext3_1, C.ext3_2, C.guarded_yes, C.guarded_tf, C.guarded_ft, C.guarded_undef, Bool.not_true, Bool.not_false, Nat.zero_add, eq_self, decide_true, decide_false, show ¬ ((j : Int) < (o.length : Int)) by omega]
    rw [List.take_of_length_le (by omega)] at hb
    rw [hb]
    exact h
  | succ d ih =>
    intro j b hj hb
    have jl : j < o.length := by omega
    have jl' : j < (natI o).length := by rw [natI_len]; exact jl
    refine F23.l13.to (C.len_rd ho ?_)
    rw [intC_len, natI_len]
    simp only [C.ite_true, C.ite_false, C.pick_true, C.pick_false, C.not_bool, C.field_ptr, C.nilCheck_ptr, C.add_mk, C.sub_mk, C.mul_mk, C.eql_mk, C.neq_mk, C.lss_mk, C.leq_mk, C.gtr_mk, C.geq_mk, C.conv_mk, C.len_mk, C.ext_0, C.ext_1, C.ext3_0, C.ext3_1, C.ext3_2, C.guarded_yes, C.guarded_tf, C.guarded_ft, C.guarded_undef, Bool.not_true, Bool.not_false, Nat.zero_add, eq_self, decide_true, decide_false, show ((j : Int) < (o.length : Int)) by omega]
    have nx : ∀ b', b' = decide (p ∈ o.take (j + 1)) → F23.k14 K mv y4 y5 ov fv y8 y9 (.int .i64 (p : Int)) (.bool b') (.int .i64 (j : Int)) w := fun b' hb' => by
      refine F23.k14.to ?_
      simp only [C.ite_true, C.ite_false, C.pick_true, C.pick_false, C.not_bool, C.field_ptr, C.nilCheck_ptr, C.add_mk, C.sub_mk, C.mul_mk, C.eql_mk, C.neq_mk, C.lss_mk, C.leq_mk, C.gtr_mk, C.geq_mk, C.conv_mk, C.len_mk, C.ext_0, C.ext_1, C.ext3_0, C.ext3_1, C.ext3_2, C.guarded_yes, C.guarded_tf, C.guarded_ft, C.guarded_undef, Bool.not_true, Bool.not_false, Nat.zero_add, eq_self, decide_true, decide_false]
      rw [wrap64_id (n := (j : Int) + 1) (by omega), show (j : Int) + 1 = ((j + 1 : Nat) : Int) by omega]
      exact ih (j + 1) b' (by omega) hb'
    have et : o.take (j + 1) = o.take j ++ [o[j]] := by rw [List.take_add_one, List.getElem?_eq_getElem jl]; rfl
    refine F23.k15.to ?_
    cases b with
    | true =>
      simp only [C.ite_true, C.ite_false, C.pick_true, C.pick_false, C.not_bool, C.field_ptr, C.nilCheck_ptr, C.add_mk, C.sub_mk, C.mul_mk, C.eql_mk, C.neq_mk, C.lss_mk, C.leq_mk, C.gtr_mk, C.geq_mk, C.conv_mk, C.len_mk, C.ext_0, C.ext_1, C.ext3_0, C.ext3_1, C.ext3_2, C.guarded_yes, C.guarded_tf, C.guarded_ft, C.guarded_undef, Bool.not_true, Bool.not_false, Nat.zero_add, eq_self, decide_true, decide_false]
      refine nx true ?_
      have := of_decide_eq_true hb.symm
      rw [eq_comm, decide_eq_true_eq, et]
      exact List.mem_append.2 (.inl this)
    | false =>
      have hn : p ∉ o.take j := of_decide_eq_false hb.symm
      simp only [C.ite_true, C.ite_false, C.pick_true, C.pick_false, C.not_bool, C.field_ptr, C.nilCheck_ptr, C.add_mk, C.sub_mk, C.mul_mk, C.eql_mk, C.neq_mk, C.lss_mk, C.leq_mk, C.gtr_mk, C.geq_mk, C.conv_mk, C.len_mk, C.ext_0, C.ext_1, C.ext3_0, C.ext3_1, C.ext3_2, C.guarded_yes, C.guarded_tf, C.guarded_ft, C.guarded_undef, Bool.not_true, Bool.not_false, Nat.zero_add, eq_self, decide_true, decide_false]
      refine C.idx_int ho jl' fun g oo cs e fz hg hv => C.load1_of hg hv ?_
      rw [natI_get jl jl']
      by_cases c : o[j] = p
      · simp only [C.ite_true, C.ite_false, C.pick_true, C.pick_false, C.not_bool, C.field_ptr, C.nilCheck_ptr, C.add_mk, C.sub_mk, C.mul_mk, C.eql_mk, C.neq_mk, C.lss_mk, C.leq_mk, C.gtr_mk, C.geq_mk, C.conv_mk, C.len_mk, C.ext_0, C.ext_1, C.ext3_0, C.ext3_1, C.ext3_2, C.guarded_yes, C.guarded_tf, C.guarded_ft, C.guarded_undef, Bool.not_true, Bool.not_false, Nat.zero_add, eq_self, decide_true, decide_false, show (o[j] : Int) = (p : Int) by omega]
        refine nx true ?_
        rw [eq_comm, decide_eq_true_eq, et]
        simp [c]
      · simp only [C.ite_true, C.ite_false, C.pick_true, C.pick_false, C.not_bool, C.field_ptr, C.nilCheck_ptr, C.add_mk, C.sub_mk, C.mul_mk, C.eql_mk, C.neq_mk, C.lss_mk, C.leq_mk, C.gtr_mk, C.geq_mk, C.conv_mk, C.len_mk, C.ext_0, C.ext_1, C.ext3_0, C.ext3_1, C.ext3_2, C.guarded_yes, C.guarded_tf, C.guarded_ft, C.guarded_undef, Bool.not_true, Bool.not_false, Nat.zero_add, eq_self, decide_true, decide_false, show ¬ (o[j] : Int) = (p : Int) by omega]
        refine nx false ?_
        rw [eq_comm, decide_eq_false_iff_not, et]
        exact fun h => (List.mem_append.1 h).elim hn fun h => c (List.mem_singleton.1 h).symm
theorem sel_skip {m : List Ob} {U : Nat → Bool} {p : Nat} (h : U p = false) : sel m U (p + 1) = sel m U p := by rw [sel, if_neg (by simp [h])]
theorem rleast_step {W0 : World} {mv ov fv rows nodes y8 : Value} {b4 b5 : Nat} {m : List Ob} {gs : List Value} {R : List (List Va)} {vs : List Value} {N : List Nd} {fs : List Value} {D : List Bool} {o S : List Nat} {p : Nat}
    (hM : ObsAt W0 mv m gs) (hR : RV W0 w b4 b5 ov (natI o) rows nodes fv R vs N fs D) (hD : D = (List.range m.length).map fun p => decide (p ∈ S)) (hp : p < m.length)
    (h : ∀ w', Fr [] w w' → F23.k10 K mv (.pointer (some ⟨b4, 0, none⟩)) (.pointer (some ⟨b5, 0, none⟩)) ov fv y8 (.int .i64 (selI (sel m (toDo o S) (p + 1)))) (.int .i64 (p : Int)) w') :
    F23.k16 K mv (.pointer (some ⟨b4, 0, none⟩)) (.pointer (some ⟨b5, 0, none⟩)) ov fv y8 (.int .i64 (selI (sel m (toDo o S) p))) (.int .i64 (p : Int)) (.bool (decide (p ∈ o))) w := by
  refine F23.k16.to (C.draw_of (fun w' => Fr [] w w') fun w1 hf1 he1 => ⟨hf1, ?_⟩)
  have hDl : D.length = m.length := by rw [hD]; simp
  have hpd : p < D.length := by omega
  have hDp : D[p] = decide (p ∈ S) := by subst hD; simp
  by_cases c : p ∈ o
  · simp only [C.ite_true, C.ite_false, C.pick_true, C.pick_false, C.not_bool, C.field_ptr, C.nilCheck_ptr, C.add_mk, C.sub_mk, C.mul_mk, C.eql_mk, C.neq_mk, C.lss_mk, C.leq_mk, C.gtr_mk, C.geq_mk, C.conv_mk, C.len_mk, C.ext_0, C.ext_1, C.ext3_0, C.ext3_1, C.ext3_2, C.guarded_yes, C.guarded_tf, C.guarded_ft, C.guarded_undef, Bool.not_true, Bool.not_false, Nat.zero_add, eq_self, decide_true, decide_false, c]
    refine C.idx_rdS (S := fun w2 => Fr [] w w2) (fun w2 hw => (hR.keep hw).fl.rd) hf1 (by omega) (by rw [Int.toNat_natCast]; exact boolC_get hpd) fun ga oa _ hs1 => ?_
    refine C.load1S_of (v := .bool D[p]) (fun w' hw => by obtain ⟨cs, e, fz, x, y⟩ := hs1 w' hw; exact ⟨cs, e, fz, x, by simpa using y 0 (by simp)⟩) ?_
    rw [hDp]
    by_cases d : p ∈ S
    · simp only [C.ite_true, C.ite_false, C.pick_true, C.pick_false, C.not_bool, C.field_ptr, C.nilCheck_ptr, C.add_mk, C.sub_mk, C.mul_mk, C.eql_mk, C.neq_mk, C.lss_mk, C.leq_mk, C.gtr_mk, C.geq_mk, C.conv_mk, C.len_mk, C.ext_0, C.ext_1, C.ext3_0, C.ext3_1, C.ext3_2, C.guarded_yes, C.guarded_tf, C.guarded_ft, C.guarded_undef, Bool.not_true, Bool.not_false, Nat.zero_add, eq_self, decide_true, decide_false, d]
      have := h w1 hf1
      rwa [sel_skip (by simp [toDo, c, d])] at this
    · have hu : toDo o S p = true := by simp [toDo, c, d]
      simp only [C.ite_true, C.ite_false, C.pick_true, C.pick_false, C.not_bool, C.field_ptr, C.nilCheck_ptr, C.add_mk, C.sub_mk, C.mul_mk, C.eql_mk, C.neq_mk, C.lss_mk, C.leq_mk, C.gtr_mk, C.geq_mk, C.conv_mk, C.len_mk, C.ext_0, C.ext_1, C.ext3_0, C.ext3_1, C.ext3_2, C.guarded_yes, C.guarded_tf, C.guarded_ft, C.guarded_undef, Bool.not_true, Bool.not_false, Nat.zero_add, eq_self, decide_true, decide_false, d]
      cases es : sel m (toDo o S) p with
      | none =>
        have e1 : sel m (toDo o S) (p + 1) = some p := by rw [sel, if_pos hu, es]
        rw [e1] at h
        simp only [selI, C.ite_true, C.ite_false, C.pick_true, C.pick_false, C.not_bool, C.field_ptr, C.nilCheck_ptr, C.add_mk, C.sub_mk, C.mul_mk, C.eql_mk, C.neq_mk, C.lss_mk, C.leq_mk, C.gtr_mk, C.geq_mk, C.conv_mk, C.len_mk, C.ext_0, C.ext_1, C.ext3_0, C.ext3_1, C.ext3_2, C.guarded_yes, C.guarded_tf, C.guarded_ft, C.guarded_undef, Bool.not_true, Bool.not_false, Nat.zero_add, eq_self, decide_true, decide_false, show ((-1 : Int) < 0) by decide]
        exact h w1 hf1
      | some b =>
        have hb := (sel_some es).1
        have hbm : b < m.length := by omega
        have hpg : p < gs.length := by rw [hM.len]; exact hp
        have hbg : b < gs.length := by rw [hM.len]; exact hbm
        have e1 : sel m (toDo o S) (p + 1) = if serA m p < serA m b then some p else some b := by rw [sel, if_pos hu, es]
        rw [e1, serA_get hp, serA_get hbm] at h
        simp only [selI, C.ite_true, C.ite_false, C.pick_true, C.pick_false, C.not_bool, C.field_ptr, C.nilCheck_ptr, C.add_mk, C.sub_mk, C.mul_mk, C.eql_mk, C.neq_mk, C.lss_mk, C.leq_mk, C.gtr_mk, C.geq_mk, C.conv_mk, C.len_mk, C.ext_0, C.ext_1, C.ext3_0, C.ext3_1, C.ext3_2, C.guarded_yes, C.guarded_tf, C.guarded_ft, C.guarded_undef, Bool.not_true, Bool.not_false, Nat.zero_add, eq_self, decide_true, decide_false, show ¬ ((b : Int) < 0) by omega]
        refine C.idx_rdS (S := fun w2 => Fr [] w w2) (fun w2 hw => (hM.keep (hR.fr.trans hw)).rd) hf1 (by omega) (by rw [Int.toNat_natCast]; exact obC_get hp hpg) fun g1 o1 _ hs1 => ?_
        simp only [C.ite_true, C.ite_false, C.pick_true, C.pick_false, C.not_bool, C.field_ptr, C.nilCheck_ptr, C.add_mk, C.sub_mk, C.mul_mk, C.eql_mk, C.neq_mk, C.lss_mk, C.leq_mk, C.gtr_mk, C.geq_mk, C.conv_mk, C.len_mk, C.ext_0, C.ext_1, C.ext3_0, C.ext3_1, C.ext3_2, C.guarded_yes, C.guarded_tf, C.guarded_ft, C.guarded_undef, Bool.not_true, Bool.not_false, Nat.zero_add, eq_self, decide_true, decide_false]
        refine C.idx_rdS (S := fun w2 => Fr [] w w2) (fun w2 hw => (hM.keep (hR.fr.trans hw)).rd) hf1 (by omega) (by rw [Int.toNat_natCast]; exact obC_get hbm hbg) fun g2 o2 _ hs2 => ?_
        simp only [C.ite_true, C.ite_false, C.pick_true, C.pick_false, C.not_bool, C.field_ptr, C.nilCheck_ptr, C.add_mk, C.sub_mk, C.mul_mk, C.eql_mk, C.neq_mk, C.lss_mk, C.leq_mk, C.gtr_mk, C.geq_mk, C.conv_mk, C.len_mk, C.ext_0, C.ext_1, C.ext3_0, C.ext3_1, C.ext3_2, C.guarded_yes, C.guarded_tf, C.guarded_ft, C.guarded_undef, Bool.not_true, Bool.not_false, Nat.zero_add, eq_self, decide_true, decide_false]
        refine C.load1S_of (v := .int .i64 m[p].ser) (fun w' hw => by obtain ⟨cs, e, fz, x, y⟩ := hs1 w' hw; exact ⟨cs, e, fz, x, by simpa using y 1 (by omega)⟩) ?_
        refine C.load1S_of (v := .int .i64 m[b].ser) (fun w' hw => by obtain ⟨cs, e, fz, x, y⟩ := hs2 w' hw; exact ⟨cs, e, fz, x, by simpa using y 1 (by omega)⟩) ?_
        by_cases ht : m[p].ser < m[b].ser
        · rw [if_pos ht] at h
          simp only [C.ite_true, C.ite_false, C.pick_true, C.pick_false, C.not_bool, C.field_ptr, C.nilCheck_ptr, C.add_mk, C.sub_mk, C.mul_mk, C.eql_mk, C.neq_mk, C.lss_mk, C.leq_mk, C.gtr_mk, C.geq_mk, C.conv_mk, C.len_mk, C.ext_0, C.ext_1, C.ext3_0, C.ext3_1, C.ext3_2, C.guarded_yes, C.guarded_tf, C.guarded_ft, C.guarded_undef, Bool.not_true, Bool.not_false, Nat.zero_add, eq_self, decide_true, decide_false, ht]
          exact h w1 hf1
        · rw [if_neg ht] at h
          simp only [C.ite_true, C.ite_false, C.pick_true, C.pick_false, C.not_bool, C.field_ptr, C.nilCheck_ptr, C.add_mk, C.sub_mk, C.mul_mk, C.eql_mk, C.neq_mk, C.lss_mk, C.leq_mk, C.gtr_mk, C.geq_mk, C.conv_mk, C.len_mk, C.ext_0, C.ext_1, C.ext3_0, C.ext3_1, C.ext3_2, C.guarded_yes, C.guarded_tf, C.guarded_ft, C.guarded_undef, Bool.not_true, Bool.not_false, Nat.zero_add, eq_self, decide_true, decide_false, ht]
          exact h w1 hf1
  · simp only [C.ite_true, C.ite_false, C.pick_true, C.pick_false, C.not_bool, C.field_ptr, C.nilCheck_ptr, C.add_mk, C.sub_mk, C.mul_mk, C.eql_mk, C.neq_mk, C.lss_mk, C.leq_mk, C.gtr_mk, C.geq_mk, C.conv_mk, C.len_mk, C.ext_0, C.ext_1, C.ext3_0, C.ext3_1, C.ext3_2, C.guarded_yes, C.guarded_tf, C.guarded_ft, C.guarded_undef, Bool.not_true, Bool.not_false, Nat.zero_add, eq_self, decide_true, decide_false, c]
    have := h w1 hf1
    rwa [sel_skip (by simp [toDo, c])] at this
theorem rleast_loop {W0 : World} {mv ov fv rows nodes y8 : Value} {b4 b5 : Nat} {m : List Ob} {gs : List Value} {R : List (List Va)} {vs : List Value} {N : List Nd} {fs : List Value} {D : List Bool} {o S : List Nat}
    (hM : ObsAt W0 mv m gs) (hD : D = (List.range m.length).map fun p => decide (p ∈ S))
    (h : ∀ w', RV W0 w' b4 b5 ov (natI o) rows nodes fv R vs N fs D → F23.k18 K mv (.pointer (some ⟨b4, 0, none⟩)) (.pointer (some ⟨b5, 0, none⟩)) ov fv y8 (.int .i64 (selI (sel m (toDo o S) m.length))) w') :
    ∀ (d q : Nat) (w : World), m.length = q + d → RV W0 w b4 b5 ov (natI o) rows nodes fv R vs N fs D →
      F23.l9 K mv (.pointer (some ⟨b4, 0, none⟩)) (.pointer (some ⟨b5, 0, none⟩)) ov fv y8 (.int .i64 (selI (sel m (toDo o S) q))) (.int .i64 (q : Int)) w := by
  have hml := hM.le
  intro d
  induction d with
  | zero =>
    intro q w hq hR
    refine F23.l9.to ((hM.keep hR.fr).lenC ?_)
    simp only [C.ite_true, C.ite_false, C.pick_true, C.pick_false, C.not_bool, C.field_ptr, C.nilCheck_ptr, C.add_mk, C.sub_mk, C.mul_mk, C.eql_mk, C.neq_mk, C.lss_mk, C.leq_mk, C.gtr_mk, C.geq_mk, C.conv_mk, C.len_mk, C.ext_0, C.ext_1, C.ext3_0, C.ext3_1, C.ext3_2, C.guarded_yes, C.guarded_tf, C.guarded_ft, C.guarded_undef, Bool.not_true, Bool.not_false, Nat.zero_add, eq_self, decide_true, decide_false, show ¬ ((q : Int) < (m.length : Int)) by omega]
    have := h w hR
    rwa [show m.length = q by omega] at this
  | succ d ih =>
    intro q w hq hR
    have ql : q < m.length := by omega
    refine F23.l9.to ((hM.keep hR.fr).lenC ?_)
    simp only [C.ite_true, C.ite_false, C.pick_true, C.pick_false, C.not_bool, C.field_ptr, C.nilCheck_ptr, C.add_mk, C.sub_mk, C.mul_mk, C.eql_mk, C.neq_mk, C.lss_mk, C.leq_mk, C.gtr_mk, C.geq_mk, C.conv_mk, C.len_mk, C.ext_0, C.ext_1, C.ext3_0, C.ext3_1, C.ext3_2, C.guarded_yes, C.guarded_tf, C.guarded_ft, C.guarded_undef, Bool.not_true, Bool.not_false, Nat.zero_add, eq_self, decide_true, decide_false, show ((q : Int) < (m.length : Int)) by omega]
    refine F23.k11.to (rmet_loop hR.od.rd ?_ o.length 0 false (by omega) (by simp))
    refine rleast_step hM hR hD ql fun w' hf' => F23.k10.to ?_
    simp only [C.ite_true, C.ite_false, C.pick_true, C.pick_false, C.not_bool, C.field_ptr, C.nilCheck_ptr, C.add_mk, C.sub_mk, C.mul_mk, C.eql_mk, C.neq_mk, C.lss_mk, C.leq_mk, C.gtr_mk, C.geq_mk, C.conv_mk, C.len_mk, C.ext_0, C.ext_1, C.ext3_0, C.ext3_1, C.ext3_2, C.guarded_yes, C.guarded_tf, C.guarded_ft, C.guarded_undef, Bool.not_true, Bool.not_false, Nat.zero_add, eq_self, decide_true, decide_false]
    rw [wrap64_id (n := (q : Int) + 1) (by omega), show (q : Int) + 1 = ((q + 1 : Nat) : Int) by omega]
    exact ih (q + 1) w' (by omega) (hR.keep hf')
theorem flags_step {n b : Nat} {S : List Nat} (hb : b < n) : ((List.range n).map fun p => decide (p ∈ S)).set b true = (List.range n).map fun p => decide (p ∈ S ++ [b]) := by
  apply List.ext_getElem
  · simp
  · intro i h1 h2
    simp at h1
    rw [List.getElem_set]
    by_cases e : b = i
    · subst e; simp
    · rw [if_neg e]
      simp only [List.getElem_map, List.getElem_range, List.mem_append, List.mem_singleton]
      congr 1
      simp [Ne.symm e]
theorem RView_loop {W0 : World} {mv ov rows : Value} {b4 b5 : Nat} {l roots : List Int} {m : List Ob} {gs : List Value} {vs : List Value} (hO : Opn l m roots) (hr : Rng l)
    (hM : ObsAt W0 mv m gs)
    (h : ∀ nodes fv fs D w', RV W0 w' b4 b5 ov (natI (ordO m roots)) rows nodes fv [roots.map (val m)] vs (vwO m roots).2 fs D → F23.k20 K (.pointer (some ⟨b4, 0, none⟩)) (.pointer (some ⟨b5, 0, none⟩)) w') :
    ∀ (d j : Nat) (w : World) (nodes fv : Value) (fs : List Value), (ordO m roots).length = j + d → RV W0 w b4 b5 ov (natI (ordO m roots)) rows nodes fv [roots.map (val m)] vs (((srtS m (ordO m roots)).take j).map (nodeA m)) fs ((List.range m.length).map fun p => decide (p ∈ (srtS m (ordO m roots)).take j)) →
      F23.l5 K mv (.pointer (some ⟨b4, 0, none⟩)) (.pointer (some ⟨b5, 0, none⟩)) ov fv (.int .i64 (j : Int)) w := by
  have hP := ordO_pls m roots
  have hol := hP.len
  have hlen := hO.few
  have hml := hO.spl.len
  have hsl : (srtS m (ordO m roots)).length = (ordO m roots).length := (srtS_perm m _).length_eq
  intro d
  induction d with
  | zero =>
    intro j w nodes fv fs hj hR
    refine F23.l5.to (C.len_rd hR.od.rd ?_)
    rw [intC_len, natI_len]
    simp only [C.ite_true, C.ite_false, C.pick_true, C.pick_false, C.not_bool, C.field_ptr, C.nilCheck_ptr, C.add_mk, C.sub_mk, C.mul_mk, C.eql_mk, C.neq_mk, C.lss_mk, C.leq_mk, C.gtr_mk, C.geq_mk, C.conv_mk, C.len_mk, C.ext_0, C.ext_1, C.ext3_0, C.ext3_1, C.ext3_2, C.guarded_yes, C.guarded_tf, C.guarded_ft, C.guarded_undef, Bool.not_true, Bool.not_false, Nat.zero_add, eq_self, decide_true, decide_false, show ¬ ((j : Int) < ((ordO m roots).length : Int)) by omega]
    rw [List.take_of_length_le (by omega)] at hR
    exact h nodes fv fs _ w hR
  | succ d ih =>
    intro j w nodes fv fs hj hR
    have jl : j < (ordO m roots).length := by omega
    have jl' : j < (srtS m (ordO m roots)).length := by omega
    refine F23.l5.to (C.len_rd hR.od.rd ?_)
    rw [intC_len, natI_len]
    simp only [C.ite_true, C.ite_false, C.pick_true, C.pick_false, C.not_bool, C.field_ptr, C.nilCheck_ptr, C.add_mk, C.sub_mk, C.mul_mk, C.eql_mk, C.neq_mk, C.lss_mk, C.leq_mk, C.gtr_mk, C.geq_mk, C.conv_mk, C.len_mk, C.ext_0, C.ext_1, C.ext3_0, C.ext3_1, C.ext3_2, C.guarded_yes, C.guarded_tf, C.guarded_ft, C.guarded_undef, Bool.not_true, Bool.not_false, Nat.zero_add, eq_self, decide_true, decide_false, show ((j : Int) < ((ordO m roots).length : Int)) by omega]
    refine F23.k7.to (rleast_loop (o := ordO m roots) hM rfl (fun w1 hR1 => ?_) m.length 0 w (by omega) hR)
    rw [sel_next hP jl']
    have hin : (srtS m (ordO m roots))[j] ∈ ordO m roots := (srtS_perm m _).mem_iff.1 (List.getElem_mem jl')
    have hbm := hP.2 _ hin
    have et : (srtS m (ordO m roots)).take (j + 1) = (srtS m (ordO m roots)).take j ++ [(srtS m (ordO m roots))[j]] := by rw [List.take_add_one, List.getElem?_eq_getElem jl']; rfl
    generalize hb : (srtS m (ordO m roots))[j] = b at *
    have hbg : b < gs.length := by rw [hM.len]; exact hbm
    simp only [selI]
    refine F23.k18.to (hR1.flag (e := b) (b := true) (by simp; exact hbm) fun w2 hR2 => ?_)
    rw [flags_step hbm, ← et] at hR2
    refine C.draw_of (fun w' => Fr [] W0 w') fun w3 hf3 he3 => ?_
    have R3 := hR2.keep hf3
    refine ⟨R3.fr, ?_⟩
    simp only [C.ite_true, C.ite_false, C.pick_true, C.pick_false, C.not_bool, C.field_ptr, C.nilCheck_ptr, C.add_mk, C.sub_mk, C.mul_mk, C.eql_mk, C.neq_mk, C.lss_mk, C.leq_mk, C.gtr_mk, C.geq_mk, C.conv_mk, C.len_mk, C.ext_0, C.ext_1, C.ext3_0, C.ext3_1, C.ext3_2, C.guarded_yes, C.guarded_tf, C.guarded_ft, C.guarded_undef, Bool.not_true, Bool.not_false, Nat.zero_add, eq_self, decide_true, decide_false, and_true]
    refine C.idx_rdS (S := fun w2 => Fr [] W0 w2) (fun w2 hw => (hM.keep hw).rd) R3.fr (by omega) (by rw [Int.toNat_natCast]; exact obC_get hbm hbg) fun g1 o1 _ hs1 => ?_
    simp only [C.ite_true, C.ite_false, C.pick_true, C.pick_false, C.not_bool, C.field_ptr, C.nilCheck_ptr, C.add_mk, C.sub_mk, C.mul_mk, C.eql_mk, C.neq_mk, C.lss_mk, C.leq_mk, C.gtr_mk, C.geq_mk, C.conv_mk, C.len_mk, C.ext_0, C.ext_1, C.ext3_0, C.ext3_1, C.ext3_2, C.guarded_yes, C.guarded_tf, C.guarded_ft, C.guarded_undef, Bool.not_true, Bool.not_false, Nat.zero_add, eq_self, decide_true, decide_false]
    refine C.idx_rdS (S := fun w2 => Fr [] W0 w2) (fun w2 hw => (hM.keep hw).rd) R3.fr (by omega) (by rw [Int.toNat_natCast]; exact obC_get hbm hbg) fun g2 o2 _ hs2 => ?_
    simp only [C.ite_true, C.ite_false, C.pick_true, C.pick_false, C.not_bool, C.field_ptr, C.nilCheck_ptr, C.add_mk, C.sub_mk, C.mul_mk, C.eql_mk, C.neq_mk, C.lss_mk, C.leq_mk, C.gtr_mk, C.geq_mk, C.conv_mk, C.len_mk, C.ext_0, C.ext_1, C.ext3_0, C.ext3_1, C.ext3_2, C.guarded_yes, C.guarded_tf, C.guarded_ft, C.guarded_undef, Bool.not_true, Bool.not_false, Nat.zero_add, eq_self, decide_true, decide_false]
    refine C.load1S_of (v := .int .i64 m[b].ser) (fun w' hw => by obtain ⟨cs, e, fz, x, y⟩ := hs1 w' hw; exact ⟨cs, e, fz, x, by simpa using y 1 (by omega)⟩) ?_
    refine C.load1S_of (v := gs[b]) (fun w' hw => by obtain ⟨cs, e, fz, x, y⟩ := hs2 w' hw; exact ⟨cs, e, fz, x, by simpa using y 2 (by omega)⟩) ?_
    have nx : ∀ w' nodes' fs', RV W0 w' b4 b5 ov (natI (ordO m roots)) rows nodes' fv [roots.map (val m)] vs (((srtS m (ordO m roots)).take j).map (nodeA m) ++ [(m[b].ser, m[b].fs.map (val m))]) fs' ((List.range m.length).map fun p => decide (p ∈ (srtS m (ordO m roots)).take (j + 1))) → F23.k6 K mv (.pointer (some ⟨b4, 0, none⟩)) (.pointer (some ⟨b5, 0, none⟩)) ov fv (.int .i64 (j : Int)) w' := fun w' nodes' fs' hR' => by
      refine F23.k6.to ?_
      simp only [C.ite_true, C.ite_false, C.pick_true, C.pick_false, C.not_bool, C.field_ptr, C.nilCheck_ptr, C.add_mk, C.sub_mk, C.mul_mk, C.eql_mk, C.neq_mk, C.lss_mk, C.leq_mk, C.gtr_mk, C.geq_mk, C.conv_mk, C.len_mk, C.ext_0, C.ext_1, C.ext3_0, C.ext3_1, C.ext3_2, C.guarded_yes, C.guarded_tf, C.guarded_ft, C.guarded_undef, Bool.not_true, Bool.not_false, Nat.zero_add, eq_self, decide_true, decide_false]
      rw [wrap64_id (n := (j : Int) + 1) (by omega), show (j : Int) + 1 = ((j + 1 : Nat) : Int) by omega]
      refine ih (j + 1) w' nodes' fv fs' (by omega) ?_
      have en : nodeA m b = (m[b].ser, m[b].fs.map (val m)) := by unfold nodeA; rw [serA_get hbm, fsA_get hbm]
      have e2 : ((srtS m (ordO m roots)).take (j + 1)).map (nodeA m) = ((srtS m (ordO m roots)).take j).map (nodeA m) ++ [(m[b].ser, m[b].fs.map (val m))] := by rw [et, List.map_append, List.map_singleton, en]
      rw [e2]
      exact hR'
    have al : ∀ (A : Option Addr) (n c : Nat) (w7 : World), Fr [] w3 w7 → Fr [] w3 (w7.alloc (.cells #[.int .i64 m[b].ser, .slice A n c] 59)) := fun A n c w7 hf7 => hf7.trans (New.mk' w7 _).fr
    have SS : ∀ w', Fr [] w3 w' → Fr [] W0 w' := fun w' hw => R3.fr.trans hw
    have ld : ∀ w' (F : VK), Fr [] w3 w' → F nodes w' → C.load1 (.pointer (some ⟨b5, 1, none⟩)) w' F := fun w' F hw hF => C.load1_of (v := nodes) (R3.keep hw).h5 rfl hF
    have vl : ∀ (w7 : World) (F : VK), Fr [] w3 w7 → (∀ A n c w8, Fr [] w7 w8 → OwnS w8 (.slice A n c) 75 2 (valC (m[b].fs.map (val m))) → (∀ g ∈ blkS (.slice A n c), W0.heap.size ≤ g) → F (.slice A n c) w8) → C.call Try.prog 46 #[mv, gs[b]] w7 F := fun w7 F hf7 hF =>
      rvalues_c (hM.keep (SS _ hf7)) ((hM.fld b hbm hbg).keep (SS _ hf7)) (hr.fs hO.spl hbm) (hO.fine _ (List.getElem_mem hbm)) (by have := hO.spl.fits _ (List.getElem_mem hbm); omega) fun nv w8 hf8 hn8 ho8 => by
        obtain ⟨A, c, e⟩ := ho8.len
        subst e
        exact hF _ _ _ w8 hf8 ho8 fun g hg => by have := hn8 g (mem_blkS.1 hg); have := (SS _ hf7).size; omega
    have app : ∀ (A : Option Addr) (n c : Nat) (w7 : World), Fr [] w3 w7 → OwnS w7 (.slice A n c) 75 2 (valC (m[b].fs.map (val m))) → (∀ g ∈ blkS (.slice A n c), W0.heap.size ≤ g) →
        C.run Try.prog (Builtin.append_ #[40, 40] 40 #[nodes, .slice (some ⟨w7.heap.size, 0, none⟩) 1 1]) (w7.alloc (.cells #[.int .i64 m[b].ser, .slice A n c] 59)) fun y w8 => (Fr [] W0 w8 ∧ C.store 1 (.pointer (some ⟨b5, 1, none⟩)) y w8 fun w9 => (Fr [] W0 w9 ∧ F23.k6 K mv (.pointer (some ⟨b4, 0, none⟩)) (.pointer (some ⟨b5, 0, none⟩)) ov fv (.int .i64 (j : Int)) w9)) := by
      intro A n c w7 hf7 ho7 hn7
      have hn := New.mk' w7 (.cells #[.int .i64 m[b].ser, .slice A n c] 59)
      exact ((R3.keep hf7).keep hn.fr).app hn.at_ (ho7.keep hn.fr (by simp)) hn7 (by simp; omega) (fun _ h => h) nx
    have R0 := Fr.refl [] w3
    refine ⟨ld w3 _ R0 ⟨SS _ R0, vl w3 _ R0 fun A n c w4 hf4 ho4 hn4 => ⟨SS _ hf4, _, fun w' _ => bNd _ A n c, C.run_of (bsNd _ A n c) ⟨SS _ (al A n c w4 hf4), app A n c w4 hf4 ho4 hn4⟩⟩⟩, ?_⟩
    refine vl w3 _ R0 fun A n c w4 hf4 ho4 hn4 => ⟨SS _ hf4, _, fun w' _ => bNd _ A n c, ?_⟩
    exact ⟨ld w4 _ hf4 ⟨SS _ hf4, C.run_of (bsNd _ A n c) ⟨SS _ (al A n c w4 hf4), app A n c w4 hf4 ho4 hn4⟩⟩, C.run_of (bsNd _ A n c) ⟨SS _ (al A n c w4 hf4), ld _ _ (al A n c w4 hf4) ⟨SS _ (al A n c w4 hf4), app A n c w4 hf4 ho4 hn4⟩⟩⟩
theorem RView_c {mv rv : Value} {l roots : List Int} {m : List Ob} {gs : List Value} (hO : Opn l m roots) (hr : Rng l) (hM : ObsAt w mv m gs) (hrv : RdS w rv 1 (intC roots)) (hrr : Rng roots) (hrl : roots.length ≤ 8796093022207)
    (h : ∀ rows nodes w', Fr [] w w' → IsV w' rows nodes (vwO m roots) → K (.agg #[rows, nodes]) w') : C.call Try.prog 23 #[mv, rv] w K := by
  have hlen := hO.few
  have hml := hO.spl.len
  refine F23.sh (C.new_of fun b4 w1 hn1 => rvalues_c (hM.keep hn1.fr) (hrv.keep hn1.fr) hrr hO.fr hrl fun xv w2 hf2 hn2 ho2 => ?_)
  obtain ⟨A, c, ex⟩ := ho2.len
  subst ex
  have hn3 := New.mk' w2 (.cells #[.slice A (valC (roots.map (val m))).length c] 57)
  refine C.run_of (bsRows A _ c) (C.run_of (bView _ _ _) (C.new_of fun b5 w4 hn4 => C.store_all (x := .agg #[.slice (some ⟨w2.heap.size, 0, none⟩) 1 1, .slice none 0 0]) hn4.at_ rfl (by simp [Value.cells, Value.oneCell']) rfl fun w5 hu5 => ?_))
  have i1 := hn1.is; have z1 := hn1.sz; have i4 := hn4.is; have z4 := hn4.sz; have z3 := hn3.sz; have s2 := hf2.size
  have f25 : Fr [] w2 w5 := (hn3.fr.trans hn4.fr).then hu5.fr fun z hz => .inr (by simp only [List.mem_singleton] at hz; omega)
  have f5 := (hn1.fr.trans hf2).trans f25
  have hro : ∀ o ∈ m, Rng o.fs := fun o ho => by
    obtain ⟨i, hi, rfl⟩ := List.getElem_of_mem ho
    exact hr.fs hO.spl hi
  refine Order_c (hM.keep f5) hro hO.fine (by omega) (hrv.keep f5) hrr hO.fr fun ov w6 hf6 _ ho6 => (hM.keep (f5.trans hf6)).lenC ?_
  refine C.make_of (e := 4) (sz := 1) (bytes := 1) (z := .bool false) m.length Try.underlying89 (by kernel_rfl) rfl (by decide) (by intro u hu; simp [Value.cells] at hu; subst hu; rfl) (by omega) (by omega) fun gf w7 hn7 ho7 => ?_
  have f67 := hf6.trans hn7.fr
  have f27 := f25.trans f67
  have hat : w7.heap[w2.heap.size]? = some (.cells #[.slice A (valC (roots.map (val m))).length c] 57 (0, 0)) := f67.at_ (hu5.fr.at_ (hn4.fr.at_ hn3.at_ (by simp)) (by simp; omega)) (by simp)
  have hR : RV w w7 b4 b5 ov (natI (ordO m roots)) (.slice (some ⟨w2.heap.size, 0, none⟩) 1 1) (.slice none 0 0) (.slice (some ⟨gf, 0, none⟩) m.length m.length) [roots.map (val m)] [.slice A (valC (roots.map (val m))).length c] (((srtS m (ordO m roots)).take 0).map (nodeA m)) [] ((List.range m.length).map fun p => decide (p ∈ (srtS m (ordO m roots)).take 0)) := by
    refine ⟨(f5.trans f67), f27.at_ (hf2.at_ hn1.at_ (by simp)) (by simp), f67.at_ hu5.at_ (by simp), by omega, by omega, by omega, ⟨OwnS.of_block hat rfl (by simp) (by simp) rfl (by simp [slC, Value.oneCell']) (by simp [slC]), fun g hg => ?_, rfl, fun i a b => ?_⟩, ⟨rfl, OwnS.nil _ _ _, fun g hg => by simp [blkS, Value.ownBlock] at hg, fun i a b => by simp at b⟩, ?_, fun g hg => ?_, ho6.keep hn7.fr (by simp)⟩
    · have := mem_blkS.1 hg
      simp only [Value.ownBlock, Option.some.injEq] at this
      omega
    · have : i = 0 := by simp at a; omega
      subst this
      exact ⟨ho2.keep f27 (by simp), fun g hg => by have := hn2 g (mem_blkS.1 hg); omega⟩
    · have e : (List.range m.length).map (fun p => decide (p ∈ (srtS m (ordO m roots)).take 0)) = List.replicate m.length false := by
        apply List.ext_getElem <;> simp
      rw [e]
      have e2 : boolC (List.replicate m.length false) = List.replicate m.length (Value.cells (.bool false)).toList := by simp [boolC, Value.cells]
      rw [e2]
      exact ho7
    · have := mem_blkS.1 hg
      simp only [Value.ownBlock, Option.some.injEq] at this
      have := hn7.is
      have := (f5.trans hf6).size
      omega
  refine RView_loop (W0 := w) hO hr hM (fun nodes fv fs D w8 hR8 => ?_) (ordO m roots).length 0 w7 _ _ [] (by omega) hR
  · have hI : IsV w8 (.slice (some ⟨w2.heap.size, 0, none⟩) 1 1) nodes (vwO m roots) := ⟨hR8.rws.rd, hR8.own.rd⟩
    refine F23.k20.to (C.loadA_all hR8.h5 rfl ?_)
    refine C.store_all (x := .agg #[.slice (some ⟨w2.heap.size, 0, none⟩) 1 1, nodes]) hR8.h4 (by rw [hI.cells]; rfl) hI.ones rfl fun w9 hu9 => ?_
    have h49 := hu9.at_
    rw [hI.cells] at h49
    have key : ∀ g ∈ [b4], ∃ cs e fz, w8.heap[g]? = some (.cells cs e fz) ∧ e = 42 := fun g hg => by
      simp only [List.mem_singleton] at hg
      subst hg
      exact ⟨_, _, _, hR8.h4, rfl⟩
    refine C.loadA_all h49 rfl (h _ nodes w9 ?_ ⟨(hR8.rws.keep hu9.fr fun g hg => ?_).rd, (hR8.own.keep hu9.fr fun g hg => ?_).rd⟩)
    · exact hR8.fr.then hu9.fr fun z hz => .inr (by simp only [List.mem_singleton] at hz; have := hR8.g4; omega)
    · obtain ⟨cs, e, fz, a, rfl⟩ := key g hg
      exact .inr (.inr ⟨cs, _, fz, a, by decide, by decide⟩)
    · obtain ⟨cs, e, fz, a, rfl⟩ := key g hg
      exact .inr (.inr ⟨cs, _, fz, a, by decide, by decide⟩)
end
end Go.Proofs.YtfjilngljnlkjaaV
namespace Go.Proofs.YtfjilngljnlkjaaV
open Go Go.Proofs Go.RowKit
set_option linter.unusedVariables false
set_option linter.unusedSimpArgs false
set_option maxRecDepth 10000
section
variable {K : VK} {w : World}
theorem unl_inner {W0 : World} {mv : Value} {m : List Ob} {gs : List Value} {i : Nat} (hM : ObsAt W0 mv m gs) (hi : i < m.length)
    (h0 : ∀ w', Fr [] W0 w' → ¬ Unl m → K (.bool false) w') (h1 : ∀ w', Fr [] W0 w' → (∀ j (hj : j < i), (m[j]'(by omega)).ser ≠ m[i].ser) → F24.k3 K mv (.int .i64 (i : Int)) w') :
    ∀ (d j : Nat) (w : World), i = j + d → Fr [] W0 w → (∀ k (hk : k < i), k < j → (m[k]'(by omega)).ser ≠ m[i].ser) → F24.l5 K mv (.int .i64 (i : Int)) (.int .i64 (j : Int)) w := by
  have hml := hM.le
  intro d
  induction d with
  | zero =>
    intro j w hj hf hn
    refine F24.l5.to ?_
    simp only [C.ite_true, C.ite_false, C.pick_true, C.pick_false, C.not_bool, C.field_ptr, C.nilCheck_ptr, C.add_mk, C.sub_mk, C.mul_mk, C.eql_mk, C.neq_mk, C.lss_mk, C.leq_mk, C.gtr_mk, C.geq_mk, C.conv_mk, C.len_mk, C.ext_0, C.ext_1, C.ext3_0, C.ext3_1, C.ext3_2, C.guarded_yes, C.guarded_tf, C.guarded_ft, C.guarded_undef, Bool.not_true, Bool.not_false, Nat.zero_add, eq_self, decide_true, decide_false, show ¬ ((j : Int) < (i : Int)) by omega]
    exact h1 w hf fun k hk => hn k hk (by omega)
  | succ d ih =>
    intro j w hj hf hn
    have jl : j < m.length := by omega
    have hig : i < gs.length := by rw [hM.len]; exact hi
    have hjg : j < gs.length := by rw [hM.len]; exact jl
    refine F24.l5.to ?_
    simp only [C.ite_true, C.ite_false, C.pick_true, C.pick_false, C.not_bool, C.field_ptr, C.nilCheck_ptr, C.add_mk, C.sub_mk, C.mul_mk, C.eql_mk, C.neq_mk, C.lss_mk, C.leq_mk, C.gtr_mk, C.geq_mk, C.conv_mk, C.len_mk, C.ext_0, C.ext_1, C.ext3_0, C.ext3_1, C.ext3_2, C.guarded_yes, C.guarded_tf, C.guarded_ft, C.guarded_undef, Bool.not_true, Bool.not_false, Nat.zero_add, eq_self, decide_true, decide_false, show ((j : Int) < (i : Int)) by omega]
    refine F24.k7.to (C.draw_of (fun w' => Fr [] W0 w') fun w1 hf1 he1 => ⟨hf.trans hf1, ?_⟩)
    have f1 := hf.trans hf1
    refine C.idx_rdS (S := fun w2 => Fr [] W0 w2) (fun w2 hw => (hM.keep hw).rd) f1 (by omega) (by rw [Int.toNat_natCast]; exact obC_get hi hig) fun g1 o1 _ hs1 => ?_
    simp only [C.ite_true, C.ite_false, C.pick_true, C.pick_false, C.not_bool, C.field_ptr, C.nilCheck_ptr, C.add_mk, C.sub_mk, C.mul_mk, C.eql_mk, C.neq_mk, C.lss_mk, C.leq_mk, C.gtr_mk, C.geq_mk, C.conv_mk, C.len_mk, C.ext_0, C.ext_1, C.ext3_0, C.ext3_1, C.ext3_2, C.guarded_yes, C.guarded_tf, C.guarded_ft, C.guarded_undef, Bool.not_true, Bool.not_false, Nat.zero_add, eq_self, decide_true, decide_false]
    refine C.idx_rdS (S := fun w2 => Fr [] W0 w2) (fun w2 hw => (hM.keep hw).rd) f1 (by omega) (by rw [Int.toNat_natCast]; exact obC_get jl hjg) fun g2 o2 _ hs2 => ?_
    simp only [C.ite_true, C.ite_false, C.pick_true, C.pick_false, C.not_bool, C.field_ptr, C.nilCheck_ptr, C.add_mk, C.sub_mk, C.mul_mk, C.eql_mk, C.neq_mk, C.lss_mk, C.leq_mk, C.gtr_mk, C.geq_mk, C.conv_mk, C.len_mk, C.ext_0, C.ext_1, C.ext3_0, C.ext3_1, C.ext3_2, C.guarded_yes, C.guarded_tf, C.guarded_ft, C.guarded_undef, Bool.not_true, Bool.not_false, Nat.zero_add, eq_self, decide_true, decide_false]
    refine C.load1S_of (v := .int .i64 m[i].ser) (fun w' hw => by obtain ⟨cs, e, fz, x, y⟩ := hs1 w' hw; exact ⟨cs, e, fz, x, by simpa using y 1 (by omega)⟩) ?_
    refine C.load1S_of (v := .int .i64 m[j].ser) (fun w' hw => by obtain ⟨cs, e, fz, x, y⟩ := hs2 w' hw; exact ⟨cs, e, fz, x, by simpa using y 1 (by omega)⟩) ?_
    by_cases c : m[i].ser = m[j].ser
    · simp only [C.ite_true, C.ite_false, C.pick_true, C.pick_false, C.not_bool, C.field_ptr, C.nilCheck_ptr, C.add_mk, C.sub_mk, C.mul_mk, C.eql_mk, C.neq_mk, C.lss_mk, C.leq_mk, C.gtr_mk, C.geq_mk, C.conv_mk, C.len_mk, C.ext_0, C.ext_1, C.ext3_0, C.ext3_1, C.ext3_2, C.guarded_yes, C.guarded_tf, C.guarded_ft, C.guarded_undef, Bool.not_true, Bool.not_false, Nat.zero_add, eq_self, decide_true, decide_false, c]
      refine h0 w1 f1 fun hU => ?_
      exact List.pairwise_iff_getElem.1 hU j i jl hi (by omega) c.symm
    · simp only [C.ite_true, C.ite_false, C.pick_true, C.pick_false, C.not_bool, C.field_ptr, C.nilCheck_ptr, C.add_mk, C.sub_mk, C.mul_mk, C.eql_mk, C.neq_mk, C.lss_mk, C.leq_mk, C.gtr_mk, C.geq_mk, C.conv_mk, C.len_mk, C.ext_0, C.ext_1, C.ext3_0, C.ext3_1, C.ext3_2, C.guarded_yes, C.guarded_tf, C.guarded_ft, C.guarded_undef, Bool.not_true, Bool.not_false, Nat.zero_add, eq_self, decide_true, decide_false, c]
      refine F24.k6.to ?_
      simp only [C.ite_true, C.ite_false, C.pick_true, C.pick_false, C.not_bool, C.field_ptr, C.nilCheck_ptr, C.add_mk, C.sub_mk, C.mul_mk, C.eql_mk, C.neq_mk, C.lss_mk, C.leq_mk, C.gtr_mk, C.geq_mk, C.conv_mk, C.len_mk, C.ext_0, C.ext_1, C.ext3_0, C.ext3_1, C.ext3_2, C.guarded_yes, C.guarded_tf, C.guarded_ft, C.guarded_undef, Bool.not_true, Bool.not_false, Nat.zero_add, eq_self, decide_true, decide_false]
      rw [wrap64_id (n := (j : Int) + 1) (by omega), show (j : Int) + 1 = ((j + 1 : Nat) : Int) by omega]
      refine ih (j + 1) w1 (by omega) f1 fun k hk hkj => ?_
      by_cases e : k = j
      · subst e; exact fun x => c x.symm
      · exact hn k hk (by omega)
theorem unl_outer {W0 : World} {mv : Value} {m : List Ob} {gs : List Value} (hM : ObsAt W0 mv m gs)
    (h0 : ∀ w', Fr [] W0 w' → ¬ Unl m → K (.bool false) w') (h1 : ∀ w', Fr [] W0 w' → Unl m → K (.bool true) w') :
    ∀ (d i : Nat) (w : World), m.length = i + d → Fr [] W0 w → (∀ j k (hj : j < m.length) (hk : k < m.length), j < k → k < i → m[j].ser ≠ m[k].ser) → F24.l2 K mv (.int .i64 (i : Int)) w := by
  have hml := hM.le
  intro d
  induction d with
  | zero =>
    intro i w hi hf hn
    refine F24.l2.to ((hM.keep hf).lenC ?_)
    simp only [C.ite_true, C.ite_false, C.pick_true, C.pick_false, C.not_bool, C.field_ptr, C.nilCheck_ptr, C.add_mk, C.sub_mk, C.mul_mk, C.eql_mk, C.neq_mk, C.lss_mk, C.leq_mk, C.gtr_mk, C.geq_mk, C.conv_mk, C.len_mk, C.ext_0, C.ext_1, C.ext3_0, C.ext3_1, C.ext3_2, C.guarded_yes, C.guarded_tf, C.guarded_ft, C.guarded_undef, Bool.not_true, Bool.not_false, Nat.zero_add, eq_self, decide_true, decide_false, show ¬ ((i : Int) < (m.length : Int)) by omega]
    exact F24.k9.to (h1 w hf (List.pairwise_iff_getElem.2 fun j k hj hk hjk => hn j k hj hk hjk (by omega)))
  | succ d ih =>
    intro i w hi hf hn
    have il : i < m.length := by omega
    refine F24.l2.to ((hM.keep hf).lenC ?_)
    simp only [C.ite_true, C.ite_false, C.pick_true, C.pick_false, C.not_bool, C.field_ptr, C.nilCheck_ptr, C.add_mk, C.sub_mk, C.mul_mk, C.eql_mk, C.neq_mk, C.lss_mk, C.leq_mk, C.gtr_mk, C.geq_mk, C.conv_mk, C.len_mk, C.ext_0, C.ext_1, C.ext3_0, C.ext3_1, C.ext3_2, C.guarded_yes, C.guarded_tf, C.guarded_ft, C.guarded_undef, Bool.not_true, Bool.not_false, Nat.zero_add, eq_self, decide_true, decide_false, show ((i : Int) < (m.length : Int)) by omega]
    refine F24.k4.to (unl_inner hM il h0 (fun w1 hf1 hne => ?_) i 0 w (by omega) hf fun k hk hk0 => by omega)
    refine F24.k3.to ?_
    simp only [C.ite_true, C.ite_false, C.pick_true, C.pick_false, C.not_bool, C.field_ptr, C.nilCheck_ptr, C.add_mk, C.sub_mk, C.mul_mk, C.eql_mk, C.neq_mk, C.lss_mk, C.leq_mk, C.gtr_mk, C.geq_mk, C.conv_mk, C.len_mk, C.ext_0, C.ext_1, C.ext3_0, C.ext3_1, C.ext3_2, C.guarded_yes, C.guarded_tf, C.guarded_ft, C.guarded_undef, Bool.not_true, Bool.not_false, Nat.zero_add, eq_self, decide_true, decide_false]
    rw [wrap64_id (n := (i : Int) + 1) (by omega), show (i : Int) + 1 = ((i + 1 : Nat) : Int) by omega]
    refine ih (i + 1) w1 (by omega) hf1 fun j k hj hk hjk hki => ?_
    by_cases e : k = i
    · subst e; exact hne j hjk
    · exact hn j k hj hk hjk (by omega)
theorem unlike_c {mv : Value} {m : List Ob} {gs : List Value} (hM : ObsAt w mv m gs)
    (h0 : ∀ w', Fr [] w w' → ¬ Unl m → K (.bool false) w') (h1 : ∀ w', Fr [] w w' → Unl m → K (.bool true) w') : C.call Try.prog 24 #[mv] w K :=
  F24.sh (unl_outer hM h0 h1 m.length 0 w (by omega) (Fr.refl _ _) fun j k _ _ _ hk => by omega)
theorem views_copy {lv rv mv rows nodes : Value} {l roots : List Int} {m : List Ob} {gs : List Value} {b : Nat} (hl : RdS w lv 1 (intC l)) (hr : Rng l) (hrv : RdS w rv 1 (intC roots)) (hrr : Rng roots) (hrl : roots.length ≤ 8796093022207) (hO : Opn l m roots) (hM : ObsAt w mv m gs)
    (hb : VB w b rows nodes) (hV : IsV w rows nodes (vwO m roots)) (h : ∀ w', Fr [] w w' → K (.bool true) w') : F5.k10 K lv rv (.pointer (some ⟨b, 0, none⟩)) mv w := by
  have hL := hO.copy
  have hO2 := hL.opn
  refine F5.k10.to (Copy_c hl hr hrv hrr (by omega) (fun c m' w1 hc c0 _ => absurd (hc.det hO.cr).1 c0) fun m' tv hv w1 hc hf1 ht hh _ _ => ?_)
  obtain ⟨_, rfl⟩ := hc.det hO.cr
  try simp only [C.ite_true, C.ite_false, C.pick_true, C.pick_false, C.not_bool, C.field_ptr, C.nilCheck_ptr, C.add_mk, C.sub_mk, C.mul_mk, C.eql_mk, C.neq_mk, C.lss_mk, C.leq_mk, C.gtr_mk, C.geq_mk, C.conv_mk, C.len_mk, C.ext_0, C.ext_1, C.ext3_0, C.ext3_1, C.ext3_2, C.guarded_yes, C.guarded_tf, C.guarded_ft, C.guarded_undef, Bool.not_true, Bool.not_false, Nat.zero_add, eq_self, decide_true, decide_false]
  refine EView_c ht.rd (lay_rng hL hr) hh.rd (roots_rng hL hrr) (by simp; omega) (fun c m' w2 hc' c0 hf2 => absurd (hc'.det hO2.cr).1 c0) fun m' rows2 nodes2 w2 hc' hf2 hV2 => ?_
  obtain ⟨_, rfl⟩ := hc'.det hO2.cr
  try simp only [C.ite_true, C.ite_false, C.pick_true, C.pick_false, C.not_bool, C.field_ptr, C.nilCheck_ptr, C.add_mk, C.sub_mk, C.mul_mk, C.eql_mk, C.neq_mk, C.lss_mk, C.leq_mk, C.gtr_mk, C.geq_mk, C.conv_mk, C.len_mk, C.ext_0, C.ext_1, C.ext3_0, C.ext3_1, C.ext3_2, C.guarded_yes, C.guarded_tf, C.guarded_ft, C.guarded_undef, Bool.not_true, Bool.not_false, Nat.zero_add, eq_self, decide_true, decide_false]
  refine C.new_of fun b2 w3 hn3 => C.store_all (x := .agg #[rows2, nodes2]) hn3.at_ (by rw [hV2.cells]; rfl) hV2.ones rfl fun w4 hu4 => ?_
  have i3 := hn3.is
  have f24 : Fr [] w2 w4 := hn3.fr.then hu4.fr fun z hz => .inr (by simp only [List.mem_singleton] at hz; omega)
  have hb4 : VB w4 b2 rows2 nodes2 := by
    have := hu4.at_
    rw [hV2.cells] at this
    exact this
  have hV4 := hV2.keep f24
  have f14 := hf2.trans f24
  have f4 := hf1.trans f14
  try simp only [C.ite_true, C.ite_false, C.pick_true, C.pick_false, C.not_bool, C.field_ptr, C.nilCheck_ptr, C.add_mk, C.sub_mk, C.mul_mk, C.eql_mk, C.neq_mk, C.lss_mk, C.leq_mk, C.gtr_mk, C.geq_mk, C.conv_mk, C.len_mk, C.ext_0, C.ext_1, C.ext3_0, C.ext3_1, C.ext3_2, C.guarded_yes, C.guarded_tf, C.guarded_ft, C.guarded_undef, Bool.not_true, Bool.not_false, Nat.zero_add, eq_self, decide_true, decide_false]
  refine C.len_rd (ht.rd.keep f14) (C.len_rd (hl.keep f4) ?_)
  rw [intC_len, intC_len]
  have hle : (lay m' (ordO m' roots)).length ≤ l.length := by
    unfold lay
    rw [layS_len]
    exact hL.pls.sz hO.spl
  simp only [C.ite_true, C.ite_false, C.pick_true, C.pick_false, C.not_bool, C.field_ptr, C.nilCheck_ptr, C.add_mk, C.sub_mk, C.mul_mk, C.eql_mk, C.neq_mk, C.lss_mk, C.leq_mk, C.gtr_mk, C.geq_mk, C.conv_mk, C.len_mk, C.ext_0, C.ext_1, C.ext3_0, C.ext3_1, C.ext3_2, C.guarded_yes, C.guarded_tf, C.guarded_ft, C.guarded_undef, Bool.not_true, Bool.not_false, Nat.zero_add, eq_self, decide_true, decide_false, show (((lay m' (ordO m' roots)).length : Int) ≤ (l.length : Int)) by omega]
  refine unlike_c (hM.keep f4) (fun w5 hf5 hU => ?_) fun w5 hf5 hU => ?_
  · simp only [C.ite_true, C.ite_false, C.pick_true, C.pick_false, C.not_bool, C.field_ptr, C.nilCheck_ptr, C.add_mk, C.sub_mk, C.mul_mk, C.eql_mk, C.neq_mk, C.lss_mk, C.leq_mk, C.gtr_mk, C.geq_mk, C.conv_mk, C.len_mk, C.ext_0, C.ext_1, C.ext3_0, C.ext3_1, C.ext3_2, C.guarded_yes, C.guarded_tf, C.guarded_ft, C.guarded_undef, Bool.not_true, Bool.not_false, Nat.zero_add, eq_self, decide_true, decide_false]
    exact h w5 (f4.trans hf5)
  · simp only [C.ite_true, C.ite_false, C.pick_true, C.pick_false, C.not_bool, C.field_ptr, C.nilCheck_ptr, C.add_mk, C.sub_mk, C.mul_mk, C.eql_mk, C.neq_mk, C.lss_mk, C.leq_mk, C.gtr_mk, C.geq_mk, C.conv_mk, C.len_mk, C.ext_0, C.ext_1, C.ext3_0, C.ext3_1, C.ext3_2, C.guarded_yes, C.guarded_tf, C.guarded_ft, C.guarded_undef, Bool.not_true, Bool.not_false, Nat.zero_add, eq_self, decide_true, decide_false]
    have f5 := f4.trans hf5
    refine (hb.keep f5 (by simp)).all ((hb4.keep hf5 (by simp)).all (View_c (hV.keep f5) (hV4.keep hf5) fun w6 hf6 => ?_))
    rw [hL.view hU, decide_eq_true rfl]
    try simp only [C.ite_true, C.ite_false, C.pick_true, C.pick_false, C.not_bool, C.field_ptr, C.nilCheck_ptr, C.add_mk, C.sub_mk, C.mul_mk, C.eql_mk, C.neq_mk, C.lss_mk, C.leq_mk, C.gtr_mk, C.geq_mk, C.conv_mk, C.len_mk, C.ext_0, C.ext_1, C.ext3_0, C.ext3_1, C.ext3_2, C.guarded_yes, C.guarded_tf, C.guarded_ft, C.guarded_undef, Bool.not_true, Bool.not_false, Nat.zero_add, eq_self, decide_true, decide_false]
    exact h w6 (f5.trans hf6)
theorem EvacViews_c {lv rv : Value} {l roots : List Int} (hl : RdS w lv 1 (intC l)) (hr : Rng l) (hrv : RdS w rv 1 (intC roots)) (hrr : Rng roots) (h : ∀ w', Fr [] w w' → K (.bool true) w') : C.call Try.prog 5 #[lv, rv] w K := by
  refine F5.sh (alive37_c fun w1 hf1 => ?_)
  simp only [C.ite_true, C.ite_false, C.pick_true, C.pick_false, C.not_bool, C.field_ptr, C.nilCheck_ptr, C.add_mk, C.sub_mk, C.mul_mk, C.eql_mk, C.neq_mk, C.lss_mk, C.leq_mk, C.gtr_mk, C.geq_mk, C.conv_mk, C.len_mk, C.ext_0, C.ext_1, C.ext3_0, C.ext3_1, C.ext3_2, C.guarded_yes, C.guarded_tf, C.guarded_ft, C.guarded_undef, Bool.not_true, Bool.not_false, Nat.zero_add, eq_self, decide_true, decide_false]
  refine F5.k3.to (few_c (hl.keep hf1) hr fun lv l hl hr hlen => few_c (hrv.keep hf1) hrr fun rv roots hrv hrr hrlen => ?_)
  refine EView_c hl hr hrv hrr (by omega) (fun c m w2 hc c0 hf2 => ?_) fun m rows nodes w2 hc hf2 hV2 => ?_
  · simp only [C.ite_true, C.ite_false, C.pick_true, C.pick_false, C.not_bool, C.field_ptr, C.nilCheck_ptr, C.add_mk, C.sub_mk, C.mul_mk, C.eql_mk, C.neq_mk, C.lss_mk, C.leq_mk, C.gtr_mk, C.geq_mk, C.conv_mk, C.len_mk, C.ext_0, C.ext_1, C.ext3_0, C.ext3_1, C.ext3_2, C.guarded_yes, C.guarded_tf, C.guarded_ft, C.guarded_undef, Bool.not_true, Bool.not_false, Nat.zero_add, eq_self, decide_true, decide_false]
    refine C.new_of fun b w3 hn3 => C.store_all (x := .agg #[.slice none 0 0, .slice none 0 0]) hn3.at_ rfl (by simp [Value.cells, Value.oneCell']) rfl fun w4 hu4 => ?_
    have i3 := hn3.is
    have f24 : Fr [] w2 w4 := hn3.fr.then hu4.fr fun z hz => .inr (by simp only [List.mem_singleton] at hz; omega)
    have f14 := hf2.trans f24
    refine ROpen_c (hl.keep f14) hr fun c' m' fs mv w5 hc' hf5 hM5 => ?_
    have f15 := f14.trans hf5
    simp only [C.ite_true, C.ite_false, C.pick_true, C.pick_false, C.not_bool, C.field_ptr, C.nilCheck_ptr, C.add_mk, C.sub_mk, C.mul_mk, C.eql_mk, C.neq_mk, C.lss_mk, C.leq_mk, C.gtr_mk, C.geq_mk, C.conv_mk, C.len_mk, C.ext_0, C.ext_1, C.ext3_0, C.ext3_1, C.ext3_2, C.guarded_yes, C.guarded_tf, C.guarded_ft, C.guarded_undef, Bool.not_true, Bool.not_false, Nat.zero_add, eq_self, decide_true, decide_false]
    by_cases c0' : c' = 0
    · subst c0'
      rcases hc with ⟨a, b⟩ | ⟨rfl, a, b⟩ | ⟨rfl, _⟩
      · exact absurd (a.det hc').1 b
      · obtain ⟨_, rfl⟩ := a.det hc'
        simp only [C.ite_true, C.ite_false, C.pick_true, C.pick_false, C.not_bool, C.field_ptr, C.nilCheck_ptr, C.add_mk, C.sub_mk, C.mul_mk, C.eql_mk, C.neq_mk, C.lss_mk, C.leq_mk, C.gtr_mk, C.geq_mk, C.conv_mk, C.len_mk, C.ext_0, C.ext_1, C.ext3_0, C.ext3_1, C.ext3_2, C.guarded_yes, C.guarded_tf, C.guarded_ft, C.guarded_undef, Bool.not_true, Bool.not_false, Nat.zero_add, eq_self, decide_true, decide_false, ne_eq, not_true_eq_false]
        refine Fine_c hM5 (hrv.keep f15) hrr fun w6 hf6 => ?_
        have e : roots.all (fineW m) = false := by
          cases g : roots.all (fineW m) with
          | false => rfl
          | true => exact absurd (all_fine.1 g) b
        rw [e]
        simp only [C.ite_true, C.ite_false, C.pick_true, C.pick_false, C.not_bool, C.field_ptr, C.nilCheck_ptr, C.add_mk, C.sub_mk, C.mul_mk, C.eql_mk, C.neq_mk, C.lss_mk, C.leq_mk, C.gtr_mk, C.geq_mk, C.conv_mk, C.len_mk, C.ext_0, C.ext_1, C.ext3_0, C.ext3_1, C.ext3_2, C.guarded_yes, C.guarded_tf, C.guarded_ft, C.guarded_undef, Bool.not_true, Bool.not_false, Nat.zero_add, eq_self, decide_true, decide_false, ne_eq, show ¬ (4 : Int) = 0 by decide, not_false_eq_true]
        exact h w6 (hf1.trans (f15.trans hf6))
      · exact absurd rfl c0
    · simp only [C.ite_true, C.ite_false, C.pick_true, C.pick_false, C.not_bool, C.field_ptr, C.nilCheck_ptr, C.add_mk, C.sub_mk, C.mul_mk, C.eql_mk, C.neq_mk, C.lss_mk, C.leq_mk, C.gtr_mk, C.geq_mk, C.conv_mk, C.len_mk, C.ext_0, C.ext_1, C.ext3_0, C.ext3_1, C.ext3_2, C.guarded_yes, C.guarded_tf, C.guarded_ft, C.guarded_undef, Bool.not_true, Bool.not_false, Nat.zero_add, eq_self, decide_true, decide_false, ne_eq, c0', c0, not_false_eq_true]
      exact h w5 (hf1.trans f15)
  · have hO := hc.opn
    simp only [C.ite_true, C.ite_false, C.pick_true, C.pick_false, C.not_bool, C.field_ptr, C.nilCheck_ptr, C.add_mk, C.sub_mk, C.mul_mk, C.eql_mk, C.neq_mk, C.lss_mk, C.leq_mk, C.gtr_mk, C.geq_mk, C.conv_mk, C.len_mk, C.ext_0, C.ext_1, C.ext3_0, C.ext3_1, C.ext3_2, C.guarded_yes, C.guarded_tf, C.guarded_ft, C.guarded_undef, Bool.not_true, Bool.not_false, Nat.zero_add, eq_self, decide_true, decide_false]
    refine C.new_of fun b w3 hn3 => C.store_all (x := .agg #[rows, nodes]) hn3.at_ (by rw [hV2.cells]; rfl) hV2.ones rfl fun w4 hu4 => ?_
    have i3 := hn3.is
    have f24 : Fr [] w2 w4 := hn3.fr.then hu4.fr fun z hz => .inr (by simp only [List.mem_singleton] at hz; omega)
    have hb4 : VB w4 b rows nodes := by
      have := hu4.at_
      rw [hV2.cells] at this
      exact this
    have hV4 := hV2.keep f24
    have f14 := hf2.trans f24
    refine ROpen_c (hl.keep f14) hr fun c' m' fs mv w5 hc' hf5 hM5 => ?_
    have f15 := f14.trans hf5
    have hcd : Cd l 0 m := .inr (.inr ⟨rfl, hO.few, hO.spl, hO.fine⟩)
    obtain ⟨rfl, rfl⟩ := hcd.det hc'
    simp only [C.ite_true, C.ite_false, C.pick_true, C.pick_false, C.not_bool, C.field_ptr, C.nilCheck_ptr, C.add_mk, C.sub_mk, C.mul_mk, C.eql_mk, C.neq_mk, C.lss_mk, C.leq_mk, C.gtr_mk, C.geq_mk, C.conv_mk, C.len_mk, C.ext_0, C.ext_1, C.ext3_0, C.ext3_1, C.ext3_2, C.guarded_yes, C.guarded_tf, C.guarded_ft, C.guarded_undef, Bool.not_true, Bool.not_false, Nat.zero_add, eq_self, decide_true, decide_false, ne_eq, not_true_eq_false]
    refine Fine_c hM5 (hrv.keep f15) hrr fun w6 hf6 => ?_
    rw [all_fine.2 hO.fr]
    simp only [C.ite_true, C.ite_false, C.pick_true, C.pick_false, C.not_bool, C.field_ptr, C.nilCheck_ptr, C.add_mk, C.sub_mk, C.mul_mk, C.eql_mk, C.neq_mk, C.lss_mk, C.leq_mk, C.gtr_mk, C.geq_mk, C.conv_mk, C.len_mk, C.ext_0, C.ext_1, C.ext3_0, C.ext3_1, C.ext3_2, C.guarded_yes, C.guarded_tf, C.guarded_ft, C.guarded_undef, Bool.not_true, Bool.not_false, Nat.zero_add, eq_self, decide_true, decide_false, ne_eq, not_true_eq_false]
    have f46 := hf5.trans hf6
    have hb6 := hb4.keep f46 (by simp)
    have hV6 := hV4.keep f46
    refine F5.k8.to (C.draw_of (fun w' => VB w' b rows nodes ∧ Fr [] w6 w') fun w7 hf7 he7 => ⟨⟨hb6.keep hf7 (by simp), hf7⟩, ?_⟩)
    simp only [C.ite_true, C.ite_false, C.pick_true, C.pick_false, C.not_bool, C.field_ptr, C.nilCheck_ptr, C.add_mk, C.sub_mk, C.mul_mk, C.eql_mk, C.neq_mk, C.lss_mk, C.leq_mk, C.gtr_mk, C.geq_mk, C.conv_mk, C.len_mk, C.ext_0, C.ext_1, C.ext3_0, C.ext3_1, C.ext3_2, C.guarded_yes, C.guarded_tf, C.guarded_ft, C.guarded_undef, Bool.not_true, Bool.not_false, Nat.zero_add, eq_self, decide_true, decide_false, ne_eq, not_true_eq_false, and_true]
    refine C.loadAS_of (vs := [rows, nodes]) (fun w' hw => ⟨_, _, _, hw.1, by simp, by simp⟩) ?_
    refine RView_c hO hr ((hM5.keep hf6).keep hf7) ((hrv.keep (f15.trans hf6)).keep hf7) hrr (by omega) fun rows2 nodes2 w8 hf8 hV8 => ?_
    have f68 := hf7.trans hf8
    refine ⟨⟨hb6.keep f68 (by simp), f68⟩, View_c (hV6.keep f68) hV8 fun w9 hf9 => ?_⟩
    have f69 := f68.trans hf9
    refine ⟨⟨hb6.keep f69 (by simp), f69⟩, ?_⟩
    rw [decide_eq_true rfl]
    simp only [C.ite_true, C.ite_false, C.pick_true, C.pick_false, C.not_bool, C.field_ptr, C.nilCheck_ptr, C.add_mk, C.sub_mk, C.mul_mk, C.eql_mk, C.neq_mk, C.lss_mk, C.leq_mk, C.gtr_mk, C.geq_mk, C.conv_mk, C.len_mk, C.ext_0, C.ext_1, C.ext3_0, C.ext3_1, C.ext3_2, C.guarded_yes, C.guarded_tf, C.guarded_ft, C.guarded_undef, Bool.not_true, Bool.not_false, Nat.zero_add, eq_self, decide_true, decide_false]
    have f19 := (f15.trans hf6).trans f69
    exact views_copy (hl.keep f19) hr (hrv.keep f19) hrr (by omega) hO ((hM5.keep hf6).keep f69) (hb6.keep f69 (by simp)) (hV6.keep f69) fun w' hf' => h w' (hf1.trans (f19.trans hf'))
end
end Go.Proofs.YtfjilngljnlkjaaV
