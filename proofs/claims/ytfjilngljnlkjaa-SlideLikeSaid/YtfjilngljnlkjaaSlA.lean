/- Slides, by the program: what is reached, the moves, the slide. -/
import Derived.Test.YtfjilngljnlkjaaEvF
import Derived.Test.YtfjilngljnlkjaaGSlide
namespace Go.Proofs.YtfjilngljnlkjaaV
open Go Go.Proofs Go.RowKit
set_option linter.unusedVariables false
set_option linter.unusedSimpArgs false
set_option maxRecDepth 10000
/-! ### 1. Plain -/
theorem vis_sub {m : List Ob} {C : Nat → Prop} : ∀ {ws : List Int} {o : List Nat}, (∀ p ∈ o, C p) → (∀ w ∈ ws, ∀ q, wPl m w = some q → C q) → ∀ p ∈ vis m o ws, C p := fun {ws o} ho hw p hp => by
  rcases (vis_mem ws).1 hp with c | ⟨w, a, b⟩
  · exact ho p c
  · exact hw w a p b
theorem bfs_sub {m : List Ob} {C : Nat → Prop} (hC : ∀ p, C p → ∀ w ∈ fsA m p, ∀ q, wPl m w = some q → C q) : ∀ (f : Nat) (o : List Nat) (k : Nat), (∀ p ∈ o, C p) → ∀ p ∈ bfs m f o k, C p
  | 0, o, k, ho, p, hp => by simp only [bfs] at hp; exact ho p hp
  | f + 1, o, k, ho, p, hp => by
    simp only [bfs] at hp
    cases e : o[k]? with
    | none => rw [e] at hp; exact ho p hp
    | some q =>
      rw [e] at hp
      exact bfs_sub hC f _ _ (vis_sub ho (hC q (ho q (List.mem_of_getElem? e)))) p hp
/-- The words that are followed, and what they lead to. -/
structure RQ (m : List Ob) (roots W : List Int) (o : List Nat) (i : Nat) : Prop where
  ws : W = roots ++ o.flatMap (fsA m)
  od : o = vis m [] (W.take i)
  pls : Pls m o
  sub : ∀ p ∈ o, p ∈ ordO m roots
theorem RQ.perm {m : List Ob} {roots W : List Int} {o : List Nat} {i : Nat} (h : RQ m roots W o i) (hi : W.length ≤ i) : o.Perm (slO m roots) := by
  have ho := h.od
  rw [List.take_of_length_le hi] at ho
  refine (List.perm_ext_iff_of_nodup h.pls.1 (slO_pls m roots).1).2 fun p => ⟨fun hp => slO_mem.2 (h.sub p hp), fun hp => ?_⟩
  have hp := slO_mem.1 hp
  have hm : ∀ q, q ∈ o ↔ ∃ w ∈ W, wPl m w = some q := fun q => by
    rw [ho, vis_mem]
    simp
  refine bfs_sub (C := fun q => q ∈ o) (fun q hq w hw r hr => (hm r).2 ⟨w, ?_, hr⟩) _ _ _ (vis_sub (fun q hq => by simp at hq) fun w hw q hq => (hm q).2 ⟨w, ?_, hq⟩) p hp
  · rw [h.ws]; exact List.mem_append.2 (.inr (List.mem_flatMap.2 ⟨q, hq, hw⟩))
  · rw [h.ws]; exact List.mem_append.2 (.inl hw)
theorem RQ.fin {l roots W : List Int} {m : List Ob} {o : List Nat} {i : Nat} (hS : Spl 0 l m) (h : RQ m roots W o i) (hi : W.length ≤ i) : srt (ordL m o) = ordL m (slO m roots) := by
  refine srt_is ?_ (((h.perm hi).symm).map _)
  unfold ordL
  rw [List.pairwise_map]
  refine List.Pairwise.imp_of_mem (fun {a b} ha hb h => ?_) (slO_sorted m roots)
  have pa := (slO_pls m roots).2 a ha
  have pb := (slO_pls m roots).2 b hb
  rw [atA_get pa, atA_get pb]
  have := hS.mono h pb
  omega
theorem RQ.src {m : List Ob} {roots W : List Int} {o : List Nat} {i : Nat} (h : RQ m roots W o i) {w : Int} (hw : w ∈ W) {q : Nat} (hq : wPl m w = some q) : q ∈ ordO m roots := by
  rw [h.ws] at hw
  rcases List.mem_append.1 hw with c | c
  · exact ordO_root c hq
  · obtain ⟨p, hp, hw⟩ := List.mem_flatMap.1 c
    exact ordO_closed (h.sub p hp) hw hq
theorem RQ.skip {m : List Ob} {roots W : List Int} {o : List Nat} {i : Nat} (h : RQ m roots W o i) (hi : i < W.length) (hn : ∀ q, wPl m W[i] = some q → q ∈ o) : RQ m roots W o (i + 1) := by
  refine ⟨h.ws, ?_, h.pls, h.sub⟩
  rw [take_snoc hi, vis_snoc, ← h.od]
  unfold vis1
  cases e : wPl m W[i] with
  | none => rfl
  | some q => simp only [hn q e, if_true]
theorem RQ.step {m : List Ob} {roots W : List Int} {o : List Nat} {i : Nat} (h : RQ m roots W o i) (hi : i < W.length) {q : Nat} (hq : wPl m W[i] = some q) (hn : q ∉ o) : RQ m roots (W ++ fsA m q) (o ++ [q]) (i + 1) := by
  have hqm := wPl_lt hq
  refine ⟨by rw [h.ws]; simp, ?_, ?_, fun p hp => ?_⟩
  · rw [List.take_append_of_le_length (by omega), take_snoc hi, vis_snoc, ← h.od]
    unfold vis1
    rw [hq]
    simp only [hn, if_false]
  · have := h.pls.vis1 W[i]
    unfold vis1 at this
    rw [hq] at this
    simpa only [hn, if_false] using this
  · rcases List.mem_append.1 hp with c | c
    · exact h.sub p c
    · rw [List.mem_singleton.1 c]
      exact h.src (List.getElem_mem hi) hq
theorem fs_len {m : List Ob} : ∀ (o : List Nat), (o.flatMap (fsA m)).length ≤ szS m o
  | [] => by simp [szS]
  | p :: o => by
    have := fs_len (m := m) o
    simp only [List.flatMap_cons, List.length_append, szS, List.map_cons, List.sum_cons, szA] at this ⊢
    omega
/-- The moves. -/
def mvL (m : List Ob) (S : List Nat) (n : Nat) : List Va := (List.range n).map fun i => ((atA m (S.getD i 0) : Int), (szS m (S.take i) : Int))
theorem mvL_len (m : List Ob) (S : List Nat) (n : Nat) : (mvL m S n).length = n := by simp [mvL]
theorem mvL_succ (m : List Ob) (S : List Nat) (n : Nat) : mvL m S (n + 1) = mvL m S n ++ [((atA m (S.getD n 0) : Int), (szS m (S.take n) : Int))] := by simp [mvL, List.range_succ]
theorem mvL_get {m : List Ob} {S : List Nat} {n i : Nat} (h : i < n) (hS : i < S.length) (h' : i < (mvL m S n).length) : (mvL m S n)[i] = ((atA m S[i] : Int), (szS m (S.take i) : Int)) := by
  simp [mvL, List.getD_eq_getElem?_getD, List.getElem?_eq_getElem hS]
section
variable {K : VK} {w : World}
/-! ### 2. Lists cloned -/
theorem bsW0 : (Instr.buildSlice 22 0 #[]).run Try.prog w = .ok (.slice (some ⟨w.heap.size, 0, none⟩) 0 0) (w.alloc (.cells #[] 2)) := by kernel_rfl
theorem CloneW_c {v : Value} {l : List Int} (hv : RdS w v 1 (intC l)) (hl : l.length ≤ 17592186044416) (h : ∀ v' w', Fr [] w w' → OwnS w' v' 2 1 (intC l) → NewS w v' → K v' w') : C.call Try.prog 62 #[v] w K := by
  have hv' := hv
  obtain ⟨A, c, rfl, h1, h2, h3⟩ := hv
  refine F62.sh ⟨_, eq_slice_nil (e := 2) _ _ _ _ _ Try.underlying22, ?_⟩
  cases A with
  | none =>
    have : l = [] := by
      cases l with
      | nil => rfl
      | cons x l => obtain ⟨g, o, cs, e, fz, hA, _⟩ := h3 (by simp [intC]); cases hA
    subst this
    simp only [Option.isNone_none, C.ite_true, C.ite_false, C.pick_true, C.pick_false, C.not_bool, C.field_ptr, C.nilCheck_ptr, C.add_mk, C.sub_mk, C.mul_mk, C.eql_mk, C.neq_mk, C.lss_mk, C.leq_mk, C.gtr_mk, C.geq_mk, C.conv_mk, C.len_mk, C.ext_0, C.ext_1, C.ext3_0, C.ext3_1, C.ext3_2, C.guarded_yes, C.guarded_tf, C.guarded_ft, C.guarded_undef, Bool.not_true, Bool.not_false, Nat.zero_add, eq_self, decide_true, decide_false]
    exact h _ w (Fr.refl _ _) (OwnS.nil w 2 1) (NewS.nil w)
  | some a =>
    simp only [Option.isNone_some, C.ite_true, C.ite_false, C.pick_true, C.pick_false, C.not_bool, C.field_ptr, C.nilCheck_ptr, C.add_mk, C.sub_mk, C.mul_mk, C.eql_mk, C.neq_mk, C.lss_mk, C.leq_mk, C.gtr_mk, C.geq_mk, C.conv_mk, C.len_mk, C.ext_0, C.ext_1, C.ext3_0, C.ext3_1, C.ext3_2, C.guarded_yes, C.guarded_tf, C.guarded_ft, C.guarded_undef, Bool.not_true, Bool.not_false, Nat.zero_add, eq_self, decide_true, decide_false]
    refine F62.k3.to (C.run_of bsW0 ?_)
    have hn := New.mk' w (.cells #[] 2)
    refine C.append_of (xs := []) (e := 2) (sz := 1) (bytes := 8) (z := .int .i64 0) Try.underlying22 (by kernel_rfl) rfl (by decide) (OwnS.of_block hn.at_ rfl (by simp) (by simp) rfl (by simp) (by simp)) (hv'.keep hn.fr) intC_one (by rw [intC_len]; simp; omega) (by rw [intC_len]; simp; omega) fun v' w' ho hf hb _ => ?_
    refine h v' w' (hn.fr.then hf fun x hx => ?_) (by simpa using ho) fun g hg => ?_
    · rw [mem_blkS] at hx
      simp only [Value.ownBlock, Option.some.injEq] at hx
      exact .inr (by omega)
    · rcases hb with hb | ⟨g', hb, hle⟩
      · rw [hb] at hg
        simp only [Value.ownBlock, Option.some.injEq] at hg
        omega
      · rw [hg] at hb
        simp only [Option.some.injEq] at hb
        have := hn.fr.size
        omega
/-! ### 3. How long; what is reached -/
theorem long_c {lv : Value} {l : List Int} {m : List Ob} {p : Nat} (hl : RdS w lv 1 (intC l)) (hS : Spl 0 l m) (hp : p < m.length) (h : K (.int .i64 (szA m p : Int)) w) : C.call Try.prog 48 #[lv, .int .i64 (m[p].at_ : Int)] w K := by
  have hOb := (hS.get p hp).1
  have hal : m[p].at_ < l.length := by have := hOb.end_; omega
  have hhd : l[m[p].at_] = m[p].hd := by
    have := hOb.hd
    rw [Nat.sub_zero, List.getElem?_eq_getElem hal] at this
    exact Option.some.inj this
  obtain ⟨d1, d2⟩ := hd_div hOb.n
  have hhd' : m[p].hd = m[p].ser * 128 + (m[p].fs.length : Int) := rfl
  have s0 := hOb.s0; have s1 := hOb.s1; have sn := hOb.n
  refine F48.sh (C.idx_int hl hal fun g o cs e fz hg hcv => C.load1_of hg hcv ?_)
  rw [hhd]
  refine Split_c (by omega) (fun _ _ => ?_) (fun c => absurd ⟨by omega, by omega⟩ c)
  rw [d1, d2]
  simp only [C.ite_true, C.ite_false, C.pick_true, C.pick_false, C.not_bool, C.field_ptr, C.nilCheck_ptr, C.add_mk, C.sub_mk, C.mul_mk, C.eql_mk, C.neq_mk, C.lss_mk, C.leq_mk, C.gtr_mk, C.geq_mk, C.conv_mk, C.len_mk, C.ext_0, C.ext_1, C.ext3_0, C.ext3_1, C.ext3_2, C.guarded_yes, C.guarded_tf, C.guarded_ft, C.guarded_undef, Bool.not_true, Bool.not_false, Nat.zero_add, eq_self, decide_true, decide_false]
  rw [wrap64_id (n := 1 + (m[p].fs.length : Int)) (by omega)]
  rw [szA_get hp, show ((m[p].sz : Nat) : Int) = 1 + (m[p].fs.length : Int) by simp [Ob.sz]] at h
  exact h
theorem fsrc {l : List Int} {m : List Ob} {p : Nat} {lv : Value} {W0 : World} {k k' : IntKind} (hl : RdS W0 lv 1 (intC l)) (hS : Spl 0 l m) (hp : p < m.length) (h : ∀ v, RdS W0 v 1 (intC (fsA m p)) → (∀ g ∈ blkS v, g ∈ blkS lv) → K v w) :
    C.run Try.prog (Instr.sliceAt 22 lv (some (.int k ((m[p].at_ : Int) + 1))) (some (.int k' ((m[p].at_ : Int) + (szA m p : Int)))) none) w K := by
  have hOb := (hS.get p hp).1
  have hend := hOb.end_
  have e1 : ((m[p].at_ : Int) + 1) = ((m[p].at_ + 1 : Nat) : Int) := by omega
  have e2 : ((m[p].at_ : Int) + (szA m p : Int)) = ((m[p].at_ + 1 + m[p].fs.length : Nat) : Int) := by rw [szA_get hp, show ((m[p].sz : Nat) : Int) = 1 + (m[p].fs.length : Int) by simp [Ob.sz]]; omega
  rw [e1, e2]
  refine C.mid_of hl Try.underlying22 (by kernel_rfl : szOf Try.prog 2 = some 1) (by omega) (by rw [intC_len]; omega) fun v hv hb => h v ?_ hb
  have e3 : ((intC l).drop (m[p].at_ + 1)).take (m[p].at_ + 1 + m[p].fs.length - (m[p].at_ + 1)) = intC (fsA m p) := by
    rw [show m[p].at_ + 1 + m[p].fs.length - (m[p].at_ + 1) = m[p].fs.length by omega]
    have := hOb.fs
    rw [Nat.sub_zero] at this
    rw [fsA_get hp, ← this]
    simp [intC, List.map_take, List.map_drop]
  rw [e3] at hv
  exact hv
theorem at_mem {l : List Int} {m : List Ob} (hS : Spl 0 l m) {o : List Nat} (hP : Pls m o) {q : Nat} (hq : q < m.length) : ((m[q].at_ : Int) ∈ ordL m o) ↔ q ∈ o := by
  unfold ordL
  rw [List.mem_map]
  constructor
  · rintro ⟨p, hp, e⟩
    have : atA m p = atA m q := by rw [atA_get hq]; omega
    have := at_inj hS (hP.2 p hp) hq this
    exact this ▸ hp
  · intro h
    exact ⟨q, h, by rw [atA_get hq]⟩
theorem reached_loop {W0 : World} {lv : Value} {l roots : List Int} {m : List Ob} (hO : Opn l m roots) (hl : RdS W0 lv 1 (intC l)) (hr : Rng l) (hrr : Rng roots) (hrl : roots.length ≤ 8796093022207)
    (h : ∀ ov w', Fr [] W0 w' → NewS W0 ov → OwnS w' ov 3 1 (intC (ordL m (slO m roots))) → K ov w') :
    ∀ (d i : Nat) (w : World) (ov wv : Value) (o : List Nat) (W : List Int), roots.length + l.length ≤ i + d → RQ m roots W o i → i ≤ W.length → Fr [] W0 w → NewS W0 ov → OwnS w ov 3 1 (intC (ordL m o)) → NewS W0 wv → OwnS w wv 2 1 (intC W) →
      F49.l4 K lv ov wv (.int .i64 (i : Int)) w := by
  have hS := hO.spl
  have hlen := hO.few
  have hml := hS.len
  have wlen : ∀ {W : List Int} {o : List Nat} {i : Nat}, RQ m roots W o i → W.length ≤ roots.length + l.length := fun {W o i} hQ => by
    have := hQ.pls.sz hS
    have := fs_len (m := m) o
    have := congrArg List.length hQ.ws
    rw [List.length_append] at this
    omega
  have wfine : ∀ {W : List Int} {o : List Nat} {i : Nat}, RQ m roots W o i → fineL m W ∧ Rng W := fun {W o i} hQ => by
    have e := hQ.ws
    subst e
    refine ⟨fun x hx => ?_, fun x hx => ?_⟩
    · rcases List.mem_append.1 hx with c | c
      · exact hO.fr x c
      · obtain ⟨p, hp, hx⟩ := List.mem_flatMap.1 c
        have pm := hQ.pls.2 p hp
        rw [fsA_get pm] at hx
        exact hO.fine _ (List.getElem_mem pm) x hx
    · rcases List.mem_append.1 hx with c | c
      · exact hrr x c
      · obtain ⟨p, hp, hx⟩ := List.mem_flatMap.1 c
        have pm := hQ.pls.2 p hp
        rw [fsA_get pm] at hx
        exact hr.fs hS pm x hx
  have fin : ∀ (i : Nat) (w : World) (ov wv : Value) (o : List Nat) (W : List Int), RQ m roots W o i → W.length = i → Fr [] W0 w → NewS W0 ov → OwnS w ov 3 1 (intC (ordL m o)) → OwnS w wv 2 1 (intC W) → F49.l4 K lv ov wv (.int .i64 (i : Int)) w := by
    intro i w ov wv o W hQ hi hf hn ho hw
    refine F49.l4.to (C.len_rd hw.rd ?_)
    rw [intC_len]
    simp only [C.ite_true, C.ite_false, C.pick_true, C.pick_false, C.not_bool, C.field_ptr, C.nilCheck_ptr, C.add_mk, C.sub_mk, C.mul_mk, C.eql_mk, C.neq_mk, C.lss_mk, C.leq_mk, C.gtr_mk, C.geq_mk, C.conv_mk, C.len_mk, C.ext_0, C.ext_1, C.ext3_0, C.ext3_1, C.ext3_2, C.guarded_yes, C.guarded_tf, C.guarded_ft, C.guarded_undef, Bool.not_true, Bool.not_false, Nat.zero_add, eq_self, decide_true, decide_false, show ¬ ((i : Int) < (W.length : Int)) by omega]
    refine F49.k10.to (SortI_c ho (by rw [ordL_len]; have := hQ.pls.len; omega) fun w1 hf1 ho1 => ?_)
    rw [hQ.fin hS (by omega)] at ho1
    exact h ov w1 (hf.then hf1 fun z hz => .inr (hn.blk z hz)) hn ho1
  intro d
  induction d with
  | zero => exact fun i w ov wv o W hd hQ hi hf hn ho hnw hw => fin i w ov wv o W hQ (by have := wlen hQ; omega) hf hn ho hw
  | succ d ih =>
    intro i w ov wv o W hd hQ hi hf hn ho hnw hw
    by_cases hend : W.length = i
    · exact fin i w ov wv o W hQ hend hf hn ho hw
    have il : i < W.length := by omega
    obtain ⟨hfW, hrW⟩ := wfine hQ
    have hwl := wlen hQ
    have hin := List.getElem_mem il
    refine F49.l4.to (C.len_rd hw.rd ?_)
    rw [intC_len]
    simp only [C.ite_true, C.ite_false, C.pick_true, C.pick_false, C.not_bool, C.field_ptr, C.nilCheck_ptr, C.add_mk, C.sub_mk, C.mul_mk, C.eql_mk, C.neq_mk, C.lss_mk, C.leq_mk, C.gtr_mk, C.geq_mk, C.conv_mk, C.len_mk, C.ext_0, C.ext_1, C.ext3_0, C.ext3_1, C.ext3_2, C.guarded_yes, C.guarded_tf, C.guarded_ft, C.guarded_undef, Bool.not_true, Bool.not_false, Nat.zero_add, eq_self, decide_true, decide_false, show ((i : Int) < (W.length : Int)) by omega]
    have nx : ∀ ov' wv' o' W' w', RQ m roots W' o' (i + 1) → i + 1 ≤ W'.length → Fr [] W0 w' → NewS W0 ov' → OwnS w' ov' 3 1 (intC (ordL m o')) → NewS W0 wv' → OwnS w' wv' 2 1 (intC W') → F49.k5 K lv ov' wv' (.int .i64 (i : Int)) w' := fun ov' wv' o' W' w' q1 q2 q3 q4 q5 q6 q7 => by
      refine F49.k5.to ?_
      simp only [C.ite_true, C.ite_false, C.pick_true, C.pick_false, C.not_bool, C.field_ptr, C.nilCheck_ptr, C.add_mk, C.sub_mk, C.mul_mk, C.eql_mk, C.neq_mk, C.lss_mk, C.leq_mk, C.gtr_mk, C.geq_mk, C.conv_mk, C.len_mk, C.ext_0, C.ext_1, C.ext3_0, C.ext3_1, C.ext3_2, C.guarded_yes, C.guarded_tf, C.guarded_ft, C.guarded_undef, Bool.not_true, Bool.not_false, Nat.zero_add, eq_self, decide_true, decide_false]
      rw [wrap64_id (n := (i : Int) + 1) (by omega), show (i : Int) + 1 = ((i + 1 : Nat) : Int) by omega]
      exact ih (i + 1) w' ov' wv' o' W' (by omega) q1 q2 q3 q4 q5 q6 q7
    refine F49.k6.to (C.idx_int hw.rd il fun g oo cs e fz hg hv => C.load1_of hg hv (Address_c _ (hrW _ hin) (fun hc w1 hf1 => ?_) (fun hc w1 hf1 => ?_)))
    · have hwr : wRef W[i] = some (rdN W[i]).toNat := by unfold wRef; rw [if_pos hc]
      have hn2 := (wRef_ok hwr).2.2
      obtain ⟨q, hq, hwq⟩ := fine_pl (hfW _ hin) hwr
      obtain ⟨qm, qat, _⟩ := pl_some hq
      simp only [C.ite_true, C.ite_false, C.pick_true, C.pick_false, C.not_bool, C.field_ptr, C.nilCheck_ptr, C.add_mk, C.sub_mk, C.mul_mk, C.eql_mk, C.neq_mk, C.lss_mk, C.leq_mk, C.gtr_mk, C.geq_mk, C.conv_mk, C.len_mk, C.ext_0, C.ext_1, C.ext3_0, C.ext3_1, C.ext3_2, C.guarded_yes, C.guarded_tf, C.guarded_ft, C.guarded_undef, Bool.not_true, Bool.not_false, Nat.zero_add, eq_self, decide_true, decide_false]
      rw [hn2, ← qat]
      refine Contains_c (ho.keep hf1 (by simp)).rd ?_
      by_cases hqo : q ∈ o
      · rw [decide_eq_true ((at_mem hS hQ.pls qm).2 hqo)]
        simp only [C.ite_true, C.ite_false, C.pick_true, C.pick_false, C.not_bool, C.field_ptr, C.nilCheck_ptr, C.add_mk, C.sub_mk, C.mul_mk, C.eql_mk, C.neq_mk, C.lss_mk, C.leq_mk, C.gtr_mk, C.geq_mk, C.conv_mk, C.len_mk, C.ext_0, C.ext_1, C.ext3_0, C.ext3_1, C.ext3_2, C.guarded_yes, C.guarded_tf, C.guarded_ft, C.guarded_undef, Bool.not_true, Bool.not_false, Nat.zero_add, eq_self, decide_true, decide_false]
        exact nx ov wv o W w1 (hQ.skip il fun r hr => by rw [hwq] at hr; cases hr; exact hqo) (by omega) (hf.trans hf1) hn (ho.keep hf1 (by simp)) hnw (hw.keep hf1 (by simp))
      · rw [decide_eq_false (fun c => hqo ((at_mem hS hQ.pls qm).1 c))]
        simp only [C.ite_true, C.ite_false, C.pick_true, C.pick_false, C.not_bool, C.field_ptr, C.nilCheck_ptr, C.add_mk, C.sub_mk, C.mul_mk, C.eql_mk, C.neq_mk, C.lss_mk, C.leq_mk, C.gtr_mk, C.geq_mk, C.conv_mk, C.len_mk, C.ext_0, C.ext_1, C.ext3_0, C.ext3_1, C.ext3_2, C.guarded_yes, C.guarded_tf, C.guarded_ft, C.guarded_undef, Bool.not_true, Bool.not_false, Nat.zero_add, eq_self, decide_true, decide_false]
        have hQ' := hQ.step il hwq hqo
        have hol := hQ.pls.len
        have hOb := (hS.get q qm).1
        have hend := hOb.end_
        refine F49.k8.to (C.appI (hf.trans hf1) hn (ho.keep hf1 (by simp)) (by rw [ordL_len]; omega) fun ov' w2 hf2 hn2' ho2 hb2 _ => ?_)
        have hw2 := (hw.keep hf1 (by simp)).keep' hb2 ((hw.keep hf1 (by simp)).ne (ho.keep hf1 (by simp)) (by decide))
        simp only [C.ite_true, C.ite_false, C.pick_true, C.pick_false, C.not_bool, C.field_ptr, C.nilCheck_ptr, C.add_mk, C.sub_mk, C.mul_mk, C.eql_mk, C.neq_mk, C.lss_mk, C.leq_mk, C.gtr_mk, C.geq_mk, C.conv_mk, C.len_mk, C.ext_0, C.ext_1, C.ext3_0, C.ext3_1, C.ext3_2, C.guarded_yes, C.guarded_tf, C.guarded_ft, C.guarded_undef, Bool.not_true, Bool.not_false, Nat.zero_add, eq_self, decide_true, decide_false]
        refine long_c (hl.keep hf2) hS qm ?_
        simp only [C.ite_true, C.ite_false, C.pick_true, C.pick_false, C.not_bool, C.field_ptr, C.nilCheck_ptr, C.add_mk, C.sub_mk, C.mul_mk, C.eql_mk, C.neq_mk, C.lss_mk, C.leq_mk, C.gtr_mk, C.geq_mk, C.conv_mk, C.len_mk, C.ext_0, C.ext_1, C.ext3_0, C.ext3_1, C.ext3_2, C.guarded_yes, C.guarded_tf, C.guarded_ft, C.guarded_undef, Bool.not_true, Bool.not_false, Nat.zero_add, eq_self, decide_true, decide_false]
        have hsz : szA m q ≤ 2048 := by
          have := hQ'.pls.sz hS
          rw [szI] at this
          omega
        rw [wrap64_id (n := (m[q].at_ : Int) + 1) (by omega), wrap64_id (n := (m[q].at_ : Int) + (szA m q : Int)) (by omega)]
        refine fsrc (hl.keep hf2) hS qm fun v hv _ => ?_
        have hwl' := wlen hQ'
        rw [List.length_append] at hwl'
        refine C.appWs hf2 hnw hw2 hv (by omega) fun wv' w3 hf3 hn3 ho3 hb3 _ => ?_
        refine nx ov' wv' (o ++ [q]) (W ++ fsA m q) w3 hQ' (by simp; omega) hf3 hn2' ?_ hn3 ho3
        have eo : ordL m (o ++ [q]) = ordL m o ++ [(m[q].at_ : Int)] := by rw [ordL_app]; simp [ordL, atA_get qm]
        rw [eo]
        exact ho2.keep' hb3 (ho2.ne hw2 (by decide))
    · have hwr : wRef W[i] = none := by unfold wRef; rw [if_neg hc]
      simp only [C.ite_true, C.ite_false, C.pick_true, C.pick_false, C.not_bool, C.field_ptr, C.nilCheck_ptr, C.add_mk, C.sub_mk, C.mul_mk, C.eql_mk, C.neq_mk, C.lss_mk, C.leq_mk, C.gtr_mk, C.geq_mk, C.conv_mk, C.len_mk, C.ext_0, C.ext_1, C.ext3_0, C.ext3_1, C.ext3_2, C.guarded_yes, C.guarded_tf, C.guarded_ft, C.guarded_undef, Bool.not_true, Bool.not_false, Nat.zero_add, eq_self, decide_true, decide_false]
      exact nx ov wv o W w1 (hQ.skip il fun r hr => by rw [wPl_none hwr] at hr; cases hr) (by omega) (hf.trans hf1) hn (ho.keep hf1 (by simp)) hnw (hw.keep hf1 (by simp))
theorem reached_c {lv rv : Value} {l roots : List Int} {m : List Ob} (hO : Opn l m roots) (hl : RdS w lv 1 (intC l)) (hr : Rng l) (hrv : RdS w rv 1 (intC roots)) (hrr : Rng roots) (hrl : roots.length ≤ 8796093022207)
    (h : ∀ ov w', Fr [] w w' → NewS w ov → OwnS w' ov 3 1 (intC (ordL m (slO m roots))) → K ov w') : C.call Try.prog 49 #[lv, rv] w K := by
  refine F49.sh (CloneW_c hrv (by omega) fun wv w1 hf1 ho1 hn1 => ?_)
  refine reached_loop (W0 := w) hO hl hr hrr hrl h (roots.length + l.length) 0 w1 (.slice none 0 0) wv [] roots (by omega) ⟨by simp, by simp [vis], Pls.nil m, fun p hp => by simp at hp⟩ (by omega) hf1 (NewS.nil _) ?_ hn1 ho1
  exact OwnS.nil _ _ _
end
end Go.Proofs.YtfjilngljnlkjaaV
