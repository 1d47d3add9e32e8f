/- Each node's holder; a graph cut: what the calls come to. -/
import Derived.Test.YtfhgjncbhjjbfaaDom1
namespace Go.Proofs.YtfhgjncbhjjbfaaV
open Go Go.Proofs Go.RowKit
set_option linter.unusedVariables false
set_option linter.unusedSimpArgs false
set_option maxRecDepth 10000
def upd {α : Type} (f : Nat → α) (t : Nat) (x : α) : Nat → α := fun u => if u = t then x else f u
theorem upd_ap {α : Type} (f : Nat → α) (t : Nat) (x : α) (u : Nat) : upd f t x u = if u = t then x else f u := rfl
theorem upd_upd {α : Type} (f : Nat → α) (t : Nat) (x y : α) : upd (upd f t x) t y = upd f t y := by
  funext u
  unfold upd
  split <;> rfl
def tab {α : Type} (n : Nat) (f : Nat → α) : List α := (List.range n).map f
theorem tab_len {α : Type} (n : Nat) (f : Nat → α) : (tab n f).length = n := by simp [tab]
theorem tab_get {α : Type} {n : Nat} {f : Nat → α} {i : Nat} (h : i < (tab n f).length) : (tab n f)[i] = f i := by simp [tab]
theorem tab_set {α : Type} (n : Nat) (f : Nat → α) (j : Nat) (x : α) : (tab n f).set j x = tab n (upd f j x) := by
  refine List.ext_getElem (by simp [tab]) fun i h1 h2 => ?_
  rw [List.getElem_set, tab_get, tab_get, upd_ap]
  by_cases c : j = i
  · rw [if_pos c, if_pos c.symm]
  · rw [if_neg c, if_neg (fun e : i = j => c e.symm)]
theorem tab_congr {α : Type} {n : Nat} {f g : Nat → α} (h : ∀ i, i < n → f i = g i) : tab n f = tab n g := List.map_congr_left fun i hi => h i (List.mem_range.1 hi)
/-- Lists in lists, and one list beside them. -/
structure HS (W1 w : World) (allv out : Value) (vs : List Value) (L : List (List Int)) (O : List Int) : Prop where
  fr : Fr [] W1 w
  ha : OwnS w allv 44 1 (slC vs)
  na : NewS W1 allv
  ho : OwnS w out 3 1 (intC O)
  no : NewS W1 out
  d : ∀ g ∈ blkS allv, g ∉ blkS out
  len : vs.length = L.length
  rows : ∀ k (h : k < vs.length) (h' : k < L.length), RdS w vs[k] 1 (intC L[k]) ∧ ∀ g ∈ blkS vs[k], g ∉ blkS allv ∧ g ∉ blkS out
theorem HS.keep {W1 w w' : World} {allv out : Value} {vs : List Value} {L : List (List Int)} {O : List Int} (h : HS W1 w allv out vs L O) (hf : Fr [] w w') : HS W1 w' allv out vs L O :=
  ⟨h.fr.trans hf, h.ha.keep hf (by simp), h.na, h.ho.keep hf (by simp), h.no, h.d, h.len, fun k a b => ⟨(h.rows k a b).1.keep hf, (h.rows k a b).2⟩⟩
section
variable {K : VK} {w : World}
theorem C.idx_intS {S : World → Prop} {v : Value} {l : List Int} {i : Nat} (h : ∀ w', S w' → RdS w' v 1 (intC l)) (hS : S w) (hi : i < l.length) (hk : ∀ g o, (∀ w', S w' → ∃ cs e fz, w'.heap[g]? = some (.cells cs e fz) ∧ cs[o]? = some (.int .i64 l[i])) → K (.pointer (some ⟨g, o, none⟩)) w) :
    C.idx 1 v (.int .i64 (i : Int)) w K :=
  C.idx_rdS h hS (by omega) (by rw [Int.toNat_natCast]; exact intC_get hi) fun g o _ hs => hk g o fun w' hw => by
    obtain ⟨cs, e, fz, hg, hc⟩ := hs w' hw
    exact ⟨cs, e, fz, hg, by simpa using hc 0 (by omega)⟩
theorem C.idx_slS {S : World → Prop} {v : Value} {l : List Value} {i : Nat} (h : ∀ w', S w' → RdS w' v 1 (slC l)) (hS : S w) (hi : i < l.length) (hk : ∀ g o, (∀ w', S w' → ∃ cs e fz, w'.heap[g]? = some (.cells cs e fz) ∧ cs[o]? = some l[i]) → K (.pointer (some ⟨g, o, none⟩)) w) :
    C.idx 1 v (.int .i64 (i : Int)) w K :=
  C.idx_rdS h hS (by omega) (by rw [Int.toNat_natCast]; exact slC_get hi) fun g o _ hs => hk g o fun w' hw => by
    obtain ⟨cs, e, fz, hg, hc⟩ := hs w' hw
    exact ⟨cs, e, fz, hg, by simpa using hc 0 (by omega)⟩
theorem C.idx_sl {v : Value} {l : List Value} {i : Nat} (h : RdS w v 1 (slC l)) (hi : i < l.length) (hk : ∀ g o cs e fz, w.heap[g]? = some (.cells cs e fz) → cs[o]? = some l[i] → K (.pointer (some ⟨g, o, none⟩)) w) :
    C.idx 1 v (.int .i64 (i : Int)) w K := by
  refine C.idx_rd h (by omega) (by rw [Int.toNat_natCast]; exact slC_get hi) fun g o cs e fz hg _ hc => hk g o cs e fz hg ?_
  have := hc 0 (by omega)
  simpa using this
/-- A list put among the lists. -/
theorem HS.row {W1 : World} {allv out v : Value} {vs : List Value} {L : List (List Int)} {O l : List Int} {i : Nat} {F : World → Prop} (h : HS W1 w allv out vs L O) (hv : RdS w v 1 (intC l)) (hd : ∀ g ∈ blkS v, g ∉ blkS allv ∧ g ∉ blkS out) (hi : i < vs.length)
    (hk : ∀ w', HS W1 w' allv out (vs.set i v) (L.set i l) O → F w') : C.idx 1 allv (.int .i64 (i : Int)) w fun p w1 => C.store 1 p v w1 F := by
  have hv1 := hv.one
  refine C.storeAt_own h.ha (by omega) (by rw [slC_len]; omega) (by rw [hv1.2]; rfl) (by rw [hv1.2]; intro u hu; simp at hu; subst hu; exact hv1.1) fun w' ho hf _ => hk w' ?_
  have ho' : OwnS w' allv 44 1 (slC (vs.set i v)) := by
    rw [Int.toNat_natCast, hv1.2] at ho
    rw [← slC_set]
    exact ho
  refine ⟨h.fr.then hf fun g hg => .inr (h.na.blk g hg), ho', h.na, h.ho.keep' hf fun g hg c => h.d g c hg, h.no, h.d, by simp [h.len], fun k a b => ?_⟩
  simp only [List.length_set] at a b
  rw [List.getElem_set, List.getElem_set]
  by_cases c : i = k
  · rw [if_pos c, if_pos c]
    exact ⟨hv.keep' hf fun g hg => (hd g hg).1, hd⟩
  · rw [if_neg c, if_neg c]
    exact ⟨(h.rows k a b).1.keep' hf fun g hg => ((h.rows k a b).2 g hg).1, (h.rows k a b).2⟩
/-- The list beside them set. -/
theorem HS.put {W1 : World} {allv out : Value} {vs : List Value} {L : List (List Int)} {O : List Int} {i : Nat} {x : Int} {F : World → Prop} (h : HS W1 w allv out vs L O) (hi : i < O.length)
    (hk : ∀ w', HS W1 w' allv out vs L (O.set i x) → Fr (blkS out) w w' → F w') : C.idx 1 out (.int .i64 (i : Int)) w fun p w1 => C.store 1 p (.int .i64 x) w1 F := by
  refine C.storeAt_own h.ho (by omega) (by rw [intC_len]; omega) rfl (by intro u hu; simp [Value.cells] at hu; subst hu; rfl) fun w' ho hf _ => (fun x : _ ∧ _ => hk w' x.1 x.2) ?_
  have ho' : OwnS w' out 3 1 (intC (O.set i x)) := by
    rw [Int.toNat_natCast] at ho
    rw [← intC_set]
    exact ho
  exact ⟨⟨h.fr.then hf fun g hg => .inr (h.no.blk g hg), h.ha.keep' hf h.d, h.na, ho', h.no, h.d, h.len, fun k a b => ⟨(h.rows k a b).1.keep' hf fun g hg => ((h.rows k a b).2 g hg).2, (h.rows k a b).2⟩⟩, hf⟩
theorem holder_rows {W1 : World} {G : Gr} {b : Nat} {nv rv allv out : Value} (hG : IsG W1 nv rv G) (hb : GBlk W1 b 46 nv rv)
    (h : ∀ w vs, HS W1 w allv out vs (tab G.n fun m => natC (G.heldN m)) (tab G.n fun _ => -2) → F28.k8 K (.pointer (some ⟨b, 0, none⟩)) allv out w) :
    ∀ (d k : Nat) (vs : List Value) (w : World), G.n = k + d → HS W1 w allv out vs (tab G.n fun m => if m < k then natC (G.heldN m) else []) (tab G.n fun _ => -2) → F28.l4 K (.pointer (some ⟨b, 0, none⟩)) allv out (.int .i64 (G.n : Int)) (.int .i64 (k : Int)) w := by
  have hfew := hG.few
  intro d
  induction d with
  | zero =>
    intro k vs w hk hB
    refine F28.l4.to ?_
    simp only [C.ite_true, C.ite_false, C.pick_true, C.pick_false, C.not_bool, C.field_ptr, C.nilCheck_ptr, C.add_mk, C.sub_mk, C.mul_mk, C.eql_mk, C.neq_mk, C.lss_mk, C.leq_mk, C.gtr_mk, C.geq_mk, C.conv_mk, C.len_mk, C.ext_0, C.ext_1, C.ext3_0, C.ext3_1, C.ext3_2, C.guarded_yes, C.guarded_tf, C.guarded_ft, C.guarded_undef, Bool.not_true, Bool.not_false, Nat.zero_add, eq_self, decide_true, decide_false, show ¬ ((k : Int) < (G.n : Int)) by omega]
    refine h w vs ?_
    rw [tab_congr (g := fun m => if m < k then natC (G.heldN m) else []) fun i hi => (if_pos (by omega)).symm]
    exact hB
  | succ d ih =>
    intro k vs w hk hB
    refine F28.l4.to ?_
    simp only [C.ite_true, C.ite_false, C.pick_true, C.pick_false, C.not_bool, C.field_ptr, C.nilCheck_ptr, C.add_mk, C.sub_mk, C.mul_mk, C.eql_mk, C.neq_mk, C.lss_mk, C.leq_mk, C.gtr_mk, C.geq_mk, C.conv_mk, C.len_mk, C.ext_0, C.ext_1, C.ext3_0, C.ext3_1, C.ext3_2, C.guarded_yes, C.guarded_tf, C.guarded_ft, C.guarded_undef, Bool.not_true, Bool.not_false, Nat.zero_add, eq_self, decide_true, decide_false, show ((k : Int) < (G.n : Int)) by omega]
    refine F28.k5.to ((hb.keep hB.fr (by simp)).all (held_c (hG.keep hB.fr) fun v w1 hf1 hn1 ho1 => ?_))
    have e : G.hl (k : Int) = G.heldN k := by unfold Gr.hl; rw [if_pos (by omega), Int.toNat_natCast]
    rw [e] at ho1
    have hB1 := hB.keep hf1
    have la := hB.ha.mem_lt
    have lo := hB.ho.mem_lt
    refine hB1.row ho1.rd (fun g hg => ⟨fun c => by have := hn1.blk g hg; have := la g c; omega, fun c => by have := hn1.blk g hg; have := lo g c; omega⟩) (by rw [hB.len, tab_len]; omega) fun w2 hB2 => F28.k7.to ?_
    simp only [C.ite_true, C.ite_false, C.pick_true, C.pick_false, C.not_bool, C.field_ptr, C.nilCheck_ptr, C.add_mk, C.sub_mk, C.mul_mk, C.eql_mk, C.neq_mk, C.lss_mk, C.leq_mk, C.gtr_mk, C.geq_mk, C.conv_mk, C.len_mk, C.ext_0, C.ext_1, C.ext3_0, C.ext3_1, C.ext3_2, C.guarded_yes, C.guarded_tf, C.guarded_ft, C.guarded_undef, Bool.not_true, Bool.not_false, Nat.zero_add, eq_self, decide_true, decide_false]
    rw [wrap64_id (n := (k : Int) + 1) (by omega), show (k : Int) + 1 = ((k + 1 : Nat) : Int) by omega]
    refine ih (k + 1) (vs.set k v) w2 (by omega) ?_
    rw [tab_set] at hB2
    rw [tab_congr (g := upd (fun m => if m < k then natC (G.heldN m) else []) k (natC (G.heldN k))) fun i hi => ?_]
    · exact hB2
    · rw [upd_ap]
      by_cases c : i = k
      · rw [if_pos c, if_pos (by omega), c]
      · rw [if_neg c]
        by_cases c' : i < k
        · rw [if_pos c', if_pos (by omega)]
        · rw [if_neg c', if_neg (by omega)]
theorem holder_best {W1 : World} {G : Gr} {allv out nl : Value} {vs : List Value} {f : Nat → Int} {j : Nat} {y35 : Value} (hfew : G.n ≤ 1000) (hj : j < G.n) (hnd : ∀ g ∈ blkS nl, g ∉ blkS out)
    (h : ∀ w, RdS w nl 1 (intC (natC G.nodes)) → HS W1 w allv out vs (tab G.n fun m => natC (G.heldN m)) (tab G.n (upd f j (G.best j G.n))) → F28.k19 K allv out nl (.int .i64 (G.nodes.length : Int)) y35 w) :
    ∀ (d i : Nat) (w : World), G.n = i + d → RdS w nl 1 (intC (natC G.nodes)) → HS W1 w allv out vs (tab G.n fun m => natC (G.heldN m)) (tab G.n (upd f j (G.best j i))) → F28.l13 K allv out (.int .i64 (j : Int)) nl (.int .i64 (G.nodes.length : Int)) y35 (.int .i64 (G.n : Int)) (.int .i64 (i : Int)) w := by
  intro d
  induction d with
  | zero =>
    intro i w hi hnl hB
    refine F28.l13.to ?_
    simp only [C.ite_true, C.ite_false, C.pick_true, C.pick_false, C.not_bool, C.field_ptr, C.nilCheck_ptr, C.add_mk, C.sub_mk, C.mul_mk, C.eql_mk, C.neq_mk, C.lss_mk, C.leq_mk, C.gtr_mk, C.geq_mk, C.conv_mk, C.len_mk, C.ext_0, C.ext_1, C.ext3_0, C.ext3_1, C.ext3_2, C.guarded_yes, C.guarded_tf, C.guarded_ft, C.guarded_undef, Bool.not_true, Bool.not_false, Nat.zero_add, eq_self, decide_true, decide_false, show ¬ ((i : Int) < (G.n : Int)) by omega]
    obtain rfl : i = G.n := by omega
    exact h w hnl hB
  | succ d ih =>
    intro i w hi hnl hB
    have hin : i < G.n := by omega
    refine F28.l13.to ?_
    simp only [C.ite_true, C.ite_false, C.pick_true, C.pick_false, C.not_bool, C.field_ptr, C.nilCheck_ptr, C.add_mk, C.sub_mk, C.mul_mk, C.eql_mk, C.neq_mk, C.lss_mk, C.leq_mk, C.gtr_mk, C.geq_mk, C.conv_mk, C.len_mk, C.ext_0, C.ext_1, C.ext3_0, C.ext3_1, C.ext3_2, C.guarded_yes, C.guarded_tf, C.guarded_ft, C.guarded_undef, Bool.not_true, Bool.not_false, Nat.zero_add, eq_self, decide_true, decide_false, show ((i : Int) < (G.n : Int)) by omega]
    have nx : ∀ w', RdS w' nl 1 (intC (natC G.nodes)) → HS W1 w' allv out vs (tab G.n fun m => natC (G.heldN m)) (tab G.n (upd f j (G.best j (i + 1)))) → F28.k18 K allv out (.int .i64 (j : Int)) nl (.int .i64 (G.nodes.length : Int)) y35 (.int .i64 (G.n : Int)) (.int .i64 (i : Int)) w' := by
      intro w' a0 a
      refine F28.k18.to ?_
      simp only [C.ite_true, C.ite_false, C.pick_true, C.pick_false, C.not_bool, C.field_ptr, C.nilCheck_ptr, C.add_mk, C.sub_mk, C.mul_mk, C.eql_mk, C.neq_mk, C.lss_mk, C.leq_mk, C.gtr_mk, C.geq_mk, C.conv_mk, C.len_mk, C.ext_0, C.ext_1, C.ext3_0, C.ext3_1, C.ext3_2, C.guarded_yes, C.guarded_tf, C.guarded_ft, C.guarded_undef, Bool.not_true, Bool.not_false, Nat.zero_add, eq_self, decide_true, decide_false]
      rw [wrap64_id (n := (i : Int) + 1) (by omega), show (i : Int) + 1 = ((i + 1 : Nat) : Int) by omega]
      exact ih (i + 1) w' (by omega) a0 a
    have skip : ∀ w', RdS w' nl 1 (intC (natC G.nodes)) → HS W1 w' allv out vs (tab G.n fun m => natC (G.heldN m)) (tab G.n (upd f j (G.best j i))) → ¬ (i ≠ j ∧ G.hold i j = true ∧ (G.best j i = -1 ∨ (G.heldN i).length < (G.heldN (G.best j i).toNat).length)) → F28.k18 K allv out (.int .i64 (j : Int)) nl (.int .i64 (G.nodes.length : Int)) y35 (.int .i64 (G.n : Int)) (.int .i64 (i : Int)) w' := by
      intro w' a0 a c
      refine nx w' a0 ?_
      simp only [Gr.best]
      rw [if_neg c]
      exact a
    have vl : vs.length = G.n := by rw [hB.len, tab_len]
    have ol : (tab G.n (upd f j (G.best j i))).length = G.n := tab_len _ _
    have og : ∀ h : j < (tab G.n (upd f j (G.best j i))).length, (tab G.n (upd f j (G.best j i)))[j] = G.best j i := fun h => by rw [tab_get]; exact if_pos rfl
    refine F28.k14.to (C.draw_of (fun w' => HS W1 w' allv out vs (tab G.n fun m => natC (G.heldN m)) (tab G.n (upd f j (G.best j i)))) fun w1 hf1 he1 => ⟨hB.keep hf1, ?_⟩)
    have hB1 := hB.keep hf1
    have rows : ∀ w', HS W1 w' allv out vs (tab G.n fun m => natC (G.heldN m)) (tab G.n (upd f j (G.best j i))) → ∀ m (hm : m < vs.length), RdS w' vs[m] 1 (intC (natC (G.heldN m))) := fun w' a m hm => by
      have := (a.rows m hm (by rw [tab_len]; omega)).1
      rw [tab_get] at this
      exact this
    refine C.idx_intS (S := fun w' => HS W1 w' allv out vs (tab G.n fun m => natC (G.heldN m)) (tab G.n (upd f j (G.best j i)))) (fun w' hw => hw.ho.rd) hB1 (by rw [ol]; exact hj) fun g o hs => C.load1S_of (v := .int .i64 (G.best j i)) (fun w' hw => by obtain ⟨cs, e, fz, x, y⟩ := hs w' hw; exact ⟨cs, e, fz, x, by rw [y, og]⟩) ?_
    -- what comes when it is told whether it is nearer
    have rest : ∀ (nearer : Bool), (nearer = true ↔ (G.best j i = -1 ∨ (G.heldN i).length < (G.heldN (G.best j i).toNat).length)) → 
        C.int .neq (.int .i64 (i : Int)) (.int .i64 (j : Int)) w1 fun x71 w21 =>
        C.guarded true x71 (fun K => K allv w21) w21 fun x73 w22 => C.guarded true x71 (fun K => K (.int .i64 (i : Int)) w22) w22 fun x74 w23 => C.guarded true x71 (fun K => C.idx 1 x73 x74 w23 K) w23 fun x75 w24 => C.guarded true x71 (fun K => C.load1 x75 w24 K) w24 fun x76 w25 =>
        C.guarded true x71 (fun K => K (.int .i64 (j : Int)) w25) w25 fun x77 w26 => C.guarded true x71 (fun K => C.call Try.prog 63 #[x76, x77] w26 K) w26 fun x78 w27 => C.pick (some x71) (some x78) (some (.bool false)) w27 fun x79 w28 =>
        C.guarded true x79 (fun K => K (.bool nearer) w28) w28 fun x81 w29 => C.pick (some x79) (some x81) (some (.bool false)) w29 fun x82 w30 =>
        C.ite x82 (C.idx 1 out (.int .i64 (j : Int)) w30 fun x86 w31 => C.store 1 x86 (.int .i64 (i : Int)) w31 fun w32 => F28.k18 K allv out (.int .i64 (j : Int)) nl (.int .i64 (G.nodes.length : Int)) y35 (.int .i64 (G.n : Int)) (.int .i64 (i : Int)) w32) (F28.k18 K allv out (.int .i64 (j : Int)) nl (.int .i64 (G.nodes.length : Int)) y35 (.int .i64 (G.n : Int)) (.int .i64 (i : Int)) w30) := by
      intro nearer hn
      by_cases hij : i = j
      · have e : ¬ ((i : Int) ≠ (j : Int)) := by omega
        rw [C.neq_mk, decide_eq_false e]
        simp only [C.ite_true, C.ite_false, C.pick_true, C.pick_false, C.not_bool, C.field_ptr, C.nilCheck_ptr, C.add_mk, C.sub_mk, C.mul_mk, C.eql_mk, C.neq_mk, C.lss_mk, C.leq_mk, C.gtr_mk, C.geq_mk, C.conv_mk, C.len_mk, C.ext_0, C.ext_1, C.ext3_0, C.ext3_1, C.ext3_2, C.guarded_yes, C.guarded_tf, C.guarded_ft, C.guarded_undef, Bool.not_true, Bool.not_false, Nat.zero_add, eq_self, decide_true, decide_false]
        exact skip w1 (hnl.keep hf1) hB1 fun c => c.1 hij
      · have e : ((i : Int) ≠ (j : Int)) := by omega
        rw [C.neq_mk, decide_eq_true e]
        simp only [C.ite_true, C.ite_false, C.pick_true, C.pick_false, C.not_bool, C.field_ptr, C.nilCheck_ptr, C.add_mk, C.sub_mk, C.mul_mk, C.eql_mk, C.neq_mk, C.lss_mk, C.leq_mk, C.gtr_mk, C.geq_mk, C.conv_mk, C.len_mk, C.ext_0, C.ext_1, C.ext3_0, C.ext3_1, C.ext3_2, C.guarded_yes, C.guarded_tf, C.guarded_ft, C.guarded_undef, Bool.not_true, Bool.not_false, Nat.zero_add, eq_self, decide_true, decide_false]
        refine C.idx_sl hB1.ha.rd (by omega) fun g o cs e fz hg hc => C.load1_of hg hc (Contains_c (rows w1 hB1 i (by omega)) ?_)
        have hc2 : decide ((j : Int) ∈ natC (G.heldN i)) = G.hold i j := dec_bool (by
          rw [natC_mem]
          constructor
          · rintro ⟨r, hr, e⟩
            obtain rfl : j = r := by omega
            exact heldN_mem.1 hr
          · intro h; exact ⟨j, heldN_mem.2 h, rfl⟩)
        rw [hc2]
        cases hh : G.hold i j with
        | false =>
          simp only [C.ite_true, C.ite_false, C.pick_true, C.pick_false, C.not_bool, C.field_ptr, C.nilCheck_ptr, C.add_mk, C.sub_mk, C.mul_mk, C.eql_mk, C.neq_mk, C.lss_mk, C.leq_mk, C.gtr_mk, C.geq_mk, C.conv_mk, C.len_mk, C.ext_0, C.ext_1, C.ext3_0, C.ext3_1, C.ext3_2, C.guarded_yes, C.guarded_tf, C.guarded_ft, C.guarded_undef, Bool.not_true, Bool.not_false, Nat.zero_add, eq_self, decide_true, decide_false]
          exact skip w1 (hnl.keep hf1) hB1 fun c => by rw [hh] at c; simp at c
        | true =>
          cases nearer with
          | false =>
            simp only [C.ite_true, C.ite_false, C.pick_true, C.pick_false, C.not_bool, C.field_ptr, C.nilCheck_ptr, C.add_mk, C.sub_mk, C.mul_mk, C.eql_mk, C.neq_mk, C.lss_mk, C.leq_mk, C.gtr_mk, C.geq_mk, C.conv_mk, C.len_mk, C.ext_0, C.ext_1, C.ext3_0, C.ext3_1, C.ext3_2, C.guarded_yes, C.guarded_tf, C.guarded_ft, C.guarded_undef, Bool.not_true, Bool.not_false, Nat.zero_add, eq_self, decide_true, decide_false]
            exact skip w1 (hnl.keep hf1) hB1 fun c => by have := hn.2 c.2.2; cases this
          | true =>
            simp only [C.ite_true, C.ite_false, C.pick_true, C.pick_false, C.not_bool, C.field_ptr, C.nilCheck_ptr, C.add_mk, C.sub_mk, C.mul_mk, C.eql_mk, C.neq_mk, C.lss_mk, C.leq_mk, C.gtr_mk, C.geq_mk, C.conv_mk, C.len_mk, C.ext_0, C.ext_1, C.ext3_0, C.ext3_1, C.ext3_2, C.guarded_yes, C.guarded_tf, C.guarded_ft, C.guarded_undef, Bool.not_true, Bool.not_false, Nat.zero_add, eq_self, decide_true, decide_false]
            refine hB1.put (by rw [ol]; exact hj) fun w2 hB2 hf2 => nx w2 ((hnl.keep hf1).keep' hf2 hnd) ?_
            rw [tab_set, upd_upd] at hB2
            simp only [Gr.best]
            rw [if_pos ⟨hij, hh, hn.1 rfl⟩]
            exact hB2
    by_cases hbm : G.best j i = -1
    · simp only [hbm] at rest ⊢
      rw [C.eql_mk, decide_eq_true rfl]
      simp only [C.guarded_ft, C.guarded_undef, C.pick_true]
      exact rest true (by simp)
    · have hb0 : 0 ≤ G.best j i ∧ G.best j i < i := by
        rcases best_ok (G := G) j i with ⟨e, _⟩ | ⟨e1, e2, _⟩
        · exact absurd e hbm
        · exact ⟨e1, e2⟩
      obtain ⟨m, hm⟩ : ∃ m : Nat, G.best j i = (m : Int) := ⟨(G.best j i).toNat, by omega⟩
      rw [C.eql_mk, decide_eq_false hbm]
      simp only [C.guarded_yes, C.pick_false]
      refine C.idx_slS (S := fun w' => HS W1 w' allv out vs (tab G.n fun m => natC (G.heldN m)) (tab G.n (upd f j (G.best j i)))) (fun w' hw => hw.ha.rd) hB1 (by omega) fun g1 o1 hs1 => ?_
      refine C.idx_intS (S := fun w' => HS W1 w' allv out vs (tab G.n fun m => natC (G.heldN m)) (tab G.n (upd f j (G.best j i)))) (fun w' hw => hw.ho.rd) hB1 (by rw [ol]; exact hj) fun g2 o2 hs2 => C.load1S_of hs1 (C.len_rd (rows w1 hB1 i (by omega)) ?_)
      refine C.load1S_of (v := .int .i64 (m : Int)) (fun w' hw => by obtain ⟨cs, e, fz, x, y⟩ := hs2 w' hw; exact ⟨cs, e, fz, x, by rw [y, og, hm]⟩) ⟨_, fun w' _ => max2_runb _ _ _ _ _ _, ?_⟩
      rw [show max (m : Int) 0 = (m : Int) by omega]
      refine C.idx_slS (S := fun w' => HS W1 w' allv out vs (tab G.n fun m => natC (G.heldN m)) (tab G.n (upd f j (G.best j i)))) (fun w' hw => hw.ha.rd) hB1 (show m < vs.length by omega) fun g3 o3 hs3 => C.load1S_of hs3 (C.len_rd (rows w1 hB1 m (by omega)) ?_)
      rw [intC_len, intC_len, natC_len, natC_len, C.lss_mk]
      refine rest _ ?_
      rw [decide_eq_true_eq, hm, Int.toNat_natCast]
      omega
theorem nodes_lt {G : Gr} {j : Nat} (h : j ∈ G.nodes) : j < G.n ∧ G.rch j = true := by
  unfold Gr.nodes at h
  rw [List.mem_filter, List.mem_range] at h
  exact h
theorem holder_nodes {W1 : World} {G : Gr} {allv out nl : Value} {vs : List Value} (hfew : G.n ≤ 1000) (hnd : ∀ g ∈ blkS nl, g ∉ blkS out)
    (h : ∀ w, Fr [] W1 w → NewS W1 out → OwnS w out 3 1 (intC G.holderL) → K out w) :
    ∀ (d p : Nat) (w : World), G.nodes.length = p + d → RdS w nl 1 (intC (natC G.nodes)) → HS W1 w allv out vs (tab G.n fun m => natC (G.heldN m)) (tab G.n fun j => if j ∈ G.nodes.take p then G.best j G.n else -2) →
      F28.l9 K allv out nl (.int .i64 (G.nodes.length : Int)) (.int .i64 (p : Int)) w := by
  have hnl : G.nodes.length ≤ G.n := Nat.le_trans (List.length_filter_le _ _) (by simp)
  intro d
  induction d with
  | zero =>
    intro p w hp hr hB
    refine F28.l9.to ?_
    simp only [C.ite_true, C.ite_false, C.pick_true, C.pick_false, C.not_bool, C.field_ptr, C.nilCheck_ptr, C.add_mk, C.sub_mk, C.mul_mk, C.eql_mk, C.neq_mk, C.lss_mk, C.leq_mk, C.gtr_mk, C.geq_mk, C.conv_mk, C.len_mk, C.ext_0, C.ext_1, C.ext3_0, C.ext3_1, C.ext3_2, C.guarded_yes, C.guarded_tf, C.guarded_ft, C.guarded_undef, Bool.not_true, Bool.not_false, Nat.zero_add, eq_self, decide_true, decide_false, show ¬ ((p : Int) < (G.nodes.length : Int)) by omega]
    refine F28.k20.to (h w hB.fr hB.no ?_)
    have := hB.ho
    rw [List.take_of_length_le (by omega)] at this
    have e : G.holderL = tab G.n fun j => if j ∈ G.nodes then G.best j G.n else -2 := by
      refine tab_congr fun i hi => ?_
      by_cases c : G.rch i = true
      · rw [if_pos c, if_pos (show i ∈ G.nodes from List.mem_filter.2 ⟨List.mem_range.2 hi, c⟩)]
      · rw [if_neg c, if_neg (fun e => c (nodes_lt e).2)]
    rw [e]
    exact this
  | succ d ih =>
    intro p w hp hr hB
    have hpl : p < G.nodes.length := by omega
    refine F28.l9.to ?_
    simp only [C.ite_true, C.ite_false, C.pick_true, C.pick_false, C.not_bool, C.field_ptr, C.nilCheck_ptr, C.add_mk, C.sub_mk, C.mul_mk, C.eql_mk, C.neq_mk, C.lss_mk, C.leq_mk, C.gtr_mk, C.geq_mk, C.conv_mk, C.len_mk, C.ext_0, C.ext_1, C.ext3_0, C.ext3_1, C.ext3_2, C.guarded_yes, C.guarded_tf, C.guarded_ft, C.guarded_undef, Bool.not_true, Bool.not_false, Nat.zero_add, eq_self, decide_true, decide_false, show ((p : Int) < (G.nodes.length : Int)) by omega]
    have hjn := (nodes_lt (List.getElem_mem hpl)).1
    refine F28.k10.to (C.idx_int hr (by rw [natC_len]; exact hpl) fun g o cs e fz hg hc => C.load1_of hg (by rw [hc, natC_get]) ?_)
    refine hB.put (x := -1) (by rw [tab_len]; exact hjn) fun w1 hB1 hf1 => C.len_rd hB1.ha.rd ?_
    rw [slC_len, hB1.len, tab_len]
    rw [tab_set] at hB1
    refine holder_best hfew hjn hnd (fun w2 hr2 hB2 => F28.k19.to ?_) G.n 0 w1 (by omega) (hr.keep' hf1 hnd) hB1
    simp only [C.ite_true, C.ite_false, C.pick_true, C.pick_false, C.not_bool, C.field_ptr, C.nilCheck_ptr, C.add_mk, C.sub_mk, C.mul_mk, C.eql_mk, C.neq_mk, C.lss_mk, C.leq_mk, C.gtr_mk, C.geq_mk, C.conv_mk, C.len_mk, C.ext_0, C.ext_1, C.ext3_0, C.ext3_1, C.ext3_2, C.guarded_yes, C.guarded_tf, C.guarded_ft, C.guarded_undef, Bool.not_true, Bool.not_false, Nat.zero_add, eq_self, decide_true, decide_false]
    rw [wrap64_id (n := (p : Int) + 1) (by omega), show (p : Int) + 1 = ((p + 1 : Nat) : Int) by omega]
    refine ih (p + 1) w2 (by omega) hr2 ?_
    rw [tab_congr (g := upd (fun j => if j ∈ G.nodes.take p then G.best j G.n else -2) G.nodes[p] (G.best G.nodes[p] G.n)) fun i hi => ?_]
    · exact hB2
    · rw [upd_ap, List.take_succ_eq_append_getElem hpl]
      by_cases c : i = G.nodes[p]
      · rw [if_pos c, if_pos (by rw [c]; exact List.mem_append_right _ (List.mem_singleton.2 rfl)), ← c]
      · rw [if_neg c]
        simp only [List.mem_append, List.mem_singleton, c, or_false]
theorem Holder_c {nv rv : Value} {G : Gr} (hG : IsG w nv rv G) (h : ∀ v w', Fr [] w w' → NewS w v → OwnS w' v 3 1 (intC G.holderL) → K v w') : C.call Try.prog 28 #[.agg #[nv, rv]] w K := by
  have hfew := hG.few
  refine F28.sh (GBlk.new hG fun b w1 hf1 hb1 hb hG1 => hb.next (hG1.len_next ?_))
  refine C.make_of (e := 44) (sz := 1) (bytes := 24) (z := .slice none 0 0) G.n Try.underlying43 (by kernel_rfl) rfl (by decide) (by intro u hu; simp [Value.cells] at hu; subst hu; rfl) (by omega) (by omega) fun ga w2 hw2 ha2 => C.run_of (bsI (-2)) ?_
  have hw3 := New.mk' w2 (.cells #[.int .i64 (-2)] 3)
  have f13 := hw2.fr.trans hw3.fr
  refine GBlk.next (hb.keep f13 (by simp)) ((hG1.keep f13).len_next (RepInt_c (n := G.n) (x := .int .i64 (-2)) (RdS.of_block hw3.at_ rfl (by simp) (by simp) (by simp) (by simp)) rfl (by omega) fun ov w4 hf4 ho4 hn4 => ?_))
  have f14 := f13.trans hf4
  refine GBlk.next (hb.keep f14 (by simp)) ((hG1.keep f14).len_next ?_)
  have e2 := hw2.is
  have e2' := hw2.sz
  have e3 := hw3.fr.size
  have bl : ∀ g ∈ blkS (.slice (some ⟨ga, 0, none⟩) G.n G.n), g = ga := fun g hg => by
    rw [mem_blkS] at hg
    simp only [Value.ownBlock, Option.some.injEq] at hg
    exact hg.symm
  have hB : HS w1 w4 (.slice (some ⟨ga, 0, none⟩) G.n G.n) ov (List.replicate G.n (.slice none 0 0)) (tab G.n fun m => if m < 0 then natC (G.heldN m) else []) (tab G.n fun _ => -2) := by
    refine ⟨f14, ?_, fun g hg => ?_, ?_, hn4.mono f13.size, fun g hg c => ?_, by rw [tab_len]; simp, fun k a b => ?_⟩
    · have e : slC (List.replicate G.n (.slice none 0 0)) = List.replicate G.n [.slice none 0 0] := by simp [slC]
      rw [e]
      exact (ha2.keep hw3.fr (by simp)).keep hf4 (by simp)
    · have := bl g (mem_blkS.2 hg); omega
    · have e : (tab G.n fun _ => (-2 : Int)) = List.replicate G.n (-2) := by simp [tab, List.map_const']
      rw [e, ← intC_rep]
      exact ho4
    · have := bl g hg; have := hn4.blk g c; omega
    · rw [tab_get]
      simp only [List.getElem_replicate, Nat.not_lt_zero, if_false]
      exact ⟨(OwnS.nil w4 3 1).rd, fun g hg => by simp [blkS, Value.ownBlock] at hg⟩
  refine holder_rows hG1 hb (fun w5 vs hB5 => F28.k8.to ((hb.keep hB5.fr (by simp)).all (Nodes_c (hG1.keep hB5.fr) fun nl w6 hf6 hn6 ho6 => C.len_rd ho6.rd ?_))) G.n 0 _ w4 (by omega) hB
  rw [intC_len, natC_len]
  have lo := hB5.ho.mem_lt
  refine holder_nodes (vs := vs) hfew (fun g hg c => by have := hn6.blk g hg; have := lo g c; omega) (fun w7 hf7 hn7 ho7 => h ov w7 (hf1.trans hf7) (hn7.mono hf1.size) ho7) G.nodes.length 0 w6 (by omega) ho6.rd ?_
  have := hB5.keep hf6
  rw [tab_congr (g := fun _ => (-2 : Int)) fun i hi => by simp]
  exact this
end
end Go.Proofs.YtfhgjncbhjjbfaaV
