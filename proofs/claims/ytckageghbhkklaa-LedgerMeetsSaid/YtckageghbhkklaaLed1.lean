/- Lists of letters, and a ledger's books: what is in memory. -/
import Derived.Test.YtckageghbhkklaaGLedger
import Derived.Test.YtckageghbhkklaaLibRepBool
import Derived.Test.YtckageghbhkklaaBank1
namespace Go.Proofs.YtckageghbhkklaaV
open Go Go.Proofs Go.RowKit
set_option linter.unusedVariables false
set_option linter.unusedSimpArgs false
def boolC (l : List Bool) : List (List Value) := l.map fun b => [.bool b]
theorem boolC_len (l : List Bool) : (boolC l).length = l.length := by simp [boolC]
theorem boolC_get {l : List Bool} {j : Nat} (h : j < l.length) : (boolC l)[j]? = some [.bool l[j]] := by simp [boolC, h]
theorem boolC_app (l k : List Bool) : boolC (l ++ k) = boolC l ++ boolC k := by simp [boolC]
theorem boolC_rep (n : Nat) (b : Bool) : boolC (List.replicate n b) = List.replicate n [.bool b] := by simp [boolC]
theorem boolC_drop (l : List Bool) (n : Nat) : boolC (l.drop n) = (boolC l).drop n := by simp [boolC, List.map_drop]
theorem boolC_take (l : List Bool) (n : Nat) : boolC (l.take n) = (boolC l).take n := by simp [boolC, List.map_take]
theorem boolC_one {l : List Bool} : ∀ y ∈ boolC l, ∀ u ∈ y, u.oneCell' = true := by
  intro y hy u hu
  simp only [boolC, List.mem_map] at hy
  obtain ⟨x, _, rfl⟩ := hy
  simp only [List.mem_cons, List.not_mem_nil, or_false] at hu
  subst hu
  rfl
theorem RdS.keep' {S : List Nat} {w w' : World} {v : Value} {sz : Nat} {xs : List (List Value)} (h : RdS w v sz xs) (hf : Fr S w w') (hS : ∀ g ∈ blkS v, g ∉ S) : RdS w' v sz xs := by
  obtain ⟨A, c, rfl, h1, h2, h3⟩ := h
  refine ⟨A, c, rfl, h1, h2, fun hx => ?_⟩
  obtain ⟨g, o, cs, e, fz, rfl, hg, hc⟩ := h3 hx
  exact ⟨g, o, cs, e, fz, rfl, hf.at_ hg (hS g (mem_blkS.2 rfl)), hc⟩
def upd {α : Type} (f : Nat → α) (t : Nat) (x : α) : Nat → α := fun u => if u = t then x else f u
theorem upd_same {α : Type} (f : Nat → α) (t : Nat) (x : α) : upd f t x t = x := if_pos rfl
theorem upd_ne {α : Type} (f : Nat → α) {t u : Nat} (x : α) (h : u ≠ t) : upd f t x u = f u := if_neg h
/-- The books' cells. -/
def Bcs (T : Nat) (S : Nat → Value) (cs : Array Value) : Prop := cs.size = T * 3 ∧ ∀ t, t < T → cs[t * 3]? = some (S t) ∧ (∃ a, cs[t * 3 + 1]? = some (.int .i64 a)) ∧ ∃ b, cs[t * 3 + 2]? = some (.int .i64 b)
theorem Bcs.set0 {T : Nat} {S : Nat → Value} {cs : Array Value} (h : Bcs T S cs) {t : Nat} (ht : t < T) (x : Value) : Bcs T (upd S t x) (cs.setIfInBounds (t * 3) x) := by
  refine ⟨by simpa using h.1, fun u hu => ?_⟩
  obtain ⟨h1, ⟨a, h2⟩, ⟨b, h3⟩⟩ := h.2 u hu
  have := h.1
  refine ⟨?_, ⟨a, ?_⟩, ⟨b, ?_⟩⟩
  · by_cases e : u = t
    · subst e
      rw [upd_same, Array.getElem?_setIfInBounds, if_pos rfl, if_pos (by omega)]
    · rw [upd_ne _ _ e, Array.getElem?_setIfInBounds, if_neg (by omega), h1]
  · rw [Array.getElem?_setIfInBounds, if_neg (by omega), h2]
  · rw [Array.getElem?_setIfInBounds, if_neg (by omega), h3]
theorem Bcs.set12 {T : Nat} {S : Nat → Value} {cs : Array Value} (h : Bcs T S cs) {t k : Nat} (ht : t < T) (hk : k = 1 ∨ k = 2) (n : Int) : Bcs T S (cs.setIfInBounds (t * 3 + k) (.int .i64 n)) := by
  refine ⟨by simpa using h.1, fun u hu => ?_⟩
  obtain ⟨h1, ⟨a, h2⟩, ⟨b, h3⟩⟩ := h.2 u hu
  have := h.1
  refine ⟨?_, ?_, ?_⟩
  · rw [Array.getElem?_setIfInBounds, if_neg (by omega), h1]
  · rw [Array.getElem?_setIfInBounds]
    by_cases e : t * 3 + k = u * 3 + 1
    · rw [if_pos e, if_pos (by omega)]
      exact ⟨n, rfl⟩
    · rw [if_neg e]
      exact ⟨a, h2⟩
  · rw [Array.getElem?_setIfInBounds]
    by_cases e : t * 3 + k = u * 3 + 2
    · rw [if_pos e, if_pos (by omega)]
      exact ⟨n, rfl⟩
    · rw [if_neg e]
      exact ⟨b, h3⟩
def ledB (win most : Int) (bb T : Nat) : Obj := .cells #[.int .i64 win, .int .i64 most, .slice (some ⟨bb, 0, none⟩) T T] 109 (0, 0)
/-- A ledger in memory. -/
structure Led (w : World) (g bb T : Nat) (win most : Int) (S : Nat → Value) (L : Nat → List Bool) : Prop where
  obj : w.heap[g]? = some (ledB win most bb T)
  bk : ∃ cs, w.heap[bb]? = some (.cells cs 114 (0, 0)) ∧ Bcs T S cs
  own : ∀ t, t < T → OwnS w (S t) 4 1 (boolC (L t))
  gb : g ≠ bb
  sg : ∀ t, t < T → ∀ x ∈ blkS (S t), x ≠ g ∧ x ≠ bb
  ss : ∀ t, t < T → ∀ u, u < T → t ≠ u → ∀ x ∈ blkS (S t), x ∉ blkS (S u)
theorem Led.keep {A : List Nat} {w w' : World} {g bb T : Nat} {win most : Int} {S : Nat → Value} {L : Nat → List Bool} (h : Led w g bb T win most S L) (hf : Fr A w w') (h1 : g ∉ A) (h2 : bb ∉ A) (h3 : ∀ t, t < T → ∀ x ∈ blkS (S t), x ∉ A) : Led w' g bb T win most S L := by
  obtain ⟨cs, hb, hc⟩ := h.bk
  exact ⟨hf.at_ h.obj h1, ⟨cs, hf.at_ hb h2, hc⟩, fun t ht => (h.own t ht).keep' hf (h3 t ht), h.gb, h.sg, h.ss⟩
theorem Led.keep0 {w w' : World} {g bb T : Nat} {win most : Int} {S : Nat → Value} {L : Nat → List Bool} (h : Led w g bb T win most S L) (hf : Fr [] w w') : Led w' g bb T win most S L := h.keep hf (by simp) (by simp) (by simp)
/-- One row is another one. -/
theorem Led.row {A : List Nat} {w w' : World} {g bb T t : Nat} {win most : Int} {S : Nat → Value} {L : Nat → List Bool} (h : Led w g bb T win most S L) (ht : t < T) (hf : Fr A w w') {s : Value} {l : List Bool} (hb : ∃ cs, w'.heap[bb]? = some (.cells cs 114 (0, 0)) ∧ Bcs T (upd S t s) cs)
    (ho : OwnS w' s 4 1 (boolC l)) (hs : ∀ x ∈ blkS s, x ∈ blkS (S t) ∨ w.heap.size ≤ x) (hA : ∀ x ∈ A, x = bb ∨ x ∈ blkS (S t)) : Led w' g bb T win most (upd S t s) (upd L t l) := by
  have lt : ∀ u, u < T → ∀ x ∈ blkS (S u), x < w.heap.size := fun u hu => (h.own u hu).mem_lt
  have lg := lt_of_at h.obj
  obtain ⟨cs0, hb0, _⟩ := h.bk
  have lb := lt_of_at hb0
  have hg : ∀ x ∈ blkS (S t), x ≠ g ∧ x ≠ bb := h.sg t ht
  have sx : ∀ x ∈ blkS s, x ≠ g ∧ x ≠ bb := fun x hx => by
    rcases hs x hx with h | h
    · exact hg x h
    · exact ⟨by omega, by omega⟩
  have sy : ∀ u, u < T → u ≠ t → ∀ x ∈ blkS s, x ∉ blkS (S u) := fun u hu hne x hx hy => by
    rcases hs x hx with h' | h'
    · exact h.ss t ht u hu (Ne.symm hne) x h' hy
    · have := lt u hu x hy
      omega
  refine ⟨hf.at_ h.obj fun hx => ?_, hb, fun u hu => ?_, h.gb, fun u hu => ?_, fun u hu v hv hne => ?_⟩
  · rcases hA _ hx with h' | h'
    · exact h.gb h'
    · exact (hg _ h').1 rfl
  · by_cases e : u = t
    · subst e
      rw [upd_same, upd_same]
      exact ho
    · rw [upd_ne _ _ e, upd_ne _ _ e]
      refine (h.own u hu).keep' hf fun x hx hx' => ?_
      rcases hA _ hx' with h' | h'
      · exact (h.sg u hu x hx).2 h'
      · exact h.ss u hu t ht e x hx h'
  · by_cases e : u = t
    · subst e
      rw [upd_same]
      exact sx
    · rw [upd_ne _ _ e]
      exact h.sg u hu
  · by_cases e : u = t
    · subst e
      rw [upd_same, upd_ne _ _ (Ne.symm hne)]
      exact sy v hv (Ne.symm hne)
    · rw [upd_ne _ _ e]
      by_cases e' : v = t
      · subst e'
        rw [upd_same]
        exact fun x hx hx' => sy u hu e x hx' hx
      · rw [upd_ne _ _ e']
        exact h.ss u hu v hv hne
section
variable {K : VK} {w : World}
theorem bs90 (b : Bool) : (Instr.buildSlice 90 1 #[(0, .bool b)]).run Try.prog w = .ok (.slice (some ⟨w.heap.size, 0, none⟩) 1 1) (w.alloc (.cells #[.bool b] 4)) := by kernel_rfl
theorem bs90_0 : (Instr.buildSlice 90 0 #[]).run Try.prog w = .ok (.slice (some ⟨w.heap.size, 0, none⟩) 0 0) (w.alloc (.cells #[] 4)) := by kernel_rfl
theorem CloneB_c {v : Value} {l : List Bool} (hv : RdS w v 1 (boolC l)) (hl : l.length ≤ 1000000) (h : ∀ v' w', Fr [] w w' → OwnS w' v' 4 1 (boolC l) → NewS w v' → K v' w') : C.call Try.prog 79 #[v] w K := by
  have hv' := hv
  obtain ⟨A, c, rfl, h1, h2, h3⟩ := hv
  refine F79.sh ⟨_, eq_slice_nil (e := 4) _ _ _ _ _ Try.underlying90, ?_⟩
  cases A with
  | none =>
    have : l = [] := by
      cases l with
      | nil => rfl
      | cons x l => obtain ⟨g, o, cs, e, fz, hA, _⟩ := h3 (by simp [boolC]); cases hA
    subst this
    simp only [Option.isNone_none, C.ite_true, C.ite_false, C.pick_true, C.pick_false, C.not_bool, C.field_ptr, C.nilCheck_ptr, C.add_mk, C.sub_mk, C.mul_mk, C.eql_mk, C.neq_mk, C.lss_mk, C.leq_mk, C.gtr_mk, C.geq_mk, C.conv_mk, C.len_mk, C.ext_0, C.ext_1, C.ext3_0, C.ext3_1, C.ext3_2, C.guarded_yes, C.guarded_tf, C.guarded_ft, C.guarded_undef, Bool.not_true, Bool.not_false, Nat.zero_add, eq_self, decide_true, decide_false]
    exact h _ w (Fr.refl _ _) (OwnS.nil w 4 1) (NewS.nil w)
  | some a =>
    simp only [Option.isNone_some, C.ite_true, C.ite_false, C.pick_true, C.pick_false, C.not_bool, C.field_ptr, C.nilCheck_ptr, C.add_mk, C.sub_mk, C.mul_mk, C.eql_mk, C.neq_mk, C.lss_mk, C.leq_mk, C.gtr_mk, C.geq_mk, C.conv_mk, C.len_mk, C.ext_0, C.ext_1, C.ext3_0, C.ext3_1, C.ext3_2, C.guarded_yes, C.guarded_tf, C.guarded_ft, C.guarded_undef, Bool.not_true, Bool.not_false, Nat.zero_add, eq_self, decide_true, decide_false]
    refine F79.k3.to (C.run_of bs90_0 ?_)
    have hn := New.mk' w (.cells #[] 4)
    refine C.append_of (xs := []) (e := 4) (sz := 1) (bytes := 1) (z := .bool false) Try.underlying90 (by kernel_rfl) rfl (by decide) (OwnS.of_block hn.at_ rfl (by simp) (by simp) rfl (by simp) (by simp)) (hv'.keep hn.fr) boolC_one (by rw [boolC_len]; simp; omega) (by rw [boolC_len]; simp; omega) fun v' w' ho hf hb _ => ?_
    refine h v' w' (hn.fr.then hf fun x hx => ?_) (by simpa using ho) fun g hg => ?_
    · rw [mem_blkS] at hx
      simp only [Value.ownBlock, Option.some.injEq] at hx
      exact .inr (by omega)
    · rcases hb with hb | ⟨g', hb, hle⟩
      · rw [hb] at hg
        simp only [Value.ownBlock, Option.some.injEq] at hg
        omega
      · rw [hb] at hg
        simp only [Option.some.injEq] at hg
        subst hg
        exact Nat.le_trans hn.fr.size hle
/-- A book, by its thread; or none. -/
theorem of_c {g bb T : Nat} {win most : Int} {S : Nat → Value} {L : Nat → List Bool} {t : Nat} (hL : Led w g bb T win most S L) (ht : t < T) (h : K (.pointer (some ⟨bb, t * 3, none⟩)) w) : C.call Try.prog 74 #[.pointer (some ⟨g, 0, none⟩), .int .i64 (t : Int)] w K := by
  refine F74.sh ⟨_, eq_ptr_nil _ _ _ Try.underlying83, ?_⟩
  simp only [C.ite_true, C.ite_false, C.pick_true, C.pick_false, C.not_bool, C.field_ptr, C.nilCheck_ptr, C.add_mk, C.sub_mk, C.mul_mk, C.eql_mk, C.neq_mk, C.lss_mk, C.leq_mk, C.gtr_mk, C.geq_mk, C.conv_mk, C.len_mk, C.ext_0, C.ext_1, C.ext3_0, C.ext3_1, C.ext3_2, C.guarded_yes, C.guarded_tf, C.guarded_ft, C.guarded_undef, Bool.not_true, Bool.not_false, Nat.zero_add, eq_self, decide_true, decide_false, show ¬ ((t : Int) < 0) by omega]
  refine C.load1_of (v := .slice (some ⟨bb, 0, none⟩) T T) hL.obj rfl ?_
  simp only [C.ite_true, C.ite_false, C.pick_true, C.pick_false, C.not_bool, C.field_ptr, C.nilCheck_ptr, C.add_mk, C.sub_mk, C.mul_mk, C.eql_mk, C.neq_mk, C.lss_mk, C.leq_mk, C.gtr_mk, C.geq_mk, C.conv_mk, C.len_mk, C.ext_0, C.ext_1, C.ext3_0, C.ext3_1, C.ext3_2, C.guarded_yes, C.guarded_tf, C.guarded_ft, C.guarded_undef, Bool.not_true, Bool.not_false, Nat.zero_add, eq_self, decide_true, decide_false, show ¬ ((t : Int) ≥ (T : Int)) by omega]
  refine F74.k3.to ?_
  simp only [C.ite_true, C.ite_false, C.pick_true, C.pick_false, C.not_bool, C.field_ptr, C.nilCheck_ptr, C.add_mk, C.sub_mk, C.mul_mk, C.eql_mk, C.neq_mk, C.lss_mk, C.leq_mk, C.gtr_mk, C.geq_mk, C.conv_mk, C.len_mk, C.ext_0, C.ext_1, C.ext3_0, C.ext3_1, C.ext3_2, C.guarded_yes, C.guarded_tf, C.guarded_ft, C.guarded_undef, Bool.not_true, Bool.not_false, Nat.zero_add, eq_self, decide_true, decide_false]
  refine C.load1_of (v := .slice (some ⟨bb, 0, none⟩) T T) hL.obj rfl ?_
  simp only [C.idx_mk, Int.toNat_natCast, Nat.zero_add]
  exact ⟨⟨by omega, by omega⟩, h⟩
def cnt (l : List Bool) : Nat := l.count true
def lastN (k : Nat) (l : List Bool) : List Bool := l.drop (l.length - k)
theorem cnt_step {l : List Bool} {j : Nat} (h : j < l.length) : cnt (l.take (j + 1)) = cnt (l.take j) + if l[j] = true then 1 else 0 := by
  unfold cnt
  rw [List.take_add_one, List.getElem?_eq_getElem h, List.count_append]
  simp only [Option.toList_some, List.count_singleton, beq_iff_eq]
theorem cnt_le (l : List Bool) : cnt l ≤ l.length := List.count_le_length
theorem bookcount_loop {v : Value} {l : List Bool} (hv : RdS w v 1 (boolC l)) :
    ∀ (d j : Nat), l.length = j + d → K (.int .i64 (cnt l : Int)) w → F78.l3 K (.int .i64 (cnt (l.take j) : Int)) v (.int .i64 (l.length : Int)) (.int .i64 (j : Int)) w := by
  intro d
  induction d with
  | zero =>
    intro j hd h
    refine F78.l3.to ?_
    simp only [C.ite_true, C.ite_false, C.pick_true, C.pick_false, C.not_bool, C.field_ptr, C.nilCheck_ptr, C.add_mk, C.sub_mk, C.mul_mk, C.eql_mk, C.neq_mk, C.lss_mk, C.leq_mk, C.gtr_mk, C.geq_mk, C.conv_mk, C.len_mk, C.ext_0, C.ext_1, C.ext3_0, C.ext3_1, C.ext3_2, C.guarded_yes, C.guarded_tf, C.guarded_ft, C.guarded_undef, Bool.not_true, Bool.not_false, Nat.zero_add, eq_self, decide_true, decide_false, show ¬ ((j : Int) < (l.length : Int)) by omega]
    rw [List.take_of_length_le (by omega)]
    exact F78.k8.to h
  | succ d ih =>
    intro j hd h
    have jl : j < l.length := by omega
    have hle := hv.le
    rw [boolC_len] at hle
    have hc := cnt_step jl
    have hc2 := cnt_le (l.take j)
    rw [List.length_take] at hc2
    refine F78.l3.to ?_
    simp only [C.ite_true, C.ite_false, C.pick_true, C.pick_false, C.not_bool, C.field_ptr, C.nilCheck_ptr, C.add_mk, C.sub_mk, C.mul_mk, C.eql_mk, C.neq_mk, C.lss_mk, C.leq_mk, C.gtr_mk, C.geq_mk, C.conv_mk, C.len_mk, C.ext_0, C.ext_1, C.ext3_0, C.ext3_1, C.ext3_2, C.guarded_yes, C.guarded_tf, C.guarded_ft, C.guarded_undef, Bool.not_true, Bool.not_false, Nat.zero_add, eq_self, decide_true, decide_false, show ((j : Int) < (l.length : Int)) by omega]
    refine F78.k4.to (C.idx_rd hv (by omega) (by rw [Int.toNat_natCast]; exact boolC_get jl) fun g o cs e fz hg hl' hcc => C.load1_of (v := .bool l[j]) hg (by simpa using hcc 0 (by omega)) ?_)
    have next : F78.k7 K (.int .i64 (cnt (l.take (j + 1)) : Int)) v (.int .i64 (l.length : Int)) (.int .i64 (j : Int)) w := by
      refine F78.k7.to ?_
      simp only [C.ite_true, C.ite_false, C.pick_true, C.pick_false, C.not_bool, C.field_ptr, C.nilCheck_ptr, C.add_mk, C.sub_mk, C.mul_mk, C.eql_mk, C.neq_mk, C.lss_mk, C.leq_mk, C.gtr_mk, C.geq_mk, C.conv_mk, C.len_mk, C.ext_0, C.ext_1, C.ext3_0, C.ext3_1, C.ext3_2, C.guarded_yes, C.guarded_tf, C.guarded_ft, C.guarded_undef, Bool.not_true, Bool.not_false, Nat.zero_add, eq_self, decide_true, decide_false]
      rw [wrap64_id (n := (j : Int) + 1) (by omega), show (j : Int) + 1 = ((j + 1 : Nat) : Int) by omega]
      exact ih (j + 1) (by omega) h
    cases hb : l[j] with
    | true =>
      simp only [C.ite_true, C.ite_false, C.pick_true, C.pick_false, C.not_bool, C.field_ptr, C.nilCheck_ptr, C.add_mk, C.sub_mk, C.mul_mk, C.eql_mk, C.neq_mk, C.lss_mk, C.leq_mk, C.gtr_mk, C.geq_mk, C.conv_mk, C.len_mk, C.ext_0, C.ext_1, C.ext3_0, C.ext3_1, C.ext3_2, C.guarded_yes, C.guarded_tf, C.guarded_ft, C.guarded_undef, Bool.not_true, Bool.not_false, Nat.zero_add, eq_self, decide_true, decide_false]
      rw [hb, if_pos rfl] at hc
      rw [wrap64_id (n := (cnt (l.take j) : Int) + 1) (by omega), show (cnt (l.take j) : Int) + 1 = ((cnt (l.take (j + 1)) : Nat) : Int) by omega]
      exact next
    | false =>
      simp only [C.ite_true, C.ite_false, C.pick_true, C.pick_false, C.not_bool, C.field_ptr, C.nilCheck_ptr, C.add_mk, C.sub_mk, C.mul_mk, C.eql_mk, C.neq_mk, C.lss_mk, C.leq_mk, C.gtr_mk, C.geq_mk, C.conv_mk, C.len_mk, C.ext_0, C.ext_1, C.ext3_0, C.ext3_1, C.ext3_2, C.guarded_yes, C.guarded_tf, C.guarded_ft, C.guarded_undef, Bool.not_true, Bool.not_false, Nat.zero_add, eq_self, decide_true, decide_false]
      rw [hb, if_neg (by simp)] at hc
      rw [show cnt (l.take j) = cnt (l.take (j + 1)) by omega]
      exact next
theorem bookcount_c {g bb T : Nat} {win most : Int} {S : Nat → Value} {L : Nat → List Bool} {t : Nat} (hL : Led w g bb T win most S L) (ht : t < T) (but : Nat) (hbut : but ≤ 1000000) (h : ∀ w', Fr [] w w' → K (.int .i64 (cnt ((L t).drop but) : Int)) w') : C.call Try.prog 78 #[.pointer (some ⟨bb, t * 3, none⟩), .int .i64 (but : Int)] w K := by
  obtain ⟨cs, hb, hc⟩ := hL.bk
  have ho := hL.own t ht
  refine F78.sh (C.draw_of (fun w' => w'.heap[bb]? = some (.cells cs 114 (0, 0))) fun w1 hf1 he1 => ⟨by rw [he1]; exact hb, ?_⟩)
  simp only [C.ite_true, C.ite_false, C.pick_true, C.pick_false, C.not_bool, C.field_ptr, C.nilCheck_ptr, C.add_mk, C.sub_mk, C.mul_mk, C.eql_mk, C.neq_mk, C.lss_mk, C.leq_mk, C.gtr_mk, C.geq_mk, C.conv_mk, C.len_mk, C.ext_0, C.ext_1, C.ext3_0, C.ext3_1, C.ext3_2, C.guarded_yes, C.guarded_tf, C.guarded_ft, C.guarded_undef, Bool.not_true, Bool.not_false, Nat.zero_add, eq_self, decide_true, decide_false, Nat.add_zero]
  refine C.load1S_of (v := S t) (fun w' hw => ⟨_, _, _, hw, (hc.2 t ht).1⟩) (C.load1S_of (v := S t) (fun w' hw => ⟨_, _, _, hw, (hc.2 t ht).1⟩) ?_)
  have hrd := (ho.keep hf1 (by simp)).rd
  obtain ⟨A, c, he, hcap⟩ := hrd.len_c (P := Try.prog) (K := K)
  rw [he] at hrd ⊢
  have hle := hrd.le
  rw [boolC_len] at *
  simp only [C.ite_true, C.ite_false, C.pick_true, C.pick_false, C.not_bool, C.field_ptr, C.nilCheck_ptr, C.add_mk, C.sub_mk, C.mul_mk, C.eql_mk, C.neq_mk, C.lss_mk, C.leq_mk, C.gtr_mk, C.geq_mk, C.conv_mk, C.len_mk, C.ext_0, C.ext_1, C.ext3_0, C.ext3_1, C.ext3_2, C.guarded_yes, C.guarded_tf, C.guarded_ft, C.guarded_undef, Bool.not_true, Bool.not_false, Nat.zero_add, eq_self, decide_true, decide_false]
  refine ⟨_, fun w' _ => min2_runb _ _ _ _ _ _, _, fun w' _ => sliceFrom_run (e := 4) (sz := 1) A (L t).length c .i64 (min (but : Int) ((L t).length : Int)) Try.underlying90 (by kernel_rfl) (by omega) (by omega), ?_⟩
  have hd := hrd.drop (min (but : Int) ((L t).length : Int)).toNat (by omega)
  have e1 : (min (but : Int) ((L t).length : Int)).toNat = min but (L t).length := by omega
  rw [e1] at hd ⊢
  have e2 : (boolC (L t)).drop (min but (L t).length) = boolC ((L t).drop but) := by
    rw [← boolC_drop]
    congr 1
    rcases Nat.le_total but (L t).length with h' | h'
    · rw [Nat.min_eq_left h']
    · rw [Nat.min_eq_right h', List.drop_of_length_le (Nat.le_refl _), List.drop_of_length_le h']
  rw [e2] at hd
  have e3 : (L t).length - min but (L t).length = ((L t).drop but).length := by rw [List.length_drop]; omega
  rw [e3] at hd ⊢
  simp only [C.ite_true, C.ite_false, C.pick_true, C.pick_false, C.not_bool, C.field_ptr, C.nilCheck_ptr, C.add_mk, C.sub_mk, C.mul_mk, C.eql_mk, C.neq_mk, C.lss_mk, C.leq_mk, C.gtr_mk, C.geq_mk, C.conv_mk, C.len_mk, C.ext_0, C.ext_1, C.ext3_0, C.ext3_1, C.ext3_2, C.guarded_yes, C.guarded_tf, C.guarded_ft, C.guarded_undef, Bool.not_true, Bool.not_false, Nat.zero_add, eq_self, decide_true, decide_false]
  exact bookcount_loop hd ((L t).drop but).length 0 (by omega) (h w1 hf1)
end
end Go.Proofs.YtckageghbhkklaaV
