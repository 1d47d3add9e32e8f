/- Part 11 of what the law needs: own lemmas, in the order in which they build. -/
import Derived.Test.YtcakfaakbpdklaaGreatDoorTopOwn10
namespace Go.Proofs.YtcakfaakbpdklaaGreatDoorV
open Go Go.Proofs Go.RowKit
set_option linter.unusedVariables false
set_option linter.unusedSimpArgs false
def qaz (l : List Bool) : List (List Value) := l.map fun b => [.bool b]
theorem qbg (l : List Bool) : (qaz l).length = l.length := by simp [qaz]
theorem qqv {l : List Bool} {j : Nat} (h : j < l.length) : (qaz l)[j]? = some [.bool l[j]] := by simp [qaz, h]
theorem qqu (l k : List Bool) : qaz (l ++ k) = qaz l ++ qaz k := by simp [qaz]
theorem qqw (n : Nat) (b : Bool) : qaz (List.replicate n b) = List.replicate n [.bool b] := by simp [qaz]
theorem qi4 (l : List Bool) (n : Nat) : qaz (l.drop n) = (qaz l).drop n := by simp [qaz, List.map_drop]
theorem qkk {l : List Bool} : ∀ y ∈ qaz l, ∀ u ∈ y, u.oneCell' = true := by
  intro y hy u hu
  simp only [qaz, List.mem_map] at hy
  obtain ⟨x, _, rfl⟩ := hy
  simp only [List.mem_cons, List.not_mem_nil, or_false] at hu
  subst hu
  rfl
theorem qc9 {α : Type} (f : Nat → α) (t : Nat) (x : α) : upd f t x t = x := if_pos rfl
theorem qfb {α : Type} (f : Nat → α) {t u : Nat} (x : α) (h : u ≠ t) : upd f t x u = f u := if_neg h
def Bcs (T : Nat) (S : Nat → Value) (cs : Array Value) : Prop := cs.size = T * 3 ∧ ∀ t, t < T → cs[t * 3]? = some (S t) ∧ (∃ a, cs[t * 3 + 1]? = some (.int .i64 a)) ∧ ∃ b, cs[t * 3 + 2]? = some (.int .i64 b)
theorem Bcs.set0 {T : Nat} {S : Nat → Value} {cs : Array Value} (h : Bcs T S cs) {t : Nat} (ht : t < T) (x : Value) : Bcs T (upd S t x) (cs.setIfInBounds (t * 3) x) := by
  refine ⟨by simpa using h.1, fun u hu => ?_⟩
  obtain ⟨h1, ⟨a, h2⟩, ⟨b, h3⟩⟩ := h.2 u hu
  have := h.1
  refine ⟨?_, ⟨a, ?_⟩, ⟨b, ?_⟩⟩
  · by_cases e : u = t
    · subst e
      rw [qc9, Array.getElem?_setIfInBounds, if_pos rfl, if_pos (by omega)]
    · rw [qfb _ _ e, Array.getElem?_setIfInBounds, if_neg (by omega), h1]
  · rw [Array.getElem?_setIfInBounds, if_neg (by omega), h2]
  · rw [Array.getElem?_setIfInBounds, if_neg (by omega), h3]
theorem Bcs.set12 {T : Nat} {S : Nat → Value} {cs : Array Value} (h : Bcs T S cs) {t k : Nat} (ht : t < T) (hk : k = 1 ∨ k = 2) (n : Int) : Bcs T S (cs.setIfInBounds (t * 3 + k) (.int .i64 n)) := by
  refine ⟨by simpa using h.1, fun u hu => ?_⟩
  obtain ⟨h1, ⟨a, h2⟩, ⟨b, h3⟩⟩ := h.2 u hu
  have := h.1
  refine ⟨?_, ?_, ?_⟩
  · rw [Array.getElem?_setIfInBounds, if_neg (by omega), h1]
  · rw [Array.getElem?_setIfInBounds]
    by_cases e : t * 3 + k = u * 3 + 1
    · rw [if_pos e, if_pos (by omega)]
      exact ⟨n, rfl⟩
    · rw [if_neg e]
      exact ⟨a, h2⟩
  · rw [Array.getElem?_setIfInBounds]
    by_cases e : t * 3 + k = u * 3 + 2
    · rw [if_pos e, if_pos (by omega)]
      exact ⟨n, rfl⟩
    · rw [if_neg e]
      exact ⟨b, h3⟩
def qg9 (win most : Int) (bb T : Nat) : Obj := .cells #[.int .i64 win, .int .i64 most, .slice (some ⟨bb, 0, none⟩) T T] 141 (0, 0)
structure Led (w : World) (g bb T : Nat) (win most : Int) (S : Nat → Value) (L : Nat → List Bool) : Prop where
  obj : w.heap[g]? = some (qg9 win most bb T)
  bk : ∃ cs, w.heap[bb]? = some (.cells cs 231 (0, 0)) ∧ Bcs T S cs
  own : ∀ t, t < T → qad w (S t) 4 1 (qaz (L t))
  gb : g ≠ bb
  sg : ∀ t, t < T → ∀ x ∈ qab (S t), x ≠ g ∧ x ≠ bb
  ss : ∀ t, t < T → ∀ u, u < T → t ≠ u → ∀ x ∈ qab (S t), x ∉ qab (S u)
theorem Led.keep {A : List Nat} {w w' : World} {g bb T : Nat} {win most : Int} {S : Nat → Value} {L : Nat → List Bool} (h : Led w g bb T win most S L) (hf : Fr A w w') (h1 : g ∉ A) (h2 : bb ∉ A) (h3 : ∀ t, t < T → ∀ x ∈ qab (S t), x ∉ A) : Led w' g bb T win most S L := by
  obtain ⟨cs, hb, hc⟩ := h.bk
  exact ⟨hf.at_ h.obj h1, ⟨cs, hf.at_ hb h2, hc⟩, fun t ht => (h.own t ht).keep' hf (h3 t ht), h.gb, h.sg, h.ss⟩
theorem Led.keep0 {w w' : World} {g bb T : Nat} {win most : Int} {S : Nat → Value} {L : Nat → List Bool} (h : Led w g bb T win most S L) (hf : Fr [] w w') : Led w' g bb T win most S L := h.keep hf (by simp) (by simp) (by simp)
theorem Led.row {A : List Nat} {w w' : World} {g bb T t : Nat} {win most : Int} {S : Nat → Value} {L : Nat → List Bool} (h : Led w g bb T win most S L) (ht : t < T) (hf : Fr A w w') {s : Value} {l : List Bool} (hb : ∃ cs, w'.heap[bb]? = some (.cells cs 231 (0, 0)) ∧ Bcs T (upd S t s) cs)
    (ho : qad w' s 4 1 (qaz l)) (hs : ∀ x ∈ qab s, x ∈ qab (S t) ∨ w.heap.size ≤ x) (hA : ∀ x ∈ A, x = bb ∨ x ∈ qab (S t)) : Led w' g bb T win most (upd S t s) (upd L t l) := by
  have lt : ∀ u, u < T → ∀ x ∈ qab (S u), x < w.heap.size := fun u hu => (h.own u hu).mem_lt
  have lg := qac h.obj
  obtain ⟨cs0, hb0, _⟩ := h.bk
  have lb := qac hb0
  have hg : ∀ x ∈ qab (S t), x ≠ g ∧ x ≠ bb := h.sg t ht
  have sx : ∀ x ∈ qab s, x ≠ g ∧ x ≠ bb := fun x hx => by
    rcases hs x hx with h | h
    · exact hg x h
    · exact ⟨by omega, by omega⟩
  have sy : ∀ u, u < T → u ≠ t → ∀ x ∈ qab s, x ∉ qab (S u) := fun u hu hne x hx hy => by
    rcases hs x hx with h' | h'
    · exact h.ss t ht u hu (Ne.symm hne) x h' hy
    · have := lt u hu x hy
      omega
  refine ⟨hf.at_ h.obj fun hx => ?_, hb, fun u hu => ?_, h.gb, fun u hu => ?_, fun u hu v hv hne => ?_⟩
  · rcases hA _ hx with h' | h'
    · exact h.gb h'
    · exact (hg _ h').1 rfl
  · by_cases e : u = t
    · subst e
      rw [qc9, qc9]
      exact ho
    · rw [qfb _ _ e, qfb _ _ e]
      refine (h.own u hu).keep' hf fun x hx hx' => ?_
      rcases hA _ hx' with h' | h'
      · exact (h.sg u hu x hx).2 h'
      · exact h.ss u hu t ht e x hx h'
  · by_cases e : u = t
    · subst e
      rw [qc9]
      exact sx
    · rw [qfb _ _ e]
      exact h.sg u hu
  · by_cases e : u = t
    · subst e
      rw [qc9, qfb _ _ (Ne.symm hne)]
      exact sy v hv (Ne.symm hne)
    · rw [qfb _ _ e]
      by_cases e' : v = t
      · subst e'
        rw [qc9]
        exact fun x hx hx' => sy u hu e x hx' hx
      · rw [qfb _ _ e']
        exact h.ss u hu v hv hne
section
variable {K : VK} {w : World}
theorem qxo (b : Bool) : (Instr.buildSlice 84 1 #[(0, .bool b)]).run Tryz.prog w = .ok (.slice (some ⟨w.heap.size, 0, none⟩) 1 1) (w.alloc (.cells #[.bool b] 4)) := by kernel_rfl
theorem qxp : (Instr.buildSlice 84 0 #[]).run Tryz.prog w = .ok (.slice (some ⟨w.heap.size, 0, none⟩) 0 0) (w.alloc (.cells #[] 4)) := by kernel_rfl
theorem qsa {v : Value} {l : List Bool} (hv : RdS w v 1 (qaz l)) (hl : l.length ≤ 1000000) (h : ∀ v' w', Fr [] w w' → qad w' v' 4 1 (qaz l) → qal w v' → K v' w') : C.q Tryz.prog 239 #[v] w K := by
  have hv' := hv
  obtain ⟨A, c, rfl, h1, h2, h3⟩ := hv
  refine F239.sh ⟨_, qe2 (e := 4) _ _ _ _ _ Tryz.underlying84, ?_⟩
  cases A with
  | none =>
    have : l = [] := by
      cases l with
      | nil => rfl
      | cons x l => obtain ⟨g, o, cs, e, fz, hA, _⟩ := h3 (by simp [qaz]); cases hA
    subst this
    simp only [Option.isNone_none, C.ah]
    exact h _ w (Fr.refl _ _) (qad.nil w 4 1) (qal.nil w)
  | some a =>
    simp only [Option.isNone_some, C.ac]
    refine F239.k3.to (C.a5 qxp ?_)
    have hn := New.mk' w (.cells #[] 4)
    refine C.b9 (xs := []) (e := 4) (sz := 1) (bytes := 1) (z := .bool false) Tryz.underlying84 (by kernel_rfl) rfl (by decide) (qad.of_block hn.at_ rfl (by simp) (by simp) rfl (by simp) (by simp)) (hv'.keep hn.fr) qkk (by rw [qbg]; simp; omega) (by rw [qbg]; simp; omega) fun v' w' ho hf hb _ => ?_
    refine h v' w' (hn.fr.then hf fun x hx => ?_) (by simpa using ho) fun g hg => ?_
    · rw [qan] at hx
      simp only [Value.ownBlock, Option.some.injEq] at hx
      exact .inr (by omega)
    · rcases hb with hb | ⟨g', hb, hle⟩
      · rw [hb] at hg
        simp only [Value.ownBlock, Option.some.injEq] at hg
        omega
      · rw [hb] at hg
        simp only [Option.some.injEq] at hg
        subst hg
        exact Nat.le_trans hn.fr.size hle
theorem qj3 {g bb T : Nat} {win most : Int} {S : Nat → Value} {L : Nat → List Bool} {t : Nat} (hL : Led w g bb T win most S L) (ht : t < T) (h : K (.pointer (some ⟨bb, t * 3, none⟩)) w) : C.q Tryz.prog 166 #[.pointer (some ⟨g, 0, none⟩), .int .i64 (t : Int)] w K := by
  refine F166.sh ⟨_, qam _ _ _ Tryz.underlying89, ?_⟩
  simp only [C.ar, C.af, C.ag, C.au, C.al, Nat.zero_add, decide_false, show ¬ ((t : Int) < 0) by omega]
  refine C.ae (v := .slice (some ⟨bb, 0, none⟩) T T) hL.obj rfl ?_
  simp only [C.ac, C.bc, C.bs, decide_false, show ¬ ((t : Int) ≥ (T : Int)) by omega]
  refine F166.k3.to ?_
  simp only [C.af, C.ag, Nat.zero_add]
  refine C.ae (v := .slice (some ⟨bb, 0, none⟩) T T) hL.obj rfl ?_
  simp only [C.b1, Int.toNat_natCast, Nat.zero_add]
  exact ⟨⟨by omega, by omega⟩, h⟩
theorem qs7 {l : List Bool} {j : Nat} (h : j < l.length) : cnt (l.take (j + 1)) = cnt (l.take j) + if l[j] = true then 1 else 0 := by
  unfold cnt
  rw [List.take_add_one, List.getElem?_eq_getElem h, List.count_append]
  simp only [Option.toList_some, List.count_singleton, beq_iff_eq]
theorem qqz (l : List Bool) : cnt l ≤ l.length := List.count_le_length
theorem qjy {v : Value} {l : List Bool} (hv : RdS w v 1 (qaz l)) :
    ∀ (d j : Nat), l.length = j + d → K (.int .i64 (cnt l : Int)) w → F236.l3 K (.int .i64 (cnt (l.take j) : Int)) v (.int .i64 (l.length : Int)) (.int .i64 (j : Int)) w := by
  intro d
  induction d with
  | zero =>
    intro j hd h
    refine F236.l3.to ?_
    simp only [C.ac, C.au, decide_false, show ¬ ((j : Int) < (l.length : Int)) by omega]
    rw [List.take_of_length_le (by omega)]
    exact F236.k8.to h
  | succ d ih =>
    intro j hd h
    have jl : j < l.length := by omega
    have hle := hv.le
    rw [qbg] at hle
    have hc := qs7 jl
    have hc2 := qqz (l.take j)
    rw [List.length_take] at hc2
    refine F236.l3.to ?_
    simp only [C.ah, C.au, decide_true, show ((j : Int) < (l.length : Int)) by omega]
    refine F236.k4.to (C.b6 hv (by omega) (by rw [Int.toNat_natCast]; exact qqv jl) fun g o cs e fz hg hl' hcc => C.ae (v := .bool l[j]) hg (by simpa using hcc 0 (by omega)) ?_)
    have next : F236.k7 K (.int .i64 (cnt (l.take (j + 1)) : Int)) v (.int .i64 (l.length : Int)) (.int .i64 (j : Int)) w := by
      refine F236.k7.to ?_
      simp only [C.a6]
      rw [qaa (n := (j : Int) + 1) (by omega), show (j : Int) + 1 = ((j + 1 : Nat) : Int) by omega]
      exact ih (j + 1) (by omega) h
    cases hb : l[j] with
    | true =>
      simp only [C.ah, C.a6]
      rw [hb, if_pos rfl] at hc
      rw [qaa (n := (cnt (l.take j) : Int) + 1) (by omega), show (cnt (l.take j) : Int) + 1 = ((cnt (l.take (j + 1)) : Nat) : Int) by omega]
      exact next
    | false =>
      simp only [C.ac, C.a6]
      rw [hb, if_neg (by simp)] at hc
      rw [show cnt (l.take j) = cnt (l.take (j + 1)) by omega]
      exact next
theorem qm4 {g bb T : Nat} {win most : Int} {S : Nat → Value} {L : Nat → List Bool} {t : Nat} (hL : Led w g bb T win most S L) (ht : t < T) (but : Nat) (hbut : but ≤ 1000000) (h : ∀ w', Fr [] w w' → K (.int .i64 (cnt ((L t).drop but) : Int)) w') : C.q Tryz.prog 236 #[.pointer (some ⟨bb, t * 3, none⟩), .int .i64 (but : Int)] w K := by
  obtain ⟨cs, hb, hc⟩ := hL.bk
  have ho := hL.own t ht
  refine F236.sh (C.a4 (fun w' => w'.heap[bb]? = some (.cells cs 231 (0, 0))) fun w1 hf1 he1 => ⟨by rw [he1]; exact hb, ?_⟩)
  simp only [C.af, C.ag, Nat.add_zero]
  refine C.an (v := S t) (fun w' hw => ⟨_, _, _, hw, (hc.2 t ht).1⟩) (C.an (v := S t) (fun w' hw => ⟨_, _, _, hw, (hc.2 t ht).1⟩) ?_)
  have hrd := (ho.keep hf1 (by simp)).rd
  obtain ⟨A, c, he, hcap⟩ := hrd.len_c (P := Tryz.prog) (K := K)
  rw [he] at hrd ⊢
  have hle := hrd.le
  rw [qbg] at *
  simp only [C.bs]
  refine ⟨_, fun w' _ => qem _ _ _ _ _ _, _, fun w' _ => qeq (e := 4) (sz := 1) A (L t).length c .i64 (min (but : Int) ((L t).length : Int)) Tryz.underlying84 (by kernel_rfl) (by omega) (by omega), ?_⟩
  have hd := hrd.drop (min (but : Int) ((L t).length : Int)).toNat (by omega)
  have e1 : (min (but : Int) ((L t).length : Int)).toNat = min but (L t).length := by omega
  rw [e1] at hd ⊢
  have e2 : (qaz (L t)).drop (min but (L t).length) = qaz ((L t).drop but) := by
    rw [← qi4]
    congr 1
    rcases Nat.le_total but (L t).length with h' | h'
    · rw [Nat.min_eq_left h']
    · rw [Nat.min_eq_right h', List.drop_of_length_le (Nat.le_refl _), List.drop_of_length_le h']
  rw [e2] at hd
  have e3 : (L t).length - min but (L t).length = ((L t).drop but).length := by rw [List.length_drop]; omega
  rw [e3] at hd ⊢
  simp only [C.bs]
  exact qjy hd ((L t).drop but).length 0 (by omega) (h w1 hf1)
end
end Go.Proofs.YtcakfaakbpdklaaGreatDoorV
namespace Go.Proofs.YtcakfaakbpdklaaGreatDoorV
open Go Go.Proofs Go.RowKit
set_option linter.unusedVariables false
set_option linter.unusedSimpArgs false
set_option maxRecDepth 10000
theorem qkp (k : Nat) (l : List Bool) : (qdy k l).length = min k l.length := by unfold qdy; rw [List.length_drop]; omega
section
variable {K : VK} {w : World}
theorem qfs {g bb T t m : Nat} {win most : Int} {S : Nat → Value} {L : Nat → List Bool} {w0 : World} {v : Value} {work : Bool} (hL0 : Led w0 g bb T win most S L) (ht : t < T) (hf0 : Fr [] w0 w) (hm : m ≤ 64) (hl : (L t).length ≤ 64) (hv : RdS w v 1 (qaz (List.replicate m work)))
    (h : ∀ s w', Fr (bb :: qab (S t)) w0 w' → Led w' g bb T win most (upd S t s) (upd L t (L t ++ List.replicate m work)) → (∀ x ∈ qab s, x ∈ qab (S t) ∨ w0.heap.size ≤ x) → F167.k1 K (.pointer (some ⟨g, 0, none⟩)) (.pointer (some ⟨bb, t * 3, none⟩)) w') :
    C.ay Tryz.prog (Builtin.append_ #[84, 84] 84 #[S t, v]) w fun x w24 => (w24.heap[g]? = some (qg9 win most bb T) ∧ (C.ak 1 (.pointer (some ⟨bb, t * 3, none⟩)) x w24 fun w27 => (w27.heap[g]? = some (qg9 win most bb T) ∧ F167.k1 K (.pointer (some ⟨g, 0, none⟩)) (.pointer (some ⟨bb, t * 3, none⟩)) w27)) ∧ True) := by
  have hL := hL0.keep0 hf0
  have hS := hL.sg t ht
  refine C.b9 (xs := qaz (L t)) (ys := qaz (List.replicate m work)) (e := 4) (sz := 1) (bytes := 1) (z := .bool false) Tryz.underlying84 (by kernel_rfl) rfl (by decide) (hL.own t ht) hv qkk
    (by rw [qbg, qbg]; simp; omega) (by rw [qbg, qbg]; simp; omega) fun s w1 ho hf hb _ => ?_
  have hg1 := hf.at_ hL.obj fun hx => (hS g hx).1 rfl
  obtain ⟨cs, hbb, hc⟩ := hL.bk
  have hbb1 := hf.at_ hbb fun hx => (hS bb hx).2 rfl
  have hsz := hc.1
  refine ⟨hg1, C.bb hbb1 ho.one.2 ho.one.1 (by omega) fun w2 hu => ?_, trivial⟩
  have hsb : ∀ x ∈ qab s, x ∈ qab (S t) ∨ w.heap.size ≤ x := fun x hx => by
    rcases hb with e | ⟨g', e, hle⟩
    · exact .inl (by rw [qan, ← e, ← qan]; exact hx)
    · rw [qan.1 hx] at e
      simp only [Option.some.injEq] at e
      exact .inr (by omega)
  have lbb := qac hbb
  have hsbb : ∀ x ∈ qab s, x ≠ bb := fun x hx => by
    rcases hsb x hx with h' | h'
    · exact (hS x h').2
    · omega
  have hfA : Fr (bb :: qab (S t)) w w2 := (hf.mono fun x hx => by simp [hx]).trans (hu.fr.mono (by simp))
  refine ⟨hu.fr.at_ hg1 (by simp only [List.mem_singleton]; exact hL.gb), h s w2 (hf0.w.trans hfA) ?_ fun x hx => ?_⟩
  · refine hL.row ht hfA ⟨_, hu.at_, hc.set0 ht s⟩ ?_ hsb fun x hx => by simpa using hx
    rw [qqu]
    exact ho.keep' hu.fr fun x hx => by simpa using hsbb x hx
  · rcases hsb x hx with h' | h'
    · exact .inl h'
    · exact .inr (by have := hf0.size; omega)
theorem qtm {g bb T t : Nat} {win most n : Int} {S : Nat → Value} {L : Nat → List Bool} {work : Bool} (hL : Led w g bb T win most S L) (ht : t < T) (h0 : 0 ≤ n) (h64 : n ≤ 64) (hw0 : 0 ≤ win) (hl : (L t).length ≤ 64)
    (h : ∀ s w', Fr (bb :: qab (S t)) w w' → Led w' g bb T win most (upd S t s) (upd L t (L t ++ List.replicate (min n win).toNat work)) → (∀ x ∈ qab s, x ∈ qab (S t) ∨ w.heap.size ≤ x) → F167.k1 K (.pointer (some ⟨g, 0, none⟩)) (.pointer (some ⟨bb, t * 3, none⟩)) w') :
    C.q Tryz.prog 167 #[.pointer (some ⟨g, 0, none⟩), .pointer (some ⟨bb, t * 3, none⟩), .int .i64 n, .bool work] w K := by
  refine F167.sh (C.a4 (fun w' => w'.heap[g]? = some (qg9 win most bb T)) fun w1 hf1 he1 => ⟨by rw [he1]; exact hL.obj, ?_⟩)
  have hL1 := hL.keep0 hf1
  obtain ⟨cs, hbb, hc⟩ := hL1.bk
  simp only [C.af, C.ag, Nat.add_zero]
  refine C.an (v := .int .i64 win) (fun w' hw => ⟨_, _, _, hw, rfl⟩) ⟨_, fun w' _ => qem _ _ _ _ _ _, ?_⟩
  have em : min n win = ((min n win).toNat : Int) := by omega
  rw [em]
  have hm : (min n win).toNat ≤ 64 := by omega
  clear em
  generalize (min n win).toNat = m at *
  have hn2 := New.mk' w1 (.cells #[.bool work] 4)
  have hs1 : RdS (w1.alloc (.cells #[.bool work] 4)) (.slice (some ⟨w1.heap.size, 0, none⟩) 1 1) 1 [[.bool work]] := RdS.of_block hn2.at_ rfl (by simp) (by simp) (by simp) (by simp)
  have hL2 := hL1.keep0 hn2.fr
  have rd : ∀ {v' w'}, qad w' v' 4 1 (List.replicate m [.bool work]) → RdS w' v' 1 (qaz (List.replicate m work)) := fun ho => by rw [qqw]; exact ho.rd
  have hb0 := (hc.2 t ht).1
  have f12 := hf1.trans hn2.fr
  refine ⟨C.ae hbb hb0 ⟨hL1.obj, C.a5 (qxo work) ⟨hL2.obj, qg0 hs1 rfl (by omega) fun v' w3 hf3 ho3 hn3 => ⟨hf3.at_ hL2.obj (by simp), qfs hL ht (f12.trans hf3) hm hl (rd ho3) h, trivial⟩, trivial⟩, trivial⟩, ?_⟩
  refine ⟨C.a5 (qxo work) ⟨hL2.obj, C.ae (hn2.fr.at_ hbb (by simp)) hb0 ⟨hL2.obj, qg0 hs1 rfl (by omega) fun v' w3 hf3 ho3 hn3 => ⟨hf3.at_ hL2.obj (by simp), qfs hL ht (f12.trans hf3) hm hl (rd ho3) h, trivial⟩, trivial⟩, ?_⟩, trivial⟩
  refine ⟨qg0 hs1 rfl (by omega) fun v' w3 hf3 ho3 hn3 => ⟨hf3.at_ hL2.obj (by simp), C.ae (hf3.at_ (hn2.fr.at_ hbb (by simp)) (by simp)) hb0 ⟨hf3.at_ hL2.obj (by simp), qfs hL ht (f12.trans hf3) hm hl (rd ho3) h, trivial⟩, trivial⟩, trivial⟩
theorem qtn {g bb T t : Nat} {win most : Int} {S : Nat → Value} {L : Nat → List Bool} (hL : Led w g bb T win most S L) (ht : t < T) (hw0 : 0 ≤ win) (hw1 : win ≤ 64) (hl : (L t).length ≤ 1000)
    (h : ∀ s w', Fr [bb] w w' → Led w' g bb T win most (upd S t s) (upd L t (qdy win.toNat (L t))) → qal w s → K (.tuple #[]) w') : F167.k1 K (.pointer (some ⟨g, 0, none⟩)) (.pointer (some ⟨bb, t * 3, none⟩)) w := by
  refine F167.k1.to (C.a4 (fun w' => w'.heap[g]? = some (qg9 win most bb T)) fun w1 hf1 he1 => ⟨by rw [he1]; exact hL.obj, ?_⟩)
  have hL1 := hL.keep0 hf1
  obtain ⟨cs, hbb, hc⟩ := hL1.bk
  have hb0 := (hc.2 t ht).1
  have hsz := hc.1
  have hrd := (hL1.own t ht).rd
  have hS := hL1.sg t ht
  have lbb := qac hbb
  simp only [C.af, C.ag, Nat.add_zero]
  refine C.an (v := .int .i64 win) (fun w' hw => ⟨_, _, _, hw, rfl⟩) ?_
  obtain ⟨A, c, he, hcap⟩ := hrd.len_c (P := Tryz.prog) (K := K)
  rw [qbg] at he hcap
  have tail : ∀ v, RdS w1 v 1 (qaz (qdy win.toNat (L t))) → C.q Tryz.prog 239 #[v] w1 fun x42_25 w25 => (w25.heap[g]? = some (qg9 win most bb T) ∧ (C.ak 1 (.pointer (some ⟨bb, t * 3, none⟩)) x42_25 w25 fun w28 => (w28.heap[g]? = some (qg9 win most bb T) ∧ K (.tuple #[]) w28)) ∧ True) := by
    intro v hv
    refine qsa hv (by rw [qkp]; omega) fun s w2 hf2 ho2 hn2 => ?_
    have hg2 := hf2.at_ hL1.obj (by simp)
    have hbb2 := hf2.at_ hbb (by simp)
    refine ⟨hg2, C.bb hbb2 ho2.one.2 ho2.one.1 (by omega) fun w3 hu => ?_, trivial⟩
    have hns := hn2.blk
    have hfA : Fr [bb] w1 w3 := hf2.w.trans hu.fr
    refine ⟨hu.fr.at_ hg2 (by simp only [List.mem_singleton]; exact hL.gb), h s w3 (hf1.w.trans hfA) ?_ (hn2.mono hf1.size)⟩
    refine hL1.row ht hfA ⟨_, hu.at_, hc.set0 ht s⟩ (ho2.keep' hu.fr fun x hx => ?_) (fun x hx => .inr (hns x hx)) fun x hx => .inl (by simpa using hx)
    have := hns x hx
    simp only [List.mem_singleton]
    omega
  have hlen : (L t).length ≤ 9223372036854775807 := by omega
  have run : ∀ w' : World, (Instr.sliceAt 84 (S t) (some (.int .i64 (max (((L t).length : Int) - win) 0))) none none).run Tryz.prog w' = .ok (.slice (if c = (L t).length - win.toNat then A else A.map (·.add (((L t).length - win.toNat) * 1))) ((L t).length - ((L t).length - win.toNat)) (c - ((L t).length - win.toNat))) w' := fun w' => by
    have := qeq (P := Tryz.prog) (w := w') (t := 84) (e := 4) (sz := 1) A (L t).length c .i64 (max (((L t).length : Int) - win) 0) Tryz.underlying84 (by kernel_rfl) (by omega) (by omega)
    rw [he, this]
    rw [show (max (((L t).length : Int) - win) 0).toNat = (L t).length - win.toNat by omega]
  have hd : RdS w1 (.slice (if c = (L t).length - win.toNat then A else A.map (·.add (((L t).length - win.toNat) * 1))) ((L t).length - ((L t).length - win.toNat)) (c - ((L t).length - win.toNat))) 1 (qaz (qdy win.toNat (L t))) := by
    rw [he] at hrd
    have := hrd.drop ((L t).length - win.toNat) (by omega)
    rw [← qi4] at this
    exact this
  refine ⟨C.ae hbb hb0 ⟨hL1.obj, C.ae hbb hb0 ⟨hL1.obj, ?_⟩, trivial⟩, C.ae hbb hb0 ⟨hL1.obj, ?_⟩, trivial⟩
  · refine C.bh hrd ?_
    simp only [C.bo, qbg]
    rw [qaa (by omega)]
    exact ⟨_, fun w' _ => qhb _ _ _ _ _ _, _, fun w' _ => run w', tail _ hd, trivial⟩
  · refine C.bh hrd ?_
    simp only [C.bo, qbg]
    rw [qaa (by omega)]
    exact ⟨_, fun w' _ => qhb _ _ _ _ _ _, C.ae hbb hb0 ⟨hL1.obj, _, fun w' _ => run w', tail _ hd, trivial⟩, trivial⟩
theorem qof {α : Type} (f : Nat → α) (t : Nat) (x y : α) : upd (upd f t x) t y = upd f t y := by
  funext u
  unfold upd
  split <;> rfl
structure LNx (w w' : World) (bb t : Nat) (S : Nat → Value) (s : Value) : Prop where
  fr : Fr (bb :: qab (S t)) w w'
  new : ∀ x ∈ qab s, w.heap.size ≤ x
theorem qmc {g bb T t : Nat} {win most n : Int} {S : Nat → Value} {L : Nat → List Bool} {work : Bool} (hL : Led w g bb T win most S L) (ht : t < T) (h0 : 0 ≤ n) (h64 : n ≤ 64) (hw0 : 0 ≤ win) (hw1 : win ≤ 64) (hl : (L t).length ≤ 64)
    (h : ∀ s w', LNx w w' bb t S s → Led w' g bb T win most (upd S t s) (upd L t (qdy win.toNat (L t ++ List.replicate (min n win).toNat work))) → K (.tuple #[]) w') :
    C.q Tryz.prog 167 #[.pointer (some ⟨g, 0, none⟩), .pointer (some ⟨bb, t * 3, none⟩), .int .i64 n, .bool work] w K := by
  refine qtm hL ht h0 h64 hw0 hl fun s1 w1 hf1 hL1 hs1 => ?_
  refine qtn hL1 ht hw0 hw1 (by rw [qc9]; simp; omega) fun s2 w2 hf2 hL2 hn2 => ?_
  rw [qof, qof, qc9] at hL2
  exact h s2 w2 ⟨hf1.trans (hf2.mono (by simp)), fun x hx => Nat.le_trans hf1.size (hn2.blk x hx)⟩ hL2
theorem qmb {g bb T t k : Nat} {win most n : Int} {S : Nat → Value} {L : Nat → List Bool} (hL : Led w g bb T win most S L) (ht : t < T) (hk : k = 1 ∨ k = 2) {F : World → Prop}
    (h : ∀ w', Fr [bb] w w' → Led w' g bb T win most S L → F w') :
    C.ai (.pointer (some ⟨bb, t * 3 + k, none⟩)) w fun x28_4 w4 => C.aj .add x28_4 (.int .i64 n) w4 fun x30_5 w5 => C.ak 1 (.pointer (some ⟨bb, t * 3 + k, none⟩)) x30_5 w5 F := by
  obtain ⟨cs, hbb, hc⟩ := hL.bk
  have hsz := hc.1
  obtain ⟨_, ⟨a, ha⟩, ⟨b, hb⟩⟩ := hc.2 t ht
  have : ∃ m, cs[t * 3 + k]? = some (.int .i64 m) := by
    rcases hk with rfl | rfl
    · exact ⟨a, ha⟩
    · exact ⟨b, hb⟩
  obtain ⟨m, hm⟩ := this
  refine C.ae hbb hm ?_
  simp only [C.a6]
  refine C.bb hbb rfl rfl (by omega) fun w1 hu => h w1 hu.fr ?_
  exact ⟨hu.fr.at_ hL.obj (by simp only [List.mem_singleton]; exact hL.gb), ⟨_, hu.at_, hc.set12 ht hk _⟩, fun u hu' => (hL.own u hu').keep' hu.fr fun x hx => by simpa using (hL.sg u hu' x hx).2, hL.gb, hL.sg, hL.ss⟩
theorem qpc {g bb T t : Nat} {win most n : Int} {S : Nat → Value} {L : Nat → List Bool} (hL : Led w g bb T win most S L) (ht : t < T) (h0 : 0 ≤ n) (h64 : n ≤ 64) (hw0 : 0 ≤ win) (hw1 : win ≤ 64) (hl : (L t).length ≤ 64)
    (h : ∀ s w', LNx w w' bb t S s → Led w' g bb T win most (upd S t s) (upd L t (qdy win.toNat (L t ++ List.replicate (min n win).toNat false))) → K (.bool true) w') : C.q Tryz.prog 107 #[.pointer (some ⟨g, 0, none⟩), .int .i64 (t : Int), .int .i64 n] w K := by
  refine F107.sh (qj3 hL ht ⟨_, qam _ _ _ Tryz.underlying227, ?_⟩)
  simp only [C.ac, C.ar, C.au, C.bl, C.al, decide_false, show ¬ n < 0 by omega, show ¬ n > 64 by omega]
  refine F107.k4.to (qmc hL ht h0 h64 hw0 hw1 hl fun s w1 hx hL1 => ?_)
  simp only [C.af, C.ag]
  exact qmb hL1 ht (.inl rfl) fun w2 hf2 hL2 => h s w2 ⟨hx.fr.trans (hf2.mono (by simp)), hx.new⟩ hL2
theorem qgi {g bb T t : Nat} {win most n : Int} {S : Nat → Value} {L : Nat → List Bool} (hL : Led w g bb T win most S L) (ht : t < T) (hw0 : 0 ≤ win) (hw1 : win ≤ 64) (hm : most ≤ win) (hl : (L t).length ≤ 64)
    (h : ∀ w', Fr [] w w' → K (.bool (qcs win most n (L t))) w') : C.q Tryz.prog 164 #[.pointer (some ⟨g, 0, none⟩), .int .i64 (t : Int), .int .i64 n] w K := by
  refine F164.sh (qj3 hL ht ⟨_, qam _ _ _ Tryz.underlying227, ?_⟩)
  simp only [C.ar, C.au, C.al]
  by_cases h0 : n < 0
  · simp only [C.ah, C.aw, C.ba, decide_true, h0]
    have := h w (Fr.refl _ _)
    rw [show qcs win most n (L t) = false from decide_eq_false (by omega)] at this
    exact this
  · simp only [C.ar, C.af, C.ag, C.al, Nat.zero_add, decide_false, h0]
    refine C.ae (v := .int .i64 most) hL.obj rfl ?_
    by_cases h1 : n > most
    · simp only [C.ah, C.bl, decide_true, h1]
      have := h w (Fr.refl _ _)
      rw [show qcs win most n (L t) = false from decide_eq_false (by omega)] at this
      exact this
    · simp only [C.ac, C.bl, decide_false, h1]
      obtain ⟨cs, hbb, hc⟩ := hL.bk
      have hb0 := (hc.2 t ht).1
      refine F164.k4.to (C.a4 (fun w' => w'.heap[g]? = some (qg9 win most bb T) ∧ w'.heap[bb]? = some (.cells cs 231 (0, 0))) fun w1 hf1 he1 => ⟨by rw [he1]; exact ⟨hL.obj, hbb⟩, ?_⟩)
      have hL1 := hL.keep0 hf1
      simp only [C.af, C.ag, Nat.zero_add, Nat.add_zero]
      refine C.an (v := S t) (fun w' hw => ⟨_, _, _, hw.2, hb0⟩) (C.bh (hL1.own t ht).rd ?_)
      simp only [C.a6, qbg]
      rw [qaa (by omega)]
      refine C.an (v := .int .i64 win) (fun w' hw => ⟨_, _, _, hw.1, rfl⟩) ?_
      simp only [C.bo]
      rw [qaa (by omega)]
      refine ⟨_, fun w' _ => qhb _ _ _ _ _ _, C.an (v := .int .i64 most) (fun w' hw => ⟨_, _, _, hw.1, rfl⟩) ?_⟩
      rw [show max (((L t).length : Int) + n - win) 0 = ((((L t).length : Int) + n - win).toNat : Int) by omega]
      refine ⟨qm4 hL1 ht _ (by omega) fun w2 hf2 => ⟨⟨hf2.at_ hL1.obj (by simp), hf2.at_ (hf1.at_ hbb (by simp)) (by simp)⟩, ?_⟩, trivial⟩
      have hcl := qqz ((L t).drop (((L t).length : Int) + n - win).toNat)
      rw [List.length_drop] at hcl
      simp only [C.a6, C.ce]
      rw [qaa (by omega)]
      have := h w2 (hf1.trans hf2)
      have e : qcs win most n (L t) = decide ((cnt ((L t).drop (((L t).length : Int) + n - win).toNat) : Int) + n ≤ most) := decide_eq_decide.2 (by omega)
      rw [e] at this
      exact this
theorem qre {g bb T t : Nat} {win most n : Int} {S : Nat → Value} {L : Nat → List Bool} (hL : Led w g bb T win most S L) (ht : t < T) (hw0 : 0 ≤ win) (hw1 : win ≤ 64) (hm : most ≤ win) (hl : (L t).length ≤ 64)
    (hno : qcs win most n (L t) = false → ∀ w', Fr [] w w' → K (.bool false) w')
    (h : qcs win most n (L t) = true → ∀ s w', LNx w w' bb t S s → Led w' g bb T win most (upd S t s) (upd L t (qdy win.toNat (L t ++ List.replicate (min n win).toNat true))) → K (.bool true) w') : C.q Tryz.prog 237 #[.pointer (some ⟨g, 0, none⟩), .int .i64 (t : Int), .int .i64 n] w K := by
  refine F237.sh (qgi hL ht hw0 hw1 hm hl fun w1 hf1 => ?_)
  cases ha : qcs win most n (L t) with
  | false =>
    simp only [C.ah, C.aq, Bool.not_false]
    exact hno ha w1 hf1
  | true =>
    simp only [C.ac, C.aq, Bool.not_true]
    have hadm := of_decide_eq_true ha
    have hL1 := hL.keep0 hf1
    refine F237.k3.to (qj3 hL1 ht (qmc hL1 ht hadm.1 (by omega) hw0 hw1 hl fun s w2 hx hL2 => ?_))
    simp only [C.af, C.ag]
    refine qmb hL2 ht (.inr rfl) fun w3 hf3 hL3 => h ha s w3 ⟨(hf1.w.trans hx.fr).trans (hf3.mono (by simp)), fun x hx' => Nat.le_trans hf1.size (hx.new x hx')⟩ hL3
end
end Go.Proofs.YtcakfaakbpdklaaGreatDoorV
