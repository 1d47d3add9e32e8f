/- Who holds whom, plainly: no program in sight. -/
import Derived.Test.YtfhgjncbhjjbfaaGr6
namespace Go.Proofs.YtfhgjncbhjjbfaaV
open Go Go.Proofs Go.RowKit
set_option linter.unusedVariables false
set_option linter.unusedSimpArgs false
variable {G : Gr}
theorem keepL_mem {i k : Int} {l : List Int} : k ∈ G.keepL i l ↔ k ∈ l ∧ ¬ (k = i ∧ 0 ≤ i ∧ i < (G.n : Int)) := by simp only [Gr.keepL, List.mem_filter, Bool.not_eq_true', decide_eq_false_iff_not]
theorem wo_edge {i a b : Nat} (ha : a < G.n) (hi : i < G.n) : (G.wo i).edge a b = true ↔ G.edge a b = true ∧ a ≠ i ∧ b ≠ i := by
  unfold Gr.edge
  rw [wo_row G i ha]
  simp only [List.contains_iff_mem]
  by_cases c : (a : Int) = (i : Int)
  · rw [if_pos c]
    have : a = i := by omega
    simp [this]
  · rw [if_neg c, keepL_mem]
    constructor
    · rintro ⟨h1, h2⟩; exact ⟨h1, by omega, fun e => h2 ⟨by omega, by omega, by omega⟩⟩
    · rintro ⟨h1, h2, h3⟩; exact ⟨h1, fun e => h3 (by omega)⟩
theorem wo_root {i a : Nat} (hi : i < G.n) : (a : Int) ∈ (G.wo i).roots ↔ (a : Int) ∈ G.roots ∧ a ≠ i := by
  show (a : Int) ∈ G.keepL i G.roots ↔ _
  rw [keepL_mem]
  constructor
  · rintro ⟨h1, h2⟩; exact ⟨h1, fun e => h2 ⟨by omega, by omega, by omega⟩⟩
  · rintro ⟨h1, h2⟩; exact ⟨h1, fun e => h2 (by omega)⟩
theorem av_self {i : Nat} (hi : i < G.n) : (G.wo i).rch i = false := by
  cases h : (G.wo i).rch i with
  | false => rfl
  | true =>
    have := rch_ind (G := G.wo i) (p := fun j => j ≠ i) (fun j _ hr => ((wo_root hi).1 hr).2) (fun a b ha _ he _ => ((wo_edge (by have := rch_node ha; rw [wo_n] at this; exact this) hi).1 he).2.2) h
    exact absurd rfl this
theorem av_root {i j : Nat} (hi : i < G.n) (hj : j < G.n) (hr : (j : Int) ∈ G.roots) (hne : j ≠ i) : (G.wo i).rch j = true := rch_root (by rw [wo_n]; exact hj) ((wo_root hi).2 ⟨hr, hne⟩)
theorem av_edge {i a b : Nat} (hi : i < G.n) (ha : (G.wo i).rch a = true) (he : G.edge a b = true) (hb : b < G.n) (hne : b ≠ i) : (G.wo i).rch b = true := by
  have hai : a ≠ i := by rintro rfl; rw [av_self hi] at ha; cases ha
  have han : a < G.n := by have := rch_node ha; rw [wo_n] at this; exact this
  exact rch_edge ha ((wo_edge han hi).2 ⟨he, hai, hne⟩) (by rw [wo_n]; exact hb)
theorem av_le {i j : Nat} (hi : i < G.n) (h : (G.wo i).rch j = true) : G.rch j = true := by
  refine rch_ind (G := G.wo i) (p := fun j => G.rch j = true) (fun j hj hr => ?_) (fun a b ha ih he hb => ?_) h
  · rw [wo_n] at hj; exact rch_root hj ((wo_root hi).1 hr).1
  · have han : a < G.n := by have := rch_node ha; rw [wo_n] at this; exact this
    rw [wo_n] at hb
    exact rch_edge ih ((wo_edge han hi).1 he).1 hb
/-- Does one node hold another one? -/
def Gr.hold (G : Gr) (i j : Nat) : Bool := decide (i < G.n) && G.rch j && !(G.wo i).rch j
theorem hold_iff {i j : Nat} : G.hold i j = true ↔ i < G.n ∧ G.rch j = true ∧ (G.wo i).rch j = false := by simp [Gr.hold, and_assoc]
/-- Who holds a node can be reached. -/
theorem hold_rch {i j : Nat} (h : G.hold i j = true) : G.rch i = true := by
  obtain ⟨hi, hj, ha⟩ := hold_iff.1 h
  cases hr : G.rch i with
  | true => rfl
  | false =>
    have : (G.wo i).rch j = true := by
      refine rch_ind (G := G) (p := fun j => (G.wo i).rch j = true) (fun j hj hr' => ?_) (fun a b hra ih he hb => ?_) hj
      · refine av_root hi hj hr' ?_
        rintro rfl
        rw [rch_root hj hr'] at hr; cases hr
      · refine av_edge hi ih he hb ?_
        rintro rfl
        rw [rch_edge hra he hb] at hr; cases hr
    rw [ha] at this; cases this
theorem hold_self {i : Nat} (hi : i < G.n) : G.hold i i = G.rch i := by
  simp [Gr.hold, hi, av_self hi]
theorem hold_total {i j k : Nat} (h1 : G.hold i k = true) (h2 : G.hold j k = true) : G.hold i j = true ∨ G.hold j i = true := by
  obtain ⟨hi, hk, a1⟩ := hold_iff.1 h1
  obtain ⟨hj, _, a2⟩ := hold_iff.1 h2
  have ri := hold_rch h1
  have rj := hold_rch h2
  by_cases hij : i = j
  · subst hij; left; rw [hold_self hi]; exact ri
  cases c1 : G.hold i j with
  | true => exact .inl rfl
  | false =>
    cases c2 : G.hold j i with
    | true => exact .inr rfl
    | false =>
      have v1 : (G.wo i).rch j = true := by simpa [Gr.hold, hi, rj] using c1
      have v2 : (G.wo j).rch i = true := by simpa [Gr.hold, hj, ri] using c2
      have key : (G.wo i).rch k = true ∨ (G.wo j).rch k = true := by
        refine rch_ind (G := G) (p := fun k => (G.wo i).rch k = true ∨ (G.wo j).rch k = true) (fun r hr hrr => ?_) (fun a b ha ih he hb => ?_) hk
        · by_cases c : r = i
          · subst c; exact .inr v2
          · exact .inl (av_root hi hr hrr c)
        · rcases ih with ih | ih
          · by_cases c : b = i
            · subst c; exact .inr v2
            · exact .inl (av_edge hi ih he hb c)
          · by_cases c : b = j
            · subst c; exact .inl v1
            · exact .inr (av_edge hj ih he hb c)
      rw [a1, a2] at key
      simp at key
theorem hold_trans {i j k : Nat} (h1 : G.hold i j = true) (h2 : G.hold j k = true) : G.hold i k = true := by
  obtain ⟨hi, hj, a1⟩ := hold_iff.1 h1
  obtain ⟨hjn, hk, a2⟩ := hold_iff.1 h2
  refine hold_iff.2 ⟨hi, hk, ?_⟩
  cases c : (G.wo i).rch k with
  | false => rfl
  | true =>
    have := rch_ind (G := G.wo i) (p := fun k => (G.wo j).rch k = true) (fun r hr hrr => ?_) (fun a b ha ih he hb => ?_) c
    · rw [a2] at this; cases this
    · rw [wo_n] at hr
      have hr' := (wo_root hi).1 hrr
      refine av_root hjn hr hr'.1 ?_
      rintro rfl
      rw [av_root hi hr hr'.1 hr'.2] at a1; cases a1
    · rw [wo_n] at hb
      have han : a < G.n := by have := rch_node ha; rw [wo_n] at this; exact this
      have he' := (wo_edge han hi).1 he
      refine av_edge hjn ih he'.1 hb ?_
      rintro rfl
      rw [av_edge hi ha he'.1 hb he'.2.2] at a1; cases a1
theorem hold_antisymm {i j : Nat} (h1 : G.hold i j = true) (h2 : G.hold j i = true) : i = j := by
  obtain ⟨hi, rj, a1⟩ := hold_iff.1 h1
  obtain ⟨hj, ri, a2⟩ := hold_iff.1 h2
  by_cases hij : i = j
  · exact hij
  have key : ∀ k, G.rch k = true → ((G.wo i).rch k = true ∧ (G.wo j).rch k = true) ∨ ((G.wo i).rch j = true ∨ (G.wo j).rch i = true) := fun k hk => by
    refine rch_ind (G := G) (p := fun k => ((G.wo i).rch k = true ∧ (G.wo j).rch k = true) ∨ ((G.wo i).rch j = true ∨ (G.wo j).rch i = true)) (fun r hr hrr => ?_) (fun a b ha ih he hb => ?_) hk
    · by_cases c : r = i
      · subst c; exact .inr (.inr (av_root hj hr hrr hij))
      · by_cases c' : r = j
        · subst c'; exact .inr (.inl (av_root hi hr hrr c))
        · exact .inl ⟨av_root hi hr hrr c, av_root hj hr hrr c'⟩
    · rcases ih with ⟨x, y⟩ | ih
      · by_cases c : b = i
        · subst c; exact .inr (.inr (av_edge hj y he hb hij))
        · by_cases c' : b = j
          · subst c'; exact .inr (.inl (av_edge hi x he hb c))
          · exact .inl ⟨av_edge hi x he hb c, av_edge hj y he hb c'⟩
      · exact .inr ih
  rcases key i ri with ⟨x, _⟩ | x | x
  · rw [av_self hi] at x; cases x
  · rw [a1] at x; cases x
  · rw [a2] at x; cases x
/-! ### What one holds, as a list; each one's holder -/
def Gr.heldN (G : Gr) (i : Nat) : List Nat := (List.range G.n).filter fun j => G.hold i j
theorem heldN_mem {i j : Nat} : j ∈ G.heldN i ↔ G.hold i j = true := by
  unfold Gr.heldN
  rw [List.mem_filter, List.mem_range]
  exact ⟨fun h => h.2, fun h => ⟨rch_node (hold_iff.1 h).2.1, h⟩⟩
theorem filter_lt {p q : Nat → Bool} : ∀ (l : List Nat), (∀ x ∈ l, p x = true → q x = true) → ∀ y ∈ l, q y = true → p y = false → (l.filter p).length < (l.filter q).length
  | [], _, y, hy, _, _ => by simp at hy
  | a :: l, h, y, hy, h1, h2 => by
    have hle : (l.filter p).length ≤ (l.filter q).length := by
      clear hy
      induction l with
      | nil => simp
      | cons b l ih =>
        have ih := ih fun x hx => h x (by simp at hx; rcases hx with rfl | hx; simp; simp [hx])
        have hb := h b (by simp)
        cases hp : p b with
        | true => simp [List.filter_cons, hp, hb hp]; exact ih
        | false => cases hq : q b with
          | true => simp [List.filter_cons, hp, hq]; omega
          | false => simp [List.filter_cons, hp, hq]; exact ih
    rcases List.mem_cons.1 hy with rfl | hy
    · simp [List.filter_cons, h1, h2]; omega
    · have ih := filter_lt l (fun x hx => h x (by simp [hx])) y hy h1 h2
      have ha := h a (by simp)
      cases hp : p a with
      | true => simp [List.filter_cons, hp, ha hp]; exact ih
      | false => cases hq : q a with
        | true => simp [List.filter_cons, hp, hq]; omega
        | false => simp [List.filter_cons, hp, hq]; exact ih
theorem held_lt {i m : Nat} (h : G.hold m i = true) (hne : i ≠ m) : (G.heldN i).length < (G.heldN m).length := by
  refine filter_lt _ (fun x _ hx => hold_trans h hx) m ?_ ?_ ?_
  · exact List.mem_range.2 (hold_iff.1 h).1
  · rw [hold_self (hold_iff.1 h).1]; exact hold_rch h
  · cases c : G.hold i m with
    | false => rfl
    | true => exact absurd (hold_antisymm c h) hne
/-- The nearest holder among the first m nodes. -/
def Gr.best (G : Gr) (j : Nat) : Nat → Int
  | 0 => -1
  | m + 1 => if m ≠ j ∧ G.hold m j = true ∧ (G.best j m = -1 ∨ (G.heldN m).length < (G.heldN (G.best j m).toNat).length) then (m : Int) else G.best j m
theorem best_ok (j : Nat) : ∀ m, (G.best j m = -1 ∧ ∀ i, i < m → i ≠ j → G.hold i j = false) ∨
    (0 ≤ G.best j m ∧ G.best j m < m ∧ (G.best j m).toNat ≠ j ∧ G.hold (G.best j m).toNat j = true ∧ ∀ i, i < m → i ≠ j → G.hold i j = true → (G.heldN (G.best j m).toNat).length ≤ (G.heldN i).length)
  | 0 => .inl ⟨rfl, fun i hi => by omega⟩
  | m + 1 => by
    have ih := best_ok j m
    simp only [Gr.best]
    by_cases c : m ≠ j ∧ G.hold m j = true ∧ (G.best j m = -1 ∨ (G.heldN m).length < (G.heldN (G.best j m).toNat).length)
    · rw [if_pos c]
      refine .inr ⟨by omega, by omega, by simpa using c.1, by simpa using c.2.1, fun i hi hij hh => ?_⟩
      rw [Int.toNat_natCast]
      rcases Nat.lt_or_ge i m with d | d
      · rcases ih with ⟨e, ih⟩ | ⟨e1, e2, e3, e4, ih⟩
        · rw [ih i d hij] at hh; cases hh
        · have := ih i d hij hh
          rcases c.2.2 with f | f <;> omega
      · obtain rfl : i = m := by omega
        exact Nat.le_refl _
    · rw [if_neg c]
      rcases ih with ⟨e, ih⟩ | ⟨e1, e2, e3, e4, ih⟩
      · refine .inl ⟨e, fun i hi hij => ?_⟩
        rcases Nat.lt_or_ge i m with d | d
        · exact ih i d hij
        · obtain rfl : i = m := by omega
          cases hh : G.hold i j with
          | false => rfl
          | true => exact absurd ⟨hij, hh, .inl e⟩ c
      · refine .inr ⟨e1, by omega, e3, e4, fun i hi hij hh => ?_⟩
        rcases Nat.lt_or_ge i m with d | d
        · exact ih i d hij hh
        · obtain rfl : i = m := by omega
          have : ¬ ((G.heldN i).length < (G.heldN (G.best j i).toNat).length) := fun f => c ⟨hij, hh, .inr f⟩
          omega
def Gr.holderL (G : Gr) : List Int := (List.range G.n).map fun j => if G.rch j = true then G.best j G.n else -2
/-- All others that hold a node hold its holder. -/
theorem best_hold {i j : Nat} (hij : i ≠ j) (h : G.hold i j = true) : 0 ≤ G.best j G.n ∧ G.hold i (G.best j G.n).toNat = true := by
  have hi := (hold_iff.1 h).1
  rcases best_ok (G := G) j G.n with ⟨_, e⟩ | ⟨e1, e2, e3, e4, e5⟩
  · rw [e i hi hij] at h; cases h
  · refine ⟨e1, ?_⟩
    rcases hold_total h e4 with c | c
    · exact c
    · by_cases hm : i = (G.best j G.n).toNat
      · rw [← hm, hold_self hi]; exact hold_rch h
      · have := held_lt c hm
        have := e5 i hi hij h
        omega
theorem best_none {j : Nat} (h : ∀ i, i < G.n → i ≠ j → G.hold i j = false) : G.best j G.n = -1 := by
  rcases best_ok (G := G) j G.n with ⟨e, _⟩ | ⟨e1, e2, e3, e4, e5⟩
  · exact e
  · rw [h _ (by omega) e3] at e4; cases e4
theorem best_some {i j : Nat} (hij : i ≠ j) (h : G.hold i j = true) : G.best j G.n ≠ j ∧ G.best j G.n < G.n ∧ G.hold (G.best j G.n).toNat j = true := by
  have hi := (hold_iff.1 h).1
  rcases best_ok (G := G) j G.n with ⟨_, e⟩ | ⟨e1, e2, e3, e4, e5⟩
  · rw [e i hi hij] at h; cases h
  · exact ⟨fun c => e3 (by omega), e2, e4⟩
end Go.Proofs.YtfhgjncbhjjbfaaV
