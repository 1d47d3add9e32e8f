/- Images: objects, one behind the other; which of them words lead to, and in which order. Plain Lean. · Images: objects laid in a new order; what is laid is an image of the same. Plain Lean. · Images: what they show, copied or slid. Plain Lean. -/
import Derived.Test.YtfjilngljnlkjaaWord1
namespace Go.Proofs.YtfjilngljnlkjaaV
open Go Go.Proofs
set_option linter.unusedVariables false
set_option linter.unusedSimpArgs false
/-! ### 1. Words -/
/-- The address that a word refers to. -/
def wRef (w : Int) : Option Nat := if chk (rdK w) (rdN w) = 0 ∧ rdK w = 2 then some (rdN w).toNat else none
def okW (w : Int) : Bool := decide (chk (rdK w) (rdN w) = 0)
theorem wRef_some {w : Int} {a : Nat} : wRef w = some a ↔ w = 2 * (a : Int) + 2 ∧ a < 2048 := by
  unfold wRef rdK rdN
  by_cases o : w % 2 = 1
  · simp only [if_pos o]
    constructor
    · intro h; simp at h
    · intro h; omega
  · simp only [if_neg o]
    by_cases z : w = 0
    · simp only [if_pos z]
      constructor
      · intro h; simp at h
      · intro h; omega
    · simp only [if_neg z, tdiv2 w (by omega)]
      unfold chk
      simp only [show ¬ (2 : Int) = 0 by decide, show ¬ (2 : Int) = 1 by decide, if_false, if_true, and_true]
      by_cases c : 0 ≤ w / 2 - 1 ∧ w / 2 - 1 < 2048
      · rw [if_pos c, if_pos rfl]
        simp only [Option.some.injEq]
        omega
      · rw [if_neg c, if_neg (by decide)]
        simp only [reduceCtorEq, false_iff]
        omega
theorem wRef_ok {w : Int} {a : Nat} (h : wRef w = some a) : okW w = true ∧ rdK w = 2 ∧ rdN w = (a : Int) := by
  unfold wRef at h
  split at h
  · rename_i c
    refine ⟨by simp [okW, c.1], c.2, ?_⟩
    simp only [Option.some.injEq] at h
    have := c.1
    rw [c.2] at this
    unfold chk at this
    simp only [show ¬ (2 : Int) = 0 by decide, show ¬ (2 : Int) = 1 by decide, if_false, if_true] at this
    split at this
    · omega
    · cases this
  · cases h
theorem wRef_put {a : Nat} (h : a < 2048) : wRef (2 * (a : Int) + 2) = some a := wRef_some.2 ⟨rfl, h⟩
theorem wRef_none {w : Int} (h : wRef w = none) (ho : okW w = true) : rdK w ≠ 2 := by
  intro c
  unfold wRef at h
  rw [if_pos ⟨of_decide_eq_true ho, c⟩] at h
  cases h
/-! ### 2. Objects -/
structure Ob where
  at_ : Nat
  ser : Int
  fs : List Int
def Ob.sz (o : Ob) : Nat := 1 + o.fs.length
def Ob.hd (o : Ob) : Int := o.ser * 128 + (o.fs.length : Int)
/-- Words as objects, one behind the other. -/
inductive Spl : Nat → List Int → List Ob → Prop where
  | nil {at_ : Nat} : Spl at_ [] []
  | cons {at_ : Nat} {o : Ob} {t : List Int} {m : List Ob} : o.at_ = at_ → 0 ≤ o.ser → o.ser < 1099511627776 → o.fs.length ≤ 127 → Spl (at_ + o.sz) t m → Spl at_ (o.hd :: (o.fs ++ t)) (o :: m)
theorem hd_div {o : Ob} (h : o.fs.length ≤ 127) : o.hd / 128 = o.ser ∧ o.hd % 128 = (o.fs.length : Int) := by unfold Ob.hd; omega
theorem Spl.det : ∀ {at_ : Nat} {l : List Int} {m m' : List Ob}, Spl at_ l m → Spl at_ l m' → m = m'
  | _, _, _, m', .nil, h' => by generalize e : ([] : List Int) = l at h'; cases h' with
    | nil => rfl
    | cons => cases e
  | at_, _, _, m', @Spl.cons _ o t m h1 h2 h3 h4 h5, h' => by
    generalize e : o.hd :: (o.fs ++ t) = l at h'
    cases h' with
    | nil => cases e
    | @cons _ o' t' m2 g1 g2 g3 g4 g5 =>
      simp only [List.cons.injEq] at e
      obtain ⟨e1, e2⟩ := e
      have d1 := hd_div h4
      have d2 := hd_div g4
      rw [e1] at d1
      have e3 : o.fs.length = o'.fs.length := by omega
      obtain ⟨e4, e5⟩ := List.append_inj e2 e3
      have e6 : o = o' := by
        have e7 : o.ser = o'.ser := by omega
        have e8 := h1.trans g1.symm
        cases o; cases o'
        simp only [Ob.mk.injEq]
        exact ⟨e8, e7, e4⟩
      subst e6
      subst e5
      rw [h5.det g5]
theorem Spl.sum : ∀ {at_ : Nat} {l : List Int} {m : List Ob}, Spl at_ l m → (m.map Ob.sz).sum = l.length
  | _, _, _, .nil => rfl
  | _, _, _, .cons _ _ _ _ h5 => by
    have := h5.sum
    simp only [List.map_cons, List.sum_cons, List.length_cons, List.length_append, this, Ob.sz]
    omega
theorem Spl.len {at_ : Nat} {l : List Int} {m : List Ob} (h : Spl at_ l m) : m.length ≤ l.length := by
  rw [← h.sum]
  clear h
  induction m with
  | nil => simp
  | cons o m ih => simp only [List.map_cons, List.sum_cons, List.length_cons, Ob.sz]; omega
structure ObAt (at_ : Nat) (l : List Int) (o : Ob) : Prop where
  ge : at_ ≤ o.at_
  hd : l[o.at_ - at_]? = some o.hd
  fs : (l.drop (o.at_ - at_ + 1)).take o.fs.length = o.fs
  end_ : o.at_ - at_ + 1 + o.fs.length ≤ l.length
  s0 : 0 ≤ o.ser
  s1 : o.ser < 1099511627776
  n : o.fs.length ≤ 127
theorem Spl.get : ∀ {at_ : Nat} {l : List Int} {m : List Ob}, Spl at_ l m → ∀ i (h : i < m.length), ObAt at_ l m[i] ∧ m[i].at_ = at_ + ((m.take i).map Ob.sz).sum
  | _, _, _, .nil, i, h => by simp at h
  | at_, _, _, @Spl.cons _ o t m h1 h2 h3 h4 h5, 0, _ => by
    refine ⟨⟨?_, ?_, ?_, ?_, h2, h3, h4⟩, by simp [h1]⟩
    · simp [h1]
    · simp [h1]
    · simp [h1]
    · simp [h1]; omega
  | at_, _, _, @Spl.cons _ o t m h1 h2 h3 h4 h5, i + 1, h => by
    have hi : i < m.length := by simpa using h
    obtain ⟨g, e⟩ := h5.get i hi
    have e1 := g.ge
    have hsz : o.sz = 1 + o.fs.length := rfl
    simp only [List.getElem_cons_succ]
    have ea : m[i].at_ - at_ = o.fs.length + 1 + (m[i].at_ - (at_ + o.sz)) := by omega
    refine ⟨⟨by omega, ?_, ?_, ?_, g.s0, g.s1, g.n⟩, ?_⟩
    · rw [ea, Nat.add_right_comm, List.getElem?_cons_succ, List.getElem?_append_right (by omega), ← g.hd]
      congr 1
      omega
    · rw [ea, ← g.fs]
      simp only [g.fs]
      rw [show o.fs.length + 1 + (m[i].at_ - (at_ + o.sz)) + 1 = (o.fs.length + (m[i].at_ - (at_ + o.sz) + 1)) + 1 by omega, List.drop_succ_cons, List.drop_append, List.drop_of_length_le (by omega), List.nil_append]
      rw [show o.fs.length + (m[i].at_ - (at_ + o.sz) + 1) - o.fs.length = m[i].at_ - (at_ + o.sz) + 1 by omega]
      exact g.fs
    · have := g.end_
      simp only [List.length_cons, List.length_append]
      omega
    · rw [e]
      simp only [List.take_succ_cons, List.map_cons, List.sum_cons]
      omega
theorem sum_take_lt {m : List Ob} {i j : Nat} (h : i < j) (hj : j ≤ m.length) : ((m.take i).map Ob.sz).sum < ((m.take j).map Ob.sz).sum := by
  induction m generalizing i j with
  | nil => simp at hj; omega
  | cons o m ih =>
    cases j with
    | zero => omega
    | succ j =>
      cases i with
      | zero => simp only [List.take_zero, List.map_nil, List.sum_nil, List.take_succ_cons, List.map_cons, List.sum_cons, Ob.sz]; omega
      | succ i =>
        simp only [List.take_succ_cons, List.map_cons, List.sum_cons]
        have := ih (i := i) (j := j) (by omega) (by simpa using hj)
        omega
theorem Spl.mono {at_ : Nat} {l : List Int} {m : List Ob} (h : Spl at_ l m) {i j : Nat} (hi : i < j) (hj : j < m.length) : (m[i]'(by omega)).at_ < m[j].at_ := by
  rw [(h.get i (by omega)).2, (h.get j hj).2]
  have := sum_take_lt (m := m) hi (by omega)
  omega
/-- An object's place. -/
def pl (m : List Ob) (a : Nat) : Option Nat := m.findIdx? fun o => o.at_ == a
theorem pl_some {m : List Ob} {a i : Nat} (h : pl m a = some i) : ∃ h' : i < m.length, (m[i]'h').at_ = a ∧ ∀ j (hj : j < m.length), j < i → m[j].at_ ≠ a := by
  unfold pl at h
  rw [List.findIdx?_eq_some_iff_getElem] at h
  obtain ⟨h1, h2, h3⟩ := h
  exact ⟨h1, by simpa using h2, fun j hj hji => by simpa using h3 j hji⟩
theorem pl_none {m : List Ob} {a : Nat} : pl m a = none ↔ ∀ o ∈ m, o.at_ ≠ a := by
  unfold pl
  rw [List.findIdx?_eq_none_iff]
  exact ⟨fun h x hx => by simpa using h x hx, fun h x hx => by simpa using h x hx⟩
theorem Spl.pl {at_ : Nat} {l : List Int} {m : List Ob} (h : Spl at_ l m) {i : Nat} (hi : i < m.length) : pl m (m[i]'hi).at_ = some i := by
  unfold _root_.Go.Proofs.YtfjilngljnlkjaaV.pl
  rw [List.findIdx?_eq_some_iff_getElem]
  refine ⟨hi, by simp, fun j hj => ?_⟩
  have := h.mono hj hi
  simp
  omega
/-- Is it a value's word, that leads to an object, if to anything? -/
def fineW (m : List Ob) (w : Int) : Bool := okW w && match wRef w with
  | some a => (pl m a).isSome
  | none => true
def fineL (m : List Ob) (l : List Int) : Prop := ∀ w ∈ l, fineW m w = true
def fineM (m : List Ob) : Prop := ∀ o ∈ m, fineL m o.fs
theorem fine_ok {m : List Ob} {w : Int} (h : fineW m w = true) : okW w = true := by
  unfold fineW at h
  rw [Bool.and_eq_true] at h
  exact h.1
/-- The place that a word leads to. -/
def wPl (m : List Ob) (w : Int) : Option Nat := (wRef w).bind (pl m)
theorem fine_pl {m : List Ob} {w : Int} {a : Nat} (h : fineW m w = true) (ha : wRef w = some a) : ∃ p, pl m a = some p ∧ wPl m w = some p := by
  unfold fineW at h
  rw [Bool.and_eq_true, ha] at h
  obtain ⟨p, hp⟩ := Option.isSome_iff_exists.1 h.2
  exact ⟨p, hp, by simp [wPl, ha, hp]⟩
theorem wPl_none {m : List Ob} {w : Int} (h : wRef w = none) : wPl m w = none := by simp [wPl, h]
theorem wPl_lt {m : List Ob} {w : Int} {p : Nat} (h : wPl m w = some p) : p < m.length := by
  unfold wPl at h
  cases hr : wRef w with
  | none => rw [hr] at h; cases h
  | some a =>
    rw [hr] at h
    obtain ⟨h1, _⟩ := pl_some h
    exact h1
/-! ### 3. Which are met, and in which order -/
def serA (m : List Ob) (p : Nat) : Int := (m[p]?.map Ob.ser).getD 0
def fsA (m : List Ob) (p : Nat) : List Int := (m[p]?.map Ob.fs).getD []
def szA (m : List Ob) (p : Nat) : Nat := 1 + (fsA m p).length
def hdA (m : List Ob) (p : Nat) : Int := serA m p * 128 + ((fsA m p).length : Int)
theorem fsA_get {m : List Ob} {p : Nat} (h : p < m.length) : fsA m p = m[p].fs := by simp [fsA, List.getElem?_eq_getElem h]
theorem serA_get {m : List Ob} {p : Nat} (h : p < m.length) : serA m p = m[p].ser := by simp [serA, List.getElem?_eq_getElem h]
theorem hdA_get {m : List Ob} {p : Nat} (h : p < m.length) : hdA m p = m[p].hd := by simp [hdA, fsA_get h, serA_get h, Ob.hd]
theorem szA_get {m : List Ob} {p : Nat} (h : p < m.length) : szA m p = m[p].sz := by simp [szA, fsA_get h, Ob.sz]
def vis1 (m : List Ob) (o : List Nat) (w : Int) : List Nat := match wPl m w with
  | some p => if p ∈ o then o else o ++ [p]
  | none => o
def vis (m : List Ob) (o : List Nat) (ws : List Int) : List Nat := ws.foldl (vis1 m) o
def bfs (m : List Ob) : Nat → List Nat → Nat → List Nat
  | 0, o, _ => o
  | f + 1, o, k => match o[k]? with
    | some p => bfs m f (vis m o (fsA m p)) (k + 1)
    | none => o
def ordO (m : List Ob) (roots : List Int) : List Nat := bfs m (m.length + 1) (vis m [] roots) 0
/-- Places, each once. -/
def Pls (m : List Ob) (o : List Nat) : Prop := o.Nodup ∧ ∀ p ∈ o, p < m.length
theorem Pls.nil (m : List Ob) : Pls m [] := ⟨by simp, by simp⟩
theorem nodup_lt_len : ∀ (n : Nat) (l : List Nat), l.Nodup → (∀ x ∈ l, x < n) → l.length ≤ n
  | 0, l, _, h => by
    cases l with
    | nil => simp
    | cons x l => have := h x (by simp); omega
  | n + 1, l, hd, h => by
    by_cases hn : n ∈ l
    · have ih := nodup_lt_len n (l.erase n) (hd.erase n) fun x hx => by
        have h1 := (List.Nodup.mem_erase_iff hd).1 hx
        have := h x h1.2
        have := h1.1
        omega
      rw [List.length_erase_of_mem hn] at ih
      omega
    · have ih := nodup_lt_len n l hd fun x hx => by
        have := h x hx
        have : x ≠ n := fun e => hn (e ▸ hx)
        omega
      omega
theorem Pls.len {m : List Ob} {o : List Nat} (h : Pls m o) : o.length ≤ m.length := nodup_lt_len _ o h.1 h.2
theorem vis1_pre (m : List Ob) (o : List Nat) (w : Int) : o <+: vis1 m o w := by
  unfold vis1
  split
  · split
    · exact List.prefix_refl _
    · exact List.prefix_append _ _
  · exact List.prefix_refl _
theorem vis_pre (m : List Ob) (ws : List Int) : ∀ o, o <+: vis m o ws := by
  induction ws with
  | nil => exact fun o => List.prefix_refl _
  | cons w ws ih => exact fun o => (vis1_pre m o w).trans (ih _)
theorem Pls.vis1 {m : List Ob} {o : List Nat} (h : Pls m o) (w : Int) : Pls m (vis1 m o w) := by
  unfold _root_.Go.Proofs.YtfjilngljnlkjaaV.vis1
  split
  · rename_i p hp
    split
    · exact h
    · rename_i hn
      refine ⟨?_, fun q hq => ?_⟩
      · rw [List.nodup_append]
        exact ⟨h.1, by simp, fun a ha b hb e => by simp at hb; subst hb; subst e; exact hn ha⟩
      · rcases List.mem_append.1 hq with c | c
        · exact h.2 q c
        · simp at c
          subst c
          exact wPl_lt hp
  · exact h
theorem Pls.vis {m : List Ob} (ws : List Int) : ∀ {o : List Nat}, Pls m o → Pls m (vis m o ws) := by
  induction ws with
  | nil => exact fun h => h
  | cons w ws ih => exact fun h => ih (h.vis1 w)
theorem vis_mem {m : List Ob} {q : Nat} (ws : List Int) : ∀ {o : List Nat}, q ∈ vis m o ws ↔ q ∈ o ∨ ∃ w ∈ ws, wPl m w = some q := by
  induction ws with
  | nil => intro o; simp [vis]
  | cons w ws ih =>
    intro o
    show q ∈ vis m (vis1 m o w) ws ↔ _
    rw [ih]
    have h1 : q ∈ vis1 m o w ↔ q ∈ o ∨ wPl m w = some q := by
      unfold vis1
      split
      · rename_i p hp
        split
        · rename_i hm
          exact ⟨.inl, fun h => h.elim id fun e => by rw [hp] at e; simp only [Option.some.injEq] at e; subst e; exact hm⟩
        · rw [List.mem_append, hp]
          simp only [List.mem_singleton, Option.some.injEq]
          exact ⟨fun h => h.imp id Eq.symm, fun h => h.imp id Eq.symm⟩
      · rename_i hp
        rw [hp]
        simp
    rw [h1]
    simp only [List.mem_cons, exists_eq_or_imp]
    exact or_assoc
theorem bfs_pre (m : List Ob) : ∀ (f : Nat) (o : List Nat) (k : Nat), o <+: bfs m f o k
  | 0, o, _ => List.prefix_refl _
  | f + 1, o, k => by
    unfold bfs
    split
    · exact (vis_pre m _ o).trans (bfs_pre m f _ _)
    · exact List.prefix_refl _
theorem Pls.bfs {m : List Ob} : ∀ (f : Nat) {o : List Nat} (k : Nat), Pls m o → Pls m (bfs m f o k)
  | 0, o, _, h => h
  | f + 1, o, k, h => by
    unfold _root_.Go.Proofs.YtfjilngljnlkjaaV.bfs
    split
    · exact Pls.bfs f _ (h.vis _)
    · exact h
/-- All that those from a place on lead to is there, when it is done. -/
theorem bfs_closed {m : List Ob} : ∀ (f : Nat) {o : List Nat} (k : Nat), Pls m o → m.length < k + f → (∀ i p, i < k → o[i]? = some p → ∀ w ∈ fsA m p, ∀ q, wPl m w = some q → q ∈ o) → ∀ p ∈ bfs m f o k, ∀ w ∈ fsA m p, ∀ q, wPl m w = some q → q ∈ bfs m f o k
  | 0, o, k, h, hf, hd, p, hp, w, hw, q, hq => by
    obtain ⟨i, hi, rfl⟩ := List.getElem_of_mem hp
    have hi' : i < o.length := hi
    have := h.len
    exact hd i _ (by omega) (List.getElem?_eq_getElem hi') w hw q hq
  | f + 1, o, k, h, hf, hd, p, hp, w, hw, q, hq => by
    unfold bfs at hp ⊢
    cases ho : o[k]? with
    | none =>
      rw [ho] at hp
      simp only at hp ⊢
      obtain ⟨i, hi, rfl⟩ := List.getElem_of_mem hp
      have hk : o.length ≤ k := by
        rcases Nat.lt_or_ge k o.length with c | c
        · rw [List.getElem?_eq_getElem c] at ho; cases ho
        · exact c
      exact hd i _ (by omega) (List.getElem?_eq_getElem hi) w hw q hq
    | some x =>
      rw [ho] at hp
      simp only at hp ⊢
      refine bfs_closed f (k + 1) (h.vis _) (by omega) (fun i y hi hy w hw q hq => ?_) p hp w hw q hq
      have hp1 := vis_pre m (fsA m x) o
      have hol : k < o.length := (List.getElem?_eq_some_iff.1 ho).1
      have hi' : i < o.length := by omega
      have e : (vis m o (fsA m x))[i]? = o[i]? := by
        obtain ⟨t, ht⟩ := hp1
        rw [← ht, List.getElem?_append_left hi']
      rw [e] at hy
      by_cases c : i = k
      · subst c
        rw [ho] at hy
        simp only [Option.some.injEq] at hy
        subst hy
        exact (vis_mem _).2 (.inr ⟨w, hw, hq⟩)
      · exact (vis_mem _).2 (.inl (hd i y (by omega) hy w hw q hq))
theorem bfs_fuel {m : List Ob} : ∀ (f g : Nat) {o : List Nat} (k : Nat), Pls m o → m.length < k + f → m.length < k + g → bfs m f o k = bfs m g o k
  | 0, 0, _, _, _, _, _ => rfl
  | 0, g + 1, o, k, h, hf, hg => by
    have := h.len
    unfold bfs
    rw [List.getElem?_eq_none (by omega)]
  | f + 1, 0, o, k, h, hf, hg => by
    have := h.len
    unfold bfs
    rw [List.getElem?_eq_none (by omega)]
  | f + 1, g + 1, o, k, h, hf, hg => by
    unfold bfs
    split
    · exact bfs_fuel f g (k + 1) (h.vis _) (by omega) (by omega)
    · rfl
theorem ordO_pls (m : List Ob) (roots : List Int) : Pls m (ordO m roots) := Pls.bfs _ _ ((Pls.nil m).vis _)
theorem ordO_root {m : List Ob} {roots : List Int} {w : Int} {q : Nat} (hw : w ∈ roots) (h : wPl m w = some q) : q ∈ ordO m roots := (bfs_pre m _ _ _).subset ((vis_mem _).2 (.inr ⟨w, hw, h⟩))
theorem ordO_closed {m : List Ob} {roots : List Int} {p : Nat} (hp : p ∈ ordO m roots) {w : Int} {q : Nat} (hw : w ∈ fsA m p) (h : wPl m w = some q) : q ∈ ordO m roots :=
  bfs_closed _ 0 ((Pls.nil m).vis _) (by omega) (fun i _ hi => by omega) p hp w hw q h
end Go.Proofs.YtfjilngljnlkjaaV
namespace Go.Proofs.YtfjilngljnlkjaaV
open Go Go.Proofs
set_option linter.unusedVariables false
set_option linter.unusedSimpArgs false
/-! ### 1. Where they stand -/
def pos (m : List Ob) : List Nat → Nat → Nat
  | [], _ => 0
  | q :: o, p => if q = p then 0 else szA m q + pos m o p
def szS (m : List Ob) (o : List Nat) : Nat := (o.map (szA m)).sum
theorem szS_app (m : List Ob) (a b : List Nat) : szS m (a ++ b) = szS m a + szS m b := by simp [szS]
theorem szS_one (m : List Ob) (p : Nat) : szS m [p] = szA m p := by simp [szS]
theorem pos_app {m : List Ob} {p : Nat} : ∀ {o x : List Nat}, p ∈ o → pos m (o ++ x) p = pos m o p
  | [], _, h => by cases h
  | q :: o, x, h => by
    simp only [List.cons_append, pos]
    by_cases c : q = p
    · rw [if_pos c, if_pos c]
    · rw [if_neg c, if_neg c, pos_app]
      rcases List.mem_cons.1 h with d | d
      · exact absurd d.symm c
      · exact d
theorem pos_new {m : List Ob} {p : Nat} : ∀ {o x : List Nat}, p ∉ o → pos m (o ++ p :: x) p = szS m o
  | [], x, _ => by simp [pos, szS]
  | q :: o, x, h => by
    have h1 : q ≠ p := fun e => h (by simp [e])
    have h2 : p ∉ o := fun e => h (by simp [e])
    simp only [List.cons_append, pos, if_neg h1, pos_new h2]
    simp [szS]
theorem pos_get {m : List Ob} {o : List Nat} (hd : o.Nodup) {i : Nat} (h : i < o.length) : pos m o o[i] = szS m (o.take i) := by
  have e : o = o.take i ++ o[i] :: o.drop (i + 1) := by rw [List.getElem_cons_drop, List.take_append_drop]
  have hn : o[i] ∉ o.take i := fun c => by
    obtain ⟨j, hj, he⟩ := List.getElem_of_mem c
    rw [List.length_take] at hj
    rw [List.getElem_take] at he
    have := (List.nodup_iff_pairwise_ne.1 hd)
    have := List.pairwise_iff_getElem.1 this j i (by omega) h (by omega)
    exact this he
  conv => lhs; arg 2; rw [e]
  exact pos_new hn
/-- A word, where objects stand in a new order. -/
def movW (m : List Ob) (o : List Nat) (w : Int) : Int := match wPl m w with
  | some p => 2 * (pos m o p : Int) + 2
  | none => w
def layS (m : List Ob) (o S : List Nat) : List Int := S.flatMap fun p => hdA m p :: (fsA m p).map (movW m o)
def lay (m : List Ob) (o : List Nat) : List Int := layS m o o
def cpyS (m : List Ob) (o S : List Nat) : List Ob := S.map fun p => ⟨pos m o p, serA m p, (fsA m p).map (movW m o)⟩
def cpy (m : List Ob) (o : List Nat) : List Ob := cpyS m o o
theorem cpy_len (m : List Ob) (o : List Nat) : (cpy m o).length = o.length := by simp [cpy, cpyS]
theorem layS_len {m : List Ob} {o : List Nat} : ∀ {S : List Nat}, (layS m o S).length = szS m S
  | [] => rfl
  | p :: S => by
    have := layS_len (m := m) (o := o) (S := S)
    simp only [layS, szS, List.flatMap_cons, List.length_append, List.length_cons, List.length_map, List.map_cons, List.sum_cons, szA] at *
    omega
/-- As great as they may be. -/
def Fits (m : List Ob) : Prop := ∀ o ∈ m, 0 ≤ o.ser ∧ o.ser < 1099511627776 ∧ o.fs.length ≤ 127
theorem Spl.fits {at_ : Nat} {l : List Int} {m : List Ob} (h : Spl at_ l m) : Fits m := fun o ho => by
  obtain ⟨i, hi, rfl⟩ := List.getElem_of_mem ho
  obtain ⟨g, _⟩ := h.get i hi
  exact ⟨g.s0, g.s1, g.n⟩
theorem lay_spl {m : List Ob} {o : List Nat} (hF : Fits m) (hP : Pls m o) : ∀ (B A : List Nat), o = A ++ B → Spl (szS m A) (layS m o B) (cpyS m o B)
  | [], A, _ => .nil
  | p :: B, A, e => by
    have ih := lay_spl hF hP B (A ++ [p]) (by rw [e]; simp)
    have hn : p ∉ A := fun c => by
      have := hP.1
      rw [e] at this
      exact (List.nodup_append.1 this).2.2 p c p (by simp) rfl
    have hp : p < m.length := hP.2 p (by rw [e]; simp)
    obtain ⟨b1, b2, b3⟩ := hF m[p] (List.getElem_mem hp)
    have ep : pos m o p = szS m A := by rw [e]; exact pos_new hn
    have := Spl.cons (at_ := szS m A) (o := ⟨pos m o p, serA m p, (fsA m p).map (movW m o)⟩) (t := layS m o B) (m := cpyS m o B) ep (by rw [serA_get hp]; exact b1) (by rw [serA_get hp]; exact b2) (by simp only [List.length_map, fsA_get hp]; exact b3) (by
      rw [szS_app, szS_one] at ih
      have e2 : szS m A + Ob.sz ⟨pos m o p, serA m p, (fsA m p).map (movW m o)⟩ = szS m A + szA m p := by simp [Ob.sz, szA]
      rw [e2]
      exact ih)
    have e3 : Ob.hd ⟨pos m o p, serA m p, (fsA m p).map (movW m o)⟩ = hdA m p := by simp [Ob.hd, hdA]
    rw [e3] at this
    simpa [layS, cpyS] using this
theorem lay_is {m : List Ob} {o : List Nat} (hF : Fits m) (hP : Pls m o) : Spl 0 (lay m o) (cpy m o) := lay_spl hF hP o [] rfl
theorem sum_sub {f : Nat → Nat} : ∀ {o l : List Nat}, o.Nodup → (∀ x ∈ o, x ∈ l) → (o.map f).sum ≤ (l.map f).sum
  | [], l, _, _ => by simp
  | x :: o, l, hd, h => by
    obtain ⟨h1, h2⟩ := List.nodup_cons.1 hd
    have hx := h x (by simp)
    have hp := List.perm_cons_erase hx
    have e : (l.map f).sum = f x + ((l.erase x).map f).sum := by
      have := (hp.map f).sum_nat
      simpa using this
    have ih := sum_sub (f := f) (o := o) (l := l.erase x) h2 fun y hy => (List.mem_erase_of_ne (show y ≠ x from fun e => h1 (by rw [← e]; exact hy))).2 (h y (by simp [hy]))
    simp only [List.map_cons, List.sum_cons]
    omega
theorem range_sz (m : List Ob) : (List.range m.length).map (szA m) = m.map Ob.sz := by
  apply List.ext_getElem
  · simp
  · intro i h1 h2
    have : i < m.length := by simpa using h2
    simp [szA_get this]
theorem Pls.sz {l : List Int} {m : List Ob} {o : List Nat} (hP : Pls m o) (h : Spl 0 l m) : szS m o ≤ l.length := by
  have := sum_sub (f := szA m) (l := List.range m.length) hP.1 fun x hx => List.mem_range.2 (hP.2 x hx)
  rw [range_sz, h.sum] at this
  exact this
theorem pos_lt {m : List Ob} {p : Nat} : ∀ {o : List Nat}, p ∈ o → pos m o p + szA m p ≤ szS m o
  | [], h => by cases h
  | q :: o, h => by
    simp only [pos]
    by_cases c : q = p
    · subst c
      rw [if_pos rfl]
      simp only [szS, List.map_cons, List.sum_cons]
      omega
    · rw [if_neg c]
      have hp : p ∈ o := by
        rcases List.mem_cons.1 h with d | d
        · exact absurd d.symm c
        · exact d
      have := pos_lt (m := m) hp
      simp only [szS, List.map_cons, List.sum_cons] at *
      omega
/-! ### 2. The same objects -/
/-- A new order, of all that its objects, and the roots, lead to. -/
structure Lyd (l : List Int) (m : List Ob) (roots : List Int) (o : List Nat) : Prop where
  spl : Spl 0 l m
  few : l.length ≤ 2048
  fine : fineM m
  fr : fineL m roots
  pls : Pls m o
  root : ∀ w ∈ roots, ∀ p, wPl m w = some p → p ∈ o
  closed : ∀ p ∈ o, ∀ w ∈ fsA m p, ∀ q, wPl m w = some q → q ∈ o
section
variable {l : List Int} {m : List Ob} {roots : List Int} {o : List Nat}
theorem Lyd.fs (h : Lyd l m roots o) {p : Nat} (hp : p ∈ o) : fineL m (fsA m p) := by
  have := h.pls.2 p hp
  rw [fsA_get this]
  exact h.fine _ (List.getElem_mem this)
theorem Lyd.pos (h : Lyd l m roots o) {p : Nat} (hp : p ∈ o) : pos m o p < 2048 := by
  have h1 := pos_lt (m := m) hp
  have h2 := h.pls.sz h.spl
  have h3 := h.few
  have : 1 ≤ szA m p := by unfold szA; omega
  omega
theorem cpy_get (m : List Ob) (o : List Nat) {i : Nat} (hi : i < o.length) (h : i < (cpy m o).length) : (cpy m o)[i] = ⟨_root_.Go.Proofs.YtfjilngljnlkjaaV.pos m o o[i], serA m o[i], (fsA m o[i]).map (movW m o)⟩ := by
  simp [cpy, cpyS]
theorem idx_lt {p : Nat} (hp : p ∈ o) : o.idxOf p < o.length := List.idxOf_lt_length_of_mem hp
theorem idx_get {p : Nat} (hp : p ∈ o) : o[o.idxOf p]'(idx_lt hp) = p := List.getElem_idxOf (idx_lt hp)
theorem idx_inj {p q : Nat} (hp : p ∈ o) (hq : q ∈ o) (h : o.idxOf p = o.idxOf q) : p = q := by
  have h1 := idx_get hp
  have h2 := idx_get hq
  simp only [h] at h1
  exact h1.symm.trans h2
theorem idx_range (hd : o.Nodup) : o.map o.idxOf = List.range o.length := by
  apply List.ext_getElem
  · simp
  · intro i h1 h2
    have hi : i < o.length := by simpa using h2
    simp only [List.getElem_map, List.getElem_range]
    have hm : o[i] ∈ o := List.getElem_mem hi
    have := idx_get hm
    have hne := List.pairwise_iff_getElem.1 (List.nodup_iff_pairwise_ne.1 hd)
    rcases Nat.lt_trichotomy (o.idxOf o[i]) i with c | c | c
    · exact absurd this (hne _ _ (by omega) hi c)
    · exact c
    · exact absurd this.symm (hne _ _ hi (idx_lt hm) c)
theorem Lyd.pl (h : Lyd l m roots o) {p : Nat} (hp : p ∈ o) : pl (cpy m o) (_root_.Go.Proofs.YtfjilngljnlkjaaV.pos m o p) = some (o.idxOf p) := by
  have hs := lay_is h.spl.fits h.pls
  have hi : o.idxOf p < (cpy m o).length := by rw [cpy_len]; exact idx_lt hp
  have := hs.pl hi
  rw [cpy_get m o (idx_lt hp) hi, idx_get hp] at this
  exact this
theorem mov_some {w : Int} {p : Nat} (hw : wPl m w = some p) : movW m o w = 2 * (_root_.Go.Proofs.YtfjilngljnlkjaaV.pos m o p : Int) + 2 := by unfold movW; rw [hw]
theorem mov_none {w : Int} (hw : wPl m w = none) : movW m o w = w := by unfold movW; rw [hw]
theorem fine_none {w : Int} (hf : fineW m w = true) (hw : wPl m w = none) : wRef w = none := by
  cases hr : wRef w with
  | none => rfl
  | some a =>
    obtain ⟨p, _, h2⟩ := fine_pl hf hr
    rw [hw] at h2
    cases h2
theorem Lyd.wpl (h : Lyd l m roots o) {w : Int} (hf : fineW m w = true) (hin : ∀ p, wPl m w = some p → p ∈ o) : wPl (cpy m o) (movW m o w) = (wPl m w).map o.idxOf := by
  cases hw : _root_.Go.Proofs.YtfjilngljnlkjaaV.wPl m w with
  | none => rw [mov_none hw, wPl_none (fine_none hf hw)]; rfl
  | some p =>
    have hp := hin p hw
    rw [mov_some hw]
    show (wRef _).bind _ = _
    rw [wRef_put (h.pos hp)]
    exact h.pl hp
theorem Lyd.fineW (h : Lyd l m roots o) {w : Int} (hf : fineW m w = true) (hin : ∀ p, wPl m w = some p → p ∈ o) : fineW (cpy m o) (movW m o w) = true := by
  cases hw : _root_.Go.Proofs.YtfjilngljnlkjaaV.wPl m w with
  | none =>
    rw [mov_none hw]
    unfold _root_.Go.Proofs.YtfjilngljnlkjaaV.fineW
    rw [fine_none hf hw, fine_ok hf]
    rfl
  | some p =>
    have hp := hin p hw
    rw [mov_some hw]
    unfold _root_.Go.Proofs.YtfjilngljnlkjaaV.fineW
    have e := wRef_put (h.pos hp)
    rw [e, (wRef_ok e).1]
    simp [h.pl hp]
theorem Lyd.fineM (h : Lyd l m roots o) : fineM (cpy m o) := fun ob hob w hw => by
  simp only [cpy, cpyS, List.mem_map] at hob
  obtain ⟨p, hp, rfl⟩ := hob
  simp only [List.mem_map] at hw
  obtain ⟨v, hv, rfl⟩ := hw
  exact h.fineW (h.fs hp v hv) (h.closed p hp v hv)
theorem Lyd.fineR (h : Lyd l m roots o) : fineL (cpy m o) (roots.map (movW m o)) := fun w hw => by
  simp only [List.mem_map] at hw
  obtain ⟨v, hv, rfl⟩ := hw
  exact h.fineW (h.fr v hv) (h.root v hv)
theorem cpy_fs {p : Nat} (hp : p ∈ o) : fsA (cpy m o) (o.idxOf p) = (fsA m p).map (movW m o) := by
  have hi : o.idxOf p < (cpy m o).length := by rw [cpy_len]; exact idx_lt hp
  rw [fsA_get hi, cpy_get m o (idx_lt hp) hi, idx_get hp]
theorem cpy_ser {p : Nat} (hp : p ∈ o) : serA (cpy m o) (o.idxOf p) = serA m p := by
  have hi : o.idxOf p < (cpy m o).length := by rw [cpy_len]; exact idx_lt hp
  rw [serA_get hi, cpy_get m o (idx_lt hp) hi, idx_get hp]
theorem cpy_sz {p : Nat} (hp : p ∈ o) : szA (cpy m o) (o.idxOf p) = szA m p := by unfold szA; rw [cpy_fs hp, List.length_map]
theorem cpy_hd {p : Nat} (hp : p ∈ o) : hdA (cpy m o) (o.idxOf p) = hdA m p := by unfold hdA; rw [cpy_fs hp, cpy_ser hp, List.length_map]
theorem Lyd.vis (h : Lyd l m roots o) : ∀ (ws : List Int) (x : List Nat), fineL m ws → (∀ w ∈ ws, ∀ p, _root_.Go.Proofs.YtfjilngljnlkjaaV.wPl m w = some p → p ∈ o) → (∀ p ∈ x, p ∈ o) → vis (cpy m o) (x.map o.idxOf) (ws.map (movW m o)) = (vis m x ws).map o.idxOf ∧ ∀ p ∈ vis m x ws, p ∈ o
  | [], x, _, _, hx => ⟨rfl, hx⟩
  | w :: ws, x, hf, hin, hx => by
    have e := h.wpl (hf w (by simp)) (hin w (by simp))
    have key : vis1 (cpy m o) (x.map o.idxOf) (movW m o w) = (vis1 m x w).map o.idxOf ∧ ∀ p ∈ vis1 m x w, p ∈ o := by
      unfold vis1
      rw [e]
      cases hw : _root_.Go.Proofs.YtfjilngljnlkjaaV.wPl m w with
      | none => exact ⟨rfl, hx⟩
      | some p =>
        have hp := hin w (by simp) p hw
        simp only [Option.map_some]
        have hiff : o.idxOf p ∈ x.map o.idxOf ↔ p ∈ x := by
          rw [List.mem_map]
          exact ⟨fun ⟨q, hq, e⟩ => idx_inj (hx q hq) hp e ▸ hq, fun hq => ⟨p, hq, rfl⟩⟩
        by_cases c : p ∈ x
        · rw [if_pos c, if_pos (hiff.2 c)]
          exact ⟨rfl, hx⟩
        · rw [if_neg c, if_neg (fun d => c (hiff.1 d))]
          refine ⟨by simp, fun q hq => ?_⟩
          rcases List.mem_append.1 hq with d | d
          · exact hx q d
          · simp at d; subst d; exact hp
    have ih := h.vis ws (vis1 m x w) (fun v hv => hf v (by simp [hv])) (fun v hv => hin v (by simp [hv])) key.2
    have e1 : _root_.Go.Proofs.YtfjilngljnlkjaaV.vis (cpy m o) (x.map o.idxOf) ((w :: ws).map (movW m o)) = _root_.Go.Proofs.YtfjilngljnlkjaaV.vis (cpy m o) (vis1 (cpy m o) (x.map o.idxOf) (movW m o w)) (ws.map (movW m o)) := rfl
    rw [e1, key.1]
    exact ih
theorem Lyd.bfs (h : Lyd l m roots o) : ∀ (f : Nat) (x : List Nat) (k : Nat), (∀ p ∈ x, p ∈ o) → bfs (cpy m o) f (x.map o.idxOf) k = (bfs m f x k).map o.idxOf
  | 0, x, k, _ => rfl
  | f + 1, x, k, hx => by
    unfold _root_.Go.Proofs.YtfjilngljnlkjaaV.bfs
    rw [List.getElem?_map]
    cases hk : x[k]? with
    | none => rfl
    | some p =>
      have hp := hx p (List.mem_of_getElem? hk)
      simp only [Option.map_some]
      obtain ⟨v1, v2⟩ := h.vis (fsA m p) x (h.fs hp) (h.closed p hp) hx
      rw [cpy_fs hp, v1]
      exact h.bfs f _ _ v2
theorem Lyd.ordO (h : Lyd l m roots o) : ordO (cpy m o) (roots.map (movW m o)) = (ordO m roots).map o.idxOf := by
  obtain ⟨v1, v2⟩ := h.vis roots [] h.fr h.root (by simp)
  have hl : (cpy m o).length ≤ m.length := by rw [cpy_len]; exact h.pls.len
  unfold _root_.Go.Proofs.YtfjilngljnlkjaaV.ordO
  rw [← h.bfs (m.length + 1) _ 0 v2]
  rw [← v1]
  exact bfs_fuel _ _ 0 ((Pls.nil _).vis _) (by omega) (by omega)
/-- What is laid is an image, too, and its roots are fine. -/
theorem Lyd.again (h : Lyd l m roots o) : Lyd (lay m o) (cpy m o) (roots.map (movW m o)) (List.range o.length) := by
  refine ⟨lay_is h.spl.fits h.pls, ?_, h.fineM, h.fineR, ⟨List.nodup_range, fun p hp => by rw [cpy_len]; exact List.mem_range.1 hp⟩, fun w hw p hp => ?_, fun p hp w hw q hq => ?_⟩
  · have h1 : (lay m o).length = szS m o := layS_len
    have h2 := h.pls.sz h.spl
    have h3 := h.few
    omega
  · have := wPl_lt hp
    rw [cpy_len] at this
    exact List.mem_range.2 this
  · have := wPl_lt hq
    rw [cpy_len] at this
    exact List.mem_range.2 this
theorem Lyd.pos_again (h : Lyd l m roots o) {p : Nat} (hp : p ∈ o) : _root_.Go.Proofs.YtfjilngljnlkjaaV.pos (cpy m o) (List.range o.length) (o.idxOf p) = _root_.Go.Proofs.YtfjilngljnlkjaaV.pos m o p := by
  have hi := idx_lt hp
  have e1 := pos_get (m := cpy m o) (o := List.range o.length) List.nodup_range (i := o.idxOf p) (by simpa using hi)
  rw [List.getElem_range] at e1
  have e2 := pos_get (m := m) h.pls.1 (i := o.idxOf p) hi
  rw [idx_get hp] at e2
  rw [e1, e2]
  unfold szS
  congr 1
  apply List.ext_getElem
  · simp
  · intro i h1 h2
    have hio : i < o.idxOf p := by simp at h2; omega
    have hm : o[i] ∈ o := List.getElem_mem (by omega)
    have hx : o.idxOf o[i] = i := by
      have := idx_range h.pls.1
      have e := congrArg (fun l => l[i]?) this
      simp only [List.getElem?_map, List.getElem?_eq_getElem (show i < o.length by omega), Option.map_some] at e
      rw [List.getElem?_range (by omega)] at e
      simpa using e
    simp only [List.getElem_map, List.getElem_take, List.getElem_range]
    have := cpy_sz (m := m) hm
    rw [hx] at this
    exact this
theorem Lyd.mov_again (h : Lyd l m roots o) {w : Int} (hf : _root_.Go.Proofs.YtfjilngljnlkjaaV.fineW m w = true) (hin : ∀ p, _root_.Go.Proofs.YtfjilngljnlkjaaV.wPl m w = some p → p ∈ o) : movW (cpy m o) (List.range o.length) (movW m o w) = movW m o w := by
  have e := h.wpl hf hin
  cases hw : _root_.Go.Proofs.YtfjilngljnlkjaaV.wPl m w with
  | none => rw [hw] at e; exact mov_none e
  | some p =>
    rw [hw] at e
    rw [mov_some e, h.pos_again (hin p hw), mov_some hw]
theorem Lyd.lay_again (h : Lyd l m roots o) : lay (cpy m o) (List.range o.length) = lay m o := by
  unfold lay layS
  have e : List.range o.length = o.map o.idxOf := (idx_range h.pls.1).symm
  conv => lhs; arg 2; rw [e]
  rw [List.flatMap_map]
  have : ∀ S : List Nat, (∀ p ∈ S, p ∈ o) → (S.flatMap fun a => hdA (cpy m o) (o.idxOf a) :: (fsA (cpy m o) (o.idxOf a)).map (movW (cpy m o) (List.range o.length))) = S.flatMap fun p => hdA m p :: (fsA m p).map (movW m o) := by
    intro S
    induction S with
    | nil => intro _; rfl
    | cons p S ih =>
      intro hS
      have hp := hS p (by simp)
      simp only [List.flatMap_cons]
      rw [ih fun q hq => hS q (by simp [hq]), cpy_hd hp, cpy_fs hp, List.map_map]
      congr 2
      apply List.map_congr_left
      intro w hw
      exact h.mov_again (h.fs hp w hw) (h.closed p hp w hw)
  exact this o fun p hp => hp
theorem Lyd.roots_again (h : Lyd l m roots o) : (roots.map (movW m o)).map (movW (cpy m o) (List.range o.length)) = roots.map (movW m o) := by
  rw [List.map_map]
  apply List.map_congr_left
  intro w hw
  exact h.mov_again (h.fr w hw) (h.root w hw)
end
end Go.Proofs.YtfjilngljnlkjaaV
namespace Go.Proofs.YtfjilngljnlkjaaV
open Go Go.Proofs
set_option linter.unusedVariables false
set_option linter.unusedSimpArgs false
abbrev Va := Int × Int
abbrev Nd := Int × List Va
abbrev Vw := List (List Va) × List Nd
/-- A word's value, by its object's serial. -/
def val (m : List Ob) (w : Int) : Va := match wPl m w with
  | some p => (2, serA m p)
  | none => (rdK w, rdN w)
def nodeA (m : List Ob) (p : Nat) : Nd := (serA m p, (fsA m p).map (val m))
/-- By serials; of equal ones the first by address. -/
def leS (m : List Ob) (p q : Nat) : Bool := decide (serA m p < serA m q ∨ serA m p = serA m q ∧ p ≤ q)
def srtS (m : List Ob) (o : List Nat) : List Nat := o.mergeSort (leS m)
def vwO (m : List Ob) (roots : List Int) : Vw := ([roots.map (val m)], (srtS m (ordO m roots)).map (nodeA m))
theorem srtS_perm (m : List Ob) (o : List Nat) : (srtS m o).Perm o := List.mergeSort_perm o _
theorem srtS_sorted (m : List Ob) (o : List Nat) : (srtS m o).Pairwise fun p q => leS m p q = true :=
  List.pairwise_mergeSort (fun a b c h1 h2 => by unfold leS at *; simp only [decide_eq_true_eq] at *; omega) (fun a b => by unfold leS; simp only [Bool.or_eq_true, decide_eq_true_eq]; omega) o
/-- What is sorted by a key that tells all apart is told by what it has. -/
theorem sorted_same {α : Type} {lt : α → α → Prop} (hirr : ∀ x, ¬ lt x x) (has : ∀ x y, lt x y → ¬ lt y x) : ∀ {a b : List α}, a.Pairwise lt → b.Pairwise lt → (∀ x, x ∈ a ↔ x ∈ b) → a = b
  | [], [], _, _, _ => rfl
  | [], y :: b, _, _, h => by have := (h y).2 (by simp); cases this
  | x :: a, [], _, _, h => by have := (h x).1 (by simp); cases this
  | x :: a, y :: b, ha, hb, h => by
    obtain ⟨a1, a2⟩ := List.pairwise_cons.1 ha
    obtain ⟨b1, b2⟩ := List.pairwise_cons.1 hb
    have exy : x = y := by
      rcases List.mem_cons.1 ((h x).1 (by simp)) with c | c
      · exact c
      · rcases List.mem_cons.1 ((h y).2 (by simp)) with d | d
        · exact d.symm
        · exact absurd (a1 y d) (has _ _ (b1 x c))
    subst exy
    refine congrArg (x :: ·) (sorted_same hirr has a2 b2 fun z => ?_)
    constructor
    · intro hz
      rcases List.mem_cons.1 ((h z).1 (by simp [hz])) with c | c
      · subst c; exact absurd (a1 z hz) (hirr z)
      · exact c
    · intro hz
      rcases List.mem_cons.1 ((h z).2 (by simp [hz])) with c | c
      · subst c; exact absurd (b1 z hz) (hirr z)
      · exact c
/-- All serials are unlike. -/
def Unl (m : List Ob) : Prop := m.Pairwise fun a b => a.ser ≠ b.ser
theorem Unl.ne {m : List Ob} (h : Unl m) {p q : Nat} (hp : p < m.length) (hq : q < m.length) (e : serA m p = serA m q) : p = q := by
  rw [serA_get hp, serA_get hq] at e
  have := List.pairwise_iff_getElem.1 h
  rcases Nat.lt_trichotomy p q with c | c | c
  · exact absurd e (this p q hp hq c)
  · exact c
  · exact absurd e.symm (this q p hq hp c)
section
variable {l : List Int} {m : List Ob} {roots : List Int} {o : List Nat}
theorem Lyd.val (h : Lyd l m roots o) {w : Int} (hf : _root_.Go.Proofs.YtfjilngljnlkjaaV.fineW m w = true) (hin : ∀ p, _root_.Go.Proofs.YtfjilngljnlkjaaV.wPl m w = some p → p ∈ o) : val (cpy m o) (movW m o w) = val m w := by
  have e := h.wpl hf hin
  unfold _root_.Go.Proofs.YtfjilngljnlkjaaV.val
  cases hw : _root_.Go.Proofs.YtfjilngljnlkjaaV.wPl m w with
  | none => rw [hw] at e; rw [e, mov_none hw]; rfl
  | some p => rw [hw] at e; rw [e]; simp only [Option.map_some, cpy_ser (hin p hw)]
theorem Lyd.node (h : Lyd l m roots o) {p : Nat} (hp : p ∈ o) : nodeA (cpy m o) (o.idxOf p) = nodeA m p := by
  unfold nodeA
  rw [cpy_ser hp, cpy_fs hp, List.map_map]
  congr 1
  apply List.map_congr_left
  intro w hw
  exact h.val (h.fs hp w hw) (h.closed p hp w hw)
theorem nodes_sorted {m : List Ob} {o : List Nat} (hP : Pls m o) (hU : ∀ p ∈ o, ∀ q ∈ o, serA m p = serA m q → p = q) : ((srtS m o).map (nodeA m)).Pairwise fun a b => a.1 < b.1 := by
  rw [List.pairwise_map]
  have hnd : (srtS m o).Nodup := (srtS_perm m o).nodup_iff.2 hP.1
  refine List.Pairwise.imp_of_mem (fun {a b} ha hb h => ?_) ((srtS_sorted m o).and hnd)
  obtain ⟨h1, h2⟩ := h
  have ha' := (srtS_perm m o).mem_iff.1 ha
  have hb' := (srtS_perm m o).mem_iff.1 hb
  unfold leS at h1
  simp only [decide_eq_true_eq] at h1
  show serA m a < serA m b
  rcases h1 with c | ⟨c, _⟩
  · exact c
  · exact absurd (hU a ha' b hb' c) h2
/-- The view of what was laid is the same, if serials are unlike. -/
theorem Lyd.view (h : Lyd l m roots o) (hU : Unl m) : vwO (cpy m o) (roots.map (movW m o)) = vwO m roots := by
  have hR := ordO_pls m roots
  have hsub : ∀ p ∈ _root_.Go.Proofs.YtfjilngljnlkjaaV.ordO m roots, p ∈ o := by
    obtain ⟨v1, v2⟩ := h.vis roots [] h.fr h.root (by simp)
    have key : ∀ (f : Nat) (x : List Nat) (k : Nat), (∀ p ∈ x, p ∈ o) → ∀ p ∈ _root_.Go.Proofs.YtfjilngljnlkjaaV.bfs m f x k, p ∈ o := by
      intro f
      induction f with
      | zero => exact fun x k hx p hp => hx p hp
      | succ f ih =>
        intro x k hx p hp
        unfold _root_.Go.Proofs.YtfjilngljnlkjaaV.bfs at hp
        split at hp
        · rename_i q hq
          have hqo := hx q (List.mem_of_getElem? hq)
          exact ih _ _ (h.vis _ x (h.fs hqo) (h.closed q hqo) hx).2 p hp
        · exact hx p hp
    exact key _ _ _ v2
  unfold vwO
  rw [h.ordO]
  congr 1
  · rw [List.map_map]
    congr 1
    apply List.map_congr_left
    intro w hw
    exact h.val (h.fr w hw) (h.root w hw)
  · have hP' : Pls (cpy m o) ((_root_.Go.Proofs.YtfjilngljnlkjaaV.ordO m roots).map o.idxOf) := by
      rw [← h.ordO]
      exact ordO_pls _ _
    have hU' : ∀ p ∈ _root_.Go.Proofs.YtfjilngljnlkjaaV.ordO m roots, ∀ q ∈ _root_.Go.Proofs.YtfjilngljnlkjaaV.ordO m roots, serA m p = serA m q → p = q := fun p hp q hq e => hU.ne (hR.2 p hp) (hR.2 q hq) e
    refine sorted_same (lt := fun a b => a.1 < b.1) (fun x => Int.lt_irrefl _) (fun x y h1 h2 => by omega) (nodes_sorted hP' fun p hp q hq e => ?_) (nodes_sorted hR hU') fun x => ?_
    · simp only [List.mem_map] at hp hq
      obtain ⟨a, ha, rfl⟩ := hp
      obtain ⟨b, hb, rfl⟩ := hq
      rw [cpy_ser (hsub a ha), cpy_ser (hsub b hb)] at e
      rw [hU' a ha b hb e]
    · simp only [List.mem_map, (srtS_perm _ _).mem_iff]
      constructor
      · rintro ⟨_, ⟨p, hp, rfl⟩, rfl⟩
        exact ⟨p, hp, (h.node (hsub p hp)).symm⟩
      · rintro ⟨p, hp, rfl⟩
        exact ⟨_, ⟨p, hp, rfl⟩, h.node (hsub p hp)⟩
end
/-! ### Slid -/
def slO (m : List Ob) (roots : List Int) : List Nat := (List.range m.length).filter fun p => decide (p ∈ ordO m roots)
theorem slO_mem {m : List Ob} {roots : List Int} {p : Nat} : p ∈ slO m roots ↔ p ∈ ordO m roots := by
  simp only [slO, List.mem_filter, List.mem_range, decide_eq_true_eq]
  exact ⟨fun h => h.2, fun h => ⟨(ordO_pls m roots).2 p h, h⟩⟩
theorem slO_sorted (m : List Ob) (roots : List Int) : (slO m roots).Pairwise (· < ·) := (List.pairwise_lt_range).filter _
theorem slO_pls (m : List Ob) (roots : List Int) : Pls m (slO m roots) := ⟨(slO_sorted m roots).imp fun h => by omega, fun p hp => (ordO_pls m roots).2 p (slO_mem.1 hp)⟩
theorem slO_perm (m : List Ob) (roots : List Int) : (slO m roots).Perm (ordO m roots) := (List.perm_ext_iff_of_nodup (slO_pls m roots).1 (ordO_pls m roots).1).2 fun _ => slO_mem
/-- What is opened, and its roots are fine. -/
structure Opn (l : List Int) (m : List Ob) (roots : List Int) : Prop where
  spl : Spl 0 l m
  few : l.length ≤ 2048
  fine : fineM m
  fr : fineL m roots
section
variable {l : List Int} {m : List Ob} {roots : List Int}
theorem Opn.copy (h : Opn l m roots) : Lyd l m roots (ordO m roots) := ⟨h.spl, h.few, h.fine, h.fr, ordO_pls m roots, fun w hw p hp => ordO_root hw hp, fun p hp w hw q hq => ordO_closed hp hw hq⟩
theorem Opn.slide (h : Opn l m roots) : Lyd l m roots (slO m roots) := ⟨h.spl, h.few, h.fine, h.fr, slO_pls m roots, fun w hw p hp => slO_mem.2 (ordO_root hw hp), fun p hp w hw q hq => slO_mem.2 (ordO_closed (slO_mem.1 hp) hw hq)⟩
theorem Lyd.opn {o : List Nat} (h : Lyd l m roots o) : Opn (lay m o) (cpy m o) (roots.map (movW m o)) := ⟨h.again.spl, h.again.few, h.again.fine, h.again.fr⟩
theorem Opn.copy_again (h : Opn l m roots) : ordO (cpy m (ordO m roots)) (roots.map (movW m (ordO m roots))) = List.range (ordO m roots).length := by
  rw [h.copy.ordO, idx_range (ordO_pls m roots).1]
theorem Opn.slide_again (h : Opn l m roots) : slO (cpy m (slO m roots)) (roots.map (movW m (slO m roots))) = List.range (slO m roots).length := by
  have e := h.slide.ordO
  unfold slO
  rw [show List.map (movW m (List.filter (fun p => decide (p ∈ ordO m roots)) (List.range m.length))) roots = roots.map (movW m (slO m roots)) from rfl, show List.filter (fun p => decide (p ∈ ordO m roots)) (List.range m.length) = slO m roots from rfl, cpy_len, e]
  rw [List.filter_eq_self]
  intro i hi
  have hi' : i < (slO m roots).length := List.mem_range.1 hi
  rw [decide_eq_true_eq, List.mem_map]
  have e2 := congrArg (fun l => l[i]?) (idx_range (slO_pls m roots).1)
  simp only [List.getElem?_map, List.getElem?_eq_getElem hi', Option.map_some, List.getElem?_range hi', Option.some.injEq] at e2
  exact ⟨(slO m roots)[i], slO_mem.1 (List.getElem_mem hi'), e2⟩
theorem szS_perm {o o' : List Nat} (h : o.Perm o') : szS m o = szS m o' := (h.map _).sum_nat
theorem lay_lens (m : List Ob) (roots : List Int) : (lay m (slO m roots)).length = (lay m (ordO m roots)).length := by
  unfold lay
  rw [layS_len, layS_len, szS_perm (slO_perm m roots)]
theorem range_take {n p : Nat} (h : p ≤ n) : (List.range n).take p = List.range p := by rw [List.take_range, Nat.min_eq_left h]
theorem at_pos (h : Spl 0 l m) {p : Nat} (hp : p < m.length) : m[p].at_ = szS m (List.range p) := by
  rw [(h.get p hp).2, Nat.zero_add]
  unfold szS
  have := congrArg (fun x => x.take p) (range_sz m)
  simp only [← List.map_take] at this
  rw [range_take (by omega)] at this
  rw [this]
/-- Nothing moves up. -/
theorem pos_le (h : Spl 0 l m) {p : Nat} (hp : p ∈ slO m roots) : ∃ hm : p < m.length, pos m (slO m roots) p ≤ m[p].at_ := by
  have hm := (slO_pls m roots).2 p hp
  refine ⟨hm, ?_⟩
  obtain ⟨i, hi, rfl⟩ := List.getElem_of_mem hp
  rw [at_pos h hm, pos_get (slO_pls m roots).1 hi]
  refine sum_sub ((slO_pls m roots).1.sublist (List.take_sublist i _)) fun x hx => ?_
  obtain ⟨j, hj, rfl⟩ := List.getElem_of_mem hx
  rw [List.length_take] at hj
  rw [List.getElem_take, List.mem_range]
  exact List.pairwise_iff_getElem.1 (slO_sorted m roots) j i (by omega) hi (by omega)
/-- Where all stay nothing moves. -/
theorem mov_range (h : Spl 0 l m) {w : Int} (hf : fineW m w = true) : movW m (List.range m.length) w = w := by
  cases hw : wPl m w with
  | none => exact mov_none hw
  | some p =>
    have hp := wPl_lt hw
    rw [mov_some hw]
    have e1 := pos_get (m := m) (o := List.range m.length) List.nodup_range (i := p) (by simpa using hp)
    rw [List.getElem_range, range_take (by omega), ← at_pos h hp] at e1
    rw [e1]
    unfold wPl at hw
    cases hr : wRef w with
    | none => rw [hr] at hw; cases hw
    | some a =>
      rw [hr] at hw
      obtain ⟨_, h2, _⟩ := pl_some (show pl m a = some p from hw)
      rw [h2]
      exact (wRef_some.1 hr).1.symm
theorem Spl.flat : ∀ {at_ : Nat} {l : List Int} {m : List Ob}, Spl at_ l m → l = m.flatMap fun o => o.hd :: o.fs
  | _, _, _, .nil => rfl
  | _, _, _, .cons _ _ _ _ h5 => by
    rw [List.flatMap_cons, ← h5.flat]
    rfl
theorem lay_range (h : Spl 0 l m) (hf : fineM m) : lay m (List.range m.length) = l := by
  rw [h.flat]
  unfold lay layS
  have : m = (List.range m.length).map (fun p => m[p]?.getD ⟨0, 0, []⟩) := by
    apply List.ext_getElem
    · simp
    · intro i h1 h2
      simp [List.getElem?_eq_getElem h1]
  conv => rhs; rw [this]
  rw [List.flatMap_map]
  rw [List.flatMap_def, List.flatMap_def]
  congr 1
  apply List.map_congr_left
  intro p hp
  have hp' := List.mem_range.1 hp
  rw [hdA_get hp', fsA_get hp', List.getElem?_eq_getElem hp', Option.getD_some]
  congr 1
  have : m[p].fs.map (movW m (List.range m.length)) = m[p].fs.map id := List.map_congr_left fun w hw => mov_range h (hf _ (List.getElem_mem hp') w hw)
  rw [this, List.map_id]
/-- Roots to all objects. -/
def allR (m : List Ob) : List Int := m.map fun o => 2 * (o.at_ : Int) + 2
theorem allR_pl (h : Spl 0 l m) (hl : l.length ≤ 2048) {p : Nat} (hp : p < m.length) : wPl m (2 * (m[p].at_ : Int) + 2) = some p := by
  have := (h.get p hp).1.end_
  unfold wPl
  rw [wRef_put (by omega)]
  exact h.pl hp
theorem allR_fine (h : Spl 0 l m) (hl : l.length ≤ 2048) : fineL m (allR m) := fun w hw => by
  simp only [allR, List.mem_map] at hw
  obtain ⟨o, ho, rfl⟩ := hw
  obtain ⟨p, hp, rfl⟩ := List.getElem_of_mem ho
  have := (h.get p hp).1.end_
  unfold fineW
  have e := wRef_put (a := m[p].at_) (by omega)
  rw [e, (wRef_ok e).1]
  simp [h.pl hp]
theorem allR_slO (h : Spl 0 l m) (hl : l.length ≤ 2048) : slO m (allR m) = List.range m.length := by
  unfold slO
  rw [List.filter_eq_self]
  intro p hp
  have hp' := List.mem_range.1 hp
  rw [decide_eq_true_eq]
  exact ordO_root (w := 2 * (m[p].at_ : Int) + 2) (List.mem_map.2 ⟨m[p], List.getElem_mem hp', rfl⟩) (allR_pl h hl hp')
end
end Go.Proofs.YtfjilngljnlkjaaV
