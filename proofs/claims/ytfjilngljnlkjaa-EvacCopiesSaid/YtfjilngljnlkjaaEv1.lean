/- Images: objects, one behind the other; which of them words lead to, and in which order. Plain Lean. -/
import Derived.Test.YtfjilngljnlkjaaWord1
namespace Go.Proofs.YtfjilngljnlkjaaV
open Go Go.Proofs
set_option linter.unusedVariables false
set_option linter.unusedSimpArgs false
/-! ### 1. Words -/
/-- The address that a word refers to. -/
def wRef (w : Int) : Option Nat := if chk (rdK w) (rdN w) = 0 ∧ rdK w = 2 then some (rdN w).toNat else none
def okW (w : Int) : Bool := decide (chk (rdK w) (rdN w) = 0)
theorem wRef_some {w : Int} {a : Nat} : wRef w = some a ↔ w = 2 * (a : Int) + 2 ∧ a < 2048 := by
  unfold wRef rdK rdN
  by_cases o : w % 2 = 1
  · simp only [if_pos o]
    constructor
    · intro h; simp at h
    · intro h; omega
  · simp only [if_neg o]
    by_cases z : w = 0
    · simp only [if_pos z]
      constructor
      · intro h; simp at h
      · intro h; omega
    · simp only [if_neg z, tdiv2 w (by omega)]
      unfold chk
      simp only [show ¬ (2 : Int) = 0 by decide, show ¬ (2 : Int) = 1 by decide, if_false, if_true, and_true]
      by_cases c : 0 ≤ w / 2 - 1 ∧ w / 2 - 1 < 2048
      · rw [if_pos c, if_pos rfl]
        simp only [Option.some.injEq]
        omega
      · rw [if_neg c, if_neg (by decide)]
        simp only [reduceCtorEq, false_iff]
        omega
theorem wRef_ok {w : Int} {a : Nat} (h : wRef w = some a) : okW w = true ∧ rdK w = 2 ∧ rdN w = (a : Int) := by
  unfold wRef at h
  split at h
  · rename_i c
    refine ⟨by simp [okW, c.1], c.2, ?_⟩
    simp only [Option.some.injEq] at h
    have := c.1
    rw [c.2] at this
    unfold chk at this
    simp only [show ¬ (2 : Int) = 0 by decide, show ¬ (2 : Int) = 1 by decide, if_false, if_true] at this
    split at this
    · omega
    · cases this
  · cases h
theorem wRef_put {a : Nat} (h : a < 2048) : wRef (2 * (a : Int) + 2) = some a := wRef_some.2 ⟨rfl, h⟩
theorem wRef_none {w : Int} (h : wRef w = none) (ho : okW w = true) : rdK w ≠ 2 := by
  intro c
  unfold wRef at h
  rw [if_pos ⟨of_decide_eq_true ho, c⟩] at h
  cases h
/-! ### 2. Objects -/
structure Ob where
  at_ : Nat
  ser : Int
  fs : List Int
def Ob.sz (o : Ob) : Nat := 1 + o.fs.length
def Ob.hd (o : Ob) : Int := o.ser * 128 + (o.fs.length : Int)
/-- Words as objects, one behind the other. -/
inductive Spl : Nat → List Int → List Ob → Prop where
  | nil {at_ : Nat} : Spl at_ [] []
  | cons {at_ : Nat} {o : Ob} {t : List Int} {m : List Ob} : o.at_ = at_ → 0 ≤ o.ser → o.ser < 1099511627776 → o.fs.length ≤ 127 → Spl (at_ + o.sz) t m → Spl at_ (o.hd :: (o.fs ++ t)) (o :: m)
theorem hd_div {o : Ob} (h : o.fs.length ≤ 127) : o.hd / 128 = o.ser ∧ o.hd % 128 = (o.fs.length : Int) := by unfold Ob.hd; omega
theorem Spl.det : ∀ {at_ : Nat} {l : List Int} {m m' : List Ob}, Spl at_ l m → Spl at_ l m' → m = m'
  | _, _, _, m', .nil, h' => by generalize e : ([] : List Int) = l at h'; cases h' with
    | nil => rfl
    | cons => cases e
  | at_, _, _, m', @Spl.cons _ o t m h1 h2 h3 h4 h5, h' => by
    generalize e : o.hd :: (o.fs ++ t) = l at h'
    cases h' with
    | nil => cases e
    | @cons _ o' t' m2 g1 g2 g3 g4 g5 =>
      simp only [List.cons.injEq] at e
      obtain ⟨e1, e2⟩ := e
      have d1 := hd_div h4
      have d2 := hd_div g4
      rw [e1] at d1
      have e3 : o.fs.length = o'.fs.length := by omega
      obtain ⟨e4, e5⟩ := List.append_inj e2 e3
      have e6 : o = o' := by
        have e7 : o.ser = o'.ser := by omega
        have e8 := h1.trans g1.symm
        cases o; cases o'
        simp only [Ob.mk.injEq]
        exact ⟨e8, e7, e4⟩
      subst e6
      subst e5
      rw [h5.det g5]
theorem Spl.sum : ∀ {at_ : Nat} {l : List Int} {m : List Ob}, Spl at_ l m → (m.map Ob.sz).sum = l.length
  | _, _, _, .nil => rfl
  | _, _, _, .cons _ _ _ _ h5 => by
    have := h5.sum
    simp only [List.map_cons, List.sum_cons, List.length_cons, List.length_append, this, Ob.sz]
    omega
theorem Spl.len {at_ : Nat} {l : List Int} {m : List Ob} (h : Spl at_ l m) : m.length ≤ l.length := by
  rw [← h.sum]
  clear h
  induction m with
  | nil => simp
  | cons o m ih => simp only [List.map_cons, List.sum_cons, List.length_cons, Ob.sz]; omega
structure ObAt (at_ : Nat) (l : List Int) (o : Ob) : Prop where
  ge : at_ ≤ o.at_
  hd : l[o.at_ - at_]? = some o.hd
  fs : (l.drop (o.at_ - at_ + 1)).take o.fs.length = o.fs
  end_ : o.at_ - at_ + 1 + o.fs.length ≤ l.length
  s0 : 0 ≤ o.ser
  s1 : o.ser < 1099511627776
  n : o.fs.length ≤ 127
theorem Spl.get : ∀ {at_ : Nat} {l : List Int} {m : List Ob}, Spl at_ l m → ∀ i (h : i < m.length), ObAt at_ l m[i] ∧ m[i].at_ = at_ + ((m.take i).map Ob.sz).sum
  | _, _, _, .nil, i, h => by simp at h
  | at_, _, _, @Spl.cons _ o t m h1 h2 h3 h4 h5, 0, _ => by
    refine ⟨⟨?_, ?_, ?_, ?_, h2, h3, h4⟩, by simp [h1]⟩
    · simp [h1]
    · simp [h1]
    · simp [h1]
    · simp [h1]; omega
  | at_, _, _, @Spl.cons _ o t m h1 h2 h3 h4 h5, i + 1, h => by
    have hi : i < m.length := by simpa using h
    obtain ⟨g, e⟩ := h5.get i hi
    have e1 := g.ge
    have hsz : o.sz = 1 + o.fs.length := rfl
    simp only [List.getElem_cons_succ]
    have ea : m[i].at_ - at_ = o.fs.length + 1 + (m[i].at_ - (at_ + o.sz)) := by omega
    refine ⟨⟨by omega, ?_, ?_, ?_, g.s0, g.s1, g.n⟩, ?_⟩
    · rw [ea, Nat.add_right_comm, List.getElem?_cons_succ, List.getElem?_append_right (by omega), ← g.hd]
      congr 1
      omega
    · rw [ea, ← g.fs]
      simp only [g.fs]
      rw [show o.fs.length + 1 + (m[i].at_ - (at_ + o.sz)) + 1 = (o.fs.length + (m[i].at_ - (at_ + o.sz) + 1)) + 1 by omega, List.drop_succ_cons, List.drop_append, List.drop_of_length_le (by omega), List.nil_append]
      rw [show o.fs.length + (m[i].at_ - (at_ + o.sz) + 1) - o.fs.length = m[i].at_ - (at_ + o.sz) + 1 by omega]
      exact g.fs
    · have := g.end_
      simp only [List.length_cons, List.length_append]
      omega
    · rw [e]
      simp only [List.take_succ_cons, List.map_cons, List.sum_cons]
      omega
theorem sum_take_lt {m : List Ob} {i j : Nat} (h : i < j) (hj : j ≤ m.length) : ((m.take i).map Ob.sz).sum < ((m.take j).map Ob.sz).sum := by
  induction m generalizing i j with
  | nil => simp at hj; omega
  | cons o m ih =>
    cases j with
    | zero => omega
    | succ j =>
      cases i with
      | zero => simp only [List.take_zero, List.map_nil, List.sum_nil, List.take_succ_cons, List.map_cons, List.sum_cons, Ob.sz]; omega
      | succ i =>
        simp only [List.take_succ_cons, List.map_cons, List.sum_cons]
        have := ih (i := i) (j := j) (by omega) (by simpa using hj)
        omega
theorem Spl.mono {at_ : Nat} {l : List Int} {m : List Ob} (h : Spl at_ l m) {i j : Nat} (hi : i < j) (hj : j < m.length) : (m[i]'(by omega)).at_ < m[j].at_ := by
  rw [(h.get i (by omega)).2, (h.get j hj).2]
  have := sum_take_lt (m := m) hi (by omega)
  omega
/-- An object's place. -/
def pl (m : List Ob) (a : Nat) : Option Nat := m.findIdx? fun o => o.at_ == a
theorem pl_some {m : List Ob} {a i : Nat} (h : pl m a = some i) : ∃ h' : i < m.length, (m[i]'h').at_ = a ∧ ∀ j (hj : j < m.length), j < i → m[j].at_ ≠ a := by
  unfold pl at h
  rw [List.findIdx?_eq_some_iff_getElem] at h
  obtain ⟨h1, h2, h3⟩ := h
  exact ⟨h1, by simpa using h2, fun j hj hji => by simpa using h3 j hji⟩
theorem pl_none {m : List Ob} {a : Nat} : pl m a = none ↔ ∀ o ∈ m, o.at_ ≠ a := by
  unfold pl
  rw [List.findIdx?_eq_none_iff]
  exact ⟨fun h x hx => by simpa using h x hx, fun h x hx => by simpa using h x hx⟩
theorem Spl.pl {at_ : Nat} {l : List Int} {m : List Ob} (h : Spl at_ l m) {i : Nat} (hi : i < m.length) : pl m (m[i]'hi).at_ = some i := by
  unfold _root_.Go.Proofs.YtfjilngljnlkjaaV.pl
  rw [List.findIdx?_eq_some_iff_getElem]
  refine ⟨hi, by simp, fun j hj => ?_⟩
  have := h.mono hj hi
  simp
  omega
/-- Is it a value's word, that leads to an object, if to anything? -/
def fineW (m : List Ob) (w : Int) : Bool := okW w && match wRef w with
  | some a => (pl m a).isSome
  | none => true
def fineL (m : List Ob) (l : List Int) : Prop := ∀ w ∈ l, fineW m w = true
def fineM (m : List Ob) : Prop := ∀ o ∈ m, fineL m o.fs
theorem fine_ok {m : List Ob} {w : Int} (h : fineW m w = true) : okW w = true := by
  unfold fineW at h
  rw [Bool.and_eq_true] at h
  exact h.1
/-- The place that a word leads to. -/
def wPl (m : List Ob) (w : Int) : Option Nat := (wRef w).bind (pl m)
theorem fine_pl {m : List Ob} {w : Int} {a : Nat} (h : fineW m w = true) (ha : wRef w = some a) : ∃ p, pl m a = some p ∧ wPl m w = some p := by
  unfold fineW at h
  rw [Bool.and_eq_true, ha] at h
  obtain ⟨p, hp⟩ := Option.isSome_iff_exists.1 h.2
  exact ⟨p, hp, by simp [wPl, ha, hp]⟩
theorem wPl_none {m : List Ob} {w : Int} (h : wRef w = none) : wPl m w = none := by simp [wPl, h]
theorem wPl_lt {m : List Ob} {w : Int} {p : Nat} (h : wPl m w = some p) : p < m.length := by
  unfold wPl at h
  cases hr : wRef w with
  | none => rw [hr] at h; cases h
  | some a =>
    rw [hr] at h
    obtain ⟨h1, _⟩ := pl_some h
    exact h1
/-! ### 3. Which are met, and in which order -/
def serA (m : List Ob) (p : Nat) : Int := (m[p]?.map Ob.ser).getD 0
def fsA (m : List Ob) (p : Nat) : List Int := (m[p]?.map Ob.fs).getD []
def szA (m : List Ob) (p : Nat) : Nat := 1 + (fsA m p).length
def hdA (m : List Ob) (p : Nat) : Int := serA m p * 128 + ((fsA m p).length : Int)
theorem fsA_get {m : List Ob} {p : Nat} (h : p < m.length) : fsA m p = m[p].fs := by simp [fsA, List.getElem?_eq_getElem h]
theorem serA_get {m : List Ob} {p : Nat} (h : p < m.length) : serA m p = m[p].ser := by simp [serA, List.getElem?_eq_getElem h]
theorem hdA_get {m : List Ob} {p : Nat} (h : p < m.length) : hdA m p = m[p].hd := by simp [hdA, fsA_get h, serA_get h, Ob.hd]
theorem szA_get {m : List Ob} {p : Nat} (h : p < m.length) : szA m p = m[p].sz := by simp [szA, fsA_get h, Ob.sz]
def vis1 (m : List Ob) (o : List Nat) (w : Int) : List Nat := match wPl m w with
  | some p => if p ∈ o then o else o ++ [p]
  | none => o
def vis (m : List Ob) (o : List Nat) (ws : List Int) : List Nat := ws.foldl (vis1 m) o
def bfs (m : List Ob) : Nat → List Nat → Nat → List Nat
  | 0, o, _ => o
  | f + 1, o, k => match o[k]? with
    | some p => bfs m f (vis m o (fsA m p)) (k + 1)
    | none => o
def ordO (m : List Ob) (roots : List Int) : List Nat := bfs m (m.length + 1) (vis m [] roots) 0
/-- Places, each once. -/
def Pls (m : List Ob) (o : List Nat) : Prop := o.Nodup ∧ ∀ p ∈ o, p < m.length
theorem Pls.nil (m : List Ob) : Pls m [] := ⟨by simp, by simp⟩
theorem nodup_lt_len : ∀ (n : Nat) (l : List Nat), l.Nodup → (∀ x ∈ l, x < n) → l.length ≤ n
  | 0, l, _, h => by
    cases l with
    | nil => simp
    | cons x l => have := h x (by simp); omega
  | n + 1, l, hd, h => by
    by_cases hn : n ∈ l
    · have ih := nodup_lt_len n (l.erase n) (hd.erase n) fun x hx => by
        have h1 := (List.Nodup.mem_erase_iff hd).1 hx
        have := h x h1.2
        have := h1.1
        omega
      rw [List.length_erase_of_mem hn] at ih
      omega
    · have ih := nodup_lt_len n l hd fun x hx => by
        have := h x hx
        have : x ≠ n := fun e => hn (e ▸ hx)
        omega
      omega
theorem Pls.len {m : List Ob} {o : List Nat} (h : Pls m o) : o.length ≤ m.length := nodup_lt_len _ o h.1 h.2
theorem vis1_pre (m : List Ob) (o : List Nat) (w : Int) : o <+: vis1 m o w := by
  unfold vis1
  split
  · split
    · exact List.prefix_refl _
    · exact List.prefix_append _ _
  · exact List.prefix_refl _
theorem vis_pre (m : List Ob) (ws : List Int) : ∀ o, o <+: vis m o ws := by
  induction ws with
  | nil => exact fun o => List.prefix_refl _
  | cons w ws ih => exact fun o => (vis1_pre m o w).trans (ih _)
theorem Pls.vis1 {m : List Ob} {o : List Nat} (h : Pls m o) (w : Int) : Pls m (vis1 m o w) := by
  unfold _root_.Go.Proofs.YtfjilngljnlkjaaV.vis1
  split
  · rename_i p hp
    split
    · exact h
    · rename_i hn
      refine ⟨?_, fun q hq => ?_⟩
      · rw [List.nodup_append]
        exact ⟨h.1, by simp, fun a ha b hb e => by simp at hb; subst hb; subst e; exact hn ha⟩
      · rcases List.mem_append.1 hq with c | c
        · exact h.2 q c
        · simp at c
          subst c
          exact wPl_lt hp
  · exact h
theorem Pls.vis {m : List Ob} (ws : List Int) : ∀ {o : List Nat}, Pls m o → Pls m (vis m o ws) := by
  induction ws with
  | nil => exact fun h => h
  | cons w ws ih => exact fun h => ih (h.vis1 w)
theorem vis_mem {m : List Ob} {q : Nat} (ws : List Int) : ∀ {o : List Nat}, q ∈ vis m o ws ↔ q ∈ o ∨ ∃ w ∈ ws, wPl m w = some q := by
  induction ws with
  | nil => intro o; simp [vis]
  | cons w ws ih =>
    intro o
    show q ∈ vis m (vis1 m o w) ws ↔ _
    rw [ih]
    have h1 : q ∈ vis1 m o w ↔ q ∈ o ∨ wPl m w = some q := by
      unfold vis1
      split
      · rename_i p hp
        split
        · rename_i hm
          exact ⟨.inl, fun h => h.elim id fun e => by rw [hp] at e; simp only [Option.some.injEq] at e; subst e; exact hm⟩
        · rw [List.mem_append, hp]
          simp only [List.mem_singleton, Option.some.injEq]
          exact ⟨fun h => h.imp id Eq.symm, fun h => h.imp id Eq.symm⟩
      · rename_i hp
        rw [hp]
        simp
    rw [h1]
    simp only [List.mem_cons, exists_eq_or_imp]
    exact or_assoc
theorem bfs_pre (m : List Ob) : ∀ (f : Nat) (o : List Nat) (k : Nat), o <+: bfs m f o k
  | 0, o, _ => List.prefix_refl _
  | f + 1, o, k => by
    unfold bfs
    split
    · exact (vis_pre m _ o).trans (bfs_pre m f _ _)
    · exact List.prefix_refl _
theorem Pls.bfs {m : List Ob} : ∀ (f : Nat) {o : List Nat} (k : Nat), Pls m o → Pls m (bfs m f o k)
  | 0, o, _, h => h
  | f + 1, o, k, h => by
    unfold _root_.Go.Proofs.YtfjilngljnlkjaaV.bfs
    split
    · exact Pls.bfs f _ (h.vis _)
    · exact h
/-- All that those from a place on lead to is there, when it is done. -/
theorem bfs_closed {m : List Ob} : ∀ (f : Nat) {o : List Nat} (k : Nat), Pls m o → m.length < k + f → (∀ i p, i < k → o[i]? = some p → ∀ w ∈ fsA m p, ∀ q, wPl m w = some q → q ∈ o) → ∀ p ∈ bfs m f o k, ∀ w ∈ fsA m p, ∀ q, wPl m w = some q → q ∈ bfs m f o k
  | 0, o, k, h, hf, hd, p, hp, w, hw, q, hq => by
    obtain ⟨i, hi, rfl⟩ := List.getElem_of_mem hp
    have hi' : i < o.length := hi
    have := h.len
    exact hd i _ (by omega) (List.getElem?_eq_getElem hi') w hw q hq
  | f + 1, o, k, h, hf, hd, p, hp, w, hw, q, hq => by
    unfold bfs at hp ⊢
    cases ho : o[k]? with
    | none =>
      rw [ho] at hp
      simp only at hp ⊢
      obtain ⟨i, hi, rfl⟩ := List.getElem_of_mem hp
      have hk : o.length ≤ k := by
        rcases Nat.lt_or_ge k o.length with c | c
        · rw [List.getElem?_eq_getElem c] at ho; cases ho
        · exact c
      exact hd i _ (by omega) (List.getElem?_eq_getElem hi) w hw q hq
    | some x =>
      rw [ho] at hp
      simp only at hp ⊢
      refine bfs_closed f (k + 1) (h.vis _) (by omega) (fun i y hi hy w hw q hq => ?_) p hp w hw q hq
      have hp1 := vis_pre m (fsA m x) o
      have hol : k < o.length := (List.getElem?_eq_some_iff.1 ho).1
      have hi' : i < o.length := by omega
      have e : (vis m o (fsA m x))[i]? = o[i]? := by
        obtain ⟨t, ht⟩ := hp1
        rw [← ht, List.getElem?_append_left hi']
      rw [e] at hy
      by_cases c : i = k
      · subst c
        rw [ho] at hy
        simp only [Option.some.injEq] at hy
        subst hy
        exact (vis_mem _).2 (.inr ⟨w, hw, hq⟩)
      · exact (vis_mem _).2 (.inl (hd i y (by omega) hy w hw q hq))
theorem bfs_fuel {m : List Ob} : ∀ (f g : Nat) {o : List Nat} (k : Nat), Pls m o → m.length < k + f → m.length < k + g → bfs m f o k = bfs m g o k
  | 0, 0, _, _, _, _, _ => rfl
  | 0, g + 1, o, k, h, hf, hg => by
    have := h.len
    unfold bfs
    rw [List.getElem?_eq_none (by omega)]
  | f + 1, 0, o, k, h, hf, hg => by
    have := h.len
    unfold bfs
    rw [List.getElem?_eq_none (by omega)]
  | f + 1, g + 1, o, k, h, hf, hg => by
    unfold bfs
    split
    · exact bfs_fuel f g (k + 1) (h.vis _) (by omega) (by omega)
    · rfl
theorem ordO_pls (m : List Ob) (roots : List Int) : Pls m (ordO m roots) := Pls.bfs _ _ ((Pls.nil m).vis _)
theorem ordO_root {m : List Ob} {roots : List Int} {w : Int} {q : Nat} (hw : w ∈ roots) (h : wPl m w = some q) : q ∈ ordO m roots := (bfs_pre m _ _ _).subset ((vis_mem _).2 (.inr ⟨w, hw, h⟩))
theorem ordO_closed {m : List Ob} {roots : List Int} {p : Nat} (hp : p ∈ ordO m roots) {w : Int} {q : Nat} (hw : w ∈ fsA m p) (h : wPl m w = some q) : q ∈ ordO m roots :=
  bfs_closed _ 0 ((Pls.nil m).vis _) (by omega) (fun i _ hi => by omega) p hp w hw q h
end Go.Proofs.YtfjilngljnlkjaaV
