/- Images: what they show, copied or slid. Plain Lean. -/
import Derived.Test.YtfjilngljnlkjaaEv2
namespace Go.Proofs.YtfjilngljnlkjaaV
open Go Go.Proofs
set_option linter.unusedVariables false
set_option linter.unusedSimpArgs false
abbrev Va := Int × Int
abbrev Nd := Int × List Va
abbrev Vw := List (List Va) × List Nd
/-- A word's value, by its object's serial. -/
def val (m : List Ob) (w : Int) : Va := match wPl m w with
  | some p => (2, serA m p)
  | none => (rdK w, rdN w)
def nodeA (m : List Ob) (p : Nat) : Nd := (serA m p, (fsA m p).map (val m))
/-- By serials; of equal ones the first by address. -/
def leS (m : List Ob) (p q : Nat) : Bool := decide (serA m p < serA m q ∨ serA m p = serA m q ∧ p ≤ q)
def srtS (m : List Ob) (o : List Nat) : List Nat := o.mergeSort (leS m)
def vwO (m : List Ob) (roots : List Int) : Vw := ([roots.map (val m)], (srtS m (ordO m roots)).map (nodeA m))
theorem srtS_perm (m : List Ob) (o : List Nat) : (srtS m o).Perm o := List.mergeSort_perm o _
theorem srtS_sorted (m : List Ob) (o : List Nat) : (srtS m o).Pairwise fun p q => leS m p q = true :=
  List.pairwise_mergeSort (fun a b c h1 h2 => by unfold leS at *; simp only [decide_eq_true_eq] at *; omega) (fun a b => by unfold leS; simp only [Bool.or_eq_true, decide_eq_true_eq]; omega) o
/-- What is sorted by a key that tells all apart is told by what it has. -/
theorem sorted_same {α : Type} {lt : α → α → Prop} (hirr : ∀ x, ¬ lt x x) (has : ∀ x y, lt x y → ¬ lt y x) : ∀ {a b : List α}, a.Pairwise lt → b.Pairwise lt → (∀ x, x ∈ a ↔ x ∈ b) → a = b
  | [], [], _, _, _ => rfl
  | [], y :: b, _, _, h => by have := (h y).2 (by simp); cases this
  | x :: a, [], _, _, h => by have := (h x).1 (by simp); cases this
  | x :: a, y :: b, ha, hb, h => by
    obtain ⟨a1, a2⟩ := List.pairwise_cons.1 ha
    obtain ⟨b1, b2⟩ := List.pairwise_cons.1 hb
    have exy : x = y := by
      rcases List.mem_cons.1 ((h x).1 (by simp)) with c | c
      · exact c
      · rcases List.mem_cons.1 ((h y).2 (by simp)) with d | d
        · exact d.symm
        · exact absurd (a1 y d) (has _ _ (b1 x c))
    subst exy
    refine congrArg (x :: ·) (sorted_same hirr has a2 b2 fun z => ?_)
    constructor
    · intro hz
      rcases List.mem_cons.1 ((h z).1 (by simp [hz])) with c | c
      · subst c; exact absurd (a1 z hz) (hirr z)
      · exact c
    · intro hz
      rcases List.mem_cons.1 ((h z).2 (by simp [hz])) with c | c
      · subst c; exact absurd (b1 z hz) (hirr z)
      · exact c
/-- All serials are unlike. -/
def Unl (m : List Ob) : Prop := m.Pairwise fun a b => a.ser ≠ b.ser
theorem Unl.ne {m : List Ob} (h : Unl m) {p q : Nat} (hp : p < m.length) (hq : q < m.length) (e : serA m p = serA m q) : p = q := by
  rw [serA_get hp, serA_get hq] at e
  have := List.pairwise_iff_getElem.1 h
  rcases Nat.lt_trichotomy p q with c | c | c
  · exact absurd e (this p q hp hq c)
  · exact c
  · exact absurd e.symm (this q p hq hp c)
section
variable {l : List Int} {m : List Ob} {roots : List Int} {o : List Nat}
theorem Lyd.val (h : Lyd l m roots o) {w : Int} (hf : _root_.Go.Proofs.YtfjilngljnlkjaaV.fineW m w = true) (hin : ∀ p, _root_.Go.Proofs.YtfjilngljnlkjaaV.wPl m w = some p → p ∈ o) : val (cpy m o) (movW m o w) = val m w := by
  have e := h.wpl hf hin
  unfold _root_.Go.Proofs.YtfjilngljnlkjaaV.val
  cases hw : _root_.Go.Proofs.YtfjilngljnlkjaaV.wPl m w with
  | none => rw [hw] at e; rw [e, mov_none hw]; rfl
  | some p => rw [hw] at e; rw [e]; simp only [Option.map_some, cpy_ser (hin p hw)]
theorem Lyd.node (h : Lyd l m roots o) {p : Nat} (hp : p ∈ o) : nodeA (cpy m o) (o.idxOf p) = nodeA m p := by
  unfold nodeA
  rw [cpy_ser hp, cpy_fs hp, List.map_map]
  congr 1
  apply List.map_congr_left
  intro w hw
  exact h.val (h.fs hp w hw) (h.closed p hp w hw)
theorem nodes_sorted {m : List Ob} {o : List Nat} (hP : Pls m o) (hU : ∀ p ∈ o, ∀ q ∈ o, serA m p = serA m q → p = q) : ((srtS m o).map (nodeA m)).Pairwise fun a b => a.1 < b.1 := by
  rw [List.pairwise_map]
  have hnd : (srtS m o).Nodup := (srtS_perm m o).nodup_iff.2 hP.1
  refine List.Pairwise.imp_of_mem (fun {a b} ha hb h => ?_) ((srtS_sorted m o).and hnd)
  obtain ⟨h1, h2⟩ := h
  have ha' := (srtS_perm m o).mem_iff.1 ha
  have hb' := (srtS_perm m o).mem_iff.1 hb
  unfold leS at h1
  simp only [decide_eq_true_eq] at h1
  show serA m a < serA m b
  rcases h1 with c | ⟨c, _⟩
  · exact c
  · exact absurd (hU a ha' b hb' c) h2
/-- The view of what was laid is the same, if serials are unlike. -/
theorem Lyd.view (h : Lyd l m roots o) (hU : Unl m) : vwO (cpy m o) (roots.map (movW m o)) = vwO m roots := by
  have hR := ordO_pls m roots
  have hsub : ∀ p ∈ _root_.Go.Proofs.YtfjilngljnlkjaaV.ordO m roots, p ∈ o := by
    obtain ⟨v1, v2⟩ := h.vis roots [] h.fr h.root (by simp)
    have key : ∀ (f : Nat) (x : List Nat) (k : Nat), (∀ p ∈ x, p ∈ o) → ∀ p ∈ _root_.Go.Proofs.YtfjilngljnlkjaaV.bfs m f x k, p ∈ o := by
      intro f
      induction f with
      | zero => exact fun x k hx p hp => hx p hp
      | succ f ih =>
        intro x k hx p hp
        unfold _root_.Go.Proofs.YtfjilngljnlkjaaV.bfs at hp
        split at hp
        · rename_i q hq
          have hqo := hx q (List.mem_of_getElem? hq)
          exact ih _ _ (h.vis _ x (h.fs hqo) (h.closed q hqo) hx).2 p hp
        · exact hx p hp
    exact key _ _ _ v2
  unfold vwO
  rw [h.ordO]
  congr 1
  · rw [List.map_map]
    congr 1
    apply List.map_congr_left
    intro w hw
    exact h.val (h.fr w hw) (h.root w hw)
  · have hP' : Pls (cpy m o) ((_root_.Go.Proofs.YtfjilngljnlkjaaV.ordO m roots).map o.idxOf) := by
      rw [← h.ordO]
      exact ordO_pls _ _
    have hU' : ∀ p ∈ _root_.Go.Proofs.YtfjilngljnlkjaaV.ordO m roots, ∀ q ∈ _root_.Go.Proofs.YtfjilngljnlkjaaV.ordO m roots, serA m p = serA m q → p = q := fun p hp q hq e => hU.ne (hR.2 p hp) (hR.2 q hq) e
    refine sorted_same (lt := fun a b => a.1 < b.1) (fun x => Int.lt_irrefl _) (fun x y h1 h2 => by omega) (nodes_sorted hP' fun p hp q hq e => ?_) (nodes_sorted hR hU') fun x => ?_
    · simp only [List.mem_map] at hp hq
      obtain ⟨a, ha, rfl⟩ := hp
      obtain ⟨b, hb, rfl⟩ := hq
      rw [cpy_ser (hsub a ha), cpy_ser (hsub b hb)] at e
      rw [hU' a ha b hb e]
    · simp only [List.mem_map, (srtS_perm _ _).mem_iff]
      constructor
      · rintro ⟨_, ⟨p, hp, rfl⟩, rfl⟩
        exact ⟨p, hp, (h.node (hsub p hp)).symm⟩
      · rintro ⟨p, hp, rfl⟩
        exact ⟨_, ⟨p, hp, rfl⟩, h.node (hsub p hp)⟩
end
/-! ### Slid -/
def slO (m : List Ob) (roots : List Int) : List Nat := (List.range m.length).filter fun p => decide (p ∈ ordO m roots)
theorem slO_mem {m : List Ob} {roots : List Int} {p : Nat} : p ∈ slO m roots ↔ p ∈ ordO m roots := by
  simp only [slO, List.mem_filter, List.mem_range, decide_eq_true_eq]
  exact ⟨fun h => h.2, fun h => ⟨(ordO_pls m roots).2 p h, h⟩⟩
theorem slO_sorted (m : List Ob) (roots : List Int) : (slO m roots).Pairwise (· < ·) := (List.pairwise_lt_range).filter _
theorem slO_pls (m : List Ob) (roots : List Int) : Pls m (slO m roots) := ⟨(slO_sorted m roots).imp fun h => by omega, fun p hp => (ordO_pls m roots).2 p (slO_mem.1 hp)⟩
theorem slO_perm (m : List Ob) (roots : List Int) : (slO m roots).Perm (ordO m roots) := (List.perm_ext_iff_of_nodup (slO_pls m roots).1 (ordO_pls m roots).1).2 fun _ => slO_mem
/-- What is opened, and its roots are fine. -/
structure Opn (l : List Int) (m : List Ob) (roots : List Int) : Prop where
  spl : Spl 0 l m
  few : l.length ≤ 2048
  fine : fineM m
  fr : fineL m roots
section
variable {l : List Int} {m : List Ob} {roots : List Int}
theorem Opn.copy (h : Opn l m roots) : Lyd l m roots (ordO m roots) := ⟨h.spl, h.few, h.fine, h.fr, ordO_pls m roots, fun w hw p hp => ordO_root hw hp, fun p hp w hw q hq => ordO_closed hp hw hq⟩
theorem Opn.slide (h : Opn l m roots) : Lyd l m roots (slO m roots) := ⟨h.spl, h.few, h.fine, h.fr, slO_pls m roots, fun w hw p hp => slO_mem.2 (ordO_root hw hp), fun p hp w hw q hq => slO_mem.2 (ordO_closed (slO_mem.1 hp) hw hq)⟩
theorem Lyd.opn {o : List Nat} (h : Lyd l m roots o) : Opn (lay m o) (cpy m o) (roots.map (movW m o)) := ⟨h.again.spl, h.again.few, h.again.fine, h.again.fr⟩
theorem Opn.copy_again (h : Opn l m roots) : ordO (cpy m (ordO m roots)) (roots.map (movW m (ordO m roots))) = List.range (ordO m roots).length := by
  rw [h.copy.ordO, idx_range (ordO_pls m roots).1]
theorem Opn.slide_again (h : Opn l m roots) : slO (cpy m (slO m roots)) (roots.map (movW m (slO m roots))) = List.range (slO m roots).length := by
  have e := h.slide.ordO
  unfold slO
  rw [show List.map (movW m (List.filter (fun p => decide (p ∈ ordO m roots)) (List.range m.length))) roots = roots.map (movW m (slO m roots)) from rfl, show List.filter (fun p => decide (p ∈ ordO m roots)) (List.range m.length) = slO m roots from rfl, cpy_len, e]
  rw [List.filter_eq_self]
  intro i hi
  have hi' : i < (slO m roots).length := List.mem_range.1 hi
  rw [decide_eq_true_eq, List.mem_map]
  have e2 := congrArg (fun l => l[i]?) (idx_range (slO_pls m roots).1)
  simp only [List.getElem?_map, List.getElem?_eq_getElem hi', Option.map_some, List.getElem?_range hi', Option.some.injEq] at e2
  exact ⟨(slO m roots)[i], slO_mem.1 (List.getElem_mem hi'), e2⟩
theorem szS_perm {o o' : List Nat} (h : o.Perm o') : szS m o = szS m o' := (h.map _).sum_nat
theorem lay_lens (m : List Ob) (roots : List Int) : (lay m (slO m roots)).length = (lay m (ordO m roots)).length := by
  unfold lay
  rw [layS_len, layS_len, szS_perm (slO_perm m roots)]
theorem range_take {n p : Nat} (h : p ≤ n) : (List.range n).take p = List.range p := by rw [List.take_range, Nat.min_eq_left h]
theorem at_pos (h : Spl 0 l m) {p : Nat} (hp : p < m.length) : m[p].at_ = szS m (List.range p) := by
  rw [(h.get p hp).2, Nat.zero_add]
  unfold szS
  have := congrArg (fun x => x.take p) (range_sz m)
  simp only [← List.map_take] at this
  rw [range_take (by omega)] at this
  rw [this]
/-- Nothing moves up. -/
theorem pos_le (h : Spl 0 l m) {p : Nat} (hp : p ∈ slO m roots) : ∃ hm : p < m.length, pos m (slO m roots) p ≤ m[p].at_ := by
  have hm := (slO_pls m roots).2 p hp
  refine ⟨hm, ?_⟩
  obtain ⟨i, hi, rfl⟩ := List.getElem_of_mem hp
  rw [at_pos h hm, pos_get (slO_pls m roots).1 hi]
  refine sum_sub ((slO_pls m roots).1.sublist (List.take_sublist i _)) fun x hx => ?_
  obtain ⟨j, hj, rfl⟩ := List.getElem_of_mem hx
  rw [List.length_take] at hj
  rw [List.getElem_take, List.mem_range]
  exact List.pairwise_iff_getElem.1 (slO_sorted m roots) j i (by omega) hi (by omega)
/-- Where all stay nothing moves. -/
theorem mov_range (h : Spl 0 l m) {w : Int} (hf : fineW m w = true) : movW m (List.range m.length) w = w := by
  cases hw : wPl m w with
  | none => exact mov_none hw
  | some p =>
    have hp := wPl_lt hw
    rw [mov_some hw]
    have e1 := pos_get (m := m) (o := List.range m.length) List.nodup_range (i := p) (by simpa using hp)
    rw [List.getElem_range, range_take (by omega), ← at_pos h hp] at e1
    rw [e1]
    unfold wPl at hw
    cases hr : wRef w with
    | none => rw [hr] at hw; cases hw
    | some a =>
      rw [hr] at hw
      obtain ⟨_, h2, _⟩ := pl_some (show pl m a = some p from hw)
      rw [h2]
      exact (wRef_some.1 hr).1.symm
theorem Spl.flat : ∀ {at_ : Nat} {l : List Int} {m : List Ob}, Spl at_ l m → l = m.flatMap fun o => o.hd :: o.fs
  | _, _, _, .nil => rfl
  | _, _, _, .cons _ _ _ _ h5 => by
    rw [List.flatMap_cons, ← h5.flat]
    rfl
theorem lay_range (h : Spl 0 l m) (hf : fineM m) : lay m (List.range m.length) = l := by
  rw [h.flat]
  unfold lay layS
  have : m = (List.range m.length).map (fun p => m[p]?.getD ⟨0, 0, []⟩) := by
    apply List.ext_getElem
    · simp
    · intro i h1 h2
      simp [List.getElem?_eq_getElem h1]
  conv => rhs; rw [this]
  rw [List.flatMap_map]
  rw [List.flatMap_def, List.flatMap_def]
  congr 1
  apply List.map_congr_left
  intro p hp
  have hp' := List.mem_range.1 hp
  rw [hdA_get hp', fsA_get hp', List.getElem?_eq_getElem hp', Option.getD_some]
  congr 1
  have : m[p].fs.map (movW m (List.range m.length)) = m[p].fs.map id := List.map_congr_left fun w hw => mov_range h (hf _ (List.getElem_mem hp') w hw)
  rw [this, List.map_id]
/-- Roots to all objects. -/
def allR (m : List Ob) : List Int := m.map fun o => 2 * (o.at_ : Int) + 2
theorem allR_pl (h : Spl 0 l m) (hl : l.length ≤ 2048) {p : Nat} (hp : p < m.length) : wPl m (2 * (m[p].at_ : Int) + 2) = some p := by
  have := (h.get p hp).1.end_
  unfold wPl
  rw [wRef_put (by omega)]
  exact h.pl hp
theorem allR_fine (h : Spl 0 l m) (hl : l.length ≤ 2048) : fineL m (allR m) := fun w hw => by
  simp only [allR, List.mem_map] at hw
  obtain ⟨o, ho, rfl⟩ := hw
  obtain ⟨p, hp, rfl⟩ := List.getElem_of_mem ho
  have := (h.get p hp).1.end_
  unfold fineW
  have e := wRef_put (a := m[p].at_) (by omega)
  rw [e, (wRef_ok e).1]
  simp [h.pl hp]
theorem allR_slO (h : Spl 0 l m) (hl : l.length ≤ 2048) : slO m (allR m) = List.range m.length := by
  unfold slO
  rw [List.filter_eq_self]
  intro p hp
  have hp' := List.mem_range.1 hp
  rw [decide_eq_true_eq]
  exact ordO_root (w := 2 * (m[p].at_ : Int) + 2) (List.mem_map.2 ⟨m[p], List.getElem_mem hp', rfl⟩) (allR_pl h hl hp')
end
end Go.Proofs.YtfjilngljnlkjaaV
