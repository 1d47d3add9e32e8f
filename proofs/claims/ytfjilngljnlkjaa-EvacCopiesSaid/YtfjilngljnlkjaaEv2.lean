/- Images: objects laid in a new order; what is laid is an image of the same. Plain Lean. -/
import Derived.Test.YtfjilngljnlkjaaEv1
namespace Go.Proofs.YtfjilngljnlkjaaV
open Go Go.Proofs
set_option linter.unusedVariables false
set_option linter.unusedSimpArgs false
/-! ### 1. Where they stand -/
def pos (m : List Ob) : List Nat → Nat → Nat
  | [], _ => 0
  | q :: o, p => if q = p then 0 else szA m q + pos m o p
def szS (m : List Ob) (o : List Nat) : Nat := (o.map (szA m)).sum
theorem szS_app (m : List Ob) (a b : List Nat) : szS m (a ++ b) = szS m a + szS m b := by simp [szS]
theorem szS_one (m : List Ob) (p : Nat) : szS m [p] = szA m p := by simp [szS]
theorem pos_app {m : List Ob} {p : Nat} : ∀ {o x : List Nat}, p ∈ o → pos m (o ++ x) p = pos m o p
  | [], _, h => by cases h
  | q :: o, x, h => by
    simp only [List.cons_append, pos]
    by_cases c : q = p
    · rw [if_pos c, if_pos c]
    · rw [if_neg c, if_neg c, pos_app]
      rcases List.mem_cons.1 h with d | d
      · exact absurd d.symm c
      · exact d
theorem pos_new {m : List Ob} {p : Nat} : ∀ {o x : List Nat}, p ∉ o → pos m (o ++ p :: x) p = szS m o
  | [], x, _ => by simp [pos, szS]
  | q :: o, x, h => by
    have h1 : q ≠ p := fun e => h (by simp [e])
    have h2 : p ∉ o := fun e => h (by simp [e])
    simp only [List.cons_append, pos, if_neg h1, pos_new h2]
    simp [szS]
theorem pos_get {m : List Ob} {o : List Nat} (hd : o.Nodup) {i : Nat} (h : i < o.length) : pos m o o[i] = szS m (o.take i) := by
  have e : o = o.take i ++ o[i] :: o.drop (i + 1) := by rw [List.getElem_cons_drop, List.take_append_drop]
  have hn : o[i] ∉ o.take i := fun c => by
    obtain ⟨j, hj, he⟩ := List.getElem_of_mem c
    rw [List.length_take] at hj
    rw [List.getElem_take] at he
    have := (List.nodup_iff_pairwise_ne.1 hd)
    have := List.pairwise_iff_getElem.1 this j i (by omega) h (by omega)
    exact this he
  conv => lhs; arg 2; rw [e]
  exact pos_new hn
/-- A word, where objects stand in a new order. -/
def movW (m : List Ob) (o : List Nat) (w : Int) : Int := match wPl m w with
  | some p => 2 * (pos m o p : Int) + 2
  | none => w
def layS (m : List Ob) (o S : List Nat) : List Int := S.flatMap fun p => hdA m p :: (fsA m p).map (movW m o)
def lay (m : List Ob) (o : List Nat) : List Int := layS m o o
def cpyS (m : List Ob) (o S : List Nat) : List Ob := S.map fun p => ⟨pos m o p, serA m p, (fsA m p).map (movW m o)⟩
def cpy (m : List Ob) (o : List Nat) : List Ob := cpyS m o o
theorem cpy_len (m : List Ob) (o : List Nat) : (cpy m o).length = o.length := by simp [cpy, cpyS]
theorem layS_len {m : List Ob} {o : List Nat} : ∀ {S : List Nat}, (layS m o S).length = szS m S
  | [] => rfl
  | p :: S => by
    have := layS_len (m := m) (o := o) (S := S)
    simp only [layS, szS, List.flatMap_cons, List.length_append, List.length_cons, List.length_map, List.map_cons, List.sum_cons, szA] at *
    omega
/-- As great as they may be. -/
def Fits (m : List Ob) : Prop := ∀ o ∈ m, 0 ≤ o.ser ∧ o.ser < 1099511627776 ∧ o.fs.length ≤ 127
theorem Spl.fits {at_ : Nat} {l : List Int} {m : List Ob} (h : Spl at_ l m) : Fits m := fun o ho => by
  obtain ⟨i, hi, rfl⟩ := List.getElem_of_mem ho
  obtain ⟨g, _⟩ := h.get i hi
  exact ⟨g.s0, g.s1, g.n⟩
theorem lay_spl {m : List Ob} {o : List Nat} (hF : Fits m) (hP : Pls m o) : ∀ (B A : List Nat), o = A ++ B → Spl (szS m A) (layS m o B) (cpyS m o B)
  | [], A, _ => .nil
  | p :: B, A, e => by
    have ih := lay_spl hF hP B (A ++ [p]) (by rw [e]; simp)
    have hn : p ∉ A := fun c => by
      have := hP.1
      rw [e] at this
      exact (List.nodup_append.1 this).2.2 p c p (by simp) rfl
    have hp : p < m.length := hP.2 p (by rw [e]; simp)
    obtain ⟨b1, b2, b3⟩ := hF m[p] (List.getElem_mem hp)
    have ep : pos m o p = szS m A := by rw [e]; exact pos_new hn
    have := Spl.cons (at_ := szS m A) (o := ⟨pos m o p, serA m p, (fsA m p).map (movW m o)⟩) (t := layS m o B) (m := cpyS m o B) ep (by rw [serA_get hp]; exact b1) (by rw [serA_get hp]; exact b2) (by simp only [List.length_map, fsA_get hp]; exact b3) (by
      rw [szS_app, szS_one] at ih
      have e2 : szS m A + Ob.sz ⟨pos m o p, serA m p, (fsA m p).map (movW m o)⟩ = szS m A + szA m p := by simp [Ob.sz, szA]
      rw [e2]
      exact ih)
    have e3 : Ob.hd ⟨pos m o p, serA m p, (fsA m p).map (movW m o)⟩ = hdA m p := by simp [Ob.hd, hdA]
    rw [e3] at this
    simpa [layS, cpyS] using this
theorem lay_is {m : List Ob} {o : List Nat} (hF : Fits m) (hP : Pls m o) : Spl 0 (lay m o) (cpy m o) := lay_spl hF hP o [] rfl
theorem sum_sub {f : Nat → Nat} : ∀ {o l : List Nat}, o.Nodup → (∀ x ∈ o, x ∈ l) → (o.map f).sum ≤ (l.map f).sum
  | [], l, _, _ => by simp
  | x :: o, l, hd, h => by
    obtain ⟨h1, h2⟩ := List.nodup_cons.1 hd
    have hx := h x (by simp)
    have hp := List.perm_cons_erase hx
    have e : (l.map f).sum = f x + ((l.erase x).map f).sum := by
      have := (hp.map f).sum_nat
      simpa using this
    have ih := sum_sub (f := f) (o := o) (l := l.erase x) h2 fun y hy => (List.mem_erase_of_ne (show y ≠ x from fun e => h1 (by rw [← e]; exact hy))).2 (h y (by simp [hy]))
    simp only [List.map_cons, List.sum_cons]
    omega
theorem range_sz (m : List Ob) : (List.range m.length).map (szA m) = m.map Ob.sz := by
  apply List.ext_getElem
  · simp
  · intro i h1 h2
    have : i < m.length := by simpa using h2
    simp [szA_get this]
theorem Pls.sz {l : List Int} {m : List Ob} {o : List Nat} (hP : Pls m o) (h : Spl 0 l m) : szS m o ≤ l.length := by
  have := sum_sub (f := szA m) (l := List.range m.length) hP.1 fun x hx => List.mem_range.2 (hP.2 x hx)
  rw [range_sz, h.sum] at this
  exact this
theorem pos_lt {m : List Ob} {p : Nat} : ∀ {o : List Nat}, p ∈ o → pos m o p + szA m p ≤ szS m o
  | [], h => by cases h
  | q :: o, h => by
    simp only [pos]
    by_cases c : q = p
    · subst c
      rw [if_pos rfl]
      simp only [szS, List.map_cons, List.sum_cons]
      omega
    · rw [if_neg c]
      have hp : p ∈ o := by
        rcases List.mem_cons.1 h with d | d
        · exact absurd d.symm c
        · exact d
      have := pos_lt (m := m) hp
      simp only [szS, List.map_cons, List.sum_cons] at *
      omega
/-! ### 2. The same objects -/
/-- A new order, of all that its objects, and the roots, lead to. -/
structure Lyd (l : List Int) (m : List Ob) (roots : List Int) (o : List Nat) : Prop where
  spl : Spl 0 l m
  few : l.length ≤ 2048
  fine : fineM m
  fr : fineL m roots
  pls : Pls m o
  root : ∀ w ∈ roots, ∀ p, wPl m w = some p → p ∈ o
  closed : ∀ p ∈ o, ∀ w ∈ fsA m p, ∀ q, wPl m w = some q → q ∈ o
section
variable {l : List Int} {m : List Ob} {roots : List Int} {o : List Nat}
theorem Lyd.fs (h : Lyd l m roots o) {p : Nat} (hp : p ∈ o) : fineL m (fsA m p) := by
  have := h.pls.2 p hp
  rw [fsA_get this]
  exact h.fine _ (List.getElem_mem this)
theorem Lyd.pos (h : Lyd l m roots o) {p : Nat} (hp : p ∈ o) : pos m o p < 2048 := by
  have h1 := pos_lt (m := m) hp
  have h2 := h.pls.sz h.spl
  have h3 := h.few
  have : 1 ≤ szA m p := by unfold szA; omega
  omega
theorem cpy_get (m : List Ob) (o : List Nat) {i : Nat} (hi : i < o.length) (h : i < (cpy m o).length) : (cpy m o)[i] = ⟨_root_.Go.Proofs.YtfjilngljnlkjaaV.pos m o o[i], serA m o[i], (fsA m o[i]).map (movW m o)⟩ := by
  simp [cpy, cpyS]
theorem idx_lt {p : Nat} (hp : p ∈ o) : o.idxOf p < o.length := List.idxOf_lt_length_of_mem hp
theorem idx_get {p : Nat} (hp : p ∈ o) : o[o.idxOf p]'(idx_lt hp) = p := List.getElem_idxOf (idx_lt hp)
theorem idx_inj {p q : Nat} (hp : p ∈ o) (hq : q ∈ o) (h : o.idxOf p = o.idxOf q) : p = q := by
  have h1 := idx_get hp
  have h2 := idx_get hq
  simp only [h] at h1
  exact h1.symm.trans h2
theorem idx_range (hd : o.Nodup) : o.map o.idxOf = List.range o.length := by
  apply List.ext_getElem
  · simp
  · intro i h1 h2
    have hi : i < o.length := by simpa using h2
    simp only [List.getElem_map, List.getElem_range]
    have hm : o[i] ∈ o := List.getElem_mem hi
    have := idx_get hm
    have hne := List.pairwise_iff_getElem.1 (List.nodup_iff_pairwise_ne.1 hd)
    rcases Nat.lt_trichotomy (o.idxOf o[i]) i with c | c | c
    · exact absurd this (hne _ _ (by omega) hi c)
    · exact c
    · exact absurd this.symm (hne _ _ hi (idx_lt hm) c)
theorem Lyd.pl (h : Lyd l m roots o) {p : Nat} (hp : p ∈ o) : pl (cpy m o) (_root_.Go.Proofs.YtfjilngljnlkjaaV.pos m o p) = some (o.idxOf p) := by
  have hs := lay_is h.spl.fits h.pls
  have hi : o.idxOf p < (cpy m o).length := by rw [cpy_len]; exact idx_lt hp
  have := hs.pl hi
  rw [cpy_get m o (idx_lt hp) hi, idx_get hp] at this
  exact this
theorem mov_some {w : Int} {p : Nat} (hw : wPl m w = some p) : movW m o w = 2 * (_root_.Go.Proofs.YtfjilngljnlkjaaV.pos m o p : Int) + 2 := by unfold movW; rw [hw]
theorem mov_none {w : Int} (hw : wPl m w = none) : movW m o w = w := by unfold movW; rw [hw]
theorem fine_none {w : Int} (hf : fineW m w = true) (hw : wPl m w = none) : wRef w = none := by
  cases hr : wRef w with
  | none => rfl
  | some a =>
    obtain ⟨p, _, h2⟩ := fine_pl hf hr
    rw [hw] at h2
    cases h2
theorem Lyd.wpl (h : Lyd l m roots o) {w : Int} (hf : fineW m w = true) (hin : ∀ p, wPl m w = some p → p ∈ o) : wPl (cpy m o) (movW m o w) = (wPl m w).map o.idxOf := by
  cases hw : _root_.Go.Proofs.YtfjilngljnlkjaaV.wPl m w with
  | none => rw [mov_none hw, wPl_none (fine_none hf hw)]; rfl
  | some p =>
    have hp := hin p hw
    rw [mov_some hw]
    show (wRef _).bind _ = _
    rw [wRef_put (h.pos hp)]
    exact h.pl hp
theorem Lyd.fineW (h : Lyd l m roots o) {w : Int} (hf : fineW m w = true) (hin : ∀ p, wPl m w = some p → p ∈ o) : fineW (cpy m o) (movW m o w) = true := by
  cases hw : _root_.Go.Proofs.YtfjilngljnlkjaaV.wPl m w with
  | none =>
    rw [mov_none hw]
    unfold _root_.Go.Proofs.YtfjilngljnlkjaaV.fineW
    rw [fine_none hf hw, fine_ok hf]
    rfl
  | some p =>
    have hp := hin p hw
    rw [mov_some hw]
    unfold _root_.Go.Proofs.YtfjilngljnlkjaaV.fineW
    have e := wRef_put (h.pos hp)
    rw [e, (wRef_ok e).1]
    simp [h.pl hp]
theorem Lyd.fineM (h : Lyd l m roots o) : fineM (cpy m o) := fun ob hob w hw => by
  simp only [cpy, cpyS, List.mem_map] at hob
  obtain ⟨p, hp, rfl⟩ := hob
  simp only [List.mem_map] at hw
  obtain ⟨v, hv, rfl⟩ := hw
  exact h.fineW (h.fs hp v hv) (h.closed p hp v hv)
theorem Lyd.fineR (h : Lyd l m roots o) : fineL (cpy m o) (roots.map (movW m o)) := fun w hw => by
  simp only [List.mem_map] at hw
  obtain ⟨v, hv, rfl⟩ := hw
  exact h.fineW (h.fr v hv) (h.root v hv)
theorem cpy_fs {p : Nat} (hp : p ∈ o) : fsA (cpy m o) (o.idxOf p) = (fsA m p).map (movW m o) := by
  have hi : o.idxOf p < (cpy m o).length := by rw [cpy_len]; exact idx_lt hp
  rw [fsA_get hi, cpy_get m o (idx_lt hp) hi, idx_get hp]
theorem cpy_ser {p : Nat} (hp : p ∈ o) : serA (cpy m o) (o.idxOf p) = serA m p := by
  have hi : o.idxOf p < (cpy m o).length := by rw [cpy_len]; exact idx_lt hp
  rw [serA_get hi, cpy_get m o (idx_lt hp) hi, idx_get hp]
theorem cpy_sz {p : Nat} (hp : p ∈ o) : szA (cpy m o) (o.idxOf p) = szA m p := by unfold szA; rw [cpy_fs hp, List.length_map]
theorem cpy_hd {p : Nat} (hp : p ∈ o) : hdA (cpy m o) (o.idxOf p) = hdA m p := by unfold hdA; rw [cpy_fs hp, cpy_ser hp, List.length_map]
theorem Lyd.vis (h : Lyd l m roots o) : ∀ (ws : List Int) (x : List Nat), fineL m ws → (∀ w ∈ ws, ∀ p, _root_.Go.Proofs.YtfjilngljnlkjaaV.wPl m w = some p → p ∈ o) → (∀ p ∈ x, p ∈ o) → vis (cpy m o) (x.map o.idxOf) (ws.map (movW m o)) = (vis m x ws).map o.idxOf ∧ ∀ p ∈ vis m x ws, p ∈ o
  | [], x, _, _, hx => ⟨rfl, hx⟩
  | w :: ws, x, hf, hin, hx => by
    have e := h.wpl (hf w (by simp)) (hin w (by simp))
    have key : vis1 (cpy m o) (x.map o.idxOf) (movW m o w) = (vis1 m x w).map o.idxOf ∧ ∀ p ∈ vis1 m x w, p ∈ o := by
      unfold vis1
      rw [e]
      cases hw : _root_.Go.Proofs.YtfjilngljnlkjaaV.wPl m w with
      | none => exact ⟨rfl, hx⟩
      | some p =>
        have hp := hin w (by simp) p hw
        simp only [Option.map_some]
        have hiff : o.idxOf p ∈ x.map o.idxOf ↔ p ∈ x := by
          rw [List.mem_map]
          exact ⟨fun ⟨q, hq, e⟩ => idx_inj (hx q hq) hp e ▸ hq, fun hq => ⟨p, hq, rfl⟩⟩
        by_cases c : p ∈ x
        · rw [if_pos c, if_pos (hiff.2 c)]
          exact ⟨rfl, hx⟩
        · rw [if_neg c, if_neg (fun d => c (hiff.1 d))]
          refine ⟨by simp, fun q hq => ?_⟩
          rcases List.mem_append.1 hq with d | d
          · exact hx q d
          · simp at d; subst d; exact hp
    have ih := h.vis ws (vis1 m x w) (fun v hv => hf v (by simp [hv])) (fun v hv => hin v (by simp [hv])) key.2
    have e1 : _root_.Go.Proofs.YtfjilngljnlkjaaV.vis (cpy m o) (x.map o.idxOf) ((w :: ws).map (movW m o)) = _root_.Go.Proofs.YtfjilngljnlkjaaV.vis (cpy m o) (vis1 (cpy m o) (x.map o.idxOf) (movW m o w)) (ws.map (movW m o)) := rfl
    rw [e1, key.1]
    exact ih
theorem Lyd.bfs (h : Lyd l m roots o) : ∀ (f : Nat) (x : List Nat) (k : Nat), (∀ p ∈ x, p ∈ o) → bfs (cpy m o) f (x.map o.idxOf) k = (bfs m f x k).map o.idxOf
  | 0, x, k, _ => rfl
  | f + 1, x, k, hx => by
    unfold _root_.Go.Proofs.YtfjilngljnlkjaaV.bfs
    rw [List.getElem?_map]
    cases hk : x[k]? with
    | none => rfl
    | some p =>
      have hp := hx p (List.mem_of_getElem? hk)
      simp only [Option.map_some]
      obtain ⟨v1, v2⟩ := h.vis (fsA m p) x (h.fs hp) (h.closed p hp) hx
      rw [cpy_fs hp, v1]
      exact h.bfs f _ _ v2
theorem Lyd.ordO (h : Lyd l m roots o) : ordO (cpy m o) (roots.map (movW m o)) = (ordO m roots).map o.idxOf := by
  obtain ⟨v1, v2⟩ := h.vis roots [] h.fr h.root (by simp)
  have hl : (cpy m o).length ≤ m.length := by rw [cpy_len]; exact h.pls.len
  unfold _root_.Go.Proofs.YtfjilngljnlkjaaV.ordO
  rw [← h.bfs (m.length + 1) _ 0 v2]
  rw [← v1]
  exact bfs_fuel _ _ 0 ((Pls.nil _).vis _) (by omega) (by omega)
/-- What is laid is an image, too, and its roots are fine. -/
theorem Lyd.again (h : Lyd l m roots o) : Lyd (lay m o) (cpy m o) (roots.map (movW m o)) (List.range o.length) := by
  refine ⟨lay_is h.spl.fits h.pls, ?_, h.fineM, h.fineR, ⟨List.nodup_range, fun p hp => by rw [cpy_len]; exact List.mem_range.1 hp⟩, fun w hw p hp => ?_, fun p hp w hw q hq => ?_⟩
  · have h1 : (lay m o).length = szS m o := layS_len
    have h2 := h.pls.sz h.spl
    have h3 := h.few
    omega
  · have := wPl_lt hp
    rw [cpy_len] at this
    exact List.mem_range.2 this
  · have := wPl_lt hq
    rw [cpy_len] at this
    exact List.mem_range.2 this
theorem Lyd.pos_again (h : Lyd l m roots o) {p : Nat} (hp : p ∈ o) : _root_.Go.Proofs.YtfjilngljnlkjaaV.pos (cpy m o) (List.range o.length) (o.idxOf p) = _root_.Go.Proofs.YtfjilngljnlkjaaV.pos m o p := by
  have hi := idx_lt hp
  have e1 := pos_get (m := cpy m o) (o := List.range o.length) List.nodup_range (i := o.idxOf p) (by simpa using hi)
  rw [List.getElem_range] at e1
  have e2 := pos_get (m := m) h.pls.1 (i := o.idxOf p) hi
  rw [idx_get hp] at e2
  rw [e1, e2]
  unfold szS
  congr 1
  apply List.ext_getElem
  · simp
  · intro i h1 h2
    have hio : i < o.idxOf p := by simp at h2; omega
    have hm : o[i] ∈ o := List.getElem_mem (by omega)
    have hx : o.idxOf o[i] = i := by
      have := idx_range h.pls.1
      have e := congrArg (fun l => l[i]?) this
      simp only [List.getElem?_map, List.getElem?_eq_getElem (show i < o.length by omega), Option.map_some] at e
      rw [List.getElem?_range (by omega)] at e
      simpa using e
    simp only [List.getElem_map, List.getElem_take, List.getElem_range]
    have := cpy_sz (m := m) hm
    rw [hx] at this
    exact this
theorem Lyd.mov_again (h : Lyd l m roots o) {w : Int} (hf : _root_.Go.Proofs.YtfjilngljnlkjaaV.fineW m w = true) (hin : ∀ p, _root_.Go.Proofs.YtfjilngljnlkjaaV.wPl m w = some p → p ∈ o) : movW (cpy m o) (List.range o.length) (movW m o w) = movW m o w := by
  have e := h.wpl hf hin
  cases hw : _root_.Go.Proofs.YtfjilngljnlkjaaV.wPl m w with
  | none => rw [hw] at e; exact mov_none e
  | some p =>
    rw [hw] at e
    rw [mov_some e, h.pos_again (hin p hw), mov_some hw]
theorem Lyd.lay_again (h : Lyd l m roots o) : lay (cpy m o) (List.range o.length) = lay m o := by
  unfold lay layS
  have e : List.range o.length = o.map o.idxOf := (idx_range h.pls.1).symm
  conv => lhs; arg 2; rw [e]
  rw [List.flatMap_map]
  have : ∀ S : List Nat, (∀ p ∈ S, p ∈ o) → (S.flatMap fun a => hdA (cpy m o) (o.idxOf a) :: (fsA (cpy m o) (o.idxOf a)).map (movW (cpy m o) (List.range o.length))) = S.flatMap fun p => hdA m p :: (fsA m p).map (movW m o) := by
    intro S
    induction S with
    | nil => intro _; rfl
    | cons p S ih =>
      intro hS
      have hp := hS p (by simp)
      simp only [List.flatMap_cons]
      rw [ih fun q hq => hS q (by simp [hq]), cpy_hd hp, cpy_fs hp, List.map_map]
      congr 2
      apply List.map_congr_left
      intro w hw
      exact h.mov_again (h.fs hp w hw) (h.closed p hp w hw)
  exact this o fun p hp => hp
theorem Lyd.roots_again (h : Lyd l m roots o) : (roots.map (movW m o)).map (movW (cpy m o) (List.range o.length)) = roots.map (movW m o) := by
  rw [List.map_map]
  apply List.map_congr_left
  intro w hw
  exact h.mov_again (h.fr w hw) (h.root w hw)
end
end Go.Proofs.YtfjilngljnlkjaaV
