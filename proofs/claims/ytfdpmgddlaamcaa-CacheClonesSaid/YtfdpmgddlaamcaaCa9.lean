/- The cache of pages: maps.Values, collected: the map gone through in any order. -/
import Derived.Test.YtfdpmgddlaamcaaCa7
import Derived.Test.YtfdpmgddlaamcaaCaL
namespace Go.Proofs.YtfdpmgddlaamcaaV
open Go Go.Proofs Go.RowKit
open Go.ChangeMaps (setBlock)
set_option linter.unusedVariables false
set_option linter.unusedSimpArgs false
set_option maxRecDepth 10000
theorem nodup_sub_len : ∀ (a b : List Nat), a.Nodup → (∀ x ∈ a, x ∈ b) → a.length ≤ b.length
  | [], _, _, _ => by simp
  | x :: a, b, hn, h => by
    obtain ⟨h1, h2⟩ := List.nodup_cons.1 hn
    have hx := h x (by simp)
    have ih := nodup_sub_len a (b.erase x) h2 fun y hy => (List.mem_erase_of_ne (fun e => h1 (by rw [← e]; exact hy))).2 (h y (by simp [hy]))
    rw [List.length_erase_of_mem hx] at ih
    have := List.length_pos_of_mem hx
    simp only [List.length_cons]
    omega
theorem Vis.len {l vis : Pgs} {seen : Array Nat} {c : Nat} (hg : Good l c) (h : Vis l vis seen) : vis.length ≤ l.length := by
  have hn : (vis.map fun x => x.2.2).Nodup := by
    rw [List.nodup_iff_pairwise_ne, List.pairwise_map]
    exact List.Pairwise.imp_of_mem (fun {x y} hx hy hne e => hne (once_eq hg (h.sub x hx) (h.sub y hy) e)) (List.nodup_iff_pairwise_ne.1 h.nd)
  have := nodup_sub_len _ (l.map fun x => x.2.2) hn fun x hx => by
    obtain ⟨y, hy, rfl⟩ := List.mem_map.1 hx
    exact List.mem_map.2 ⟨y, h.sub y hy, rfl⟩
  simpa using this
structure AqOk (r : Loop) (st : LoopState) (b2 : Nat) : Prop where
  st : r.state = st
  pe : r.pending = none
  sz : r.tmps.size = 13
  ps : r.params = #[7]
  as_ : r.assign = F141.as2
  bd : r.body = F141.bd2
  t2 : r.tmps[2]? = some (.pointer (some ⟨b2, 0, none⟩))
/-- What stands between the rounds, and in one. -/
structure AQ (st : LoopState) (W w : World) (m c lr D b2 it : Nat) (seen : Array Nat) (q : List Int) : Prop where
  fr : Fr [] W w
  rec_ : ∃ r, w.heap[lr]? = some (.loop r) ∧ AqOk r st b2
  df : w.heap[D]? = some (.deferred (some []))
  itr : w.heap[it]? = some (.mapIter (some m) c seen c)
  box : ∃ v, w.heap[b2]? = some (.cells #[v] 34 (0, 0)) ∧ OwnS w v 3 1 (intC q) ∧ NewS W v
  lo : W.heap.size ≤ lr ∧ W.heap.size ≤ D ∧ W.heap.size ≤ it ∧ W.heap.size ≤ b2
section
variable {K : VK} {w : World} {st : LoopState} {W : World} {m c lr D b2 it : Nat} {seen : Array Nat} {q : List Int}
theorem AQ.keep {w' : World} (h : AQ st W w m c lr D b2 it seen q) (hf : Fr [] w w') : AQ st W w' m c lr D b2 it seen q := by
  obtain ⟨r, a1, a2⟩ := h.rec_
  obtain ⟨v, c1, c2, c3⟩ := h.box
  exact ⟨h.fr.trans hf, ⟨r, hf.at_ a1 (by simp), a2⟩, hf.at_ h.df (by simp), hf.at_ h.itr (by simp), ⟨v, hf.at_ c1 (by simp), c2.keep hf (by simp), c3⟩, h.lo⟩
/-- Two blocks of unlike make. -/
theorem at_ne {a b : Nat} {o o' : Obj} (h : w.heap[a]? = some o) (h' : w.heap[b]? = some o') (hne : o ≠ o') : a ≠ b := fun e => by
  subst e
  rw [h] at h'
  exact hne (Option.some.inj h')
theorem AQ.put {st' : LoopState} {w' : World} {r r' : Loop} (h : AQ st W w m c lr D b2 it seen q) (hr : w.heap[lr]? = some (.loop r)) (hr' : AqOk r' st' b2) (hu : Upd w lr (.loop r') w') : AQ st' W w' m c lr D b2 it seen q := by
  obtain ⟨v, c1, c2, c3⟩ := h.box
  have n1 := at_ne h.df hr (by simp)
  have n2 := at_ne h.itr hr (by simp)
  have n3 := at_ne c1 hr (by simp)
  have n4 := c2.no hr (by simp)
  exact ⟨h.fr.then hu.fr fun z hz => .inr (by simp only [List.mem_singleton] at hz; have := h.lo; omega), ⟨r', hu.at_, hr'⟩, hu.fr.at_ h.df (by simpa using n1), hu.fr.at_ h.itr (by simpa using n2),
    ⟨v, hu.fr.at_ c1 (by simpa using n3), c2.keep' hu.fr (fun g hg e => by simp only [List.mem_singleton] at e; subst e; exact n4 hg), c3⟩, h.lo⟩
theorem AQ.step {w' : World} {seen' : Array Nat} (h : AQ st W w m c lr D b2 it seen q) (hu : Upd w it (.mapIter (some m) c seen' c) w') : AQ st W w' m c lr D b2 it seen' q := by
  obtain ⟨r, a1, a2⟩ := h.rec_
  obtain ⟨v, c1, c2, c3⟩ := h.box
  have n1 := at_ne h.df h.itr (by simp)
  have n2 := at_ne a1 h.itr (by simp)
  have n3 := at_ne c1 h.itr (by simp)
  have n4 := c2.no h.itr (by simp)
  exact ⟨h.fr.then hu.fr fun z hz => .inr (by simp only [List.mem_singleton] at hz; have := h.lo; omega), ⟨r, hu.fr.at_ a1 (by simpa using n2), a2⟩, hu.fr.at_ h.df (by simpa using n1), hu.at_,
    ⟨v, hu.fr.at_ c1 (by simpa using n3), c2.keep' hu.fr (fun g hg e => by simp only [List.mem_singleton] at e; subst e; exact n4 hg), c3⟩, h.lo⟩
/-- A round. -/
theorem aq_round {p : Int} {K' : VK} (hq : q.length ≤ 1000000) (hM : AQ .ready W w m c lr D b2 it seen q) (h : ∀ w', AQ .ready W w' m c lr D b2 it seen (q ++ [p]) → K' (.bool true) w') : C.yield Try.prog lr #[.int .i64 p] w K' := by
  obtain ⟨r, hr, hok⟩ := hM.rec_
  refine R141_2.yield (y2 := .pointer (some ⟨b2, 0, none⟩)) hr hok.sz hok.ps hok.as_ hok.bd (fun t v hv => ?_) ⟨r, hr, hok.st, ?_⟩
  · refine env_of (env := [(2, .pointer (some ⟨b2, 0, none⟩))]) (fun x hx => ?_) t v hv
    simp only [List.mem_cons, List.not_mem_nil, or_false] at hx
    subst hx
    exact hok.t2
  · have hu := upd_put (o := .loop { r with state := .busy }) hr
    have M1 := hM.put (st' := .busy) (r' := { r with state := .busy }) hr ⟨rfl, hok.pe, hok.sz, hok.ps, hok.as_, hok.bd, hok.t2⟩ hu
    generalize w.putObj lr (.loop { r with state := .busy }) = w1 at *
    obtain ⟨v, c1, c2, c3⟩ := M1.box
    refine C.load1_of (v := v) c1 rfl (C.appI' c2 (by omega) fun v' w2 ho2 hf2 hg2 => ?_)
    have c1' := hf2.at_ c1 (c2.nb c1 (by decide))
    refine C.store1_of c1' ho2.one.2 ho2.one.1 (by simp) fun w3 hu3 => ?_
    have s1 := M1.fr.size
    have fW : Fr [] W w3 := (M1.fr.then hf2 fun z hz => .inr (c3.blk z hz)).then hu3.fr fun z hz => .inr (by simp only [List.mem_singleton] at hz; have := M1.lo; omega)
    obtain ⟨r2, hr2, hok2⟩ := M1.rec_
    have k : ∀ {b : Nat} {o : Obj}, w1.heap[b]? = some o → (∀ cs e' fz, o ≠ .cells cs e' fz) → w3.heap[b]? = some o := fun hb hne => hu3.fr.at_ (hf2.at_ hb (c2.no hb hne)) (by
      simp only [List.mem_singleton]
      exact fun e => by subst e; rw [hb] at c1; exact hne _ _ _ (Option.some.inj c1))
    have ho3 : OwnS w3 v' 3 1 (intC (q ++ [p])) := ho2.keep' hu3.fr fun g hg e => by
      simp only [List.mem_singleton] at e
      subst e
      exact ho2.nb c1' (by decide) hg
    have M3 : AQ .busy W w3 m c lr D b2 it seen (q ++ [p]) := ⟨fW, ⟨r2, k hr2 (by simp), hok2⟩, k M1.df (by simp), k M1.itr (by simp), ⟨v', hu3.at_, ho3, new_app c3 s1 hg2⟩, M1.lo⟩
    obtain ⟨r3, hr3, hok3⟩ := M3.rec_
    exact ⟨r3, hr3, h _ (M3.put (st' := .ready) (r' := { r3 with state := .ready, pending := none }) hr3 ⟨rfl, rfl, hok3.sz, hok3.ps, hok3.as_, hok3.bd, hok3.t2⟩ (upd_put hr3))⟩
def qOf (vis : Pgs) : List Int := vis.map fun x => valI x.2.1
theorem val_loop {n : Int} {b : Nat} {l : Pgs} (hC : IsC W b m n l c) (hg : Good l c) (hl : l.length ≤ 1000)
    (h : ∀ w' seen' vis, vis.Perm l → AQ .ready W w' m c lr D b2 it seen' (qOf vis) → K (.tuple #[]) w') :
    ∀ (d : Nat) (seen : Array Nat) (vis : Pgs) (w : World), (leftOf (l.map (ent seatV)).toArray seen).size ≤ d → Vis l vis seen → AQ .ready W w m c lr D b2 it seen (qOf vis) →
      F103.l1 K (.func (.yield lr) #[] #[]) (.pointer (some ⟨it, 0, none⟩)) w := by
  have fin : ∀ (seen : Array Nat) (vis : Pgs) (w : World), (leftOf (l.map (ent seatV)).toArray seen).size = 0 → Vis l vis seen → AQ .ready W w m c lr D b2 it seen (qOf vis) → K (.tuple #[]) w := fun seen vis w h0 hv hM =>
    h w seen vis (hv.all hg fun x hx => all_seen _ _ h0 _ (List.mem_map.2 ⟨x, hx, rfl⟩)) hM
  have lt : ∀ e ∈ (l.map (ent seatV)), e.born < c := fun x hx => by
    simp only [List.mem_map] at hx
    obtain ⟨y, hy, rfl⟩ := hx
    exact hg.born y hy
  intro d
  induction d with
  | zero =>
    intro seen vis w hd hv hM
    have hm := hC.map.keep hM.fr (by simp)
    rcases run_next_at (P := Try.prog) w 0 it m c c seen _ c hM.itr hm lt (Nat.le_refl _) with ⟨h0, hrun⟩ | ⟨e, he, w1, hal, hrun⟩
    · refine F103.l1.to (C.run_of hrun ⟨#[.bool false], .bool false, rfl, rfl, ?_⟩)
      simp only [C.ite_true, C.ite_false, C.pick_true, C.pick_false, C.not_bool, C.field_ptr, C.nilCheck_ptr, C.add_mk, C.sub_mk, C.mul_mk, C.eql_mk, C.neq_mk, C.lss_mk, C.leq_mk, C.gtr_mk, C.geq_mk, C.conv_mk, C.len_mk, C.ext_0, C.ext_1, C.ext3_0, C.ext3_1, C.ext3_2, C.guarded_yes, C.guarded_tf, C.guarded_ft, C.guarded_undef, Bool.not_true, Bool.not_false, Nat.zero_add, eq_self, decide_true, decide_false]
      exact fin seen vis w h0 hv hM
    · have := Array.size_pos_of_mem (Array.mem_toList_iff.1 he)
      omega
  | succ d ih =>
    intro seen vis w hd hv hM
    have hm := hC.map.keep hM.fr (by simp)
    rcases run_next_at (P := Try.prog) w 0 it m c c seen _ c hM.itr hm lt (Nat.le_refl _) with ⟨h0, hrun⟩ | ⟨e, he, w1, hal, hrun⟩
    · refine F103.l1.to (C.run_of hrun ⟨#[.bool false], .bool false, rfl, rfl, ?_⟩)
      simp only [C.ite_true, C.ite_false, C.pick_true, C.pick_false, C.not_bool, C.field_ptr, C.nilCheck_ptr, C.add_mk, C.sub_mk, C.mul_mk, C.eql_mk, C.neq_mk, C.lss_mk, C.leq_mk, C.gtr_mk, C.geq_mk, C.conv_mk, C.len_mk, C.ext_0, C.ext_1, C.ext3_0, C.ext3_1, C.ext3_2, C.guarded_yes, C.guarded_tf, C.guarded_ft, C.guarded_undef, Bool.not_true, Bool.not_false, Nat.zero_add, eq_self, decide_true, decide_false]
      exact fin seen vis w h0 hv hM
    · have hsh := left_shrinks _ _ _ he
      obtain ⟨hem, hes⟩ := mem_left he
      obtain ⟨x, hx, rfl⟩ := List.mem_map.1 hem
      have f1 : Fr [] w w1 := by
        rcases hal with rfl | rfl
        · exact Fr.refl _ _
        · exact Fr.drew w
      have M1 := hM.keep f1
      have hu := upd_setBlock (o' := .mapIter (some m) c (seen.push x.2.2) c) M1.itr
      have M2 := M1.step hu
      refine F103.l1.to (C.run_of hrun ?_)
      simp only [C.ite_true, C.ite_false, C.pick_true, C.pick_false, C.not_bool, C.field_ptr, C.nilCheck_ptr, C.add_mk, C.sub_mk, C.mul_mk, C.eql_mk, C.neq_mk, C.lss_mk, C.leq_mk, C.gtr_mk, C.geq_mk, C.conv_mk, C.len_mk, C.ext_0, C.ext_1, C.ext3_0, C.ext3_1, C.ext3_2, C.guarded_yes, C.guarded_tf, C.guarded_ft, C.guarded_undef, Bool.not_true, Bool.not_false, Nat.zero_add, eq_self, decide_true, decide_false]
      have hrun2 := run_entry_at (P := Try.prog) _ it m c seen _ c (ent seatV x) M2.itr (hC.map.keep M2.fr (by simp)) hem (by simpa [ent, Function.comp_def] using hg.once)
      refine F103.k2.to (C.run_of hrun2 ?_)
      obtain ⟨p, hp⟩ := hC.int x hx
      simp only [C.ite_true, C.ite_false, C.pick_true, C.pick_false, C.not_bool, C.field_ptr, C.nilCheck_ptr, C.add_mk, C.sub_mk, C.mul_mk, C.eql_mk, C.neq_mk, C.lss_mk, C.leq_mk, C.gtr_mk, C.geq_mk, C.conv_mk, C.len_mk, C.ext_0, C.ext_1, C.ext3_0, C.ext3_1, C.ext3_2, C.guarded_yes, C.guarded_tf, C.guarded_ft, C.guarded_undef, Bool.not_true, Bool.not_false, Nat.zero_add, eq_self, decide_true, decide_false, ent, hp]
      have hvl := hv.len hg
      refine aq_round (q := qOf vis) (p := p) (by simp [qOf]; omega) M2 fun w3 M3 => ?_
      simp only [C.ite_true, C.ite_false, C.pick_true, C.pick_false, C.not_bool, C.field_ptr, C.nilCheck_ptr, C.add_mk, C.sub_mk, C.mul_mk, C.eql_mk, C.neq_mk, C.lss_mk, C.leq_mk, C.gtr_mk, C.geq_mk, C.conv_mk, C.len_mk, C.ext_0, C.ext_1, C.ext3_0, C.ext3_1, C.ext3_2, C.guarded_yes, C.guarded_tf, C.guarded_ft, C.guarded_undef, Bool.not_true, Bool.not_false, Nat.zero_add, eq_self, decide_true, decide_false]
      refine ih (seen.push x.2.2) (vis ++ [x]) w3 (by have : (ent seatV x).born = x.2.2 := rfl; rw [this] at hsh; omega) (hv.add hg hx (by have h' : (ent seatV x).born = x.2.2 := rfl; rw [h'] at hes; simpa using hes)) ?_
      have e : qOf (vis ++ [x]) = qOf vis ++ [p] := by simp [qOf, hp, valI]
      rw [e]
      exact M3
end
end Go.Proofs.YtfdpmgddlaamcaaV
