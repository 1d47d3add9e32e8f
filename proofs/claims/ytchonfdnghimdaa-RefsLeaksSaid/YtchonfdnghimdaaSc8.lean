/- The parts of a graph, by the program: backward through the order. -/
import Derived.Test.YtchonfdnghimdaaSc7
namespace Go.Proofs.YtchonfdnghimdaaV
open Go Go.Proofs Go.RowKit
set_option linter.unusedVariables false
set_option linter.unusedSimpArgs false
set_option maxRecDepth 10000
theorem upd_put {w : World} {l : Nat} {o o' : Obj} (h : w.heap[l]? = some o') : Upd w l o (w.putObj l o) := by
  have hl := lt_of_at h
  refine ⟨⟨rfl, rfl, rfl, by simp [World.putObj], fun b hb hS => ?_⟩, ?_, by simp [World.putObj]⟩
  · simp only [List.mem_singleton] at hS
    simp [World.putObj, Array.getElem?_setIfInBounds, Ne.symm hS]
  · simp [World.putObj, Array.getElem?_setIfInBounds, hl]
theorem lk_mem : ∀ {env : Env} {t : Nat} {v : Value}, lk env t = some v → (t, v) ∈ env
  | [], t, v, h => by simp [lk] at h
  | (s, u) :: env, t, v, h => by
    simp only [lk] at h
    cases hb : Nat.beq s t with
    | true =>
      rw [hb] at h
      simp only [cond_true, Option.some.injEq] at h
      rw [Nat.eq_of_beq_eq_true hb] at *
      rw [h]; simp
    | false =>
      rw [hb] at h
      simp only [cond_false] at h
      exact List.mem_cons_of_mem _ (lk_mem h)
theorem env_of {tmps : Array Value} {env : Env} (h : ∀ x ∈ env, tmps[x.1]? = some x.2) : ∀ t v, lkT env t = some v → tmps[t]? = some v := fun t v ht => h (t, v) (lk_mem (lkT_some ht).2)
/-! ### 1. Plain -/
/-- What was collected, from a place in the order on. -/
structure PP (G B : Gr) (ord : List Nat) (j : Nat) (S : List Nat) (Q : List (List Nat)) : Prop where
  whole : Whole G S
  done : ∀ v ∈ ord.drop j, v ∈ S
  dpb : Dp B S []
  parts : ∀ p ∈ Q, ∃ i, i < G.n ∧ p = G.scc i
  cov : ∀ v, v ∈ S ↔ ∃ p ∈ Q, v ∈ p
  nd : Q.Nodup
theorem PP.start {G B : Gr} {ord : List Nat} : PP G B ord ord.length [] [] :=
  ⟨(fun v hv => by cases hv), (fun v hv => by simp at hv), Dp.nil, (fun p hp => by cases hp), (fun v => by simp), by simp⟩
theorem PP.skip {G B : Gr} {ord : List Nat} {j : Nat} {S : List Nat} {Q : List (List Nat)} (h : PP G B ord (j + 1) S Q) (hj : j < ord.length) (hm : ord[j] ∈ S) : PP G B ord j S Q :=
  ⟨h.whole, fun v hv => by
    rw [List.drop_eq_getElem_cons hj] at hv
    rcases List.mem_cons.1 hv with rfl | c
    · exact hm
    · exact h.done v c, h.dpb, h.parts, h.cov, h.nd⟩
theorem scc_nodup {G : Gr} (i : Nat) : (G.scc i).Nodup := (scc_sorted i).imp fun h => by omega
theorem PP.is {G B : Gr} {ord O : List Nat} {j : Nat} {S : List Nat} {Q : List (List Nat)} (h : PP G B ord (j + 1) S Q) (hj : j < ord.length) (hm : ord[j] ∉ S) (hD : Dp G ord []) (hall : ∀ v, v < G.n → v ∈ ord) (hT : Turned G B)
    (hDb : Dp B (S ++ O) []) (hin : ord[j] ∈ O) (hld : ∀ v ∈ O, B.ld ord[j] v = true) : ∀ v, v ∈ O ↔ G.eqv ord[j] v := by
  have e : ord = ord.take j ++ ord[j] :: ord.drop (j + 1) := by rw [← List.drop_eq_getElem_cons hj, List.take_append_drop]
  have hD' : Dp G (ord.take j ++ ord[j] :: ord.drop (j + 1)) [] := by rw [← e]; exact hD
  refine part_is hD' (fun v hv => by rw [← e]; exact hall v hv) hT h.whole h.done hm (fun v hv => ⟨fun hs => ?_, hld v hv⟩) hin fun a ha b hb hbn => ?_
  · have hnd := hDb.nd
    rw [List.append_nil] at hnd
    exact (List.nodup_append.1 hnd).2.2 v hs v hv rfl
  · have := hDb.closed a (List.mem_append.2 (.inr ha)) b hb hbn
    rw [List.append_nil] at this
    exact List.mem_append.1 this
theorem PP.add {G B : Gr} {ord O : List Nat} {j : Nat} {S : List Nat} {Q : List (List Nat)} (h : PP G B ord (j + 1) S Q) (hj : j < ord.length) (hm : ord[j] ∉ S) (hO : ∀ v, v ∈ O ↔ G.eqv ord[j] v) (hn : ord[j] < G.n) (hDb : Dp B (S ++ O) []) : PP G B ord j (S ++ O) (Q ++ [G.scc ord[j]]) := by
  have hin : ord[j] ∈ O := (hO _).2 (eqv_refl hn)
  refine ⟨whole_app h.whole hO, fun v hv => ?_, hDb, fun p hp => ?_, fun v => ?_, ?_⟩
  · rw [List.drop_eq_getElem_cons hj] at hv
    rcases List.mem_cons.1 hv with rfl | c
    · exact List.mem_append.2 (.inr hin)
    · exact List.mem_append.2 (.inl (h.done v c))
  · rcases List.mem_append.1 hp with c | c
    · exact h.parts p c
    · exact ⟨ord[j], hn, List.mem_singleton.1 c⟩
  · rw [List.mem_append, h.cov v]
    constructor
    · rintro (⟨p, hp, hv⟩ | hv)
      · exact ⟨p, List.mem_append.2 (.inl hp), hv⟩
      · exact ⟨_, List.mem_append.2 (.inr (List.mem_singleton.2 rfl)), scc_mem.2 ((hO v).1 hv)⟩
    · rintro ⟨p, hp, hv⟩
      rcases List.mem_append.1 hp with c | c
      · exact .inl ⟨p, c, hv⟩
      · rw [List.mem_singleton.1 c] at hv
        exact .inr ((hO v).2 (scc_mem.1 hv))
  · rw [List.nodup_append]
    refine ⟨h.nd, by simp, fun a ha b hb => ?_⟩
    simp only [List.mem_singleton] at hb
    subst hb
    rintro rfl
    exact hm ((h.cov _).2 ⟨_, ha, scc_self hn⟩)
theorem PP.few {G B : Gr} {ord : List Nat} {j : Nat} {S : List Nat} {Q : List (List Nat)} (h : PP G B ord j S Q) : Q.length ≤ G.n := by
  have hd : ∀ p ∈ Q, hd0 p < G.n ∧ G.scc (hd0 p) = p := fun p hp => by
    obtain ⟨i, hi, rfl⟩ := h.parts p hp
    obtain ⟨k, t, e, hk, _⟩ := scc_head hi
    have e0 : hd0 (G.scc i) = k := by rw [e]; rfl
    rw [e0]
    exact ⟨ld_node hk.1, (scc_eq hk).symm⟩
  have h1 : (Q.map hd0).Nodup := by
    rw [List.nodup_iff_pairwise_ne, List.pairwise_map]
    exact List.Pairwise.imp_of_mem (fun ha hb hne e => hne (by rw [← (hd _ ha).2, ← (hd _ hb).2, e])) (List.nodup_iff_pairwise_ne.1 h.nd)
  have := nodup_lt_length G.n _ h1 fun x hx => by
    obtain ⟨p, hp, rfl⟩ := List.mem_map.1 hx
    exact (hd p hp).1
  simpa using this
theorem srt_scc {G : Gr} {O : List Nat} {u : Nat} (hO : ∀ v, v ∈ O ↔ G.eqv u v) (hnd : O.Nodup) : srt (natI O) = natI (G.scc u) := by
  refine srt_is ?_ (List.Perm.map _ ((List.perm_ext_iff_of_nodup (scc_nodup u) hnd).2 fun v => by rw [scc_mem, hO]))
  unfold natI
  rw [List.pairwise_map]
  exact (scc_sorted u).imp fun h => by omega
/-! ### 2. In memory -/
structure LoopOk (r : Loop) (st : LoopState) (b6 b7 : Nat) : Prop where
  st : r.state = st
  pe : r.pending = none
  sz : r.tmps.size = 61
  ps : r.params = #[39, 40]
  as_ : r.assign = F11.as12
  bd : r.body = F11.bd12
  t6 : r.tmps[6]? = some (.pointer (some ⟨b6, 0, none⟩))
  t7 : r.tmps[7]? = some (.pointer (some ⟨b7, 0, none⟩))
/-- What stands between the rounds, and in one. -/
structure PM (st : LoopState) (n : Nat) (W w : World) (l D b6 b7 bw x1 : Nat) (av mv ov : Value) (ord S : List Nat) (Q : List (List Nat)) : Prop where
  fr : Fr [b6] W w
  rec_ : ∃ r, w.heap[l]? = some (.loop r) ∧ LoopOk r st b6 b7
  df : w.heap[D]? = some (.deferred (some []))
  h7 : ∃ e, w.heap[b7]? = some (.cells #[.pointer (some ⟨bw, 0, none⟩)] e (0, 0)) ∧ e ≠ 4 ∧ e ≠ 3 ∧ e ≠ 23 ∧ b7 ≠ b6
  hx : w.heap[x1]? = some (.cells #[ov] 23 (0, 0)) ∧ W.heap.size ≤ x1
  h6 : ∃ pv vs, w.heap[b6]? = some (.cells #[pv] 22 (0, 0)) ∧ vs.length = Q.length ∧ OwnS w pv 23 1 (slC vs) ∧ NewS W pv ∧ (∀ g ∈ blkS pv, g ≠ x1) ∧ ∀ i (h : i < Q.length) (h' : i < vs.length), OwnS w vs[i] 3 1 (intC (natI Q[i]))
  oo : OwnS w ov 3 1 (intC (natI ord))
  hb : w.heap[bw]? = some (.cells #[av, mv] 43 (0, 0))
  fl : OwnS w mv 4 1 (boolC (metL n S))
  gf : NewS W mv
  lo : W.heap.size ≤ l ∧ l ≠ D ∧ W.heap.size ≤ D
section
variable {K : VK} {w : World} {st : LoopState} {n : Nat} {W : World} {l D b6 b7 bw x1 : Nat} {av mv ov : Value} {ord S : List Nat} {Q : List (List Nat)}
theorem PM.keep {w' : World} (h : PM st n W w l D b6 b7 bw x1 av mv ov ord S Q) (hf : Fr [] w w') : PM st n W w' l D b6 b7 bw x1 av mv ov ord S Q := by
  obtain ⟨r, a1, a2⟩ := h.rec_
  obtain ⟨e7, a7, a8⟩ := h.h7
  obtain ⟨pv, vs, c1, c2, c3, c4, c6, c5⟩ := h.h6
  exact ⟨h.fr.trans hf.w, ⟨r, hf.at_ a1 (by simp), a2⟩, hf.at_ h.df (by simp), ⟨e7, hf.at_ a7 (by simp), a8⟩, ⟨hf.at_ h.hx.1 (by simp), h.hx.2⟩, ⟨pv, vs, hf.at_ c1 (by simp), c2, c3.keep hf (by simp), c4, c6, fun i p q => (c5 i p q).keep hf (by simp)⟩, h.oo.keep hf (by simp), hf.at_ h.hb (by simp), h.fl.keep hf (by simp), h.gf, h.lo⟩
/-- Changed: the loop's record alone. -/
theorem PM.put {st' : LoopState} {w' : World} {r r' : Loop} (h : PM st n W w l D b6 b7 bw x1 av mv ov ord S Q) (hr : w.heap[l]? = some (.loop r)) (hr' : LoopOk r' st' b6 b7) (hu : Upd w l (.loop r') w') : PM st' n W w' l D b6 b7 bw x1 av mv ov ord S Q := by
  have ne : ∀ {b : Nat} {cs : Array Value} {e : TypeId} {fz : Nat × Nat}, w.heap[b]? = some (.cells cs e fz) → b ∉ [l] := fun hb c => by
    simp only [List.mem_singleton] at c
    subst c
    rw [hr] at hb
    cases hb
  have no : ∀ {v : Value} {e : TypeId} {sz : Nat} {xs : List (List Value)}, OwnS w v e sz xs → OwnS w' v e sz xs := fun ho => ho.keep' hu.fr fun g hg c => by
    obtain ⟨⟨_, hx⟩, _⟩ := ho
    rcases hx with ⟨e, _⟩ | ⟨k, cap, cur, e, _, hh, _⟩
    · rw [e] at hg; simp [blkS, Value.ownBlock] at hg
    · rw [e] at hg
      simp [blkS, Value.ownBlock] at hg
      subst hg
      exact ne hh c
  obtain ⟨e7, a7, a8⟩ := h.h7
  obtain ⟨pv, vs, c1, c2, c3, c4, c6, c5⟩ := h.h6
  exact ⟨h.fr.then hu.fr fun z hz => .inr (by simp only [List.mem_singleton] at hz; have := h.lo; omega), ⟨r', hu.at_, hr'⟩, hu.fr.at_ h.df (by simp; exact fun c => h.lo.2.1 c.symm), ⟨e7, hu.fr.at_ a7 (ne a7), a8⟩, ⟨hu.fr.at_ h.hx.1 (ne h.hx.1), h.hx.2⟩, ⟨pv, vs, hu.fr.at_ c1 (ne c1), c2, no c3, c4, c6, fun i p q => no (c5 i p q)⟩, no h.oo, hu.fr.at_ h.hb (ne h.hb), no h.fl, h.gf, h.lo⟩
theorem bsP (A : Option Addr) (n c : Nat) : (Instr.buildSlice 22 1 #[(0, .slice A n c)]).run Try.prog w = .ok (.slice (some ⟨w.heap.size, 0, none⟩) 1 1) (w.alloc (.cells #[.slice A n c] 23)) := by kernel_rfl
theorem C.appP {v : Value} {vs : List Value} {A : Option Addr} {n c : Nat} (hv : OwnS w v 23 1 (slC vs)) (hl : vs.length ≤ 1000000)
    (hk : ∀ v' w', OwnS w' v' 23 1 (slC (vs ++ [.slice A n c])) → Fr (blkS v) w w' → (∀ g ∈ blkS v', g ∈ blkS v ∨ w.heap.size ≤ g) → K v' w') :
    C.run Try.prog (Instr.buildSlice 22 1 #[(0, .slice A n c)]) w fun x w1 => C.run Try.prog (Builtin.append_ #[22, 22] 22 #[v, x]) w1 K :=
  C.app1 (x := [.slice A n c]) (e := 23) (sz := 1) (bytes := 24) (z := .slice none 0 0) Try.underlying22 (by kernel_rfl) rfl (by decide) (bsP A n c) rfl (by simp [Value.oneCell']) (fr_bare w) (new_bare w v) hv (by rw [slC_len]; omega) (by rw [slC_len]; omega) fun v' w' _ _ a b d => hk v' w' (by rw [slC_app]; exact a) b d
/-- A round. -/
theorem round_c {G B : Gr} {rvb : Value} {j : Nat} {a39 : Value} {K' : VK} (hG : G.n ≤ 1000) (hB : ∀ w', Fr [b6] W w' → IsG w' av rvb B)
    (hn : B.n = G.n) (hD : Dp G ord []) (hall : ∀ v, v < G.n → v ∈ ord) (hT : Turned G B) (hj : j < ord.length) (hM : PM .ready B.n W w l D b6 b7 bw x1 av mv ov ord S Q) (hP : PP G B ord (j + 1) S Q)
    (h : ∀ S' Q' w', PM .ready B.n W w' l D b6 b7 bw x1 av mv ov ord S' Q' → PP G B ord j S' Q' → K' (.bool true) w') : C.yield Try.prog l #[a39, .int .i64 (ord[j] : Int)] w K' := by
  obtain ⟨r, hr, hok⟩ := hM.rec_
  have hun : ord[j] < G.n := hD.lt _ (by simp)
  refine R11_12.yield (y6 := .pointer (some ⟨b6, 0, none⟩)) (y7 := .pointer (some ⟨b7, 0, none⟩)) hr hok.sz hok.ps hok.as_ hok.bd (fun t v hv => ?_) ⟨r, hr, hok.st, ?_⟩
  · refine env_of (env := [(6, .pointer (some ⟨b6, 0, none⟩)), (7, .pointer (some ⟨b7, 0, none⟩))]) (fun x hx => ?_) t v hv
    simp only [List.mem_cons, List.not_mem_nil, or_false] at hx
    rcases hx with rfl | rfl
    · exact hok.t6
    · exact hok.t7
  · have hu := upd_put (o := .loop { r with state := .busy }) hr
    have M1 := hM.put (st' := .busy) (r' := { r with state := .busy }) hr ⟨rfl, hok.pe, hok.sz, hok.ps, hok.as_, hok.bd, hok.t6, hok.t7⟩ hu
    generalize w.putObj l (.loop { r with state := .busy }) = w1 at *
    -- how a round ends
    have fin : ∀ S' Q' w', PM .busy B.n W w' l D b6 b7 bw x1 av mv ov ord S' Q' → PP G B ord j S' Q' → C.endr l none true .ready w' K' := fun S' Q' w' M' P' => by
      obtain ⟨r2, hr2, hok2⟩ := M'.rec_
      refine ⟨r2, hr2, h S' Q' _ (M'.put (st' := .ready) (r' := { r2 with state := .ready, pending := none }) hr2 ⟨rfl, rfl, hok2.sz, hok2.ps, hok2.as_, hok2.bd, hok2.t6, hok2.t7⟩ (upd_put hr2)) P'⟩
    obtain ⟨e7, a7, a8⟩ := M1.h7
    refine C.load1_of (v := .pointer (some ⟨bw, 0, none⟩)) a7 rfl ?_
    simp only [C.ite_true, C.ite_false, C.pick_true, C.pick_false, C.not_bool, C.field_ptr, C.nilCheck_ptr, C.add_mk, C.sub_mk, C.mul_mk, C.eql_mk, C.neq_mk, C.lss_mk, C.leq_mk, C.gtr_mk, C.geq_mk, C.conv_mk, C.len_mk, C.ext_0, C.ext_1, C.ext3_0, C.ext3_1, C.ext3_2, C.guarded_yes, C.guarded_tf, C.guarded_ft, C.guarded_undef, Bool.not_true, Bool.not_false, Nat.zero_add, eq_self, decide_true, decide_false]
    refine C.load1_of (v := mv) M1.hb rfl (C.idx_bool M1.fl.rd (by rw [metL_len, hn]; exact hun) ?_)
    rw [metL_get]
    by_cases hm : ord[j] ∈ S
    · simp only [C.ite_true, C.ite_false, C.pick_true, C.pick_false, C.not_bool, C.field_ptr, C.nilCheck_ptr, C.add_mk, C.sub_mk, C.mul_mk, C.eql_mk, C.neq_mk, C.lss_mk, C.leq_mk, C.gtr_mk, C.geq_mk, C.conv_mk, C.len_mk, C.ext_0, C.ext_1, C.ext3_0, C.ext3_1, C.ext3_2, C.guarded_yes, C.guarded_tf, C.guarded_ft, C.guarded_undef, Bool.not_true, Bool.not_false, Nat.zero_add, eq_self, decide_true, decide_false, hm]
      exact fin S Q w1 M1 (hP.skip hj hm)
    · simp only [C.ite_true, C.ite_false, C.pick_true, C.pick_false, C.not_bool, C.field_ptr, C.nilCheck_ptr, C.add_mk, C.sub_mk, C.mul_mk, C.eql_mk, C.neq_mk, C.lss_mk, C.leq_mk, C.gtr_mk, C.geq_mk, C.conv_mk, C.len_mk, C.ext_0, C.ext_1, C.ext3_0, C.ext3_1, C.ext3_2, C.guarded_yes, C.guarded_tf, C.guarded_ft, C.guarded_undef, Bool.not_true, Bool.not_false, Nat.zero_add, eq_self, decide_true, decide_false, hm]
      refine C.load1_of (v := .pointer (some ⟨bw, 0, none⟩)) a7 rfl ?_
      have hgk : ∀ w', Fr (blkS mv) w1 w' → IsG w' av rvb B := fun w' hf => hB w' (M1.fr.then hf fun z hz => .inr (M1.gf.blk z hz))
      refine from_c (W0 := w1) (by rw [hn]; exact hG) hgk ⟨Fr.refl _ _, M1.hb, M1.fl⟩ hP.dpb (by rw [hn]; exact hun) hm fun O p w2 hDb hin hld hW hnp hop => ?_
      have hO := hP.is hj hm hD hall hT hDb hin hld
      have hOl : (S ++ O).length ≤ B.n := by have := hDb.len; simpa using this
      rw [List.length_append, hn] at hOl
      have hnd : O.Nodup := by
        have := hDb.nd
        rw [List.append_nil] at this
        exact (List.nodup_append.1 this).2.1
      refine SortI_c hop (by rw [natI_len]; omega) fun w3 hf3 hop3 => ?_
      rw [srt_scc hO hnd] at hop3
      have f13 : Fr (blkS mv) w1 w3 := hW.fr.then hf3 fun z hz => .inr (hnp.blk z hz)
      obtain ⟨pv, vs, c1, c2, c3, c4, c6, c5⟩ := M1.h6
      have off : ∀ {b : Nat} {cs : Array Value} {e : TypeId} {fz : Nat × Nat}, w1.heap[b]? = some (.cells cs e fz) → e ≠ 4 → b ∉ blkS mv := fun hb he => M1.fl.nb hb (Ne.symm he)
      have c1' := f13.at_ c1 (off c1 (by decide))
      refine C.load1_of (v := pv) c1' rfl ?_
      have c3' := c3.keep' f13 (fun g hg c => (M1.fl.ne c3 (by decide)) g c hg)
      obtain ⟨PA, pc, ep⟩ := hop3.len
      rw [ep]
      have hQl : Q.length ≤ 1000 := by have := hP.few; omega
      refine C.appP c3' (by omega) fun pv' w4 hpv4 hf4 hg4 => ?_
      have c14 := hf4.at_ c1' (c3'.nb c1' (by decide))
      refine C.store1_of c14 hpv4.one.2 hpv4.one.1 (by simp) fun w5 hu5 => ?_
      have pp4 : OwnS w4 p 3 1 (intC (natI (G.scc ord[j]))) := hop3.keep' hf4 (hop3.ne c3' (by decide))
      have m4 : OwnS w4 mv 4 1 (boolC (metL B.n (S ++ O))) := (hW.fl.keep' hf3 (fun g hg c => (hW.fl.ne hop (by decide)) g hg c)).keep' hf4 (by
        have : OwnS w3 mv 4 1 (boolC (metL B.n (S ++ O))) := hW.fl.keep' hf3 (fun g hg c => (hW.fl.ne hop (by decide)) g hg c)
        exact this.ne c3' (by decide))
      have kp : ∀ {v : Value} {xs : List (List Value)} {sz : Nat}, OwnS w1 v 3 sz xs → OwnS w5 v 3 sz xs := fun ho => by
        have h3 := ho.keep' f13 (fun g hg c => (M1.fl.ne ho (by decide)) g c hg)
        have h4 := h3.keep' hf4 (fun g hg c => (c3'.ne h3 (by decide)) g c hg)
        exact h4.keep' hu5.fr fun g hg c => by
          simp only [List.mem_singleton] at c
          subst c
          exact h4.nb c14 (by decide) hg
      have b65 : ∀ {v : Value} {e : TypeId} {sz : Nat} {xs : List (List Value)}, e ≠ 22 → OwnS w4 v e sz xs → OwnS w5 v e sz xs := fun he ho => ho.keep' hu5.fr fun g hg c => by
        simp only [List.mem_singleton] at c
        subst c
        exact ho.nb c14 he hg
      have f15 : Fr [b6] W w5 := by
        have g1 : Fr [b6] W w3 := M1.fr.then f13 fun z hz => .inr (M1.gf.blk z hz)
        exact (g1.then hf4 fun z hz => .inr (c4.blk z hz)).trans hu5.fr
      obtain ⟨r2, hr2, hok2⟩ := M1.rec_
      have rl : ∀ {b : Nat} {o : Obj}, w1.heap[b]? = some o → b ∉ blkS mv → b ∉ blkS pv → b ≠ b6 → w5.heap[b]? = some o := fun hb x1 x2 x3 => hu5.fr.at_ (hf4.at_ (f13.at_ hb x1) x2) (by simp; exact x3)
      have nl : ∀ {v : Value} {e : TypeId} {sz : Nat} {xs : List (List Value)} {b : Nat} {o : Obj}, OwnS w1 v e sz xs → w1.heap[b]? = some o → (∀ cs e' fz, o ≠ .cells cs e' fz) → b ∉ blkS v := fun ho hb hne hg => by
        obtain ⟨⟨_, hx⟩, _⟩ := ho
        rcases hx with ⟨e, _⟩ | ⟨k, cap, cur, e, _, hh, _⟩
        · rw [e] at hg; simp [blkS, Value.ownBlock] at hg
        · rw [e] at hg
          simp [blkS, Value.ownBlock] at hg
          subst hg
          rw [hb] at hh
          exact hne _ _ _ (Option.some.inj hh)
      have nb6 : ∀ {b : Nat} {o : Obj}, w1.heap[b]? = some o → (∀ cs e' fz, o ≠ .cells cs e' fz) → b ≠ b6 := fun hb hne c => by
        subst c
        rw [hb] at c1
        exact hne _ _ _ (Option.some.inj c1)
      have ty6 : ∀ {b : Nat} {cs : Array Value} {e : TypeId} {fz : Nat × Nat}, w1.heap[b]? = some (.cells cs e fz) → e ≠ 22 → b ≠ b6 := fun hb he c => by
        subst c
        rw [hb] at c1
        simp only [Option.some.injEq, Obj.cells.injEq] at c1
        exact he c1.2.1
      refine fin (S ++ O) (Q ++ [G.scc ord[j]]) w5 ⟨f15, ⟨r2, rl hr2 (nl M1.fl hr2 (fun _ _ _ c => by cases c)) (nl c3 hr2 (fun _ _ _ c => by cases c)) (nb6 hr2 (fun _ _ _ c => by cases c)), hok2⟩, rl M1.df (nl M1.fl M1.df (fun _ _ _ c => by cases c)) (nl c3 M1.df (fun _ _ _ c => by cases c)) (nb6 M1.df (fun _ _ _ c => by cases c)), ⟨e7, rl a7 (off a7 a8.1) (c3.nb a7 (Ne.symm a8.2.2.1)) a8.2.2.2, a8⟩, ⟨rl M1.hx.1 (off M1.hx.1 (by decide)) (fun c => c6 x1 c rfl) (ty6 M1.hx.1 (by decide)), M1.hx.2⟩,
        ⟨pv', vs ++ [p], hu5.at_, by simp [c2], b65 (by decide) (by rw [ep]; exact hpv4), ?_, fun g hg c => ?_, fun i a b => ?_⟩, kp M1.oo, rl M1.hb (off M1.hb (by decide)) (c3.nb M1.hb (by decide)) (ty6 M1.hb (by decide)), b65 (by decide) m4, M1.gf, M1.lo⟩ (hP.add hj hm hO hun hDb)
      · refine new_app c4 ?_ hg4
        have := M1.fr.size
        have := f13.size
        omega
      · rcases hg4 g hg with d | d
        · exact c6 g d c
        · have := lt_of_at (f13.at_ M1.hx.1 (off M1.hx.1 (by decide)))
          omega
      · by_cases ei : i < Q.length
        · have ei' : i < vs.length := by omega
          rw [List.getElem_append_left ei, List.getElem_append_left ei']
          exact kp (c5 i ei ei')
        · have e1 : i = Q.length := by simp at a; omega
          have e2 : i = vs.length := by omega
          rw [List.getElem_append_right (by omega), List.getElem_append_right (by omega)]
          simp only [e2, c2, Nat.sub_self, List.getElem_cons_zero]
          exact b65 (by decide) pp4
end
end Go.Proofs.YtchonfdnghimdaaV
