/- The parts of a graph, by the program: Parts, the whole. -/
import Derived.Test.YtchonfdnghimdaaSc9
namespace Go.Proofs.YtchonfdnghimdaaV
open Go Go.Proofs Go.RowKit
set_option linter.unusedVariables false
set_option linter.unusedSimpArgs false
set_option maxRecDepth 10000
section
variable {K : VK} {w : World}
/-- Rows of one's own, though another block was written. -/
theorem OR.keepB {W0 w w' : World} {av : Value} {vs : List Value} {L : List (List Int)} {b : Nat} {cs : Array Value} {e : TypeId} {fz : Nat × Nat} (h : OR W0 w av vs L) (hb : w.heap[b]? = some (.cells cs e fz)) (h1 : e ≠ 23) (h2 : e ≠ 3) (hf : Fr [b] w w') : RowsAt w' av L := by
  have no : ∀ {v : Value} {e' : TypeId} {sz : Nat} {xs : List (List Value)}, e' ≠ e → OwnS w v e' sz xs → OwnS w' v e' sz xs := fun hne ho => ho.keep' hf fun g hg c => by
    simp only [List.mem_singleton] at c
    subst c
    exact ho.nb hb hne hg
  exact ⟨vs, (no (Ne.symm h1) h.sp).rd, h.len, fun i p q => (no (Ne.symm h2) (h.row i p q).1).rd⟩
theorem Parts_tail {G : Gr} {W : World} {nv rv mv ov : Value} {b1 bw : Nat} {ord : List Nat} (hG : IsG W nv rv G) (hb : GBlk W b1 25 nv rv) (hO : OI G W w bw nv mv ov ord) (hall : ∀ v, v < G.n → v ∈ ord)
    (h : ∀ pv w', Fr [] W w' → RowsAt w' pv (G.parts.map natI) → K pv w') : F11.l4 K (.pointer (some ⟨b1, 0, none⟩)) ov (.pointer (some ⟨bw, 0, none⟩)) (.int .i64 (G.n : Int)) (.int .i64 (G.n : Int)) w := by
  have hfew := hG.few
  have hol : ord.length ≤ G.n := by have := hO.dp.len; simpa using this
  refine F11.l4.to ?_
  simp only [C.ite_true, C.ite_false, C.pick_true, C.pick_false, C.not_bool, C.field_ptr, C.nilCheck_ptr, C.add_mk, C.sub_mk, C.mul_mk, C.eql_mk, C.neq_mk, C.lss_mk, C.leq_mk, C.gtr_mk, C.geq_mk, C.conv_mk, C.len_mk, C.ext_0, C.ext_1, C.ext3_0, C.ext3_1, C.ext3_2, C.guarded_yes, C.guarded_tf, C.guarded_ft, C.guarded_undef, Bool.not_true, Bool.not_false, Nat.zero_add, eq_self, decide_true, decide_false, show ¬ ((G.n : Int) < (G.n : Int)) by omega]
  refine C.new_of fun b6 w1 hn1 => (hb.keep (hO.fr.trans hn1.fr) (by simp)).all (Back_c (hG.keep (hO.fr.trans hn1.fr)) fun av ws L W1 w2 hf2 hf2' hR hLl hLr _ hT => ?_)
  have i1 := hn1.is
  have z1 := hn1.sz
  have s0 := hO.fr.size
  have f2 : Fr [] W w2 := (hO.fr.trans hn1.fr).trans hf2
  have hB2 : IsG w2 av rv ⟨L, G.roots⟩ := ⟨hR.rd, hG.roots.keep f2, by show L.length ≤ 1000; omega, hG.rlen, fun r hr => by have := hLr r hr; omega⟩
  have c6 := hf2.at_ hn1.at_ (by simp)
  refine begin_c hB2 fun bw2 mv2 w3 hW3 hbw hnm hf3 => ?_
  refine C.new_of fun b7 w4 hn4 => C.store1_of (x := .pointer (some ⟨bw2, 0, none⟩)) hn4.at_ rfl rfl (by simp) fun w5 hu5 => ?_
  have i4 := hn4.is
  have z4 := hn4.sz
  have s3 := hf3.size
  have s2 := hf2.size
  have f35 : Fr [] w3 w5 := hn4.fr.then hu5.fr fun z hz => .inr (by simp only [List.mem_singleton] at hz; omega)
  have h7 : w5.heap[b7]? = some (.cells #[.pointer (some ⟨bw2, 0, none⟩)] 40 (0, 0)) := hu5.at_
  have oo5 : OwnS w5 ov 3 1 (intC (natI ord)) := hO.oo.keep (hn1.fr.trans (hf2.trans (hf3.trans f35))) (by simp)
  refine F25.sh ?_
  rw [oo5.one.2]
  refine C.new_of fun x1 w6 hn6 => ?_
  have i6 := hn6.is
  have z6 := hn6.sz
  have z5 := hu5.sz
  simp only [C.range, bodied43, cond_true]
  intro fn tmps hsz henv
  have hw7 := New.mk' w6 (.deferred (some []))
  have hw8 := New.mk' (w6.alloc (.deferred (some []))) (.loop { state := .ready, pending := none, fn := fn, tmps := tmps, params := #[39, 40], assign := F11.as12, body := F11.bd12, defers := w6.heap.size })
  have z7 := hw7.sz
  have hl : (w6.alloc (.deferred (some []))).heap.size = w6.heap.size + 1 := z7
  have f68 : Fr [] w6 ((w6.alloc (.deferred (some []))).alloc (.loop { state := .ready, pending := none, fn := fn, tmps := tmps, params := #[39, 40], assign := F11.as12, body := F11.bd12, defers := w6.heap.size })) := hw7.fr.trans hw8.fr
  have hD8 := hw8.fr.at_ hw7.at_ (by simp)
  have hl8 := hw8.at_
  rw [hl] at hl8
  generalize ((w6.alloc (.deferred (some []))).alloc (.loop { state := .ready, pending := none, fn := fn, tmps := tmps, params := #[39, 40], assign := F11.as12, body := F11.bd12, defers := w6.heap.size })) = w8 at *
  have f38 : Fr [] w3 w8 := f35.trans (hn6.fr.trans f68)
  have f28 : Fr [] w2 w8 := hf3.trans f38
  have M : PM .ready (⟨L, G.roots⟩ : Gr).n w2 w8 (w6.heap.size + 1) w6.heap.size b6 b7 bw2 x1 av mv2 ov ord [] [] := by
    refine ⟨f28.w, ⟨_, hl8, ⟨rfl, rfl, hsz, rfl, rfl, rfl, henv 6 _ rfl, henv 7 _ rfl⟩⟩, hD8, ⟨40, (hn6.fr.trans f68).at_ h7 (by simp), by decide, by decide, by decide, by omega⟩, ⟨f68.at_ hn6.at_ (by simp), by omega⟩, ⟨.slice none 0 0, [], f28.at_ c6 (by simp), rfl, OwnS.nil _ _ _, NewS.nil _, fun g hg => by simp [blkS, Value.ownBlock] at hg, fun i p q => by simp at p⟩, oo5.keep (hn6.fr.trans f68) (by simp), f38.at_ hW3.hb (by simp), hW3.fl.keep f38 (by simp), hnm, by omega, by omega, by omega⟩
  refine F43.sh (C.load1_of (v := ov) M.hx.1 rfl (C.len_rd M.oo.rd ?_))
  rw [intC_len, natI_len]
  simp only [C.ite_true, C.ite_false, C.pick_true, C.pick_false, C.not_bool, C.field_ptr, C.nilCheck_ptr, C.add_mk, C.sub_mk, C.mul_mk, C.eql_mk, C.neq_mk, C.lss_mk, C.leq_mk, C.gtr_mk, C.geq_mk, C.conv_mk, C.len_mk, C.ext_0, C.ext_1, C.ext3_0, C.ext3_1, C.ext3_2, C.guarded_yes, C.guarded_tf, C.guarded_ft, C.guarded_undef, Bool.not_true, Bool.not_false, Nat.zero_add, eq_self, decide_true, decide_false]
  rw [wrap64_id (n := (ord.length : Int) - 1) (by omega)]
  have hBk : ∀ w', Fr [b6] w2 w' → IsG w' av rv ⟨L, G.roots⟩ := fun w' hf => ⟨hR.keepB c6 (by decide) (by decide) hf, hG.roots.keep (f2.then hf fun z hz => .inr (by simp only [List.mem_singleton] at hz; omega)), hB2.few, hG.rlen, hB2.nlen⟩
  refine backward_loop hfew hBk hLl hO.dp hall hT (fun S Q w9 M9 P9 => ?_) ord.length w8 [] [] (Nat.le_refl _) M PP.start
  refine parts_end hfew hall M9 P9 fun pv w' hf' hr' => h pv w' (f2.then hf' fun z hz => .inr (by simp only [List.mem_singleton] at hz; omega)) hr'
theorem Parts_c {nv rv : Value} {G : Gr} (hG : IsG w nv rv G) (h : ∀ pv w', Fr [] w w' → RowsAt w' pv (G.parts.map natI) → K pv w') : C.call Try.prog 11 #[.agg #[nv, rv]] w K := by
  refine F11.sh (GBlk.new hG fun b1 w1 hf1 _ hb hG1 => hb.next (begin_c hG1 fun bw mv w2 hW2 hbw hnm hf2 => (hb.keep hf2 (by simp)).next ((hG1.keep hf2).len_next ?_)))
  refine order_loop (W := w1) hG1 (fun ov ord w3 hO hall => Parts_tail hG1 hb hO hall fun pv w' hf' hr' => h pv w' (hf1.trans hf') hr') G.n 0 w2 (.slice none 0 0) [] (by omega) ⟨hf2, hW2.hb, hW2.fl, hnm, OwnS.nil _ _ _, NewS.nil _, Dp.nil⟩ fun v hv => by omega
end
end Go.Proofs.YtchonfdnghimdaaV
