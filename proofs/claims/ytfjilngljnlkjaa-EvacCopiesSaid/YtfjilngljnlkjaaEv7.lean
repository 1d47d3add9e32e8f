/- Objects copied, by the program: moved, start, Copy. -/
import Derived.Test.YtfjilngljnlkjaaEv6
namespace Go.Proofs.YtfjilngljnlkjaaV
open Go Go.Proofs Go.RowKit
set_option linter.unusedVariables false
set_option linter.unusedSimpArgs false
set_option maxRecDepth 10000
section
variable {l : List Int} {m : List Ob} {o : List Nat}
theorem vis_snoc (ws : List Int) (x : Int) : vis m o (ws ++ [x]) = vis1 m (vis m o ws) x := by simp [vis]
theorem vis_app (a b : List Int) : vis m o (a ++ b) = vis m (vis m o a) b := by simp [vis]
theorem take_snoc {ws : List Int} {j : Nat} (h : j < ws.length) : ws.take (j + 1) = ws.take j ++ [ws[j]] := by rw [List.take_add_one, List.getElem?_eq_getElem h]; rfl
theorem mov_take {ws : List Int} {j : Nat} (h : j < ws.length) : (ws.take j).map (movW m (vis m o (ws.take j))) ++ [movW m (vis1 m (vis m o (ws.take j)) ws[j]) ws[j]] = (ws.take (j + 1)).map (movW m (vis m o (ws.take (j + 1)))) := by
  rw [take_snoc h, vis_snoc, List.map_append]
  congr 1
  apply List.map_congr_left
  intro w hw
  exact (movW_pre (vis1_pre m _ _) fun p hp => (vis_mem _).2 (.inr ⟨w, hw, hp⟩)).symm
end
section
variable {K : VK} {w : World}
/-- A world without memory: whatever there is came of it. -/
def bare (w : World) : World := { w with heap := #[] }
theorem fr_bare (w : World) : Fr [] (bare w) w := ⟨rfl, rfl, rfl, Nat.zero_le _, fun b hb => by simp [bare] at hb⟩
theorem new_bare (w : World) (v : Value) : NewS (bare w) v := fun g _ => Nat.zero_le _
theorem C.appW' {v : Value} {l : List Int} {n : Int} (hv : OwnS w v 2 1 (intC l)) (hl : l.length ≤ 17592186044415)
    (hk : ∀ v' w', OwnS w' v' 2 1 (intC (l ++ [n])) → Fr (blkS v) w w' → (∀ g ∈ blkS v', g ∈ blkS v ∨ w.heap.size ≤ g) → K v' w') :
    C.run Try.prog (Instr.buildSlice 22 1 #[(0, .int .i64 n)]) w fun x w1 => C.run Try.prog (Builtin.append_ #[22, 22] 22 #[v, x]) w1 K :=
  C.appW (fr_bare w) (new_bare w v) hv hl fun v' w' _ _ a b c => hk v' w' a b c
theorem C.appWs' {v src : Value} {l k : List Int} (hv : OwnS w v 2 1 (intC l)) (hs : RdS w src 1 (intC k)) (hl : l.length + k.length ≤ 17592186044415)
    (hk : ∀ v' w', OwnS w' v' 2 1 (intC (l ++ k)) → Fr (blkS v) w w' → (∀ g ∈ blkS v', g ∈ blkS v ∨ w.heap.size ≤ g) → K v' w') :
    C.run Try.prog (Builtin.append_ #[22, 22] 22 #[v, src]) w K :=
  C.appWs (fr_bare w) (new_bare w v) hv hs hl fun v' w' _ _ a b c => hk v' w' a b c
theorem RdS.keepS {S : List Nat} {w w' : World} {v : Value} {sz : Nat} {xs : List (List Value)} (h : RdS w v sz xs) (hf : Fr S w w') (hS : xs ≠ [] → ∀ g ∈ S, g ∉ blkS v) : RdS w' v sz xs := by
  obtain ⟨A, c, rfl, x1, x2, x3⟩ := h
  refine ⟨A, c, rfl, x1, x2, fun hx => ?_⟩
  obtain ⟨g, o1, cs, e, fz, rfl, hg, hc⟩ := x3 hx
  exact ⟨g, o1, cs, e, fz, rfl, hf.at_ hg fun c => hS hx g c (mem_blkS.2 rfl), hc⟩
theorem RdS.lt {w : World} {v : Value} {sz : Nat} {xs : List (List Value)} (h : RdS w v sz xs) (hx : xs ≠ []) : ∀ g ∈ blkS v, g < w.heap.size := fun g hg => by
  obtain ⟨A, c, rfl, x1, x2, x3⟩ := h
  obtain ⟨g', o1, cs, e, fz, rfl, hh, hc⟩ := x3 hx
  have := mem_blkS.1 hg
  simp only [Value.ownBlock, Option.some.injEq] at this
  subst this
  exact lt_of_at hh
theorem intC_ne {l : List Int} (h : intC l ≠ []) : l ≠ [] := fun e => h (by rw [e]; rfl)
/-- What a list of another kind is made of changes nothing of the mover. -/
theorem MV.keepS {Wb w w' : World} {mb tb : Nat} {lv sv ov v : Value} {m : List Ob} {o : List Nat} {e : TypeId} {sz : Nat} {xs : List (List Value)} (h : MV Wb w mb tb lv sv ov m o) (ho : OwnS w v e sz xs) (h1 : e ≠ 72) (h2 : e ≠ 3) (hn : NewS Wb v) (hf : Fr (blkS v) w w') : MV Wb w' mb tb lv sv ov m o := by
  have hoff := h.off ho h1 h2
  refine ⟨h.fr.then hf fun z hz => .inr (hn z (mem_blkS.1 hz)), hf.at_ h.blk fun c => hoff _ c (by simp), h.map.keep hf fun c => hoff _ c (by simp), h.own.keep' hf fun g hg c => hoff g c (by simp [hg]), h.lo, h.new⟩
/-- Words, moved one by one. -/
theorem moved_loop {W0 Wb : World} {mb tb : Nat} {lv sv wv : Value} {l ws : List Int} {m : List Ob} {o : List Nat} (hO : Spl 0 l m) (hlen : l.length ≤ 2048) (hlv : RdS Wb lv 1 (intC l)) (hsv : sv.cells = #[sv]) (hr : Rng l) (hP : Pls m o)
    (hws : RdS W0 wv 1 (intC ws)) (hrw : Rng ws) (hfw : fineL m ws) (hwl : ws.length ≤ 17592186044415) (S : List Nat) (hS : ws ≠ [] → ∀ g ∈ S, g ∉ blkS wv) (hbs : Wb.heap.size ≤ W0.heap.size)
    (h : ∀ nv ov' w', MV Wb w' mb tb lv sv ov' m (vis m o ws) → Fr S W0 w' → (∀ g ∈ blkS ov', g ∈ S ∨ W0.heap.size ≤ g) → NewS W0 nv → OwnS w' nv 2 1 (intC (ws.map (movW m (vis m o ws)))) → K nv w') :
    ∀ (d j : Nat) (w : World) (nv ov : Value), ws.length = j + d → MV Wb w mb tb lv sv ov m (vis m o (ws.take j)) → Fr S W0 w → (mb ∈ S ∧ tb ∈ S) → (∀ g ∈ blkS ov, g ∈ S ∨ W0.heap.size ≤ g) → NewS W0 nv → OwnS w nv 2 1 (intC ((ws.take j).map (movW m (vis m o (ws.take j))))) →
      F34.l3 K (.pointer (some ⟨mb, 0, none⟩)) nv wv (.int .i64 (ws.length : Int)) (.int .i64 (j : Int)) w := by
  intro d
  induction d with
  | zero =>
    intro j w nv ov hj hM hf hmt hov hn ho
    refine F34.l3.to ?_
    simp only [C.ite_true, C.ite_false, C.pick_true, C.pick_false, C.not_bool, C.field_ptr, C.nilCheck_ptr, C.add_mk, C.sub_mk, C.mul_mk, C.eql_mk, C.neq_mk, C.lss_mk, C.leq_mk, C.gtr_mk, C.geq_mk, C.conv_mk, C.len_mk, C.ext_0, C.ext_1, C.ext3_0, C.ext3_1, C.ext3_2, C.guarded_yes, C.guarded_tf, C.guarded_ft, C.guarded_undef, Bool.not_true, Bool.not_false, Nat.zero_add, eq_self, decide_true, decide_false, show ¬ ((j : Int) < (ws.length : Int)) by omega]
    rw [List.take_of_length_le (by omega)] at hM ho
    exact F34.k7.to (h nv ov w hM hf hov hn ho)
  | succ d ih =>
    intro j w nv ov hj hM hf hmt hov hn ho
    have jl : j < ws.length := by omega
    have hin := List.getElem_mem jl
    refine F34.l3.to ?_
    simp only [C.ite_true, C.ite_false, C.pick_true, C.pick_false, C.not_bool, C.field_ptr, C.nilCheck_ptr, C.add_mk, C.sub_mk, C.mul_mk, C.eql_mk, C.neq_mk, C.lss_mk, C.leq_mk, C.gtr_mk, C.geq_mk, C.conv_mk, C.len_mk, C.ext_0, C.ext_1, C.ext3_0, C.ext3_1, C.ext3_2, C.guarded_yes, C.guarded_tf, C.guarded_ft, C.guarded_undef, Bool.not_true, Bool.not_false, Nat.zero_add, eq_self, decide_true, decide_false, show ((j : Int) < (ws.length : Int)) by omega]
    refine F34.k4.to (C.idx_int (hws.keepS hf fun hx => hS (intC_ne hx)) jl fun g oo cs e fz hg hv => C.load1_of hg hv (move_c hO hlen hlv hsv hr (hP.vis _) hM (hrw _ hin) (hfw _ hin) fun ov' w1 M1 hf1 hg1 => ?_))
    have ho1 := ho.keep' hf1 (hM.off ho (by decide) (by decide))
    have hsub : ∀ z ∈ mb :: tb :: blkS ov, z ∈ S ∨ W0.heap.size ≤ z := fun z hz => by
      rcases List.mem_cons.1 hz with c | c
      · subst c; exact .inl hmt.1
      · rcases List.mem_cons.1 c with c | c
        · subst c; exact .inl hmt.2
        · exact hov z c
    have f1 : Fr S W0 w1 := hf.then hf1 hsub
    refine C.appW' ho1 (by simp; omega) fun nv' w2 ho2 hb2 hg2 => ?_
    rw [mov_take jl] at ho2
    refine F34.k6.to ?_
    have hle := hws.le
    rw [intC_len] at hle
    simp only [C.ite_true, C.ite_false, C.pick_true, C.pick_false, C.not_bool, C.field_ptr, C.nilCheck_ptr, C.add_mk, C.sub_mk, C.mul_mk, C.eql_mk, C.neq_mk, C.lss_mk, C.leq_mk, C.gtr_mk, C.geq_mk, C.conv_mk, C.len_mk, C.ext_0, C.ext_1, C.ext3_0, C.ext3_1, C.ext3_2, C.guarded_yes, C.guarded_tf, C.guarded_ft, C.guarded_undef, Bool.not_true, Bool.not_false, Nat.zero_add, eq_self, decide_true, decide_false]
    rw [wrap64_id (n := (j : Int) + 1) (by omega), show (j : Int) + 1 = ((j + 1 : Nat) : Int) by omega]
    have nb : NewS Wb nv := hn.mono hbs
    refine ih (j + 1) w2 nv' ov' (by omega) ?_ (f1.then hb2 fun z hz => .inr (hn z (mem_blkS.1 hz))) hmt (fun g hg => ?_) (fun g hg => ?_) ho2
    · rw [take_snoc jl, vis_snoc]
      exact M1.keepS ho1 (by decide) (by decide) nb hb2
    · rcases hg1 g hg with c | c
      · exact hov g c
      · have := hf.size; exact .inr (by omega)
    · rcases hg2 g (mem_blkS.2 hg) with c | c
      · exact hn g (mem_blkS.1 c)
      · have := f1.size; omega
theorem moved_c {Wb : World} {mb tb : Nat} {lv sv wv ov : Value} {l ws : List Int} {m : List Ob} {o : List Nat} (hO : Spl 0 l m) (hlen : l.length ≤ 2048) (hlv : RdS Wb lv 1 (intC l)) (hsv : sv.cells = #[sv]) (hr : Rng l) (hP : Pls m o)
    (hM : MV Wb w mb tb lv sv ov m o) (hws : RdS w wv 1 (intC ws)) (hrw : Rng ws) (hfw : fineL m ws) (hwl : ws.length ≤ 17592186044415) (hS : ws ≠ [] → ∀ g ∈ mb :: tb :: blkS ov, g ∉ blkS wv)
    (h : ∀ nv ov' w', MV Wb w' mb tb lv sv ov' m (vis m o ws) → Fr (mb :: tb :: blkS ov) w w' → (∀ g ∈ blkS ov', g ∈ mb :: tb :: blkS ov ∨ w.heap.size ≤ g) → NewS w nv → OwnS w' nv 2 1 (intC (ws.map (movW m (vis m o ws)))) → K nv w') :
    C.call Try.prog 34 #[.pointer (some ⟨mb, 0, none⟩), wv] w K := by
  refine F34.sh (C.len_rd hws ?_)
  rw [intC_len]
  exact moved_loop hO hlen hlv hsv hr hP hws hrw hfw hwl _ hS hM.fr.size h ws.length 0 w (.slice none 0 0) ov (by omega) hM (Fr.refl _ _) (by simp) (fun g hg => .inl (by simp [hg])) (NewS.nil _) (OwnS.nil _ _ _)
/-! ### start -/
theorem bMov (A B : Option Addr) (n c n' c' tb : Nat) : (Instr.build 72 #[(0, .agg #[.slice A n c, .slice B n' c']), (1, .map (some tb))]).run Try.prog w = .ok (.agg #[.slice A n c, .slice B n' c', .map (some tb), .slice none 0 0, .int .i64 0]) w := by kernel_rfl
theorem Rng.sub {a b : List Int} (h : Rng b) (hs : ∀ x ∈ a, x ∈ b) : Rng a := fun x hx => h x (hs x hx)
theorem Rng.fs {l : List Int} {m : List Ob} (h : Rng l) (hS : Spl 0 l m) {p : Nat} (hp : p < m.length) : Rng m[p].fs := fun x hx => by
  have := (hS.get p hp).1.fs
  rw [← this] at hx
  exact h x (List.mem_of_mem_drop (List.mem_of_mem_take hx))
theorem start_c {lv rv : Value} {l roots : List Int} (hl : RdS w lv 1 (intC l)) (hr : Rng l) (hrv : RdS w rv 1 (intC roots)) (hrr : Rng roots)
    (h5 : ∀ c m w', Cd l c m → c ≠ 0 → Fr [] w w' → K (.tuple #[.pointer none, .int .i64 c]) w')
    (h4 : ∀ m w', Cd l 0 m → ¬ fineL m roots → Fr [] w w' → K (.tuple #[.pointer none, .int .i64 4]) w')
    (h0 : ∀ m sv mb tb Wb w', Cd l 0 m → fineL m roots → Fr [] w Wb → RdS Wb lv 1 (intC l) → RdS Wb rv 1 (intC roots) → RdS Wb sv 1 (intC (atL m)) → MV Wb w' mb tb lv sv (.slice none 0 0) m [] → K (.tuple #[.pointer (some ⟨mb, 0, none⟩), .int .i64 0]) w') :
    C.call Try.prog 33 #[lv, rv] w K := by
  refine F33.sh (open_c hl hr fun c m lv' sv w1 hc hf1 h1 h2 => ?_)
  obtain ⟨e1, e2, e3, e4⟩ := one_of (X := intC (atL m)) hl (fun c0 => ⟨(h1 c0).1, (h1 c0).2.2⟩) h2
  simp only [C.ite_true, C.ite_false, C.pick_true, C.pick_false, C.not_bool, C.field_ptr, C.nilCheck_ptr, C.add_mk, C.sub_mk, C.mul_mk, C.eql_mk, C.neq_mk, C.lss_mk, C.leq_mk, C.gtr_mk, C.geq_mk, C.conv_mk, C.len_mk, C.ext_0, C.ext_1, C.ext3_0, C.ext3_1, C.ext3_2, C.guarded_yes, C.guarded_tf, C.guarded_ft, C.guarded_undef, Bool.not_true, Bool.not_false, Nat.zero_add, eq_self, decide_true, decide_false]
  refine img_put e1 e2 e3 e4 fun b w2 hf2 _ hb => ?_
  by_cases c0 : c = 0
  · subst c0
    obtain ⟨rfl, hns, hos⟩ := h1 rfl
    simp only [C.ite_true, C.ite_false, C.pick_true, C.pick_false, C.not_bool, C.field_ptr, C.nilCheck_ptr, C.add_mk, C.sub_mk, C.mul_mk, C.eql_mk, C.neq_mk, C.lss_mk, C.leq_mk, C.gtr_mk, C.geq_mk, C.conv_mk, C.len_mk, C.ext_0, C.ext_1, C.ext3_0, C.ext3_1, C.ext3_2, C.guarded_yes, C.guarded_tf, C.guarded_ft, C.guarded_undef, Bool.not_true, Bool.not_false, Nat.zero_add, eq_self, decide_true, decide_false, ne_eq, not_true_eq_false]
    have f2 := hf1.trans hf2
    have hos2 := hos.keep hf2 (by simp)
    refine F33.k4.to (HasW_c (p := fun x => !fineS (atL m) x) (hrv.keep f2) (fun w' n K' hf' hn hk => vcCall_of bodied_s1 (F54.sh (C.loadA_all (hf'.at_ hb (by simp)) rfl (may_c e1 (hos2.keep hf' (by simp)).rd (hrr n hn) fun w'' hf'' => ?_)))) fun w3 hf3 => ?_)
    · simp only [C.ite_true, C.ite_false, C.pick_true, C.pick_false, C.not_bool, C.field_ptr, C.nilCheck_ptr, C.add_mk, C.sub_mk, C.mul_mk, C.eql_mk, C.neq_mk, C.lss_mk, C.leq_mk, C.gtr_mk, C.geq_mk, C.conv_mk, C.len_mk, C.ext_0, C.ext_1, C.ext3_0, C.ext3_1, C.ext3_2, C.guarded_yes, C.guarded_tf, C.guarded_ft, C.guarded_undef, Bool.not_true, Bool.not_false, Nat.zero_add, eq_self, decide_true, decide_false]
      exact hk w'' hf''
    · have f3 := f2.trans hf3
      cases ha : roots.any fun x => !fineS (atL m) x with
      | true =>
        simp only [C.ite_true, C.ite_false, C.pick_true, C.pick_false, C.not_bool, C.field_ptr, C.nilCheck_ptr, C.add_mk, C.sub_mk, C.mul_mk, C.eql_mk, C.neq_mk, C.lss_mk, C.leq_mk, C.gtr_mk, C.geq_mk, C.conv_mk, C.len_mk, C.ext_0, C.ext_1, C.ext3_0, C.ext3_1, C.ext3_2, C.guarded_yes, C.guarded_tf, C.guarded_ft, C.guarded_undef, Bool.not_true, Bool.not_false, Nat.zero_add, eq_self, decide_true, decide_false]
        refine h4 m w3 hc (fun hfm => ?_) f3
        obtain ⟨x, hx, hbad⟩ := List.any_eq_true.1 ha
        rw [fineS_eq, hfm x hx] at hbad
        cases hbad
      | false =>
        have hfr : fineL m roots := fun x hx => by
          have := List.any_eq_false.1 ha x hx
          rw [fineS_eq] at this
          simpa using this
        simp only [C.ite_true, C.ite_false, C.pick_true, C.pick_false, C.not_bool, C.field_ptr, C.nilCheck_ptr, C.add_mk, C.sub_mk, C.mul_mk, C.eql_mk, C.neq_mk, C.lss_mk, C.leq_mk, C.gtr_mk, C.geq_mk, C.conv_mk, C.len_mk, C.ext_0, C.ext_1, C.ext3_0, C.ext3_1, C.ext3_2, C.guarded_yes, C.guarded_tf, C.guarded_ft, C.guarded_undef, Bool.not_true, Bool.not_false, Nat.zero_add, eq_self, decide_true, decide_false]
        refine F33.k6.to (C.loadA_all (hf3.at_ hb (by simp)) rfl (C.makeMap_of (kv := fun a : Int => Value.int .i64 a) fun w4 hf4 hm4 hz4 => ?_))
        have hl3 := hl.keep f3
        have hos3 := hos2.keep hf3 (by simp)
        obtain ⟨A, cc, elv, _⟩ := hl3
        obtain ⟨B, cs, esv⟩ := hos3.len
        subst elv
        subst esv
        refine C.run_of (bMov _ _ _ _ _ _ _) (C.new_of fun mb w5 hn5 => ?_)
        have i5 := hn5.is
        refine h0 m _ mb w3.heap.size w3 w5 hc hfr f3 (hl.keep f3) (hrv.keep f3) hos3.rd ⟨hf4.trans hn5.fr, hn5.at_, hm4.keep hn5.fr (by simp), OwnS.nil _ _ _, ⟨by have := hf4.size; omega, Nat.le_refl _, by have := hf4.size; omega⟩, NewS.nil _⟩
  · simp only [C.ite_true, C.ite_false, C.pick_true, C.pick_false, C.not_bool, C.field_ptr, C.nilCheck_ptr, C.add_mk, C.sub_mk, C.mul_mk, C.eql_mk, C.neq_mk, C.lss_mk, C.leq_mk, C.gtr_mk, C.geq_mk, C.conv_mk, C.len_mk, C.ext_0, C.ext_1, C.ext3_0, C.ext3_1, C.ext3_2, C.guarded_yes, C.guarded_tf, C.guarded_ft, C.guarded_undef, Bool.not_true, Bool.not_false, Nat.zero_add, eq_self, decide_true, decide_false, ne_eq, c0, not_false_eq_true]
    exact h5 c m w2 hc c0 (hf1.trans hf2)
end
end Go.Proofs.YtfjilngljnlkjaaV
