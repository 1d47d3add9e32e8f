/- Part 14 of what the law needs: own lemmas, in the order in which they build. -/
import Derived.Test.YtcakfaakbpdklaaGreatDoorProg
import Derived.Test.YtcakfaakbpdklaaGreatDoorTopOwn13
namespace Go.Proofs.YtcakfaakbpdklaaGreatDoorV
open Go Go.Proofs Go.RowKit
set_option linter.unusedVariables false
set_option linter.unusedSimpArgs false
set_option maxRecDepth 100000
section
variable {K : VK} {w w' : World} {A : Mad} {g : Gw} {cf : Cf} {B : Int} {x : Ma}
theorem qow (c : Co) (t : Int) : (c.attach t).r.l.length = c.r.l.length := by
  unfold Co.attach Rg.attach
  split <;> simp
theorem qo3 (cf : Cf) (c : Co) (t : Int) : (c.detach cf t).r.l.length = c.r.l.length := by
  unfold Co.detach
  split
  · show (Co.advance cf 4 _).r.l.length = _
    rw [qjw]
    unfold Rg.detach
    split <;> simp
  · rfl
theorem qtv (cf : Cf) (c : Co) (t : Int) : (c.poll cf t).r.l.length = c.r.l.length := by
  have cl : (c.r.confirm t).1.l.length = c.r.l.length := by unfold Rg.confirm; split <;> simp
  unfold Co.poll
  split
  · show (Co.advance cf 4 _).r.l.length = _
    rw [qjw]
    simp only
    split
    · exact cl
    · split
      · exact cl
      · exact cl
  · rfl
theorem qy3 (c : Co) (t : Int) : (c.pop t).1.r = c.r := by
  unfold Co.pop
  split
  · split <;> rfl
  · rfl
theorem qy8 {s : Stp} (h : qae A g cf B w x) (hB : B ≤ 1000000000000) (hi : 0 ≤ s.i) (hj : 0 ≤ s.j) (hth : s.kd = 16 ∨ s.kd = 17 ∨ ∃ t : Nat, s.t = (t : Int) ∧ t < cf.threads.toNat)
    (hk : ∀ g' w', MTo A cf.threads.toNat g w g' w' → qae A g' cf (B + 64) w' (x.doS cf s).1 → K (anV (x.doS cf s).2) w') :
    C.q Tryz.prog 57 #[.pointer (some ⟨A.ma, 0, none⟩), stV s] w K := by
  have up : ∀ {g' : Gw} {w' : World} {x' : Ma}, qae A g' cf B w' x' → qae A g' cf (B + 64) w' x' := fun h => h.mono (by omega)
  refine F57.sh (C.av fun y w1 hn1 => C.av fun r w2 hn2 => ?_)
  have l1 := hn1.is
  have l2 := hn2.is
  have s1 := hn1.fr.size
  have lr := qac hn2.at_
  have f2 := hn1.fr.trans hn2.fr
  have h2 := h.keep0 f2
  have e2 : qcb w2 y r s := ⟨hn2.fr.at_ hn1.at_ (by simp), _, hn2.at_, rfl⟩
  have yl2 : Loc A cf.threads.toNat g y w2 := h.loc (by omega) (qac e2.y)
  have rl2 : Loc A cf.threads.toNat g r w2 := h.loc (by omega) lr
  have S2 : ∀ w', Fr [] w2 w' → w'.heap[A.ma]? = some (maB A cf) ∧ w'.heap[y]? = some (.cells (stV s).cells 40 (0, 0)) := fun w' hf => ⟨hf.at_ h2.blk (by simp), hf.at_ e2.y (by simp)⟩
  unfold Ma.doS at hk
  have put : ∀ (a : Ans) g3 w3 (x3 : Ma), MTo A cf.threads.toNat g w2 g3 w3 → qae A g3 cf (B + 64) w3 x3 → (∀ g' w', MTo A cf.threads.toNat g w g' w' → qae A g' cf (B + 64) w' x3 → K (anV a) w') → C.ak 5 (.pointer (some ⟨r, 0, none⟩)) (anV a) w3 fun w4 => C.ao 5 (.pointer (some ⟨r, 0, none⟩)) w4 fun r _ => K r w4 := fun a g3 w3 x3 t3 h3 hk => by
    have e3 := e2.to t3 yl2 rl2
    obtain ⟨cr, r3, rs3⟩ := e3.r
    exact qbw (a := a) ((MTo.w f2).trans t3) h3 (rl2.step t3) (by omega) r3 rs3 fun w' ht' h' => hk _ w' ht' h'
  have okEnd : ∀ g3 w3 (x3 : Ma), MTo A cf.threads.toNat g w2 g3 w3 → qae A g3 cf (B + 64) w3 x3 → (∀ g' w', MTo A cf.threads.toNat g w g' w' → qae A g' cf (B + 64) w' x3 → K (anV Ans.ok) w') → F57.k27 K (.pointer (some ⟨r, 0, none⟩)) w3 := fun g3 w3 x3 t3 h3 hk =>
    F57.k27.to (C.a5 qhq (put Ans.ok g3 w3 x3 t3 h3 hk))
  have th : s.kd ≠ 16 → s.kd ≠ 17 → ∃ t : Nat, s.t = (t : Int) ∧ t < cf.threads.toNat := fun a b => by
    rcases hth with e | e | e
    · exact absurd e a
    · exact absurd e b
    · exact e
  try simp only [C.af, C.ag, Nat.zero_add]
  refine C.ae (v := .int .i64 s.kd) e2.y rfl ?_
  by_cases k1 : s.kd = 1
  · rw [if_pos k1] at hk
    simp only [C.ah, C.az, eq_self, decide_true, k1]
    refine C.a4 (fun w' => w'.heap[A.ma]? = some (maB A cf) ∧ w'.heap[y]? = some (.cells (stV s).cells 40 (0, 0))) fun w3 hf3 _ => ⟨S2 w3 hf3, ?_⟩
    have h3 := h2.keep0 hf3
    refine C.an (v := .pointer (some ⟨A.Q.co, 0, none⟩)) (fun w' hw => ⟨_, _, _, hw.1, rfl⟩) (C.an (v := .int .i64 s.t) (fun w' hw => ⟨_, _, _, hw.2, rfl⟩) ⟨qr7 h3.co fun w4 ht4 h4 => ?_, trivial⟩)
    have h4' := h3.setC ht4 h4 (qow _ _)
    have t4 : MTo A cf.threads.toNat g w3 _ w4 := MTo.c ht4
    exact ⟨⟨h4'.blk, (yl2.fr hf3).at_ t4 (S2 w3 hf3).2⟩, okEnd _ w4 _ ((MTo.w hf3).trans t4) (up h4') hk⟩
  rw [if_neg k1] at hk
  simp only [C.ac, C.az, decide_false, k1]
  by_cases k2 : s.kd = 2
  · rw [if_pos k2] at hk
    simp only [C.ah, eq_self, decide_true, k2]
    refine C.a4 (fun w' => w'.heap[A.ma]? = some (maB A cf) ∧ w'.heap[y]? = some (.cells (stV s).cells 40 (0, 0))) fun w3 hf3 _ => ⟨S2 w3 hf3, ?_⟩
    have h3 := h2.keep0 hf3
    refine C.an (v := .pointer (some ⟨A.Q.co, 0, none⟩)) (fun w' hw => ⟨_, _, _, hw.1, rfl⟩) (C.an (v := .int .i64 s.t) (fun w' hw => ⟨_, _, _, hw.2, rfl⟩) ⟨qsc h3.co fun m' w4 ht4 h4 => ?_, trivial⟩)
    have h4' := h3.setC ht4 h4 (qo3 _ _ _)
    have t4 : MTo A cf.threads.toNat g w3 { g with m := m' } w4 := MTo.c ht4
    exact ⟨⟨h4'.blk, (yl2.fr hf3).at_ t4 (S2 w3 hf3).2⟩, okEnd _ w4 _ ((MTo.w hf3).trans t4) (up h4') hk⟩
  rw [if_neg k2] at hk
  simp only [C.ac, decide_false, k2]
  by_cases k3 : s.kd = 3
  · rw [if_pos k3] at hk
    simp only [C.ah, eq_self, decide_true, k3]
    obtain ⟨t, et, ht⟩ := th (by omega) (by omega)
    exact C.ax e2.y rfl (quj (s := s) (t := t) h2 hB et ht fun g3 w3 t3 h3 => put _ g3 w3 _ t3 (up h3) hk)
  rw [if_neg k3] at hk
  simp only [C.ac, decide_false, k3]
  have psh : (s.kd = 4 ∨ s.kd = 5 ∨ s.kd = 6 ∨ s.kd = 7 ∨ s.kd = 9) → C.ao 7 (.pointer (some ⟨y, 0, none⟩)) w2 fun x42 w27 => C.q Tryz.prog 101 #[.pointer (some ⟨A.ma, 0, none⟩), x42] w27 fun x43 w28 => C.ak 5 (.pointer (some ⟨r, 0, none⟩)) x43 w28 fun w29 => C.ao 5 (.pointer (some ⟨r, 0, none⟩)) w29 fun r30 _ => K r30 w29 := fun hp => by
    rw [if_pos hp] at hk
    exact C.ax e2.y rfl (qu9 (s := s) h2 hi fun g3 w3 t3 h3 => put _ g3 w3 _ t3 (up h3) hk)
  by_cases k4 : s.kd = 4
  · simp only [C.ah, eq_self, decide_true, k4]
    exact psh (by omega)
  simp only [C.ac, decide_false, k4]
  by_cases k5 : s.kd = 5
  · simp only [C.ah, eq_self, decide_true, k5]
    exact psh (by omega)
  simp only [C.ac, decide_false, k5]
  by_cases k6 : s.kd = 6
  · simp only [C.ah, eq_self, decide_true, k6]
    exact psh (by omega)
  simp only [C.ac, decide_false, k6]
  by_cases k7 : s.kd = 7
  · simp only [C.ah, eq_self, decide_true, k7]
    exact psh (by omega)
  simp only [C.ac, decide_false, k7]
  by_cases k9 : s.kd = 9
  · simp only [C.ah, eq_self, decide_true, k9]
    exact psh (by omega)
  rw [if_neg (by omega)] at hk
  simp only [C.ac, decide_false, k9]
  by_cases k8 : s.kd = 8
  · rw [if_pos k8] at hk
    simp only [C.ah, eq_self, decide_true, k8]
    refine C.a4 (fun w' => w'.heap[A.ma]? = some (maB A cf) ∧ w'.heap[y]? = some (.cells (stV s).cells 40 (0, 0))) fun w3 hf3 _ => ⟨S2 w3 hf3, ?_⟩
    have h3 := h2.keep0 hf3
    have e3 := e2.fr hf3
    have yl3 := yl2.fr hf3
    have rl3 := rl2.fr hf3
    have fin : ∀ (b : Bool) (v : V2) z g4 w4 (x4 : Ma), MTo A cf.threads.toNat g w3 g4 w4 → qae A g4 cf B w4 x4 → w4.heap[z]? = some (.cells (V v.1 v.2).cells 60 (0, 0)) →
        (b = false → ∀ g' w', MTo A cf.threads.toNat g w g' w' → qae A g' cf (B + 64) w' x4 → K (anV (Ans.err 4)) w') → (b = true → ∀ g' w', MTo A cf.threads.toNat g w g' w' → qae A g' cf (B + 64) w' x4 → K (anV ⟨0, (x4.told v).1, (x4.told v).2, 0, 0⟩) w') →
        F57.k17 K (.pointer (some ⟨A.ma, 0, none⟩)) (.pointer (some ⟨r, 0, none⟩)) (.pointer (some ⟨z, 0, none⟩)) (.bool b) w4 := fun b v z g4 w4 x4 t4 h4 hz hk0 hk1 => by
      have e4 := e3.to t4 yl3 rl3
      obtain ⟨cr, r4, rs4⟩ := e4.r
      refine F57.k17.to ?_
      cases b with
      | false =>
        simp only [C.ah, C.aq, Bool.not_false]
        exact qcc (e := 4) (((MTo.w f2).trans (MTo.w hf3)).trans t4) h4 (rl3.step t4) (by omega) r4 rs4 fun w' ht' h' => hk0 rfl _ w' ht' (up h')
      | true =>
        simp only [C.ac, C.aq, Bool.not_true]
        refine F57.k19.to (C.ax hz rfl (qi0 (v := v) h4 fun w5 hf5 => ?_))
        exact put _ g4 w5 x4 (((MTo.w hf3).trans t4).trans (MTo.w hf5)) (up (h4.keep0 hf5)) (hk1 rfl)
    have okr : ∀ (c' : Co) (o : Option V2), x.co.pop s.t = (c', o) → c'.r.l.length = x.co.r.l.length := fun c' o e => by have := qy3 x.co s.t; rw [e] at this; simp only at this; rw [this]
    refine C.an (v := .pointer (some ⟨A.Q.co, 0, none⟩)) (fun w' hw => ⟨_, _, _, hw.1, rfl⟩) (C.an (v := .int .i64 s.t) (fun w' hw => ⟨_, _, _, hw.2, rfl⟩) ⟨qub h3.co fun m' w4 ht4 h4 => ?_, C.av fun z w4 hn4 => ?_, trivial⟩)
    · have h4' := h3.setC ht4 h4 (okr _ _ rfl)
      have t4 : MTo A cf.threads.toNat g w3 { g with m := m' } w4 := MTo.c ht4
      have y4 := yl3.at_ t4 e3.y
      refine ⟨⟨h4'.blk, y4⟩, ?_⟩
      cases ep : x.co.pop s.t with
      | mk c' o =>
        rw [ep] at hk h4'
        cases o with
        | none =>
          have e0 : c' = x.co := by
            unfold Co.pop at ep
            split at ep
            · split at ep
              · simp at ep
              · simp only [Prod.mk.injEq] at ep; exact ep.1.symm
            · simp only [Prod.mk.injEq] at ep; exact ep.1.symm
          subst e0
          simp only at hk
          try simp only [C.a7, C.a8]
          refine ⟨C.av fun z w5 hn5 => ⟨⟨hn5.fr.at_ h4'.blk (by simp), hn5.fr.at_ y4 (by simp)⟩, C.a1 (x := V 0 0) hn5.at_ rfl qak rfl fun w6 hu6 => ?_, trivial⟩, trivial⟩
          have l5 := hn5.is
          have f46 : Fr [] w4 w6 := hn5.fr.then hu6.fr (by simp; omega)
          have h6 := h4'.keep0 f46
          exact ⟨⟨h6.blk, f46.at_ y4 (by simp)⟩, fin false (0, 0) z _ w6 _ (t4.trans (MTo.w f46)) h6 hu6.at_ (fun _ => hk) (fun e => by cases e)⟩
        | some v =>
          simp only at hk
          try simp only [C.a7, C.a8]
          refine ⟨C.av fun z w5 hn5 => ⟨⟨hn5.fr.at_ h4'.blk (by simp), hn5.fr.at_ y4 (by simp)⟩, C.a1 (x := V v.1 v.2) hn5.at_ rfl qak rfl fun w6 hu6 => ?_, trivial⟩, trivial⟩
          have l5 := hn5.is
          have f46 : Fr [] w4 w6 := hn5.fr.then hu6.fr (by simp; omega)
          have h6 := h4'.keep0 f46
          exact ⟨⟨h6.blk, f46.at_ y4 (by simp)⟩, fin true v z _ w6 _ (t4.trans (MTo.w f46)) h6 hu6.at_ (fun e => by cases e) (fun _ => hk)⟩
    · have l4 := hn4.is
      have s3 := hf3.size
      have s2 := f2.size
      have h4 := h3.keep0 hn4.fr
      have y4 := hn4.fr.at_ e3.y (by simp)
      have zl4 : Loc A cf.threads.toNat g z w4 := h3.loc (by omega) (qac hn4.at_)
      refine ⟨⟨h4.blk, y4⟩, qub h4.co fun m' w5 ht5 h5 => ?_, trivial⟩
      have h5' := h4.setC ht5 h5 (okr _ _ rfl)
      have t5 : MTo A cf.threads.toNat g w4 { g with m := m' } w5 := MTo.c ht5
      have y5 := (yl3.fr hn4.fr).at_ t5 y4
      have z5 := zl4.at_ t5 hn4.at_
      have zl5 := zl4.step t5
      have hzy : z ≠ y := by have := yl3.lt; omega
      have hza : z ≠ A.ma := by have := qac h3.blk; omega
      refine ⟨⟨h5'.blk, y5⟩, ?_⟩
      cases ep : x.co.pop s.t with
      | mk c' o =>
        rw [ep] at hk h5'
        cases o with
        | none =>
          have e0 : c' = x.co := by
            unfold Co.pop at ep
            split at ep
            · split at ep
              · simp at ep
              · simp only [Prod.mk.injEq] at ep; exact ep.1.symm
            · simp only [Prod.mk.injEq] at ep; exact ep.1.symm
          subst e0
          simp only at hk
          try simp only [C.a7, C.a8]
          refine ⟨C.a1 (x := V 0 0) z5 rfl qak rfl fun w6 hu6 => ?_, trivial⟩
          have h6 := h5'.keepL hu6.fr zl5
          exact ⟨⟨h6.blk, hu6.fr.at_ y5 (by simpa using Ne.symm hzy)⟩, fin false (0, 0) z _ w6 _ (((MTo.w hn4.fr).trans t5).then hu6.fr (by simp; omega)) h6 hu6.at_ (fun _ => hk) (fun e => by cases e)⟩
        | some v =>
          simp only at hk
          try simp only [C.a7, C.a8]
          refine ⟨C.a1 (x := V v.1 v.2) z5 rfl qak rfl fun w6 hu6 => ?_, trivial⟩
          have h6 := h5'.keepL hu6.fr zl5
          exact ⟨⟨h6.blk, hu6.fr.at_ y5 (by simpa using Ne.symm hzy)⟩, fin true v z _ w6 _ (((MTo.w hn4.fr).trans t5).then hu6.fr (by simp; omega)) h6 hu6.at_ (fun e => by cases e) (fun _ => hk)⟩
  rw [if_neg k8] at hk
  simp only [C.ac, decide_false, k8]
  by_cases k10 : s.kd = 10
  · rw [if_pos k10] at hk
    simp only [C.ah, eq_self, decide_true, k10]
    exact C.ax e2.y rfl (qsw (s := s) h2 hi hj fun g3 w3 t3 h3 => put _ g3 w3 _ t3 (up h3) hk)
  rw [if_neg k10] at hk
  simp only [C.ac, decide_false, k10]
  have asks : (s.kd = 11 ∨ s.kd = 12) → C.ao 7 (.pointer (some ⟨y, 0, none⟩)) w2 fun x42 w27 => C.q Tryz.prog 104 #[.pointer (some ⟨A.ma, 0, none⟩), x42] w27 fun x43 w28 => C.ak 5 (.pointer (some ⟨r, 0, none⟩)) x43 w28 fun w29 => C.ao 5 (.pointer (some ⟨r, 0, none⟩)) w29 fun r30 _ => K r30 w29 := fun hp => by
    rw [if_pos hp] at hk
    exact C.ax e2.y rfl (qyh (s := s) h2 hp hi hj fun w3 t3 h3 => put _ g w3 _ t3 (up h3) hk)
  by_cases k11 : s.kd = 11
  · simp only [C.ah, eq_self, decide_true, k11]
    exact asks (.inl k11)
  simp only [C.ac, decide_false, k11]
  by_cases k12 : s.kd = 12
  · simp only [C.ah, eq_self, decide_true, k12]
    exact asks (.inr k12)
  rw [if_neg (fun e => e.elim k11 k12)] at hk
  simp only [C.ac, decide_false, k12]
  by_cases k14 : s.kd = 14
  · rw [if_pos k14] at hk
    simp only [C.ah, eq_self, decide_true, k14]
    refine C.a4 (fun w' => w'.heap[A.ma]? = some (maB A cf) ∧ w'.heap[y]? = some (.cells (stV s).cells 40 (0, 0))) fun w3 hf3 _ => ⟨S2 w3 hf3, ?_⟩
    have h3 := h2.keep0 hf3
    refine C.an (v := .pointer (some ⟨A.Q.co, 0, none⟩)) (fun w' hw => ⟨_, _, _, hw.1, rfl⟩) (C.an (v := .int .i64 s.t) (fun w' hw => ⟨_, _, _, hw.2, rfl⟩) ⟨qwv h3.co fun b m' w4 ht4 h4 => ?_, trivial⟩)
    have h4' := h3.setC ht4 h4 (qtv _ _ _)
    have t4 : MTo A cf.threads.toNat g w3 { g with m := m' } w4 := MTo.c ht4
    exact ⟨⟨h4'.blk, (yl2.fr hf3).at_ t4 (S2 w3 hf3).2⟩, okEnd _ w4 _ ((MTo.w hf3).trans t4) (up h4') hk⟩
  rw [if_neg k14] at hk
  simp only [C.ac, decide_false, k14]
  exact C.ax e2.y rfl (qsu (s := s) h2 hB hth fun g3 w3 t3 h3 => put _ g3 w3 _ t3 h3 hk)
theorem qlo {s : Stp} (h : qae A g cf B w x) (hB : B ≤ 1000000000000) (hk : ∀ g' w', MTo A cf.threads.toNat g w g' w' → qae A g' cf (B + 64) w' (x.step cf s).1 → K (anV (x.step cf s).2) w') :
    C.q Tryz.prog 20 #[.pointer (some ⟨A.ma, 0, none⟩), stV s] w K := by
  have up : ∀ {g' : Gw} {w' : World} {x' : Ma}, qae A g' cf B w' x' → qae A g' cf (B + 64) w' x' := fun h => h.mono (by omega)
  refine F20.sh (C.av fun y w1 hn1 => C.av fun r w2 hn2 => ?_)
  have l1 := hn1.is
  have l2 := hn2.is
  have s1 := hn1.fr.size
  have lr := qac hn2.at_
  have f2 := hn1.fr.trans hn2.fr
  have h2 := h.keep0 f2
  have e2 : qcb w2 y r s := ⟨hn2.fr.at_ hn1.at_ (by simp), _, hn2.at_, rfl⟩
  have yl2 : Loc A cf.threads.toNat g y w2 := h.loc (by omega) (qac e2.y)
  have rl2 : Loc A cf.threads.toNat g r w2 := h.loc (by omega) lr
  unfold Ma.step at hk
  have err : ∀ (e : Int) w3, Fr [] w2 w3 → (∀ g' w', MTo A cf.threads.toNat g w g' w' → qae A g' cf (B + 64) w' x → K (anV (Ans.err e)) w') → C.q Tryz.prog 54 #[.int .i64 e] w3 fun x1 w1 => C.ak 5 (.pointer (some ⟨r, 0, none⟩)) x1 w1 fun w2 => C.ao 5 (.pointer (some ⟨r, 0, none⟩)) w2 fun r _ => K r w2 := fun e w3 hf3 hk =>
    qcc (e := e) (MTo.w (f2.trans hf3)) (h2.keep0 hf3) (rl2.fr hf3) (by omega) (hf3.at_ hn2.at_ (by simp)) rfl fun w' ht' h' => hk g w' ht' (up h')
  refine qk5 h2 ?_
  try simp only [C.ac, C.aq, Bool.not_true]
  refine F20.k3.to (C.ax e2.y rfl (qum (s := s) fun w3 hf3 => ?_))
  try simp only [C.be]
  by_cases c1 : s.check = 0
  · rw [if_neg (by simp [c1])] at hk
    simp only [C.ac, eq_self, decide_false, c1, ne_eq, not_true_eq_false]
    have h3 := h2.keep0 hf3
    refine F20.k6.to (C.ax (hf3.at_ e2.y (by simp)) rfl (qys (s := s) h3 fun w4 hf4 => ?_))
    have f24 := hf3.trans hf4
    have h4 := h2.keep0 f24
    try simp only [C.be]
    by_cases c2 : x.who cf s = 0
    · rw [if_neg (by simp [c2])] at hk
      simp only at hk
      simp only [C.ac, eq_self, decide_false, c2, ne_eq, not_true_eq_false]
      have hsm : ¬ (s.kd < 1 ∨ 17 < s.kd) ∧ s.small.any (fun n => decide (n < 0) || decide (255 < n)) = false := by
        unfold Stp.check at c1
        by_cases a1 : s.kd < 1 ∨ 17 < s.kd
        · rw [if_pos a1] at c1; exact absurd c1 (by decide)
        · rw [if_neg a1] at c1
          refine ⟨a1, ?_⟩
          cases hh : s.small.any (fun n => decide (n < 0) || decide (255 < n)) with
          | false => rfl
          | true => rw [if_pos hh] at c1; exact absurd c1 (by decide)
      have rng : 0 ≤ s.t ∧ 0 ≤ s.i ∧ 0 ≤ s.j := by
        have := hsm.2
        simp only [Stp.small, List.any_cons, List.any_nil, Bool.or_false, Bool.or_eq_false_iff, decide_eq_false_iff_not] at this
        omega
      have hth : s.kd = 16 ∨ s.kd = 17 ∨ ∃ t : Nat, s.t = (t : Int) ∧ t < cf.threads.toNat := by
        by_cases a1 : 16 ≤ s.kd
        · have := hsm.1; omega
        · unfold Ma.who at c2
          rw [if_neg a1] at c2
          by_cases a2 : cf.threads ≤ s.t
          · rw [if_pos a2] at c2; exact absurd c2 (by decide)
          · exact .inr (.inr ⟨s.t.toNat, by omega, by omega⟩)
      refine F20.k9.to (C.ax (f24.at_ e2.y (by simp)) rfl (qy8 (s := s) h4 hB rng.2.1 rng.2.2 hth fun g5 w5 t5 h5 => ?_))
      have e5 := (e2.fr f24).to t5 (yl2.fr f24) (rl2.fr f24)
      have yl5 := (yl2.fr f24).step t5
      have rl5 := (rl2.fr f24).step t5
      have tt5 := (MTo.w (f2.trans f24)).trans t5
      have sz5 := tt5.fr.size
      generalize x.doS cf s = p at *
      obtain ⟨x5, a5⟩ := p
      simp only at hk h5 ⊢
      refine C.av fun z w6 hn6 => C.a1 (x := anV a5) hn6.at_ rfl qb3 rfl fun w7 hu7 => ?_
      have l6 := hn6.is
      have f57 : Fr [] w5 w7 := hn6.fr.then hu7.fr (by simp; omega)
      have h7 := h5.keep0 f57
      have e7 := e5.fr f57
      have z7 := hu7.at_
      have zl7 : Loc A cf.threads.toNat g5 z w7 := h5.loc (by omega) (qac z7)
      have tt7 := tt5.trans (MTo.w f57)
      have fin : ∀ g8 w8 (x8 : Ma), MTo A cf.threads.toNat g5 w7 g8 w8 → qae A g8 cf (B + 64) w8 x8 → (∀ g' w', MTo A cf.threads.toNat g w g' w' → qae A g' cf (B + 64) w' x8 → K (anV a5) w') → F20.k12 K (.pointer (some ⟨r, 0, none⟩)) (.pointer (some ⟨z, 0, none⟩)) w8 := fun g8 w8 x8 t8 h8 hk => by
        have e8 := e7.to t8 (yl5.fr f57) (rl5.fr f57)
        obtain ⟨cr, r8, rs8⟩ := e8.r
        exact F20.k12.to (C.ax (zl7.at_ t8 z7) rfl (qbw (a := a5) (tt7.trans t8) h8 ((rl5.fr f57).step t8) (by omega) r8 rs8 fun w' ht' h' => hk _ w' ht' h'))
      try simp only [C.af, C.ag, Nat.zero_add]
      refine C.ae (v := .int .i64 s.kd) e7.y rfl ?_
      by_cases d1 : 3 ≤ s.kd
      · simp only [C.aw, C.bc, C.al, decide_true, show s.kd ≥ 3 from d1]
        refine C.ae (v := .int .i64 s.kd) e7.y rfl ?_
        by_cases d2 : s.kd ≤ 12
        · simp only [C.aw, C.ce, C.al, decide_true, d2]
          refine C.ae (v := .int .i64 a5.code) z7 rfl ?_
          by_cases d3 : a5.code = 0
          · rw [if_pos ⟨d1, d2, d3⟩] at hk
            simp only [C.ah, C.az, eq_self, decide_true, d3]
            obtain ⟨t, et, ht⟩ : ∃ t : Nat, s.t = (t : Int) ∧ t < cf.threads.toNat := by
              rcases hth with e | e | e
              · omega
              · omega
              · exact e
            refine C.a4 (fun w' => w'.heap[A.ma]? = some (maB A cf) ∧ w'.heap[y]? = some (.cells (stV s).cells 40 (0, 0))) fun w8 hf8 _ => ⟨⟨hf8.at_ h7.blk (by simp), hf8.at_ e7.y (by simp)⟩, ?_⟩
            have h8 := h7.keep0 hf8
            refine C.bn (vs := [.pointer (some ⟨A.lg, 0, none⟩), .pointer (some ⟨A.bn, 0, none⟩)]) (fun w' hw => qae.prS hw.1) (C.an (v := .int .i64 s.t) (fun w' hw => ⟨_, _, _, hw.2, rfl⟩) ?_)
            rw [et] at hk ⊢
            refine ⟨qua h8 ht (by omega) (by omega) fun g9 w9 t9 h9 => ?_, trivial⟩
            have e9 := (e7.fr hf8).to t9 ((yl5.fr f57).fr hf8) ((rl5.fr f57).fr hf8)
            exact ⟨⟨h9.blk, e9.y⟩, fin g9 w9 _ ((MTo.w hf8).trans t9) h9 hk⟩
          · rw [if_neg (fun e => d3 e.2.2)] at hk
            simp only [C.ac, C.az, decide_false, d3]
            exact fin g5 w7 x5 (MTo.refl _ _ _ _) h7 hk
        · rw [if_neg (fun e => d2 e.2.1)] at hk
          simp only [C.ac, C.ar, C.ce, C.bf, decide_false, d2]
          exact fin g5 w7 x5 (MTo.refl _ _ _ _) h7 hk
      · rw [if_neg (fun e => d1 e.1)] at hk
        simp only [C.ac, C.ar, C.bc, C.bf, decide_false, show ¬ s.kd ≥ 3 from d1]
        exact fin g5 w7 x5 (MTo.refl _ _ _ _) h7 hk
    · rw [if_pos c2] at hk
      simp only [C.ah, decide_true, c2, ne_eq, not_false_eq_true]
      exact err _ w4 f24 hk
  · rw [if_pos c1] at hk
    simp only [C.ah, decide_true, c1, ne_eq, not_false_eq_true]
    exact err _ w3 hf3 hk
end
end Go.Proofs.YtcakfaakbpdklaaGreatDoorV
namespace Go.Proofs.YtcakfaakbpdklaaGreatDoorV
open Go Go.Proofs Go.RowKit
set_option linter.unusedVariables false
set_option linter.unusedSimpArgs false
set_option maxRecDepth 10000
section
variable {K : VK} {w : World}
theorem ql8 (n : Nat) (v : Int) : qaf (List.replicate n v) = List.replicate n [.int .i64 v] := by simp [qaf]
theorem qfu {n : Int} {hi : Int} (h0 : 0 ≤ n) (h1 : n ≤ hi) : (if n < 0 then 0 else if n > hi then hi else n) = n := by
  rw [if_neg (by omega), if_neg (by omega)]
theorem qwu {n : Nat} (hn : n ≤ 64) (hk : ∀ b kv w', Fr [] w w' → w.heap.size ≤ b → b < w'.heap.size → (∀ x ∈ qab kv, w.heap.size ≤ x ∧ x < w'.heap.size) → qa6 w' b kv (List.replicate n 0) → K (.pointer (some ⟨b, 0, none⟩)) w') :
    C.q Tryz.prog 170 #[.int .i64 (n : Int)] w K := by
  refine F170.sh (qca ?_)
  rw [qfu (by omega) (by omega)]
  refine C.ca (e := 3) (sz := 1) (bytes := 8) (z := .int .i64 0) n Tryz.underlying54 (by kernel_rfl) rfl (by decide) (by simp [Value.cells, Value.oneCell']) (by omega) (by omega) fun g w1 hn1 ho1 => ?_
  refine C.a5 (w' := w1) (v := .agg #[.bool true, .slice (some ⟨g, 0, none⟩) n n]) (by kernel_rfl) (C.av fun b w2 hn2 => ?_)
  have l1 := hn1.is
  have l2 := hn2.is
  have s1 := hn1.fr.size
  have z2 := qac hn2.at_
  refine hk b (.slice (some ⟨g, 0, none⟩) n n) w2 (hn1.fr.trans hn2.fr) (by omega) z2 (fun x hx => ?_) ⟨hn2.at_, ?_, ?_⟩
  · simp [qab, Value.ownBlock] at hx; have := qac hn1.at_; omega
  · rw [ql8]; exact ho1.keep hn2.fr (by simp)
  · simpa using hn
theorem qwq {n : Nat} (hn : n ≤ 2048) (hk : ∀ b mv w', Fr [] w w' → w.heap.size ≤ b → b < w'.heap.size → (∀ x ∈ qab mv, w.heap.size ≤ x ∧ x < w'.heap.size) → qat w' b mv (List.replicate n 0) → K (.pointer (some ⟨b, 0, none⟩)) w') :
    C.q Tryz.prog 172 #[.int .i64 (n : Int)] w K := by
  refine F172.sh (qca ?_)
  rw [qfu (by omega) (by omega)]
  refine C.ca (e := 2) (sz := 1) (bytes := 8) (z := .int .i64 0) n Tryz.underlying52 (by kernel_rfl) rfl (by decide) (by simp [Value.cells, Value.oneCell']) (by omega) (by omega) fun g w1 hn1 ho1 => ?_
  refine C.a5 (w' := w1) (v := .agg #[.bool true, .slice (some ⟨g, 0, none⟩) n n]) (by kernel_rfl) (C.av fun b w2 hn2 => ?_)
  have l1 := hn1.is
  have l2 := hn2.is
  have s1 := hn1.fr.size
  have z2 := qac hn2.at_
  refine hk b (.slice (some ⟨g, 0, none⟩) n n) w2 (hn1.fr.trans hn2.fr) (by omega) z2 (fun x hx => ?_) ⟨hn2.at_, ?_, ?_, ?_⟩
  · simp [qab, Value.ownBlock] at hx; have := qac hn1.at_; omega
  · rw [ql8]; exact ho1.keep hn2.fr (by simp)
  · simpa using hn
  · intro x hx; simp at hx; omega
theorem qze : (Instr.buildSlice 54 0 #[]).run Tryz.prog w = .ok (.slice (some ⟨w.heap.size, 0, none⟩) 0 0) (w.alloc (.cells #[] 3)) := by kernel_rfl
theorem qsb {v : Value} {l : List Int} (hv : RdS w v 1 (qaf l)) (hl : l.length ≤ 1000000) (h : ∀ v' w', Fr [] w w' → qad w' v' 3 1 (qaf l) → qal w v' → K v' w') : C.q Tryz.prog 240 #[v] w K := by
  have hv' := hv
  obtain ⟨A, c, rfl, h1, h2, h3⟩ := hv
  refine F240.sh ⟨_, qe2 (e := 3) _ _ _ _ _ Tryz.underlying54, ?_⟩
  cases A with
  | none =>
    have : l = [] := by
      cases l with
      | nil => rfl
      | cons x l => obtain ⟨g, o, cs, e, fz, hA, _⟩ := h3 (by simp [qaf]); cases hA
    subst this
    simp only [Option.isNone_none, C.ah]
    exact h _ w (Fr.refl _ _) (qad.nil w 3 1) (qal.nil w)
  | some a =>
    simp only [Option.isNone_some, C.ac]
    refine F240.k3.to (C.a5 qze ?_)
    have hn := New.mk' w (.cells #[] 3)
    refine C.b9 (xs := []) (e := 3) (sz := 1) (bytes := 8) (z := .int .i64 0) Tryz.underlying54 (by kernel_rfl) rfl (by decide) (qad.of_block hn.at_ rfl (by simp) (by simp) rfl (by simp) (by simp)) (hv'.keep hn.fr) ql7 (by rw [qaj]; simp; omega) (by rw [qaj]; simp; omega) fun v' w' ho hf hb _ => ?_
    refine h v' w' (hn.fr.then hf fun x hx => ?_) (by simpa using ho) fun g hg => ?_
    · rw [qan] at hx
      simp only [Value.ownBlock, Option.some.injEq] at hx
      exact .inr (by omega)
    · rcases hb with hb | ⟨g', hb, hle⟩
      · rw [hb] at hg
        simp only [Value.ownBlock, Option.some.injEq] at hg
        omega
      · rw [hg] at hb
        simp only [Option.some.injEq] at hb
        have := hn.fr.size
        omega
end
theorem ch0 (p : Nat) : (List.replicate 64 ((0 : Int), (0 : Int))).getD p (0, 0) = (0, 0) := by
  unfold List.getD
  cases h : (List.replicate 64 ((0 : Int), (0 : Int)))[p]? with
  | none => rfl
  | some v => exact List.eq_of_mem_replicate (List.mem_of_getElem? h)
def qo0 (b mb tb : Nat) : Array Value := #[.pointer (some ⟨b, 0, none⟩), .pointer (some ⟨mb, 0, none⟩), .int .i64 0, .int .i64 0, .int .i64 0, .int .i64 0, .int .i64 0, .int .i64 0, .int .i64 0, .int .i64 0, .int .i64 0, .int .i64 0, .int .i64 0, .int .i64 0, .int .i64 0, .int .i64 0, .int .i64 0, .int .i64 0, .int .i64 0, .int .i64 0, .int .i64 0, .int .i64 0, .int .i64 0, .int .i64 0, .int .i64 0, .int .i64 0, .int .i64 0, .int .i64 0, .int .i64 0, .int .i64 0, .int .i64 0, .int .i64 0, .int .i64 0, .int .i64 0, .int .i64 0, .int .i64 0, .int .i64 0, .int .i64 0, .int .i64 0, .int .i64 0, .int .i64 0, .int .i64 0, .int .i64 0, .int .i64 0, .int .i64 0, .int .i64 0, .int .i64 0, .int .i64 0, .int .i64 0, .int .i64 0, .int .i64 0, .int .i64 0, .int .i64 0, .int .i64 0, .int .i64 0, .int .i64 0, .int .i64 0, .int .i64 0, .int .i64 0, .int .i64 0, .int .i64 0, .int .i64 0, .int .i64 0, .int .i64 0, .int .i64 0, .int .i64 0, .int .i64 0, .int .i64 0, .int .i64 0, .int .i64 0, .int .i64 0, .int .i64 0, .int .i64 0, .int .i64 0, .int .i64 0, .int .i64 0, .int .i64 0, .int .i64 0, .int .i64 0, .int .i64 0, .int .i64 0, .int .i64 0, .int .i64 0, .int .i64 0, .int .i64 0, .int .i64 0, .int .i64 0, .int .i64 0, .int .i64 0, .int .i64 0, .int .i64 0, .int .i64 0, .int .i64 0, .int .i64 0, .int .i64 0, .int .i64 0, .int .i64 0, .int .i64 0, .int .i64 0, .int .i64 0, .int .i64 0, .int .i64 0, .int .i64 0, .int .i64 0, .int .i64 0, .int .i64 0, .int .i64 0, .int .i64 0, .int .i64 0, .int .i64 0, .int .i64 0, .int .i64 0, .int .i64 0, .int .i64 0, .int .i64 0, .int .i64 0, .int .i64 0, .int .i64 0, .int .i64 0, .int .i64 0, .int .i64 0, .int .i64 0, .int .i64 0, .int .i64 0, .int .i64 0, .int .i64 0, .int .i64 0, .int .i64 0, .int .i64 0, .int .i64 0, .pointer (some ⟨tb, 0, none⟩)]
def qxs (b mb tb : Nat) : Value := .agg (qo0 b mb tb)
theorem qo1 (b mb tb : Nat) : (qxs b mb tb).cells = qo0 b mb tb := by rfl
theorem qza {w : World} (b mb tb : Nat) : (Instr.build 244 #[(0, .agg #[.pointer (some ⟨b, 0, none⟩)]), (1, .pointer (some ⟨mb, 0, none⟩)), (3, .pointer (some ⟨tb, 0, none⟩))]).run Tryz.prog w = .ok (qxs b mb tb) w := by kernel_rfl
theorem qs5 (b mb tb : Nat) : ∀ p, p < 64 → (qo0 b mb tb)[2 + p * 2]? = some (.int .i64 0) ∧ (qo0 b mb tb)[2 + p * 2 + 1]? = some (.int .i64 0)
  | 0, _ | 1, _ | 2, _ | 3, _ | 4, _ | 5, _ | 6, _ | 7, _ | 8, _ | 9, _ | 10, _ | 11, _ | 12, _ | 13, _ | 14, _ | 15, _ | 16, _ | 17, _ | 18, _ | 19, _ | 20, _ | 21, _ | 22, _ | 23, _ | 24, _ | 25, _ | 26, _ | 27, _ | 28, _ | 29, _ | 30, _ | 31, _ | 32, _ | 33, _ | 34, _ | 35, _ | 36, _ | 37, _ | 38, _ | 39, _ | 40, _ | 41, _ | 42, _ | 43, _ | 44, _ | 45, _ | 46, _ | 47, _ | 48, _ | 49, _ | 50, _ | 51, _ | 52, _ | 53, _ | 54, _ | 55, _ | 56, _ | 57, _ | 58, _ | 59, _ | 60, _ | 61, _ | 62, _ | 63, _ => ⟨rfl, rfl⟩
  | p + 64, h => by omega
section
variable {K : VK} {w : World}
theorem qwh {n : Nat} (hn : n ≤ 64) (hk : ∀ (A : Cad) w', Fr [] w w' → (∀ x ∈ A.all, w.heap.size ≤ x ∧ x < w'.heap.size) → qao A w' (Ce.new n) → K (.pointer (some ⟨A.cel, 0, none⟩)) w') :
    C.q Tryz.prog 112 #[.int .i64 (n : Int)] w K := by
  refine F112.sh (qwu hn fun b kv w1 hf1 hb1 hb1' hk1 hp1 => ?_)
  refine F171.sh ⟨_, qam _ _ _ Tryz.underlying234, ?_⟩
  try simp only [C.ac, C.bq, C.bs]
  refine F171.k3.to ?_
  try simp only [C.af, C.ag, Nat.zero_add]
  refine C.ae (v := kv) hp1.blk rfl (qsb hp1.own.rd (by simp; omega) fun v2 w2 hf2 ho2 hn2 => C.bh ho2.rd ?_)
  rw [qaj, List.length_replicate]
  try simp only [C.bq]
  rw [qaa (n := (n : Int) * 32) (by omega), show (n : Int) * 32 = ((n * 32 : Nat) : Int) by omega]
  refine C.a5 (w' := w2) (v := .agg #[.pointer (some ⟨b, 0, none⟩)]) (by kernel_rfl) (qwq (n := n * 32) (by omega) fun mb mv w3 hf3 hb3 hb3' hk3 hm3 => ?_)
  refine qpo (by omega) (by omega) fun tb w4 hf4 e4 s4 ht4 => ?_
  refine C.a5 (qza b mb tb) (C.av fun cb w5 hn5 => ?_)
  have l5 := hn5.is
  have s1 := hf1.size
  have s2 := hf2.size
  have s3 := hf3.size
  have s5 := hn5.fr.size
  have z5 := qac hn5.at_
  have f15 := ((hf2.trans hf3).trans hf4).trans hn5.fr
  refine hk ⟨cb, b, mb, tb, kv, mv⟩ w5 (hf1.trans f15) (fun x hx => ?_) ?_
  · simp only [Cad.all, List.mem_cons, List.mem_append] at hx
    rcases hx with rfl | rfl | rfl | rfl | hx | hx
    · omega
    · omega
    · omega
    · omega
    · have := hk1 x hx; omega
    · have := hk3 x hx; omega
  · have nn : (Ce.new (n : Int)).n = ((n * 32 : Nat) : Int) := by simp [Ce.n, Ce.new]
    have hb := hn5.at_
    rw [qo1] at hb
    refine ⟨⟨_, hb, rfl, rfl, rfl, rfl, fun p hp => ?_⟩, ?_, ?_, ?_, by simp [Ce.new], by simp [Ce.new], fun p => ?_⟩
    · have e0 : (Ce.new (n : Int)).ch.getD p (0, 0) = (0, 0) := ch0 p
      rw [e0]
      exact qs5 b mb tb p hp
    · have := hp1.keep0 f15; simpa [Ce.new] using this
    · have := hm3.keep0 (hf4.trans hn5.fr); simpa [Ce.new] using this
    · rw [nn]; exact ht4.keep hn5.fr (by simp)
    · have e0 : (Ce.new (n : Int)).ch.getD p (0, 0) = (0, 0) := ch0 p
      rw [e0]; simp
end
section
variable {K : VK} {w : World}
theorem qq9 (n : Nat) : qct (List.replicate n 0) = (n : Int) := by
  unfold qct
  congr 1
  rw [List.countP_eq_length.2 (by intro a ha; simp [List.eq_of_mem_replicate ha]), List.length_replicate]
theorem qw5 {n : Nat} {nt : Int} (hn : n ≤ 64) (h0 : 0 ≤ nt) (h9 : nt ≤ 9) (hT : TzB w) (hz : 0 < w.heap.size) (hk : ∀ (D : Sad) w', Fr [] w w' → (∀ x ∈ D.all, x = 0 ∨ (w.heap.size ≤ x ∧ x < w'.heap.size)) → qar D n nt w' ⟨Ce.new n, fun _ => none, 0⟩ → K (.pointer (some ⟨D.st, 0, none⟩)) w') :
    C.q Tryz.prog 73 #[.int .i64 (n : Int), .int .i64 nt] w K := by
  refine F73.sh (qwh hn fun A w1 hf1 hA1 hc1 => qws fun ob om w2 hf2 ho2 hm2 hne h2 => ?_)
  rw [qfu h0 (by omega)] at h2
  have s1 := hf1.size
  have s2 := hf2.size
  have lo2 := h2.lt
  have c2 := hc1.keep0 hf2
  refine C.a5 (w' := w2) (v := .agg #[.pointer (some ⟨A.cel, 0, none⟩), .pointer (some ⟨ob, 0, none⟩), .int .i64 0, .int .i64 0, .int .i64 0]) (by kernel_rfl) (C.av fun st w3 hn3 => ?_)
  have l3 := hn3.is
  have c3 := c2.keep0 hn3.fr
  have o3 := h2.keep hn3.fr (by simp) (by simp)
  try simp only [C.af, C.ag, Nat.zero_add]
  refine C.ae (v := .pointer (some ⟨A.cel, 0, none⟩)) hn3.at_ rfl (qne c3 fun w4 hf4 => ?_)
  rw [show (Ce.new (n : Int)).ks = List.replicate n 0 by simp [Ce.new], qq9]
  have b4 := hf4.at_ hn3.at_ (by simp)
  refine C.bb b4 rfl rfl (by simp [Value.cells]) fun w5 hu5 => ?_
  refine C.a5 (qip _ _ _ _ _) (C.a5 (qmf _ _ _ _ _) ?_)
  rw [show min (max nt 0) 9 = nt by omega]
  refine C.bb hu5.at_ rfl rfl (by simp [Value.cells]) fun w6 hu6 => ?_
  have z3 := qac hn3.at_
  have s4 := hf4.size
  have s5 := hu5.fr.size
  have s6 := hu6.fr.size
  have f6 : Fr [] w w6 := ((((hf1.trans hf2).trans hn3.fr).trans hf4).then hu5.fr (by simp; omega)).then hu6.fr (by simp; omega)
  have nA : ∀ x ∈ A.all, x ≠ st := fun x hx => by have := hA1 x hx; omega
  have c6 : qao A w6 (Ce.new (n : Int)) := ((c3.keep0 hf4).keepA hu5.fr (fun x hx => by simpa using nA x hx)).keepA hu6.fr (fun x hx => by simpa using nA x hx)
  have o6 : qcj w6 ob om nt (fun _ => none) := ((o3.keep hf4 (by simp) (by simp)).keep hu5.fr (by simp; omega) (by simp; omega)).keep hu6.fr (by simp; omega) (by simp; omega)
  refine hk ⟨A, st, ob, om⟩ w6 f6 (fun x hx => ?_) ⟨⟨by simp only; omega, by simp only; omega, hne, fun e => ?_, fun e => ?_, fun e => ?_, fun e => ?_⟩, ?_, c6, o6, hn, hT.keep f6 (by simp)⟩
  · simp only [Sad.all, List.mem_cons] at hx
    rcases hx with rfl | rfl | rfl | rfl | hx
    · exact .inl rfl
    · exact .inr (by omega)
    · exact .inr (by omega)
    · exact .inr (by omega)
    · have := hA1 x hx; exact .inr (by omega)
  · have := hA1 _ e; simp only at this; omega
  · have := hA1 _ e; simp only at this; omega
  · have := hA1 _ e; simp only at this; omega
  · simp only [List.mem_cons] at e
    rcases e with e | e | e | e
    · omega
    · omega
    · omega
    · have := hA1 0 e; omega
  · have := hu6.at_
    simpa [Value.cells] using this
end
section
variable {K : VK} {w : World}
theorem qgc {n lo hi : Int} (h0 : lo ≤ n) (h1 : n ≤ hi) : (if n < lo then lo else if n > hi then hi else n) = n := by
  rw [if_neg (by omega), if_neg (by omega)]
theorem qwm {room : Int} (h1 : 1 ≤ room) (h2 : room ≤ 256) (hk : ∀ (G : Gad) w', Fr [] w w' → [G.gr, G.wa, G.sk, G.mb].Nodup → (∀ x ∈ [G.gr, G.wa, G.sk, G.mb], w.heap.size ≤ x ∧ x < w'.heap.size) → qa0 G (.slice none 0 0) room w' ⟨[], false, fun _ => false⟩ → K (.pointer (some ⟨G.gr, 0, none⟩)) w') :
    C.q Tryz.prog 74 #[.int .i64 room] w K := by
  refine F74.sh (F115.sh (qca ?_))
  rw [qgc h1 h2]
  refine C.a5 (w' := w) (v := .agg #[.slice none 0 0, .int .i64 room, .bool false]) (by kernel_rfl) (C.av fun sk w1 hn1 => ?_)
  refine C.a5 (w' := w1) (v := .agg #[.pointer (some ⟨sk, 0, none⟩)]) (by kernel_rfl) (C.av fun wa w2 hn2 => ?_)
  refine qpo (n := 2048) (by omega) (by omega) fun mb w3 hf3 e3 s3 hm3 => ?_
  refine C.a5 (w' := w3) (v := .agg #[.pointer (some ⟨wa, 0, none⟩), .pointer (some ⟨mb, 0, none⟩)]) (by kernel_rfl) (C.av fun gr w4 hn4 => ?_)
  have l1 := hn1.is
  have l2 := hn2.is
  have l4 := hn4.is
  have s1 := hn1.fr.size
  have s2 := hn2.fr.size
  have z1 := qac hn1.at_
  have z2 := qac hn2.at_
  have z4 := qac hn4.at_
  have s34 := hn4.fr.size
  refine hk ⟨gr, wa, sk, mb⟩ w4 (((hn1.fr.trans hn2.fr).trans hf3).trans hn4.fr) ?_ (fun x hx => ?_) ⟨hn4.at_, ?_, ⟨?_, qad.nil _ _ _, ⟨h1, h2⟩, by simp; omega⟩, hm3.keep hn4.fr (by simp)⟩
  · simp only [List.nodup_cons, List.mem_cons, List.not_mem_nil, or_false, not_or, not_false_eq_true, List.nodup_nil, and_true]
    omega
  · simp only [List.mem_cons, List.not_mem_nil, or_false] at hx
    rcases hx with rfl | rfl | rfl | rfl <;> omega
  · exact hn4.fr.at_ (hf3.at_ hn2.at_ (by simp)) (by simp)
  · exact hn4.fr.at_ (hf3.at_ (hn2.fr.at_ hn1.at_ (by simp)) (by simp)) (by simp)
theorem qwj {n : Nat} (hn : n ≤ 8) (hk : ∀ re rv w', Fr [] w w' → w.heap.size ≤ re → re < w'.heap.size → (∀ x ∈ qab rv, w.heap.size ≤ x ∧ x < w'.heap.size) → qbe re rv w' ⟨0, List.replicate n (false, 0)⟩ → K (.pointer (some ⟨re, 0, none⟩)) w') :
    C.q Tryz.prog 75 #[.int .i64 (n : Int)] w K := by
  refine F75.sh (qca ?_)
  rw [qfu (by omega) (by omega)]
  refine C.ca (e := 212) (sz := 2) (bytes := 16) (z := .agg #[.bool false, .int .i64 0]) n Tryz.underlying181 (by kernel_rfl) rfl (by decide) (by simp [Value.cells, Value.oneCell']) (by omega) (by omega) fun g w1 hn1 ho1 => ?_
  refine C.a5 (w' := w1) (v := .agg #[.bool true, .int .i64 0, .slice (some ⟨g, 0, none⟩) n n]) (by kernel_rfl) (C.av fun b w2 hn2 => ?_)
  have l1 := hn1.is
  have l2 := hn2.is
  have s1 := hn1.fr.size
  have z1 := qac hn1.at_
  have z2 := qac hn2.at_
  have s2 := hn2.fr.size
  refine hk b (.slice (some ⟨g, 0, none⟩) n n) w2 (hn1.fr.trans hn2.fr) (by omega) z2 (fun x hx => ?_) ⟨hn2.at_, ?_, by simpa using hn⟩
  · simp [qab, Value.ownBlock] at hx; omega
  · have e : qe7 (List.replicate n (false, 0)) = List.replicate n [.bool false, .int .i64 0] := by simp [qe7]
    rw [e]; exact ho1.keep hn2.fr (by simp)
theorem qwk {n : Nat} (hn : n ≤ 8) (hk : ∀ bu bv w', Fr [] w w' → w.heap.size ≤ bu → bu < w'.heap.size → (∀ x ∈ qab bv, w.heap.size ≤ x ∧ x < w'.heap.size) → qbd bu bv (List.replicate n (.slice none 0 0)) w' (List.replicate n []) → K (.pointer (some ⟨bu, 0, none⟩)) w') :
    C.q Tryz.prog 76 #[.int .i64 (n : Int)] w K := by
  refine F76.sh (qca ?_)
  rw [qfu (by omega) (by omega)]
  refine C.ca (e := 54) (sz := 1) (bytes := 24) (z := .slice none 0 0) n Tryz.underlying184 (by kernel_rfl) rfl (by decide) (by simp [Value.cells, Value.oneCell']) (by omega) (by omega) fun g w1 hn1 ho1 => ?_
  refine C.a5 (w' := w1) (v := .agg #[.bool true, .slice (some ⟨g, 0, none⟩) n n]) (by kernel_rfl) (C.av fun b w2 hn2 => ?_)
  have l1 := hn1.is
  have l2 := hn2.is
  have s1 := hn1.fr.size
  have z1 := qac hn1.at_
  have z2 := qac hn2.at_
  have s2 := hn2.fr.size
  have nob : ∀ v ∈ List.replicate n (Value.slice none 0 0), qab v = [] := fun v hv => by rw [List.eq_of_mem_replicate hv]; rfl
  refine hk b (.slice (some ⟨g, 0, none⟩) n n) w2 (hn1.fr.trans hn2.fr) (by omega) z2 (fun x hx => ?_) ⟨hn2.at_, ?_, ⟨by simp, fun i h1 h2 => ?_, fun i j h1 h2 _ x hx => ?_⟩, by simpa using hn, fun l hl => ?_⟩
  · simp [qab, Value.ownBlock] at hx; omega
  · have e : qd8 (List.replicate n (.slice none 0 0)) = List.replicate n [.slice none 0 0] := by simp [qd8]
    rw [e]; exact ho1.keep hn2.fr (by simp)
  · have e1 : (List.replicate n (Value.slice none 0 0))[i] = .slice none 0 0 := by simp
    have e2 : ((List.replicate n ([] : List Int)).map qaf)[i] = [] := by simp [qaf]
    rw [e1, e2]; exact qad.nil _ _ _
  · rw [nob _ (List.getElem_mem h1)] at hx; simp at hx
  · rw [List.eq_of_mem_replicate hl]; simp
theorem qxb {st gr : Nat} {pages chunk : Int} (h1 : 1 ≤ pages ∧ pages ≤ 64) (h2 : 1 ≤ chunk ∧ chunk ≤ 16) (hk : ∀ tr w', New w tr (.cells #[.pointer (some ⟨st, 0, none⟩), .pointer (some ⟨gr, 0, none⟩), .int .i64 pages, .int .i64 chunk, .int .i64 (-1)] 188) w' → K (.pointer (some ⟨tr, 0, none⟩)) w') :
    C.q Tryz.prog 77 #[.pointer (some ⟨st, 0, none⟩), .pointer (some ⟨gr, 0, none⟩), .int .i64 pages, .int .i64 chunk] w K := by
  refine F77.sh (qca ?_)
  rw [qgc h1.1 h1.2]
  refine qca ?_
  rw [qgc h2.1 h2.2]
  exact C.a5 (w' := w) (v := .agg #[.pointer (some ⟨st, 0, none⟩), .pointer (some ⟨gr, 0, none⟩), .int .i64 pages, .int .i64 chunk, .int .i64 (-1)]) (by kernel_rfl) (C.av hk)
theorem qxh {st gr : Nat} {pages : Int} (h1 : 1 ≤ pages ∧ pages ≤ 64) (hk : ∀ sw w', New w sw (.cells #[.pointer (some ⟨st, 0, none⟩), .pointer (some ⟨gr, 0, none⟩), .int .i64 pages, .int .i64 pages, .int .i64 0] 190) w' → K (.pointer (some ⟨sw, 0, none⟩)) w') :
    C.q Tryz.prog 78 #[.pointer (some ⟨st, 0, none⟩), .pointer (some ⟨gr, 0, none⟩), .int .i64 pages] w K := by
  refine F78.sh (qca ?_)
  rw [qgc h1.1 h1.2]
  exact C.a5 (w' := w) (v := .agg #[.pointer (some ⟨st, 0, none⟩), .pointer (some ⟨gr, 0, none⟩), .int .i64 pages, .int .i64 pages, .int .i64 0]) (by kernel_rfl) (C.av hk)
end
end Go.Proofs.YtcakfaakbpdklaaGreatDoorV
namespace Go.Proofs.YtcakfaakbpdklaaGreatDoorV
open Go Go.Proofs
set_option linter.unusedVariables false
set_option maxRecDepth 100000
noncomputable section
variable {K : VK} {w : World} {x0 y1 : Value}
namespace F41
def ann : Ann := ⟨[(4, [1])], [], [], [(4, (.take 0 (.take 2 (.take 6 (.take 1 (.take 3 (.take 4 (.take 7 (.take 10 (.go 5 (.go 8 (.take 9 (.take 11 (.go 12 (.take 13 .fin) .fin))) .fin) .fin)))))))))), (5, (.take 0 (.take 1 (.take 2 (.take 5 (.take 3 (.take 6 (.go 4 (.go 7 (.take 8 (.take 9 (.go 10 (.take 11 (.take 12 (.go 13 .fin .fin))) .fin))) .fin) .fin)))))))), (6, (.take 0 (.take 1 (.take 2 (.take 3 (.take 4 (.take 5 (.take 7 (.take 8 (.take 9 (.take 10 (.take 12 (.take 14 (.take 17 (.take 18 (.take 19 (.take 20 (.take 22 (.take 23 (.take 24 (.take 25 (.take 27 (.take 6 (.take 11 (.take 13 (.take 15 (.take 21 (.take 26 (.take 28 (.go 16 (.go 29 (.take 30 (.take 31 (.go 32 (.take 33 (.take 34 (.go 35 .fin .fin))) .fin))) .fin) .fin)))))))))))))))))))))))))))))), (7, (.take 0 (.take 1 (.take 2 (.take 3 (.take 4 (.take 6 (.take 5 (.take 7 (.go 8 (.take 9 (.take 10 (.take 11 (.take 12 (.take 13 (.go 14 .fin .fin)))))) .fin))))))))))], none⟩
def code := cd Tryz.f41
def top := tp Tryz.f41
variable (K : VK) (y1 : Value) (w : World)
def k4 : Prop := nk ann 85 [(1, y1)] w [1, 1] code (top K)
attribute [irreducible] k4
end F41
theorem F41.k4.to (h : (C.a9 w fun S a =>
 C.ab 0 y1 a fun b c =>
 C.ab 1 y1 c fun d f =>
 C.ab 8 y1 f fun g i =>
 C.ap S b i fun j k =>
 C.ap S d k fun m o =>
 C.aj .add m (.int .i64 1) o fun p q =>
 C.ap S g q fun r s =>
 C.bm S 10 y1 s fun t u =>
 (C.q Tryz.prog 73 #[j, p] u fun v x =>
 (S x ∧
 (C.q Tryz.prog 74 #[r] x fun y z =>
 (S z ∧
 ∃ aa, (∀ w', S w' → (Instr.build 123 #[(0, v), (1, y)]).run Tryz.prog w' = .ok aa w') ∧ (∃ ab, (∀ w', S w' → (Instr.build 132 #[(0, aa), (1, t)]).run Tryz.prog w' = .ok ab w') ∧ ((C.a3 (.cells (Value.cells ab) 132) z fun ac ad =>
 (S ad ∧
 C.a9 ad fun S ae =>
 C.ab 1 y1 ae fun af ag =>
 C.ab 1 y1 ag fun ah ai =>
 C.ap S af ai fun aj ak =>
 C.ap S ah ak fun al am =>
 (C.q Tryz.prog 75 #[aj] am fun an ao =>
 (S ao ∧
 (C.q Tryz.prog 76 #[al] ao fun ap aq =>
 (S aq ∧
 C.ad ac aq fun ar au =>
 C.ab 12 ar au fun av aw =>
 (C.ak 1 av an aw fun ax =>
 (S ax ∧
 C.ad ac ax fun ay az =>
 C.ab 13 ay az fun ba bb =>
 (C.ak 1 ba ap bb fun bc =>
 (S bc ∧
 C.a9 bc fun S bd =>
 C.ad ac bd fun be bf =>
 C.ab 0 be bf fun bg bh =>
 C.ab 0 bg bh fun bi bj =>
 C.ad ac bj fun bk bl =>
 C.ab 0 bk bl fun bm bn =>
 C.ab 1 bm bn fun bo bp =>
 C.ab 0 y1 bp fun bq br =>
 C.ab 7 y1 br fun bs bt =>
 C.ad ac bt fun bu bv =>
 C.ab 0 bu bv fun bw bx =>
 C.ab 0 bw bx fun bz ca =>
 C.ad ac ca fun cb cc =>
 C.ab 0 cb cc fun ce cf =>
 C.ab 1 ce cf fun cg ch =>
 C.ab 0 y1 ch fun ci cj =>
 C.ap S bi cj fun ck cl =>
 C.ap S bo cl fun cm cn =>
 C.ap S bq cn fun co cp =>
 C.ap S bs cp fun cq cr =>
 C.ap S bz cr fun cs ct =>
 C.ap S cg ct fun cu cv =>
 C.ap S ci cv fun cw cx =>
 (C.q Tryz.prog 77 #[ck, cm, co, cq] cx fun cy cz =>
 (S cz ∧
 (C.q Tryz.prog 78 #[cs, cu, cw] cz fun da db =>
 (S db ∧
 C.ad ac db fun dc dd =>
 C.ab 14 dc dd fun de df =>
 (C.ak 1 de cy df fun dg =>
 (S dg ∧
 C.ad ac dg fun dh di =>
 C.ab 15 dh di fun dj dk =>
 (C.ak 1 dj da dk fun dl =>
 (S dl ∧
 C.a9 dl fun S dm =>
 C.ad ac dm fun dn dp =>
 C.ab 0 dn dp fun dq dr =>
 C.ab 0 dq dr fun ds dt =>
 C.ab 1 y1 dt fun du dv =>
 C.ap S ds dv fun dw dx =>
 C.ap S du dx fun dy dz =>
 (C.q Tryz.prog 79 #[dw, dy, (.int .i64 4)] dz fun ea eb =>
 (S eb ∧
 C.a0 0 ea eb fun ec ed =>
 C.a0 1 ea ed fun ee ef =>
 C.ad ac ef fun eg eh =>
 C.ab 24 eg eh fun ei ej =>
 (C.ak 1 ei ec ej fun ek =>
 (S ek ∧
 K (.tuple #[ac, (.int .i64 0)]) ek)) ∧ True)) ∧ True)) ∧ True)) ∧ True)) ∧ True)) ∧ True)) ∧ True)) ∧ True)) ∧ True)) ∧ True)) ∧ True)))) ∧ True)) ∧ True)) : F41.k4 K y1 w := qq h
theorem F41.sh (h : (C.a3 (.cells (Value.cells x0) 23) w fun a b =>
 C.ao 10 a b fun c d =>
 C.q Tryz.prog 11 #[c] d fun f g =>
 C.aj .neq f (.int .i64 0) g fun i j =>
 C.am i (K (.tuple #[(.pointer none), f]) j) (F41.k4 K a j))) : C.q Tryz.prog 41 #[x0] w K := q9 (A := F41.ann) (args := [x0]) (qq h)
end
end Go.Proofs.YtcakfaakbpdklaaGreatDoorV
namespace Go.Proofs.YtcakfaakbpdklaaGreatDoorV
open Go Go.Proofs Go.RowKit
set_option linter.unusedVariables false
set_option linter.unusedSimpArgs false
set_option maxRecDepth 10000
def coV (st gr : Nat) (cf : Cf) : Array Value := #[.pointer (some ⟨st, 0, none⟩), .pointer (some ⟨gr, 0, none⟩), .int .i64 cf.pages, .int .i64 cf.threads, .int .i64 cf.window, .int .i64 cf.quantum, .int .i64 cf.target, .int .i64 cf.cap, .int .i64 cf.tax, .int .i64 cf.chunk, .int .i64 cf.stack, .int .i64 cf.trigger, .pointer none, .pointer none, .pointer none, .pointer none, .slice none 0 0, .slice none 0 0, .slice none 0 0, .slice none 0 0, .slice none 0 0, .slice none 0 0, .slice none 0 0, .slice none 0 0, .int .i64 0, .int .i64 0, .int .i64 0, .int .i64 0]
section
variable {K : VK} {w : World}
theorem qyt (st gr : Nat) : (Instr.build 123 #[(0, .pointer (some ⟨st, 0, none⟩)), (1, .pointer (some ⟨gr, 0, none⟩))]).run Tryz.prog w = .ok (.agg #[.pointer (some ⟨st, 0, none⟩), .pointer (some ⟨gr, 0, none⟩)]) w := by kernel_rfl
theorem bCo (st gr : Nat) (cf : Cf) : (Instr.build 132 #[(0, .agg #[.pointer (some ⟨st, 0, none⟩), .pointer (some ⟨gr, 0, none⟩)]), (1, .agg (cfV cf).toArray)]).run Tryz.prog w = .ok (.agg (coV st gr cf)) w := by kernel_rfl
structure Cf.Co (cf : Cf) : Prop where
  pg : 1 ≤ cf.pages ∧ cf.pages ≤ 64
  th : 1 ≤ cf.threads ∧ cf.threads ≤ 8
  ck : 1 ≤ cf.chunk ∧ cf.chunk ≤ 16
  sk : 1 ≤ cf.stack ∧ cf.stack ≤ 256
theorem qun {y : Nat} {cf : Cf} (hy : w.heap[y]? = some (.cells (cfV cf).toArray 23 (0, 0))) (hc : cf.Co) (hT : TzB w) (hz : 0 < w.heap.size)
    (hk : ∀ (Q : Kad) (m : Mv) w', Fr [] w w' → m.all = [] → (∀ x ∈ Q.fix ++ (Q.H.fix ++ Q.H.D.all), x = 0 ∨ w.heap.size ≤ x) → qah Q m cf w' (Co.new cf) → K (.tuple #[.pointer (some ⟨Q.co, 0, none⟩), .int .i64 0]) w') :
    F41.k4 K (.pointer (some ⟨y, 0, none⟩)) w := by
  have Y : ∀ w', Fr [] w w' → w'.heap[y]? = some (.cells (cfV cf).toArray 23 (0, 0)) := fun w' hf => hf.at_ hy (by simp)
  have ly := qac hy
  obtain ⟨⟨p1, p2⟩, ⟨t1, t2⟩, ck, sk⟩ := hc
  obtain ⟨np, hnp⟩ := Int.eq_ofNat_of_zero_le (show 0 ≤ cf.pages by omega)
  obtain ⟨nt, hnt⟩ := Int.eq_ofNat_of_zero_le (show 0 ≤ cf.threads by omega)
  refine F41.k4.to (C.a4 (fun w' => w'.heap[y]? = some (.cells (cfV cf).toArray 23 (0, 0))) fun w1 hf1 _ => ⟨Y w1 hf1, ?_⟩)
  try simp only [C.af, Nat.zero_add]
  refine C.an (v := .int .i64 cf.pages) (fun w' hw => ⟨_, _, _, hw, rfl⟩) (C.an (v := .int .i64 cf.threads) (fun w' hw => ⟨_, _, _, hw, rfl⟩) ?_)
  try simp only [C.a6]
  refine C.an (v := .int .i64 cf.stack) (fun w' hw => ⟨_, _, _, hw, rfl⟩) (C.bn (vs := cfV cf) (fun w' hw => ⟨_, _, _, hw, by simp [cfV], rfl⟩) ?_)
  rw [qaa (n := cf.threads + 1) (by omega), hnp]
  have s1 := hf1.size
  refine ⟨qw5 (n := np) (nt := cf.threads + 1) (by omega) (by omega) (by omega) (hT.keep hf1 (by simp)) (by omega) fun D w2 hf2 hD2 h2 => ⟨hf2.at_ (Y w1 hf1) (by simp), ?_⟩, trivial⟩
  have s2 := hf2.size
  refine ⟨qwm sk.1 sk.2 fun G w3 hf3 nd3 hG3 h3 => ?_, trivial⟩
  have s3 := hf3.size
  have f3 := (hf1.trans hf2).trans hf3
  refine ⟨Y w3 f3, ⟨_, fun w' _ => qyt D.st G.gr, ⟨_, fun w' _ => bCo D.st G.gr cf, C.av fun co w4 hn4 => ⟨Y w4 (f3.trans hn4.fr), ?_⟩, trivial⟩⟩⟩
  have l4 := hn4.is
  have s4 := hn4.fr.size
  have z4 := qac hn4.at_
  have f4 := f3.trans hn4.fr
  refine C.a4 (fun w' => w'.heap[y]? = some (.cells (cfV cf).toArray 23 (0, 0))) fun w5 hf5 _ => ⟨Y w5 (f4.trans hf5), ?_⟩
  have s5 := hf5.size
  have f5 := f4.trans hf5
  try simp only [C.af, C.ag, Nat.zero_add]
  refine C.an (v := .int .i64 cf.threads) (fun w' hw => ⟨_, _, _, hw, rfl⟩) (C.an (v := .int .i64 cf.threads) (fun w' hw => ⟨_, _, _, hw, rfl⟩) ?_)
  rw [hnt]
  refine ⟨qwj (n := nt) (by omega) fun re rv w6 hf6 hr6 hr6' hv6 h6 => ⟨Y w6 (f5.trans hf6), ?_⟩, trivial⟩
  have s6 := hf6.size
  refine ⟨qwk (n := nt) (by omega) fun bu bv w7 hf7 hb7 hb7' hv7 h7 => ⟨Y w7 ((f5.trans hf6).trans hf7), ?_⟩, trivial⟩
  have s7 := hf7.size
  have f7 := (f5.trans hf6).trans hf7
  have c7 := ((hf5.trans hf6).trans hf7).at_ hn4.at_ (by simp)
  refine ⟨C.bb c7 rfl rfl (by simp [Value.cells, coV]) fun w8 hu8 => ⟨?_, ?_⟩, trivial⟩
  · exact hu8.fr.at_ (Y w7 f7) (by simp; omega)
  refine ⟨C.bb hu8.at_ rfl rfl (by simp [Value.cells, coV]) fun w9 hu9 => ⟨?_, ?_⟩, trivial⟩
  · exact hu9.fr.at_ (hu8.fr.at_ (Y w7 f7) (by simp; omega)) (by simp; omega)
  have Y9 := hu9.fr.at_ (hu8.fr.at_ (Y w7 f7) (by simp; omega)) (by simp; omega)
  have c9 : w9.heap[co]? = some (.cells #[.pointer (some ⟨D.st, 0, none⟩), .pointer (some ⟨G.gr, 0, none⟩), .int .i64 cf.pages, .int .i64 cf.threads, .int .i64 cf.window, .int .i64 cf.quantum, .int .i64 cf.target, .int .i64 cf.cap, .int .i64 cf.tax, .int .i64 cf.chunk, .int .i64 cf.stack, .int .i64 cf.trigger, .pointer (some ⟨re, 0, none⟩), .pointer (some ⟨bu, 0, none⟩), .pointer none, .pointer none, .slice none 0 0, .slice none 0 0, .slice none 0 0, .slice none 0 0, .slice none 0 0, .slice none 0 0, .slice none 0 0, .slice none 0 0, .int .i64 0, .int .i64 0, .int .i64 0, .int .i64 0] 132 (0, 0)) := hu9.at_
  have f79 : Fr [co] w7 w9 := hu8.fr.trans hu9.fr
  have s9 := f79.size
  refine C.a4 (fun w' => w'.heap[y]? = some (.cells (cfV cf).toArray 23 (0, 0)) ∧ ∃ cs : Array Value, w'.heap[co]? = some (.cells cs 132 (0, 0)) ∧ cs[0]? = some (.pointer (some ⟨D.st, 0, none⟩)) ∧ cs[1]? = some (.pointer (some ⟨G.gr, 0, none⟩))) fun w10 hf10 _ => ⟨⟨hf10.at_ Y9 (by simp), _, hf10.at_ c9 (by simp), rfl, rfl⟩, ?_⟩
  have s10 := hf10.size
  refine C.an (v := .pointer (some ⟨D.st, 0, none⟩)) (fun w' hw => by obtain ⟨_, cs, a, b, _⟩ := hw; exact ⟨cs, _, _, a, b⟩) ?_
  refine C.an (v := .pointer (some ⟨G.gr, 0, none⟩)) (fun w' hw => by obtain ⟨_, cs, a, _, b⟩ := hw; exact ⟨cs, _, _, a, b⟩) ?_
  refine C.an (v := .int .i64 cf.pages) (fun w' hw => ⟨_, _, _, hw.1, rfl⟩) (C.an (v := .int .i64 cf.chunk) (fun w' hw => ⟨_, _, _, hw.1, rfl⟩) ?_)
  refine C.an (v := .pointer (some ⟨D.st, 0, none⟩)) (fun w' hw => by obtain ⟨_, cs, a, b, _⟩ := hw; exact ⟨cs, _, _, a, b⟩) (C.an (v := .pointer (some ⟨G.gr, 0, none⟩)) (fun w' hw => by obtain ⟨_, cs, a, _, b⟩ := hw; exact ⟨cs, _, _, a, b⟩) (C.an (v := .int .i64 cf.pages) (fun w' hw => ⟨_, _, _, hw.1, rfl⟩) ?_))
  refine ⟨qxb ⟨p1, p2⟩ ck fun tr w11 hn11 => ⟨⟨hn11.fr.at_ (hf10.at_ Y9 (by simp)) (by simp), _, hn11.fr.at_ (hf10.at_ c9 (by simp)) (by simp), rfl, rfl⟩, ?_⟩, trivial⟩
  have l11 := hn11.is
  have s11 := hn11.fr.size
  have z11 := qac hn11.at_
  refine ⟨qxh ⟨p1, p2⟩ fun sw w12 hn12 => ?_, trivial⟩
  have l12 := hn12.is
  have s12 := hn12.fr.size
  have z12 := qac hn12.at_
  have f9c := (hf10.trans hn11.fr).trans hn12.fr
  have Y12 := f9c.at_ Y9 (by simp)
  have c12 := f9c.at_ c9 (by simp)
  refine ⟨⟨Y12, _, c12, rfl, rfl⟩, ?_⟩
  refine ⟨C.bb c12 rfl rfl (by simp) fun w13 hu13 => ⟨⟨hu13.fr.at_ Y12 (by simp; omega), _, hu13.at_, rfl, rfl⟩, ?_⟩, trivial⟩
  refine ⟨C.bb hu13.at_ rfl rfl (by simp) fun w14 hu14 => ⟨⟨hu14.fr.at_ (hu13.fr.at_ Y12 (by simp; omega)) (by simp; omega), _, hu14.at_, rfl, rfl⟩, ?_⟩, trivial⟩
  have Y14 := hu14.fr.at_ (hu13.fr.at_ Y12 (by simp; omega)) (by simp; omega)
  have c14 : w14.heap[co]? = some (.cells #[.pointer (some ⟨D.st, 0, none⟩), .pointer (some ⟨G.gr, 0, none⟩), .int .i64 cf.pages, .int .i64 cf.threads, .int .i64 cf.window, .int .i64 cf.quantum, .int .i64 cf.target, .int .i64 cf.cap, .int .i64 cf.tax, .int .i64 cf.chunk, .int .i64 cf.stack, .int .i64 cf.trigger, .pointer (some ⟨re, 0, none⟩), .pointer (some ⟨bu, 0, none⟩), .pointer (some ⟨tr, 0, none⟩), .pointer (some ⟨sw, 0, none⟩), .slice none 0 0, .slice none 0 0, .slice none 0 0, .slice none 0 0, .slice none 0 0, .slice none 0 0, .slice none 0 0, .slice none 0 0, .int .i64 0, .int .i64 0, .int .i64 0, .int .i64 0] 132 (0, 0)) := hu14.at_
  have fce : Fr [co] w12 w14 := hu13.fr.trans hu14.fr
  have s14 := fce.size
  refine C.a4 (fun w' => w'.heap[y]? = some (.cells (cfV cf).toArray 23 (0, 0)) ∧ ∃ cs : Array Value, w'.heap[co]? = some (.cells cs 132 (0, 0)) ∧ cs[0]? = some (.pointer (some ⟨D.st, 0, none⟩))) fun w15 hf15 _ => ⟨⟨hf15.at_ Y14 (by simp), _, hf15.at_ c14 (by simp), rfl⟩, ?_⟩
  have s15 := hf15.size
  refine C.an (v := .pointer (some ⟨D.st, 0, none⟩)) (fun w' hw => by obtain ⟨_, cs, a, b⟩ := hw; exact ⟨cs, _, _, a, b⟩) (C.an (v := .int .i64 cf.threads) (fun w' hw => ⟨_, _, _, hw.1, rfl⟩) ?_)
  have nco : ∀ x ∈ D.all, x ≠ co := fun x hx => by rcases hD2 x hx with e | e <;> omega
  have h14 : qar D np (cf.threads + 1) w15 ⟨Ce.new np, fun _ => none, 0⟩ := ((((h2.keep0 ((((hf3.trans hn4.fr).trans hf5).trans hf6).trans hf7)).keep f79 (fun x hx => by simpa using nco x hx)).keep0 f9c).keep fce (fun x hx => by simpa using nco x hx)).keep0 hf15
  refine ⟨qnt h14 fun w16 hf16 h16 => ?_, trivial⟩
  have s16 := hf16.size
  have nD : ∀ x, w2.heap.size ≤ x → x ∉ D.S := fun x hx e => by rcases hD2 x (D.sub x e) with e' | e' <;> omega
  have nDy : y ∉ D.S := fun e => by
    rcases hD2 y (D.sub y e) with e' | e'
    · exact h14.ok.z (e' ▸ by have := D.subT y e; simpa [Sad.all] using this)
    · omega
  have c15 := hf15.at_ c14 (by simp)
  have c16 := hf16.at_ c15 (nD co (by omega))
  refine ⟨⟨hf16.at_ (hf15.at_ Y14 (by simp)) nDy, _, c16, rfl⟩, ?_⟩
  try simp only [C.a7, C.a8]
  refine ⟨C.bb c16 rfl rfl (by simp) fun w17 hu17 => ⟨⟨hu17.fr.at_ (hf16.at_ (hf15.at_ Y14 (by simp)) nDy) (by simp; omega), _, hu17.at_, rfl⟩, ?_⟩, trivial⟩
  have s17 := hu17.fr.size
  generalize hr : St.slow np (cf.threads + 1) ⟨Ce.new np, fun _ => none, 0⟩ cf.threads 4 = r at *
  have en : Co.new cf = ⟨r.1, ⟨[], false, fun _ => false⟩, ⟨0, List.replicate nt (false, 0)⟩, List.replicate nt [], -1, cf.pages, 0, List.replicate 8 [], r.2.1, 0, 0, 0⟩ := by
    have e1 : cf.pages.toNat = np := by omega
    have e2 : cf.threads.toNat = nt := by omega
    unfold Co.new
    simp only [e1, e2]
    rw [show Ce.new cf.pages = Ce.new (np : Int) by rw [hnp], hr]
  have nz : ∀ x ∈ D.S, w1.heap.size ≤ x ∧ x < w2.heap.size := fun x hx => by
    rcases hD2 x (D.sub x hx) with e | e
    · exact absurd (e ▸ (by have := D.subT x hx; simpa [Sad.all] using this) : (0 : Nat) ∈ D.st :: D.ob :: D.om :: D.A.all) h14.ok.z
    · exact e
  have one : ∀ {a b : World}, Fr [co] a b → Fr (co :: D.S) a b := fun h => h.mono fun x hx => by simp only [List.mem_singleton] at hx; simp [hx]
  have tl : ∀ {a b : World}, Fr D.S a b → Fr (co :: D.S) a b := fun h => h.mono fun x hx => by simp [hx]
  have fc7 : Fr (co :: D.S) w12 w17 := (((one fce).trans hf15.w).trans (tl hf16)).trans (one hu17.fr)
  have f7e : Fr (co :: D.S) w7 w17 := ((one f79).trans f9c.w).trans fc7
  have f11e : Fr (co :: D.S) w11 w17 := hn12.fr.w.trans fc7
  have f3e : Fr (co :: D.S) w3 w17 := ((((hn4.fr.trans hf5).trans hf6).trans hf7).w).trans f7e
  have fT : Fr [] w w17 := f7.then f7e (fun x hx => by
    simp only [List.mem_cons] at hx
    rcases hx with e | e
    · exact .inr (by omega)
    · exact .inr (by have := nz x e; omega))
  have nD2 : ∀ x, w2.heap.size ≤ x → x ∉ D.all := fun x hx e => by rcases hD2 x e with e' | e' <;> omega
  have gx : ∀ x ∈ [G.gr, G.wa, G.sk, G.mb], x ∉ co :: D.S := fun x hx e => by
    have := hG3 x hx
    simp only [List.mem_cons] at e
    rcases e with e | e
    · omega
    · have := nz x e; omega
  have frng : ∀ x ∈ [co, re, bu] ++ (qab rv ++ qab bv) ++ [tr, sw] , w3.heap.size ≤ x ∧ x < w17.heap.size := fun x hx => by
    simp only [List.mem_append, List.mem_cons, List.not_mem_nil, or_false] at hx
    rcases hx with ((e | e | e) | (e | e)) | (e | e)
    · omega
    · omega
    · omega
    · have := hv6 x e; omega
    · have := hv7 x e; omega
    · omega
    · omega
  have nx7 : ∀ x, w4.heap.size ≤ x → x ∉ co :: D.S := fun x hx e => by
    simp only [List.mem_cons] at e
    rcases e with e | e
    · omega
    · have := nz x e; omega
  rw [en] at hk
  have c17 := hu17.at_
  refine hk ⟨⟨D, G, tr, sw, w17.heap.size⟩, co, re, bu, rv, bv⟩ ⟨.slice none 0 0, List.replicate nt (.slice none 0 0), List.replicate 8 (.slice none 0 0)⟩ w17 fT ?_ ?_ ?_
  · simp [Mv.all, qbb, qab, Value.ownBlock]
  · intro x hx
    simp only [Kad.fix, Had.fix, List.mem_append, List.mem_cons, List.not_mem_nil, or_false] at hx
    rcases hx with (e | e | e | e | e) | (e | e | e | e | e | e) | e
    · exact .inr (by omega)
    · exact .inr (by omega)
    · exact .inr (by omega)
    · exact .inr (by have := hv6 x e; omega)
    · exact .inr (by have := hv7 x e; omega)
    · exact .inr (by omega)
    · exact .inr (by omega)
    · exact .inr (by have := hG3 x (by simp [e]); omega)
    · exact .inr (by have := hG3 x (by simp [e]); omega)
    · exact .inr (by have := hG3 x (by simp [e]); omega)
    · exact .inr (by have := hG3 x (by simp [e]); omega)
    · rcases hD2 x e with e' | e'
      · exact .inl e'
      · exact .inr (by omega)
  · have hNof : ∀ n, qbb (List.replicate n (Value.slice none 0 0)) = [] := fun n => by simp [qbb, qab, Value.ownBlock]
    have stF := h16.keep hu17.fr (fun x hx => by simpa using nco x hx)
    have gyF : qa0 G (.slice none 0 0) cf.stack w17 ⟨[], false, fun _ => false⟩ := h3.keep f3e (fun x hx => gx x (by
      simp only [Gad.all, Gad.S, qab, Value.ownBlock, List.mem_cons, List.not_mem_nil, or_false] at hx
      simp only [List.mem_cons, List.not_mem_nil, or_false]
      omega))
    have hNd : ∀ x ∈ [tr, sw, G.gr, G.wa, G.sk, G.mb], x ∉ D.all := fun x hx => nD2 x (by
      simp only [List.mem_cons, List.not_mem_nil, or_false] at hx
      rcases hx with e | e | e | e | e | e
      · omega
      · omega
      all_goals have := hG3 x (by simp [e]); omega)
    have hG4 := hG3
    refine ⟨⟨fun x hx => ?_, fun x hx => ?_⟩, ⟨⟨?_, hNd, fun x hx => ?_⟩, ?_, gyF, ?_, ?_, by simp [qab, Value.ownBlock], Nat.le_refl _, ⟨p1, p2⟩, ck⟩, ⟨_, c17, rfl, rfl, rfl, rfl, rfl, rfl, rfl, fun j hj => ?_, rfl, rfl, rfl, rfl⟩, ?_, ?_, ⟨by simp, fun i a b => ?_, fun i j a b _ x hx => ?_⟩, by simp, fun l hl => ?_, ?_, ?_⟩
    · have hx' : w3.heap.size ≤ x ∧ x < w7.heap.size := by
        simp only [Kad.fix, List.mem_append, List.mem_cons] at hx
        rcases hx with e | e | e | e | e
        · omega
        · omega
        · omega
        · have := hv6 x e; omega
        · have := hv7 x e; omega
      intro e
      simp only [Had.fix, List.mem_append, List.mem_cons, List.not_mem_nil, or_false] at e
      rcases e with (e | e | e | e | e | e) | e
      · omega
      · omega
      · have := hG3 x (by simp [e]); omega
      · have := hG3 x (by simp [e]); omega
      · have := hG3 x (by simp [e]); omega
      · have := hG3 x (by simp [e]); omega
      · exact nD2 x (by omega) e
    · simp only [Kad.fix, List.mem_append, List.mem_cons] at hx
      simp only
      rcases hx with e | e | e | e | e
      · omega
      · omega
      · omega
      · have := hv6 x e; omega
      · have := hv7 x e; omega
    · have q1 := hG3 G.gr (by simp)
      have q2 := hG3 G.wa (by simp)
      have q3 := hG3 G.sk (by simp)
      have q4 := hG3 G.mb (by simp)
      simp only [Had.fix]
      rw [List.nodup_cons, List.nodup_cons]
      refine ⟨?_, ?_, nd3⟩
      · simp only [List.mem_cons, List.not_mem_nil, or_false]; omega
      · simp only [List.mem_cons, List.not_mem_nil, or_false]; omega
    · simp only [Had.fix, List.mem_append, List.mem_cons, List.not_mem_nil, or_false] at hx
      simp only
      rcases hx with (e | e | e | e | e | e) | e
      · omega
      · omega
      · have := hG3 x (by simp [e]); omega
      · have := hG3 x (by simp [e]); omega
      · have := hG3 x (by simp [e]); omega
      · have := hG3 x (by simp [e]); omega
      · rcases hD2 x e with e' | e' <;> omega
    · have e1 : cf.pages.toNat = np := by omega
      rw [e1]; exact stF
    · exact f11e.at_ hn11.at_ (nx7 tr (by omega))
    · exact fc7.at_ hn12.at_ (nx7 sw (by omega))
    · have : j = 0 ∨ j = 1 ∨ j = 2 ∨ j = 3 ∨ j = 4 ∨ j = 5 ∨ j = 6 ∨ j = 7 := by omega
      rcases this with h | h | h | h | h | h | h | h <;> subst h <;> rfl
    · exact h6.keep (hf7.w.trans f7e) (nx7 _ (by omega)) (fun x hx => nx7 x (by have := hv6 x hx; omega))
    · exact h7.keep f7e (nx7 _ (by omega)) (fun x hx => nx7 x (by have := hv7 x hx; omega)) (by rw [hNof]; simp)
    · have e1 : (List.replicate 8 (Value.slice none 0 0))[i] = .slice none 0 0 := List.getElem_replicate _
      have e2 : ((List.replicate 8 ([] : List V2)).map vaC)[i] = [] := by rw [List.getElem_map, List.getElem_replicate]; rfl
      rw [e1, e2]; exact qad.nil _ _ _
    · have e1 : (List.replicate 8 (Value.slice none 0 0))[i] = .slice none 0 0 := List.getElem_replicate _
      rw [e1] at hx
      simp [qab, Value.ownBlock] at hx
    · rw [List.eq_of_mem_replicate hl]; simp
    · simp only; rw [hNof]; simp
    · simp only; rw [hNof]; simp
end
section
variable {K : VK} {w : World}
theorem qs4 (a b : Int) (A : Option Addr) (n c : Nat) : (Instr.build 141 #[(0, .int .i64 a), (1, .int .i64 b), (2, .slice A n c)]).run Tryz.prog w = .ok (.agg #[.int .i64 a, .int .i64 b, .slice A n c]) w := by kernel_rfl
theorem qsh (T : Nat) (hT : T ≤ 8) (win most : Int) (hw : 1 ≤ win ∧ win ≤ 64) (hm : 0 ≤ most ∧ most ≤ win) (h : ∀ g bb w', Fr [] w w' → w.heap.size ≤ g → w.heap.size ≤ bb → Led w' g bb T win most (fun _ => .slice none 0 0) (fun _ => []) → K (.pointer (some ⟨g, 0, none⟩)) w') :
    C.q Tryz.prog 42 #[.int .i64 (T : Int), .int .i64 win, .int .i64 most] w K := by
  refine F42.sh (qdm _ _ _ ?_)
  rw [show qa8 win 1 64 = win by unfold qa8; omega]
  refine qdm _ _ _ ?_
  rw [show qa8 most 0 win = most by unfold qa8; omega]
  refine qdm _ _ _ ?_
  rw [show qa8 (T : Int) 0 8 = T by unfold qa8; omega]
  refine C.ca (e := 231) (sz := 3) (bytes := 40) (z := .agg #[.slice none 0 0, .int .i64 0, .int .i64 0]) T Tryz.underlying139 (by kernel_rfl) rfl (by decide) (by intro u hu; simp only [Value.cells, List.mem_cons, List.not_mem_nil, or_false] at hu; rcases hu with rfl | rfl | rfl <;> rfl) (by omega) (by omega) fun bb w1 hn1 ho1 => ?_
  refine C.a5 (qs4 _ _ _ _ _) (C.av fun g w2 hn2 => ?_)
  have lb := qac hn1.at_
  refine h g bb w2 (hn1.fr.trans hn2.fr) (by have := hn2.is; have := hn1.fr.size; omega) (by have := hn1.is; omega) ⟨hn2.at_, ⟨_, hn2.fr.at_ hn1.at_ (by simp), ?_, fun t ht => ?_⟩, fun t _ => qad.nil _ _ _, by have := hn2.is; omega, by simp [qab, Value.ownBlock], by simp [qab, Value.ownBlock]⟩
  · simp [size_madeCells]
  · have e : ∀ k, k < 3 → (madeCells #[.slice none 0 0, .int .i64 0, .int .i64 0] (T * 3))[t * 3 + k]? = (#[.slice none 0 0, .int .i64 0, .int .i64 0] : Array Value)[k]? := fun k hk => by
      unfold madeCells
      rw [Array.getElem?_map, Array.getElem?_range, if_pos (by omega)]
      simp only [Option.map_some]
      have : (t * 3 + k) % (#[.slice none 0 0, .int .i64 0, .int .i64 0] : Array Value).size = k := by
        show (t * 3 + k) % 3 = k
        omega
      rw [this]
      match k, hk with
      | 0, _ => rfl
      | 1, _ => rfl
      | 2, _ => rfl
    exact ⟨e 0 (by omega), ⟨0, e 1 (by omega)⟩, ⟨0, e 2 (by omega)⟩⟩
end
section
variable {K : VK} {w : World} {A : Mad} {g : Gw} {cf : Cf} {B : Int} {x : Ma}
def Ma.lives (cf : Cf) (x : Ma) : List Int := ((List.range cf.threads.toNat).filter fun t : Nat => x.co.r.live (t : Int)).map Int.ofNat
theorem qpz {W : World} (h0 : qae A g cf B W x) {n : Nat} (hn : cf.threads = (n : Int)) (hk : ∀ v w', Fr [] W w' → qal W v → qad w' v 3 1 (qaf (x.lives cf)) → K v w') :
    ∀ (d i : Nat) (w : World) (v : Value), i + d = n → Fr [] W w → qal W v → qad w v 3 1 (qaf (((List.range i).filter fun t : Nat => x.co.r.live (t : Int)).map Int.ofNat)) →
      F19.l5 K (.pointer (some ⟨A.ma, 0, none⟩)) v (.int .i64 (n : Int)) (.int .i64 (i : Int)) w := by
  have hth := h0.fine.th
  intro d
  induction d with
  | zero =>
    intro i w v hi hf hn' hv
    have e : i = n := by omega
    subst e
    refine F19.l5.to ?_
    simp only [C.ac, C.au, decide_false, show ¬ ((i : Int) < (i : Int)) by omega]
    refine F19.k10.to (hk v w hf hn' ?_)
    unfold Ma.lives
    rw [hn, Int.toNat_natCast]; exact hv
  | succ d ih =>
    intro i w v hi hf hn' hv
    have h := h0.keep0 hf
    refine F19.l5.to ?_
    simp only [C.ah, C.au, decide_true, show (i : Int) < (n : Int) by omega]
    refine F19.k6.to ?_
    try simp only [C.af, C.ag, Nat.zero_add]
    refine C.ae (v := .pointer (some ⟨A.Q.co, 0, none⟩)) h.blk rfl (qcv h.co ?_)
    have hl : (((List.range i).filter fun t : Nat => x.co.r.live (t : Int)).map Int.ofNat).length ≤ 8 := by
      rw [List.length_map]
      exact Nat.le_trans (List.length_filter_le _ _) (by rw [List.length_range]; omega)
    have e1 : List.map Int.ofNat ((List.range (i + 1)).filter fun t : Nat => x.co.r.live (t : Int)) = ((List.range i).filter fun t : Nat => x.co.r.live (t : Int)).map Int.ofNat ++ if x.co.r.live (i : Int) then [(i : Int)] else [] := by
      rw [List.range_succ, List.filter_append, List.map_append]
      congr 1
      rw [List.filter_cons]
      cases x.co.r.live (i : Int) <;> simp
    have step : ∀ w' v', Fr [] W w' → qal W v' → qad w' v' 3 1 (qaf (((List.range (i + 1)).filter fun t : Nat => x.co.r.live (t : Int)).map Int.ofNat)) → F19.k9 K (.pointer (some ⟨A.ma, 0, none⟩)) v' (.int .i64 (n : Int)) (.int .i64 (i : Int)) w' := fun w' v' hf' hn'' hv' => by
      refine F19.k9.to ?_
      try simp only [C.a6]
      rw [qaa (n := (i : Int) + 1) (by omega)]
      exact ih (i + 1) w' v' (by omega) hf' hn'' hv'
    rw [e1] at step
    cases z : x.co.r.live (i : Int) with
    | true =>
      rw [z] at step
      simp only [C.ah]
      exact C.cq hf hn' hv (by omega) fun v' w' hf' hn'' ho _ _ => step w' v' hf' hn'' (by simpa using ho)
    | false =>
      rw [z] at step
      simp only [C.ac]
      exact step w v hf hn' (by simpa using hv)
theorem qjq (h : qae A g cf B w x) (hk : ∀ v w', Fr [] w w' → qal w v → qad w' v 3 1 (qaf (x.lives cf)) → K v w') : C.q Tryz.prog 19 #[.pointer (some ⟨A.ma, 0, none⟩)] w K := by
  have hth := h.fine.th
  obtain ⟨n, hn⟩ := Int.eq_ofNat_of_zero_le (show 0 ≤ cf.threads by omega)
  refine F19.sh (qk5 h ?_)
  try simp only [C.ac, C.aq, Bool.not_true]
  refine F19.k3.to ?_
  try simp only [C.af, C.ag, Nat.zero_add]
  refine C.ae (v := .int .i64 cf.threads) h.blk rfl ?_
  rw [hn]
  exact qpz (W := w) h hn hk n 0 w _ (by omega) (Fr.refl _ _) (qal.nil _) (qad.nil _ _ _)
end
end Go.Proofs.YtcakfaakbpdklaaGreatDoorV
namespace Go.Proofs.YtcakfaakbpdklaaGreatDoorV
open Go Go.Proofs
set_option linter.unusedVariables false
set_option maxRecDepth 100000
noncomputable section
variable {K : VK} {w : World} {x0 x1 y0 y1 y2 y5 y6 y7 y9 y10 y11 y12 y13 y14 y15 y16 y17 y18 : Value}
namespace F11
def ann : Ann := ⟨[(3, [])], [], [], [], none⟩
def code := cd Tryz.f11
def top := tp Tryz.f11
variable (K : VK) (w : World)
def k3 : Prop := nk ann 6 [] w [1, 1] code (top K)
attribute [irreducible] k3
end F11
theorem F11.k3.to (h : (K (.int .i64 0) w)) : F11.k3 K w := qq h
theorem F11.sh (h : (C.a3 (.cells (Value.cells x0) 23) w fun a b =>
 C.ao 10 a b fun c d =>
 C.q Tryz.prog 36 #[c] d fun f g =>
 C.aj .neq f (.int .i64 0) g fun i j =>
 C.am i (K (.int .i64 6) j) (F11.k3 K j))) : C.q Tryz.prog 11 #[x0] w K := q9 (A := F11.ann) (args := [x0]) (qq h)

theorem F31.sh (h : (C.a3 (.cells #[.int .i64 0, .int .i64 0, .int .i64 0, .int .i64 0, .int .i64 0, .int .i64 0, .int .i64 0, .int .i64 0, .int .i64 0, .int .i64 0] 23) w fun a b =>
 C.ay Tryz.prog (Instr.build 23 #[(0, (.int .i64 16)), (1, (.int .i64 4)), (2, (.int .i64 20)), (3, (.int .i64 4)), (4, (.int .i64 700)), (5, (.int .i64 100)), (6, (.int .i64 4)), (7, (.int .i64 4)), (8, (.int .i64 16)), (9, (.int .i64 4))]) b fun c d =>
 C.ak 10 a c d fun f =>
 C.ao 10 a f fun r4 _ =>
 K r4 f)) : C.q Tryz.prog 31 #[] w K := q9 (A := A0) (args := []) (qq h)
namespace F36
def ann : Ann := ⟨[(3, [1, 5, 6]), (6, [1, 5, 6]), (7, [1]), (9, [])], [(2, [1, 5, 6])], [], [(4, (.take 0 (.take 4 (.take 6 (.take 9 (.take 1 (.take 2 (.take 3 (.take 5 (.take 7 (.take 10 (.take 11 (.take 12 (.go 8 (.take 13 .fin) .fin))))))))))))))], none⟩
def code := cd Tryz.f36
def top := tp Tryz.f36
variable (K : VK) (y1 y5 y6 : Value) (w : World)
def k7 : Prop := nk ann 37 [(1, y1)] w [1, 1] code (top K)
def l2 : Prop := nl ann 37 [(1, y1), (5, y5), (6, y6)] w [1, 0, 1, 0] code (top K)
def k3 : Prop := nk ann 37 [(1, y1), (5, y5), (6, y6)] w [1, 0, 1, 0, 0, 1, 1] code (top K)
def k6 : Prop := nk ann 37 [(1, y1), (5, y5), (6, y6)] w [1, 0, 1, 0, 0, 1, 1, 1] code (top K)
def k9 : Prop := nk ann 37 [] w [1, 1, 1] code (top K)
attribute [irreducible] k7 l2 k3 k6 k9
end F36
theorem F36.k7.to (h : (C.ab 2 y1 w fun a b =>
 C.ai a b fun c d =>
 C.ab 4 y1 d fun f g =>
 C.ai f g fun i j =>
 C.aj .sub (.int .i64 1000) i j fun k m =>
 C.aj .mul c k m fun o p =>
 C.ab 3 y1 p fun q r =>
 C.ai q r fun s t =>
 C.aj .mul (.int .i64 1000) s t fun u v =>
 C.aj .lss o u v fun x y =>
 C.am x (K (.int .i64 11) y) (F36.k9 K y))) : F36.k7 K y1 w := qq h
theorem F36.l2.to (h : (C.aj .lss y6 (.int .i64 10) w fun a b =>
 C.am a (F36.k3 K y1 y5 y6 b) (F36.k7 K y1 b))) : F36.l2 K y1 y5 y6 w := by unfold F36.l2 nl; exact qag (qq h)
theorem F36.k3.to (h : (C.ay Tryz.prog (Instr.index 112 y5 y6) w fun a b =>
 C.a3 (.cells #[.pointer none, .int .i64 0, .int .i64 0] 111) b fun c d =>
 C.ak 3 c a d fun f =>
 C.a9 f fun S g =>
 C.ab 0 c g fun i j =>
 C.ab 1 c j fun k m =>
 C.ab 2 c m fun o p =>
 C.ab 0 c p fun q r =>
 C.ap S i r fun s t =>
 C.ad s t fun u v =>
 C.ap S u v fun x y =>
 C.ap S k y fun z aa =>
 C.ap S o aa fun ab ac =>
 C.ap S q ac fun ad ae =>
 C.ad ad ae fun af ag =>
 C.ap S af ag fun ah ai =>
 (C.q Tryz.prog 66 #[x, z, ab] ai fun aj ak =>
 (S ak ∧
 C.aj .neq aj ah ak fun al am =>
 C.am al (C.aj .add y6 (.int .i64 1) am fun an ao =>
 K an ao) (F36.k6 K y1 y5 y6 am))) ∧ True)) : F36.k3 K y1 y5 y6 w := qq h
theorem F36.k6.to (h : (C.aj .add y6 (.int .i64 1) w fun a b =>
 F36.l2 K y1 y5 a b)) : F36.k6 K y1 y5 y6 w := qq h
theorem F36.k9.to (h : (K (.int .i64 0) w)) : F36.k9 K w := qq h
theorem F36.sh (h : (C.a3 (.cells (Value.cells x0) 23) w fun a b =>
 C.q Tryz.prog 65 #[a] b fun c d =>
 F36.l2 K a c (.int .i64 0) d)) : C.q Tryz.prog 36 #[x0] w K := q9 (A := F36.ann) (args := [x0]) (qq h)
namespace F43
def ann : Ann := ⟨[(3, [1])], [], [], [], none⟩
def code := cd Tryz.f43
def top := tp Tryz.f43
variable (K : VK) (y1 : Value) (w : World)
def k3 : Prop := nk ann 13 [(1, y1)] w [1, 1] code (top K)
attribute [irreducible] k3
end F43
theorem F43.k3.to (h : (C.ab 2 y1 w fun a b =>
 C.ai a b fun c d =>
 C.ab 4 y1 d fun f g =>
 C.ai f g fun i j =>
 C.aj .sub (.int .i64 1000) i j fun k m =>
 C.aj .mul c k m fun o p =>
 C.bi Tryz.prog .quo 3 (.tmp 11) (.const (.int .i64 1000)) o (.int .i64 1000) p fun q r =>
 K q r)) : F43.k3 K y1 w := qq h
theorem F43.sh (h : (C.a3 (.cells (Value.cells x0) 23) w fun a b =>
 C.ao 10 a b fun c d =>
 C.q Tryz.prog 36 #[c] d fun f g =>
 C.aj .neq f (.int .i64 0) g fun i j =>
 C.am i (K (.int .i64 0) j) (F43.k3 K a j))) : C.q Tryz.prog 43 #[x0] w K := q9 (A := F43.ann) (args := [x0]) (qq h)
namespace F65
def ann : Ann := ⟨[], [], [], [(1, (.take 0 (.take 1 (.take 2 (.take 4 (.take 5 (.take 6 (.take 8 (.take 9 (.take 10 (.take 12 (.take 13 (.take 14 (.take 16 (.take 17 (.take 18 (.take 20 (.take 21 (.take 22 (.take 24 (.take 25 (.take 26 (.take 28 (.take 29 (.take 30 (.take 32 (.take 33 (.take 34 (.take 36 (.take 37 (.take 38 (.take 3 (.take 7 (.take 11 (.take 15 (.take 19 (.take 23 (.take 27 (.take 31 (.take 35 (.take 39 (.take 40 (.go 41 .fin .fin)))))))))))))))))))))))))))))))))))))))))))], none⟩
end F65
theorem F65.sh (h : (C.a3 (.cells #[.pointer none, .int .i64 0, .int .i64 0, .pointer none, .int .i64 0, .int .i64 0, .pointer none, .int .i64 0, .int .i64 0, .pointer none, .int .i64 0, .int .i64 0, .pointer none, .int .i64 0, .int .i64 0, .pointer none, .int .i64 0, .int .i64 0, .pointer none, .int .i64 0, .int .i64 0, .pointer none, .int .i64 0, .int .i64 0, .pointer none, .int .i64 0, .int .i64 0, .pointer none, .int .i64 0, .int .i64 0] 112) w fun a b =>
 C.a9 b fun S c =>
 C.ad x0 c fun d f =>
 C.ab 0 d f fun g i =>
 C.ad x0 i fun j k =>
 C.ab 1 j k fun m o =>
 C.ad x0 o fun p q =>
 C.ab 2 p q fun r s =>
 C.ad x0 s fun t u =>
 C.ab 3 t u fun v x =>
 C.ad x0 x fun y z =>
 C.ab 4 y z fun aa ab =>
 C.ad x0 ab fun ac ad =>
 C.ab 5 ac ad fun ae af =>
 C.ad x0 af fun ag ah =>
 C.ab 6 ag ah fun ai aj =>
 C.ad x0 aj fun ak al =>
 C.ab 7 ak al fun am an =>
 C.ad x0 an fun ao ap =>
 C.ab 8 ao ap fun aq ar =>
 C.ad x0 ar fun au av =>
 C.ab 9 au av fun aw ax =>
 ∃ ay, (∀ w', S w' → (Instr.build 111 #[(0, g), (1, (.int .i64 2)), (2, (.int .i64 64))]).run Tryz.prog w' = .ok ay w') ∧ (∃ az, (∀ w', S w' → (Instr.build 111 #[(0, m), (1, (.int .i64 1)), (2, (.int .i64 8))]).run Tryz.prog w' = .ok az w') ∧ (∃ ba, (∀ w', S w' → (Instr.build 111 #[(0, r), (1, (.int .i64 1)), (2, (.int .i64 64))]).run Tryz.prog w' = .ok ba w') ∧ (∃ bb, (∀ w', S w' → (Instr.build 111 #[(0, v), (1, (.int .i64 1)), (2, (.int .i64 16))]).run Tryz.prog w' = .ok bb w') ∧ (∃ bc, (∀ w', S w' → (Instr.build 111 #[(0, aa), (1, (.int .i64 0)), (2, (.int .i64 1000))]).run Tryz.prog w' = .ok bc w') ∧ (∃ bd, (∀ w', S w' → (Instr.build 111 #[(0, ae), (1, (.int .i64 0)), (2, (.int .i64 65535))]).run Tryz.prog w' = .ok bd w') ∧ (∃ be, (∀ w', S w' → (Instr.build 111 #[(0, ai), (1, (.int .i64 0)), (2, (.int .i64 64))]).run Tryz.prog w' = .ok be w') ∧ (∃ bf, (∀ w', S w' → (Instr.build 111 #[(0, am), (1, (.int .i64 1)), (2, (.int .i64 16))]).run Tryz.prog w' = .ok bf w') ∧ (∃ bg, (∀ w', S w' → (Instr.build 111 #[(0, aq), (1, (.int .i64 1)), (2, (.int .i64 256))]).run Tryz.prog w' = .ok bg w') ∧ (∃ bh, (∀ w', S w' → (Instr.build 111 #[(0, aw), (1, (.int .i64 0)), (2, (.int .i64 64))]).run Tryz.prog w' = .ok bh w') ∧ (∃ bi, (∀ w', S w' → (Instr.build 112 #[(0, ay), (1, az), (2, ba), (3, bb), (4, bc), (5, bd), (6, be), (7, bf), (8, bg), (9, bh)]).run Tryz.prog w' = .ok bi w') ∧ ((C.ak 30 a bi ax fun bj =>
 (S bj ∧
 C.ao 30 a bj fun r35 _ =>
 K r35 bj)) ∧ True))))))))))))) : C.q Tryz.prog 65 #[x0] w K := q9 (A := F65.ann) (args := [x0]) (qq h)
namespace F4
def ann : Ann := ⟨[(3, [1, 2]), (7, [1, 5, 7]), (10, [1, 5, 7, 9]), (11, [1, 5, 7, 9]), (14, [1, 5, 7, 9, 10, 11, 12, 13]), (15, [1, 5, 7, 9, 10, 11, 12, 13]), (18, [1, 5, 7, 9, 10, 11, 12, 13, 14]), (19, [1, 5, 7, 9, 10, 11, 12, 13, 14]), (20, [1, 5, 7, 9, 10, 11, 12]), (22, [1, 5, 7, 9, 10, 11, 12, 15]), (23, [1, 5, 7, 9, 10, 11, 12, 15]), (25, [1, 5, 7, 9, 10, 11, 12, 15, 16]), (26, [1, 5, 7, 9, 10, 11, 12, 15, 16]), (27, [1, 5, 7, 9, 11, 12]), (29, [1, 5, 7, 9, 11, 12, 17]), (30, [1, 5, 7, 9, 11, 12, 17]), (31, [1, 5, 7, 9, 12]), (33, [1, 5, 7, 9, 12, 18]), (34, [1, 5, 7, 9, 12, 18]), (35, [1, 5, 7, 9]), (37, [5, 7])], [(9, [1, 5, 7, 9]), (13, [1, 5, 7, 9, 10, 11, 12, 13]), (17, [1, 5, 7, 9, 10, 11, 12, 13, 14]), (21, [1, 5, 7, 9, 10, 11, 12, 15]), (24, [1, 5, 7, 9, 10, 11, 12, 15, 16]), (28, [1, 5, 7, 9, 11, 12, 17]), (32, [1, 5, 7, 9, 12, 18])], [], [(35, (.take 0 (.take 1 (.take 2 (.take 3 (.take 6 (.take 7 (.take 8 (.take 9 (.take 4 (.take 10 (.go 5 (.go 11 (.take 12 .fin) .fin) .fin))))))))))))], none⟩
def code := cd Tryz.f4
def top := tp Tryz.f4
variable (K : VK) (y1 y2 y5 y7 y9 y10 y11 y12 y13 y14 y15 y16 y17 y18 : Value) (w : World)
def k3 : Prop := nk ann 161 [(1, y1), (2, y2)] w [1, 1] code (top K)
def k7 : Prop := nk ann 161 [(1, y1), (5, y5), (7, y7)] w [1, 1, 1, 1, 1] code (top K)
def k37 : Prop := nk ann 161 [(5, y5), (7, y7)] w [1, 1, 1, 1, 1, 1, 1] code (top K)
def l9 : Prop := nl ann 161 [(1, y1), (5, y5), (7, y7), (9, y9)] w [1, 1, 1, 1, 1, 1, 0, 1, 0] code (top K)
def k11 : Prop := nk ann 161 [(1, y1), (5, y5), (7, y7), (9, y9)] w [1, 1, 1, 1, 1, 1, 0, 1, 0, 0, 1] code (top K)
def k10 : Prop := nk ann 161 [(1, y1), (5, y5), (7, y7), (9, y9)] w [1, 1, 1, 1, 1, 1, 0, 1, 0, 0, 1, 1] code (top K)
def k20 : Prop := nk ann 161 [(1, y1), (5, y5), (7, y7), (9, y9), (10, y10), (11, y11), (12, y12)] w [1, 1, 1, 1, 1, 1, 0, 1, 0, 0, 1, 0, 0, 1, 1] code (top K)
def l13 : Prop := nl ann 161 [(1, y1), (5, y5), (7, y7), (9, y9), (10, y10), (11, y11), (12, y12), (13, y13)] w [1, 1, 1, 1, 1, 1, 0, 1, 0, 0, 1, 0, 0, 1, 0, 1, 0] code (top K)
def k15 : Prop := nk ann 161 [(1, y1), (5, y5), (7, y7), (9, y9), (10, y10), (11, y11), (12, y12), (13, y13)] w [1, 1, 1, 1, 1, 1, 0, 1, 0, 0, 1, 0, 0, 1, 0, 1, 0, 0, 1] code (top K)
def k14 : Prop := nk ann 161 [(1, y1), (5, y5), (7, y7), (9, y9), (10, y10), (11, y11), (12, y12), (13, y13)] w [1, 1, 1, 1, 1, 1, 0, 1, 0, 0, 1, 0, 0, 1, 0, 1, 0, 0, 1, 1] code (top K)
def l17 : Prop := nl ann 161 [(1, y1), (5, y5), (7, y7), (9, y9), (10, y10), (11, y11), (12, y12), (13, y13), (14, y14)] w [1, 1, 1, 1, 1, 1, 0, 1, 0, 0, 1, 0, 0, 1, 0, 1, 0, 0, 1, 0, 0, 1, 1, 0] code (top K)
def k19 : Prop := nk ann 161 [(1, y1), (5, y5), (7, y7), (9, y9), (10, y10), (11, y11), (12, y12), (13, y13), (14, y14)] w [1, 1, 1, 1, 1, 1, 0, 1, 0, 0, 1, 0, 0, 1, 0, 1, 0, 0, 1, 0, 0, 1, 1, 0, 0, 1] code (top K)
def k18 : Prop := nk ann 161 [(1, y1), (5, y5), (7, y7), (9, y9), (10, y10), (11, y11), (12, y12), (13, y13), (14, y14)] w [1, 1, 1, 1, 1, 1, 0, 1, 0, 0, 1, 0, 0, 1, 0, 1, 0, 0, 1, 0, 0, 1, 1, 0, 0, 1, 1] code (top K)
def k27 : Prop := nk ann 161 [(1, y1), (5, y5), (7, y7), (9, y9), (11, y11), (12, y12)] w [1, 1, 1, 1, 1, 1, 0, 1, 0, 0, 1, 0, 0, 1, 1, 1] code (top K)
def l21 : Prop := nl ann 161 [(1, y1), (5, y5), (7, y7), (9, y9), (10, y10), (11, y11), (12, y12), (15, y15)] w [1, 1, 1, 1, 1, 1, 0, 1, 0, 0, 1, 0, 0, 1, 1, 0, 1, 0] code (top K)
def k23 : Prop := nk ann 161 [(1, y1), (5, y5), (7, y7), (9, y9), (10, y10), (11, y11), (12, y12), (15, y15)] w [1, 1, 1, 1, 1, 1, 0, 1, 0, 0, 1, 0, 0, 1, 1, 0, 1, 0, 0, 1] code (top K)
def k22 : Prop := nk ann 161 [(1, y1), (5, y5), (7, y7), (9, y9), (10, y10), (11, y11), (12, y12), (15, y15)] w [1, 1, 1, 1, 1, 1, 0, 1, 0, 0, 1, 0, 0, 1, 1, 0, 1, 0, 0, 1, 1] code (top K)
def l24 : Prop := nl ann 161 [(1, y1), (5, y5), (7, y7), (9, y9), (10, y10), (11, y11), (12, y12), (15, y15), (16, y16)] w [1, 1, 1, 1, 1, 1, 0, 1, 0, 0, 1, 0, 0, 1, 1, 0, 1, 0, 0, 1, 0, 0, 1, 0] code (top K)
def k26 : Prop := nk ann 161 [(1, y1), (5, y5), (7, y7), (9, y9), (10, y10), (11, y11), (12, y12), (15, y15), (16, y16)] w [1, 1, 1, 1, 1, 1, 0, 1, 0, 0, 1, 0, 0, 1, 1, 0, 1, 0, 0, 1, 0, 0, 1, 0, 0, 1] code (top K)
def k25 : Prop := nk ann 161 [(1, y1), (5, y5), (7, y7), (9, y9), (10, y10), (11, y11), (12, y12), (15, y15), (16, y16)] w [1, 1, 1, 1, 1, 1, 0, 1, 0, 0, 1, 0, 0, 1, 1, 0, 1, 0, 0, 1, 0, 0, 1, 0, 0, 1, 1] code (top K)
def k31 : Prop := nk ann 161 [(1, y1), (5, y5), (7, y7), (9, y9), (12, y12)] w [1, 1, 1, 1, 1, 1, 0, 1, 0, 0, 1, 0, 0, 1, 1, 1, 1] code (top K)
def l28 : Prop := nl ann 161 [(1, y1), (5, y5), (7, y7), (9, y9), (11, y11), (12, y12), (17, y17)] w [1, 1, 1, 1, 1, 1, 0, 1, 0, 0, 1, 0, 0, 1, 1, 1, 0, 1, 0] code (top K)
def k30 : Prop := nk ann 161 [(1, y1), (5, y5), (7, y7), (9, y9), (11, y11), (12, y12), (17, y17)] w [1, 1, 1, 1, 1, 1, 0, 1, 0, 0, 1, 0, 0, 1, 1, 1, 0, 1, 0, 0, 1] code (top K)
def k29 : Prop := nk ann 161 [(1, y1), (5, y5), (7, y7), (9, y9), (11, y11), (12, y12), (17, y17)] w [1, 1, 1, 1, 1, 1, 0, 1, 0, 0, 1, 0, 0, 1, 1, 1, 0, 1, 0, 0, 1, 1] code (top K)
def k35 : Prop := nk ann 161 [(1, y1), (5, y5), (7, y7), (9, y9)] w [1, 1, 1, 1, 1, 1, 0, 1, 0, 0, 1, 0, 0, 1, 1, 1, 1, 1] code (top K)
def l32 : Prop := nl ann 161 [(1, y1), (5, y5), (7, y7), (9, y9), (12, y12), (18, y18)] w [1, 1, 1, 1, 1, 1, 0, 1, 0, 0, 1, 0, 0, 1, 1, 1, 1, 0, 1, 0] code (top K)
def k34 : Prop := nk ann 161 [(1, y1), (5, y5), (7, y7), (9, y9), (12, y12), (18, y18)] w [1, 1, 1, 1, 1, 1, 0, 1, 0, 0, 1, 0, 0, 1, 1, 1, 1, 0, 1, 0, 0, 1] code (top K)
def k33 : Prop := nk ann 161 [(1, y1), (5, y5), (7, y7), (9, y9), (12, y12), (18, y18)] w [1, 1, 1, 1, 1, 1, 0, 1, 0, 0, 1, 0, 0, 1, 1, 1, 1, 0, 1, 0, 0, 1, 1] code (top K)
attribute [irreducible] k3 k7 k37 l9 k11 k10 k20 l13 k15 k14 l17 k19 k18 k27 l21 k23 k22 l24 k26 k25 k31 l28 k30 k29 k35 l32 k34 k33
end F4
theorem F4.k3.to (h : (C.ao 10 y2 w fun a b =>
 C.q Tryz.prog 16 #[a] b fun c d =>
 C.a0 0 c d fun f g =>
 C.a0 1 c g fun i j =>
 C.ao 10 y2 j fun k m =>
 C.q Tryz.prog 16 #[k] m fun o p =>
 C.a0 0 o p fun q r =>
 C.a0 1 o r fun s t =>
 C.aj .neq i (.int .i64 0) t fun u v =>
 C.i false u (fun K => K s v) v fun x y =>
 C.i false u (fun K => C.aj .neq x (.int .i64 0) y K) y fun z aa =>
 C.a2 (some u) (some (.bool true)) (some z) aa fun ab ac =>
 C.am ab (C.ao 10 y2 ac fun ad ae =>
 C.q Tryz.prog 11 #[ad] ae fun af ag =>
 C.aj .neq af (.int .i64 0) ag fun ah ai =>
 K ah ai) (F4.k7 K y1 f q ac))) : F4.k3 K y1 y2 w := qq h
theorem F4.k7.to (h : (C.q Tryz.prog 8 #[y1] w fun a b =>
 F4.l9 K a y5 y7 (.int .i64 0) b)) : F4.k7 K y1 y5 y7 w := qq h
theorem F4.k37.to (h : (C.q Tryz.prog 17 #[y5] w fun a b =>
 C.q Tryz.prog 17 #[y7] b fun c d =>
 C.q Tryz.prog 14 #[a, c] d fun f g =>
 C.i true f (fun K => K y5 g) g fun i j =>
 C.i true f (fun K => C.q Tryz.prog 18 #[i] j K) j fun k m =>
 C.i true f (fun K => K y7 m) m fun o p =>
 C.i true f (fun K => C.q Tryz.prog 18 #[o] p K) p fun q r =>
 C.i true f (fun K => C.q Tryz.prog 21 #[k, q] r K) r fun s t =>
 C.a2 (some f) (some s) (some (.bool false)) t fun u v =>
 C.i true u (fun K => K y5 v) v fun x y =>
 C.i true u (fun K => C.q Tryz.prog 19 #[x] y K) y fun z aa =>
 C.i true u (fun K => K y7 aa) aa fun ab ac =>
 C.i true u (fun K => C.q Tryz.prog 19 #[ab] ac K) ac fun ad ae =>
 C.i true u (fun K => C.q Tryz.prog 22 #[z, ad] ae K) ae fun af ag =>
 C.a2 (some u) (some af) (some (.bool false)) ag fun ah ai =>
 K ah ai)) : F4.k37 K y5 y7 w := qq h
theorem F4.l9.to (h : (C.bk y1 w fun a b =>
 C.aj .lss y9 a b fun c d =>
 C.am c (F4.k11 K y1 y5 y7 y9 d) (F4.k37 K y5 y7 d))) : F4.l9 K y1 y5 y7 y9 w := by unfold F4.l9 nl; exact qag (qq h)
theorem F4.k11.to (h : (C.q Tryz.prog 17 #[y5] w fun a b =>
 C.q Tryz.prog 18 #[y5] b fun c d =>
 C.q Tryz.prog 19 #[y5] d fun f g =>
 C.a3 (.cells #[.slice none 0 0, .slice none 0 0] 46) g fun i j =>
 C.ak 2 i a j fun k =>
 F4.l13 K y1 y5 y7 y9 i c f (.int .i64 0) k)) : F4.k11 K y1 y5 y7 y9 w := qq h
theorem F4.k10.to (h : (C.aj .add y9 (.int .i64 1) w fun a b =>
 F4.l9 K y1 y5 y7 a b)) : F4.k10 K y1 y5 y7 y9 w := qq h
theorem F4.k20.to (h : (F4.l21 K y1 y5 y7 y9 y10 y11 y12 (.int .i64 0) w)) : F4.k20 K y1 y5 y7 y9 y10 y11 y12 w := qq h
theorem F4.l13.to (h : (C.ab 1 y10 w fun a b =>
 C.ai a b fun c d =>
 C.bk c d fun f g =>
 C.aj .lss y13 f g fun i j =>
 C.am i (F4.k15 K y1 y5 y7 y9 y10 y11 y12 y13 j) (F4.k20 K y1 y5 y7 y9 y10 y11 y12 j))) : F4.l13 K y1 y5 y7 y9 y10 y11 y12 y13 w := by unfold F4.l13 nl; exact qag (qq h)
theorem F4.k15.to (h : (C.ab 1 y10 w fun a b =>
 C.ai a b fun c d =>
 C.bj 2 c y13 d fun f g =>
 C.ab 0 f g fun i j =>
 C.ak 1 i (.int .i64 (-1)) j fun k =>
 F4.l17 K y1 y5 y7 y9 y10 y11 y12 y13 (.int .i64 0) k)) : F4.k15 K y1 y5 y7 y9 y10 y11 y12 y13 w := qq h
theorem F4.k14.to (h : (C.aj .add y13 (.int .i64 1) w fun a b =>
 F4.l13 K y1 y5 y7 y9 y10 y11 y12 a b)) : F4.k14 K y1 y5 y7 y9 y10 y11 y12 y13 w := qq h
theorem F4.l17.to (h : (C.ab 1 y10 w fun a b =>
 C.ai a b fun c d =>
 C.bj 2 c y13 d fun f g =>
 C.ab 1 f g fun i j =>
 C.ai i j fun k m =>
 C.bk k m fun o p =>
 C.aj .lss y14 o p fun q r =>
 C.am q (F4.k19 K y1 y5 y7 y9 y10 y11 y12 y13 y14 r) (F4.k14 K y1 y5 y7 y9 y10 y11 y12 y13 r))) : F4.l17 K y1 y5 y7 y9 y10 y11 y12 y13 y14 w := by unfold F4.l17 nl; exact qag (qq h)
theorem F4.k19.to (h : (C.ab 1 y10 w fun a b =>
 C.ai a b fun c d =>
 C.bj 2 c y13 d fun f g =>
 C.ab 1 f g fun i j =>
 C.ai i j fun k m =>
 C.ay Tryz.prog (Instr.build 60 #[(0, (.int .i64 9))]) m fun o p =>
 C.bj 2 k y14 p fun q r =>
 C.ak 2 q o r fun s =>
 F4.k18 K y1 y5 y7 y9 y10 y11 y12 y13 y14 s)) : F4.k19 K y1 y5 y7 y9 y10 y11 y12 y13 y14 w := qq h
theorem F4.k18.to (h : (C.aj .add y14 (.int .i64 1) w fun a b =>
 F4.l17 K y1 y5 y7 y9 y10 y11 y12 y13 a b)) : F4.k18 K y1 y5 y7 y9 y10 y11 y12 y13 y14 w := qq h
theorem F4.k27.to (h : (F4.l28 K y1 y5 y7 y9 y11 y12 (.int .i64 0) w)) : F4.k27 K y1 y5 y7 y9 y11 y12 w := qq h
theorem F4.l21.to (h : (C.ab 0 y10 w fun a b =>
 C.ai a b fun c d =>
 C.bk c d fun f g =>
 C.aj .lss y15 f g fun i j =>
 C.am i (F4.k23 K y1 y5 y7 y9 y10 y11 y12 y15 j) (F4.k27 K y1 y5 y7 y9 y11 y12 j))) : F4.l21 K y1 y5 y7 y9 y10 y11 y12 y15 w := by unfold F4.l21 nl; exact qag (qq h)
theorem F4.k23.to (h : (F4.l24 K y1 y5 y7 y9 y10 y11 y12 y15 (.int .i64 0) w)) : F4.k23 K y1 y5 y7 y9 y10 y11 y12 y15 w := qq h
theorem F4.k22.to (h : (C.aj .add y15 (.int .i64 1) w fun a b =>
 F4.l21 K y1 y5 y7 y9 y10 y11 y12 a b)) : F4.k22 K y1 y5 y7 y9 y10 y11 y12 y15 w := qq h
theorem F4.l24.to (h : (C.ab 0 y10 w fun a b =>
 C.ai a b fun c d =>
 C.bj 1 c y15 d fun f g =>
 C.ai f g fun i j =>
 C.bk i j fun k m =>
 C.aj .lss y16 k m fun o p =>
 C.am o (F4.k26 K y1 y5 y7 y9 y10 y11 y12 y15 y16 p) (F4.k22 K y1 y5 y7 y9 y10 y11 y12 y15 p))) : F4.l24 K y1 y5 y7 y9 y10 y11 y12 y15 y16 w := by unfold F4.l24 nl; exact qag (qq h)
theorem F4.k26.to (h : (C.ab 0 y10 w fun a b =>
 C.ai a b fun c d =>
 C.bj 1 c y15 d fun f g =>
 C.ai f g fun i j =>
 C.ay Tryz.prog (Instr.build 60 #[(0, (.int .i64 9))]) j fun k m =>
 C.bj 2 i y16 m fun o p =>
 C.ak 2 o k p fun q =>
 F4.k25 K y1 y5 y7 y9 y10 y11 y12 y15 y16 q)) : F4.k26 K y1 y5 y7 y9 y10 y11 y12 y15 y16 w := qq h
theorem F4.k25.to (h : (C.aj .add y16 (.int .i64 1) w fun a b =>
 F4.l24 K y1 y5 y7 y9 y10 y11 y12 y15 a b)) : F4.k25 K y1 y5 y7 y9 y10 y11 y12 y15 y16 w := qq h
theorem F4.k31.to (h : (F4.l32 K y1 y5 y7 y9 y12 (.int .i64 0) w)) : F4.k31 K y1 y5 y7 y9 y12 w := qq h
theorem F4.l28.to (h : (C.bk y11 w fun a b =>
 C.aj .lss y17 a b fun c d =>
 C.am c (F4.k30 K y1 y5 y7 y9 y11 y12 y17 d) (F4.k31 K y1 y5 y7 y9 y12 d))) : F4.l28 K y1 y5 y7 y9 y11 y12 y17 w := by unfold F4.l28 nl; exact qag (qq h)
theorem F4.k30.to (h : (C.bj 1 y11 y17 w fun a b =>
 C.ak 1 a (.int .i64 (-1)) b fun c =>
 F4.k29 K y1 y5 y7 y9 y11 y12 y17 c)) : F4.k30 K y1 y5 y7 y9 y11 y12 y17 w := qq h
theorem F4.k29.to (h : (C.aj .add y17 (.int .i64 1) w fun a b =>
 F4.l28 K y1 y5 y7 y9 y11 y12 a b)) : F4.k29 K y1 y5 y7 y9 y11 y12 y17 w := qq h
theorem F4.k35.to (h : (C.a9 w fun S a =>
 C.bj 7 y1 y9 a fun b c =>
 C.bj 7 y1 y9 c fun d f =>
 C.bm S 7 b f fun g i =>
 C.bm S 7 d i fun j k =>
 (C.q Tryz.prog 20 #[y5, g] k fun m o =>
 (S o ∧
 (C.q Tryz.prog 20 #[y7, j] o fun p q =>
 (S q ∧
 ∃ r, (∀ w', S w' → ((do eqGuard .neq 38 (.tmp 134) (.tmp 140) m p; binOp .neq 38 m p : Sem Value)).run Tryz.prog w' = .ok r w') ∧ (C.am r (K (.bool false) q) (F4.k10 K y1 y5 y7 y9 q)))) ∧ True)) ∧ True)) : F4.k35 K y1 y5 y7 y9 w := qq h
theorem F4.l32.to (h : (C.bk y12 w fun a b =>
 C.aj .lss y18 a b fun c d =>
 C.am c (F4.k34 K y1 y5 y7 y9 y12 y18 d) (F4.k35 K y1 y5 y7 y9 d))) : F4.l32 K y1 y5 y7 y9 y12 y18 w := by unfold F4.l32 nl; exact qag (qq h)
theorem F4.k34.to (h : (C.bj 1 y12 y18 w fun a b =>
 C.ak 1 a (.int .i64 (-1)) b fun c =>
 F4.k33 K y1 y5 y7 y9 y12 y18 c)) : F4.k34 K y1 y5 y7 y9 y12 y18 w := qq h
theorem F4.k33.to (h : (C.aj .add y18 (.int .i64 1) w fun a b =>
 F4.l32 K y1 y5 y7 y9 y12 a b)) : F4.k33 K y1 y5 y7 y9 y12 y18 w := qq h
theorem F4.sh (h : (C.a3 (.cells (Value.cells x0) 23) w fun a b =>
 C.q Tryz.prog 7 #[] b fun c d =>
 C.bg c d fun f g =>
 C.am f (K (.bool false) g) (F4.k3 K x1 a g))) : C.q Tryz.prog 4 #[x0, x1] w K := q9 (A := F4.ann) (args := [x0, x1]) (qq h)

theorem F7.sh (h : (C.q Tryz.prog 31 #[] w fun a b =>
 C.a3 (.cells #[.int .i64 0, .int .i64 0, .int .i64 0, .int .i64 0, .int .i64 0, .int .i64 0, .int .i64 0, .int .i64 0, .int .i64 0, .int .i64 0] 23) b fun c d =>
 C.ak 10 c a d fun f =>
 C.ao 10 c f fun g i =>
 C.ay Tryz.prog (Instr.build 40 #[(0, (.int .i64 1))]) i fun j k =>
 C.ay Tryz.prog (Instr.build 40 #[(0, (.int .i64 3)), (6, (.int .i64 2)), (5, (.int .i64 1))]) k fun m o =>
 C.ay Tryz.prog (Instr.build 40 #[(0, (.int .i64 17))]) o fun p q =>
 C.ay Tryz.prog (Instr.build 40 #[(0, (.int .i64 14))]) q fun r s =>
 C.ay Tryz.prog (Instr.build 40 #[(0, (.int .i64 14))]) s fun t u =>
 C.ay Tryz.prog (Instr.build 40 #[(0, (.int .i64 16)), (6, (.int .i64 64))]) u fun v x =>
 C.ay Tryz.prog (Instr.buildSlice 24 6 #[(0, j), (1, m), (2, p), (3, r), (4, t), (5, v)]) x fun y z =>
 C.q Tryz.prog 9 #[g, y] z fun aa ab =>
 C.a0 0 aa ab fun ac ad =>
 C.a0 1 aa ad fun ae af =>
 C.aj .eql ae (.int .i64 0) af fun ag ah =>
 C.i true ag (fun K => K ac ah) ah fun ai aj =>
 C.i true ag (fun K => C.bk ai aj K) aj fun ak al =>
 C.i true ag (fun K => C.aj .eql ak (.int .i64 6) al K) al fun am an =>
 C.a2 (some ag) (some am) (some (.bool false)) an fun ao ap =>
 C.i true ao (fun K => K ac ap) ap fun aq ar =>
 C.i true ao (fun K => C.bj 5 aq (.int .i64 1) ar K) ar fun au av =>
 C.i true ao (fun K => C.ao 5 au av K) av fun aw ax =>
 C.i true ao (fun K => C.ay Tryz.prog (Instr.build 38 #[(1, (.int .i64 2)), (2, (.int .i64 1))]) ax K) ax fun ay az =>
 C.i true ao (fun K => C.bi Tryz.prog .eql 38 (.tmp 27) (.tmp 28) aw ay az K) az fun ba bb =>
 C.a2 (some ao) (some ba) (some (.bool false)) bb fun bc bd =>
 C.i true bc (fun K => K ac bd) bd fun be bf =>
 C.i true bc (fun K => C.bj 5 be (.int .i64 5) bf K) bf fun bg bh =>
 C.i true bc (fun K => C.ab 0 bg bh K) bh fun bi bj =>
 C.i true bc (fun K => C.ai bi bj K) bj fun bk bl =>
 C.i true bc (fun K => C.aj .eql bk (.int .i64 0) bl K) bl fun bm bn =>
 C.a2 (some bc) (some bm) (some (.bool false)) bn fun bo bp =>
 C.i true bo (fun K => K ac bp) bp fun bq br =>
 C.i true bo (fun K => C.bj 5 bq (.int .i64 5) br K) br fun bs bt =>
 C.i true bo (fun K => C.ab 3 bs bt K) bt fun bu bv =>
 C.i true bo (fun K => C.ai bu bv K) bv fun bw bx =>
 C.i true bo (fun K => C.aj .eql bw (.int .i64 2) bx K) bx fun bz ca =>
 C.a2 (some bo) (some bz) (some (.bool false)) ca fun cb cc =>
 K cb cc)) : C.q Tryz.prog 7 #[] w K := q9 (A := A0) (args := []) (qq h)
namespace F8
def ann : Ann := ⟨[(3, [0])], [], [], [], none⟩
def code := cd Tryz.f8
def top := tp Tryz.f8
variable (K : VK) (y0 : Value) (w : World)
def k3 : Prop := nk ann 9 [(0, y0)] w [1, 1] code (top K)
attribute [irreducible] k3
end F8
theorem F8.k3.to (h : (K y0 w)) : F8.k3 K y0 w := qq h
theorem F8.sh (h : (C.bk x0 w fun a b =>
 C.aj .gtr a (.int .i64 70) b fun c d =>
 C.am c (C.ay Tryz.prog (Instr.sliceAt 24 x0 none (some (.int .i64 70)) none) d fun f g =>
 K f g) (F8.k3 K x0 d))) : C.q Tryz.prog 8 #[x0] w K := q9 (A := F8.ann) (args := [x0]) (qq h)
end
end Go.Proofs.YtcakfaakbpdklaaGreatDoorV
namespace Go.Proofs.YtcakfaakbpdklaaGreatDoorV
open Go Go.Proofs Go.RowKit
set_option linter.unusedVariables false
set_option linter.unusedSimpArgs false
set_option maxRecDepth 10000
def cfL (cf : Cf) : List Int := [cf.pages, cf.threads, cf.window, cf.quantum, cf.target, cf.cap, cf.tax, cf.chunk, cf.stack, cf.trigger]
def spL : List (Int × Int) := [(2, 64), (1, 8), (1, 64), (1, 16), (0, 1000), (0, 65535), (0, 64), (1, 16), (1, 256), (0, 64)]
structure Cf.Legal (cf : Cf) : Prop where
  sp : ∀ i, i < 10 → ((spL.getD i (0, 0)).1 ≤ (cfL cf).getD i 0 ∧ (cfL cf).getD i 0 ≤ (spL.getD i (0, 0)).2)
  qu : 1000 * cf.quantum ≤ cf.window * (1000 - cf.target)
def spV (b : Nat) : Value := .agg #[.pointer (some ⟨b, 0, none⟩), .int .i64 2, .int .i64 64, .pointer (some ⟨b, 1, none⟩), .int .i64 1, .int .i64 8, .pointer (some ⟨b, 2, none⟩), .int .i64 1, .int .i64 64, .pointer (some ⟨b, 3, none⟩), .int .i64 1, .int .i64 16, .pointer (some ⟨b, 4, none⟩), .int .i64 0, .int .i64 1000, .pointer (some ⟨b, 5, none⟩), .int .i64 0, .int .i64 65535, .pointer (some ⟨b, 6, none⟩), .int .i64 0, .int .i64 64, .pointer (some ⟨b, 7, none⟩), .int .i64 1, .int .i64 16, .pointer (some ⟨b, 8, none⟩), .int .i64 1, .int .i64 256, .pointer (some ⟨b, 9, none⟩), .int .i64 0, .int .i64 64]
section
variable {K : VK} {w : World}
theorem bSp (b o : Nat) (lo hi : Int) : (Instr.build 111 #[(0, .pointer (some ⟨b, o, none⟩)), (1, .int .i64 lo), (2, .int .i64 hi)]).run Tryz.prog w = .ok (.agg #[.pointer (some ⟨b, o, none⟩), .int .i64 lo, .int .i64 hi]) w := by kernel_rfl
theorem qvi {b : Nat} (hk : ∀ w', Fr [] w w' → K (spV b) w') : C.q Tryz.prog 65 #[.pointer (some ⟨b, 0, none⟩)] w K := by
  refine F65.sh (C.av fun x w1 hn1 => C.a4 (fun _ => True) fun w2 hf2 _ => ⟨trivial, ?_⟩)
  have l1 := hn1.is
  try simp only [C.af, C.ag, Nat.zero_add]
  refine ⟨_, fun w' _ => bSp b 0 2 64, ⟨_, fun w' _ => bSp b 1 1 8, ⟨_, fun w' _ => bSp b 2 1 64, ⟨_, fun w' _ => bSp b 3 1 16, ⟨_, fun w' _ => bSp b 4 0 1000, ⟨_, fun w' _ => bSp b 5 0 65535, ⟨_, fun w' _ => bSp b 6 0 64, ⟨_, fun w' _ => bSp b 7 1 16, ⟨_, fun w' _ => bSp b 8 1 256, ⟨_, fun w' _ => bSp b 9 0 64, ⟨spV b, fun w' _ => by kernel_rfl, ?_⟩⟩⟩⟩⟩⟩⟩⟩⟩⟩⟩
  refine ⟨C.a1 (x := spV b) (hf2.at_ hn1.at_ (by simp)) rfl (by simp [spV, Value.cells, Value.oneCell']) rfl fun w3 hu => ⟨trivial, C.ax hu.at_ rfl (hk w3 ((hn1.fr.trans hf2).then hu.fr (by simp; omega)))⟩, trivial⟩
theorem qyz (b : Nat) {i : Nat} (hi : i < 10) : (Instr.index 112 (spV b) (.int .i64 (i : Int))).run Tryz.prog w = .ok (.agg #[.pointer (some ⟨b, i, none⟩), .int .i64 (spL.getD i (0, 0)).1, .int .i64 (spL.getD i (0, 0)).2]) w := by
  have : i = 0 ∨ i = 1 ∨ i = 2 ∨ i = 3 ∨ i = 4 ∨ i = 5 ∨ i = 6 ∨ i = 7 ∨ i = 8 ∨ i = 9 := by omega
  rcases this with h | h | h | h | h | h | h | h | h | h <;> subst h
  · show (Instr.index 112 (spV b) (.int .i64 0)).run Tryz.prog w = .ok (.agg #[.pointer (some ⟨b, 0, none⟩), .int .i64 2, .int .i64 64]) w; kernel_rfl
  · show (Instr.index 112 (spV b) (.int .i64 1)).run Tryz.prog w = .ok (.agg #[.pointer (some ⟨b, 1, none⟩), .int .i64 1, .int .i64 8]) w; kernel_rfl
  · show (Instr.index 112 (spV b) (.int .i64 2)).run Tryz.prog w = .ok (.agg #[.pointer (some ⟨b, 2, none⟩), .int .i64 1, .int .i64 64]) w; kernel_rfl
  · show (Instr.index 112 (spV b) (.int .i64 3)).run Tryz.prog w = .ok (.agg #[.pointer (some ⟨b, 3, none⟩), .int .i64 1, .int .i64 16]) w; kernel_rfl
  · show (Instr.index 112 (spV b) (.int .i64 4)).run Tryz.prog w = .ok (.agg #[.pointer (some ⟨b, 4, none⟩), .int .i64 0, .int .i64 1000]) w; kernel_rfl
  · show (Instr.index 112 (spV b) (.int .i64 5)).run Tryz.prog w = .ok (.agg #[.pointer (some ⟨b, 5, none⟩), .int .i64 0, .int .i64 65535]) w; kernel_rfl
  · show (Instr.index 112 (spV b) (.int .i64 6)).run Tryz.prog w = .ok (.agg #[.pointer (some ⟨b, 6, none⟩), .int .i64 0, .int .i64 64]) w; kernel_rfl
  · show (Instr.index 112 (spV b) (.int .i64 7)).run Tryz.prog w = .ok (.agg #[.pointer (some ⟨b, 7, none⟩), .int .i64 1, .int .i64 16]) w; kernel_rfl
  · show (Instr.index 112 (spV b) (.int .i64 8)).run Tryz.prog w = .ok (.agg #[.pointer (some ⟨b, 8, none⟩), .int .i64 1, .int .i64 256]) w; kernel_rfl
  · show (Instr.index 112 (spV b) (.int .i64 9)).run Tryz.prog w = .ok (.agg #[.pointer (some ⟨b, 9, none⟩), .int .i64 0, .int .i64 64]) w; kernel_rfl
theorem qvw (cf : Cf) {i : Nat} (hi : i < 10) : (cfV cf).toArray[i]? = some (.int .i64 ((cfL cf).getD i 0)) := by
  have : i = 0 ∨ i = 1 ∨ i = 2 ∨ i = 3 ∨ i = 4 ∨ i = 5 ∨ i = 6 ∨ i = 7 ∨ i = 8 ∨ i = 9 := by omega
  rcases this with h | h | h | h | h | h | h | h | h | h <;> subst h <;> rfl
theorem qou {cf : Cf} {b : Nat} (h0 : cf.Legal → ∀ w', Fr [] w w' → K (.int .i64 0) w') (h1 : ¬ cf.Legal → ∀ n w', n ≠ 0 → Fr [] w w' → K (.int .i64 n) w') :
    ∀ (d i : Nat) (w' : World), i + d = 10 → Fr [] w w' → w'.heap[b]? = some (.cells (cfV cf).toArray 23 (0, 0)) → (∀ j, j < i → ((spL.getD j (0, 0)).1 ≤ (cfL cf).getD j 0 ∧ (cfL cf).getD j 0 ≤ (spL.getD j (0, 0)).2)) →
      F36.l2 K (.pointer (some ⟨b, 0, none⟩)) (spV b) (.int .i64 (i : Int)) w' := by
  intro d
  induction d with
  | zero =>
    intro i w' hi hf hb hz
    have e : i = 10 := by omega
    subst e
    refine F36.l2.to ?_
    simp only [C.ac, C.au, decide_false, show ¬ (((10 : Nat) : Int) < 10) by omega]
    refine F36.k7.to ?_
    have q2 := hz 2 (by omega)
    have q3 := hz 3 (by omega)
    have q4 := hz 4 (by omega)
    have q2 : 1 ≤ cf.window ∧ cf.window ≤ 64 := q2
    have q3 : 1 ≤ cf.quantum ∧ cf.quantum ≤ 16 := q3
    have q4 : 0 ≤ cf.target ∧ cf.target ≤ 1000 := q4
    have hm : 0 ≤ cf.window * (1000 - cf.target) ∧ cf.window * (1000 - cf.target) ≤ 64000 := by
      constructor
      · exact Int.mul_nonneg (by omega) (by omega)
      · exact Int.le_trans (Int.mul_le_mul q2.2 (show 1000 - cf.target ≤ 1000 by omega) (by omega) (by omega)) (by decide)
    try simp only [C.af, Nat.zero_add]
    refine C.ae (v := .int .i64 cf.window) hb rfl ?_
    refine C.ae (v := .int .i64 cf.target) hb rfl ?_
    try simp only [C.bo, C.bq]
    rw [qaa (n := 1000 - cf.target) (by omega), qaa (n := cf.window * (1000 - cf.target)) (by omega)]
    refine C.ae (v := .int .i64 cf.quantum) hb rfl ?_
    try simp only [C.bq, C.au]
    rw [qaa (n := 1000 * cf.quantum) (by omega)]
    by_cases c : cf.window * (1000 - cf.target) < 1000 * cf.quantum
    · simp only [C.ah, decide_true, c]
      exact h1 (fun L => by have := L.qu; omega) 11 w' (by decide) hf
    · simp only [C.ac, decide_false, c]
      exact F36.k9.to (h0 ⟨fun i hi => hz i hi, by omega⟩ w' hf)
  | succ d ih =>
    intro i w' hi hf hb hz
    have hlt : i < 10 := by omega
    refine F36.l2.to ?_
    simp only [C.ah, C.au, decide_true, show (i : Int) < 10 by omega]
    refine F36.k3.to (C.a5 (qyz b hlt) ?_)
    generalize hlo : (spL.getD i (0, 0)).1 = lo
    generalize hhi : (spL.getD i (0, 0)).2 = hi'
    refine C.av fun x w1 hn1 => C.a1 (x := .agg #[.pointer (some ⟨b, i, none⟩), .int .i64 lo, .int .i64 hi']) hn1.at_ rfl (by simp [Value.cells, Value.oneCell']) rfl fun w2 hu2 => ?_
    have l1 := hn1.is
    have f2 : Fr [] w' w2 := hn1.fr.then hu2.fr (by simp; omega)
    have b2 := f2.at_ hb (by simp)
    have x2 := hu2.at_
    refine C.a4 (fun v => v.heap[x]? = some (.cells #[.pointer (some ⟨b, i, none⟩), .int .i64 lo, .int .i64 hi'] 111 (0, 0)) ∧ v.heap[b]? = some (.cells (cfV cf).toArray 23 (0, 0))) fun w3 hf3 _ => ⟨⟨hf3.at_ x2 (by simp), hf3.at_ b2 (by simp)⟩, ?_⟩
    try simp only [C.af, C.a6, Nat.zero_add]
    have gv := qvw cf hlt
    generalize hv : (cfL cf).getD i 0 = v at gv
    refine C.an (v := .pointer (some ⟨b, i, none⟩)) (fun w' hw => ⟨_, _, _, hw.1, rfl⟩) ?_
    try simp only [C.ag]
    refine C.an (v := .int .i64 v) (fun w' hw => ⟨_, _, _, hw.2, gv⟩) (C.an (v := .int .i64 lo) (fun w' hw => ⟨_, _, _, hw.1, rfl⟩) (C.an (v := .int .i64 hi') (fun w' hw => ⟨_, _, _, hw.1, rfl⟩) (C.an (v := .pointer (some ⟨b, i, none⟩)) (fun w' hw => ⟨_, _, _, hw.1, rfl⟩) ?_)))
    try simp only [C.ag]
    refine C.an (v := .int .i64 v) (fun w' hw => ⟨_, _, _, hw.2, gv⟩) ⟨qca ⟨⟨hf3.at_ x2 (by simp), hf3.at_ b2 (by simp)⟩, ?_⟩, trivial⟩
    have f3 := (hf.trans f2).trans hf3
    have ok : (lo ≤ v ∧ v ≤ hi') → F36.k6 K (.pointer (some ⟨b, 0, none⟩)) (spV b) (.int .i64 (i : Int)) w3 := fun hok => by
      refine F36.k6.to ?_
      try simp only [C.a6]
      rw [qaa (n := (i : Int) + 1) (by omega)]
      refine ih (i + 1) w3 (by omega) f3 (hf3.at_ b2 (by simp)) fun j hj => ?_
      by_cases e : j = i
      · subst e; rw [hlo, hhi, hv]; exact hok
      · exact hz j (by omega)
    have lohi : lo ≤ hi' := by
      rw [← hlo, ← hhi]
      have : i = 0 ∨ i = 1 ∨ i = 2 ∨ i = 3 ∨ i = 4 ∨ i = 5 ∨ i = 6 ∨ i = 7 ∨ i = 8 ∨ i = 9 := by omega
      rcases this with h | h | h | h | h | h | h | h | h | h <;> subst h <;> decide
    by_cases c : lo ≤ v ∧ v ≤ hi'
    · rw [if_neg (by omega), if_neg (by omega)]
      simp only [C.ac, C.be, eq_self, decide_false, ne_eq, not_true_eq_false]
      exact ok c
    · have ne : (if v < lo then lo else if v > hi' then hi' else v) ≠ v := by
        by_cases a : v < lo
        · rw [if_pos a]; omega
        · have hv2 : v > hi' := by omega
          rw [if_neg a, if_pos hv2]; omega
      have vlo : ((i : Int) + 1) ≠ 0 := by omega
      try simp only [C.be]
      rw [decide_eq_true ne]
      try simp only [C.ah]
      rw [qaa (n := (i : Int) + 1) (by omega)]
      exact h1 (fun L => c (by have := L.sp i hlt; rw [hlo, hhi, hv] at this; exact this)) _ w3 vlo f3
theorem qnw {cf : Cf} (h0 : cf.Legal → ∀ w', Fr [] w w' → K (.int .i64 0) w') (h1 : ¬ cf.Legal → ∀ n w', n ≠ 0 → Fr [] w w' → K (.int .i64 n) w') : C.q Tryz.prog 36 #[.agg (cfV cf).toArray] w K := by
  refine F36.sh (C.av fun b w1 hn1 => qvi fun w2 hf2 => ?_)
  exact qou h0 h1 10 0 w2 (by omega) (hn1.fr.trans hf2) (hf2.at_ hn1.at_ (by simp)) (fun j hj => by omega)
theorem qkd {cf : Cf} (h0 : cf.Legal → ∀ w', Fr [] w w' → K (.int .i64 0) w') (h1 : ¬ cf.Legal → ∀ w', Fr [] w w' → K (.int .i64 6) w') : C.q Tryz.prog 11 #[.agg (cfV cf).toArray] w K := by
  refine F11.sh (C.av fun b w1 hn1 => C.ax hn1.at_ rfl (qnw (fun L w2 hf2 => ?_) fun L n w2 hn hf2 => ?_))
  · simp only [C.ac, C.be, eq_self, decide_false, ne_eq, not_true_eq_false]
    exact F11.k3.to (h0 L w2 (hn1.fr.trans hf2))
  · simp only [C.ah, C.be, decide_true, ne_eq, hn, not_false_eq_true]
    exact h1 L w2 (hn1.fr.trans hf2)
theorem qwr {cf : Cf} (L : cf.Legal) (hk : ∀ w', Fr [] w w' → K (.int .i64 cf.most) w') : C.q Tryz.prog 43 #[.agg (cfV cf).toArray] w K := by
  refine F43.sh (C.av fun b w1 hn1 => C.ax hn1.at_ rfl (qnw (fun _ w2 hf2 => ?_) fun L' => absurd L L'))
  have b2 := hf2.at_ hn1.at_ (by simp)
  simp only [C.ac, C.be, eq_self, decide_false, ne_eq, not_true_eq_false]
  refine F43.k3.to ?_
  have q2 : 1 ≤ cf.window ∧ cf.window ≤ 64 := L.sp 2 (by omega)
  have q4 : 0 ≤ cf.target ∧ cf.target ≤ 1000 := L.sp 4 (by omega)
  have hm : 0 ≤ cf.window * (1000 - cf.target) ∧ cf.window * (1000 - cf.target) ≤ 64000 := by
    constructor
    · exact Int.mul_nonneg (by omega) (by omega)
    · exact Int.le_trans (Int.mul_le_mul q2.2 (show 1000 - cf.target ≤ 1000 by omega) (by omega) (by omega)) (by decide)
  try simp only [C.af, Nat.zero_add]
  refine C.ae (v := .int .i64 cf.window) b2 rfl ?_
  refine C.ae (v := .int .i64 cf.target) b2 rfl ?_
  try simp only [C.bo, C.bq]
  rw [qaa (n := 1000 - cf.target) (by omega), qaa (n := cf.window * (1000 - cf.target)) (by omega)]
  refine ⟨_, qbr _ _ _ _ (by decide), ?_⟩
  have ed : (cf.window * (1000 - cf.target)).tdiv 1000 = cf.most := rfl
  have em : 0 ≤ cf.most ∧ cf.most ≤ 64000 := by
    unfold Cf.most
    rw [Int.tdiv_eq_ediv_of_nonneg hm.1]; omega
  rw [ed, qaa (n := cf.most) (by omega)]
  exact hk w2 (hn1.fr.trans hf2)
end
end Go.Proofs.YtcakfaakbpdklaaGreatDoorV
