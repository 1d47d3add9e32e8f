/- Part 7 of what the law needs: own lemmas, in the order in which they build. -/
import Derived.Test.YtcakfaakbpdklaaGreatDoorProg
import Derived.Test.YtcakfaakbpdklaaGreatDoorTopOwn06
namespace Go.Proofs.YtcakfaakbpdklaaGreatDoorV
open Go Go.Proofs Go.RowKit
set_option linter.unusedVariables false
set_option linter.unusedSimpArgs false
set_option maxRecDepth 10000
section
variable {K : VK} {w w' : World} {D : Sad} {np : Nat} {nt : Int} {s : St}
theorem qao.lt {A : Cad} {c : Ce} (h : qao A w c) : ∀ x ∈ A.all, x < w.heap.size := fun x hx => by
  obtain ⟨cs, c1, _⟩ := h.blk
  obtain ⟨ts, t1, _⟩ := h.tk.blk
  simp only [Cad.all, List.mem_cons, List.mem_append] at hx
  rcases hx with rfl | rfl | rfl | rfl | hx | hx
  · exact qac c1
  · exact qac h.pg.blk
  · exact qac h.mm.blk
  · exact qac t1
  · exact h.pg.own.lt (qan.1 hx)
  · exact h.mm.own.lt (qan.1 hx)
theorem qcj.lt {b m : Nat} {n : Int} {f : Om} (h : qcj w b m n f) : b < w.heap.size ∧ m < w.heap.size := by
  obtain ⟨_, l, c, h1, _⟩ := h
  exact ⟨qac h1.blk, qac h1.map⟩
theorem qar.lt (h : qar D np nt w s) : ∀ x ∈ D.all, x < w.heap.size := fun x hx => by
  simp only [Sad.all, List.mem_cons] at hx
  rcases hx with rfl | rfl | rfl | rfl | hx
  · obtain ⟨_, _, _, h0, _⟩ := h.tz; exact qac h0
  · exact qac h.blk
  · exact h.own.lt.1
  · exact h.own.lt.2
  · exact h.cel.lt x hx
theorem qar.ltS (h : qar D np nt w s) : ∀ x ∈ D.S, x < w.heap.size := fun x hx => h.lt x (by
  have := D.sub x hx; exact this)
theorem qqb {W : World} {v : Value} {l : List Int} (hl : l.length ≤ 2048) (hW : ∀ x ∈ D.S, x < W.heap.size) (hn : qal W v) {s1 : St} (hk : ∀ n w', Fr D.S W w' → qar D np nt w' s1 → K (.int .i64 n) w') :
    ∀ (d i : Nat) (w : World) (n : Int) (s : St), i + d = l.length → Fr D.S W w → qar D np nt w s → qad w v 3 1 (qaf l) → s.dropAll (l.drop i) = s1 →
      F147.l5 K (.pointer (some ⟨D.st, 0, none⟩)) (.int .i64 n) v (.int .i64 (l.length : Int)) (.int .i64 (i : Int)) w := by
  intro d
  induction d with
  | zero =>
    intro i w n s hi hf h hv he
    have e : i = l.length := by omega
    subst e
    refine F147.l5.to ?_
    simp only [C.ac, C.au, decide_false, show ¬ ((l.length : Int) < (l.length : Int)) by omega]
    rw [List.drop_length] at he
    simp only [St.dropAll] at he
    subst he
    exact F147.k10.to (hk n w hf h)
  | succ d ih =>
    intro i w n s hi hf h hv he
    have hlt : i < l.length := by omega
    refine F147.l5.to ?_
    simp only [C.ah, C.au, decide_true, show (i : Int) < (l.length : Int) by omega]
    rw [List.drop_eq_getElem_cons hlt, St.dropAll] at he
    refine F147.k6.to (C.bw hv.rd hlt fun g o cs e fz hg hc => C.ae hg hc ?_)
    simp only [C.af, C.ag, C.a6, Nat.zero_add]
    refine C.ae (v := .pointer (some ⟨D.A.cel, 0, none⟩)) h.blk rfl (qnd h.cel fun w1 hf1 h1 => ?_)
    have h1 := h.setCel hf1 h1
    have hv1 := hv.keep' hf1 fun g hg hg' => by have := hn.blk g hg; have := hW g (by simp [Sad.S, hg']); omega
    cases hb : (s.c.drop l[i]).2 <;> simp only [C.ah, C.ac] <;> refine F147.k9.to ?_ <;> simp only [C.a6] <;> rw [qaa (n := (i : Int) + 1) (by omega)] <;>
      exact ih (i + 1) w1 _ _ (by omega) (hf.trans hf1.ofA) h1 hv1 he
theorem qte (f : Om) (t : Int) : (qdk f t).length ≤ 4 := by
  unfold qdk
  exact Nat.le_trans (List.length_filterMap_le _ _) (by simp)
theorem qwy {t : Int} (h : qar D np nt w s) (hk : ∀ n w', Fr D.S w w' → qar D np nt w' (s.quit t) → K (.int .i64 n) w') :
    C.q Tryz.prog 147 #[.pointer (some ⟨D.st, 0, none⟩), .int .i64 t] w K := by
  refine F147.sh (qet h ?_)
  simp only [C.ac, C.aq, Bool.not_true]
  refine F147.k3.to ?_
  simp only [C.af, C.ag, Nat.zero_add]
  refine C.ae (v := .pointer (some ⟨D.ob, 0, none⟩)) h.blk rfl (qu1 h.own fun v w1 hf1 h1 hn hv => ?_)
  have h1 := h.setOwn hf1 h1
  have hl : ((qdk s.own t).mergeSort fun x y => decide (x ≤ y)).length ≤ 2048 := by rw [List.length_mergeSort]; have := qte s.own t; omega
  refine C.bh hv.rd ?_
  rw [qaj]
  exact qqb (W := w) hl h.ltS hn (s1 := s.quit t) hk ((qdk s.own t).mergeSort fun x y => decide (x ≤ y)).length 0 w1 0 _ (by omega) hf1.ofM h1 hv rfl
theorem qp7 {W : World} {k : Int} (h0 : qar D np nt W s) (hk1 : ∀ p w', s.openAt k np 0 = some p → Fr [] W w' → K (.tuple #[.int .i64 (p : Int), .bool true]) w')
    (hk2 : s.openAt k np 0 = none → ∀ w', Fr [] W w' → F123.k8 K (.pointer (some ⟨D.st, 0, none⟩)) (.int .i64 k) w') :
    ∀ (d p : Nat) (w : World), p + d = np → Fr [] W w → s.openAt k np 0 = s.openAt k d p →
      F123.l2 K (.pointer (some ⟨D.st, 0, none⟩)) (.int .i64 k) (.int .i64 (np : Int)) (.int .i64 (p : Int)) w := by
  have hnp := h0.np
  intro d
  induction d with
  | zero =>
    intro p w hp hf he
    refine F123.l2.to ?_
    simp only [C.ac, C.au, decide_false, show ¬ ((p : Int) < (np : Int)) by omega]
    exact hk2 he w hf
  | succ d ih =>
    intro p w hp hf he
    have h := h0.keep0 hf
    refine F123.l2.to ?_
    simp only [C.ah, C.au, decide_true, show (p : Int) < (np : Int) by omega]
    refine F123.k3.to ?_
    simp only [C.af, C.ag, Nat.zero_add]
    have he' : s.openAt k (d + 1) p = if (qb1 s.own p).1 < 0 ∧ kAt s.c.ks p = k ∧ 0 < s.c.left p then some p else s.openAt k d (p + 1) := rfl
    rw [he'] at he
    have next : ∀ w', Fr [] W w' → ¬ ((qb1 s.own p).1 < 0 ∧ kAt s.c.ks p = k ∧ 0 < s.c.left p) → F123.k7 K (.pointer (some ⟨D.st, 0, none⟩)) (.int .i64 k) (.int .i64 (np : Int)) (.int .i64 (p : Int)) w' := fun w' hf' hn => by
      rw [if_neg hn] at he
      refine F123.k7.to ?_
      simp only [C.a6]
      rw [qaa (n := (p : Int) + 1) (by omega)]
      exact ih (p + 1) w' (by omega) hf' he
    refine C.ae (v := .pointer (some ⟨D.ob, 0, none⟩)) h.blk rfl (qlk h.own fun w1 hf1 => ?_)
    have h1 := h.keep0 hf1
    simp only [C.au, C.a7, C.a8]
    by_cases z : (qb1 s.own p).1 < 0
    · simp only [C.aw, C.af, C.ag, C.al, Nat.zero_add, decide_true, z]
      refine C.ae (v := .pointer (some ⟨D.A.cel, 0, none⟩)) h1.blk rfl (qey h1.cel fun w2 hf2 => ?_)
      have h2 := h1.keep0 hf2
      by_cases y : kAt s.c.ks p = k
      · simp only [C.aw, C.af, C.ag, C.az, C.al, Nat.zero_add, eq_self, decide_true, y]
        refine C.ae (v := .pointer (some ⟨D.A.cel, 0, none⟩)) h2.blk rfl (qli h2.cel fun w3 hf3 => ?_)
        by_cases x : s.c.left p > 0
        · simp only [C.ah, C.bl, decide_true, x]
          rw [if_pos ⟨z, y, x⟩] at he
          exact hk1 p w3 he (((hf.trans hf1).trans hf2).trans hf3)
        · simp only [C.ac, C.bl, decide_false, x]
          exact next w3 (((hf.trans hf1).trans hf2).trans hf3) fun hc => x hc.2.2
      · simp only [C.ac, C.ar, C.az, C.bf, decide_false, y]
        exact next w2 ((hf.trans hf1).trans hf2) fun hc => y hc.2.1
    · simp only [C.ac, C.ar, C.bf, decide_false, z]
      exact next w1 (hf.trans hf1) fun hc => z hc.1
theorem qu3 {k : Int} (h : qar D np nt w s) (hk : ∀ w', Fr D.S w w' → qar D np nt w' (s.openP np k).1 → K (match (s.openP np k).2 with | some p => .tuple #[.int .i64 p, .bool true] | none => .tuple #[.int .i64 0, .bool false]) w') :
    C.q Tryz.prog 123 #[.pointer (some ⟨D.st, 0, none⟩), .int .i64 k] w K := by
  refine F123.sh ?_
  simp only [C.af, C.ag, Nat.zero_add]
  unfold St.openP at hk
  refine C.ae (v := .int .i64 (np : Int)) h.blk rfl (qp7 h (fun p w1 he hf1 => ?_) (fun he w1 hf1 => ?_) np 0 w (by omega) (Fr.refl _ _) rfl)
  · rw [he] at hk
    exact hk w1 hf1.w (h.keep0 hf1)
  · rw [he] at hk
    have h1 := h.keep0 hf1
    refine F123.k8.to ?_
    simp only [C.af, C.ag, Nat.zero_add]
    refine C.ae (v := .pointer (some ⟨D.A.cel, 0, none⟩)) h1.blk rfl (qul h1.cel fun w2 hf2 h2 => ?_)
    have hk := hk w2 (hf1.w.trans hf2.ofA) (h1.setCel hf2 h2)
    cases e : (s.c.carve k).2 with
    | none => simp only [e, C.a7, C.a8] at hk ⊢; exact hk
    | some p => simp only [e, C.a7, C.a8] at hk ⊢; exact hk
theorem qqy (n : Int) : qdu n ≤ 64 := by
  unfold qdu
  by_cases h : cOf n = 5
  · rw [if_pos h]
    unfold cOf at h
    by_cases c : n < 0 ∨ n > 127
    · rw [if_pos c] at h; omega
    · omega
  · rw [if_neg h]; omega
theorem qnt {t n : Int} (h : qar D np nt w s) (hk : ∀ w', Fr D.S w w' → qar D np nt w' (s.slow np nt t n).1 → K (.tuple #[.int .i64 (s.slow np nt t n).2.1, .int .i64 (s.slow np nt t n).2.2]) w') :
    C.q Tryz.prog 79 #[.pointer (some ⟨D.st, 0, none⟩), .int .i64 t, .int .i64 n] w K := by
  refine F79.sh (qoq (qet h ?_))
  simp only [C.ac, C.aq, C.af, C.ag, C.az, Bool.not_true, Nat.zero_add]
  unfold St.slow at hk
  simp only at hk
  by_cases z1 : cOf n = 0
  · rw [if_pos (.inl z1)] at hk
    simp only [C.ah, C.aw, C.ba, eq_self, decide_true, z1]
    exact hk w (Fr.refl _ _) h
  by_cases z2 : t < 0
  · rw [if_pos (.inr (.inl z2))] at hk
    simp only [C.ah, C.aw, C.ar, C.au, C.al, C.ba, decide_true, decide_false, z1, z2]
    exact hk w (Fr.refl _ _) h
  simp only [C.ar, C.af, C.ag, C.au, C.al, Nat.zero_add, decide_false, z1, z2]
  refine C.ae (v := .int .i64 nt) h.blk rfl ?_
  by_cases z3 : nt ≤ t
  · rw [if_pos (.inr (.inr z3))] at hk
    simp only [C.ah, C.bc, decide_true, show t ≥ nt from z3]
    exact hk w (Fr.refl _ _) h
  rw [if_neg (by omega)] at hk
  simp only [C.ac, C.bc, decide_false, show ¬ (t ≥ nt) from z3]
  by_cases k5 : cOf n = 5
  · rw [if_pos k5] at hk
    simp only [C.ah, eq_self, decide_true, k5]
    refine C.a4 (fun w' => w'.heap[D.st]? = some (.cells #[.pointer (some ⟨D.A.cel, 0, none⟩), .pointer (some ⟨D.ob, 0, none⟩), .int .i64 nt, .int .i64 (np : Int), .int .i64 s.made] 171 (0, 0))) fun w1 hf1 _ => ⟨hf1.at_ h.blk (by simp), ?_⟩
    have h1 := h.keep0 hf1
    simp only []
    refine C.an (v := .pointer (some ⟨D.A.cel, 0, none⟩)) (fun w' hw => ⟨_, _, _, hw, rfl⟩) ⟨qu7 ⟨h1.blk, quz h1.cel (qqy n) fun w2 hf2 h2 => ⟨hf2.at_ h1.blk (fun e => h.ok.s (D.A.sub _ e)), ?_⟩, trivial⟩, trivial⟩
    have h2 := h1.setCel hf2 h2
    cases e : (s.c.large (qdu n)).2 with
    | none =>
      have e0 : s.c.large (qdu n) = (s.c, none) := by
        unfold Ce.large at e ⊢
        split at e
        · rfl
        · simp at e
      rw [e0] at hk h2
      simp only [C.ah, C.aq, C.a7, C.a8, Bool.not_false]
      exact hk w2 (hf1.w.trans hf2.ofA) h2
    | some a =>
      have e0 : s.c.large (qdu n) = ((s.c.large (qdu n)).1, some a) := by rw [← e]
      rw [e0] at hk
      simp only [C.ac, C.aq, C.a7, C.a8, Bool.not_true]
      refine F79.k10.to (qnb h2 fun w3 hf3 h3 => ?_)
      exact hk w3 ((hf1.w.trans hf2.ofA).trans hf3) h3
  rw [if_neg k5] at hk
  simp only [C.ac, decide_false, k5]
  refine F79.k11.to (qlg h fun w1 hf1 h1 => ?_)
  cases e : (s.fast t n).2 with
  | some a =>
    have e0 : s.fast t n = ((s.fast t n).1, some a) := by rw [← e]
    rw [e0] at hk
    simp only [C.ah, C.a7, C.a8]
    exact hk w1 hf1 h1
  | none =>
    have e0 : s.fast t n = (s, none) := by
      unfold St.fast at e ⊢
      split at e
      · rename_i y; rw [if_pos y]
      · rename_i y
        rw [if_neg y]
        split at e
        · rfl
        · simp at e
    rw [e0] at hk h1
    simp only [C.ac, C.a7, C.a8]
    refine F79.k14.to (qu3 h1 fun w2 hf2 h2 => ?_)
    cases ep : (s.openP np (cOf n)).2 with
    | none =>
      have ep0 : s.openP np (cOf n) = ((s.openP np (cOf n)).1, none) := by rw [← ep]
      have ep1 : (s.openP np (cOf n)).1 = s := by
        unfold St.openP at ep ⊢
        split at ep
        · simp at ep
        · simp only [Option.map_eq_none_iff] at ep
          simp only
          have : (s.c.carve (cOf n)).1 = s.c := by
            unfold Ce.carve at ep ⊢
            split at ep
            · rfl
            · simp at ep
          rw [this]
      rw [ep0] at hk
      rw [ep1] at h2
      simp only [C.ah, C.aq, C.a7, C.a8, Bool.not_false]
      exact hk w2 (hf1.trans hf2) h2
    | some p =>
      have ep0 : s.openP np (cOf n) = ((s.openP np (cOf n)).1, some p) := by rw [← ep]
      rw [ep0] at hk
      simp only [C.ac, C.aq, C.a7, C.a8, Bool.not_true]
      generalize (s.openP np (cOf n)).1 = s' at hk h2
      refine F79.k17.to ?_
      simp only [C.af, C.ag, Nat.zero_add]
      have fin : ∀ s2 w3, Fr D.S w w3 → qar D np nt w3 s2 → (∀ w', Fr D.S w w' → qar D np nt w' (s2.fast t n).1 → K (.tuple #[.int .i64 ((s2.fast t n).2.getD 0), .int .i64 0]) w') →
          C.q Tryz.prog 122 #[.pointer (some ⟨D.st, 0, none⟩), .int .i64 t, .int .i64 n] w3 fun x86_5 w5 => C.a0 0 x86_5 w5 fun x87_6 w6 => C.a0 1 x86_5 w6 fun x88_7 w7 => K (.tuple #[x87_6, (.int .i64 0)]) w7 := fun s2 w3 hf3 h3 hk => by
        refine qlg h3 fun w4 hf4 h4 => ?_
        have hk := hk w4 (hf3.trans hf4) h4
        cases e : (s2.fast t n).2 with
        | none => simp only [e, Option.getD_none, C.a7, C.a8] at hk ⊢; exact hk
        | some a => simp only [e, Option.getD_some, C.a7, C.a8] at hk ⊢; exact hk
      refine C.ae (v := .pointer (some ⟨D.ob, 0, none⟩)) h2.blk rfl (qwt h2.own (fun hno w3 hf3 => ?_) fun hye w3 hf3 h3 => ?_)
      · simp only [if_neg (show ¬ qmi nt s'.own t (cOf n) p from hno)] at hk
        exact fin s' w3 ((hf1.trans hf2).trans hf3.w) (h2.keep0 hf3) hk
      · simp only [if_pos (show qmi nt s'.own t (cOf n) p from hye)] at hk
        exact fin _ w3 ((hf1.trans hf2).trans hf3.ofM) (h2.setOwn hf3 h3) hk
end
end Go.Proofs.YtcakfaakbpdklaaGreatDoorV
namespace Go.Proofs.YtcakfaakbpdklaaGreatDoorV
open Go Go.Proofs
set_option linter.unusedVariables false
set_option maxRecDepth 100000
noncomputable section
variable {K : VK} {w : World} {x0 x1 y0 y1 y2 y3 y4 y5 : Value}

theorem F115.sh (h : (C.q Tryz.prog 66 #[x0, (.int .i64 1), (.int .i64 256)] w fun a b =>
 C.ay Tryz.prog (Instr.build 252 #[(1, a)]) b fun c d =>
 C.a3 (.cells (Value.cells c) 252) d fun f g =>
 K f g)) : C.q Tryz.prog 115 #[x0] w K := q9 (A := A0) (args := [x0]) (qq h)
namespace F309
def ann : Ann := ⟨[(6, [0, 3])], [], [], [(3, (.take 0 (.take 1 (.take 2 (.take 3 (.take 6 (.take 7 (.take 8 (.take 4 (.take 5 (.take 9 (.take 10 (.take 11 .fin))))))))))))), (6, (.take 0 (.take 1 (.take 2 (.take 3 (.go 4 .fin .fin))))))], none⟩
def code := cd Tryz.f309
def top := tp Tryz.f309
variable (K : VK) (y0 y3 : Value) (w : World)
def k6 : Prop := nk ann 35 [(0, y0), (3, y3)] w [1, 1] code (top K)
attribute [irreducible] k6
end F309
theorem F309.k6.to (h : (C.a9 w fun S a =>
 C.ad y0 a fun b c =>
 C.ab 0 b c fun d f =>
 C.bm S 2 y3 f fun g i =>
 (C.q Tryz.prog 329 #[d, g] i fun j k =>
 (S k ∧
 K (.bool true) k)) ∧ True)) : F309.k6 K y0 y3 w := qq h
theorem F309.sh (h : (C.a3 (.cells (Value.cells x1) 310) w fun a b =>
 C.bi Tryz.prog .eql 173 (.tmp 6) (.const (.pointer none)) x0 (.pointer none) b fun c d =>
 C.i false c (fun K => K x0 d) d fun f g =>
 C.i false c (fun K => C.ad f g K) g fun i j =>
 C.i false c (fun K => C.ab 1 i j K) j fun k m =>
 C.i false c (fun K => C.ai k m K) m fun o p =>
 C.i false c (fun K => C.aj .eql o (.int .i64 0) p K) p fun q r =>
 C.a2 (some c) (some (.bool true)) (some q) r fun s t =>
 C.am s (K (.bool false) t) (C.a9 t fun S u =>
 C.ad x0 u fun v x =>
 C.ab 0 v x fun y z =>
 C.ab 0 y z fun aa ab =>
 C.ad x0 ab fun ac ad =>
 C.ab 1 ac ad fun ae af =>
 C.ap S aa af fun ag ah =>
 C.bk ag ah fun ai aj =>
 C.ap S ae aj fun ak al =>
 C.aj .eql ai ak al fun am an =>
 C.am am (C.ad x0 an fun ao ap =>
 C.ab 2 ao ap fun aq ar =>
 C.ak 1 aq (.bool true) ar fun au =>
 K (.bool false) au) (F309.k6 K x0 a an)))) : C.q Tryz.prog 309 #[x0, x1] w K := q9 (A := F309.ann) (args := [x0, x1]) (qq h)
namespace F319
def ann : Ann := ⟨[(3, [0])], [], [], [], none⟩
def code := cd Tryz.f319
def top := tp Tryz.f319
variable (K : VK) (y0 : Value) (w : World)
def k3 : Prop := nk ann 11 [(0, y0)] w [1, 1] code (top K)
attribute [irreducible] k3
end F319
theorem F319.k3.to (h : (C.ad y0 w fun a b =>
 C.ab 0 a b fun c d =>
 C.ab 0 c d fun f g =>
 C.ai f g fun i j =>
 C.bk i j fun k m =>
 K k m)) : F319.k3 K y0 w := qq h
theorem F319.sh (h : (C.bi Tryz.prog .eql 173 (.tmp 3) (.const (.pointer none)) x0 (.pointer none) w fun a b =>
 C.am a (K (.int .i64 0) b) (F319.k3 K x0 b))) : C.q Tryz.prog 319 #[x0] w K := q9 (A := F319.ann) (args := [x0]) (qq h)

theorem F320.sh (h : (C.bi Tryz.prog .neq 173 (.tmp 3) (.const (.pointer none)) x0 (.pointer none) w fun a b =>
 C.i true a (fun K => K x0 b) b fun c d =>
 C.i true a (fun K => C.ad c d K) d fun f g =>
 C.i true a (fun K => C.ab 2 f g K) g fun i j =>
 C.i true a (fun K => C.ai i j K) j fun k m =>
 C.a2 (some a) (some k) (some (.bool false)) m fun o p =>
 K o p)) : C.q Tryz.prog 320 #[x0] w K := q9 (A := A0) (args := [x0]) (qq h)
namespace F329
def ann : Ann := ⟨[], [], [], [(1, (.take 0 (.take 1 (.take 2 (.take 3 (.take 5 (.go 4 (.go 6 (.go 7 (.take 8 (.take 9 (.go 10 .fin .fin))) .fin) .fin) (.go 6 (.go 4 (.go 7 (.take 8 (.take 9 (.go 10 .fin .fin))) .fin) .fin) .fin))))))))], none⟩
end F329
theorem F329.sh (h : (C.a3 (.cells (Value.cells x1) 310) w fun a b =>
 C.a9 b fun S c =>
 C.ad x0 c fun d f =>
 C.ab 0 d f fun g i =>
 C.bm S 2 a i fun j k =>
 (C.ai g k fun m o =>
 (S o ∧
 (C.ay Tryz.prog (Instr.buildSlice 248 1 #[(0, j)]) o fun p q =>
 (S q ∧
 (C.ay Tryz.prog (Builtin.append_ #[248, 248] 248 #[m, p]) q fun r s =>
 (S s ∧
 C.ad x0 s fun t u =>
 C.ab 0 t u fun v x =>
 (C.ak 1 v r x fun y =>
 (S y ∧
 K (.tuple #[]) y)) ∧ True)) ∧ True)) ∧ True)) ∧ ((C.ay Tryz.prog (Instr.buildSlice 248 1 #[(0, j)]) k fun z aa =>
 (S aa ∧
 (C.ai g aa fun ab ac =>
 (S ac ∧
 (C.ay Tryz.prog (Builtin.append_ #[248, 248] 248 #[ab, z]) ac fun ad ae =>
 (S ae ∧
 C.ad x0 ae fun af ag =>
 C.ab 0 af ag fun ah ai =>
 (C.ak 1 ah ad ai fun aj =>
 (S aj ∧
 K (.tuple #[]) aj)) ∧ True)) ∧ True)) ∧ True)) ∧ True))) : C.q Tryz.prog 329 #[x0, x1] w K := q9 (A := F329.ann) (args := [x0, x1]) (qq h)
namespace F341
def ann : Ann := ⟨[(3, [0, 2])], [], [], [], none⟩
def code := cd Tryz.f341
def top := tp Tryz.f341
variable (K : VK) (y0 y2 : Value) (w : World)
def k3 : Prop := nk ann 13 [(0, y0), (2, y2)] w [1, 1] code (top K)
attribute [irreducible] k3
end F341
theorem F341.k3.to (h : (C.ad y0 w fun a b =>
 C.ab 0 a b fun c d =>
 C.q Tryz.prog 345 #[c] d fun f g =>
 C.a0 0 f g fun i j =>
 C.a0 1 f j fun k m =>
 C.ak 2 y2 i m fun o =>
 C.ao 2 y2 o fun r7 _ =>
 K (.tuple #[r7, k]) o)) : F341.k3 K y0 y2 w := qq h
theorem F341.sh (h : (C.a3 (.cells #[.int .i64 0, .int .i64 0] 310) w fun a b =>
 C.bi Tryz.prog .eql 173 (.tmp 4) (.const (.pointer none)) x0 (.pointer none) b fun c d =>
 C.am c (C.ay Tryz.prog (Instr.build 310 #[]) d fun f g =>
 C.ak 2 a f g fun i =>
 C.ao 2 a i fun r5 _ =>
 K (.tuple #[r5, (.bool false)]) i) (F341.k3 K x0 a d))) : C.q Tryz.prog 341 #[x0] w K := q9 (A := F341.ann) (args := [x0]) (qq h)
namespace F342
def ann : Ann := ⟨[(4, [3])], [], [], [], none⟩
def code := cd Tryz.f342
def top := tp Tryz.f342
variable (K : VK) (y3 : Value) (w : World)
def k4 : Prop := nk ann 11 [(3, y3)] w [1, 1, 1] code (top K)
attribute [irreducible] k4
end F342
theorem F342.k4.to (h : (K y3 w)) : F342.k4 K y3 w := qq h
theorem F342.sh (h : (C.q Tryz.prog 320 #[x0] w fun a b =>
 C.am a (C.ad x0 b fun c d =>
 C.ab 2 c d fun f g =>
 C.ak 1 f (.bool false) g fun i =>
 F342.k4 K a i) (F342.k4 K a b))) : C.q Tryz.prog 342 #[x0] w K := q9 (A := F342.ann) (args := [x0]) (qq h)
namespace F345
def ann : Ann := ⟨[(5, [0, 2, 4, 5])], [], [], [], none⟩
def code := cd Tryz.f345
def top := tp Tryz.f345
variable (K : VK) (y0 y2 y4 y5 : Value) (w : World)
def k5 : Prop := nk ann 33 [(0, y0), (2, y2), (4, y4), (5, y5)] w [1, 1, 1, 1] code (top K)
attribute [irreducible] k5
end F345
theorem F345.k5.to (h : (C.ad y0 w fun a b =>
 C.ab 0 a b fun c d =>
 C.ai c d fun f g =>
 C.aj .sub y5 (.int .i64 1) g fun i j =>
 C.bj 2 f i j fun k m =>
 C.ao 2 k m fun o p =>
 C.ak 2 y4 o p fun q =>
 C.ad y0 q fun r s =>
 C.ab 0 r s fun t u =>
 C.ai t u fun v x =>
 C.aj .sub y5 (.int .i64 1) x fun y z =>
 C.ay Tryz.prog (Instr.sliceAt 248 v none (some y) none) z fun aa ab =>
 C.ad y0 ab fun ac ad =>
 C.ab 0 ac ad fun ae af =>
 C.ak 1 ae aa af fun ag =>
 C.ao 2 y4 ag fun ah ai =>
 C.ak 2 y2 ah ai fun aj =>
 C.ao 2 y2 aj fun r18 _ =>
 K (.tuple #[r18, (.bool true)]) aj)) : F345.k5 K y0 y2 y4 y5 w := qq h
theorem F345.sh (h : (C.a3 (.cells #[.int .i64 0, .int .i64 0] 310) w fun a b =>
 C.a3 (.cells #[.int .i64 0, .int .i64 0] 310) b fun c d =>
 C.ad x0 d fun f g =>
 C.ab 0 f g fun i j =>
 C.ai i j fun k m =>
 C.bk k m fun o p =>
 C.aj .eql o (.int .i64 0) p fun q r =>
 C.am q (C.ao 2 c r fun s t =>
 C.ak 2 a s t fun u =>
 C.ao 2 a u fun r10 _ =>
 K (.tuple #[r10, (.bool false)]) u) (F345.k5 K x0 a c o r))) : C.q Tryz.prog 345 #[x0] w K := q9 (A := F345.ann) (args := [x0]) (qq h)

theorem F74.sh (h : (C.q Tryz.prog 115 #[x0] w fun a b =>
 C.ay Tryz.prog (Instr.build 176 #[(0, a)]) b fun c d =>
 C.a3 (.cells (Value.cells c) 176) d fun f g =>
 C.q Tryz.prog 116 #[(.int .i64 2048)] g fun i j =>
 C.ay Tryz.prog (Instr.build 180 #[(0, f), (1, i)]) j fun k m =>
 C.a3 (.cells (Value.cells k) 180) m fun o p =>
 K o p)) : C.q Tryz.prog 74 #[x0] w K := q9 (A := A0) (args := [x0]) (qq h)
namespace F210
def ann : Ann := ⟨[(3, [0, 1])], [], [], [], none⟩
def code := cd Tryz.f210
def top := tp Tryz.f210
variable (K : VK) (y0 y1 : Value) (w : World)
def k3 : Prop := nk ann 13 [(0, y0), (1, y1)] w [1, 1] code (top K)
attribute [irreducible] k3
end F210
theorem F210.k3.to (h : (C.ay Tryz.prog (Instr.build 310 #[(0, y1)]) w fun a b =>
 C.q Tryz.prog 261 #[y0, a] b fun c d =>
 K (.bool true) d)) : F210.k3 K y0 y1 w := qq h
theorem F210.sh (h : (C.q Tryz.prog 260 #[x0, x1] w fun a b =>
 C.bg a b fun c d =>
 C.am c (K (.bool false) d) (F210.k3 K x0 x1 d))) : C.q Tryz.prog 210 #[x0, x1] w K := q9 (A := F210.ann) (args := [x0, x1]) (qq h)

theorem F230.sh (h : (C.q Tryz.prog 276 #[x0] w fun a b =>
 C.q Tryz.prog 244 #[a, x1] b fun c d =>
 K c d)) : C.q Tryz.prog 230 #[x0, x1] w K := q9 (A := A0) (args := [x0, x1]) (qq h)

theorem F260.sh (h : (C.q Tryz.prog 276 #[x0] w fun a b =>
 C.q Tryz.prog 178 #[a, x1] b fun c d =>
 K c d)) : C.q Tryz.prog 260 #[x0, x1] w K := q9 (A := A0) (args := [x0, x1]) (qq h)
namespace F261
def ann : Ann := ⟨[], [], [], [(1, (.take 0 (.take 4 (.go 1 (.take 2 (.go 3 (.go 5 (.take 6 .fin) .fin) .fin)) .fin))))], none⟩
end F261
theorem F261.sh (h : (C.a3 (.cells (Value.cells x1) 310) w fun a b =>
 C.a9 b fun S c =>
 C.bm S 2 a c fun d f =>
 (C.q Tryz.prog 292 #[x0] f fun g i =>
 (S i ∧
 C.ad g i fun j k =>
 (C.ao 1 j k fun m o =>
 (S o ∧
 (C.q Tryz.prog 293 #[m, d] o fun p q =>
 (S q ∧
 K p q)) ∧ True)) ∧ True)) ∧ True)) : C.q Tryz.prog 261 #[x0, x1] w K := q9 (A := F261.ann) (args := [x0, x1]) (qq h)

theorem F270.sh (h : (C.q Tryz.prog 292 #[x0] w fun a b =>
 C.ad a b fun c d =>
 C.ao 1 c d fun f g =>
 C.q Tryz.prog 299 #[f] g fun i j =>
 K i j)) : C.q Tryz.prog 270 #[x0] w K := q9 (A := A0) (args := [x0]) (qq h)

theorem F271.sh (h : (C.q Tryz.prog 292 #[x0] w fun a b =>
 C.ad a b fun c d =>
 C.ao 1 c d fun f g =>
 C.q Tryz.prog 300 #[f] g fun i j =>
 K i j)) : C.q Tryz.prog 271 #[x0] w K := q9 (A := A0) (args := [x0]) (qq h)
namespace F276
def ann : Ann := ⟨[(3, [0])], [], [], [], none⟩
def code := cd Tryz.f276
def top := tp Tryz.f276
variable (K : VK) (y0 : Value) (w : World)
def k3 : Prop := nk ann 9 [(0, y0)] w [1, 1] code (top K)
attribute [irreducible] k3
end F276
theorem F276.k3.to (h : (C.ad y0 w fun a b =>
 C.ab 1 a b fun c d =>
 C.ai c d fun f g =>
 K f g)) : F276.k3 K y0 w := qq h
theorem F276.sh (h : (C.bi Tryz.prog .eql 120 (.tmp 3) (.const (.pointer none)) x0 (.pointer none) w fun a b =>
 C.am a (K (.pointer none) b) (F276.k3 K x0 b))) : C.q Tryz.prog 276 #[x0] w K := q9 (A := F276.ann) (args := [x0]) (qq h)
namespace F292
def ann : Ann := ⟨[(3, [0])], [], [], [], none⟩
def code := cd Tryz.f292
def top := tp Tryz.f292
variable (K : VK) (y0 : Value) (w : World)
def k3 : Prop := nk ann 18 [(0, y0)] w [1, 1] code (top K)
attribute [irreducible] k3
end F292
theorem F292.k3.to (h : (C.ad y0 w fun a b =>
 C.ab 0 a b fun c d =>
 C.ai c d fun f g =>
 K f g)) : F292.k3 K y0 w := qq h
theorem F292.sh (h : (C.bi Tryz.prog .eql 120 (.tmp 3) (.const (.pointer none)) x0 (.pointer none) w fun a b =>
 C.i false a (fun K => K x0 b) b fun c d =>
 C.i false a (fun K => C.ad c d K) d fun f g =>
 C.i false a (fun K => C.ab 0 f g K) g fun i j =>
 C.i false a (fun K => C.ai i j K) j fun k m =>
 C.i false a (fun K => C.bi Tryz.prog .eql 172 (.tmp 9) (.const (.pointer none)) k (.pointer none) m K) m fun o p =>
 C.a2 (some a) (some (.bool true)) (some o) p fun q r =>
 C.am q (C.ay Tryz.prog (Instr.build 176 #[]) r fun s t =>
 C.a3 (.cells (Value.cells s) 176) t fun u v =>
 K u v) (F292.k3 K x0 r))) : C.q Tryz.prog 292 #[x0] w K := q9 (A := F292.ann) (args := [x0]) (qq h)

theorem F293.sh (h : (C.a3 (.cells (Value.cells x0) 176) w fun a b =>
 C.a3 (.cells (Value.cells x1) 310) b fun c d =>
 C.ab 0 a d fun f g =>
 C.ai f g fun i j =>
 C.ao 2 c j fun k m =>
 C.q Tryz.prog 309 #[i, k] m fun o p =>
 K o p)) : C.q Tryz.prog 293 #[x0, x1] w K := q9 (A := A0) (args := [x0, x1]) (qq h)

theorem F299.sh (h : (C.a3 (.cells (Value.cells x0) 176) w fun a b =>
 C.ab 0 a b fun c d =>
 C.ai c d fun f g =>
 C.q Tryz.prog 319 #[f] g fun i j =>
 K i j)) : C.q Tryz.prog 299 #[x0] w K := q9 (A := A0) (args := [x0]) (qq h)

theorem F300.sh (h : (C.a3 (.cells (Value.cells x0) 176) w fun a b =>
 C.ab 0 a b fun c d =>
 C.ai c d fun f g =>
 C.q Tryz.prog 320 #[f] g fun i j =>
 K i j)) : C.q Tryz.prog 300 #[x0] w K := q9 (A := A0) (args := [x0]) (qq h)

theorem F321.sh (h : (C.a3 (.cells #[.int .i64 0, .int .i64 0] 310) w fun a b =>
 C.q Tryz.prog 292 #[x0] b fun c d =>
 C.ad c d fun f g =>
 C.ao 1 f g fun i j =>
 C.q Tryz.prog 334 #[i] j fun k m =>
 C.a0 0 k m fun o p =>
 C.a0 1 k p fun q r =>
 C.ak 2 a o r fun s =>
 C.ao 2 a s fun r9 _ =>
 K (.tuple #[r9, q]) s)) : C.q Tryz.prog 321 #[x0] w K := q9 (A := A0) (args := [x0]) (qq h)

theorem F323.sh (h : (C.q Tryz.prog 292 #[x0] w fun a b =>
 C.ad a b fun c d =>
 C.ao 1 c d fun f g =>
 C.q Tryz.prog 336 #[f] g fun i j =>
 K i j)) : C.q Tryz.prog 323 #[x0] w K := q9 (A := A0) (args := [x0]) (qq h)

theorem F326.sh (h : (C.q Tryz.prog 276 #[x0] w fun a b =>
 C.q Tryz.prog 337 #[a, x1] b fun c d =>
 K c d)) : C.q Tryz.prog 326 #[x0, x1] w K := q9 (A := A0) (args := [x0, x1]) (qq h)

theorem F334.sh (h : (C.a3 (.cells (Value.cells x0) 176) w fun a b =>
 C.a3 (.cells #[.int .i64 0, .int .i64 0] 310) b fun c d =>
 C.ab 0 a d fun f g =>
 C.ai f g fun i j =>
 C.q Tryz.prog 341 #[i] j fun k m =>
 C.a0 0 k m fun o p =>
 C.a0 1 k p fun q r =>
 C.ak 2 c o r fun s =>
 C.ao 2 c s fun r9 _ =>
 K (.tuple #[r9, q]) s)) : C.q Tryz.prog 334 #[x0] w K := q9 (A := A0) (args := [x0]) (qq h)

theorem F336.sh (h : (C.a3 (.cells (Value.cells x0) 176) w fun a b =>
 C.ab 0 a b fun c d =>
 C.ai c d fun f g =>
 C.q Tryz.prog 342 #[f] g fun i j =>
 K i j)) : C.q Tryz.prog 336 #[x0] w K := q9 (A := A0) (args := [x0]) (qq h)
end
end Go.Proofs.YtcakfaakbpdklaaGreatDoorV
namespace Go.Proofs.YtcakfaakbpdklaaGreatDoorV
open Go Go.Proofs Go.RowKit
set_option linter.unusedVariables false
set_option linter.unusedSimpArgs false
set_option maxRecDepth 10000
def qbv (e : Int × Int) : Value := .agg #[.int .i64 e.1, .int .i64 e.2]
def qcm (l : List (Int × Int)) : List (List Value) := l.map fun e => [.int .i64 e.1, .int .i64 e.2]
theorem qcn (l : List (Int × Int)) : (qcm l).length = l.length := by simp [qcm]
theorem ql1 {l : List (Int × Int)} : ∀ y ∈ qcm l, ∀ u ∈ y, u.oneCell' = true := by
  intro y hy u hu
  simp only [qcm, List.mem_map] at hy
  obtain ⟨x, _, rfl⟩ := hy
  simp only [List.mem_cons, List.not_mem_nil, or_false] at hu
  rcases hu with rfl | rfl <;> rfl
theorem qcg {e : Int × Int} : ∀ v ∈ (qbv e).cells.toList, v.oneCell' = true := by
  intro v hv
  simp only [qbv, Value.cells, List.mem_cons, List.not_mem_nil, or_false] at hv
  rcases hv with rfl | rfl <;> rfl
structure qcz (w : World) (b : Nat) (lv : Value) (room : Int) (l : List (Int × Int)) (over : Bool) : Prop where
  blk : w.heap[b]? = some (.cells #[lv, .int .i64 room, .bool over] 252 (0, 0))
  own : qad w lv 310 2 (qcm l)
  rm : 1 ≤ room ∧ room ≤ 256
  le : (l.length : Int) ≤ room
theorem qcz.keep {S : List Nat} {w w' : World} {b : Nat} {lv : Value} {room : Int} {l : List (Int × Int)} {over : Bool} (h : qcz w b lv room l over) (hf : Fr S w w') (hb : b ∉ S) (hl : ∀ g ∈ qab lv, g ∉ S) : qcz w' b lv room l over :=
  ⟨hf.at_ h.blk hb, h.own.keep' hf hl, h.rm, h.le⟩
section
variable {K : VK} {w : World} {b : Nat} {lv : Value} {room : Int} {l : List (Int × Int)} {over : Bool}
theorem bsE (e : Int × Int) : (Instr.buildSlice 248 1 #[(0, .agg #[.int .i64 e.1, .int .i64 e.2])]).run Tryz.prog w = .ok (.slice (some ⟨w.heap.size, 0, none⟩) 1 1) (w.alloc (.cells #[.int .i64 e.1, .int .i64 e.2] 310)) := by kernel_rfl
theorem qy4 {e : Int × Int} (h : w.heap[b]? = some (.cells #[lv, .int .i64 room, .bool over] 252 (0, 0))) (ho : qad w lv 310 2 (qcm l)) (hl : l.length ≤ 1000)
    (hk : ∀ lv' w', Fr (b :: qab lv) w w' → w'.heap[b]? = some (.cells #[lv', .int .i64 room, .bool over] 252 (0, 0)) → qad w' lv' 310 2 (qcm (l ++ [e])) → (∀ g ∈ qab lv', g ∈ qab lv ∨ w.heap.size ≤ g) → K (.tuple #[]) w') :
    C.q Tryz.prog 329 #[.pointer (some ⟨b, 0, none⟩), qbv e] w K := by
  refine F329.sh (C.av fun x w1 hn => ?_)
  have ln := hn.is
  have hxb : x ≠ b := by have := qac h; omega
  refine C.a4 (fun w' => w'.heap[x]? = some (.cells #[.int .i64 e.1, .int .i64 e.2] 310 (0, 0))) fun w2 hf2 _ => ⟨hf2.at_ hn.at_ (by simp), ?_⟩
  have h2 := hf2.at_ (hn.fr.at_ h (by simp)) (by simp)
  have o2 := (ho.keep hn.fr (by simp)).keep hf2 (by simp)
  have f2 := hn.fr.trans hf2
  try simp only [C.af, C.ag, Nat.zero_add]
  refine C.bn (vs := [.int .i64 e.1, .int .i64 e.2]) (fun w' hw => ⟨_, _, _, hw, by simp, rfl⟩) ?_
  have ox : ∀ w', Fr [] w w' → x ∉ qab lv := fun _ _ hg => by have := ho.lt (qan.1 hg); omega
  have fin : ∀ w3 lv3 w4, Fr [] w w3 → qad w4 lv3 310 2 (qcm l ++ [[.int .i64 e.1, .int .i64 e.2]]) → Fr (qab lv) w3 w4 → (∀ g ∈ qab lv3, g ∈ qab lv ∨ w3.heap.size ≤ g) → w3.heap[b]? = some (.cells #[lv, .int .i64 room, .bool over] 252 (0, 0)) → w3.heap[x]? = some (.cells #[.int .i64 e.1, .int .i64 e.2] 310 (0, 0)) →
      w4.heap[x]? = some (.cells #[.int .i64 e.1, .int .i64 e.2] 310 (0, 0)) ∧ C.ak 1 (.pointer (some ⟨b, 0, none⟩)) lv3 w4 fun w5 => (w5.heap[x]? = some (.cells #[.int .i64 e.1, .int .i64 e.2] 310 (0, 0)) ∧ K (.tuple #[]) w5) := by
    intro w3 lv3 w4 f3 o4 f4 g4 b3 x3
    have nb := ho.nb h (by decide : 310 ≠ 252)
    refine ⟨f4.at_ x3 (ox _ f3), C.bb (f4.at_ b3 nb) o4.one.2 o4.one.1 (by simp) fun w5 hu => ⟨hu.fr.at_ (f4.at_ x3 (ox _ f3)) (by simpa using hxb), ?_⟩⟩
    have e5 : qcm (l ++ [e]) = qcm l ++ [[.int .i64 e.1, .int .i64 e.2]] := by simp [qcm]
    have gn : ∀ g ∈ qab lv3, g ∈ qab lv ∨ w.heap.size ≤ g := fun g hg => by
      rcases g4 g hg with c | c
      · exact .inl c
      · have := f3.size; exact .inr (by omega)
    refine hk lv3 w5 (((f3.w.trans (f4.mono fun z hz => by simp [hz])).trans (hu.fr.mono fun z hz => by simp only [List.mem_singleton] at hz; simp [hz]))) ?_ ?_ gn
    · have := hu.at_
      simpa using this
    · rw [e5]
      exact o4.keep' hu.fr fun g hg hg' => by
        simp only [List.mem_singleton] at hg'
        subst hg'
        rcases gn g hg with c | c
        · exact nb c
        · have := qac h; omega
  refine ⟨C.ae h2 rfl ⟨hf2.at_ hn.at_ (by simp), C.a5 (bsE e) ?_, trivial⟩, C.a5 (bsE e) ?_, trivial⟩
  · have hw := New.mk' w2 (.cells #[.int .i64 e.1, .int .i64 e.2] 310)
    refine ⟨hw.fr.at_ (hf2.at_ hn.at_ (by simp)) (by simp), C.ci (W0 := qgb _) (ys := [[.int .i64 e.1, .int .i64 e.2]]) (z := qbv (0, 0)) (sz := 2) (bytes := 16) Tryz.underlying248 (by kernel_rfl) rfl (by decide) (qfw _) (qe8 _ _) (o2.keep hw.fr (by simp)) (RdS.of_block hw.at_ rfl (by simp) (by simp) (by simp) (by simp)) (ql1 (l := [e])) (by rw [qcn]; simp; omega) (by rw [qcn]; simp; omega) fun v' w' a _ c d e' => ?_, trivial⟩
    have := fin _ v' w' (f2.trans hw.fr) c d e' (hw.fr.at_ h2 (by simp)) (hw.fr.at_ (hf2.at_ hn.at_ (by simp)) (by simp))
    exact ⟨this.1, this.2, trivial⟩
  · have hw := New.mk' w2 (.cells #[.int .i64 e.1, .int .i64 e.2] 310)
    refine ⟨hw.fr.at_ (hf2.at_ hn.at_ (by simp)) (by simp), C.ae (hw.fr.at_ h2 (by simp)) rfl ⟨hw.fr.at_ (hf2.at_ hn.at_ (by simp)) (by simp), C.ci (W0 := qgb _) (ys := [[.int .i64 e.1, .int .i64 e.2]]) (z := qbv (0, 0)) (sz := 2) (bytes := 16) Tryz.underlying248 (by kernel_rfl) rfl (by decide) (qfw _) (qe8 _ _) (o2.keep hw.fr (by simp)) (RdS.of_block hw.at_ rfl (by simp) (by simp) (by simp) (by simp)) (ql1 (l := [e])) (by rw [qcn]; simp; omega) (by rw [qcn]; simp; omega) fun v' w' a _ c d e' => ?_, trivial⟩, trivial⟩
    have := fin _ v' w' (f2.trans hw.fr) c d e' (hw.fr.at_ h2 (by simp)) (hw.fr.at_ (hf2.at_ hn.at_ (by simp)) (by simp))
    exact ⟨this.1, this.2, trivial⟩
theorem qww {e : Int × Int} (h : qcz w b lv room l over)
    (h1 : (l.length : Int) = room → ∀ w', Fr [b] w w' → qcz w' b lv room l true → K (.bool false) w')
    (h2 : (l.length : Int) ≠ room → ∀ lv' w', Fr (b :: qab lv) w w' → qcz w' b lv' room (l ++ [e]) over → (∀ g ∈ qab lv', g ∈ qab lv ∨ w.heap.size ≤ g) → K (.bool true) w') :
    C.q Tryz.prog 309 #[.pointer (some ⟨b, 0, none⟩), qbv e] w K := by
  have hr := h.rm
  refine F309.sh (C.av fun x w1 hn => ⟨_, qam _ _ _ Tryz.underlying173, ?_⟩)
  have b1 := hn.fr.at_ h.blk (by simp)
  have ln := hn.is
  try simp only [C.ar, C.af, C.ag, C.al, Nat.zero_add]
  refine C.ae (v := .int .i64 room) b1 rfl ?_
  simp only [C.ac, C.az, decide_false, show ¬ room = 0 by omega]
  refine C.a4 (fun w' => w'.heap[b]? = some (.cells #[lv, .int .i64 room, .bool over] 252 (0, 0))) fun w2 hf2 _ => ⟨hf2.at_ b1 (by simp), ?_⟩
  have b2 := hf2.at_ b1 (by simp)
  have o2 := (h.own.keep hn.fr (by simp)).keep hf2 (by simp)
  have f2 := hn.fr.trans hf2
  refine C.an (v := lv) (fun w' hw => ⟨_, _, _, hw, rfl⟩) (C.bh o2.rd (C.an (v := .int .i64 room) (fun w' hw => ⟨_, _, _, hw, rfl⟩) ?_))
  rw [qcn]
  by_cases c : (l.length : Int) = room
  · simp only [C.ah, C.az, eq_self, decide_true, c]
    refine C.bb b2 rfl rfl (by simp) fun w3 hu => ?_
    refine h1 c w3 (f2.w.trans hu.fr) ⟨by simpa using hu.at_, o2.keep' hu.fr (fun g hg hg' => by
      simp only [List.mem_singleton] at hg'; subst hg'; exact o2.nb b2 (by decide) hg), hr, h.le⟩
  · simp only [C.ac, C.az, decide_false, c]
    have x2 := hf2.at_ hn.at_ (by simp)
    have nx : x ∉ b :: qab lv := by
      simp only [List.mem_cons, not_or]
      exact ⟨by have := qac h.blk; omega, fun hg => by have := h.own.lt (qan.1 hg); omega⟩
    refine F309.k6.to (C.a4 (fun w' => w'.heap[x]? = some (.cells #[.int .i64 e.1, .int .i64 e.2] 310 (0, 0))) fun w3 hf3 _ => ⟨hf3.at_ x2 (by simp), ?_⟩)
    try simp only [C.af, C.ag, Nat.zero_add]
    refine C.bn (vs := [.int .i64 e.1, .int .i64 e.2]) (fun w' hw => ⟨_, _, _, hw, by simp, rfl⟩) ?_
    have f3 := f2.trans hf3
    have hle := h.le
    refine ⟨qy4 (e := e) (l := l) (hf3.at_ b2 (by simp)) (o2.keep hf3 (by simp)) (by omega) fun lv' w4 hf4 b4 o4 g4 => ⟨hf4.at_ (hf3.at_ x2 (by simp)) nx, ?_⟩, trivial⟩
    refine h2 c lv' w4 (f3.w.trans hf4) ⟨b4, o4, hr, by simp; omega⟩ fun g hg => ?_
    rcases g4 g hg with d | d
    · exact .inl d
    · have := f3.size; exact .inr (by omega)
theorem C.c6 {k : IntKind} {i : Nat} (h : RdS w lv 2 (qcm l)) (hi : i < l.length) (hk : ∀ g o cs e fz, w.heap[g]? = some (.cells cs e fz) → (cs.toList.drop o).take 2 = [.int .i64 l[i].1, .int .i64 l[i].2] → o + 2 ≤ cs.size → K (.pointer (some ⟨g, o, none⟩)) w) :
    C.bj 2 lv (.int k (i : Int)) w K := by
  refine C.b6 h (by omega) (x := [.int .i64 l[i].1, .int .i64 l[i].2]) (by rw [Int.toNat_natCast]; simp [qcm, hi]) fun g o cs e fz hg _ hc => ?_
  have c0 := hc 0 (by omega)
  have c1 := hc 1 (by omega)
  simp only [Nat.add_zero, List.getElem?_cons_zero, List.getElem?_cons_succ] at c0 c1
  have hs : o + 1 < cs.size := (Array.getElem?_eq_some_iff.1 c1).1
  refine hk g o cs e fz hg ?_ (by omega)
  apply List.ext_getElem?
  intro j
  rw [List.getElem?_take, List.getElem?_drop]
  match j with
  | 0 => simpa using c0
  | 1 => simpa using c1
  | j + 2 => rw [if_neg (by omega)]; rfl
theorem qg3 (A : Option Addr) (n n' c c' : Nat) : qab (.slice A n c) = qab (.slice A n' c') := by cases A <;> rfl
theorem qym (h : qcz w b lv room l over)
    (h1 : l = [] → ∀ w', Fr [] w w' → K (.tuple #[qbv (0, 0), .bool false]) w')
    (h2 : ∀ e, l.getLast? = some e → ∀ lv' w', Fr [b] w w' → qcz w' b lv' room l.dropLast over → qab lv' = qab lv → K (.tuple #[qbv e, .bool true]) w') :
    C.q Tryz.prog 341 #[.pointer (some ⟨b, 0, none⟩)] w K := by
  have hr := h.rm
  have hle := h.le
  refine F341.sh (C.av fun x w1 hn => ⟨_, qam _ _ _ Tryz.underlying173, ?_⟩)
  have ln := hn.is
  try simp only [C.ac]
  refine F341.k3.to ?_
  try simp only [C.af, C.ag, Nat.zero_add]
  have fin : ∀ (e : Int × Int) (c : Bool) w2, w2.heap[x]? = some (.cells #[.int .i64 0, .int .i64 0] 310 (0, 0)) → (∀ w', Fr [x] w2 w' → K (.tuple #[qbv e, .bool c]) w') →
      C.ak 2 (.pointer (some ⟨x, 0, none⟩)) (qbv e) w2 fun w6 => C.ao 2 (.pointer (some ⟨x, 0, none⟩)) w6 fun r7 _ => K (.tuple #[r7, .bool c]) w6 := fun e c w2 hx hk =>
    C.a1 hx rfl qcg rfl fun w3 hu => C.ax hu.at_ rfl (hk w3 hu.fr)
  refine F345.sh (C.av fun x2 w2 hn2 => C.av fun x4 w4 hn4 => ?_)
  have l2 := hn2.is
  have l4 := hn4.is
  have s1 := hn.fr.size
  have s2 := hn2.fr.size
  have f4 := (hn.fr.trans hn2.fr).trans hn4.fr
  have b4 := f4.at_ h.blk (by simp)
  have o4 := h.own.keep f4 (by simp)
  have x24 := hn4.fr.at_ hn2.at_ (by simp)
  have x44 := hn4.at_
  have xx4 := (hn2.fr.trans hn4.fr).at_ hn.at_ (by simp)
  have hb := qac h.blk
  have sx := qac hn.at_
  have sx2 := qac hn2.at_
  try simp only [C.af, C.ag, C.a7, C.a8, Nat.zero_add]
  refine C.ae (v := lv) b4 rfl (C.bh o4.rd ?_)
  rw [qcn]
  by_cases c : l = []
  · simp only [C.ah, C.az, eq_self, decide_true, show ((l.length : Nat) : Int) = 0 by rw [c]; rfl]
    refine C.ax x44 rfl (C.a1 x24 rfl (qcg (e := (0, 0))) rfl fun w5 hu => C.ax hu.at_ rfl ?_)
    refine fin (0, 0) false w5 (hu.fr.at_ xx4 (by simp; omega)) fun w6 hf6 => h1 c w6 ?_
    exact (f4.then hu.fr (by simp; omega)).then hf6 (by simp; omega)
  · have hpos : 0 < l.length := List.length_pos_iff.2 c
    simp only [C.ac, C.az, decide_false, show ¬ ((l.length : Nat) : Int) = 0 by omega]
    refine F345.k5.to ?_
    try simp only [C.af, C.ag, C.bo, C.a7, C.a8, Nat.zero_add]
    refine C.ae (v := lv) b4 rfl ?_
    rw [qaa (n := (l.length : Int) - 1) (by omega), show (l.length : Int) - 1 = ((l.length - 1 : Nat) : Int) by omega]
    refine C.c6 o4.rd (by omega) fun g o cs e fz hg hcs ho => C.br hg (by omega) hcs ?_
    obtain ⟨la, hla⟩ : ∃ la, l.getLast? = some la := by
      cases hx : l.getLast? with
      | none => simp [c] at hx
      | some y => exact ⟨y, rfl⟩
    have hlast : l[l.length - 1] = la := by
      rw [List.getLast?_eq_getElem?, List.getElem?_eq_getElem (by omega)] at hla
      simpa using hla
    rw [hlast]
    refine C.a1 x44 rfl (qcg (e := la)) rfl fun w5 hu5 => ?_
    have b5 := hu5.fr.at_ b4 (by simp; omega)
    have o5 := o4.keep' hu5.fr fun g hg hg' => by
      simp only [List.mem_singleton] at hg'; have := h.own.lt (qan.1 hg); omega
    refine C.ae (v := lv) b5 rfl ?_
    obtain ⟨A, cp, rfl, hcp, hA⟩ := o5.cap
    have hnn : A ≠ none := fun e => by have := hA e; simp [qcm, c] at this
    have hcm : ((qcm l).length : Int) ≤ (cp : Int) := by omega
    refine C.a5 (qed (e := 310) (sz := 2) A _ cp .i64 ((l.length - 1 : Nat) : Int) Tryz.underlying248 (by kernel_rfl) (by omega) (by rw [qcn] at hcm; omega)) ?_
    have o5' := o5.take (l.length - 1) (by rw [qcn]; omega) (fun e => absurd e hnn)
    simp only [Int.toNat_natCast]
    refine C.bb b5 rfl rfl (by simp) fun w6 hu6 => ?_
    have x46 := hu6.fr.at_ hu5.at_ (by simp; omega)
    have x26 := hu6.fr.at_ (hu5.fr.at_ x24 (by simp; omega)) (by simp; omega)
    have xx6 := hu6.fr.at_ (hu5.fr.at_ xx4 (by simp; omega)) (by simp; omega)
    have o6 := o5'.keep' hu6.fr fun g hg hg' => by
      simp only [List.mem_singleton] at hg'; subst hg'; exact o5'.nb b5 (by decide) hg
    refine C.ax x46 rfl (C.a1 x26 rfl (qcg (e := la)) rfl fun w7 hu7 => C.ax hu7.at_ rfl ?_)
    refine fin la true w7 (hu7.fr.at_ xx6 (by simp; omega)) fun w8 hf8 => h2 la hla (.slice A (l.length - 1) cp) w8 ?_ ?_ (qg3 _ _ _ _ _)
    · exact (((f4.then hu5.fr (by simp; omega)).w.trans hu6.fr).then hu7.fr (by simp; omega)).then hf8 (by simp; omega)
    · refine ⟨hf8.at_ (hu7.fr.at_ (by simpa using hu6.at_) (by simp; omega)) (by simp; omega), ?_, hr, by simp; omega⟩
      have e6 : qcm l.dropLast = (qcm l).take (l.length - 1) := by simp [qcm, List.dropLast_eq_take]
      rw [e6]
      have lt6 : ∀ g ∈ qab (Value.slice A (l.length - 1) cp), g < w.heap.size := fun g hg => h.own.lt (by
        rw [qg3 A _ (qcm l).length _ cp] at hg
        exact qan.1 hg)
      exact (o6.keep' hu7.fr fun g hg hg' => by simp only [List.mem_singleton] at hg'; have := lt6 g hg; omega).keep' hf8 fun g hg hg' => by simp only [List.mem_singleton] at hg'; have := lt6 g hg; omega
theorem qw4 (h : qcz w b lv room l over) (hk : K (.int .i64 (l.length : Int)) w) : C.q Tryz.prog 319 #[.pointer (some ⟨b, 0, none⟩)] w K := by
  refine F319.sh ⟨_, qam _ _ _ Tryz.underlying173, ?_⟩
  try simp only [C.ac]
  refine F319.k3.to ?_
  try simp only [C.af, C.ag, Nat.zero_add]
  refine C.ae (v := lv) h.blk rfl (C.bh h.own.rd ?_)
  rw [qcn]
  exact hk
theorem qnr (h : qcz w b lv room l over) (hk : K (.bool over) w) : C.q Tryz.prog 320 #[.pointer (some ⟨b, 0, none⟩)] w K := by
  refine F320.sh ⟨_, qau _ _ _ Tryz.underlying173, ?_⟩
  try simp only [C.aw, C.af, C.ag, C.al, Nat.zero_add]
  refine C.ae (v := .bool over) h.blk rfl ?_
  exact hk
theorem qqj (h : qcz w b lv room l over) (hk : ∀ w', Fr [b] w w' → qcz w' b lv room l false → K (.bool over) w') : C.q Tryz.prog 342 #[.pointer (some ⟨b, 0, none⟩)] w K := by
  refine F342.sh (qnr h ?_)
  cases over with
  | false =>
    try simp only [C.ac, C.af, C.ag, Nat.zero_add]
    exact F342.k4.to (hk w (Fr.refl _ _) h)
  | true =>
    try simp only [C.ah, C.af, C.ag, Nat.zero_add]
    refine C.bb h.blk rfl rfl (by simp) fun w1 hu => F342.k4.to (hk w1 hu.fr ⟨by simpa using hu.at_, h.own.keep' hu.fr (fun g hg hg' => by
      simp only [List.mem_singleton] at hg'; subst hg'; exact h.own.nb h.blk (by decide) hg), h.rm, h.le⟩)
end
structure Gad where
  gr : Nat
  wa : Nat
  sk : Nat
  mb : Nat
structure qa0 (G : Gad) (lv : Value) (room : Int) (w : World) (g : Gy) : Prop where
  gb : w.heap[G.gr]? = some (.cells #[.pointer (some ⟨G.wa, 0, none⟩), .pointer (some ⟨G.mb, 0, none⟩)] 180 (0, 0))
  wb : w.heap[G.wa]? = some (.cells #[.pointer (some ⟨G.sk, 0, none⟩)] 176 (0, 0))
  stk : qcz w G.sk lv room g.l g.over
  mb : qa2 w G.mb 2048 g.mks
def Gad.S (G : Gad) (lv : Value) : List Nat := G.sk :: G.mb :: qab lv
def Gad.all (G : Gad) (lv : Value) : List Nat := G.gr :: G.wa :: G.S lv
def Gr (w : World) (v v' : Value) : Prop := ∀ x ∈ qab v', x ∈ qab v ∨ w.heap.size ≤ x
theorem Gr.refl (w : World) (v : Value) : Gr w v v := fun x hx => .inl hx
theorem Gr.trans {w w' : World} {v v' v'' : Value} (h : Gr w v v') (k : Gr w' v' v'') (hs : w.heap.size ≤ w'.heap.size) : Gr w v v'' := fun x hx => by
  rcases k x hx with c | c
  · exact h x c
  · exact .inr (by omega)
structure GTo (G : Gad) (lv : Value) (w : World) (lv' : Value) (w' : World) : Prop where
  fr : Fr (G.S lv) w w'
  gr : Gr w lv lv'
theorem GTo.trans {G : Gad} {lv lv' lv'' : Value} {w w' w'' : World} (h : GTo G lv w lv' w') (k : GTo G lv' w' lv'' w'') : GTo G lv w lv'' w'' :=
  ⟨h.fr.then k.fr fun x hx => by
    simp only [Gad.S, List.mem_cons] at hx ⊢
    rcases hx with c | c | c
    · exact .inl (.inl c)
    · exact .inl (.inr (.inl c))
    · rcases h.gr x c with d | d
      · exact .inl (.inr (.inr d))
      · exact .inr d, h.gr.trans k.gr h.fr.size⟩
theorem GTo.w {G : Gad} {lv : Value} {w w' : World} (h : Fr [] w w') : GTo G lv w lv w' := ⟨h.w, Gr.refl _ _⟩
theorem GTo.m {G : Gad} {lv : Value} {w w' : World} (h : Fr [G.mb] w w') : GTo G lv w lv w' := ⟨h.mono fun x hx => by simp only [List.mem_singleton] at hx; simp [Gad.S, hx], Gr.refl _ _⟩
theorem GTo.s {G : Gad} {lv lv' : Value} {w w' : World} (h : Fr [G.sk] w w') (hg : Gr w lv lv') : GTo G lv w lv' w' := ⟨h.mono fun x hx => by simp only [List.mem_singleton] at hx; simp [Gad.S, hx], hg⟩
theorem GTo.l {G : Gad} {lv lv' : Value} {w w' : World} (h : Fr (G.sk :: qab lv) w w') (hg : Gr w lv lv') : GTo G lv w lv' w' := ⟨h.mono fun x hx => by simp only [List.mem_cons] at hx; rcases hx with c | c <;> simp [Gad.S, c], hg⟩
section
variable {K : VK} {w w' : World} {G : Gad} {lv : Value} {room : Int} {g : Gy}
theorem qa0.keep {S : List Nat} (h : qa0 G lv room w g) (hf : Fr S w w') (ha : ∀ x ∈ G.all lv, x ∉ S) : qa0 G lv room w' g :=
  ⟨hf.at_ h.gb (ha _ (by simp [Gad.all])), hf.at_ h.wb (ha _ (by simp [Gad.all])), h.stk.keep hf (ha _ (by simp [Gad.all, Gad.S])) (fun x hx => ha x (by simp [Gad.all, Gad.S, hx])), h.mb.keep hf (ha _ (by simp [Gad.all, Gad.S]))⟩
theorem qa0.keep0 (h : qa0 G lv room w g) (hf : Fr [] w w') : qa0 G lv room w' g := h.keep hf (by simp)
theorem qa0.lt (h : qa0 G lv room w g) : ∀ x ∈ G.all lv, x < w.heap.size := fun x hx => by
  obtain ⟨ts, t1, _⟩ := h.mb.blk
  simp only [Gad.all, Gad.S, List.mem_cons] at hx
  rcases hx with rfl | rfl | rfl | rfl | hx
  · exact qac h.gb
  · exact qac h.wb
  · exact qac h.stk.blk
  · exact qac t1
  · exact h.stk.own.lt (qan.1 hx)
theorem qa0.setMk {m : Bs} (h : qa0 G lv room w g) (hf : Fr [G.mb] w w') (hm : qa2 w' G.mb 2048 m) : qa0 G lv room w' { g with mks := m } := by
  obtain ⟨ts, t1, _⟩ := h.mb.blk
  exact ⟨hf.at_ h.gb (by simp only [List.mem_singleton]; exact qa1 h.gb t1 (by simp)), hf.at_ h.wb (by simp only [List.mem_singleton]; exact qa1 h.wb t1 (by simp)), h.stk.keep hf (by simp only [List.mem_singleton]; exact qa1 h.stk.blk t1 (by simp)) (fun x hx e => by
    simp only [List.mem_singleton] at e; subst e; exact h.stk.own.nb t1 (by decide) hx), hm⟩
theorem qa0.setSt {lv' : Value} {l : List (Int × Int)} {o : Bool} (h : qa0 G lv room w g) (hf : Fr (G.sk :: qab lv) w w') (hm : qcz w' G.sk lv' room l o) : qa0 G lv' room w' { g with l := l, over := o } := by
  obtain ⟨ts, t1, _⟩ := h.mb.blk
  have no : ∀ {b : Nat} {cs : Array Value} {e : TypeId}, w.heap[b]? = some (.cells cs e (0, 0)) → e ≠ 252 → e ≠ 310 → b ∉ G.sk :: qab lv := fun hb h1 h2 hx => by
    simp only [List.mem_cons] at hx
    rcases hx with c | c
    · exact qa1 hb h.stk.blk (by simp [h1]) c
    · exact h.stk.own.nb hb (Ne.symm h2) c
  exact ⟨hf.at_ h.gb (no h.gb (by decide) (by decide)), hf.at_ h.wb (no h.wb (by decide) (by decide)), hm, h.mb.keep hf (no t1 (by decide) (by decide))⟩
theorem qhd (h : qa0 G lv room w g) (hk : K (.pointer (some ⟨G.wa, 0, none⟩)) w) : C.q Tryz.prog 292 #[.pointer (some ⟨G.gr, 0, none⟩)] w K := by
  refine F292.sh ⟨_, qam _ _ _ Tryz.underlying120, ?_⟩
  try simp only [C.ar, C.af, C.ag, C.al, Nat.zero_add]
  refine C.ae (v := .pointer (some ⟨G.wa, 0, none⟩)) h.gb rfl ⟨_, qam _ _ _ Tryz.underlying172, ?_⟩
  try simp only [C.ac]
  refine F292.k3.to ?_
  try simp only [C.af, C.ag, Nat.zero_add]
  exact C.ae (v := .pointer (some ⟨G.wa, 0, none⟩)) h.gb rfl hk
theorem qpj (h : qa0 G lv room w g) (hk : K (.pointer (some ⟨G.mb, 0, none⟩)) w) : C.q Tryz.prog 276 #[.pointer (some ⟨G.gr, 0, none⟩)] w K := by
  refine F276.sh ⟨_, qam _ _ _ Tryz.underlying120, ?_⟩
  try simp only [C.ac]
  refine F276.k3.to ?_
  try simp only [C.af, C.ag, Nat.zero_add]
  exact C.ae (v := .pointer (some ⟨G.mb, 0, none⟩)) h.gb rfl hk
theorem qt7 {a : Int} (h : qa0 G lv room w g) (hk : K (.bool (g.is a)) w) : C.q Tryz.prog 230 #[.pointer (some ⟨G.gr, 0, none⟩), .int .i64 a] w K :=
  F230.sh (qpj h (qk4 h.mb hk))
theorem qs0 {a : Int} : ({ g with mks := qjx 2048 g.mks a } : Gy) = g.black a := by
  unfold Gy.black qjx; split <;> rfl
theorem qlh {a : Int} (h : qa0 G lv room w g) (hk : ∀ w', Fr [G.mb] w w' → qa0 G lv room w' (g.black a) → K (.bool (decide (0 ≤ a ∧ a < 2048 ∧ ¬ g.is a))) w') : C.q Tryz.prog 260 #[.pointer (some ⟨G.gr, 0, none⟩), .int .i64 a] w K := by
  refine F260.sh (qpj h (qoj h.mb fun w1 hf1 h1 => ?_))
  have := hk w1 hf1 (qs0 ▸ h.setMk hf1 h1)
  have e : (decide (0 ≤ a) && decide (a < 2048) && !g.mks a.toNat) = decide (0 ≤ a ∧ a < 2048 ∧ ¬ g.is a) := by
    unfold Gy.is qd5
    by_cases c1 : 0 ≤ a
    · by_cases c2 : a < 2048
      · cases c3 : g.mks a.toNat <;> simp [c1, c2]
      · simp [c2]
    · simp [c1]
  rw [e]; exact this
theorem qsd {a : Int} (h : qa0 G lv room w g) (hk : ∀ w', Fr [G.mb] w w' → qa0 G lv room w' (g.clear a) → K (.bool (g.is a)) w') : C.q Tryz.prog 326 #[.pointer (some ⟨G.gr, 0, none⟩), .int .i64 a] w K := by
  refine F326.sh (qpj h (qlm h.mb fun w1 hf1 h1 => ?_))
  have e : ({ g with mks := qlu 2048 g.mks a } : Gy) = g.clear a := by
    unfold Gy.clear qlu Gy.is; split <;> rfl
  exact hk w1 hf1 (e ▸ h.setMk hf1 h1)
theorem qnk {e : Int × Int} (h : qa0 G lv room w g) (hk : ∀ b lv' w', GTo G lv w lv' w' → qa0 G lv' room w' (g.push room e) → K (.bool b) w') : C.q Tryz.prog 261 #[.pointer (some ⟨G.gr, 0, none⟩), qbv e] w K := by
  refine F261.sh (C.av fun x w1 hn => C.a4 (fun w' => w'.heap[x]? = some (.cells #[.int .i64 e.1, .int .i64 e.2] 310 (0, 0))) fun w2 hf2 _ => ⟨hf2.at_ hn.at_ (by simp), ?_⟩)
  have ln := hn.is
  have x2 := hf2.at_ hn.at_ (by simp)
  have f2 := hn.fr.trans hf2
  have h2 := h.keep0 f2
  refine C.bn (vs := [.int .i64 e.1, .int .i64 e.2]) (fun w' hw => ⟨_, _, _, hw, by simp, rfl⟩) ⟨qhd h2 ⟨x2, ?_⟩, trivial⟩
  try simp only [C.ag]
  refine ⟨C.ax h2.wb rfl ⟨x2, ?_⟩, trivial⟩
  refine ⟨F293.sh (C.av fun y w3 hn3 => C.av fun z w4 hn4 => ?_), trivial⟩
  have f4 := hn3.fr.trans hn4.fr
  have h4 := h2.keep0 f4
  have l3 := hn3.is
  try simp only [C.af, Nat.zero_add]
  refine C.ae (v := .pointer (some ⟨G.sk, 0, none⟩)) (hn4.fr.at_ hn3.at_ (by simp)) rfl (C.ax hn4.at_ rfl ?_)
  have nx : ∀ g ∈ G.S lv, g < w.heap.size := fun g hg => h.lt g (by simp [Gad.all, hg])
  have x4 := f4.at_ x2 (by simp)
  have hx : x ∉ G.S lv := fun hg => by have := nx x hg; omega
  unfold Gy.push at hk
  refine qww (e := e) h4.stk (fun c w5 hf5 h5 => ⟨hf5.at_ x4 (by simp only [List.mem_singleton]; intro ee; exact hx (by simp [Gad.S, ee])), ?_⟩) fun c lv' w5 hf5 h5 hg5 => ⟨hf5.at_ x4 (fun ee => hx (by simp only [List.mem_cons] at ee; rcases ee with d | d <;> simp [Gad.S, d])), ?_⟩
  · rw [if_pos c] at hk
    exact hk false lv w5 ((GTo.w (f2.trans f4)).trans (GTo.s hf5 (Gr.refl _ _))) (h4.setSt (hf5.mono (by simp)) h5)
  · rw [if_neg c] at hk
    exact hk true lv' w5 ((GTo.w (f2.trans f4)).trans (GTo.l hf5 hg5)) (h4.setSt hf5 h5)
theorem qom (h : qa0 G lv room w g) (hk : ∀ w', Fr [] w w' → K (.int .i64 (g.l.length : Int)) w') : C.q Tryz.prog 270 #[.pointer (some ⟨G.gr, 0, none⟩)] w K := by
  refine F270.sh (qhd h ?_)
  try simp only [C.ag]
  refine C.ax h.wb rfl (F299.sh (C.av fun y w1 hn => ?_))
  try simp only [C.af, Nat.zero_add]
  exact C.ae (v := .pointer (some ⟨G.sk, 0, none⟩)) hn.at_ rfl (qw4 (h.keep0 hn.fr).stk (hk w1 hn.fr))
theorem quw (h : qa0 G lv room w g) (hk : ∀ w', Fr [] w w' → K (.bool g.over) w') : C.q Tryz.prog 271 #[.pointer (some ⟨G.gr, 0, none⟩)] w K := by
  refine F271.sh (qhd h ?_)
  try simp only [C.ag]
  refine C.ax h.wb rfl (F300.sh (C.av fun y w1 hn => ?_))
  try simp only [C.af, Nat.zero_add]
  exact C.ae (v := .pointer (some ⟨G.sk, 0, none⟩)) hn.at_ rfl (qnr (h.keep0 hn.fr).stk (hk w1 hn.fr))
theorem qpv (h : qa0 G lv room w g) (hk : ∀ w', GTo G lv w lv w' → qa0 G lv room w' { g with over := false } → K (.bool g.over) w') : C.q Tryz.prog 323 #[.pointer (some ⟨G.gr, 0, none⟩)] w K := by
  refine F323.sh (qhd h ?_)
  try simp only [C.ag]
  refine C.ax h.wb rfl (F336.sh (C.av fun y w1 hn => ?_))
  try simp only [C.af, Nat.zero_add]
  have h1 := h.keep0 hn.fr
  exact C.ae (v := .pointer (some ⟨G.sk, 0, none⟩)) hn.at_ rfl (qqj h1.stk fun w2 hf2 h2 => hk w2 ((GTo.w hn.fr).trans (GTo.s hf2 (Gr.refl _ _))) (h1.setSt (hf2.mono (by simp)) h2))
theorem quv (h : qa0 G lv room w g)
    (h1 : g.l = [] → ∀ w', Fr [] w w' → K (.tuple #[qbv (0, 0), .bool false]) w')
    (h2 : ∀ e, g.l.getLast? = some e → ∀ lv' w', GTo G lv w lv' w' → qa0 G lv' room w' { g with l := g.l.dropLast } → K (.tuple #[qbv e, .bool true]) w') :
    C.q Tryz.prog 321 #[.pointer (some ⟨G.gr, 0, none⟩)] w K := by
  refine F321.sh (C.av fun x w1 hn => qhd (h.keep0 hn.fr) ?_)
  try simp only [C.ag]
  refine C.ax (hn.fr.at_ h.wb (by simp)) rfl (F334.sh (C.av fun y w2 hn2 => C.av fun z w3 hn3 => ?_))
  have l1 := hn.is
  have l2 := hn2.is
  have l3 := hn3.is
  have s1 := hn.fr.size
  have s2 := hn2.fr.size
  have f3 := (hn.fr.trans hn2.fr).trans hn3.fr
  have h3 := h.keep0 f3
  have x3 := (hn2.fr.trans hn3.fr).at_ hn.at_ (by simp)
  have z3 := hn3.at_
  have lx := qac hn.at_
  try simp only [C.af, C.a7, C.a8, Nat.zero_add]
  have fin : ∀ (e : Int × Int) (c : Bool) w4, w4.heap[x]? = some (.cells #[.int .i64 0, .int .i64 0] 310 (0, 0)) → w4.heap[z]? = some (.cells #[.int .i64 0, .int .i64 0] 310 (0, 0)) → (∀ w', Fr [x, z] w4 w' → K (.tuple #[qbv e, .bool c]) w') →
      C.ak 2 (.pointer (some ⟨z, 0, none⟩)) (qbv e) w4 fun w5 => C.ao 2 (.pointer (some ⟨z, 0, none⟩)) w5 fun r6 _ =>
        C.ak 2 (.pointer (some ⟨x, 0, none⟩)) r6 w5 fun w8 => C.ao 2 (.pointer (some ⟨x, 0, none⟩)) w8 fun r9 _ => K (.tuple #[r9, .bool c]) w8 := fun e c w4 hx hz hk => by
    refine C.a1 hz rfl qcg rfl fun w5 hu => C.ax hu.at_ rfl ?_
    refine C.a1 (hu.fr.at_ hx (by simp; omega)) rfl (qcg (e := e)) rfl fun w6 hu6 => C.ax hu6.at_ rfl ?_
    exact hk w6 ((hu.fr.mono (by simp)).trans (hu6.fr.mono (by simp)))
  refine C.ae (v := .pointer (some ⟨G.sk, 0, none⟩)) (hn3.fr.at_ hn2.at_ (by simp)) rfl (qym h3.stk (fun c w4 hf4 => ?_) fun e c lv' w4 hf4 h4 hb4 => ?_)
  · try simp only [C.a7, C.a8]
    refine fin (0, 0) false w4 (hf4.at_ x3 (by simp)) (hf4.at_ z3 (by simp)) fun w5 hf5 => h1 c w5 ((f3.trans hf4).then hf5 (by simp; omega))
  · have lk := h.lt G.sk (by simp [Gad.all, Gad.S])
    have h4' := h3.setSt (hf4.mono (by simp)) h4
    try simp only [C.a7, C.a8]
    refine fin e true w4 (hf4.at_ x3 (by simp; omega)) (hf4.at_ z3 (by simp; omega)) fun w5 hf5 => h2 e c lv' w5 ?_ ?_
    · have f4 : GTo G lv w lv' w4 := (GTo.w f3).trans (GTo.s hf4 (fun x hx => .inl (hb4 ▸ hx)))
      exact ⟨f4.fr.then hf5 (by simp; omega), f4.gr⟩
    · refine h4'.keep hf5 fun g hg => ?_
      have : g < w.heap.size := h.lt g (by
        simp only [Gad.all, Gad.S, hb4] at hg ⊢; exact hg)
      simp; omega
theorem qjt {a : Int} (h : qa0 G lv room w g) (hk : ∀ b lv' w', GTo G lv w lv' w' → qa0 G lv' room w' (g.shade room a) → K (.bool b) w') : C.q Tryz.prog 210 #[.pointer (some ⟨G.gr, 0, none⟩), .int .i64 a] w K := by
  refine F210.sh (qlh h fun w1 hf1 h1 => ?_)
  unfold Gy.shade at hk
  by_cases c : 0 ≤ a ∧ a < 2048 ∧ ¬ g.is a
  · rw [if_pos c] at hk
    rw [decide_eq_true c]
    try simp only [C.ac, C.aq, Bool.not_true]
    refine F210.k3.to (C.a5 (v := qbv (a, 0)) (by kernel_rfl) (qnk (e := (a, 0)) h1 fun b lv' w2 hf2 h2 => ?_))
    exact hk true lv' w2 ((GTo.m hf1).trans hf2) h2
  · rw [if_neg c] at hk
    rw [decide_eq_false c]
    try simp only [C.ah, C.aq, Bool.not_false]
    have e : g.black a = g := by
      unfold Gy.black
      split
      · rename_i d
        have hm : g.is a = true := by
          cases hh : g.is a with
          | true => rfl
          | false => exact absurd ⟨d.1, d.2, by simp [hh]⟩ c
        simp only [Gy.is, qd5, Bool.and_eq_true] at hm
        have : qdg g.mks a.toNat true = g.mks := by
          funext j
          unfold qdg
          split
          · rename_i ej; rw [ej, hm.2]
          · rfl
        rw [this]
      · rfl
    rw [e] at h1
    exact hk false lv w1 (GTo.m hf1) h1
end
end Go.Proofs.YtcakfaakbpdklaaGreatDoorV
