/- Part 15 of what the law needs: own lemmas, in the order in which they build. -/
import Derived.Test.YtcakfaakbpdklaaGreatDoorProg
import Derived.Test.YtcakfaakbpdklaaGreatDoorTopOwn14
namespace Go.Proofs.YtcakfaakbpdklaaGreatDoorV
open Go Go.Proofs Go.RowKit
set_option linter.unusedVariables false
set_option linter.unusedSimpArgs false
set_option maxRecDepth 10000
def Kad.up (Q : Kad) (N : Nat) : Kad := { Q with H := { Q.H with N := N } }
theorem qah.raise {w : World} {Q : Kad} {m : Mv} {cf : Cf} {c : Co} {N : Nat} (h : qah Q m cf w c) (hm : m.all = []) (h1 : Q.H.N ≤ N) (h2 : N ≤ w.heap.size) : qah (Q.up N) m cf w c := by
  have e1 : qab m.lv = [] := by unfold Mv.all at hm; exact (List.append_eq_nil_iff.1 hm).1
  have e2 := (List.append_eq_nil_iff.1 (List.append_eq_nil_iff.1 (show qab m.lv ++ (qbb m.vs ++ qbb m.ts) = [] from hm)).2)
  obtain ⟨cs, b1, b2⟩ := h.blk
  refine ⟨⟨h.ok.dj, fun x hx => by have := h.ok.lo x hx; show x < N; omega⟩, ⟨⟨h.hp.ok.nd, h.hp.ok.dj, fun x hx => by have := h.hp.ok.lo x hx; show x < N; omega⟩, h.hp.st, h.hp.gy, h.hp.tb, h.hp.sb, by rw [e1]; simp, h2, h.hp.pg, h.hp.ck⟩, ⟨cs, b1, b2.sz, b2.s0, b2.s1, b2.s12, b2.s13, b2.s14, b2.s15, b2.ts, b2.s24, b2.s25, b2.s26, b2.s27⟩, h.rg, h.fb, h.th, h.tl, h.t16, by rw [e2.1]; simp, by rw [e2.2]; simp⟩
section
variable {K : VK} {w : World}
theorem Cf.Legal.fine {cf : Cf} (L : cf.Legal) : cf.Fine ∧ cf.Co := by
  have q0 : 2 ≤ cf.pages ∧ cf.pages ≤ 64 := L.sp 0 (by omega)
  have q1 : 1 ≤ cf.threads ∧ cf.threads ≤ 8 := L.sp 1 (by omega)
  have q2 : 1 ≤ cf.window ∧ cf.window ≤ 64 := L.sp 2 (by omega)
  have q3 : 1 ≤ cf.quantum ∧ cf.quantum ≤ 16 := L.sp 3 (by omega)
  have q4 : 0 ≤ cf.target ∧ cf.target ≤ 1000 := L.sp 4 (by omega)
  have q5 : 0 ≤ cf.cap ∧ cf.cap ≤ 65535 := L.sp 5 (by omega)
  have q6 : 0 ≤ cf.tax ∧ cf.tax ≤ 64 := L.sp 6 (by omega)
  have q7 : 1 ≤ cf.chunk ∧ cf.chunk ≤ 16 := L.sp 7 (by omega)
  have q8 : 1 ≤ cf.stack ∧ cf.stack ≤ 256 := L.sp 8 (by omega)
  have hm : 0 ≤ cf.window * (1000 - cf.target) := Int.mul_nonneg (by omega) (by omega)
  have hm2 : cf.window * (1000 - cf.target) ≤ cf.window * 1000 := Int.mul_le_mul_of_nonneg_left (by omega) (by omega)
  have em : 0 ≤ cf.most ∧ cf.most ≤ cf.window := by
    unfold Cf.most
    rw [Int.tdiv_eq_ediv_of_nonneg hm]; omega
  exact ⟨⟨q1, q2, em, by omega, q5, q6⟩, ⟨by omega, q1, q7, q8⟩⟩
theorem qxk (l b : Nat) : (Instr.build 94 #[(0, .pointer (some ⟨l, 0, none⟩)), (1, .pointer (some ⟨b, 0, none⟩))]).run Tryz.prog w = .ok (.agg #[.pointer (some ⟨l, 0, none⟩), .pointer (some ⟨b, 0, none⟩)]) w := by kernel_rfl
theorem bMa (l b co : Nat) (cf : Cf) : (Instr.build 96 #[(0, .agg #[.pointer (some ⟨l, 0, none⟩), .pointer (some ⟨b, 0, none⟩)]), (1, .agg (cfV cf).toArray), (2, .pointer (some ⟨co, 0, none⟩))]).run Tryz.prog w = .ok (.agg #[.pointer (some ⟨l, 0, none⟩), .pointer (some ⟨b, 0, none⟩), .int .i64 cf.pages, .int .i64 cf.threads, .int .i64 cf.window, .int .i64 cf.quantum, .int .i64 cf.target, .int .i64 cf.cap, .int .i64 cf.tax, .int .i64 cf.chunk, .int .i64 cf.stack, .int .i64 cf.trigger, .pointer (some ⟨co, 0, none⟩)]) w := by kernel_rfl
theorem qhn {cf : Cf} (hT : TzB w) (hz : 0 < w.heap.size) (h1 : ¬ cf.Legal → ∀ w', Fr [] w w' → K (.tuple #[.pointer none, .int .i64 6]) w')
    (h0 : cf.Legal → ∀ (A : Mad) (g : Gw) w', Fr [] w w' → g.all cf.threads.toNat = [] → (∀ x ∈ A.all cf.threads.toNat g, x = 0 ∨ w.heap.size ≤ x) → qae A g cf 0 w' (Ma.new cf) → K (.tuple #[.pointer (some ⟨A.ma, 0, none⟩), .int .i64 0]) w') :
    C.q Tryz.prog 16 #[.agg (cfV cf).toArray] w K := by
  refine F16.sh (C.av fun y w1 hn1 => C.ax hn1.at_ rfl (F41.sh (C.av fun y2 w2 hn2 => C.ax hn2.at_ rfl (qkd (fun L w3 hf3 => ?_) fun L w3 hf3 => ?_))))
  · have hfine := L.fine
    simp only [C.ac, C.be, C.a7, C.a8, eq_self, decide_false, ne_eq, not_true_eq_false]
    have f3 := (hn1.fr.trans hn2.fr).trans hf3
    have s3 := f3.size
    have l1 := hn1.is
    refine qun (hf3.at_ hn2.at_ (by simp)) hfine.2 (hT.keep f3 (by simp)) (by omega) fun Q m w4 hf4 hm4 hQ4 h4 => ?_
    have s4 := hf4.size
    have y4 := (hn2.fr.trans (hf3.trans hf4)).at_ hn1.at_ (by simp)
    simp only [C.ac, C.be, C.a7, C.a8, eq_self, decide_false, ne_eq, not_true_eq_false]
    refine F16.k4.to (C.a4 (fun w' => w'.heap[y]? = some (.cells (cfV cf).toArray 23 (0, 0))) fun w5 hf5 _ => ⟨hf5.at_ y4 (by simp), ?_⟩)
    have s5 := hf5.size
    try simp only [C.af, Nat.zero_add]
    refine C.an (v := .int .i64 cf.threads) (fun w' hw => ⟨_, _, _, hw, rfl⟩) (C.an (v := .int .i64 cf.window) (fun w' hw => ⟨_, _, _, hw, rfl⟩) (C.bn (vs := cfV cf) (fun w' hw => ⟨_, _, _, hw, by simp [cfV], rfl⟩) (C.an (v := .int .i64 cf.cap) (fun w' hw => ⟨_, _, _, hw, rfl⟩) (C.bn (vs := cfV cf) (fun w' hw => ⟨_, _, _, hw, by simp [cfV], rfl⟩) ?_))))
    refine ⟨qwr L fun w6 hf6 => ⟨(hf5.trans hf6).at_ y4 (by simp), ?_⟩, trivial⟩
    have s6 := hf6.size
    have hth := hfine.1.th
    obtain ⟨T, hTh⟩ := Int.eq_ofNat_of_zero_le (show 0 ≤ cf.threads by omega)
    rw [hTh]
    refine ⟨qsh T (by omega) cf.window cf.most hfine.1.wi hfine.1.mo fun lg bb w7 hf7 hlg hbb hL7 => ⟨((hf5.trans hf6).trans hf7).at_ y4 (by simp), ?_⟩, trivial⟩
    have s7 := hf7.size
    have zlg := qac hL7.obj
    obtain ⟨bcs, hb7, hbc7⟩ := hL7.bk
    have zbb := qac hb7
    refine ⟨qvs cf.cap fun bn w8 hn8 => ?_, trivial⟩
    have l8 := hn8.is
    have s8 := hn8.fr.size
    have z8 := qac hn8.at_
    have f48 := ((hf5.trans hf6).trans hf7).trans hn8.fr
    refine ⟨f48.at_ y4 (by simp), ⟨_, fun w' _ => qxk lg bn, ⟨_, fun w' _ => bMa lg bn Q.co cf, C.av fun ma w9 hn9 => ⟨(f48.trans hn9.fr).at_ y4 (by simp), ?_⟩, trivial⟩⟩⟩
    have l9 := hn9.is
    have s9 := hn9.fr.size
    have z9 := qac hn9.at_
    have f49 := f48.trans hn9.fr
    have hca := hfine.1.ca
    have ec : qa8 cf.cap 0 65535 = cf.cap := by unfold qa8; rw [if_neg (by omega), if_neg (by omega)]
    have h9 := (h4.keep0 f49).raise (N := w9.heap.size) hm4 (by have := h4.hp.le; omega) (Nat.le_refl _)
    have eT : cf.threads.toNat = T := by omega
    have sb0 : qj7 T (fun _ => Value.slice none 0 0) = [] := by simp [qj7, qab, Value.ownBlock]
    have lowN : ∀ x ∈ Q.fix ++ (Q.H.fix ++ Q.H.D.all), x < w4.heap.size := fun x hx => by have := h4.low hx; have := h4.hp.le; omega
    refine h0 L ⟨Q.up w9.heap.size, ma, lg, bb, bn⟩ ⟨m, fun _ => .slice none 0 0⟩ w9 (f3.trans (hf4.trans f49)) ?_ (fun x hx => ?_) ⟨⟨?_, fun x hx e => ?_, fun x hx => ?_⟩, hfine.1, h9, hn9.at_, ?_, ?_, ?_, fun t => by simp [Ma.new], ?_, ?_⟩
    · rw [eT]; simp only [Gw.all]; rw [hm4, sb0]; rfl
    · rw [eT] at hx
      simp only [Mad.all, Mad.fix, Gw.all, List.mem_append, List.mem_cons, List.not_mem_nil, or_false, hm4, sb0] at hx
      rcases hx with (e | e | e | e) | e
      · exact .inr (by omega)
      · exact .inr (by omega)
      · exact .inr (by omega)
      · exact .inr (by omega)
      · rcases hQ4 x e with e' | e'
        · exact .inl e'
        · exact .inr (by omega)
    · have := hL7.gb
      simp only [Mad.fix, List.nodup_cons, List.mem_cons, List.not_mem_nil, or_false, not_or, not_false_eq_true, List.nodup_nil, and_true]
      omega
    · have := lowN x e
      simp only [Mad.fix, List.mem_cons, List.not_mem_nil, or_false] at hx
      rcases hx with e | e | e | e <;> omega
    · simp only [Mad.fix, List.mem_cons, List.not_mem_nil, or_false] at hx
      show x < w9.heap.size
      rcases hx with e | e | e | e <;> omega
    · rw [eT]; exact (hL7.keep0 hn8.fr).keep0 hn9.fr
    · have := hn9.fr.at_ hn8.at_ (by simp)
      rw [ec] at this
      exact this
    · exact ⟨⟨by omega, by simp [Ma.new], by simp [Ma.new]; omega, by simp [Ma.new], by simp [Ma.new], by simp [Ma.new], by simp [Ma.new], by simp [Ma.new]⟩, by simp [Ma.new], by simp [Ma.new]⟩
    · rw [eT]; simp only; rw [sb0]; simp
    · simp [Ma.new, Co.new]
  · simp only [C.ah, C.be, C.a7, C.a8, decide_true, ne_eq, show ¬ ((6 : Int) = 0) by decide, not_false_eq_true]
    exact h1 L w3 ((hn1.fr.trans hn2.fr).trans hf3)
end
def Ma.flds (x : Ma) (a : Int) : List V2 := (List.range (x.co.s.fields a).toNat).map fun i : Nat => (x.co.s.get a (i : Int)).1
def Ma.sers (x : Ma) (l : List V2) : List V2 := l.map fun v => (v.1, (x.told v).2)
section
variable {K : VK} {w : World} {A : Mad} {g : Gw} {cf : Cf} {B : Int} {x : Ma}
theorem C.c9 {W0 : World} {v : Value} {l : List V2} {n : V2} (hf : Fr [] W0 w) (hn : qal W0 v) (hv : qad w v 60 2 (vaC l)) (hl : l.length ≤ 1000000)
    (hk : ∀ v' w', Fr [] W0 w' → qal W0 v' → qad w' v' 60 2 (vaC (l ++ [n])) → Fr (qab v) w w' → (∀ g ∈ qab v', g ∈ qab v ∨ w.heap.size ≤ g) → K v' w') :
    C.ay Tryz.prog (Instr.buildSlice 56 1 #[(0, V n.1 n.2)]) w fun x w1 => C.ay Tryz.prog (Builtin.append_ #[56, 56] 56 #[v, x]) w1 K :=
  C.cv (x := [.int .i64 n.1, .int .i64 n.2]) (e := 60) (sz := 2) (bytes := 16) (z := V 0 0) Tryz.underlying56 (by kernel_rfl) rfl (by decide) (qs3 n) rfl (by simp [Value.oneCell']) hf hn hv (by rw [qav]; omega) (by rw [qav]; omega) fun v' w' a b c d e => hk v' w' a b (by rw [qog]; exact c) d e
theorem qpu {W : World} (h0 : qae A g cf B W x) {a : Int} {n : Nat} (hn : n ≤ 127) (hk : ∀ v w', Fr [] W w' → qal W v → qad w' v 60 2 (vaC ((List.range n).map fun i : Nat => (x.co.s.get a (i : Int)).1)) → K v w') {c : Int} (hc : c.toNat = n) :
    ∀ (d i : Nat) (w : World) (v : Value), i + d = n → Fr [] W w → qal W v → qad w v 60 2 (vaC ((List.range i).map fun i : Nat => (x.co.s.get a (i : Int)).1)) →
      F50.l3 K (.pointer (some ⟨A.ma, 0, none⟩)) (.int .i64 a) v (.int .i64 c) (.int .i64 (i : Int)) w := by
  intro d
  induction d with
  | zero =>
    intro i w v hi hf hn' hv
    have e : i = n := by omega
    subst e
    refine F50.l3.to ?_
    simp only [C.ac, C.au, decide_false, show ¬ ((i : Int) < c) by omega]
    exact F50.k8.to (hk v w hf hn' hv)
  | succ d ih =>
    intro i w v hi hf hn' hv
    have h := h0.keep0 hf
    refine F50.l3.to ?_
    simp only [C.ah, C.au, decide_true, show (i : Int) < c by omega]
    refine F50.k4.to ?_
    try simp only [C.af, C.ag, Nat.zero_add]
    refine C.ae (v := .pointer (some ⟨A.Q.co, 0, none⟩)) h.blk rfl (qnm h.co fun w1 hf1 => ?_)
    try simp only [C.a7, C.a8]
    generalize hgv : (x.co.s.get a (i : Int)).1 = gv
    refine C.av fun y w2 hn2 => C.a1 (x := V gv.1 gv.2) hn2.at_ rfl qak rfl fun w3 hu3 => C.ax hu3.at_ rfl ?_
    have l2 := hn2.is
    have s1 := hf1.size
    have f3 : Fr [] w w3 := (hf1.trans hn2.fr).then hu3.fr (by simp; omega)
    refine C.c9 (n := gv) (hf.trans f3) hn' (hv.keep f3 (by simp)) (by simp; omega) fun v' w4 hf4 hn4 ho4 _ _ => ?_
    refine F50.k7.to ?_
    try simp only [C.a6]
    rw [qaa (n := (i : Int) + 1) (by omega)]
    refine ih (i + 1) w4 v' (by omega) hf4 hn4 ?_
    rw [List.range_succ, List.map_append, List.map_singleton, hgv]
    exact ho4
theorem qff {a : Int} (h : qae A g cf B w x) (hk : ∀ v w', Fr [] w w' → qal w v → qad w' v 60 2 (vaC (x.flds a)) → K v w') : C.q Tryz.prog 50 #[.pointer (some ⟨A.ma, 0, none⟩), .int .i64 a] w K := by
  have hr := qev (s := x.co.s) a
  refine F50.sh ?_
  try simp only [C.af, C.ag, Nat.zero_add]
  refine C.ae (v := .pointer (some ⟨A.Q.co, 0, none⟩)) h.blk rfl (qke h.co ?_)
  exact qpu (W := w) h (n := (x.co.s.fields a).toNat) (by omega) hk rfl (x.co.s.fields a).toNat 0 w _ (by omega) (Fr.refl _ _) (qal.nil _) (qad.nil _ _ _)
theorem qv8 (l : List V2) (j : Nat) (v : V2) : vaC (l.set j v) = (vaC l).set j [.int .i64 v.1, .int .i64 v.2] := by simp [vaC]
theorem qqk {W : World} (h0 : qae A g cf B W x) {u : Value} {l : List V2} (hl : l.length ≤ 1000) (hNu : qal W u) (hk : ∀ w', Fr [] W w' → qad w' u 60 2 (vaC (x.sers l)) → K u w') :
    ∀ (d i : Nat) (w : World), i + d = l.length → Fr [] W w → qad w u 60 2 (vaC (x.sers (l.take i) ++ l.drop i)) →
      F46.l3 K (.pointer (some ⟨A.ma, 0, none⟩)) u u (.int .i64 (l.length : Int)) (.int .i64 (i : Int)) w := by
  intro d
  induction d with
  | zero =>
    intro i w hi hf hv
    have e : i = l.length := by omega
    subst e
    refine F46.l3.to ?_
    simp only [C.ac, C.au, decide_false, show ¬ ((l.length : Int) < (l.length : Int)) by omega]
    rw [List.take_length, List.drop_length, List.append_nil] at hv
    exact F46.k8.to (hk w hf hv)
  | succ d ih =>
    intro i w hi hf hv
    have hlt : i < l.length := by omega
    have h := h0.keep0 hf
    have hsl : (x.sers (l.take i)).length = i := by simp [Ma.sers]; omega
    have hll : (x.sers (l.take i) ++ l.drop i).length = l.length := by rw [List.length_append, hsl, List.length_drop]; omega
    have hget : (x.sers (l.take i) ++ l.drop i)[i]'(by omega) = l[i] := by
      rw [List.getElem_append_right (by omega)]
      simp [hsl]
    refine F46.l3.to ?_
    simp only [C.ah, C.au, decide_true, show (i : Int) < (l.length : Int) by omega]
    refine F46.k4.to (C.ck hv.rd (by omega : i < (x.sers (l.take i) ++ l.drop i).length) fun gg o cs e fz hg hcs ho => C.br hg (by omega) hcs ?_)
    rw [hget]
    generalize hgv : l[i] = v
    refine C.av fun y w1 hn1 => C.a1 (x := V v.1 v.2) hn1.at_ rfl qak rfl fun w2 hu2 => C.ax hu2.at_ rfl ?_
    have l1 := hn1.is
    have f2 : Fr [] w w2 := hn1.fr.then hu2.fr (by simp; omega)
    refine qi0 (v := v) (h.keep0 f2) fun w3 hf3 => ?_
    have s2 := f2.size
    have s3 := hf3.size
    refine C.av fun z w4 hn4 => C.a1 (x := anV ⟨0, (x.told v).1, (x.told v).2, 0, 0⟩) hn4.at_ rfl qb3 rfl fun w5 hu5 => ?_
    have l4 := hn4.is
    have f5 : Fr [] w w5 := ((f2.trans hf3).trans hn4.fr).then hu5.fr (by simp; omega)
    have v5 := hv.keep f5 (by simp)
    try simp only [C.af, Nat.zero_add]
    refine C.ae (v := .int .i64 (x.told v).2) hu5.at_ rfl ?_
    refine v5.spot (by rw [qav]; omega) fun g2 o2 cs2 hg2 hb2 ho2 hc2 hset => ?_
    have q0 := hc2 0 (by omega)
    have e0 : ((vaC (x.sers (l.take i) ++ l.drop i))[i]'(by rw [qav]; omega)) = [.int .i64 v.1, .int .i64 v.2] := by
      simp only [vaC, List.getElem_map]
      rw [hget, hgv]
    rw [e0] at q0
    try simp only [C.af]
    refine C.bb hg2 rfl rfl (by omega) fun w6 hu6 => ?_
    have hown := hset [.int .i64 v.1, .int .i64 (x.told v).2] w6 rfl (by simp [Value.oneCell']) (by rw [qhh (by simpa using q0) ho2]; exact hu6.at_)
    refine F46.k7.to ?_
    try simp only [C.a6]
    rw [qaa (n := (i : Int) + 1) (by omega)]
    refine ih (i + 1) w6 (by omega) ((hf.trans f5).then hu6.fr fun q hq => .inr ?_) ?_
    · simp only [List.mem_singleton] at hq
      subst hq
      exact hNu.blk _ (by rw [hb2]; simp)
    · have e1 : x.sers (l.take (i + 1)) ++ l.drop (i + 1) = (x.sers (l.take i) ++ l.drop i).set i (v.1, (x.told v).2) := by
        rw [List.set_append_right _ _ (by omega), hsl, Nat.sub_self, List.drop_eq_getElem_cons hlt, List.set_cons_zero, List.take_add_one, List.getElem?_eq_getElem hlt, hgv]
        simp [Ma.sers]
      rw [e1, qv8]
      exact hown
theorem qci {u : Value} {l : List V2} (h : qae A g cf B w x) (hl : l.length ≤ 1000) (hu : qad w u 60 2 (vaC l)) (hk : ∀ v w', Fr [] w w' → qal w v → qad w' v 60 2 (vaC (x.sers l)) → K v w') : C.q Tryz.prog 46 #[.pointer (some ⟨A.ma, 0, none⟩), u] w K := by
  refine F46.sh (qlf hu.rd (by omega) fun v w1 hf1 ho1 hn1 => C.bh ho1.rd ?_)
  rw [qav]
  exact qqk (W := w) h hl hn1 (fun w' hf ho => hk v w' hf hn1 ho) l.length 0 w1 (by omega) hf1 (by simpa [Ma.sers] using ho1)
end
def qbk (out : List Int) (l : List V2) : List Int := l.foldl (fun out v => if v.1 = 2 ∧ v.2 ∉ out then out ++ [v.2] else out) out
def Ma.rchGo (x : Ma) : Nat → Nat → List Int → List Int
  | 0, _, out => out
  | d + 1, i, out => if i < out.length then Ma.rchGo x d (i + 1) (qbk out (x.flds (out.getD i 0))) else out
def Ma.rch0 (cf : Cf) (x : Ma) : List Int := (List.range cf.threads.toNat).foldl (fun (out : List Int) (t : Nat) => qbk out (x.co.roots (t : Int))) [x.co.global]
def Ma.rch (cf : Cf) (x : Ma) : List Int := x.rchGo 2050 0 (x.rch0 cf)
def qiy (l : List V2) : Prop := ∀ v ∈ l, v.1 = 2 → 0 ≤ v.2 ∧ v.2 < 2048
theorem qrl (out : List Int) (l k : List V2) : qbk out (l ++ k) = qbk (qbk out l) k := List.foldl_append
structure qbn (out : List Int) : Prop where
  ne : out ≠ []
  nd : out.tail.Nodup
  rng : ∀ x ∈ out.tail, 0 ≤ x ∧ x < 2048
theorem qjb : ∀ (n : Nat) (L : List Int), L.Nodup → (∀ x ∈ L, 0 ≤ x ∧ x < n) → L.length ≤ n
  | 0, L, _, h => by
    cases L with
    | nil => simp
    | cons a L => exact absurd (h a (by simp)) (by omega)
  | n + 1, L, hn, h => by
    have h1 := qjb n (L.erase (n : Int)) (hn.erase _) fun x hx => by
      have := (hn.mem_erase_iff).1 hx
      have := h x this.2
      omega
    have : (L.erase (n : Int)).length = if (n : Int) ∈ L then L.length - 1 else L.length := List.length_erase
    split at this <;> omega
theorem qbn.le {out : List Int} (h : qbn out) : out.length ≤ 2049 := by
  have := qjb 2048 out.tail h.nd h.rng
  rw [List.length_tail] at this
  omega
theorem qbn.add {out : List Int} (h : qbn out) {a : Int} (ha : 0 ≤ a ∧ a < 2048) (hn : a ∉ out) : qbn (out ++ [a]) := by
  obtain ⟨x, r, rfl⟩ := List.exists_cons_of_ne_nil h.ne
  have h2 := h.nd
  have h3 := h.rng
  simp only [List.tail_cons] at h2 h3
  simp only [List.mem_cons, not_or] at hn
  refine ⟨by simp, ?_, fun y hy => ?_⟩
  · simp only [List.cons_append, List.tail_cons]
    rw [List.nodup_append]
    exact ⟨h2, by simp, fun y hy z hz => by simp only [List.mem_singleton] at hz; rintro rfl; subst hz; exact hn.2 hy⟩
  · simp only [List.cons_append, List.tail_cons] at hy
    rcases List.mem_append.1 hy with c | c
    · exact h3 y c
    · rw [List.mem_singleton.1 c]; exact ha
theorem qbn.note : ∀ (l : List V2) {out : List Int}, qbn out → qiy l → qbn (qbk out l)
  | [], _, h, _ => h
  | v :: l, out, h, hl => by
    have e : qbk out (v :: l) = qbk (if v.1 = 2 ∧ v.2 ∉ out then out ++ [v.2] else out) l := rfl
    rw [e]
    refine qbn.note l ?_ fun u hu => hl u (by simp [hu])
    split
    · rename_i hc
      exact h.add (hl v (by simp) hc.1) hc.2
    · exact h
theorem qr3 {w : Int} (h : (qgr w).1.1 = 2) : 0 ≤ (qgr w).1.2 ∧ (qgr w).1.2 < 2048 := by
  unfold qgr at *
  split at h
  · rename_i hc
    rw [if_pos hc]
    simp only at h ⊢
    rw [h] at hc
    unfold chk at hc
    rw [if_neg (by decide), if_neg (by decide), if_pos rfl] at hc
    split at hc
    · rename_i h3; exact h3
    · cases hc
  · cases h
theorem qj1 (x : Ma) (a : Int) : qiy (x.flds a) := by
  intro v hv h2
  unfold Ma.flds at hv
  obtain ⟨i, _, rfl⟩ := List.mem_map.1 hv
  unfold St.get at *
  split
  · rename_i hc
    rw [if_pos hc] at h2
    exact qr3 h2
  · rename_i hc
    rw [if_neg hc] at h2
    exact absurd h2 (by decide)
theorem qs2 : qbx Tryz.prog 84 = true := by kernel_rfl
theorem qjl {f : FuncId} {cap : Array Value} {args : List Value} {w : World} {K : VK} (hb : qbx Tryz.prog f = true) (h : C.q Tryz.prog f (args ++ cap.toList).toArray w K) : qb2 Tryz.prog (.func (.func f) #[] cap) args w K := by
  simp only [qb2, hb, cond_true, List.nil_append]
  exact h
section
variable {K : VK} {A : Mad} {g : Gw} {cf : Cf} {B : Int} {x : Ma}
structure qd2 (W : World) (yb : Nat) (out : List Int) (w : World) : Prop where
  fr : Fr [] W w
  hy : W.heap.size ≤ yb
  ex : ∃ v, w.heap[yb]? = some (.cells #[v] 54 (0, 0)) ∧ qal W v ∧ qad w v 3 1 (qaf out)
theorem qd2.keep {W w w' : World} {yb : Nat} {out : List Int} (h : qd2 W yb out w) (hf : Fr [] w w') : qd2 W yb out w' := by
  obtain ⟨v, v1, v2, v3⟩ := h.ex
  exact ⟨h.fr.trans hf, h.hy, v, hf.at_ v1 (by simp), v2, v3.keep hf (by simp)⟩
theorem qp6 {W : World} {yb : Nat} {u : Value} {l : List V2} (hl : l.length ≤ 1000) (hr : qiy l) {out0 : List Int} (h0 : qbn out0) (hk : ∀ w', qd2 W yb (qbk out0 l) w' → K (.tuple #[]) w') :
    ∀ (d i : Nat) (w : World), i + d = l.length → qd2 W yb (qbk out0 (l.take i)) w → qad w u 60 2 (vaC l) →
      F84.l1 K (.pointer (some ⟨yb, 0, none⟩)) u (.int .i64 (l.length : Int)) (.int .i64 (i : Int)) w := by
  intro d
  induction d with
  | zero =>
    intro i w hi hs hu
    have e : i = l.length := by omega
    subst e
    refine F84.l1.to ?_
    simp only [C.ac, C.au, decide_false, show ¬ ((l.length : Int) < (l.length : Int)) by omega]
    rw [List.take_length] at hs
    exact hk w hs
  | succ d ih =>
    intro i w hi hs hu
    have hlt : i < l.length := by omega
    have hok : qbn (qbk out0 (l.take i)) := h0.note _ fun v hv => hr v (List.mem_of_mem_take hv)
    have e1 : qbk out0 (l.take (i + 1)) = if l[i].1 = 2 ∧ l[i].2 ∉ qbk out0 (l.take i) then qbk out0 (l.take i) ++ [l[i].2] else qbk out0 (l.take i) := by
      rw [List.take_add_one, List.getElem?_eq_getElem hlt, qrl]
      rfl
    have next : ∀ w', qd2 W yb (qbk out0 (l.take (i + 1))) w' → qad w' u 60 2 (vaC l) → F84.k6 K (.pointer (some ⟨yb, 0, none⟩)) u (.int .i64 (l.length : Int)) (.int .i64 (i : Int)) w' := fun w' a b => by
      refine F84.k6.to ?_
      try simp only [C.a6]
      rw [qaa (n := (i : Int) + 1) (by omega)]
      exact ih (i + 1) w' (by omega) a b
    generalize hgv : l[i] = v at e1
    refine F84.l1.to ?_
    simp only [C.ah, C.au, decide_true, show (i : Int) < (l.length : Int) by omega]
    refine F84.k2.to (C.ck hu.rd hlt fun gg o cs e fz hg hcs ho => C.br hg (by omega) hcs ?_)
    rw [hgv]
    refine C.av fun y w1 hn1 => C.a1 (x := V v.1 v.2) hn1.at_ rfl qak rfl fun w2 hu2 => ?_
    have l1 := hn1.is
    have f2 : Fr [] w w2 := hn1.fr.then hu2.fr (by simp; omega)
    have hs2 := hs.keep f2
    have hu2' := hu.keep f2 (by simp)
    obtain ⟨sv, s1, s2, s3⟩ := hs2.ex
    try simp only [C.af, Nat.zero_add]
    refine C.ae (v := .int .i64 v.2) hu2.at_ rfl ?_
    refine C.ae (v := .int .i64 v.1) hu2.at_ rfl ?_
    by_cases c2 : v.1 = 2
    · try simp only [C.aw, C.az, C.al, eq_self, decide_true, c2]
      refine C.ae (v := sv) s1 rfl ?_
      refine qf9 s3.rd ?_
      by_cases c3 : v.2 ∈ qbk out0 (l.take i)
      · rw [if_neg (fun z => z.2 c3)] at e1
        try simp only [C.ac, C.aq, Bool.not_true, decide_true, c3]
        exact next w2 (by rw [e1]; exact hs2) hu2'
      · rw [if_pos ⟨c2, c3⟩] at e1
        try simp only [C.ah, C.aq, Bool.not_false, decide_false, c3]
        refine C.ae (v := sv) s1 rfl (C.cq hs2.fr s2 s3 (by have := hok.le; omega) fun v' w3 hf3 hn3 ho3 hf3' hb3 => ?_)
        have hyb : yb ∉ qab sv := s3.nb s1 (by decide)
        have y3 := hf3'.at_ s1 hyb
        have hu3 : qad w3 u 60 2 (vaC l) := hu2'.keep' hf3' (hu2'.ne s3 (by decide))
        have hyu : yb ∉ qab u := hu3.nb y3 (by decide)
        have hyv : yb ∉ qab v' := ho3.nb y3 (by decide)
        refine C.bb y3 ho3.one.2 ho3.one.1 (by simp) fun w4 hu4 => ?_
        refine next w4 ?_ (hu3.keep' hu4.fr fun q hq c => hyu (by simp only [List.mem_singleton] at c; rw [← c]; exact hq))
        rw [e1]
        exact ⟨hf3.then hu4.fr (fun q hq => .inr (by simp only [List.mem_singleton] at hq; have := hs.hy; omega)), hs.hy, v', hu4.at_, hn3, ho3.keep' hu4.fr fun q hq c => hyv (by simp only [List.mem_singleton] at c; rw [← c]; exact hq)⟩
    · rw [if_neg (fun z => c2 z.1)] at e1
      try simp only [C.ac, C.ar, C.az, C.bf, decide_false, c2]
      exact next w2 (by rw [e1]; exact hs2) hu2'
theorem qp5 {W w : World} {yb : Nat} {u : Value} {l : List V2} (hl : l.length ≤ 1000) (hr : qiy l) {out : List Int} (h0 : qbn out) (hs : qd2 W yb out w) (hu : qad w u 60 2 (vaC l)) (hk : ∀ w', qd2 W yb (qbk out l) w' → K (.tuple #[]) w') :
    qb2 Tryz.prog (.func (.func 84) #[] #[.pointer (some ⟨yb, 0, none⟩)]) [u] w K := by
  refine qjl qs2 (F84.sh (C.bh hu.rd ?_))
  rw [qav]
  exact qp6 (W := W) hl hr h0 hk l.length 0 w (by omega) hs hu
end
end Go.Proofs.YtcakfaakbpdklaaGreatDoorV
namespace Go.Proofs.YtcakfaakbpdklaaGreatDoorV
open Go Go.Proofs Go.RowKit Go.Sort Go.Shelf
set_option linter.unusedVariables false
set_option linter.unusedSimpArgs false
set_option maxRecDepth 10000
def qc1 (f : Int → Int) (l : List Int) : List Int := (pdq (ltOf fun a b => f a - f b) l.toArray 0 l.length (Lib.bitLen l.length) true true).toList
theorem qug (f : Int → Int) : SWO (ltOf fun a b => f a - f b) :=
  ⟨fun x => by simp [ltOf], fun x y z a b => by simp only [ltOf, decide_eq_true_eq] at *; omega, fun x y z a b => by simp only [ltOf, decide_eq_false_iff_not] at *; omega⟩
theorem qh9 {α : Type} (d : Array α) {n : Nat} (h : d.size = n) : d.extract 0 n = d := by subst h; simp
theorem qpk (f : Int → Int) (l : List Int) : (qc1 f l).Perm l ∧ (qc1 f l).Pairwise fun a b => f a ≤ f b := by
  obtain ⟨⟨p1, _, p3⟩, h2⟩ := pdq_sorts (ltOf fun a b => f a - f b) (qug f) l.toArray 0 l.toArray.size (Lib.bitLen l.toArray.size) true true (Nat.zero_le _) (Nat.le_refl _) (Or.inl rfl)
  unfold qc1
  have e : l.toArray.size = l.length := by simp
  rw [e] at p1 p3 h2
  generalize pdq (ltOf fun a b => f a - f b) l.toArray 0 l.length (Lib.bitLen l.length) true true = d at p1 p3 h2
  constructor
  · rw [qh9 d (by rw [p1]), qh9 l.toArray (by simp)] at p3
    simpa using p3
  · rw [List.pairwise_iff_getElem]
    intro i j hi hj hij
    have hi' : i < d.size := by simpa using hi
    have hj' : j < d.size := by simpa using hj
    have := h2 i j (Nat.zero_le _) hij (by omega)
    rw [getElem!_pos d i hi', getElem!_pos d j hj'] at this
    simp only [ltOf, decide_eq_false_iff_not] at this
    simp only [Array.getElem_toList]
    omega
theorem qhj (f : Int → Int) (l : List Int) : (qc1 f l).length = l.length := (qpk f l).1.length_eq
theorem qth {w : World} {g n : Nat} {os : Array Obj} {cur : Array Value} {e : TypeId} {fr : Nat × Nat} (d : Array Int) (hb : w.heap[g]? = some (.cells cur e fr)) :
    (sortWorld (Value.int .i64) w g 0 n d os).heap[g]? = some (.cells (putCells (Value.int .i64) 0 d cur) e fr) := by
  have hg : g < w.heap.size := (Array.getElem?_eq_some_iff.1 hb).1
  unfold sortWorld
  rw [heap_grow_old _ _ (by simpa using hg)]
  simp [putRow, mapBlock, Sort.ahead, Array.getElem?_modify, hb, onCells]
theorem qq7 {w : World} {g n : Nat} {os : Array Obj} (d : Array Int) : Fr [g] w (sortWorld (Value.int .i64) w g 0 n d os) := by
  refine ⟨rfl, rfl, rfl, by simp [sortWorld], fun k hk hne => ?_⟩
  unfold sortWorld
  rw [heap_grow_old _ _ (by simpa using hk)]
  have : g ≠ k := fun e => hne (by simp [e])
  simp [putRow, mapBlock, Sort.ahead, Array.getElem?_modify, this]
theorem qt3 (cur : Array Value) (d : Array Int) (h : d.size ≤ cur.size) : (putCells (Value.int .i64) 0 d cur).toList.take d.size = d.toList.map (Value.int .i64) := by
  apply List.ext_getElem?
  intro j
  by_cases hj : j < d.size
  · rw [List.getElem?_take_of_lt hj, Array.getElem?_toList]
    have h1 : d[j]! = d[j] := getElem!_pos d j hj
    simp [putCells, hj, show j < cur.size by omega]
  · rw [List.getElem?_take_eq_none (by omega), List.getElem?_eq_none (by simp; omega)]
theorem qtc : ∀ args w, (callFunc 87 args).run Tryz.prog w = .ok (.enter 87 args) w := by
  intro args w
  exact enters_of Tryz.func87 (by kernel_rfl) rfl args w
theorem qji (s : St) (a : Int) : -1 ≤ s.serial a ∧ s.serial a < 1099511627776 := by
  unfold St.serial St.read
  split
  · unfold qfz
    split
    · simp only; omega
    · simp only; omega
  · simp only; omega
section
variable {K : VK} {A : Mad} {g : Gw} {cf : Cf} {B : Int} {x : Ma} {w : World}
theorem qyi {c : Nat} {a b : Int} {e : TypeId} {fz : Nat × Nat} (h : qae A g cf B w x) (hc : w.heap[c]? = some (.cells #[.pointer (some ⟨A.ma, 0, none⟩)] e fz)) (hk : K (.int .i64 (x.co.s.serial a - x.co.s.serial b)) { w with drawn := w.drawn + 1 }) :
    C.q Tryz.prog 87 #[.int .i64 a, .int .i64 b, .pointer (some ⟨c, 0, none⟩)] w K := by
  have h' := h.keep0 (Fr.drew w)
  have hc' := (Fr.drew w).at_ hc (by simp)
  have ha := qji x.co.s a
  have hb := qji x.co.s b
  refine F87.sh ⟨fun w' => w' = { w with drawn := w.drawn + 1 }, rfl, ?_⟩
  have hs1 : ∀ w', w' = ({ w with drawn := w.drawn + 1 } : World) → ∃ cs e fz, w'.heap[c]? = some (.cells cs e fz) ∧ cs[0]? = some (.pointer (some ⟨A.ma, 0, none⟩)) := fun w' hw => by subst hw; exact ⟨_, _, _, hc', rfl⟩
  have hs2 : ∀ w', w' = ({ w with drawn := w.drawn + 1 } : World) → ∃ cs e fz, w'.heap[A.ma]? = some (.cells cs e fz) ∧ cs[12]? = some (.pointer (some ⟨A.Q.co, 0, none⟩)) := fun w' hw => by subst hw; exact ⟨_, _, _, h'.blk, rfl⟩
  refine C.an hs1 ?_
  try simp only [C.af, C.ag, Nat.zero_add]
  refine C.an hs2 (C.an hs1 ?_)
  try simp only [C.af, C.ag, Nat.zero_add]
  refine C.an hs2 ⟨qef h'.co ⟨rfl, qef h'.co ⟨rfl, ?_⟩, trivial⟩, trivial⟩
  try simp only [C.bo]
  rw [qaa (by omega)]
  exact hk
theorem qst {W : World} {c : Nat} {ov : Value} {l : List Int} {e : TypeId} {fz : Nat × Nat} (h0 : qae A g cf B W x) (hf : Fr [] W w) (hn : qal W ov) (ho : qad w ov 3 1 (qaf l)) (hc : w.heap[c]? = some (.cells #[.pointer (some ⟨A.ma, 0, none⟩)] e fz)) (he : e ≠ 3) (hl : l.length ≤ 1000000)
    (hk : ∀ w', Fr (qab ov) w w' → qad w' ov 3 1 (qaf (qc1 x.co.s.serial l)) → K (.tuple #[]) w') :
    C.q Tryz.prog 86 #[ov, .func (.func 87) #[] #[.pointer (some ⟨c, 0, none⟩)]] w K := by
  have hcn : c ∉ qab ov := ho.nb hc (Ne.symm he)
  obtain ⟨⟨h1, h2⟩, h3⟩ := id ho
  rw [qaj] at h1 h2
  rcases h2 with ⟨rfl, h2⟩ | ⟨g0, cap, cur, rfl, hb, hg, h4, h5, h6, h7⟩
  · have el : l = [] := List.eq_nil_of_length_eq_zero h2
    subst el
    refine (AnyF.slices_SortFunc_none { qud with } none 0 _ w).mono ?_
    rintro e w' ⟨rfl, rfl⟩
    refine ⟨_, rfl, hk w' (Fr.refl _ _) ?_⟩
    have : qc1 x.co.s.serial [] = [] := List.eq_nil_of_length_eq_zero (qhj _ _)
    rw [this]
    exact qad.nil _ _ _
  · rw [qdc, Nat.mul_one] at h7
    have hH := holds_of_blockI hg h7
    have hcg : c ∉ [g0] := by simpa [qab, Value.ownBlock] using hcn
    have hng : W.heap.size ≤ g0 := hn.blk g0 (by simp [qab, Value.ownBlock])
    have qj5 := Any.slices_SortFunc_eq (P := Tryz.prog) (ρ := qku) qud (Value.int .i64) (fun _ => rfl) (fun a b => x.co.s.serial a - x.co.s.serial b) (qug _)
      87 #[.pointer (some ⟨c, 0, none⟩)] g0 0 cap l.toArray w qtc (fun m os dk hs a b => by
        have hf1 := qq7 (w := w) (g := g0) (n := m) (os := os) dk
        have hW : Fr [] W (sortWorld (Value.int .i64) w g0 0 m dk os) := hf.then hf1 fun q hq => .inr (by simp only [List.mem_singleton] at hq; omega)
        have := qyi (K := fun v W' => v = .int .i64 (x.co.s.serial a - x.co.s.serial b) ∧ W' = { (sortWorld (Value.int .i64) w g0 0 m dk os) with drawn := (sortWorld (Value.int .i64) w g0 0 m dk os).drawn + 1 }) (a := a) (b := b) (h0.keep0 hW) (hf1.at_ hc hcg) ⟨rfl, rfl⟩
        refine Calls.mono this ?_
        rintro e W' ⟨v, rfl, rfl, rfl⟩
        exact ⟨rfl, 1, #[], by rw [grow_empty]; rfl⟩) hH (qac hg) (by simp; omega)
    have main' : Calls Tryz.prog 86 #[.slice (some ⟨g0, 0, none⟩) l.length cap, .func (.func 87) #[] #[.pointer (some ⟨c, 0, none⟩)]] w _ := qj5
    refine main'.mono ?_
    rintro e w' ⟨rfl, n, os, rfl⟩
    have hlen := qhj x.co.s.serial l
    unfold qc1 at hk hlen
    simp only [List.size_toArray]
    generalize pdq (ltOf fun a b => x.co.s.serial a - x.co.s.serial b) l.toArray 0 l.length (Lib.bitLen l.length) true true = d at hk hlen
    have ds : d.size = l.length := by simpa using hlen
    refine ⟨_, rfl, hk _ (by simpa [qab, Value.ownBlock] using qq7 d) ?_⟩
    refine qad.of_block (qth d hg) (by rw [qaj, hlen]) h4 (by unfold maxLen at h5; omega) (by simp [putCells, h6]) ?_ ?_
    · intro y hy
      refine ⟨?_, qfk y hy⟩
      simp only [qaf, List.mem_map] at hy
      obtain ⟨z, _, rfl⟩ := hy
      rfl
    · have := qt3 cur d (by rw [ds, h6]; omega)
      rw [ds] at this
      rw [Nat.mul_one, qdc]
      exact this
end
end Go.Proofs.YtcakfaakbpdklaaGreatDoorV
namespace Go.Proofs.YtcakfaakbpdklaaGreatDoorV
open Go Go.Proofs
set_option linter.unusedVariables false
set_option maxRecDepth 100000
noncomputable section
variable {K : VK} {w : World} {x0 x1 y0 y1 y2 y3 y5 y6 : Value}
namespace F14
def ann : Ann := ⟨[(3, [2, 3]), (5, [2, 3, 5]), (6, [2, 3, 5]), (8, [2, 3]), (10, [2, 3, 6]), (11, [2, 3, 6]), (13, [])], [(4, [2, 3, 5]), (9, [2, 3, 6])], [], [(6, (.take 0 (.take 2 (.take 5 (.take 7 (.take 1 (.take 3 (.take 4 (.take 6 (.take 8 (.take 9 (.go 10 (.take 11 .fin) .fin)))))))))))), (11, (.take 0 (.take 2 (.take 6 (.take 8 (.take 1 (.take 3 (.take 4 (.take 5 (.take 7 (.take 9 (.take 10 (.take 11 (.take 12 (.take 13 (.take 14 (.take 16 (.take 20 (.take 22 (.take 15 (.take 17 (.take 18 (.take 19 (.take 21 (.take 23 (.take 24 (.take 25 (.go 26 (.take 27 (.take 28 .fin)) .fin))))))))))))))))))))))))))))], none⟩
def code := cd Tryz.f14
def top := tp Tryz.f14
variable (K : VK) (y2 y3 y5 y6 : Value) (w : World)
def k3 : Prop := nk ann 78 [(2, y2), (3, y3)] w [1, 1] code (top K)
def k8 : Prop := nk ann 78 [(2, y2), (3, y3)] w [1, 1, 1] code (top K)
def l4 : Prop := nl ann 78 [(2, y2), (3, y3), (5, y5)] w [1, 1, 0, 1, 0] code (top K)
def k6 : Prop := nk ann 78 [(2, y2), (3, y3), (5, y5)] w [1, 1, 0, 1, 0, 0, 1] code (top K)
def k5 : Prop := nk ann 78 [(2, y2), (3, y3), (5, y5)] w [1, 1, 0, 1, 0, 0, 1, 1] code (top K)
def k13 : Prop := nk ann 78 [] w [1, 1, 1, 1] code (top K)
def l9 : Prop := nl ann 78 [(2, y2), (3, y3), (6, y6)] w [1, 1, 1, 0, 1, 0] code (top K)
def k11 : Prop := nk ann 78 [(2, y2), (3, y3), (6, y6)] w [1, 1, 1, 0, 1, 0, 0, 1] code (top K)
def k10 : Prop := nk ann 78 [(2, y2), (3, y3), (6, y6)] w [1, 1, 1, 0, 1, 0, 0, 1, 1] code (top K)
attribute [irreducible] k3 k8 l4 k6 k5 k13 l9 k11 k10
end F14
theorem F14.k3.to (h : (F14.l4 K y2 y3 (.int .i64 0) w)) : F14.k3 K y2 y3 w := qq h
theorem F14.k8.to (h : (F14.l9 K y2 y3 (.int .i64 0) w)) : F14.k8 K y2 y3 w := qq h
theorem F14.l4.to (h : (C.ab 0 y2 w fun a b =>
 C.ai a b fun c d =>
 C.bk c d fun f g =>
 C.aj .lss y5 f g fun i j =>
 C.am i (F14.k6 K y2 y3 y5 j) (F14.k8 K y2 y3 j))) : F14.l4 K y2 y3 y5 w := by unfold F14.l4 nl; exact qag (qq h)
theorem F14.k6.to (h : (C.a9 w fun S a =>
 C.ab 0 y2 a fun b c =>
 C.ab 0 y3 c fun d f =>
 C.ap S b f fun g i =>
 C.bj 1 g y5 i fun j k =>
 C.ap S j k fun m o =>
 C.ap S d o fun p q =>
 C.bj 1 p y5 q fun r s =>
 C.ap S r s fun t u =>
 (C.q Tryz.prog 39 #[m, t] u fun v x =>
 (S x ∧
 C.bg v x fun y z =>
 C.am y (K (.bool false) z) (F14.k5 K y2 y3 y5 z))) ∧ True)) : F14.k6 K y2 y3 y5 w := qq h
theorem F14.k5.to (h : (C.aj .add y5 (.int .i64 1) w fun a b =>
 F14.l4 K y2 y3 a b)) : F14.k5 K y2 y3 y5 w := qq h
theorem F14.k13.to (h : (K (.bool true) w)) : F14.k13 K w := qq h
theorem F14.l9.to (h : (C.ab 1 y2 w fun a b =>
 C.ai a b fun c d =>
 C.bk c d fun f g =>
 C.aj .lss y6 f g fun i j =>
 C.am i (F14.k11 K y2 y3 y6 j) (F14.k13 K j))) : F14.l9 K y2 y3 y6 w := by unfold F14.l9 nl; exact qag (qq h)
theorem F14.k11.to (h : (C.a9 w fun S a =>
 C.ab 1 y2 a fun b c =>
 C.ab 1 y3 c fun d f =>
 C.ap S b f fun g i =>
 C.bj 2 g y6 i fun j k =>
 C.ab 0 j k fun m o =>
 C.ap S m o fun p q =>
 C.ap S d q fun r s =>
 C.bj 2 r y6 s fun t u =>
 C.ab 0 t u fun v x =>
 C.ap S v x fun y z =>
 C.aj .neq p y z fun aa ab =>
 C.i false aa (fun K => C.ab 1 y2 ab K) ab fun ac ad =>
 C.i false aa (fun K => K y6 ad) ad fun ae af =>
 C.i false aa (fun K => C.ab 1 y3 af K) af fun ag ah =>
 C.i false aa (fun K => K y6 ah) ah fun ai aj =>
 C.i false aa (fun K => C.ap S ac aj K) aj fun ak al =>
 C.i false aa (fun K => C.bj 2 ak ae al K) al fun am an =>
 C.i false aa (fun K => C.ab 1 am an K) an fun ao ap =>
 C.i false aa (fun K => C.ap S ao ap K) ap fun aq ar =>
 C.i false aa (fun K => C.ap S ag ar K) ar fun au av =>
 C.i false aa (fun K => C.bj 2 au ai av K) av fun aw ax =>
 C.i false aa (fun K => C.ab 1 aw ax K) ax fun ay az =>
 C.i false aa (fun K => C.ap S ay az K) az fun ba bb =>
 (C.i false aa (fun K => C.q Tryz.prog 39 #[aq, ba] bb K) bb fun bc bd =>
 (S bd ∧
 C.i false aa (fun K => C.bg bc bd K) bd fun be bf =>
 C.a2 (some aa) (some (.bool true)) (some be) bf fun bg bh =>
 C.am bg (K (.bool false) bh) (F14.k10 K y2 y3 y6 bh))) ∧ True)) : F14.k11 K y2 y3 y6 w := qq h
theorem F14.k10.to (h : (C.aj .add y6 (.int .i64 1) w fun a b =>
 F14.l9 K y2 y3 a b)) : F14.k10 K y2 y3 y6 w := qq h
theorem F14.sh (h : (C.a3 (.cells (Value.cells x0) 46) w fun a b =>
 C.a3 (.cells (Value.cells x1) 46) b fun c d =>
 C.ab 0 a d fun f g =>
 C.ai f g fun i j =>
 C.bk i j fun k m =>
 C.ab 0 c m fun o p =>
 C.ai o p fun q r =>
 C.bk q r fun s t =>
 C.aj .neq k s t fun u v =>
 C.i false u (fun K => C.ab 1 a v K) v fun x y =>
 C.i false u (fun K => C.ai x y K) y fun z aa =>
 C.i false u (fun K => C.bk z aa K) aa fun ab ac =>
 C.i false u (fun K => C.ab 1 c ac K) ac fun ad ae =>
 C.i false u (fun K => C.ai ad ae K) ae fun af ag =>
 C.i false u (fun K => C.bk af ag K) ag fun ah ai =>
 C.i false u (fun K => C.aj .neq ab ah ai K) ai fun aj ak =>
 C.a2 (some u) (some (.bool true)) (some aj) ak fun al am =>
 C.am al (K (.bool false) am) (F14.k3 K a c am))) : C.q Tryz.prog 14 #[x0, x1] w K := q9 (A := F14.ann) (args := [x0, x1]) (qq h)
namespace F39
def ann : Ann := ⟨[(3, [0, 1]), (5, [0, 1, 5]), (6, [0, 1, 5]), (8, [])], [(4, [0, 1, 5])], [], [(6, (.take 0 (.take 1 (.take 2 (.take 4 (.take 5 (.take 6 (.take 3 (.take 7 (.take 8 .fin))))))))))], none⟩
def code := cd Tryz.f39
def top := tp Tryz.f39
variable (K : VK) (y0 y1 y5 : Value) (w : World)
def k3 : Prop := nk ann 26 [(0, y0), (1, y1)] w [1, 1] code (top K)
def k8 : Prop := nk ann 26 [] w [1, 1, 1] code (top K)
def l4 : Prop := nl ann 26 [(0, y0), (1, y1), (5, y5)] w [1, 1, 0, 1, 0] code (top K)
def k6 : Prop := nk ann 26 [(0, y0), (1, y1), (5, y5)] w [1, 1, 0, 1, 0, 0, 1] code (top K)
def k5 : Prop := nk ann 26 [(0, y0), (1, y1), (5, y5)] w [1, 1, 0, 1, 0, 0, 1, 1] code (top K)
attribute [irreducible] k3 k8 l4 k6 k5
end F39
theorem F39.k3.to (h : (F39.l4 K y0 y1 (.int .i64 0) w)) : F39.k3 K y0 y1 w := qq h
theorem F39.k8.to (h : (K (.bool true) w)) : F39.k8 K w := qq h
theorem F39.l4.to (h : (C.bk y0 w fun a b =>
 C.aj .lss y5 a b fun c d =>
 C.am c (F39.k6 K y0 y1 y5 d) (F39.k8 K d))) : F39.l4 K y0 y1 y5 w := by unfold F39.l4 nl; exact qag (qq h)
theorem F39.k6.to (h : (C.a9 w fun S a =>
 C.bj 2 y0 y5 a fun b c =>
 C.bj 2 y1 y5 c fun d f =>
 C.bm S 2 b f fun g i =>
 C.bm S 2 d i fun j k =>
 ∃ m, (∀ w', S w' → ((do eqGuard .neq 60 (.tmp 20) (.tmp 24) g j; binOp .neq 60 g j : Sem Value)).run Tryz.prog w' = .ok m w') ∧ (C.am m (K (.bool false) k) (F39.k5 K y0 y1 y5 k)))) : F39.k6 K y0 y1 y5 w := qq h
theorem F39.k5.to (h : (C.aj .add y5 (.int .i64 1) w fun a b =>
 F39.l4 K y0 y1 a b)) : F39.k5 K y0 y1 y5 w := qq h
theorem F39.sh (h : (C.bk x0 w fun a b =>
 C.bk x1 b fun c d =>
 C.aj .neq a c d fun f g =>
 C.am f (K (.bool false) g) (F39.k3 K x0 x1 g))) : C.q Tryz.prog 39 #[x0, x1] w K := q9 (A := F39.ann) (args := [x0, x1]) (qq h)
end
end Go.Proofs.YtcakfaakbpdklaaGreatDoorV
namespace Go.Proofs.YtcakfaakbpdklaaGreatDoorV
open Go Go.Proofs Go.RowKit
set_option linter.unusedVariables false
set_option linter.unusedSimpArgs false
set_option maxRecDepth 10000
theorem RdS.one {w : World} {v : Value} {sz : Nat} {xs : List (List Value)} (h : RdS w v sz xs) : v.oneCell' = true ∧ v.cells = #[v] := by
  obtain ⟨A, c, rfl, _⟩ := h
  exact ⟨rfl, rfl⟩
abbrev Va := Int × Int
abbrev Nd := Int × List Va
abbrev Vw := List (List Va) × List Nd
theorem qgj {α : Type} {a b : List α} {i : Nat} (hl : a.length = b.length) (hi : a.length ≤ i) (h : ∀ j, j < i → a[j]? = b[j]?) : a = b := List.ext_getElem? fun j => by
  by_cases hj : j < i
  · exact h j hj
  · rw [List.getElem?_eq_none (by omega), List.getElem?_eq_none (by omega)]
theorem qj9 {α : Type} {a b : List α} {i : Nat} (ha : i < a.length) (hb : i < b.length) (h : ∀ j, j < i → a[j]? = b[j]?) (he : a[i] = b[i]) : ∀ j, j < i + 1 → a[j]? = b[j]? := fun j hj => by
  by_cases e : j = i
  · subst e; rw [List.getElem?_eq_getElem ha, List.getElem?_eq_getElem hb, he]
  · exact h j (by omega)
def slC (vs : List Value) : List (List Value) := vs.map fun v => [v]
theorem qh0 (vs : List Value) : (slC vs).length = vs.length := by simp [slC]
theorem qod {vs : List Value} {j : Nat} (h : j < vs.length) : (slC vs)[j]? = some [vs[j]] := by simp [slC, h]
theorem qv5 (a b : List Value) : slC (a ++ b) = slC a ++ slC b := by simp [slC]
theorem qoh {l : List Va} {j : Nat} (h : j < l.length) : (vaC l)[j]? = some [.int .i64 l[j].1, .int .i64 l[j].2] := by simp [vaC, h]
def ndC (N : List Nd) (fs : List Value) : List (List Value) := List.zipWith (fun nd f => [.int .i64 nd.1, f]) N fs
theorem qhy {N : List Nd} {fs : List Value} (h : fs.length = N.length) : (ndC N fs).length = N.length := by simp [ndC, h]
theorem qn7 {N : List Nd} {fs : List Value} {j : Nat} (h : j < N.length) (h' : j < fs.length) : (ndC N fs)[j]? = some [.int .i64 N[j].1, fs[j]] := by simp [ndC, List.getElem?_zipWith, List.getElem?_eq_getElem h, List.getElem?_eq_getElem h']
def qdb (w : World) (rv : Value) (L : List (List Va)) : Prop := ∃ vs : List Value, RdS w rv 1 (slC vs) ∧ vs.length = L.length ∧ ∀ i (h : i < L.length) (h' : i < vs.length), RdS w vs[i] 2 (vaC L[i])
theorem qdb.keep {w w' : World} {rv : Value} {L : List (List Va)} (h : qdb w rv L) (hf : Fr [] w w') : qdb w' rv L := by
  obtain ⟨vs, h1, h2, h3⟩ := h
  exact ⟨vs, h1.keep hf, h2, fun i a b => (h3 i a b).keep hf⟩
def qbq (w : World) (nv : Value) (N : List Nd) : Prop := ∃ fs : List Value, fs.length = N.length ∧ RdS w nv 2 (ndC N fs) ∧ ∀ i (h : i < N.length) (h' : i < fs.length), RdS w fs[i] 2 (vaC N[i].2)
theorem qbq.keep {w w' : World} {nv : Value} {N : List Nd} (h : qbq w nv N) (hf : Fr [] w w') : qbq w' nv N := by
  obtain ⟨fs, h1, h2, h3⟩ := h
  exact ⟨fs, h1, h2.keep hf, fun i a b => (h3 i a b).keep hf⟩
structure IsV (w : World) (rv nv : Value) (V : Vw) : Prop where
  rows : qdb w rv V.1
  nodes : qbq w nv V.2
theorem IsV.keep {w w' : World} {rv nv : Value} {V : Vw} (h : IsV w rv nv V) (hf : Fr [] w w') : IsV w' rv nv V := ⟨h.rows.keep hf, h.nodes.keep hf⟩
theorem qdb.one {w : World} {rv : Value} {L : List (List Va)} (h : qdb w rv L) : rv.oneCell' = true ∧ rv.cells = #[rv] := by
  obtain ⟨vs, h1, _⟩ := h
  exact h1.one
theorem qbq.one {w : World} {nv : Value} {N : List Nd} (h : qbq w nv N) : nv.oneCell' = true ∧ nv.cells = #[nv] := by
  obtain ⟨fs, _, h1, _⟩ := h
  exact h1.one
theorem IsV.cells {w : World} {rv nv : Value} {V : Vw} (h : IsV w rv nv V) : Value.cells (.agg #[rv, nv]) = #[rv, nv] := by
  simp [Value.cells]
theorem IsV.ones {w : World} {rv nv : Value} {V : Vw} (h : IsV w rv nv V) : ∀ u ∈ (Value.cells (.agg #[rv, nv])).toList, u.oneCell' = true := by
  rw [h.cells]
  intro u hu
  simp only [List.mem_cons, List.not_mem_nil, or_false] at hu
  rcases hu with rfl | rfl
  · exact h.rows.one.1
  · exact h.nodes.one.1
theorem qdb.le {w : World} {rv : Value} {L : List (List Va)} (h : qdb w rv L) : L.length ≤ 9223372036854775807 := by
  obtain ⟨vs, h1, h2, _⟩ := h
  have := h1.le
  rw [qh0] at this
  omega
theorem qbq.le {w : World} {nv : Value} {N : List Nd} (h : qbq w nv N) : N.length ≤ 9223372036854775807 := by
  obtain ⟨fs, h1, h2, _⟩ := h
  have := h2.le
  rwa [qhy h1] at this
def VB (w : World) (b : Nat) (rv nv : Value) : Prop := w.heap[b]? = some (.cells #[rv, nv] 46 (0, 0))
theorem VB.keep {S : List Nat} {w w' : World} {b : Nat} {rv nv : Value} (h : VB w b rv nv) (hf : Fr S w w') (hS : b ∉ S) : VB w' b rv nv := hf.at_ h hS
section
variable {K : VK} {w : World}
theorem VB.f0 {b : Nat} {rv nv : Value} (h : VB w b rv nv) (hk : K rv w) : C.ab 0 (.pointer (some ⟨b, 0, none⟩)) w fun p w1 => C.ai p w1 K := by
  simp only [C.af, Nat.zero_add]
  exact C.ae h rfl hk
theorem VB.f1 {b : Nat} {rv nv : Value} (h : VB w b rv nv) (hk : K nv w) : C.ab 1 (.pointer (some ⟨b, 0, none⟩)) w fun p w1 => C.ai p w1 K := by
  simp only [C.af, Nat.zero_add]
  exact C.ae h rfl hk
theorem VB.new {rv nv : Value} {V : Vw} (hV : IsV w rv nv V) (hk : ∀ b w', Fr [] w w' → w.heap.size ≤ b → VB w' b rv nv → IsV w' rv nv V → K (.pointer (some ⟨b, 0, none⟩)) w') : C.a3 (.cells (Value.cells (.agg #[rv, nv])) 46) w K := by
  refine C.av fun b w1 hn => hk b w1 hn.fr (by have := hn.is; omega) ?_ (hV.keep hn.fr)
  have := hn.at_
  rw [hV.cells] at this
  exact this
theorem qbq.len {nv : Value} {N : List Nd} (h : qbq w nv N) {w1 : World} (hk : K (.int .i64 (N.length : Int)) w1) : C.bk nv w1 K := by
  obtain ⟨fs, h1, ⟨A, c, rfl, _⟩, _⟩ := h
  rw [qhy h1]
  simpa only [C.bs] using hk
theorem qdb.len {rv : Value} {L : List (List Va)} (h : qdb w rv L) {w1 : World} (hk : K (.int .i64 (L.length : Int)) w1) : C.bk rv w1 K := by
  obtain ⟨vs, ⟨A, c, rfl, _⟩, h2, _⟩ := h
  rw [qh0, h2]
  simpa only [C.bs] using hk
theorem qz3 (x y : Operand) (a b : Va) : (do eqGuard .neq 60 x y (.agg #[.int .i64 a.1, .int .i64 a.2]) (.agg #[.int .i64 b.1, .int .i64 b.2]); binOp .neq 60 (.agg #[.int .i64 a.1, .int .i64 a.2]) (.agg #[.int .i64 b.1, .int .i64 b.2]) : Sem Value).run Tryz.prog w = .ok (.bool (!([a.1, a.2] == [b.1, b.2]))) w :=
  qmg (ks := [.i64, .i64]) x y Tryz.underlying60 (by kernel_rfl) (by kernel_rfl) (by kernel_rfl) [a.1, a.2] [b.1, b.2] rfl rfl
theorem qyd (a b : Va) : (!([a.1, a.2] == [b.1, b.2])) = !(decide (a = b)) := by
  by_cases h : a = b
  · subst h; simp
  · have : ¬ (a.1 = b.1 ∧ a.2 = b.2) := fun c => h (Prod.ext c.1 c.2)
    rw [decide_eq_false h]
    simp only [Bool.not_false, Bool.not_eq_true', beq_eq_false_iff_ne]
    intro c
    simp only [List.cons.injEq, and_true] at c
    exact this c
theorem qm1 {a b : Value} {xs ys : List Va} (ra : RdS w a 2 (vaC xs)) (rb : RdS w b 2 (vaC ys)) (hl : xs.length = ys.length) (h : ∀ w', Fr [] w w' → K (.bool (decide (xs = ys))) w') :
    ∀ (d i : Nat) (w' : World), xs.length = i + d → Fr [] w w' → (∀ j, j < i → xs[j]? = ys[j]?) → F39.l4 K a b (.int .i64 (i : Int)) w' := by
  have hl2 := ra.le
  rw [qav] at hl2
  intro d
  induction d with
  | zero =>
    intro i w' hi hf he
    refine F39.l4.to (C.bh (ra.keep hf) ?_)
    rw [qav]
    simp only [C.ac, C.au, decide_false, show ¬ ((i : Int) < (xs.length : Int)) by omega]
    refine F39.k8.to ?_
    have e : xs = ys := List.ext_getElem? fun j => by
      by_cases hj : j < i
      · exact he j hj
      · rw [List.getElem?_eq_none (by omega), List.getElem?_eq_none (by omega)]
    have := h w' hf
    rwa [decide_eq_true e] at this
  | succ d ih =>
    intro i w' hi hf he
    have hix : i < xs.length := by omega
    have hiy : i < ys.length := by omega
    refine F39.l4.to (C.bh (ra.keep hf) ?_)
    rw [qav]
    simp only [C.ah, C.au, decide_true, show ((i : Int) < (xs.length : Int)) by omega]
    refine F39.k6.to (C.a4 (fun w2 => Fr [] w w2) fun w1 hf1 he1 => ⟨hf.trans hf1, ?_⟩)
    have f1 := hf.trans hf1
    refine C.bx (S := fun w2 => Fr [] w w2) (fun w2 hw => ra.keep hw) f1 (by omega) (by rw [Int.toNat_natCast]; exact qoh hix) fun ga oa hl1 hs1 => ?_
    refine C.bx (S := fun w2 => Fr [] w w2) (fun w2 hw => rb.keep hw) f1 (by omega) (by rw [Int.toNat_natCast]; exact qoh hiy) fun gb ob hl2 hs2 => ?_
    refine C.b7 hl1 (by omega) hs1 (C.b7 hl2 (by omega) hs2 ?_)
    refine ⟨_, fun w' _ => qz3 _ _ _ _, ?_⟩
    rw [qyd]
    by_cases hb : xs[i] = ys[i]
    · rw [hb, decide_eq_true rfl]
      simp only [C.ac, Bool.not_true]
      refine F39.k5.to ?_
      simp only [C.a6]
      rw [qaa (n := (i : Int) + 1) (by omega), show (i : Int) + 1 = ((i + 1 : Nat) : Int) by omega]
      refine ih (i + 1) w1 (by omega) f1 fun j hj => ?_
      by_cases hji : j = i
      · subst hji
        rw [List.getElem?_eq_getElem hix, List.getElem?_eq_getElem hiy, hb]
      · exact he j (by omega)
    · rw [decide_eq_false hb]
      simp only [C.ah, Bool.not_false]
      have ne : ¬ xs = ys := fun e => hb (by subst e; rfl)
      have := h w1 f1
      rwa [decide_eq_false ne] at this
theorem qlq {a b : Value} {xs ys : List Va} (ra : RdS w a 2 (vaC xs)) (rb : RdS w b 2 (vaC ys)) (h : ∀ w', Fr [] w w' → K (.bool (decide (xs = ys))) w') : C.q Tryz.prog 39 #[a, b] w K := by
  refine F39.sh (C.bh ra (C.bh rb ?_))
  rw [qav, qav]
  by_cases e : (xs.length : Int) = (ys.length : Int)
  · have : ¬ ((xs.length : Int) ≠ (ys.length : Int)) := fun c => c e
    rw [C.be, decide_eq_false this, C.ac]
    exact F39.k3.to (qm1 ra rb (by omega) h xs.length 0 w (by omega) (Fr.refl _ _) fun j hj => by omega)
  · rw [C.be, decide_eq_true (show (xs.length : Int) ≠ (ys.length : Int) from e), C.ah]
    have := h w (Fr.refl _ _)
    rwa [decide_eq_false (fun c => e (by rw [c]))] at this
theorem qdb.getS {W w1 : World} {rv : Value} {L : List (List Va)} {i : Nat} (h : qdb W rv L) (hf : Fr [] W w1) (hi : i < L.length)
    (hk : ∀ g o v, RdS W v 2 (vaC L[i]) → (∀ w', Fr [] W w' → ∃ cs e fz, w'.heap[g]? = some (.cells cs e fz) ∧ cs[o]? = some v) → K (.pointer (some ⟨g, o, none⟩)) w1) : C.bj 1 rv (.int .i64 (i : Int)) w1 K := by
  obtain ⟨vs, h1, h2, h3⟩ := h
  have hi' : i < vs.length := by omega
  refine C.bx (S := fun w' => Fr [] W w') (fun w' hw => h1.keep hw) hf (by omega) (by rw [Int.toNat_natCast]; exact qod hi') fun g o _ hs => hk g o vs[i] (h3 i hi hi') fun w' hw => ?_
  obtain ⟨cs, e, fz, x, y⟩ := hs w' hw
  exact ⟨cs, e, fz, x, by simpa using y 0 (by simp)⟩
theorem qbq.getS {W w1 : World} {nv : Value} {N : List Nd} {i : Nat} (h : qbq W nv N) (hf : Fr [] W w1) (hi : i < N.length)
    (hk : ∀ g o f, RdS W f 2 (vaC N[i].2) → (∀ w', Fr [] W w' → ∃ cs e fz, w'.heap[g]? = some (.cells cs e fz) ∧ cs[o]? = some (.int .i64 N[i].1)) → (∀ w', Fr [] W w' → ∃ cs e fz, w'.heap[g]? = some (.cells cs e fz) ∧ cs[o + 1]? = some f) → K (.pointer (some ⟨g, o, none⟩)) w1) : C.bj 2 nv (.int .i64 (i : Int)) w1 K := by
  obtain ⟨fs, h1, h2, h3⟩ := h
  have hi' : i < fs.length := by omega
  refine C.bx (S := fun w' => Fr [] W w') (fun w' hw => h2.keep hw) hf (by omega) (by rw [Int.toNat_natCast]; exact qn7 hi hi') fun g o _ hs => hk g o fs[i] (h3 i hi hi') (fun w' hw => ?_) fun w' hw => ?_
  · obtain ⟨cs, e, fz, x, y⟩ := hs w' hw
    exact ⟨cs, e, fz, x, by simpa using y 0 (by omega)⟩
  · obtain ⟨cs, e, fz, x, y⟩ := hs w' hw
    exact ⟨cs, e, fz, x, by simpa using y 1 (by omega)⟩
theorem VB.s {W : World} {b : Nat} {rv nv : Value} (h : VB W b rv nv) {o : Nat} {v : Value} (ho : (#[rv, nv] : Array Value)[o]? = some v) {w1 : World} (hk : K v w1) : C.ap (fun w' => Fr [] W w') (.pointer (some ⟨b, o, none⟩)) w1 K :=
  C.an (fun w' hw => ⟨_, _, _, h.keep hw (by simp), ho⟩) hk
theorem qos {W : World} {b c : Nat} {rv nv rv' nv' : Value} {V V' : Vw} (hV : IsV W rv nv V) (hV' : IsV W rv' nv' V') (hb : VB W b rv nv) (hc : VB W c rv' nv') (h1 : V.1 = V'.1) (hl : V.2.length = V'.2.length) (h : ∀ w', Fr [] W w' → K (.bool (decide (V = V'))) w') :
    ∀ (d j : Nat) (w : World), V.2.length = j + d → Fr [] W w → (∀ i, i < j → V.2[i]? = V'.2[i]?) → F14.l9 K (.pointer (some ⟨b, 0, none⟩)) (.pointer (some ⟨c, 0, none⟩)) (.int .i64 (j : Int)) w := by
  have hle := hV.nodes.le
  intro d
  induction d with
  | zero =>
    intro j w hj hf he
    refine F14.l9.to ((hb.keep hf (by simp)).f1 (hV.nodes.len ?_))
    simp only [C.ac, C.au, decide_false, show ¬ ((j : Int) < (V.2.length : Int)) by omega]
    refine F14.k13.to ?_
    have := h w hf
    rwa [decide_eq_true (Prod.ext h1 (qgj hl (by omega) he))] at this
  | succ d ih =>
    intro j w hj hf he
    have jl : j < V.2.length := by omega
    have jl' : j < V'.2.length := by omega
    refine F14.l9.to ((hb.keep hf (by simp)).f1 (hV.nodes.len ?_))
    simp only [C.ah, C.au, decide_true, show ((j : Int) < (V.2.length : Int)) by omega]
    have no : ∀ w', Fr [] W w' → ¬ V.2[j] = V'.2[j] → K (.bool false) w' := fun w' hw hne => by
      have := h w' hw
      rwa [decide_eq_false (fun e => hne (by subst e; rfl))] at this
    have go : ∀ w', Fr [] W w' → V.2[j] = V'.2[j] → F14.k10 K (.pointer (some ⟨b, 0, none⟩)) (.pointer (some ⟨c, 0, none⟩)) (.int .i64 (j : Int)) w' := fun w' hw heq => by
      refine F14.k10.to ?_
      simp only [C.a6]
      rw [qaa (n := (j : Int) + 1) (by omega), show (j : Int) + 1 = ((j + 1 : Nat) : Int) by omega]
      exact ih (j + 1) w' (by omega) hw (qj9 jl jl' he heq)
    refine F14.k11.to (C.a4 (fun w' => Fr [] W w') fun w1 hf1 he1 => ⟨hf.trans hf1, ?_⟩)
    have f1 := hf.trans hf1
    simp only [C.af, Nat.zero_add]
    refine hb.s rfl (hV.nodes.getS f1 jl fun g o f hr hs0 hs1 => ?_)
    simp only [C.af]
    refine C.an hs0 (hc.s rfl (hV'.nodes.getS f1 jl' fun g' o' f' hr' hs0' hs1' => ?_))
    simp only [C.af]
    refine C.an hs0' ?_
    by_cases hs : V.2[j].1 = V'.2[j].1
    · have : ¬ (V.2[j].1 ≠ V'.2[j].1) := fun c => c hs
      rw [C.be, decide_eq_false this]
      simp only [C.ar, C.al]
      refine hb.s rfl (hV.nodes.getS f1 jl fun g o f hr hs0 hs1 => ?_)
      simp only [C.af]
      refine C.an hs1 (hc.s rfl (hV'.nodes.getS f1 jl' fun g' o' f' hr' hs0' hs1' => ?_))
      simp only [C.af]
      refine C.an hs1' ⟨qlq (hr.keep f1) (hr'.keep f1) fun w2 hf2 => ⟨f1.trans hf2, ?_⟩, trivial⟩
      by_cases hq : V.2[j].2 = V'.2[j].2
      · rw [decide_eq_true hq]
        simp only [C.ac, C.aq, Bool.not_true]
        exact go w2 (f1.trans hf2) (Prod.ext hs hq)
      · rw [decide_eq_false hq]
        simp only [C.ah, C.aq, Bool.not_false]
        exact no w2 (f1.trans hf2) fun e => hq (by rw [e])
    · rw [C.be, decide_eq_true (show V.2[j].1 ≠ V'.2[j].1 from hs)]
      simp only [C.ah, C.aw, C.ba]
      exact ⟨⟨f1, no w1 f1 fun e => hs (by rw [e])⟩, trivial⟩
theorem qql {W : World} {b c : Nat} {rv nv rv' nv' : Value} {V V' : Vw} (hV : IsV W rv nv V) (hV' : IsV W rv' nv' V') (hb : VB W b rv nv) (hc : VB W c rv' nv') (hl1 : V.1.length = V'.1.length) (hl : V.2.length = V'.2.length) (h : ∀ w', Fr [] W w' → K (.bool (decide (V = V'))) w') :
    ∀ (d j : Nat) (w : World), V.1.length = j + d → Fr [] W w → (∀ i, i < j → V.1[i]? = V'.1[i]?) → F14.l4 K (.pointer (some ⟨b, 0, none⟩)) (.pointer (some ⟨c, 0, none⟩)) (.int .i64 (j : Int)) w := by
  have hle := hV.rows.le
  intro d
  induction d with
  | zero =>
    intro j w hj hf he
    refine F14.l4.to ((hb.keep hf (by simp)).f0 (hV.rows.len ?_))
    simp only [C.ac, C.au, decide_false, show ¬ ((j : Int) < (V.1.length : Int)) by omega]
    exact F14.k8.to (qos hV hV' hb hc (qgj hl1 (by omega) he) hl h V.2.length 0 w (by omega) hf fun i hi => by omega)
  | succ d ih =>
    intro j w hj hf he
    have jl : j < V.1.length := by omega
    have jl' : j < V'.1.length := by omega
    refine F14.l4.to ((hb.keep hf (by simp)).f0 (hV.rows.len ?_))
    simp only [C.ah, C.au, decide_true, show ((j : Int) < (V.1.length : Int)) by omega]
    refine F14.k6.to (C.a4 (fun w' => Fr [] W w') fun w1 hf1 he1 => ⟨hf.trans hf1, ?_⟩)
    have f1 := hf.trans hf1
    simp only [C.af, Nat.zero_add]
    refine hb.s rfl (hV.rows.getS f1 jl fun g o v hr hs => C.an hs (hc.s rfl (hV'.rows.getS f1 jl' fun g' o' v' hr' hs' => C.an hs' ⟨qlq (hr.keep f1) (hr'.keep f1) fun w2 hf2 => ⟨f1.trans hf2, ?_⟩, trivial⟩)))
    by_cases hq : V.1[j] = V'.1[j]
    · rw [decide_eq_true hq]
      simp only [C.ac, C.aq, Bool.not_true]
      refine F14.k5.to ?_
      simp only [C.a6]
      rw [qaa (n := (j : Int) + 1) (by omega), show (j : Int) + 1 = ((j + 1 : Nat) : Int) by omega]
      exact ih (j + 1) w2 (by omega) (f1.trans hf2) (qj9 jl jl' he hq)
    · rw [decide_eq_false hq]
      simp only [C.ah, C.aq, Bool.not_false]
      have := h w2 (f1.trans hf2)
      rwa [decide_eq_false (fun e => hq (by subst e; rfl))] at this
theorem qxg {rv nv rv' nv' : Value} {V V' : Vw} (hV : IsV w rv nv V) (hV' : IsV w rv' nv' V') (h : ∀ w', Fr [] w w' → K (.bool (decide (V = V'))) w') : C.q Tryz.prog 14 #[.agg #[rv, nv], .agg #[rv', nv']] w K := by
  refine F14.sh (VB.new hV fun b w1 hf1 _ hb hV1 => VB.new (hV'.keep hf1) fun c w2 hf2 _ hc hV2' => ?_)
  have hb2 := hb.keep hf2 (by simp)
  have hV2 := hV1.keep hf2
  have f2 := hf1.trans hf2
  refine hb2.f0 (hV2.rows.len (hc.f0 (hV2'.rows.len ?_)))
  by_cases e1 : V.1.length = V'.1.length
  · have : ¬ ((V.1.length : Int) ≠ (V'.1.length : Int)) := by omega
    rw [C.be, decide_eq_false this]
    simp only [C.al]
    refine hb2.f1 (hV2.nodes.len (hc.f1 (hV2'.nodes.len ?_)))
    by_cases e2 : V.2.length = V'.2.length
    · have : ¬ ((V.2.length : Int) ≠ (V'.2.length : Int)) := by omega
      rw [C.be, decide_eq_false this]
      simp only [C.ac, C.ar]
      exact F14.k3.to (qql hV2 hV2' hb2 hc e1 e2 (fun w' hf => h w' (f2.trans hf)) V.1.length 0 w2 (by omega) (Fr.refl _ _) fun i hi => by omega)
    · rw [C.be, decide_eq_true (show (V.2.length : Int) ≠ (V'.2.length : Int) by omega)]
      simp only [C.ah, C.ar]
      have := h w2 f2
      rwa [decide_eq_false (fun e => e2 (by rw [e]))] at this
  · rw [C.be, decide_eq_true (show (V.1.length : Int) ≠ (V'.1.length : Int) by omega)]
    simp only [C.ah, C.aw, C.af, C.ba, Nat.zero_add]
    have := h w2 f2
    rwa [decide_eq_false (fun e => e1 (by rw [e]))] at this
theorem qls {a b : Value} {xs ys : List Int} (ra : RdS w a 1 (qaf xs)) (rb : RdS w b 1 (qaf ys)) (hl : xs.length = ys.length) (h : ∀ w', Fr [] w w' → K (.bool (decide (xs = ys))) w') :
    ∀ (d i : Nat) (w' : World), xs.length = i + d → Fr [] w w' → (∀ j, j < i → xs[j]? = ys[j]?) → F21.l4 K a b (.int .i64 (i : Int)) w' := by
  have hl2 := ra.le
  rw [qaj] at hl2
  intro d
  induction d with
  | zero =>
    intro i w' hi hf he
    refine F21.l4.to (C.bh (ra.keep hf) ?_)
    rw [qaj]
    simp only [C.ac, C.au, decide_false, show ¬ ((i : Int) < (xs.length : Int)) by omega]
    refine F21.k8.to ?_
    have := h w' hf
    rwa [decide_eq_true (qgj hl (by omega) he)] at this
  | succ d ih =>
    intro i w' hi hf he
    have hix : i < xs.length := by omega
    have hiy : i < ys.length := by omega
    refine F21.l4.to (C.bh (ra.keep hf) ?_)
    rw [qaj]
    simp only [C.ah, C.au, decide_true, show ((i : Int) < (xs.length : Int)) by omega]
    refine F21.k6.to (C.a4 (fun w2 => Fr [] w w2) fun w1 hf1 he1 => ⟨hf.trans hf1, ?_⟩)
    have f1 := hf.trans hf1
    refine C.bx (S := fun w2 => Fr [] w w2) (fun w2 hw => ra.keep hw) f1 (by omega) (by rw [Int.toNat_natCast]; exact qe5 hix) fun ga oa _ hs1 => ?_
    refine C.bx (S := fun w2 => Fr [] w w2) (fun w2 hw => rb.keep hw) f1 (by omega) (by rw [Int.toNat_natCast]; exact qe5 hiy) fun gb ob _ hs2 => ?_
    refine C.an (v := .int .i64 xs[i]) (fun w' hw => by obtain ⟨cs, e, fz, x, y⟩ := hs1 w' hw; exact ⟨cs, e, fz, x, by simpa using y 0 (by simp)⟩) ?_
    refine C.an (v := .int .i64 ys[i]) (fun w' hw => by obtain ⟨cs, e, fz, x, y⟩ := hs2 w' hw; exact ⟨cs, e, fz, x, by simpa using y 0 (by simp)⟩) ?_
    by_cases hb : xs[i] = ys[i]
    · have : ¬ (xs[i] ≠ ys[i]) := fun c => c hb
      rw [C.be, decide_eq_false this]
      simp only [C.ac]
      refine F21.k5.to ?_
      simp only [C.a6]
      rw [qaa (n := (i : Int) + 1) (by omega), show (i : Int) + 1 = ((i + 1 : Nat) : Int) by omega]
      exact ih (i + 1) w1 (by omega) f1 (qj9 hix hiy he hb)
    · rw [C.be, decide_eq_true (show xs[i] ≠ ys[i] from hb)]
      simp only [C.ah]
      have := h w1 f1
      rwa [decide_eq_false (fun e => hb (by subst e; rfl))] at this
theorem qqm {a b : Value} {xs ys : List Int} (ra : RdS w a 1 (qaf xs)) (rb : RdS w b 1 (qaf ys)) (h : ∀ w', Fr [] w w' → K (.bool (decide (xs = ys))) w') : C.q Tryz.prog 21 #[a, b] w K := by
  refine F21.sh (C.bh ra (C.bh rb ?_))
  rw [qaj, qaj]
  by_cases e : (xs.length : Int) = (ys.length : Int)
  · have : ¬ ((xs.length : Int) ≠ (ys.length : Int)) := fun c => c e
    rw [C.be, decide_eq_false this, C.ac]
    exact F21.k3.to (qls ra rb (by omega) h xs.length 0 w (by omega) (Fr.refl _ _) fun j hj => by omega)
  · rw [C.be, decide_eq_true (show (xs.length : Int) ≠ (ys.length : Int) from e), C.ah]
    have := h w (Fr.refl _ _)
    rwa [decide_eq_false (fun c => e (by rw [c]))] at this
end
structure qa5 (lo : Nat) (w : World) (rv : Value) (L : List (List Va)) (vs : List Value) : Prop where
  sp : qad w rv 56 1 (slC vs)
  ge : ∀ g ∈ qab rv, lo ≤ g
  len : vs.length = L.length
  row : ∀ i (h : i < L.length) (h' : i < vs.length), qad w vs[i] 60 2 (vaC L[i]) ∧ ∀ g ∈ qab vs[i], lo ≤ g
structure qax (lo : Nat) (w : World) (nv : Value) (N : List Nd) (fs : List Value) : Prop where
  len : fs.length = N.length
  sp : qad w nv 58 2 (ndC N fs)
  ge : ∀ g ∈ qab nv, lo ≤ g
  row : ∀ i (h : i < N.length) (h' : i < fs.length), qad w fs[i] 60 2 (vaC N[i].2) ∧ ∀ g ∈ qab fs[i], lo ≤ g
theorem qa5.rd {lo : Nat} {w : World} {rv : Value} {L : List (List Va)} {vs : List Value} (h : qa5 lo w rv L vs) : qdb w rv L := ⟨vs, h.sp.rd, h.len, fun i a b => (h.row i a b).1.rd⟩
theorem qax.rd {lo : Nat} {w : World} {nv : Value} {N : List Nd} {fs : List Value} (h : qax lo w nv N fs) : qbq w nv N := ⟨fs, h.len, h.sp.rd, fun i a b => (h.row i a b).1.rd⟩
theorem qa5.keep {lo : Nat} {S : List Nat} {w w' : World} {rv : Value} {L : List (List Va)} {vs : List Value} (h : qa5 lo w rv L vs) (hf : Fr S w w') (hS : ∀ g ∈ S, g < lo ∨ w.heap.size ≤ g ∨ ∃ cs e fz, w.heap[g]? = some (.cells cs e fz) ∧ e ≠ 56 ∧ e ≠ 60) : qa5 lo w' rv L vs := by
  have key : ∀ {v : Value} {e : TypeId} {sz : Nat} {xs : List (List Value)}, (e = 56 ∨ e = 60) → qad w v e sz xs → (∀ g ∈ qab v, lo ≤ g) → qad w' v e sz xs := fun he ho hl => ho.keep' hf fun g hg c => by
    rcases hS g c with d | d | ⟨cs, e, fz, d, e1, e2⟩
    · have := hl g hg; omega
    · have := ho.mem_lt g hg; omega
    · refine ho.nb d (fun c => ?_) hg
      rcases he with rfl | rfl
      · exact e1 c.symm
      · exact e2 c.symm
  exact ⟨key (.inl rfl) h.sp h.ge, h.ge, h.len, fun i a b => ⟨key (.inr rfl) (h.row i a b).1 (h.row i a b).2, (h.row i a b).2⟩⟩
theorem qax.keep {lo : Nat} {S : List Nat} {w w' : World} {nv : Value} {N : List Nd} {fs : List Value} (h : qax lo w nv N fs) (hf : Fr S w w') (hS : ∀ g ∈ S, g < lo ∨ w.heap.size ≤ g ∨ ∃ cs e fz, w.heap[g]? = some (.cells cs e fz) ∧ e ≠ 58 ∧ e ≠ 60) : qax lo w' nv N fs := by
  have key : ∀ {v : Value} {e : TypeId} {sz : Nat} {xs : List (List Value)}, (e = 58 ∨ e = 60) → qad w v e sz xs → (∀ g ∈ qab v, lo ≤ g) → qad w' v e sz xs := fun he ho hl => ho.keep' hf fun g hg c => by
    rcases hS g c with d | d | ⟨cs, e, fz, d, e1, e2⟩
    · have := hl g hg; omega
    · have := ho.mem_lt g hg; omega
    · refine ho.nb d (fun c => ?_) hg
      rcases he with rfl | rfl
      · exact e1 c.symm
      · exact e2 c.symm
  exact ⟨h.len, key (.inl rfl) h.sp h.ge, h.ge, fun i a b => ⟨key (.inr rfl) (h.row i a b).1 (h.row i a b).2, (h.row i a b).2⟩⟩
theorem qa5.snoc {lo : Nat} {w w' : World} {rv rv' v : Value} {L : List (List Va)} {vs : List Value} {l : List Va} (h : qa5 lo w rv L vs) (hlo : lo ≤ w.heap.size) (hf : Fr (qab rv) w w') (hg : ∀ g ∈ qab rv', g ∈ qab rv ∨ w.heap.size ≤ g) (hs : qad w' rv' 56 1 (slC vs ++ [[v]])) (hv : qad w v 60 2 (vaC l)) (hvl : ∀ g ∈ qab v, lo ≤ g) :
    qa5 lo w' rv' (L ++ [l]) (vs ++ [v]) := by
  refine ⟨by rw [qv5]; exact hs, fun g hgg => ?_, by simp [h.len], fun i a b => ?_⟩
  · rcases hg g hgg with c | c
    · exact h.ge g c
    · omega
  · by_cases e : i < L.length
    · have e' : i < vs.length := by rw [h.len]; exact e
      rw [List.getElem_append_left e, List.getElem_append_left e']
      exact ⟨(h.row i e e').1.keep' hf ((h.row i e e').1.ne h.sp (by decide)), (h.row i e e').2⟩
    · have ei : i = L.length := by simp at a; omega
      have ei' : i = vs.length := by rw [h.len]; exact ei
      rw [List.getElem_append_right (by omega), List.getElem_append_right (by omega)]
      simp only [ei', Nat.sub_self, h.len, List.getElem_cons_zero]
      exact ⟨hv.keep' hf (hv.ne h.sp (by decide)), hvl⟩
theorem qtr {N : List Nd} {fs : List Value} (h : fs.length = N.length) (nd : Nd) (f : Value) : ndC (N ++ [nd]) (fs ++ [f]) = ndC N fs ++ [[.int .i64 nd.1, f]] := by
  unfold ndC
  rw [List.zipWith_append h.symm]
  rfl
theorem qax.snoc {lo : Nat} {w w' : World} {nv nv' v : Value} {N : List Nd} {fs : List Value} {nd : Nd} (h : qax lo w nv N fs) (hlo : lo ≤ w.heap.size) (hf : Fr (qab nv) w w') (hg : ∀ g ∈ qab nv', g ∈ qab nv ∨ w.heap.size ≤ g) (hs : qad w' nv' 58 2 (ndC N fs ++ [[.int .i64 nd.1, v]])) (hv : qad w v 60 2 (vaC nd.2)) (hvl : ∀ g ∈ qab v, lo ≤ g) :
    qax lo w' nv' (N ++ [nd]) (fs ++ [v]) := by
  refine ⟨by simp [h.len], by rw [qtr h.len]; exact hs, fun g hgg => ?_, fun i a b => ?_⟩
  · rcases hg g hgg with c | c
    · exact h.ge g c
    · omega
  · by_cases e : i < N.length
    · have e' : i < fs.length := by rw [h.len]; exact e
      rw [List.getElem_append_left e, List.getElem_append_left e']
      exact ⟨(h.row i e e').1.keep' hf ((h.row i e e').1.ne h.sp (by decide)), (h.row i e e').2⟩
    · have ei : i = N.length := by simp at a; omega
      have ei' : i = fs.length := by rw [h.len]; exact ei
      rw [List.getElem_append_right (by omega), List.getElem_append_right (by omega)]
      simp only [ei', Nat.sub_self, h.len, List.getElem_cons_zero]
      exact ⟨hv.keep' hf (hv.ne h.sp (by decide)), hvl⟩
section
variable {K : VK} {A : Mad} {g : Gw} {cf : Cf} {B : Int} {x : Ma} {w : World}
theorem C.c2 {f : Fn} {a b : Array Value} {X : Prop} (hf : ∀ l, f ≠ .yield l) (h : X) : C.ct (.func f a b) X := ⟨fun l _ _ e => hf l (by injection e), h⟩
def qd3 (x : Ma) : Prop := ∀ t : Int, qiy (x.co.roots t)
def Ma.rchT (x : Ma) (n : Nat) : List Int := (List.range n).foldl (fun (out : List Int) (t : Nat) => qbk out (x.co.roots (t : Int))) [x.co.global]
theorem qkr (x : Ma) (n : Nat) : x.rchT (n + 1) = qbk (x.rchT n) (x.co.roots (n : Int)) := by
  unfold Ma.rchT
  rw [List.range_succ, List.foldl_append]
  rfl
theorem qz4 (a : Int) : qbn [a] := ⟨by simp, by simp, fun x hx => by cases hx⟩
theorem qhz (x : Ma) (hr : qd3 x) : ∀ n, qbn (x.rchT n)
  | 0 => qz4 _
  | n + 1 => by rw [qkr]; exact (qhz x hr n).note _ (hr _)
theorem ql4 (x : Ma) (a : Int) : (x.flds a).length ≤ 127 := by
  have := qev (s := x.co.s) a
  unfold Ma.flds
  rw [List.length_map, List.length_range]
  omega
theorem qir (x : Ma) : ∀ (d i : Nat) {out : List Int}, qbn out → qbn (x.rchGo d i out)
  | 0, i, out, h => h
  | d + 1, i, out, h => by
    unfold Ma.rchGo
    split
    · exact qir x d (i + 1) (h.note _ (qj1 x _))
    · exact h
def qpe (yb : Nat) : Value := .func (.func 84) #[] #[.pointer (some ⟨yb, 0, none⟩)]
theorem qm0 {W : World} {c yb : Nat} (h0 : qae A g cf B W x) (hr : qd3 x) (hc : W.heap[c]? = some (.cells #[.pointer (some ⟨A.ma, 0, none⟩)] 49 (0, 0))) {n : Nat} (hn : cf.threads = (n : Int))
    (hk : ∀ w', qd2 W yb (x.rch0 cf) w' → F48.k8 K (.pointer (some ⟨c, 0, none⟩)) (.pointer (some ⟨yb, 0, none⟩)) (qpe yb) w') :
    ∀ (d i : Nat) (w : World), i + d = n → qd2 W yb (x.rchT i) w →
      F48.l4 K (.pointer (some ⟨c, 0, none⟩)) (.pointer (some ⟨yb, 0, none⟩)) (qpe yb) (.int .i64 (n : Int)) (.int .i64 (i : Int)) w := by
  have hth := h0.fine.th
  intro d
  induction d with
  | zero =>
    intro i w hi hs
    have e : i = n := by omega
    subst e
    refine F48.l4.to ?_
    simp only [C.ac, C.au, decide_false, show ¬ ((i : Int) < (i : Int)) by omega]
    refine hk w ?_
    have : x.rch0 cf = x.rchT i := by unfold Ma.rch0 Ma.rchT; rw [hn, Int.toNat_natCast]
    rw [this]; exact hs
  | succ d ih =>
    intro i w hi hs
    have h := h0.keep0 hs.fr
    refine F48.l4.to ?_
    simp only [C.ah, C.au, decide_true, show (i : Int) < (n : Int) by omega]
    refine F48.k5.to (C.ae (v := .pointer (some ⟨A.ma, 0, none⟩)) (hs.fr.at_ hc (by simp)) rfl ?_)
    try simp only [C.af, C.ag, Nat.zero_add]
    refine C.ae (v := .pointer (some ⟨A.Q.co, 0, none⟩)) h.blk rfl ?_
    refine qe1 h.co fun v w1 hf1 ho1 hn1 => ?_
    refine qp5 (by have := qks h (i : Int); omega) (hr _) (qhz x hr i) (hs.keep hf1) ho1 fun w2 hs2 => ?_
    refine F48.k7.to ?_
    try simp only [C.a6]
    rw [qaa (n := (i : Int) + 1) (by omega)]
    exact ih (i + 1) w2 (by omega) (by rw [qkr]; exact hs2)
theorem qw1 {W : World} {c yb : Nat} (h0 : qae A g cf B W x) (hc : W.heap[c]? = some (.cells #[.pointer (some ⟨A.ma, 0, none⟩)] 49 (0, 0))) {fin : List Int}
    (hk : ∀ w', qd2 W yb fin w' → F48.k12 K (.pointer (some ⟨c, 0, none⟩)) (.pointer (some ⟨yb, 0, none⟩)) w') :
    ∀ (d i : Nat) (w : World) (out : List Int), i + d = 2050 → qbn out → x.rchGo d i out = fin → qd2 W yb out w →
      F48.l9 K (.pointer (some ⟨c, 0, none⟩)) (.pointer (some ⟨yb, 0, none⟩)) (qpe yb) (.int .i64 (i : Int)) w := by
  intro d
  induction d with
  | zero =>
    intro i w out hi hok he hs
    obtain ⟨v, v1, v2, v3⟩ := hs.ex
    have hle := hok.le
    refine F48.l9.to (C.ae v1 rfl (C.bh v3.rd ?_))
    rw [qaj]
    simp only [C.ac, C.au, decide_false, show ¬ ((i : Int) < (out.length : Int)) by omega]
    have : out = fin := he
    exact hk w (by rw [← this]; exact hs)
  | succ d ih =>
    intro i w out hi hok he hs
    obtain ⟨v, v1, v2, v3⟩ := hs.ex
    have hle := hok.le
    refine F48.l9.to (C.ae v1 rfl (C.bh v3.rd ?_))
    rw [qaj]
    unfold Ma.rchGo at he
    by_cases hlt : i < out.length
    · rw [if_pos hlt, qfx hlt] at he
      simp only [C.ah, C.au, decide_true, show (i : Int) < (out.length : Int) by omega]
      refine F48.k11.to (C.a4 (fun w' => Fr [] W w') fun w1 hf1 _ => ⟨hs.fr.trans hf1, ?_⟩)
      have hs1 := hs.keep hf1
      obtain ⟨v, v1, v2, v3⟩ := hs1.ex
      refine C.an (fun w' hw => ⟨_, _, _, hw.at_ hc (by simp), rfl⟩) ⟨C.ae v1 rfl ⟨hs1.fr, ?_⟩, trivial⟩
      refine C.bw v3.rd hlt fun g1 o1 cs1 e1 fz1 hg1 hc1 => ⟨C.ae hg1 hc1 ⟨hs1.fr, ?_⟩, trivial⟩
      refine ⟨qff (h0.keep0 hs1.fr) fun u w2 hf2 hn2 ho2 => ⟨hs1.fr.trans hf2, ?_⟩, trivial⟩
      refine ⟨C.c2 (by intro l e; cases e) (qp5 (by have := ql4 x out[i]; omega) (qj1 x _) hok (hs1.keep hf2) ho2 fun w3 hs3 => ⟨hs3.fr, ?_⟩), trivial⟩
      refine F48.k10.to ?_
      try simp only [C.a6]
      rw [qaa (n := (i : Int) + 1) (by omega)]
      exact ih (i + 1) w3 _ (by omega) (hok.note _ (qj1 x _)) he hs3
    · rw [if_neg hlt] at he
      simp only [C.ac, C.au, decide_false, show ¬ ((i : Int) < (out.length : Int)) by omega]
      exact hk w (by rw [← he]; exact hs)
theorem qqg (h : qae A g cf B w x) (hr : qd3 x) (hk : ∀ v w', Fr [] w w' → qal w v → qad w' v 3 1 (qaf (qc1 x.co.s.serial (x.rch cf))) → K v w') : C.q Tryz.prog 48 #[.pointer (some ⟨A.ma, 0, none⟩)] w K := by
  have hth := h.fine.th
  obtain ⟨n, hn⟩ := Int.eq_ofNat_of_zero_le (show 0 ≤ cf.threads by omega)
  refine F48.sh (C.av fun c w1 hn1 => ?_)
  have h1 := h.keep0 hn1.fr
  have c1 : w1.heap[c]? = some (.cells #[.pointer (some ⟨A.ma, 0, none⟩)] 49 (0, 0)) := hn1.at_
  refine C.ae (v := .pointer (some ⟨A.ma, 0, none⟩)) c1 rfl ?_
  try simp only [C.af, C.ag, Nat.zero_add]
  refine C.ae (v := .pointer (some ⟨A.Q.co, 0, none⟩)) h1.blk rfl ?_
  refine qkf h1.co (C.a5 (bsI _) ?_)
  have hw2 := New.mk' w1 (.cells #[.int .i64 x.co.global] 3)
  generalize hW2 : w1.alloc (.cells #[.int .i64 x.co.global] 3) = w2 at hw2
  refine C.av fun yb w3 hn3 => ?_
  have l3 := hn3.is
  have s2 := hw2.fr.size
  have ho : qad w2 (.slice (some ⟨w1.heap.size, 0, none⟩) 1 1) 3 1 (qaf [x.co.global]) := qad.of_block (sz := 1) hw2.at_ rfl (by decide) (by decide) rfl (by
    intro y hy
    refine ⟨?_, qfk y hy⟩
    simp only [qaf, List.map_cons, List.map_nil, List.mem_singleton] at hy
    subst hy; rfl) rfl
  have ho3 := ho.keep hn3.fr (by simp)
  refine C.bb hn3.at_ rfl rfl (by simp) fun w4 hu4 => ?_
  have hyb : yb ∉ qab (.slice (some ⟨w1.heap.size, 0, none⟩) 1 1) := ho3.nb hn3.at_ (by decide)
  have f4 : Fr [] w1 w4 := (hw2.fr.trans hn3.fr).then hu4.fr (fun q hq => .inr (by simp only [List.mem_singleton] at hq; omega))
  have hs4 : qd2 w1 yb (x.rchT 0) w4 := ⟨f4, by omega, _, hu4.at_, fun q hq => by simp only [Value.ownBlock, Option.some.injEq] at hq; omega, ho3.keep' hu4.fr fun q hq c => hyb (by simp only [List.mem_singleton] at c; rw [← c]; exact hq)⟩
  refine C.ae (v := .pointer (some ⟨A.ma, 0, none⟩)) (f4.at_ c1 (by simp)) rfl ?_
  try simp only [C.af, C.ag, Nat.zero_add]
  refine C.ae (v := .int .i64 cf.threads) (h1.keep0 f4).blk rfl ?_
  rw [hn]
  refine qm0 (W := w1) h1 hr c1 hn (fun w5 hs5 => ?_) n 0 w4 (by omega) hs4
  refine F48.k8.to ?_
  have hok : qbn (x.rch0 cf) := by
    have : x.rch0 cf = x.rchT n := by unfold Ma.rch0 Ma.rchT; rw [hn, Int.toNat_natCast]
    rw [this]; exact qhz x hr n
  refine qw1 (W := w1) (fin := x.rch cf) h1 c1 (fun w6 hs6 => ?_) 2050 0 w5 _ (by omega) hok rfl hs5
  obtain ⟨v, v1, v2, v3⟩ := hs6.ex
  have hyv : yb ∉ qab v := v3.nb v1 (by decide)
  refine F48.k12.to (C.ae v1 rfl (qst h1 hs6.fr v2 v3 (hs6.fr.at_ c1 (by simp)) (by decide) (by have := (qir x 2050 0 hok).le; unfold Ma.rch; omega) fun w7 hf7 ho7 => ?_))
  refine C.ae (hf7.at_ v1 hyv) rfl (hk v w7 ?_ (v2.mono hn1.fr.size) ho7)
  exact hn1.fr.trans (hs6.fr.then hf7 fun q hq => .inr (v2.blk q hq))
end
def Ma.rowsV (x : Ma) (n : Nat) : List (List Va) := (List.range n).map fun t : Nat => x.sers (x.co.roots (t : Int))
def Ma.node (x : Ma) (a : Int) : Nd := (x.co.s.serial a, x.sers (x.flds a))
def Ma.view (cf : Cf) (x : Ma) : Vw := (x.rowsV cf.threads.toNat, (qc1 x.co.s.serial (x.rch cf)).map x.node)
structure VwS (W : World) (yb : Nat) (L : List (List Va)) (N : List Nd) (w : World) : Prop where
  fr : Fr [] W w
  hy : W.heap.size ≤ yb
  ex : ∃ rv nv vs fs, w.heap[yb]? = some (.cells #[rv, nv] 46 (0, 0)) ∧ qa5 W.heap.size w rv L vs ∧ qax W.heap.size w nv N fs
theorem qa5.keep0 {lo : Nat} {w w' : World} {rv : Value} {L : List (List Va)} {vs : List Value} (h : qa5 lo w rv L vs) (hf : Fr [] w w') : qa5 lo w' rv L vs := h.keep hf fun g hg => by cases hg
theorem qax.keep0 {lo : Nat} {w w' : World} {nv : Value} {N : List Nd} {fs : List Value} (h : qax lo w nv N fs) (hf : Fr [] w w') : qax lo w' nv N fs := h.keep hf fun g hg => by cases hg
theorem VwS.keep {W w w' : World} {yb : Nat} {L : List (List Va)} {N : List Nd} (h : VwS W yb L N w) (hf : Fr [] w w') : VwS W yb L N w' := by
  obtain ⟨rv, nv, vs, fs, e1, e2, e3⟩ := h.ex
  exact ⟨h.fr.trans hf, h.hy, rv, nv, vs, fs, hf.at_ e1 (by simp), e2.keep0 hf, e3.keep0 hf⟩
theorem qad.at_blk {w : World} {v : Value} {e : TypeId} {sz : Nat} {xs : List (List Value)} (h : qad w v e sz xs) {q : Nat} (hq : q ∈ qab v) : ∃ cs e' fz, w.heap[q]? = some (.cells cs e' fz) ∧ e' = e := by
  obtain ⟨⟨h1, h2⟩, h3⟩ := h
  rcases h2 with ⟨rfl, h2⟩ | ⟨g, cap, cur, rfl, hb, hg, h4, h5, h6, h7⟩
  · simp [qab, Value.ownBlock] at hq
  · have : q = g := by simpa [qab, Value.ownBlock] using hq
    subst this
    exact ⟨_, _, _, hg, rfl⟩
section
variable {K : VK} {A : Mad} {g : Gw} {cf : Cf} {B : Int} {x : Ma} {w : World}
theorem bsR (A : Option Addr) (n c : Nat) : (Instr.buildSlice 43 1 #[(0, .slice A n c)]).run Tryz.prog w = .ok (.slice (some ⟨w.heap.size, 0, none⟩) 1 1) (w.alloc (.cells #[.slice A n c] 56)) := by kernel_rfl
theorem bsN (s : Int) (A : Option Addr) (n c : Nat) : (Instr.buildSlice 44 1 #[(0, .agg #[.int .i64 s, .slice A n c])]).run Tryz.prog w = .ok (.slice (some ⟨w.heap.size, 0, none⟩) 1 1) (w.alloc (.cells #[.int .i64 s, .slice A n c] 58)) := by kernel_rfl
theorem bNd (s : Int) (A : Option Addr) (n c : Nat) : (Instr.build 58 #[(0, .int .i64 s), (1, .slice A n c)]).run Tryz.prog w = .ok (.agg #[.int .i64 s, .slice A n c]) w := by kernel_rfl
theorem qnq {W : World} {yb : Nat} {rv nv u s : Value} {vs fs : List Value} {L : List (List Va)} {N : List Nd} {l : List Va} {X : World → Prop} (hf : Fr [] W w) (hy : W.heap.size ≤ yb) (hb : w.heap[yb]? = some (.cells #[rv, nv] 46 (0, 0))) (hR : qa5 W.heap.size w rv L vs) (hN : qax W.heap.size w nv N fs)
    (hL : L.length ≤ 100000) (hu : qad w u 60 2 (vaC l)) (hul : qal W u) (hs : RdS w s 1 (slC [u])) (hk : ∀ w', VwS W yb (L ++ [l]) N w' → X w') :
    C.ay Tryz.prog (Builtin.append_ #[43, 43] 43 #[rv, s]) w fun x w1 => (Fr [] W w1 ∧ (C.ak 1 (.pointer (some ⟨yb, 0, none⟩)) x w1 fun w3 => (Fr [] W w3 ∧ X w3)) ∧ True) := by
  have hvl : (slC vs).length = L.length := by rw [qh0, hR.len]
  refine C.ci (W0 := W) (e := 56) (sz := 1) (bytes := 24) (z := .slice none 0 0) Tryz.underlying43 (by kernel_rfl) rfl (by decide) hf (fun q hq => hR.ge q (qan.2 hq)) hR.sp hs ?_ ?_ ?_ fun v' w1 hf1 hn1 ho1 hf1' hg1 => ⟨hf1, ?_⟩
  · intro y hy u' hu'
    simp only [slC, List.map_cons, List.map_nil, List.mem_singleton] at hy
    subst hy
    rw [List.mem_singleton.1 hu']
    exact hu.one.1
  · rw [hvl]; simp [slC]; omega
  · rw [hvl]; simp [slC]; omega
  have hyr : yb ∉ qab rv := hR.sp.nb hb (by decide)
  have hb1 := hf1'.at_ hb hyr
  have hR1 := hR.snoc hf.size hf1' hg1 ho1 hu (fun q hq => hul.blk q hq)
  have hN1 := hN.keep hf1' fun q hq => .inr (.inr (by
    obtain ⟨cs, e, fz, a1, a2⟩ := hR.sp.at_blk hq
    exact ⟨cs, e, fz, a1, by rw [a2]; decide, by rw [a2]; decide⟩))
  refine ⟨C.bb hb1 ho1.one.2 ho1.one.1 (by simp) fun w3 hu3 => ?_, trivial⟩
  have hf3 : Fr [] W w3 := hf1.then hu3.fr fun q hq => .inr (by simp only [List.mem_singleton] at hq; omega)
  have hyS : ∀ q ∈ [yb], q < W.heap.size ∨ w1.heap.size ≤ q ∨ ∃ cs e fz, w1.heap[q]? = some (.cells cs e fz) ∧ e ≠ 56 ∧ e ≠ 60 := fun q hq => by
    rw [List.mem_singleton.1 hq]
    exact .inr (.inr ⟨_, _, _, hb1, by decide, by decide⟩)
  have hyS' : ∀ q ∈ [yb], q < W.heap.size ∨ w1.heap.size ≤ q ∨ ∃ cs e fz, w1.heap[q]? = some (.cells cs e fz) ∧ e ≠ 58 ∧ e ≠ 60 := fun q hq => by
    rw [List.mem_singleton.1 hq]
    exact .inr (.inr ⟨_, _, _, hb1, by decide, by decide⟩)
  exact ⟨hf3, hk w3 ⟨hf3, hy, v', nv, vs ++ [u], fs, hu3.at_, hR1.keep hu3.fr hyS, hN1.keep hu3.fr hyS'⟩⟩
theorem qlj {W : World} {yb : Nat} {rv nv u s : Value} {vs fs : List Value} {L : List (List Va)} {N : List Nd} {nd : Nd} {X : World → Prop} (hf : Fr [] W w) (hy : W.heap.size ≤ yb) (hb : w.heap[yb]? = some (.cells #[rv, nv] 46 (0, 0))) (hR : qa5 W.heap.size w rv L vs) (hN : qax W.heap.size w nv N fs)
    (hL : N.length ≤ 100000) (hu : qad w u 60 2 (vaC nd.2)) (hul : qal W u) (hs : RdS w s 2 [[.int .i64 nd.1, u]]) (hk : ∀ w', VwS W yb L (N ++ [nd]) w' → Fr (yb :: qab nv) w w' → X w') :
    C.ay Tryz.prog (Builtin.append_ #[44, 44] 44 #[nv, s]) w fun x w1 => (Fr [] W w1 ∧ (C.ak 1 (.pointer (some ⟨yb, 1, none⟩)) x w1 fun w3 => (Fr [] W w3 ∧ X w3)) ∧ True) := by
  have hvl : (ndC N fs).length = N.length := qhy hN.len
  refine C.ci (W0 := W) (e := 58) (sz := 2) (bytes := 32) (z := .agg #[.int .i64 0, .slice none 0 0]) Tryz.underlying44 (by kernel_rfl) rfl (by decide) hf (fun q hq => hN.ge q (qan.2 hq)) hN.sp hs ?_ ?_ ?_ fun v' w1 hf1 hn1 ho1 hf1' hg1 => ⟨hf1, ?_⟩
  · intro y hy u' hu'
    rw [List.mem_singleton.1 hy] at hu'
    simp only [List.mem_cons, List.not_mem_nil, or_false] at hu'
    rcases hu' with rfl | rfl
    · rfl
    · exact hu.one.1
  · rw [hvl]; simp; omega
  · rw [hvl]; simp; omega
  have hyr : yb ∉ qab nv := hN.sp.nb hb (by decide)
  have hb1 := hf1'.at_ hb hyr
  have hN1 := hN.snoc hf.size hf1' hg1 ho1 hu (fun q hq => hul.blk q hq)
  have hR1 := hR.keep hf1' fun q hq => .inr (.inr (by
    obtain ⟨cs, e, fz, a1, a2⟩ := hN.sp.at_blk hq
    exact ⟨cs, e, fz, a1, by rw [a2]; decide, by rw [a2]; decide⟩))
  refine ⟨C.bb hb1 ho1.one.2 ho1.one.1 (by simp) fun w3 hu3 => ?_, trivial⟩
  have hf3 : Fr [] W w3 := hf1.then hu3.fr fun q hq => .inr (by simp only [List.mem_singleton] at hq; omega)
  have hyS : ∀ q ∈ [yb], q < W.heap.size ∨ w1.heap.size ≤ q ∨ ∃ cs e fz, w1.heap[q]? = some (.cells cs e fz) ∧ e ≠ 56 ∧ e ≠ 60 := fun q hq => by
    rw [List.mem_singleton.1 hq]
    exact .inr (.inr ⟨_, _, _, hb1, by decide, by decide⟩)
  have hyS' : ∀ q ∈ [yb], q < W.heap.size ∨ w1.heap.size ≤ q ∨ ∃ cs e fz, w1.heap[q]? = some (.cells cs e fz) ∧ e ≠ 58 ∧ e ≠ 60 := fun q hq => by
    rw [List.mem_singleton.1 hq]
    exact .inr (.inr ⟨_, _, _, hb1, by decide, by decide⟩)
  exact ⟨hf3, hk w3 ⟨hf3, hy, rv, v', vs, fs ++ [u], hu3.at_, hR1.keep hu3.fr hyS, hN1.keep hu3.fr hyS'⟩ ((hf1'.mono fun q hq => by simp [hq]).trans (hu3.fr.mono fun q hq => by simp at hq; simp [hq]))⟩
structure VwX (W : World) (yb : Nat) (rv nv : Value) (vs fs : List Value) (L : List (List Va)) (N : List Nd) (w : World) : Prop where
  fr : Fr [] W w
  hy : W.heap.size ≤ yb
  hb : w.heap[yb]? = some (.cells #[rv, nv] 46 (0, 0))
  hR : qa5 W.heap.size w rv L vs
  hN : qax W.heap.size w nv N fs
theorem VwX.keep {W w w' : World} {yb : Nat} {rv nv : Value} {vs fs : List Value} {L : List (List Va)} {N : List Nd} (h : VwX W yb rv nv vs fs L N w) (hf : Fr [] w w') : VwX W yb rv nv vs fs L N w' :=
  ⟨h.fr.trans hf, h.hy, hf.at_ h.hb (by simp), h.hR.keep0 hf, h.hN.keep0 hf⟩
section
variable {W : World} {yb : Nat} {rv nv u : Value} {vs fs : List Value} {L : List (List Va)} {N : List Nd} {l : List Va} {nd : Nd} {X : World → Prop}
theorem qoc {s u : Value} (w : World) (hu : u.oneCell' = true ∧ ∃ A n c, u = .slice A n c) : ∃ A n c, u = .slice A n c ∧ RdS (w.alloc (.cells #[.slice A n c] 56)) (.slice (some ⟨w.heap.size, 0, none⟩) 1 1) 1 (slC [u]) := by
  obtain ⟨_, A, n, c, rfl⟩ := hu
  have hw := New.mk' w (.cells #[.slice A n c] 56)
  exact ⟨A, n, c, rfl, RdS.of_block hw.at_ rfl (by decide) (by decide) (by simp [slC]) rfl⟩
theorem qln (h : VwX W yb rv nv vs fs L N w) (hL : L.length ≤ 100000) (hu : qad w u 60 2 (vaC l)) (hul : qal W u) (hk : ∀ w', VwS W yb (L ++ [l]) N w' → X w') :
    C.ay Tryz.prog (Instr.buildSlice 43 1 #[(0, u)]) w fun s w0 => (Fr [] W w0 ∧ (C.ay Tryz.prog (Builtin.append_ #[43, 43] 43 #[rv, s]) w0 fun x w1 => (Fr [] W w1 ∧ (C.ak 1 (.pointer (some ⟨yb, 0, none⟩)) x w1 fun w3 => (Fr [] W w3 ∧ X w3)) ∧ True)) ∧ True) := by
  obtain ⟨A, c, e⟩ := hu.len
  obtain ⟨A, n, c, e, hs⟩ := qoc (s := u) (u := u) w ⟨hu.one.1, _, _, _, e⟩
  subst e
  have hw := New.mk' w (.cells #[.slice A n c] 56)
  refine C.a5 (bsR A n c) ⟨h.fr.trans hw.fr, ?_, trivial⟩
  have h1 := h.keep hw.fr
  exact qnq h1.fr h1.hy h1.hb h1.hR h1.hN hL (hu.keep hw.fr (by simp)) hul hs hk
theorem qvd (h : VwX W yb rv nv vs fs L N w) (hL : L.length ≤ 100000) (hu : qad w u 60 2 (vaC l)) (hul : qal W u) (hk : ∀ w', VwS W yb (L ++ [l]) N w' → X w') :
    C.ay Tryz.prog (Instr.buildSlice 43 1 #[(0, u)]) w fun s w0 => (Fr [] W w0 ∧ (C.ai (.pointer (some ⟨yb, 0, none⟩)) w0 fun r w0 => (Fr [] W w0 ∧ (C.ay Tryz.prog (Builtin.append_ #[43, 43] 43 #[r, s]) w0 fun x w1 => (Fr [] W w1 ∧ (C.ak 1 (.pointer (some ⟨yb, 0, none⟩)) x w1 fun w3 => (Fr [] W w3 ∧ X w3)) ∧ True)) ∧ True)) ∧ True) := by
  obtain ⟨A, c, e⟩ := hu.len
  obtain ⟨A, n, c, e, hs⟩ := qoc (s := u) (u := u) w ⟨hu.one.1, _, _, _, e⟩
  subst e
  have hw := New.mk' w (.cells #[.slice A n c] 56)
  refine C.a5 (bsR A n c) ⟨h.fr.trans hw.fr, ?_, trivial⟩
  have h1 := h.keep hw.fr
  exact C.ae (v := rv) h1.hb rfl ⟨h1.fr, qnq h1.fr h1.hy h1.hb h1.hR h1.hN hL (hu.keep hw.fr (by simp)) hul hs hk, trivial⟩
theorem qmh (w : World) {u : Value} (s : Int) (A : Option Addr) (n c : Nat) (e : u = .slice A n c) : RdS (w.alloc (.cells #[.int .i64 s, .slice A n c] 58)) (.slice (some ⟨w.heap.size, 0, none⟩) 1 1) 2 [[.int .i64 s, u]] := by
  subst e
  have hw := New.mk' w (.cells #[.int .i64 s, .slice A n c] 58)
  exact RdS.of_block hw.at_ rfl (by decide) (by decide) (by simp) rfl
theorem qho (h : VwX W yb rv nv vs fs L N w) (hL : N.length ≤ 100000) (hu : qad w u 60 2 (vaC nd.2)) (hul : qal W u) (hk : ∀ w', VwS W yb L (N ++ [nd]) w' → Fr (yb :: qab nv) w w' → X w') :
    C.ay Tryz.prog (Instr.buildSlice 44 1 #[(0, .agg #[.int .i64 nd.1, u])]) w fun s w0 => (Fr [] W w0 ∧ (C.ay Tryz.prog (Builtin.append_ #[44, 44] 44 #[nv, s]) w0 fun x w1 => (Fr [] W w1 ∧ (C.ak 1 (.pointer (some ⟨yb, 1, none⟩)) x w1 fun w3 => (Fr [] W w3 ∧ X w3)) ∧ True)) ∧ True) := by
  obtain ⟨A, c, e⟩ := hu.len
  have hs := qmh w nd.1 A _ c e
  generalize (vaC nd.2).length = n at e hs
  have hw := New.mk' w (.cells #[.int .i64 nd.1, .slice A n c] 58)
  have hb := bsN (w := w) nd.1 A n c
  rw [← e] at hb
  refine C.a5 hb ?_
  rw [← e] at hw hs
  refine ⟨h.fr.trans hw.fr, ?_, trivial⟩
  have h1 := h.keep hw.fr
  exact qlj h1.fr h1.hy h1.hb h1.hR h1.hN hL (hu.keep hw.fr (by simp)) hul hs fun w' a b => hk w' a (hw.fr.w.trans b)
theorem qsj (h : VwX W yb rv nv vs fs L N w) (hL : N.length ≤ 100000) (hu : qad w u 60 2 (vaC nd.2)) (hul : qal W u) (hk : ∀ w', VwS W yb L (N ++ [nd]) w' → Fr (yb :: qab nv) w w' → X w') :
    C.ay Tryz.prog (Instr.buildSlice 44 1 #[(0, .agg #[.int .i64 nd.1, u])]) w fun s w0 => (Fr [] W w0 ∧ (C.ai (.pointer (some ⟨yb, 1, none⟩)) w0 fun r w0 => (Fr [] W w0 ∧ (C.ay Tryz.prog (Builtin.append_ #[44, 44] 44 #[r, s]) w0 fun x w1 => (Fr [] W w1 ∧ (C.ak 1 (.pointer (some ⟨yb, 1, none⟩)) x w1 fun w3 => (Fr [] W w3 ∧ X w3)) ∧ True)) ∧ True)) ∧ True) := by
  obtain ⟨A, c, e⟩ := hu.len
  have hs := qmh w nd.1 A _ c e
  generalize (vaC nd.2).length = n at e hs
  have hw := New.mk' w (.cells #[.int .i64 nd.1, .slice A n c] 58)
  have hb := bsN (w := w) nd.1 A n c
  rw [← e] at hb
  refine C.a5 hb ?_
  rw [← e] at hw hs
  refine ⟨h.fr.trans hw.fr, ?_, trivial⟩
  have h1 := h.keep hw.fr
  exact C.ae (v := nv) h1.hb rfl ⟨h1.fr, qlj h1.fr h1.hy h1.hb h1.hR h1.hN hL (hu.keep hw.fr (by simp)) hul hs fun w' a b => hk w' a (hw.fr.w.trans b), trivial⟩
theorem qzb (s : Int) {u : Value} {A : Option Addr} {n c : Nat} (e : u = .slice A n c) : (Instr.build 58 #[(0, .int .i64 s), (1, u)]).run Tryz.prog w = .ok (.agg #[.int .i64 s, u]) w := by subst e; exact bNd s A n c
end
end
section
variable {K : VK} {A : Mad} {g : Gw} {cf : Cf} {B : Int} {x : Ma} {w : World}
theorem VwS.spec {W : World} {yb : Nat} {L : List (List Va)} {N : List Nd} (h : VwS W yb L N w) : ∃ rv nv vs fs, VwX W yb rv nv vs fs L N w := by
  obtain ⟨rv, nv, vs, fs, e1, e2, e3⟩ := h.ex
  exact ⟨rv, nv, vs, fs, h.fr, h.hy, e1, e2, e3⟩
theorem qm2 {W : World} {yb y2 : Nat} (h0 : qae A g cf B W x) {n : Nat} (hn : cf.threads = (n : Int))
    (hk : ∀ w', VwS W yb (x.rowsV n) [] w' → F17.k9 K (.pointer (some ⟨A.ma, 0, none⟩)) (.pointer (some ⟨y2, 0, none⟩)) (.pointer (some ⟨yb, 0, none⟩)) w') :
    ∀ (d i : Nat) (w : World), i + d = n → VwS W yb (x.rowsV i) [] w →
      F17.l5 K (.pointer (some ⟨A.ma, 0, none⟩)) (.pointer (some ⟨y2, 0, none⟩)) (.pointer (some ⟨yb, 0, none⟩)) (.int .i64 (n : Int)) (.int .i64 (i : Int)) w := by
  have hth := h0.fine.th
  intro d
  induction d with
  | zero =>
    intro i w hi hs
    have e : i = n := by omega
    subst e
    refine F17.l5.to ?_
    simp only [C.ac, C.au, decide_false, show ¬ ((i : Int) < (i : Int)) by omega]
    exact hk w hs
  | succ d ih =>
    intro i w hi hs
    refine F17.l5.to ?_
    simp only [C.ah, C.au, decide_true, show (i : Int) < (n : Int) by omega]
    refine F17.k6.to (C.a4 (fun w' => Fr [] W w') fun w1 hf1 _ => ⟨hs.fr.trans hf1, ?_⟩)
    obtain ⟨rv, nv, vs, fs, h1⟩ := (hs.keep hf1).spec
    have hma := h0.keep0 h1.fr
    have hL : (x.rowsV i).length ≤ 100000 := by unfold Ma.rowsV; rw [List.length_map, List.length_range]; omega
    have fin : ∀ w', VwS W yb (x.rowsV i ++ [x.sers (x.co.roots (i : Int))]) [] w' → F17.k8 K (.pointer (some ⟨A.ma, 0, none⟩)) (.pointer (some ⟨y2, 0, none⟩)) (.pointer (some ⟨yb, 0, none⟩)) (.int .i64 (n : Int)) (.int .i64 (i : Int)) w' := fun w' hv => by
      refine F17.k8.to ?_
      try simp only [C.a6]
      rw [qaa (n := (i : Int) + 1) (by omega)]
      refine ih (i + 1) w' (by omega) ?_
      have : x.rowsV (i + 1) = x.rowsV i ++ [x.sers (x.co.roots (i : Int))] := by unfold Ma.rowsV; rw [List.range_succ, List.map_append]; rfl
      rw [this]; exact hv
    have hlen := qks hma (i : Int)
    try simp only [C.af, C.ag, Nat.zero_add]
    refine C.an (v := .pointer (some ⟨A.Q.co, 0, none⟩)) (fun w' hw => ⟨_, _, _, (h0.keep0 hw).blk, rfl⟩) ?_
    refine ⟨C.ae (v := rv) h1.hb rfl ⟨h1.fr, ?_, trivial⟩, ?_, trivial⟩
    · refine qe1 hma.co fun v w2 hf2 ho2 hn2 => ⟨h1.fr.trans hf2, ?_, trivial⟩
      have h2 := h1.keep hf2
      refine qci (h0.keep0 h2.fr) (by omega) ho2 fun u w3 hf3 hn3 ho3 => ⟨h2.fr.trans hf3, ?_, trivial⟩
      have h3 := h2.keep hf3
      exact qln h3 hL ho3 (hn3.mono h2.fr.size) fin
    · refine qe1 hma.co fun v w2 hf2 ho2 hn2 => ⟨h1.fr.trans hf2, C.ae (v := rv) (h1.keep hf2).hb rfl ⟨h1.fr.trans hf2, ?_, trivial⟩, ?_, trivial⟩
      · have h2 := h1.keep hf2
        refine qci (h0.keep0 h2.fr) (by omega) ho2 fun u w3 hf3 hn3 ho3 => ⟨h2.fr.trans hf3, ?_, trivial⟩
        exact qln (h2.keep hf3) hL ho3 (hn3.mono h2.fr.size) fin
      · have h2 := h1.keep hf2
        refine qci (h0.keep0 h2.fr) (by omega) ho2 fun u w3 hf3 hn3 ho3 => ⟨h2.fr.trans hf3, ?_⟩
        have h3 := h2.keep hf3
        exact ⟨C.ae (v := rv) h3.hb rfl ⟨h3.fr, qln h3 hL ho3 (hn3.mono h2.fr.size) fin, trivial⟩, qvd h3 hL ho3 (hn3.mono h2.fr.size) fin, trivial⟩
theorem qlr {W : World} {yb y2 : Nat} {lv : Value} {l : List Int} {L : List (List Va)} (h0 : qae A g cf B W x) (hll : l.length ≤ 3000) (hnl : qal W lv)
    (hk : ∀ w', VwS W yb L (l.map x.node) w' → F17.k14 K (.pointer (some ⟨y2, 0, none⟩)) (.pointer (some ⟨yb, 0, none⟩)) w') :
    ∀ (d i : Nat) (w : World), i + d = l.length → VwS W yb L ((l.take i).map x.node) w → qad w lv 3 1 (qaf l) →
      F17.l10 K (.pointer (some ⟨A.ma, 0, none⟩)) (.pointer (some ⟨y2, 0, none⟩)) (.pointer (some ⟨yb, 0, none⟩)) lv (.int .i64 (l.length : Int)) (.int .i64 (i : Int)) w := by
  intro d
  induction d with
  | zero =>
    intro i w hi hs hl
    have e : i = l.length := by omega
    subst e
    refine F17.l10.to ?_
    simp only [C.ac, C.au, decide_false, show ¬ ((l.length : Int) < (l.length : Int)) by omega]
    rw [List.take_length] at hs
    exact hk w hs
  | succ d ih =>
    intro i w hi hs hl
    have hlt : i < l.length := by omega
    refine F17.l10.to ?_
    simp only [C.ah, C.au, decide_true, show (i : Int) < (l.length : Int) by omega]
    refine F17.k11.to (C.bw hl.rd hlt fun gg o cs e fz hg hc => C.ae hg hc ?_)
    refine C.a4 (fun w' => Fr [] W w') fun w1 hf1 _ => ⟨hs.fr.trans hf1, ?_⟩
    obtain ⟨rv, nv, vs, fs, h1⟩ := (hs.keep hf1).spec
    have hl1 := hl.keep hf1 (by simp)
    have hma := h0.keep0 h1.fr
    have hN : ((l.take i).map x.node).length ≤ 100000 := by rw [List.length_map, List.length_take]; omega
    have hfl := ql4 x l[i]
    have hnl2 : ∀ q ∈ qab lv, q ∉ yb :: qab nv := fun q hq c => by
      rcases List.mem_cons.1 c with rfl | c
      · exact hl1.nb h1.hb (by decide) hq
      · exact hl1.ne h1.hN.sp (by decide) q hq c
    have fin : ∀ w2, Fr [] w1 w2 → ∀ w', VwS W yb L ((l.take i).map x.node ++ [x.node l[i]]) w' → Fr (yb :: qab nv) w2 w' → F17.k13 K (.pointer (some ⟨A.ma, 0, none⟩)) (.pointer (some ⟨y2, 0, none⟩)) (.pointer (some ⟨yb, 0, none⟩)) lv (.int .i64 (l.length : Int)) (.int .i64 (i : Int)) w' := fun w2 hf2 w' hv hfv => by
      refine F17.k13.to ?_
      try simp only [C.a6]
      rw [qaa (n := (i : Int) + 1) (by omega)]
      refine ih (i + 1) w' (by omega) ?_ ((hl1.keep hf2 (by simp)).keep' hfv hnl2)
      rw [List.take_add_one, List.getElem?_eq_getElem hlt, List.map_append]
      exact hv
    try simp only [C.af, C.ag, Nat.zero_add]
    refine C.an (v := .pointer (some ⟨A.Q.co, 0, none⟩)) (fun w' hw => ⟨_, _, _, (h0.keep0 hw).blk, rfl⟩) ?_
    have hse : ∀ w', Fr [] W w' → ∀ {K' : VK}, K' (.int .i64 (x.co.s.serial l[i])) w' → C.q Tryz.prog 49 #[.pointer (some ⟨A.Q.co, 0, none⟩), .int .i64 l[i]] w' K' := fun w' hw K' hk' => qef (h0.keep0 hw).co hk'
    have tl : ∀ w2 u, Fr [] w1 w2 → qal W u → qad w2 u 60 2 (vaC (x.sers (x.flds l[i]))) → ∃ x53, (∀ w', Fr [] W w' → (Instr.build 58 #[(0, .int .i64 (x.co.s.serial l[i])), (1, u)]).run Tryz.prog w' = .ok x53 w') ∧ x53 = .agg #[.int .i64 (x.node l[i]).1, u] := fun w2 u hf2 hn2 ho2 => by
      obtain ⟨A', c', e'⟩ := ho2.len
      exact ⟨_, fun w' _ => qzb _ e', rfl⟩
    refine ⟨C.ae (v := nv) h1.hb rfl ⟨h1.fr, hse _ h1.fr ⟨h1.fr, ?_, trivial⟩, trivial⟩, hse _ h1.fr ⟨h1.fr, C.ae (v := nv) h1.hb rfl ⟨h1.fr, ?_, trivial⟩, ?_, trivial⟩, trivial⟩
    · refine qff hma fun f w2 hf2 hn2 ho2 => ⟨h1.fr.trans hf2, qci (h0.keep0 (h1.fr.trans hf2)) (by omega) ho2 fun u w3 hf3 hn3 ho3 => ⟨(h1.fr.trans hf2).trans hf3, ?_⟩, trivial⟩
      have h3 := (h1.keep hf2).keep hf3
      have hn3' := hn3.mono (h1.fr.trans hf2).size
      obtain ⟨v53, t1, rfl⟩ := tl w3 u (hf2.trans hf3) hn3' ho3
      exact ⟨_, t1, qho h3 hN ho3 hn3' (fin w3 (hf2.trans hf3)), trivial⟩
    · refine qff hma fun f w2 hf2 hn2 ho2 => ⟨h1.fr.trans hf2, qci (h0.keep0 (h1.fr.trans hf2)) (by omega) ho2 fun u w3 hf3 hn3 ho3 => ⟨(h1.fr.trans hf2).trans hf3, ?_⟩, trivial⟩
      have h3 := (h1.keep hf2).keep hf3
      have hn3' := hn3.mono (h1.fr.trans hf2).size
      obtain ⟨v53, t1, rfl⟩ := tl w3 u (hf2.trans hf3) hn3' ho3
      exact ⟨_, t1, qho h3 hN ho3 hn3' (fin w3 (hf2.trans hf3)), trivial⟩
    · refine qff hma fun f w2 hf2 hn2 ho2 => ⟨h1.fr.trans hf2, C.ae (v := nv) (h1.keep hf2).hb rfl ⟨h1.fr.trans hf2, ?_, trivial⟩, ?_, trivial⟩
      · refine qci (h0.keep0 (h1.fr.trans hf2)) (by omega) ho2 fun u w3 hf3 hn3 ho3 => ⟨(h1.fr.trans hf2).trans hf3, ?_⟩
        have h3 := (h1.keep hf2).keep hf3
        have hn3' := hn3.mono (h1.fr.trans hf2).size
        obtain ⟨v53, t1, rfl⟩ := tl w3 u (hf2.trans hf3) hn3' ho3
        exact ⟨_, t1, qho h3 hN ho3 hn3' (fin w3 (hf2.trans hf3)), trivial⟩
      · refine qci (h0.keep0 (h1.fr.trans hf2)) (by omega) ho2 fun u w3 hf3 hn3 ho3 => ⟨(h1.fr.trans hf2).trans hf3, ?_⟩
        have h3 := (h1.keep hf2).keep hf3
        have hn3' := hn3.mono (h1.fr.trans hf2).size
        obtain ⟨v53, t1, rfl⟩ := tl w3 u (hf2.trans hf3) hn3' ho3
        exact ⟨_, t1, C.ae (v := nv) h3.hb rfl ⟨h3.fr, qho h3 hN ho3 hn3' (fin w3 (hf2.trans hf3)), trivial⟩, qsj h3 hN ho3 hn3' (fin w3 (hf2.trans hf3)), trivial⟩
theorem qtx (hr : qd3 x) : (qc1 x.co.s.serial (x.rch cf)).length ≤ 2049 := by
  rw [qhj]
  have hok : qbn (x.rch0 cf) := by
    have : x.rch0 cf = x.rchT cf.threads.toNat := rfl
    rw [this]; exact qhz x hr _
  exact (qir x 2050 0 hok).le
theorem qjr (h : qae A g cf B w x) (hr : qd3 x) (hk : ∀ rv nv vs fs w', Fr [] w w' → qa5 w.heap.size w' rv (x.view cf).1 vs → qax w.heap.size w' nv (x.view cf).2 fs → K (.agg #[rv, nv]) w') : C.q Tryz.prog 17 #[.pointer (some ⟨A.ma, 0, none⟩)] w K := by
  have hth := h.fine.th
  obtain ⟨n, hn⟩ := Int.eq_ofNat_of_zero_le (show 0 ≤ cf.threads by omega)
  refine F17.sh (C.av fun y2 w1 hn1 => qk5 (h.keep0 hn1.fr) ?_)
  have l1 := hn1.is
  try simp only [C.ac, C.aq, Bool.not_true]
  refine F17.k3.to (C.av fun yb w2 hn2 => ?_)
  have l2 := hn2.is
  have h2 := h.keep0 (hn1.fr.trans hn2.fr)
  try simp only [C.af, C.ag, Nat.zero_add]
  refine C.ae (v := .int .i64 cf.threads) h2.blk rfl ?_
  rw [hn]
  have hs2 : VwS w1 yb (x.rowsV 0) [] w2 := ⟨hn2.fr, by omega, .slice none 0 0, .slice none 0 0, [], [], hn2.at_, ⟨qad.nil _ _ _, by simp [qab, Value.ownBlock], rfl, fun i a => by simp [Ma.rowsV] at a⟩, ⟨rfl, qad.nil _ _ _, by simp [qab, Value.ownBlock], fun i a => by simp at a⟩⟩
  have hma1 := h.keep0 hn1.fr
  refine qm2 (W := w1) (yb := yb) (y2 := y2) hma1 hn (fun w3 hs3 => ?_) n 0 w2 (by omega) hs2
  refine F17.k9.to (qqg (hma1.keep0 hs3.fr) hr fun lv w4 hf4 hn4 ho4 => C.bh ho4.rd ?_)
  rw [qaj]
  have hlen := qtx (x := x) (cf := cf) hr
  refine qlr (W := w1) (yb := yb) (y2 := y2) (L := x.rowsV n) hma1 (by omega) (hn4.mono hs3.fr.size) (fun w5 hs5 => ?_) (qc1 x.co.s.serial (x.rch cf)).length 0 w4 (by omega) (hs3.keep hf4) ho4
  obtain ⟨rv, nv, vs, fs, e1, e2, e3⟩ := hs5.ex
  have b2 : w5.heap[y2]? = some (.cells #[.slice none 0 0, .slice none 0 0] 46 (0, 0)) := hs5.fr.at_ hn1.at_ (by simp)
  have y2l : y2 < w1.heap.size := (Array.getElem?_eq_some_iff.1 hn1.at_).1
  have hne : y2 ≠ yb := by have := hs5.hy; omega
  have hone : ∀ u ∈ (Value.cells (.agg #[rv, nv])).toList, u.oneCell' = true := IsV.ones (w := w5) (V := (x.rowsV n, (qc1 x.co.s.serial (x.rch cf)).map x.node)) ⟨e2.rd, e3.rd⟩
  have hcells : Value.cells (.agg #[rv, nv]) = #[rv, nv] := IsV.cells (w := w5) (V := (x.rowsV n, (qc1 x.co.s.serial (x.rch cf)).map x.node)) ⟨e2.rd, e3.rd⟩
  refine F17.k14.to (C.ax e1 rfl (C.a1 (x := .agg #[rv, nv]) b2 (by rw [hcells]; rfl) hone rfl fun w6 hu6 => ?_))
  rw [hcells] at hu6
  refine C.ax hu6.at_ rfl (hk rv nv vs fs w6 ((hn1.fr.trans hs5.fr).then hu6.fr fun q hq => .inr (by simp only [List.mem_singleton] at hq; omega)) ?_ ?_)
  · have : (x.view cf).1 = x.rowsV n := by unfold Ma.view; rw [hn, Int.toNat_natCast]
    rw [this]
    have h6 : qa5 w1.heap.size w6 rv (x.rowsV n) vs := e2.keep hu6.fr fun q hq => .inl (by simp only [List.mem_singleton] at hq; omega)
    exact ⟨h6.sp, fun q hq => Nat.le_trans hn1.fr.size (h6.ge q hq), h6.len, fun i a b => ⟨(h6.row i a b).1, fun q hq => Nat.le_trans hn1.fr.size ((h6.row i a b).2 q hq)⟩⟩
  · have h6 : qax w1.heap.size w6 nv ((qc1 x.co.s.serial (x.rch cf)).map x.node) fs := e3.keep hu6.fr fun q hq => .inl (by simp only [List.mem_singleton] at hq; omega)
    exact ⟨h6.len, h6.sp, fun q hq => Nat.le_trans hn1.fr.size (h6.ge q hq), fun i a b => ⟨(h6.row i a b).1, fun q hq => Nat.le_trans hn1.fr.size ((h6.row i a b).2 q hq)⟩⟩
end
def Ma.objs (x : Ma) : List Int := srt (x.co.s.objects.map x.co.s.serial)
section
variable {K : VK} {A : Mad} {g : Gw} {cf : Cf} {B : Int} {x : Ma} {w : World}
theorem qvh {v : Value} {l : List Int} (ho : qad w v 2 1 (qaf l)) (hl : l.length ≤ 4000000000000000) (h : ∀ w', Fr (qab v) w w' → qad w' v 2 1 (qaf (srt l)) → K (.tuple #[]) w') : C.q Tryz.prog 52 #[v] w K := by
  obtain ⟨⟨h1, h2⟩, h3⟩ := ho
  rw [qaj] at h1 h2
  rcases h2 with ⟨rfl, h2⟩ | ⟨g, cap, cur, rfl, hb, hg, h4, h5, h6, h7⟩
  · have e : l = [] := List.eq_nil_of_length_eq_zero h2
    subst e
    refine (AnyM.slices_Sort_int_none quf none 0 w).mono ?_
    rintro e w' ⟨rfl, rfl⟩
    exact ⟨_, rfl, h w' (Fr.refl _ _) (by
      have : srt [] = [] := by simp [srt]
      rw [this]
      exact qad.nil _ _ _)⟩
  · rw [qdc, Nat.mul_one] at h7
    have hH := holds_of_blockI hg h7
    refine (AnyM.slices_Sort_int quf g 0 cap l w hH (qac hg) (by omega)).mono ?_
    rintro e w' ⟨rfl, n, os, rfl⟩
    refine ⟨_, rfl, h _ (qep (v := .slice (some ⟨g, 0, none⟩) l.length cap) (grownBy_sortedI _)) ?_⟩
    have hr := ownsRow_sortedI (n := n) (os := os) (base := 0) (ts := srt l) (qh1 l) (Nat.zero_le _) hg h4 h5 h6
    refine ⟨?_, fun x hx => ⟨?_, qfk x hx⟩⟩
    · rw [qaj, qdc, qh1]
      exact hr
    · simp only [qaf, List.mem_map] at hx
      obtain ⟨y, _, rfl⟩ := hx
      rfl
theorem bsW (a : Int) : (Instr.buildSlice 52 1 #[(0, .int .i64 a)]).run Tryz.prog w = .ok (.slice (some ⟨w.heap.size, 0, none⟩) 1 1) (w.alloc (.cells #[.int .i64 a] 2)) := by kernel_rfl
theorem C.da {W0 : World} {v : Value} {l : List Int} {n : Int} (hf : Fr [] W0 w) (hn : qal W0 v) (hv : qad w v 2 1 (qaf l)) (hl : l.length ≤ 17592186044415)
    (hk : ∀ v' w', Fr [] W0 w' → qal W0 v' → qad w' v' 2 1 (qaf (l ++ [n])) → Fr (qab v) w w' → (∀ g ∈ qab v', g ∈ qab v ∨ w.heap.size ≤ g) → K v' w') :
    C.ay Tryz.prog (Instr.buildSlice 52 1 #[(0, .int .i64 n)]) w fun x w1 => C.ay Tryz.prog (Builtin.append_ #[52, 52] 52 #[v, x]) w1 K :=
  C.cv (x := [.int .i64 n]) (e := 2) (sz := 1) (bytes := 8) (z := .int .i64 0) Tryz.underlying52 (by kernel_rfl) rfl (by decide) (bsW n) rfl (by simp [Value.oneCell']) hf hn hv (by rw [qaj]; omega) (by rw [qaj]; omega) fun v' w' a b c d e => hk v' w' a b (by rw [qil]; exact c) d e
theorem qkx {W : World} {lv : Value} {l : List Int} (h0 : qae A g cf B W x) (hl : l.length ≤ 2048) (hk : ∀ v w', Fr [] W w' → qal W v → qad w' v 2 1 (qaf (l.map x.co.s.serial)) → F18.k9 K v w') :
    ∀ (d i : Nat) (w : World) (v : Value), i + d = l.length → Fr [] W w → qad w lv 3 1 (qaf l) → qal W v → qad w v 2 1 (qaf ((l.take i).map x.co.s.serial)) →
      F18.l5 K (.pointer (some ⟨A.ma, 0, none⟩)) v lv (.int .i64 (l.length : Int)) (.int .i64 (i : Int)) w := by
  intro d
  induction d with
  | zero =>
    intro i w v hi hf hv hn' hv'
    have e : i = l.length := by omega
    subst e
    refine F18.l5.to ?_
    simp only [C.ac, C.au, decide_false, show ¬ ((l.length : Int) < (l.length : Int)) by omega]
    rw [List.take_length] at hv'
    exact hk v w hf hn' hv'
  | succ d ih =>
    intro i w v hi hf hv hn' hv'
    have hlt : i < l.length := by omega
    refine F18.l5.to ?_
    simp only [C.ah, C.au, decide_true, show (i : Int) < (l.length : Int) by omega]
    refine F18.k6.to (C.bw hv.rd hlt fun gg o cs e fz hg hc => C.ae hg hc ?_)
    try simp only [C.af, C.ag, Nat.zero_add]
    have h := h0.keep0 hf
    refine C.ae (v := .pointer (some ⟨A.Q.co, 0, none⟩)) h.blk rfl (qef h.co ?_)
    refine C.da hf hn' hv' (by simp; omega) fun v1 w1 hf1 hn1 ho1 hf1' hg1 => ?_
    refine F18.k8.to ?_
    try simp only [C.a6]
    rw [qaa (n := (i : Int) + 1) (by omega)]
    refine ih (i + 1) w1 v1 (by omega) hf1 (hv.keep' hf1' (hv.ne hv' (by decide))) hn1 ?_
    rw [List.take_add_one, List.getElem?_eq_getElem hlt, List.map_append]
    exact ho1
theorem qga (h : qae A g cf B w x) (hk : ∀ v w', Fr [] w w' → qal w v → qad w' v 2 1 (qaf x.objs) → K v w') : C.q Tryz.prog 18 #[.pointer (some ⟨A.ma, 0, none⟩)] w K := by
  refine F18.sh (qk5 h ?_)
  try simp only [C.ac, C.aq, Bool.not_true]
  refine F18.k3.to ?_
  try simp only [C.af, C.ag, Nat.zero_add]
  refine C.ae (v := .pointer (some ⟨A.Q.co, 0, none⟩)) h.blk rfl ?_
  refine qoo h.co fun lv w1 hf1 hn1 ho1 => C.bh ho1.rd ?_
  rw [qaj]
  have hl : x.co.s.objects.length ≤ 2048 := qft h.co.hp.st
  refine qkx (W := w) h hl (fun v w2 hf2 hn2 ho2 => ?_) x.co.s.objects.length 0 w1 _ (by omega) hf1 ho1 (qal.nil _) (qad.nil _ _ _)
  refine F18.k9.to (qvh ho2 (by simp; omega) fun w3 hf3 ho3 => ?_)
  exact hk v w3 (hf2.then hf3 fun q hq => .inr (hn2.blk q hq)) hn2 ho3
end
section
variable {A A' : Mad} {g g' g1 : Gw} {cf cf' : Cf} {B B' : Int} {w w' : World} {x x' : Ma} {T : Nat}
theorem Mad.subS {y : Nat} (hy : y ∈ A.S T g) : y ∈ A.all T g := by
  simp only [Mad.S, List.mem_append] at hy
  simp only [Mad.all, Mad.low, List.mem_append]
  rcases hy with c | c | c | c | c
  · exact .inl c
  · exact .inr (.inl (.inl c))
  · exact .inr (.inl (.inr (.inl c)))
  · exact .inr (.inl (.inr (.inr (List.mem_of_mem_tail c))))
  · exact .inr (.inr c)
theorem Mad.all_cases {y : Nat} (hy : y ∈ A.all T g) : y = 0 ∨ y ∈ A.S T g := by
  simp only [Mad.all, Mad.low, List.mem_append] at hy
  simp only [Mad.S, List.mem_append]
  rcases hy with c | (c | c | c) | c
  · exact .inr (.inl c)
  · exact .inr (.inr (.inl c))
  · exact .inr (.inr (.inr (.inl c)))
  · unfold Sad.all at c
    rcases List.mem_cons.1 c with c | c
    · exact .inl c
    · exact .inr (.inr (.inr (.inr (.inl c))))
  · exact .inr (.inr (.inr (.inr (.inr c))))
theorem qae.s0 (h : qae A g cf B w x) : 0 ∉ A.S cf.threads.toNat g := by
  have h0 : 0 ∈ A.Q.H.D.all := by simp [Sad.all]
  have hN : 0 < A.Q.H.N := h.co.hp.ok.lo 0 (by simp [h0])
  intro c
  simp only [Mad.S, List.mem_append] at c
  rcases c with c | c | c | c | c
  · exact h.ok.dj 0 c (by simp [Mad.low, h0])
  · exact h.co.ok.dj 0 c (by simp [h0])
  · exact h.co.hp.ok.dj 0 c h0
  · exact h.co.hp.st.ok.z c
  · simp only [Gw.all, Mv.all, List.mem_append] at c
    rcases c with (c | c | c) | c
    · have := h.co.hp.hi 0 c; omega
    · have := h.co.hv 0 c; omega
    · have := h.co.ht 0 c; omega
    · have := h.hs 0 c; omega
def qb9 (W : World) (A : Mad) (T : Nat) (g : Gw) : Prop := ∀ y ∈ A.S T g, W.heap.size ≤ y
theorem qb9.of (h : qae A g cf B w x) {W : World} (hn : ∀ y ∈ A.all cf.threads.toNat g, y = 0 ∨ W.heap.size ≤ y) : qb9 W A cf.threads.toNat g := fun y hy => by
  rcases hn y (Mad.subS hy) with e | e
  · subst e; exact absurd hy h.s0
  · exact e
theorem MTo.inS (h : MTo A T g w g' w') {y : Nat} (hy : y ∈ A.S T g') : y ∈ A.S T g ∨ w.heap.size ≤ y := by
  simp only [Mad.S, List.mem_append] at hy ⊢
  rcases hy with c | c | c | c | c
  · exact .inl (.inl c)
  · exact .inl (.inr (.inl c))
  · exact .inl (.inr (.inr (.inl c)))
  · exact .inl (.inr (.inr (.inr (.inl c))))
  · rcases h.gr y c with d | d
    · exact .inl (.inr (.inr (.inr (.inr d))))
    · exact .inr d
theorem qb9.step {W : World} (h : qb9 W A T g) (hf : MTo A T g w g' w') (hs : W.heap.size ≤ w.heap.size) : qb9 W A T g' := fun y hy => by
  rcases hf.inS hy with c | c
  · exact h y c
  · omega
theorem qb9.fr {W : World} (h : qb9 W A T g) (hW : Fr [] W w) (hf : MTo A T g w g' w') : Fr [] W w' := hW.then hf.fr fun y hy => .inr (h y hy)
structure Two (A : Mad) (g : Gw) (A' : Mad) (g' : Gw) (T : Nat) : Prop where
  l : ∀ y ∈ A.S T g, y ∉ A'.all T g'
  r : ∀ y ∈ A'.S T g', y ∉ A.all T g
theorem Two.symm (h : Two A g A' g' T) : Two A' g' A g T := ⟨h.r, h.l⟩
theorem Two.step (h : Two A g A' g' cf.threads.toNat) (h1 : qae A g cf B w x) (h2 : qae A' g' cf B' w x') (hf : MTo A cf.threads.toNat g w g1 w') : Two A g1 A' g' cf.threads.toNat ∧ qae A' g' cf B' w' x' := by
  refine ⟨⟨fun y hy c => ?_, fun y hy c => ?_⟩, h2.keep hf.fr fun y hy c => h.l y c hy⟩
  · rcases hf.inS hy with d | d
    · exact h.l y d c
    · have := h2.ltA y c; omega
  · rcases Mad.all_cases c with rfl | c
    · exact h2.s0 hy
    · rcases hf.inS c with d | d
      · exact h.r y hy (Mad.subS d)
      · have := h2.ltA y (Mad.subS hy); omega
end
end Go.Proofs.YtcakfaakbpdklaaGreatDoorV
