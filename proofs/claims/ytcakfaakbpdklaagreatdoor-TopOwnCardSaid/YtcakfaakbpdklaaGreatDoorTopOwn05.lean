/- Part 5 of what the law needs: own lemmas, in the order in which they build. -/
import Derived.Maps.RangeRun
import Derived.Test.YtcakfaakbpdklaaGreatDoorTopOwn04
namespace Go.Proofs.YtcakfaakbpdklaaGreatDoorV
open Go Go.Proofs Go.RowKit
set_option linter.unusedVariables false
set_option linter.unusedSimpArgs false
set_option maxRecDepth 10000
structure qa6 (w : World) (b : Nat) (kv : Value) (ks : List Int) : Prop where
  blk : w.heap[b]? = some (.cells #[.bool true, kv] 292 (0, 0))
  own : qad w kv 3 1 (qaf ks)
  le : ks.length ≤ 64
theorem qa6.keep {S : List Nat} {w w' : World} {b : Nat} {kv : Value} {ks : List Int} (h : qa6 w b kv ks) (hf : Fr S w w') (hb : b ∉ S) (hS : ∀ g ∈ qab kv, g ∉ S) : qa6 w' b kv ks := ⟨hf.at_ h.blk hb, h.own.keep' hf hS, h.le⟩
theorem qa6.keep0 {w w' : World} {b : Nat} {kv : Value} {ks : List Int} (h : qa6 w b kv ks) (hf : Fr [] w w') : qa6 w' b kv ks := h.keep hf (by simp) (by simp)
section
variable {K : VK} {w : World} {b : Nat} {kv : Value} {ks : List Int}
theorem qa6.nb (h : qa6 w b kv ks) : b ∉ qab kv := h.own.nb h.blk (by decide)
theorem qdt {p : Int} (h : qa6 w b kv ks) (hk : K (.int .i64 (kAt ks p)) w) : C.q Tryz.prog 283 #[.pointer (some ⟨b, 0, none⟩), .int .i64 p] w K := by
  refine F283.sh ⟨_, qam _ _ _ Tryz.underlying234, ?_⟩
  simp only [C.ar, C.au, C.al]
  unfold kAt at hk
  by_cases c1 : p < 0
  · simp only [C.ah, C.aw, C.ba, decide_true, c1]
    rwa [if_neg (by omega)] at hk
  simp only [C.ar, C.af, C.ag, C.al, Nat.zero_add, decide_false, c1]
  refine C.ae (v := kv) h.blk rfl (C.bh h.own.rd ?_)
  rw [qaj]
  by_cases c2 : p ≥ (ks.length : Int)
  · simp only [C.ah, C.bc, decide_true, c2]
    rwa [if_neg (by omega)] at hk
  simp only [C.ac, C.bc, decide_false, c2]
  rw [if_pos (by omega)] at hk
  obtain ⟨p, rfl⟩ := Int.eq_ofNat_of_zero_le (show 0 ≤ p by omega)
  have hp : p < ks.length := by omega
  rw [Int.toNat_natCast, qfx hp] at hk
  refine F283.k3.to ?_
  simp only [C.af, C.ag, Nat.zero_add]
  exact C.ae (v := kv) h.blk rfl (C.bw h.own.rd hp fun g o cs e fz hg hc => C.ae hg hc hk)
theorem qez (h : ks.length ≤ 64) {p : Int} (hp : kAt ks p ≠ -1) : 0 ≤ p ∧ p < ks.length := by
  apply Classical.byContradiction
  intro hc
  exact hp (qf0 hc)
theorem qrw {p : Nat} (h : qa6 w b kv ks) (hp : p < ks.length) (hk : K (.int .i64 ((qco (ks.drop (p + 1)) + 1 : Nat) : Int)) w) :
    ∀ (d n : Nat), ks.length = p + n + d → qco (ks.drop (p + n)) + n = qco (ks.drop (p + 1)) + 1 → F295.l7 K (.pointer (some ⟨b, 0, none⟩)) (.int .i64 (p : Int)) (.int .i64 (n : Int)) w := by
  have hle := h.le
  intro d
  induction d with
  | zero =>
    intro n hn he
    refine F295.l7.to ?_
    simp only [C.a6]
    rw [qaa (n := (p : Int) + n) (by omega)]
    refine qdt h ?_
    rw [qf0 (by omega)]
    simp only [C.ac, C.az, decide_false, show ¬ ((-1 : Int) = 6) by decide]
    rw [List.drop_of_length_le (by omega)] at he
    simp only [qco] at he
    refine F295.k9.to ?_
    rw [← he, Nat.zero_add] at hk
    exact hk
  | succ d ih =>
    intro n hn he
    refine F295.l7.to ?_
    simp only [C.a6]
    rw [qaa (n := (p : Int) + n) (by omega), show (p : Int) + n = ((p + n : Nat) : Int) by omega]
    refine qdt h ?_
    have hpn : p + n < ks.length := by omega
    rw [qg7 hpn]
    rw [List.drop_eq_getElem_cons hpn] at he
    have e : qco (ks[p + n] :: ks.drop (p + n + 1)) = if ks[p + n] = 6 then qco (ks.drop (p + n + 1)) + 1 else 0 := rfl
    rw [e] at he
    by_cases c : ks[p + n] = 6
    · simp only [C.ah, C.az, eq_self, decide_true, c]
      rw [if_pos c] at he
      refine F295.k8.to ?_
      simp only [C.a6]
      rw [qaa (n := (n : Int) + 1) (by omega), show (n : Int) + 1 = ((n + 1 : Nat) : Int) by omega]
      exact ih (n + 1) (by omega) (by rw [show p + (n + 1) = p + n + 1 by omega]; omega)
    · simp only [C.ac, C.az, decide_false, c]
      rw [if_neg c, Nat.zero_add] at he
      refine F295.k9.to ?_
      rw [← he] at hk
      exact hk
theorem qjs {p : Int} (h : qa6 w b kv ks) (hk : K (.int .i64 (qbh ks p : Nat)) w) : C.q Tryz.prog 295 #[.pointer (some ⟨b, 0, none⟩), .int .i64 p] w K := by
  refine F295.sh (qdt h (qbt ?_))
  unfold qbh at hk
  by_cases c : csz (kAt ks p) > 0
  · simp only [C.ah, C.bl, decide_true, c]
    rwa [if_pos c] at hk
  simp only [C.ac, C.bl, decide_false, c]
  rw [if_neg c] at hk
  refine F295.k4.to ?_
  by_cases d : kAt ks p = 5
  · simp only [C.ac, C.be, eq_self, decide_false, ne_eq, d, not_true_eq_false]
    rw [if_pos d] at hk
    have hp := qez h.le (p := p) (by rw [d]; decide)
    obtain ⟨p, rfl⟩ := Int.eq_ofNat_of_zero_le hp.1
    rw [Int.toNat_natCast] at hk
    refine F295.k6.to (qrw (p := p) h (by omega) hk (ks.length - p - 1) 1 (by omega) rfl)
  · simp only [C.ah, C.be, decide_true, ne_eq, d, not_false_eq_true]
    rwa [if_neg d] at hk
theorem qo5 (h : qa6 w b kv ks) : ∀ (p : Nat), (∀ q, q = qgg ks p → K (.int .i64 (if qbh ks q = 0 then -1 else q)) w) → F285.l1 K (.pointer (some ⟨b, 0, none⟩)) (.int .i64 (p : Int)) w := by
  have hle := h.le
  have tail : ∀ q : Int, K (.int .i64 (if qbh ks q = 0 then -1 else q)) w → F285.k3 K (.pointer (some ⟨b, 0, none⟩)) (.int .i64 q) w := fun q hq => by
    refine F285.k3.to (qjs h ?_)
    by_cases c : qbh ks q = 0
    · rw [if_pos c] at hq
      simp only [C.ah, C.az, decide_true, show (((qbh ks q : Nat) : Int) = 0) = True by simp [c]]
      exact hq
    · rw [if_neg c] at hq
      simp only [C.ac, C.az, decide_false, show (((qbh ks q : Nat) : Int) = 0) = False by simp; exact c]
      exact F285.k5.to hq
  intro p
  induction p with
  | zero =>
    intro hk
    have e : qgg ks 0 = if kAt ks 0 = 6 then -1 else 0 := rfl
    refine F285.l1.to (qdt h ?_)
    by_cases c : kAt ks 0 = 6
    · simp only [C.ah, C.az, eq_self, decide_true, show kAt ks ((0 : Nat) : Int) = 6 from c]
      rw [if_pos c] at e
      refine F285.k2.to ?_
      simp only [C.bo]
      rw [qaa (n := ((0 : Nat) : Int) - 1) (by omega), show ((0 : Nat) : Int) - 1 = -1 from rfl]
      refine F285.l1.to (qdt h ?_)
      rw [qf0 (by omega)]
      simp only [C.ac, C.az, decide_false, show ¬ ((-1 : Int) = 6) by decide]
      exact tail _ (hk _ e.symm)
    · simp only [C.ac, C.az, decide_false, show ¬ kAt ks ((0 : Nat) : Int) = 6 from c]
      rw [if_neg c] at e
      exact tail _ (hk _ e.symm)
  | succ p ih =>
    intro hk
    have e : qgg ks (p + 1) = if kAt ks ((p + 1 : Nat) : Int) = 6 then qgg ks p else ((p + 1 : Nat) : Int) := rfl
    refine F285.l1.to (qdt h ?_)
    by_cases c : kAt ks ((p + 1 : Nat) : Int) = 6
    · simp only [C.ah, C.az, eq_self, decide_true, c]
      rw [if_pos c] at e
      have hp := qez h.le (p := ((p + 1 : Nat) : Int)) (by rw [c]; decide)
      refine F285.k2.to ?_
      simp only [C.bo]
      rw [qaa (n := ((p + 1 : Nat) : Int) - 1) (by omega), show ((p + 1 : Nat) : Int) - 1 = (p : Int) by omega]
      rw [e] at hk
      exact ih hk
    · simp only [C.ac, C.az, decide_false, c]
      rw [if_neg c] at e
      exact tail _ (hk _ e.symm)
theorem qut {p : Int} (h : qa6 w b kv ks) (hk : K (.int .i64 (qdx ks p)) w) : C.q Tryz.prog 285 #[.pointer (some ⟨b, 0, none⟩), .int .i64 p] w K := by
  refine F285.sh ?_
  unfold qdx at hk
  by_cases c : 0 ≤ p
  · obtain ⟨p, rfl⟩ := Int.eq_ofNat_of_zero_le c
    simp only [c, if_true, Int.toNat_natCast] at hk
    exact qo5 h p fun q hq => by subst hq; exact hk
  · simp only [c, if_false] at hk
    have : qbh ks p = 0 := by
      unfold qbh
      rw [qf0 (by omega), if_neg (by decide), if_neg (by decide)]
    rw [if_pos this] at hk
    refine F285.l1.to (qdt h ?_)
    rw [qf0 (by omega)]
    simp only [C.ac, C.az, decide_false, show ¬ ((-1 : Int) = 6) by decide]
    refine F285.k3.to (qjs h ?_)
    simp only [C.ah, C.az, decide_true, this, show (((0 : Nat) : Int) = 0) = True by simp]
    exact hk
theorem qg8 (hle : ks.length ≤ 64) (p : Int) : qbh ks p = 0 ∨ (0 ≤ p ∧ p.toNat + qbh ks p ≤ ks.length) := by
  by_cases c : csz (kAt ks p) > 0
  · have hp := qez hle (p := p) (by intro e; rw [e] at c; exact absurd c (by decide))
    right
    unfold qbh
    rw [if_pos c]
    omega
  · by_cases d : kAt ks p = 5
    · have hp := qez hle (p := p) (by rw [d]; decide)
      right
      unfold qbh
      rw [if_neg c, if_pos d]
      have := (qi9 (ks.drop (p.toNat + 1))).1
      rw [List.length_drop] at this
      omega
    · left
      unfold qbh
      rw [if_neg c, if_neg d]
theorem qkn {p n : Nat} {k : Int} (h : p + n + 1 ≤ ks.length) : (qb5 ks p n k).set (p + n) k = qb5 ks p (n + 1) k := by
  unfold qb5
  apply List.ext_getElem?
  intro i
  rw [List.getElem?_set, qk9 (by omega), qk9 (by omega)]
  by_cases c : p + n = i
  · subst c
    rw [if_pos rfl, if_pos (by simp; omega), if_pos (by omega)]
  · rw [if_neg c]
    by_cases d : p ≤ i ∧ i < p + n
    · rw [if_pos d, if_pos (by omega)]
    · rw [if_neg d, if_neg (by omega)]
theorem qko {p : Nat} {k : Int} : qb5 ks p 0 k = ks := by
  unfold qb5
  simp
theorem qfl (l : List Int) (j : Nat) (n : Int) : (qaf l).set j [.int .i64 n] = qaf (l.set j n) := by simp [qaf, List.map_set]
theorem qq8 {W : World} {p n : Nat} {y : Value} (hW : qa6 W b kv ks) (hp : p + n ≤ ks.length) (hk : ∀ w', Fr (qab kv) W w' → qa6 w' b kv (qb5 ks p n 0) → K y w') :
    ∀ (d j : Nat) (w : World), n = j + d → Fr (qab kv) W w → qa6 w b kv (qb5 ks p j 0) → F264.l3 K (.pointer (some ⟨b, 0, none⟩)) (.int .i64 (p : Int)) y (.int .i64 (n : Int)) (.int .i64 (j : Int)) w := by
  have hle := hW.le
  intro d
  induction d with
  | zero =>
    intro j w hd hf hP
    refine F264.l3.to ?_
    simp only [C.ac, C.au, decide_false, show ¬ ((j : Int) < (n : Int)) by omega]
    rw [show j = n by omega] at hP
    exact F264.k7.to (hk w hf hP)
  | succ d ih =>
    intro j w hd hf hP
    refine F264.l3.to ?_
    simp only [C.ah, C.au, decide_true, show ((j : Int) < (n : Int)) by omega]
    refine F264.k4.to ?_
    simp only [C.af, C.ag, C.a6, Nat.zero_add]
    refine C.ae (v := kv) hP.blk rfl ?_
    rw [qaa (n := (p : Int) + j) (by omega), show (p : Int) + j = ((p + j : Nat) : Int) by omega]
    have hl := qdl (ks := ks) (p := p) (n := j) (k := 0) (by omega)
    refine C.b3 (x := .int .i64 0) hP.own (by omega) (by rw [qaj, hl]; omega) rfl (by intro u hu; simp [Value.cells] at hu; subst hu; rfl) fun w1 ho1 hf1 _ => ?_
    rw [Int.toNat_natCast] at ho1
    have ho1 : qad w1 kv 3 1 (qaf (qb5 ks p (j + 1) 0)) := by
      rw [← qkn (by omega), ← qfl]
      exact ho1
    refine F264.k6.to ?_
    simp only [C.a6]
    rw [qaa (n := (j : Int) + 1) (by omega), show (j : Int) + 1 = ((j + 1 : Nat) : Int) by omega]
    exact ih (j + 1) w1 (by omega) (hf.trans (hf1.mono fun x hx => hx)) ⟨hf1.at_ hP.blk hP.nb, ho1, by rw [qdl (by omega)]; exact hle⟩
theorem qno {p : Int} (h : qa6 w b kv ks) (hk : ∀ w', Fr (qab kv) w w' → qa6 w' b kv (qhw ks p) → K (.int .i64 (qbh ks p : Nat)) w') : C.q Tryz.prog 264 #[.pointer (some ⟨b, 0, none⟩), .int .i64 p] w K := by
  refine F264.sh (qjs h ?_)
  unfold qhw at hk
  rcases qg8 h.le p with e | ⟨hp, hl⟩
  · rw [if_pos e] at hk
    rw [e] at hk ⊢
    refine F264.l3.to ?_
    simp only [C.ac, C.au, decide_false, show ¬ ((0 : Int) < ((0 : Nat) : Int)) by omega]
    exact F264.k7.to (hk w (Fr.refl _ _) h)
  · by_cases e : qbh ks p = 0
    · rw [if_pos e] at hk
      rw [e] at hk ⊢
      refine F264.l3.to ?_
      simp only [C.ac, C.au, decide_false, show ¬ ((0 : Int) < ((0 : Nat) : Int)) by omega]
      exact F264.k7.to (hk w (Fr.refl _ _) h)
    · rw [if_neg e] at hk
      obtain ⟨p, rfl⟩ := Int.eq_ofNat_of_zero_le hp
      rw [Int.toNat_natCast] at hl hk
      exact qq8 h hl hk _ 0 w (by rw [Nat.zero_add]) (Fr.refl _ _) (by rw [qko]; exact h)
theorem qnl {a : Value} {x : List Int} {n : Int} (ha : RdS w a 1 (qaf x)) (h1 : ∀ j : Nat, x[j]? = some n → (∀ i, i < j → x[i]? ≠ some n) → K (.int .i64 (j : Int)) w) (h2 : n ∉ x → K (.int .i64 (-1)) w) : C.q Tryz.prog 125 #[a, .int .i64 n] w K := by
  have hle := ha.le
  rw [qaj] at hle
  refine F125.sh (C.bh ha ?_)
  rw [qaj]
  have key : ∀ (d j : Nat), x.length = j + d → (∀ i, i < j → x[i]? ≠ some n) → F125.l2 K a (.int .i64 n) (.int .i64 (x.length : Int)) (.int .i64 (j : Int)) w := by
    intro d
    induction d with
    | zero =>
      intro j hd hno
      refine F125.l2.to ?_
      simp only [C.ac, C.au, decide_false, show ¬ ((j : Int) < (x.length : Int)) by omega]
      refine F125.k7.to (h2 fun hm => ?_)
      obtain ⟨i, hi, e⟩ := List.getElem_of_mem hm
      exact hno i (by omega) (by rw [List.getElem?_eq_getElem hi, e])
    | succ d ih =>
      intro j hd hno
      have jx : j < x.length := by omega
      refine F125.l2.to ?_
      simp only [C.ah, C.au, decide_true, show ((j : Int) < (x.length : Int)) by omega]
      refine F125.k3.to (C.bw ha jx fun g o cs e fz hg hc => C.ae hg hc ?_)
      simp only [C.az]
      by_cases hn : n = x[j]
      · rw [decide_eq_true hn]
        simp only [C.ah]
        exact h1 j (by rw [List.getElem?_eq_getElem jx, hn]) hno
      · simp only [C.ac, decide_false, hn]
        refine F125.k6.to ?_
        simp only [C.a6]
        rw [qaa (n := (j : Int) + 1) (by omega), show (j : Int) + 1 = ((j + 1 : Nat) : Int) by omega]
        refine ih (j + 1) (by omega) fun i hi => ?_
        by_cases e : i = j
        · subst e
          rw [List.getElem?_eq_getElem jx]
          intro hc
          exact hn (Option.some.inj hc).symm
        · exact hno i (by omega)
  exact key x.length 0 (by omega) fun i hi => by omega
theorem qf9 {a : Value} {x : List Int} {n : Int} (ha : RdS w a 1 (qaf x)) (h : K (.bool (decide (n ∈ x))) w) : C.q Tryz.prog 85 #[a, .int .i64 n] w K := by
  refine F85.sh (qnl ha (fun j hj _ => ?_) fun hn => ?_)
  · simp only [C.bc, decide_true, show ((j : Int) ≥ 0) by omega]
    rwa [decide_eq_true (List.mem_of_getElem? hj)] at h
  · simp only [C.bc, decide_false, show ¬ ((-1 : Int) ≥ 0) by omega]
    rwa [decide_eq_false hn] at h
theorem qti {k : Int} (hk : csz k ≠ 0) {j : Nat} (hj : ks[j]? = some 0) (hno : ∀ i, i < j → ks[i]? ≠ some 0) : qgh ks k = some j := by
  unfold qgh
  rw [if_neg hk, List.findIdx?_eq_some_iff_getElem]
  obtain ⟨h1, h2⟩ := List.getElem?_eq_some_iff.1 hj
  refine ⟨h1, by simpa using h2, fun i hi => ?_⟩
  have := hno i hi
  rw [List.getElem?_eq_getElem (by omega)] at this
  simpa using this
theorem qma {k : Int} (h : csz k = 0 ∨ 0 ∉ ks) : qgh ks k = none := by
  unfold qgh
  by_cases c : csz k = 0
  · rw [if_pos c]
  · rw [if_neg c, List.findIdx?_eq_none_iff]
    rcases h with h | h
    · exact absurd h c
    · intro x hx
      simp only [decide_eq_false_iff_not]
      exact fun e => h (e ▸ hx)
theorem qu6 {k : Int} (h : qa6 w b kv ks) (h0 : qgh ks k = none → K (.tuple #[.int .i64 0, .bool false]) w) (h1 : ∀ p w', qgh ks k = some p → p < ks.length → Fr (qab kv) w w' → qa6 w' b kv (ks.set p k) → K (.tuple #[.int .i64 (p : Int), .bool true]) w') :
    C.q Tryz.prog 252 #[.pointer (some ⟨b, 0, none⟩), .int .i64 k] w K := by
  refine F252.sh ⟨_, qam _ _ _ Tryz.underlying234, ?_⟩
  simp only [C.ar, C.al]
  refine qbt ?_
  by_cases c : csz k = 0
  · simp only [C.ah, C.az, eq_self, decide_true, c]
    exact h0 (qma (.inl c))
  simp only [C.ac, C.az, decide_false, c]
  refine F252.k3.to ?_
  simp only [C.af, C.ag, Nat.zero_add]
  refine C.ae (v := kv) h.blk rfl (qnl h.own.rd (fun j hj hno => ?_) fun hn => ?_)
  · have hjl := (List.getElem?_eq_some_iff.1 hj).1
    simp only [C.ac, C.au, decide_false, show ¬ ((j : Int) < 0) by omega]
    refine F252.k6.to ?_
    simp only [C.af, C.ag, Nat.zero_add]
    refine C.ae (v := kv) h.blk rfl ?_
    refine C.b3 (x := .int .i64 k) h.own (by omega) (by rw [qaj]; omega) rfl (by intro u hu; simp [Value.cells] at hu; subst hu; rfl) fun w1 ho1 hf1 _ => ?_
    rw [Int.toNat_natCast] at ho1
    exact h1 j w1 (qti c hj hno) hjl hf1 ⟨hf1.at_ h.blk h.nb, by rw [← qfl]; exact ho1, by simpa using h.le⟩
  · simp only [C.ah, C.au, decide_true, show ((-1 : Int) < 0) by omega]
    exact h0 (qma (.inr hn))
end
structure qbo (w : World) (lr : Nat) (st : LoopState) (pe : Option Code) (n : Nat) (ps : Array Tmp) (aa bd : Code) (env : Env) : Prop where
  at_ : ∃ r, w.heap[lr]? = some (.loop r) ∧ r.state = st ∧ r.pending = pe ∧ r.tmps.size = n ∧ r.params = ps ∧ r.assign = aa ∧ r.body = bd ∧ ∀ t v, lkT env t = some v → r.tmps[t]? = some v
section
variable {w : World} {lr : Nat} {st : LoopState} {pe : Option Code} {n : Nat} {ps : Array Tmp} {aa bd : Code} {env : Env}
theorem qbo.keep {S : List Nat} {w' : World} (h : qbo w lr st pe n ps aa bd env) (hf : Fr S w w') (hS : lr ∉ S) : qbo w' lr st pe n ps aa bd env := by
  obtain ⟨r, h1, h2⟩ := h.at_
  exact ⟨r, hf.at_ h1 hS, h2⟩
theorem qa1 {a b : Nat} {o o' : Obj} (h : w.heap[a]? = some o) (h' : w.heap[b]? = some o') (hne : o ≠ o') : a ≠ b := fun e => by
  subst e
  rw [h] at h'
  exact hne (Option.some.inj h')
theorem qbo.off {b : Nat} {o : Obj} (h : qbo w lr st pe n ps aa bd env) (hb : w.heap[b]? = some o) (hne : ∀ r, o ≠ .loop r) : b ≠ lr := by
  obtain ⟨r, h1, _⟩ := h.at_
  exact qa1 hb h1 (hne r)
theorem qbo.offS {v : Value} {e : TypeId} {sz : Nat} {xs : List (List Value)} (h : qbo w lr st pe n ps aa bd env) (ho : qad w v e sz xs) : lr ∉ qab v := by
  obtain ⟨r, h1, _⟩ := h.at_
  exact ho.no h1 (by simp)
theorem qbo.begin_ {F : World → Prop} (h : qbo w lr .ready pe n ps aa bd env) (hk : ∀ w', Fr [lr] w w' → qbo w' lr .busy pe n ps aa bd env → F w') : C.cz lr w F := by
  obtain ⟨r, h1, h2, h3, h4⟩ := h.at_
  have hu := qh2 (o := .loop { r with state := .busy }) h1
  exact ⟨r, h1, h2, hk _ hu.fr ⟨_, hu.at_, rfl, h3, h4⟩⟩
theorem qbo.end_ {K : VK} {pe' : Option Code} {b : Bool} {st' : LoopState} (h : qbo w lr st pe n ps aa bd env) (hk : ∀ w', Fr [lr] w w' → qbo w' lr st' pe' n ps aa bd env → K (.bool b) w') : C.cw lr pe' b st' w K := by
  obtain ⟨r, h1, h2, h3, h4⟩ := h.at_
  have hu := qh2 (o := .loop { r with state := st', pending := pe' }) h1
  exact ⟨r, h1, hk _ hu.fr ⟨_, hu.at_, rfl, rfl, h4⟩⟩
theorem qia {P : Program} {f : Nat} {first captured : Array Value} {K : Nat → Option Code → World → Prop} (hb : qbx P f = true)
    (h : ∀ lr D w1, Fr [] w w1 → w.heap.size ≤ lr → w.heap.size ≤ D → qbo w1 lr .ready none n ps aa bd env → w1.heap[D]? = some (.deferred (some [])) →
      C.q P f (first.toList ++ ([Value.func (.yield lr) #[] #[]] ++ captured.toList)).toArray w1 fun _ w2 => ∃ rec, w2.heap[lr]? = some (.loop rec) ∧ rec.state ≠ .busy ∧ K D rec.pending (w2.putObj lr (.loop { rec with state := .exhausted }))) :
    C.cg P n (.func (.func f) first captured) ps aa bd env w K := by
  simp only [C.cg, hb, cond_true]
  intro fn tmps hsz henv
  have hw3 := New.mk' w (.deferred (some []))
  have hw4 := New.mk' (w.alloc (.deferred (some []))) (.loop { state := .ready, pending := none, fn := fn, tmps := tmps, params := ps, assign := aa, body := bd, defers := w.heap.size })
  have z3 := hw3.sz
  have hD4 := hw4.fr.at_ hw3.at_ (by simp)
  have hl4 := hw4.at_
  rw [z3] at hl4
  exact h (w.heap.size + 1) w.heap.size _ (hw3.fr.trans hw4.fr) (by omega) (Nat.le_refl _) ⟨_, hl4, rfl, rfl, hsz, rfl, rfl, rfl, henv⟩ hD4
theorem qbo.exit_ (h : qbo w lr st pe n ps aa bd env) (hst : st ≠ .busy) : ∃ rec, w.heap[lr]? = some (.loop rec) ∧ rec.state ≠ .busy ∧ rec.pending = pe ∧ Fr [lr] w (w.putObj lr (.loop { rec with state := .exhausted })) := by
  obtain ⟨r, h1, h2, h3, h4⟩ := h.at_
  have hu := qh2 (o := .loop { r with state := .exhausted }) h1
  exact ⟨r, h1, by rw [h2]; exact hst, h3, hu.fr⟩
theorem qio {D : Nat} {F : World → Prop} (h : w.heap[D]? = some (.deferred (some []))) (hk : ∀ w', Fr [D] w w' → F w') : C.cd (.int .i64 (D : Int)) w F := by
  have hu := qh2 (o := .deferred none) h
  refine ⟨by rw [Int.toNat_natCast]; exact h, ?_⟩
  rw [Int.toNat_natCast]
  exact hk _ hu.fr
end
section
variable {K : VK} {w : World} {b : Nat} {kv : Value} {ks : List Int}
theorem qrt {lr : Nat} {J : Nat → Nat → World → Prop} {X : World → Prop} (hle : ks.length ≤ 64) (hP : ∀ p n w, J p n w → qa6 w b kv ks)
    (h0 : ∀ p n w, p < ks.length → J p n w → kAt ks (p : Int) = 0 → J (p + 1) (n + 1) w) (h1 : ∀ p w, p ≤ ks.length → J p 0 w → kAt ks (p : Int) ≠ 0 → J (p + 1) 0 w)
    (h2 : ∀ p n w (K' : VK), p ≤ ks.length → 0 < n → J p n w → kAt ks (p : Int) ≠ 0 → (∀ w', J (p + 1) 0 w' → K' (.bool true) w') → (∀ w', X w' → K' (.bool false) w') → C.ch Tryz.prog lr #[.int .i64 ((p : Int) - n), .int .i64 (n : Int)] w K')
    (hE : ∀ w', J (ks.length + 1) 0 w' → K (.tuple #[]) w') (hX : ∀ w', X w' → K (.tuple #[]) w') :
    ∀ (d p n : Nat) (w : World), ks.length + 1 = p + d → n ≤ p → J p n w → (p = ks.length + 1 → n = 0) → F242.l3 K (.pointer (some ⟨b, 0, none⟩)) (.func (.yield lr) #[] #[]) (.int .i64 (n : Int)) (.int .i64 ((ks.length + 1 : Nat) : Int)) (.int .i64 (p : Int)) w := by
  intro d
  induction d with
  | zero =>
    intro p n w hd hnp hJ hz
    refine F242.l3.to ?_
    simp only [C.ac, C.au, decide_false, show ¬ ((p : Int) < ((ks.length + 1 : Nat) : Int)) by omega]
    have e : p = ks.length + 1 := by omega
    have en := hz e
    subst e
    subst en
    exact hE w hJ
  | succ d ih =>
    intro p n w hd hnp hJ hz
    have next : ∀ (n' : Nat) w', n' ≤ p + 1 → J (p + 1) n' w' → (p = ks.length → n' = 0) → F242.k9 K (.pointer (some ⟨b, 0, none⟩)) (.func (.yield lr) #[] #[]) (.int .i64 (n' : Int)) (.int .i64 ((ks.length + 1 : Nat) : Int)) (.int .i64 (p : Int)) w' := fun n' w' hn' hJ' hz' => by
      refine F242.k9.to ?_
      simp only [C.a6]
      rw [qaa (n := (p : Int) + 1) (by omega), show (p : Int) + 1 = ((p + 1 : Nat) : Int) by omega]
      exact ih (p + 1) n' w' (by omega) hn' hJ' fun e => hz' (by omega)
    refine F242.l3.to ?_
    simp only [C.ah, C.au, decide_true, show ((p : Int) < ((ks.length + 1 : Nat) : Int)) by omega]
    refine F242.k4.to (qdt (hP p n w hJ) ?_)
    by_cases c : kAt ks (p : Int) = 0
    · have hp := qez hle (p := (p : Int)) (by rw [c]; decide)
      simp only [C.ah, C.a6, C.az, eq_self, decide_true, c]
      rw [qaa (n := (n : Int) + 1) (by omega), show (n : Int) + 1 = ((n + 1 : Nat) : Int) by omega]
      exact next (n + 1) w (by omega) (h0 p n w (by omega) hJ c) fun e => by omega
    · simp only [C.ac, C.a6, C.az, decide_false, c]
      refine F242.k7.to ?_
      by_cases c0 : n = 0
      · subst c0
        simp only [C.ac, C.ar, C.bl, C.bf, decide_false, show ¬ (((0 : Nat) : Int) > 0) by omega]
        exact F242.k8.to (next 0 w (by omega) (h1 p w (by omega) hJ c) fun _ => rfl)
      · simp only [C.aw, C.bo, C.bl, C.al, decide_true, show ((n : Int) > 0) by omega]
        rw [qaa (n := (p : Int) - n) (by omega)]
        refine h2 p n w _ (by omega) (by omega) hJ c (fun w' hJ' => ?_) fun w' hX' => ?_
        · simp only [C.ac, C.aq, Bool.not_true]
          exact F242.k8.to (next 0 w' (by omega) hJ' fun _ => rfl)
        · simp only [C.ah, C.aq, Bool.not_false]
          exact hX w' hX'
theorem qrs {lr : Nat} {J : Nat → Nat → World → Prop} {X : World → Prop} (hle : ks.length ≤ 64) (hP : ∀ p n w, J p n w → qa6 w b kv ks)
    (h0 : ∀ p n w, p < ks.length → J p n w → kAt ks (p : Int) = 0 → J (p + 1) (n + 1) w) (h1 : ∀ p w, p ≤ ks.length → J p 0 w → kAt ks (p : Int) ≠ 0 → J (p + 1) 0 w)
    (h2 : ∀ p n w (K' : VK), p ≤ ks.length → 0 < n → J p n w → kAt ks (p : Int) ≠ 0 → (∀ w', J (p + 1) 0 w' → K' (.bool true) w') → (∀ w', X w' → K' (.bool false) w') → C.ch Tryz.prog lr #[.int .i64 ((p : Int) - n), .int .i64 (n : Int)] w K')
    (hE : ∀ w', J (ks.length + 1) 0 w' → K (.tuple #[]) w') (hX : ∀ w', X w' → K (.tuple #[]) w') (hJ : J 0 0 w) :
    C.q Tryz.prog 242 #[.pointer (some ⟨b, 0, none⟩), .func (.yield lr) #[] #[]] w K := by
  have hp := hP 0 0 w hJ
  refine F242.sh ⟨_, qam _ _ _ Tryz.underlying234, ?_⟩
  simp only [C.ac]
  refine F242.k1.to ?_
  simp only [C.af, C.ag, Nat.zero_add]
  refine C.ae (v := kv) hp.blk rfl (C.bh hp.own.rd ?_)
  rw [qaj]
  simp only [C.a6]
  rw [qaa (n := (ks.length : Int) + 1) (by omega), show (ks.length : Int) + 1 = ((ks.length + 1 : Nat) : Int) by omega]
  exact qrt hle hP h0 h1 h2 hE hX (ks.length + 1) 0 0 w (by omega) (Nat.le_refl _) hJ fun e => by omega
theorem qh7 : qbx Tryz.prog 242 = true := by kernel_rfl
structure CQ (W w : World) (b : Nat) (kv : Value) (ks : List Int) (lr D x3 : Nat) (p n : Nat) : Prop where
  fr : Fr [] W w
  pg : qa6 w b kv ks
  rec_ : qbo w lr .ready none 14 #[8, 9] F241.as3 F241.bd3 [(7, (.func (.func 242) #[.pointer (some ⟨b, 0, none⟩)] #[])), (6, .pointer (some ⟨b, 0, none⟩)), (3, .pointer (some ⟨x3, 0, none⟩)), (2, (.int .i64 0)), (0, .pointer (some ⟨b, 0, none⟩))]
  df : w.heap[D]? = some (.deferred (some []))
  box : ∃ acc : Nat, w.heap[x3]? = some (.cells #[.int .i64 (acc : Int)] 3 (0, 0)) ∧ acc + n = (ks.take p).countP fun k => decide (k = 0)
  lo : W.heap.size ≤ lr ∧ W.heap.size ≤ D ∧ W.heap.size ≤ x3
theorem qq1 {p : Nat} : (ks.take p).countP (fun k => decide (k = 0)) ≤ ks.length := by
  have h1 := List.countP_le_length (p := fun k : Int => decide (k = 0)) (l := ks.take p)
  rw [List.length_take] at h1
  omega
theorem qup (h : qa6 w b kv ks) (hk : ∀ w', Fr [] w w' → K (.int .i64 (qct ks)) w') : C.q Tryz.prog 241 #[.pointer (some ⟨b, 0, none⟩)] w K := by
  have hle := h.le
  refine F241.sh (C.av fun x3 w1 hn1 => C.bb hn1.at_ rfl rfl (by simp) fun w2 hu2 => ?_)
  have i1 := hn1.is
  have z1 := hn1.sz
  have z2 := hu2.sz
  have f2 : Fr [] w w2 := hn1.fr.then hu2.fr fun z hz => .inr (by simp only [List.mem_singleton] at hz; omega)
  refine qia qh7 fun lr D w3 hf3 hlr hD hR hdf => ?_
  refine qrs (J := fun p n w' => CQ w w' b kv ks lr D x3 p n) (X := fun _ => False) hle (fun p n w' hJ => hJ.pg) (fun p n w' hp hJ hz => ?_) (fun p w' hp hJ hz => ?_) (fun p n w' K' hp hn hJ hz a _ => ?_) (fun w' hJ => ?_) (fun _ e => e.elim) ?_
  · obtain ⟨acc, a1, a2⟩ := hJ.box
    rw [qg7 hp] at hz
    refine ⟨hJ.fr, hJ.pg, hJ.rec_, hJ.df, ⟨acc, a1, ?_⟩, hJ.lo⟩
    rw [List.take_succ_eq_append_getElem hp, List.countP_append]
    simp [hz]
    omega
  · obtain ⟨acc, a1, a2⟩ := hJ.box
    refine ⟨hJ.fr, hJ.pg, hJ.rec_, hJ.df, ⟨acc, a1, ?_⟩, hJ.lo⟩
    by_cases e : p < ks.length
    · rw [qg7 e] at hz
      rw [List.take_succ_eq_append_getElem e, List.countP_append, ← a2]
      simp [hz]
    · rw [List.take_of_length_le (by omega)] at a2 ⊢
      exact a2
  · obtain ⟨acc, a1, a2⟩ := hJ.box
    obtain ⟨r, r1, r2, r3, r4, r5, r6, r7, r8⟩ := hJ.rec_.at_
    have hcl := qq1 (ks := ks) (p := p)
    refine R241_3.yield (y3 := .pointer (some ⟨x3, 0, none⟩)) r1 r4 r5 r6 r7 (fun t v hv => ?_) (hJ.rec_.begin_ fun w4 hf4 hR4 => ?_)
    · refine qq5 (env := [(3, .pointer (some ⟨x3, 0, none⟩))]) (fun x hx => ?_) t v hv
      simp only [List.mem_cons, List.not_mem_nil, or_false] at hx
      subst hx
      exact r8 3 _ rfl
    · have nx := hJ.rec_.off a1 (by simp)
      have nb := hJ.rec_.off hJ.pg.blk (by simp)
      have nk := hJ.rec_.offS hJ.pg.own
      have nd := hJ.rec_.off hJ.df (by simp)
      have a14 := hf4.at_ a1 (by simpa using nx)
      have p4 := hJ.pg.keep hf4 (by simpa using nb) fun g hg e => by simp only [List.mem_singleton] at e; subst e; exact nk hg
      have d4 := hJ.df |> fun q => hf4.at_ q (by simpa using nd)
      refine C.ae (v := .int .i64 (acc : Int)) a14 rfl ?_
      simp only [C.a6]
      rw [qaa (n := (acc : Int) + n) (by omega), show (acc : Int) + n = ((acc + n : Nat) : Int) by omega]
      refine C.bb a14 rfl rfl (by simp) fun w5 hu5 => ?_
      have s5 := hJ.fr.size
      have f5 : Fr [] w w5 := (hJ.fr.then hf4 fun z hz => .inr (by simp only [List.mem_singleton] at hz; have := hJ.lo; omega)).then hu5.fr fun z hz => .inr (by simp only [List.mem_singleton] at hz; have := hJ.lo; omega)
      have p5 : qa6 w5 b kv ks := h.keep0 f5
      have R5 := hR4.keep hu5.fr (by simp; exact fun e => nx e.symm)
      have d5 := hu5.fr.at_ d4 (by simp; exact fun e => qa1 d4 a14 (by simp) e)
      refine R5.end_ fun w6 hf6 hR6 => a w6 ?_
      have f6 : Fr [] w w6 := f5.then hf6 fun z hz => .inr (by simp only [List.mem_singleton] at hz; have := hJ.lo; omega)
      refine ⟨f6, h.keep0 f6, hR6, hf6.at_ d5 (by simpa using nd), ⟨acc + n, hf6.at_ hu5.at_ (by simpa using nx), ?_⟩, hJ.lo⟩
      rw [Nat.add_zero]
      by_cases e : p < ks.length
      · rw [qg7 e] at hz
        rw [List.take_succ_eq_append_getElem e, List.countP_append, ← a2]
        simp [hz]
      · rw [List.take_of_length_le (by omega)] at a2 ⊢
        exact a2
  · obtain ⟨acc, a1, a2⟩ := hJ.box
    obtain ⟨rec, e1, e2, e3, hf4⟩ := hJ.rec_.exit_ (by simp)
    refine ⟨rec, e1, e2, ?_⟩
    generalize w'.putObj lr (.loop { rec with state := .exhausted }) = w4 at *
    rw [e3]
    have nx := hJ.rec_.off a1 (by simp)
    have nd := hJ.rec_.off hJ.df (by simp)
    show F241.k5 K (.pointer (some ⟨x3, 0, none⟩)) (.int .i64 (D : Int)) w4
    refine F241.k5.to (C.ae (v := .int .i64 (acc : Int)) (hf4.at_ a1 (by simpa using nx)) rfl ?_)
    refine qio (hf4.at_ hJ.df (by simpa using nd)) fun w5 hf5 => ?_
    rw [List.take_of_length_le (by omega), Nat.add_zero] at a2
    rw [a2]
    exact hk w5 ((hJ.fr.then hf4 fun z hz => .inr (by simp only [List.mem_singleton] at hz; have := hJ.lo; omega)).then hf5 fun z hz => .inr (by simp only [List.mem_singleton] at hz; have := hJ.lo; omega))
  · have f3 := f2.trans hf3
    have s2 := f2.size
    exact ⟨f3, h.keep0 f3, hR, hdf, ⟨0, hf3.at_ hu2.at_ (by simp), by simp⟩, by omega⟩
structure SQ (W w : World) (b : Nat) (kv : Value) (ks : List Int) (N : Int) (lr D x2 x3 x4 x5 : Nat) (st : LoopState) (pe : Option Code) (y4 y5 : Value) : Prop where
  fr : Fr (qab kv) W w
  pg : qa6 w b kv ks
  rec_ : qbo w lr st pe 38 #[13, 14] F176.as4 F176.bd4 [(12, (.func (.func 242) #[.pointer (some ⟨b, 0, none⟩)] #[])), (11, .pointer (some ⟨b, 0, none⟩)), (2, .pointer (some ⟨x2, 0, none⟩)), (3, .pointer (some ⟨x3, 0, none⟩)), (4, .pointer (some ⟨x4, 0, none⟩)), (5, .pointer (some ⟨x5, 0, none⟩))]
  df : w.heap[D]? = some (.deferred (some []))
  c2 : w.heap[x2]? = some (.cells #[.pointer (some ⟨b, 0, none⟩)] 234 (0, 0))
  c3 : w.heap[x3]? = some (.cells #[.int .i64 N] 3 (0, 0))
  c4 : w.heap[x4]? = some (.cells #[y4] 3 (0, 0))
  c5 : w.heap[x5]? = some (.cells #[y5] 4 (0, 0))
  lo : W.heap.size ≤ lr ∧ W.heap.size ≤ D ∧ W.heap.size ≤ x2 ∧ W.heap.size ≤ x3 ∧ W.heap.size ≤ x4 ∧ W.heap.size ≤ x5 ∧ x3 ≠ x4 ∧ (∀ g ∈ qab kv, g < W.heap.size) ∧ b < W.heap.size
section
variable {W : World} {N : Int} {lr D x2 x3 x4 x5 : Nat} {st : LoopState} {pe : Option Code} {y4 y5 : Value}
theorem SQ.list {w' : World} {ks' : List Int} (h : SQ W w b kv ks N lr D x2 x3 x4 x5 st pe y4 y5) (hf : Fr (qab kv) w w') (hp : qa6 w' b kv ks') : SQ W w' b kv ks' N lr D x2 x3 x4 x5 st pe y4 y5 := by
  have no : ∀ {z : Nat}, W.heap.size ≤ z → z ∉ qab kv := fun hz hg => by have := h.lo.2.2.2.2.2.2.2.1 _ hg; omega
  have l := h.lo
  exact ⟨h.fr.trans hf, hp, h.rec_.keep hf (no l.1), hf.at_ h.df (no l.2.1), hf.at_ h.c2 (no l.2.2.1), hf.at_ h.c3 (no l.2.2.2.1), hf.at_ h.c4 (no l.2.2.2.2.1), hf.at_ h.c5 (no l.2.2.2.2.2.1), h.lo⟩
theorem SQ.recd {w' : World} {st' : LoopState} {pe' : Option Code} (h : SQ W w b kv ks N lr D x2 x3 x4 x5 st pe y4 y5) (hf : Fr [lr] w w') (hr : qbo w' lr st' pe' 38 #[13, 14] F176.as4 F176.bd4 [(12, (.func (.func 242) #[.pointer (some ⟨b, 0, none⟩)] #[])), (11, .pointer (some ⟨b, 0, none⟩)), (2, .pointer (some ⟨x2, 0, none⟩)), (3, .pointer (some ⟨x3, 0, none⟩)), (4, .pointer (some ⟨x4, 0, none⟩)), (5, .pointer (some ⟨x5, 0, none⟩))]) :
    SQ W w' b kv ks N lr D x2 x3 x4 x5 st' pe' y4 y5 := by
  have l := h.lo
  have k : ∀ {z : Nat} {o : Obj}, w.heap[z]? = some o → (∀ r, o ≠ .loop r) → w'.heap[z]? = some o := fun hz hne => hf.at_ hz (by simp; exact h.rec_.off hz hne)
  refine ⟨h.fr.then hf fun z hz => .inr (by simp only [List.mem_singleton] at hz; omega), h.pg.keep hf (by simp; exact h.rec_.off h.pg.blk (by simp)) (fun g hg e => by simp only [List.mem_singleton] at e; subst e; exact h.rec_.offS h.pg.own hg), hr, k h.df (by simp), k h.c2 (by simp), k h.c3 (by simp), k h.c4 (by simp), k h.c5 (by simp), l⟩
end
theorem qde {n : Nat} {p run : Nat} : qdo n (ks.drop p) p run = if p < ks.length then (if kAt ks (p : Int) = 0 then qdo n (ks.drop (p + 1)) (p + 1) (run + 1) else if 0 < run ∧ n ≤ run then some (p - run) else qdo n (ks.drop (p + 1)) (p + 1) 0) else if n ≤ run then some (p - run) else none := by
  by_cases c : p < ks.length
  · rw [if_pos c, qg7 c, List.drop_eq_getElem_cons c]
    rfl
  · rw [if_neg c, List.drop_of_length_le (by omega)]
    rfl
theorem qt1 {W : World} {N : Int} {lr D x2 x3 x4 x5 p n : Nat} {y4 y5 : Value} {K' : VK} {ks0 : List Int} (hl : p + n ≤ ks0.length) (hn1 : 1 ≤ n)
    (h : ∀ w', SQ W w' b kv ((qb5 ks0 p n 6).set p 5) N lr D x2 x3 x4 x5 .done (some .ret) (.int .i64 (p : Int)) (.bool true) → K' (.bool false) w') :
    ∀ (d j : Nat) (w : World), n = j + d → SQ W w b kv (qb5 ks0 p j 6) N lr D x2 x3 x4 x5 .busy none y4 y5 →
      R176_4.l8 lr K' (.pointer (some ⟨x2, 0, none⟩)) (.pointer (some ⟨x4, 0, none⟩)) (.pointer (some ⟨x5, 0, none⟩)) (.int .i64 (p : Int)) (.int .i64 (n : Int)) (.int .i64 (j : Int)) w := by
  intro d
  induction d with
  | zero =>
    intro j w hd hQ
    have e : j = n := by omega
    subst e
    have hle := hQ.pg.le
    have hpl := qdl (ks := ks0) (p := p) (n := j) (k := 6) hl
    refine R176_4.l8.to ?_
    simp only [C.ac, C.au, decide_false, show ¬ ((j : Int) < (j : Int)) by omega]
    refine R176_4.k12.to (C.ae (v := .pointer (some ⟨b, 0, none⟩)) hQ.c2 rfl ?_)
    simp only [C.af, C.ag, Nat.zero_add]
    refine C.ae (v := kv) hQ.pg.blk rfl ?_
    refine C.b3 (x := .int .i64 5) hQ.pg.own (by omega) (by rw [qaj, hpl]; omega) rfl (by intro u hu; simp [Value.cells] at hu; subst hu; rfl) fun w1 ho1 hf1 _ => ?_
    rw [Int.toNat_natCast] at ho1
    have Q1 := hQ.list (ks' := (qb5 ks0 p j 6).set p 5) (hf1.mono fun x hx => hx) ⟨hf1.at_ hQ.pg.blk hQ.pg.nb, by rw [← qfl]; exact ho1, by simpa using hle⟩
    have l := Q1.lo
    refine C.bb Q1.c4 rfl rfl (by simp) fun w2 hu2 => ?_
    have k2 : ∀ {z : Nat} {o : Obj}, z ≠ x4 → w1.heap[z]? = some o → w2.heap[z]? = some o := fun hz ho => hu2.fr.at_ ho (by simpa using hz)
    have Q2 : SQ W w2 b kv ((qb5 ks0 p j 6).set p 5) N lr D x2 x3 x4 x5 .busy none (.int .i64 (p : Int)) y5 :=
      ⟨Q1.fr.then hu2.fr fun z hz => .inr (by simp only [List.mem_singleton] at hz; omega), Q1.pg.keep hu2.fr (by simp; omega) (fun g hg e => by simp only [List.mem_singleton] at e; have := l.2.2.2.2.2.2.2.1 g hg; omega), Q1.rec_.keep hu2.fr (by simp; exact fun e => Q1.rec_.off Q1.c4 (by simp) e.symm), k2 (qa1 Q1.df Q1.c4 (by simp)) Q1.df, k2 (qa1 Q1.c2 Q1.c4 (by simp)) Q1.c2, k2 l.2.2.2.2.2.2.1 Q1.c3, hu2.at_, k2 (qa1 Q1.c5 Q1.c4 (by simp)) Q1.c5, l⟩
    refine C.bb Q2.c5 rfl rfl (by simp) fun w3 hu3 => ?_
    have k3 : ∀ {z : Nat} {o : Obj}, z ≠ x5 → w2.heap[z]? = some o → w3.heap[z]? = some o := fun hz ho => hu3.fr.at_ ho (by simpa using hz)
    have Q3 : SQ W w3 b kv ((qb5 ks0 p j 6).set p 5) N lr D x2 x3 x4 x5 .busy none (.int .i64 (p : Int)) (.bool true) :=
      ⟨Q2.fr.then hu3.fr fun z hz => .inr (by simp only [List.mem_singleton] at hz; omega), Q2.pg.keep hu3.fr (by simp; omega) (fun g hg e => by simp only [List.mem_singleton] at e; have := l.2.2.2.2.2.2.2.1 g hg; omega), Q2.rec_.keep hu3.fr (by simp; exact fun e => Q2.rec_.off Q2.c5 (by simp) e.symm), k3 (qa1 Q2.df Q2.c5 (by simp)) Q2.df, k3 (qa1 Q2.c2 Q2.c5 (by simp)) Q2.c2, k3 (qa1 Q2.c3 Q2.c5 (by simp)) Q2.c3, k3 (qa1 Q2.c4 Q2.c5 (by simp)) Q2.c4, hu3.at_, l⟩
    exact Q3.rec_.end_ fun w4 hf4 hR4 => h w4 (Q3.recd hf4 hR4)
  | succ d ih =>
    intro j w hd hQ
    have hle := hQ.pg.le
    have hpl := qdl (ks := ks0) (p := p) (n := j) (k := 6) (by omega)
    refine R176_4.l8.to ?_
    simp only [C.ah, C.au, decide_true, show ((j : Int) < (n : Int)) by omega]
    refine R176_4.k9.to (C.ae (v := .pointer (some ⟨b, 0, none⟩)) hQ.c2 rfl ?_)
    simp only [C.af, C.ag, C.a6, Nat.zero_add]
    refine C.ae (v := kv) hQ.pg.blk rfl ?_
    rw [qaa (n := (p : Int) + j) (by omega), show (p : Int) + j = ((p + j : Nat) : Int) by omega]
    refine C.b3 (x := .int .i64 6) hQ.pg.own (by omega) (by rw [qaj, hpl]; omega) rfl (by intro u hu; simp [Value.cells] at hu; subst hu; rfl) fun w1 ho1 hf1 _ => ?_
    rw [Int.toNat_natCast] at ho1
    have ho1 : qad w1 kv 3 1 (qaf (qb5 ks0 p (j + 1) 6)) := by
      rw [← qkn (by omega), ← qfl]
      exact ho1
    have Q1 := hQ.list (ks' := qb5 ks0 p (j + 1) 6) (hf1.mono fun x hx => hx) ⟨hf1.at_ hQ.pg.blk hQ.pg.nb, ho1, by rw [qdl (by omega)]; omega⟩
    refine R176_4.k11.to ?_
    simp only [C.a6]
    rw [qaa (n := (j : Int) + 1) (by omega), show (j : Int) + 1 = ((j + 1 : Nat) : Int) by omega]
    exact ih (j + 1) w1 (by omega) Q1
theorem qxa {N : Int} (h : qa6 w b kv ks) (hN : N ≤ 64) (h0 : qea ks N = none → ∀ w', Fr [] w w' → K (.tuple #[.int .i64 0, .bool false]) w')
    (h1 : ∀ p w', qea ks N = some p → 1 ≤ N → p + N.toNat ≤ ks.length → Fr (qab kv) w w' → qa6 w' b kv ((qb5 ks p N.toNat 6).set p 5) → K (.tuple #[.int .i64 (p : Int), .bool true]) w') :
    C.q Tryz.prog 176 #[.pointer (some ⟨b, 0, none⟩), .int .i64 N] w K := by
  have hle := h.le
  refine F176.sh (C.av fun x2 w1 hn1 => C.av fun x3 w2 hn2 => C.av fun x4 w3 hn3 => C.av fun x5 w4 hn4 => ?_)
  have i1 := hn1.is; have i2 := hn2.is; have i3 := hn3.is; have i4 := hn4.is
  have z1 := hn1.sz; have z2 := hn2.sz; have z3 := hn3.sz; have z4 := hn4.sz
  have f4 : Fr [] w w4 := hn1.fr.trans (hn2.fr.trans (hn3.fr.trans hn4.fr))
  have d2 : w4.heap[x2]? = some (.cells #[.pointer (some ⟨b, 0, none⟩)] 234 (0, 0)) := (hn2.fr.trans (hn3.fr.trans hn4.fr)).at_ hn1.at_ (by simp)
  have d3 : w4.heap[x3]? = some (.cells #[.int .i64 N] 3 (0, 0)) := (hn3.fr.trans hn4.fr).at_ hn2.at_ (by simp)
  have d4 := hn4.fr.at_ hn3.at_ (by simp)
  have d5 := hn4.at_
  refine C.ae (v := .int .i64 N) d3 rfl ?_
  by_cases c : N < 1
  · simp only [C.ah, C.au, decide_true, c]
    refine C.bb d4 rfl rfl (by simp) fun w5 hu5 => C.bb (hu5.fr.at_ d5 (by simp; omega)) rfl rfl (by simp) fun w6 hu6 => ?_
    refine C.ae (v := .int .i64 0) (hu6.fr.at_ hu5.at_ (by simp; omega)) rfl (C.ae (v := .bool false) hu6.at_ rfl ?_)
    exact h0 (by unfold qea; rw [if_pos c]) w6 ((f4.then hu5.fr fun z hz => .inr (by simp only [List.mem_singleton] at hz; omega)).then hu6.fr fun z hz => .inr (by simp only [List.mem_singleton] at hz; omega))
  simp only [C.ac, C.au, decide_false, c]
  obtain ⟨n, rfl⟩ := Int.eq_ofNat_of_zero_le (show 0 ≤ N by omega)
  rw [Int.toNat_natCast] at h1
  refine F176.k3.to (C.ae (v := .pointer (some ⟨b, 0, none⟩)) d2 rfl ?_)
  have hkv := h.own.mem_lt
  have hbl := qac h.blk
  have sp : qea ks (n : Int) = qdo n (ks.drop 0) 0 0 := by unfold qea; rw [if_neg c, Int.toNat_natCast, List.drop_zero]
  refine qia qh7 fun lr D w5 hf5 hlr hD hR hdf => ?_
  have f5 := f4.trans hf5
  have s4 := f4.size
  have told : ∀ w' y4 y5 ks', SQ w w' b kv ks' (n : Int) lr D x2 x3 x4 x5 .done (some .ret) y4 y5 → (∀ w'', Fr (qab kv) w w'' → qa6 w'' b kv ks' → K (.tuple #[y4, y5]) w'') → ∃ rec, w'.heap[lr]? = some (.loop rec) ∧ rec.state ≠ .busy ∧ C.c0 rec.pending (F176.k14 K (.pointer (some ⟨x4, 0, none⟩)) (.pointer (some ⟨x5, 0, none⟩)) (.int .i64 (D : Int)) (w'.putObj lr (.loop { rec with state := .exhausted }))) (C.cd (.int .i64 (D : Int)) (w'.putObj lr (.loop { rec with state := .exhausted })) fun w3 =>
      C.ai (.pointer (some ⟨x4, 0, none⟩)) w3 fun r4 _ => C.ai (.pointer (some ⟨x5, 0, none⟩)) w3 fun r5 _ => K (.tuple #[r4, r5]) w3) (fun id => cond (Nat.beq id 0) (F176.k14 K (.pointer (some ⟨x4, 0, none⟩)) (.pointer (some ⟨x5, 0, none⟩)) (.int .i64 (D : Int)) (w'.putObj lr (.loop { rec with state := .exhausted }))) (False)) := by
    intro w' y4 y5 ks' Q hk
    obtain ⟨rec, e1, e2, e3, hf6⟩ := Q.rec_.exit_ (by simp)
    refine ⟨rec, e1, e2, ?_⟩
    have l := Q.lo
    have kp : ∀ {z : Nat} {o : Obj}, w'.heap[z]? = some o → (∀ r, o ≠ .loop r) → (w'.putObj lr (.loop { rec with state := .exhausted })).heap[z]? = some o := fun hz hne => hf6.at_ hz (by simp; exact Q.rec_.off hz hne)
    have pg6 : qa6 (w'.putObj lr (.loop { rec with state := .exhausted })) b kv ks' := Q.pg.keep hf6 (by simp; exact Q.rec_.off Q.pg.blk (by simp)) (fun g hg e => by simp only [List.mem_singleton] at e; subst e; exact Q.rec_.offS Q.pg.own hg)
    have q2 := kp Q.df (by simp)
    have q4 := kp Q.c4 (by simp)
    have q5 := kp Q.c5 (by simp)
    generalize w'.putObj lr (.loop { rec with state := .exhausted }) = w6 at *
    rw [e3]
    show C.cd (.int .i64 (D : Int)) w6 (fun w3 => C.ai (.pointer (some ⟨x4, 0, none⟩)) w3 fun r4 _ => C.ai (.pointer (some ⟨x5, 0, none⟩)) w3 fun r5 _ => K (.tuple #[r4, r5]) w3)
    refine qio q2 fun w7 hf7 => C.ae (v := y4) (hf7.at_ q4 (by simp; exact (qa1 q2 q4 (by simp)).symm)) rfl (C.ae (v := y5) (hf7.at_ q5 (by simp; exact (qa1 q2 q5 (by simp)).symm)) rfl ?_)
    refine hk w7 ((Q.fr.then hf6 fun z hz => .inr (by simp only [List.mem_singleton] at hz; omega)).then hf7 fun z hz => .inr (by simp only [List.mem_singleton] at hz; omega)) (pg6.keep hf7 (by simp; omega) fun g hg e => by simp only [List.mem_singleton] at e; have := l.2.2.2.2.2.2.2.1 g hg; omega)
  refine qrs (ks := ks) (J := fun p r w' => SQ w w' b kv ks (n : Int) lr D x2 x3 x4 x5 .ready none (.int .i64 0) (.bool false) ∧ Fr [] w w' ∧ r ≤ p ∧ (p ≤ ks.length → qea ks (n : Int) = qdo n (ks.drop p) p r) ∧ (p = ks.length + 1 → qea ks (n : Int) = none))
    (X := fun w' => ∃ p, qea ks (n : Int) = some p ∧ p + n ≤ ks.length ∧ SQ w w' b kv ((qb5 ks p n 6).set p 5) (n : Int) lr D x2 x3 x4 x5 .done (some .ret) (.int .i64 (p : Int)) (.bool true)) hle (fun p r w' hJ => hJ.1.pg) (fun p r w' hp hJ hz => ?_) (fun p w' hp hJ hz => ?_) (fun p r w' K' hp hr hJ hz a x => ?_) (fun w' hJ => ?_) (fun w' hX => ?_) ?_
  · obtain ⟨j1, jf, j0, j2, j3⟩ := hJ
    refine ⟨j1, jf, by omega, fun _ => ?_, fun e => by omega⟩
    rw [j2 (by omega), qde, if_pos hp, if_pos hz]
  · obtain ⟨j1, jf, j0, j2, j3⟩ := hJ
    by_cases e : p < ks.length
    · refine ⟨j1, jf, by omega, fun _ => ?_, fun e => by omega⟩
      rw [j2 (by omega), qde, if_pos e, if_neg hz, if_neg (by omega)]
    · refine ⟨j1, jf, by omega, fun e' => by omega, fun _ => ?_⟩
      rw [j2 (by omega), qde, if_neg e, if_neg (by omega)]
  · obtain ⟨j1, jf, j0, j2, j3⟩ := hJ
    obtain ⟨rr, r1, r2, r3, r4, r5, r6, r7, r8⟩ := j1.rec_.at_
    refine R176_4.yield (y2 := .pointer (some ⟨x2, 0, none⟩)) (y3 := .pointer (some ⟨x3, 0, none⟩)) (y4 := .pointer (some ⟨x4, 0, none⟩)) (y5 := .pointer (some ⟨x5, 0, none⟩)) r1 r4 r5 r6 r7 (fun t v hv => ?_) (j1.rec_.begin_ fun w6 hf6 hR6 => ?_)
    · refine qq5 (env := [(2, .pointer (some ⟨x2, 0, none⟩)), (3, .pointer (some ⟨x3, 0, none⟩)), (4, .pointer (some ⟨x4, 0, none⟩)), (5, .pointer (some ⟨x5, 0, none⟩))]) (fun x hx => ?_) t v hv
      simp only [List.mem_cons, List.not_mem_nil, or_false] at hx
      rcases hx with rfl | rfl | rfl | rfl
      · exact r8 2 _ rfl
      · exact r8 3 _ rfl
      · exact r8 4 _ rfl
      · exact r8 5 _ rfl
    · have Q6 := j1.recd hf6 hR6
      refine C.ae (v := .int .i64 (n : Int)) Q6.c3 rfl ?_
      by_cases e : (r : Int) < (n : Int)
      · simp only [C.ah, C.au, decide_true, e]
        refine Q6.rec_.end_ fun w7 hf7 hR7 => a w7 ⟨Q6.recd hf7 hR7, (jf.then hf6 fun z hz => .inr (by simp only [List.mem_singleton] at hz; omega)).then hf7 fun z hz => .inr (by simp only [List.mem_singleton] at hz; omega), by omega, fun hp' => ?_, fun e' => ?_⟩
        · rw [j2 (by omega), qde, if_pos (by omega), if_neg hz, if_neg (by omega)]
        · rw [j2 (by omega), qde, if_neg (by omega), if_neg (by omega)]
      · simp only [C.ac, C.au, decide_false, e]
        have sp' : qea ks (n : Int) = some (p - r) := by
          rw [j2 (by omega), qde]
          by_cases e' : p < ks.length
          · rw [if_pos e', if_neg hz, if_pos (by omega)]
          · rw [if_neg e', if_pos (by omega)]
        rw [show (p : Int) - r = ((p - r : Nat) : Int) by omega]
        refine R176_4.k7.to (C.ae (v := .int .i64 (n : Int)) Q6.c3 rfl ?_)
        refine qt1 (ks0 := ks) (p := p - r) (n := n) (y4 := .int .i64 0) (y5 := .bool false) (by omega) (by omega) (fun w7 Q7 => x w7 ⟨p - r, sp', by omega, Q7⟩) n 0 w6 (by omega) ?_
        rw [qko]
        exact Q6
  · obtain ⟨j1, jf, j0, j2, j3⟩ := hJ
    obtain ⟨rec, e1, e2, e3, hf6⟩ := j1.rec_.exit_ (by simp)
    refine ⟨rec, e1, e2, ?_⟩
    have l := j1.lo
    have kp : ∀ {z : Nat} {o : Obj}, w'.heap[z]? = some o → (∀ r, o ≠ .loop r) → (w'.putObj lr (.loop { rec with state := .exhausted })).heap[z]? = some o := fun hz hne => hf6.at_ hz (by simp; exact j1.rec_.off hz hne)
    have q2 := kp j1.df (by simp)
    have q4 := kp j1.c4 (by simp)
    have q5 := kp j1.c5 (by simp)
    generalize w'.putObj lr (.loop { rec with state := .exhausted }) = w6 at *
    rw [e3]
    show F176.k14 K (.pointer (some ⟨x4, 0, none⟩)) (.pointer (some ⟨x5, 0, none⟩)) (.int .i64 (D : Int)) w6
    have n45 := qa1 q4 q5 (by simp)
    have nD4 := qa1 q2 q4 (by simp)
    have nD5 := qa1 q2 q5 (by simp)
    refine F176.k14.to (C.bb q4 rfl rfl (by simp) fun w7 hu7 => C.bb (hu7.fr.at_ q5 (by simp; omega)) rfl rfl (by simp) fun w8 hu8 => ?_)
    refine qio (hu8.fr.at_ (hu7.fr.at_ q2 (by simpa using nD4)) (by simpa using nD5)) fun w9 hf9 => ?_
    refine C.ae (v := .int .i64 0) (hf9.at_ (hu8.fr.at_ hu7.at_ (by simpa using n45)) (by simp; omega)) rfl (C.ae (v := .bool false) (hf9.at_ hu8.at_ (by simp; omega)) rfl ?_)
    refine h0 (j3 rfl) w9 ((((jf.then hf6 fun z hz => ?_).then hu7.fr fun z hz => ?_).then hu8.fr fun z hz => ?_).then hf9 fun z hz => ?_)
    all_goals (simp only [List.mem_singleton] at hz; exact .inr (by omega))
  · obtain ⟨p, x1, x2', Q⟩ := hX
    exact told w' _ _ _ Q fun w'' hf'' hp'' => h1 p w'' x1 (by omega) x2' hf'' hp''
  · exact ⟨⟨f5.w, h.keep0 f5, hR, hdf, hf5.at_ d2 (by simp), hf5.at_ d3 (by simp), hf5.at_ d4 (by simp), hf5.at_ d5 (by simp), by omega, by omega, by omega, by omega, by omega, by omega, by omega, hkv, hbl⟩, f5, Nat.le_refl _, fun _ => sp, fun e => by omega⟩
end
structure Cad where
  cel : Nat
  tab : Nat
  mem : Nat
  tk : Nat
  kv : Value
  mv : Value
def Cad.S (A : Cad) : List Nat := A.cel :: A.tk :: (qab A.kv ++ qab A.mv)
structure qao (A : Cad) (w : World) (c : Ce) : Prop where
  blk : ∃ cs : Array Value, w.heap[A.cel]? = some (.cells cs 244 (0, 0)) ∧ cs.size = 131 ∧ cs[0]? = some (.pointer (some ⟨A.tab, 0, none⟩)) ∧ cs[1]? = some (.pointer (some ⟨A.mem, 0, none⟩)) ∧ cs[130]? = some (.pointer (some ⟨A.tk, 0, none⟩)) ∧ ∀ p, p < 64 → cs[2 + p * 2]? = some (.int .i64 (c.ch.getD p (0, 0)).1) ∧ cs[2 + p * 2 + 1]? = some (.int .i64 (c.ch.getD p (0, 0)).2)
  pg : qa6 w A.tab A.kv c.ks
  mm : qat w A.mem A.mv c.m
  tk : qa2 w A.tk c.n c.tk
  ml : c.m.length = c.ks.length * 32
  cl : c.ch.length = 64
  cr : ∀ p, 0 ≤ (c.ch.getD p (0, 0)).2 ∧ (c.ch.getD p (0, 0)).2 ≤ 16
section
variable {K : VK} {w : World} {A : Cad} {c : Ce}
theorem qao.keep {S : List Nat} {w' : World} (h : qao A w c) (hf : Fr S w w') (h1 : A.cel ∉ S) (h2 : A.tab ∉ S) (h3 : A.mem ∉ S) (h4 : A.tk ∉ S) (h5 : ∀ g ∈ qab A.kv, g ∉ S) (h6 : ∀ g ∈ qab A.mv, g ∉ S) : qao A w' c := by
  obtain ⟨cs, c1, c2⟩ := h.blk
  exact ⟨⟨cs, hf.at_ c1 h1, c2⟩, h.pg.keep hf h2 h5, h.mm.keep hf h3 h6, h.tk.keep hf h4, h.ml, h.cl, h.cr⟩
theorem qao.keep0 {w' : World} (h : qao A w c) (hf : Fr [] w w') : qao A w' c := h.keep hf (by simp) (by simp) (by simp) (by simp) (by simp) (by simp)
theorem qao.setMem {w' : World} {m' : List Int} (h : qao A w c) (hf : Fr (qab A.mv) w w') (hm : qat w' A.mem A.mv m') (hl : m'.length = c.m.length) : qao A w' { c with m := m' } := by
  obtain ⟨cs, c1, c2⟩ := h.blk
  obtain ⟨ts, t1, t2⟩ := h.tk.blk
  have hn : (({ c with m := m' } : Ce)).n = c.n := by simp [Ce.n, hl]
  refine ⟨⟨cs, hf.at_ c1 (h.mm.own.nb c1 (by decide)), c2⟩, h.pg.keep hf (h.mm.own.nb h.pg.blk (by decide)) (h.pg.own.ne h.mm.own (by decide)), hm, ?_, by simp only; rw [hl]; exact h.ml, h.cl, h.cr⟩
  rw [hn]
  exact h.tk.keep hf (h.mm.own.nb t1 (by decide))
theorem qao.setTk {w' : World} {s' : Bs} (h : qao A w c) (hf : Fr [A.tk] w w') (hb : qa2 w' A.tk c.n s') : qao A w' { c with tk := s' } := by
  obtain ⟨cs, c1, c2⟩ := h.blk
  obtain ⟨ts, t1, t2⟩ := h.tk.blk
  have no : ∀ {v : Value} {e : TypeId} {sz : Nat} {xs : List (List Value)}, qad w v e sz xs → 255 ≠ e → ∀ g ∈ qab v, g ∉ [A.tk] := fun ho hne g hg e => by
    simp only [List.mem_singleton] at e
    subst e
    exact ho.nb t1 (Ne.symm hne) hg
  exact ⟨⟨cs, hf.at_ c1 (by simp; exact qa1 c1 t1 (by simp)), c2⟩, h.pg.keep hf (by simp; exact qa1 h.pg.blk t1 (by simp)) (no h.pg.own (by decide)), h.mm.keep hf (by simp; exact qa1 h.mm.blk t1 (by simp)) (no h.mm.own (by decide)), hb, h.ml, h.cl, h.cr⟩
theorem qao.setKs {w' : World} {ks' : List Int} (h : qao A w c) (hf : Fr (qab A.kv) w w') (hp : qa6 w' A.tab A.kv ks') (hl : ks'.length = c.ks.length) : qao A w' { c with ks := ks' } := by
  obtain ⟨cs, c1, c2⟩ := h.blk
  obtain ⟨ts, t1, t2⟩ := h.tk.blk
  exact ⟨⟨cs, hf.at_ c1 (h.pg.own.nb c1 (by decide)), c2⟩, hp, h.mm.keep hf (h.pg.own.nb h.mm.blk (by decide)) (h.mm.own.ne h.pg.own (by decide)), h.tk.keep hf (h.pg.own.nb t1 (by decide)), by simp only; rw [hl]; exact h.ml, h.cl, h.cr⟩
theorem qao.setCh {p : Nat} {l : Int × Int} {F : World → Prop} (h : qao A w c) (hp : p < 64) (hl : 0 ≤ l.2 ∧ l.2 ≤ 16) (hk : ∀ w', Fr [A.cel] w w' → qao A w' { c with ch := c.ch.set p l } → F w') :
    C.ak 2 (.pointer (some ⟨A.cel, 2 + p * 2, none⟩)) (chV l) w F := by
  obtain ⟨cs, c1, c2, c3, c4, c5, c6⟩ := h.blk
  obtain ⟨ts, t1, t2⟩ := h.tk.blk
  have cl := h.cl
  refine C.b8 c1 rfl qbz (by omega) fun w' hu => hk w' hu.fr ?_
  have no : ∀ {v : Value} {e : TypeId} {sz : Nat} {xs : List (List Value)}, qad w v e sz xs → 244 ≠ e → ∀ g ∈ qab v, g ∉ [A.cel] := fun ho hne g hg e => by
    simp only [List.mem_singleton] at e
    subst e
    exact ho.nb c1 (Ne.symm hne) hg
  have gt : ∀ i : Nat, (qaw cs.toList (2 + p * 2) [.int .i64 l.1, .int .i64 l.2]).toArray[i]? = if i = 2 + p * 2 then some (.int .i64 l.1) else if i = 2 + p * 2 + 1 then some (.int .i64 l.2) else cs[i]? := fun i => by
    unfold qaw
    have e1 : (cs.toList.take (2 + p * 2)).length = 2 + p * 2 := by rw [List.length_take]; simp; omega
    rw [List.getElem?_toArray, List.getElem?_append]
    by_cases b1 : i < 2 + p * 2 + 2
    · rw [if_pos (by rw [List.length_append, e1]; exact b1), List.getElem?_append, e1]
      by_cases b2 : i < 2 + p * 2
      · rw [if_pos b2, List.getElem?_take, if_pos b2, if_neg (by omega), if_neg (by omega), Array.getElem?_toList]
      · rw [if_neg b2]
        by_cases b3 : i = 2 + p * 2
        · subst b3; simp
        · have : i = 2 + p * 2 + 1 := by omega
          subst this
          rw [show 2 + p * 2 + 1 - (2 + p * 2) = 1 by omega]
          simp
    · rw [if_neg (by rw [List.length_append, e1]; exact b1), List.getElem?_drop, if_neg (by omega), if_neg (by omega), List.length_append, e1]
      simp only [List.length_cons, List.length_nil]
      rw [show 2 + p * 2 + (0 + 1 + 1) + (i - (2 + p * 2 + (0 + 1 + 1))) = i by omega, Array.getElem?_toList]
  have hsz : (qaw cs.toList (2 + p * 2) (chV l).cells.toList).toArray.size = 131 := by
    simp [qaw, chV, Value.cells]
    omega
  refine ⟨⟨_, hu.at_, hsz, ?_, ?_, ?_, fun q hq => ?_⟩, h.pg.keep hu.fr (by simp; exact qa1 h.pg.blk c1 (by simp)) (no h.pg.own (by decide)), h.mm.keep hu.fr (by simp; exact qa1 h.mm.blk c1 (by simp)) (no h.mm.own (by decide)), h.tk.keep hu.fr (by simp; exact qa1 t1 c1 (by simp)), h.ml, by simpa using cl, fun q => ?_⟩
  · exact (gt 0).trans (by rw [if_neg (by omega), if_neg (by omega)]; exact c3)
  · exact (gt 1).trans (by rw [if_neg (by omega), if_neg (by omega)]; exact c4)
  · exact (gt 130).trans (by rw [if_neg (by omega), if_neg (by omega)]; exact c5)
  · have e : (c.ch.set p l).getD q (0, 0) = if q = p then l else c.ch.getD q (0, 0) := by
      rw [List.getD_eq_getElem?_getD, List.getD_eq_getElem?_getD, List.getElem?_set]
      by_cases e : p = q
      · subst e; rw [if_pos rfl, if_pos (by omega), if_pos rfl]; rfl
      · rw [if_neg e, if_neg (Ne.symm e)]
    simp only
    rw [e]
    by_cases e2 : q = p
    · subst e2
      rw [if_pos rfl]
      exact ⟨(gt _).trans (by rw [if_pos rfl]), (gt _).trans (by rw [if_neg (by omega), if_pos rfl])⟩
    · rw [if_neg e2]
      exact ⟨(gt _).trans (by rw [if_neg (by omega), if_neg (by omega)]; exact (c6 q hq).1), (gt _).trans (by rw [if_neg (by omega), if_neg (by omega)]; exact (c6 q hq).2)⟩
  · have e : (c.ch.set p l).getD q (0, 0) = if q = p then l else c.ch.getD q (0, 0) := by
      rw [List.getD_eq_getElem?_getD, List.getD_eq_getElem?_getD, List.getElem?_set]
      by_cases e : p = q
      · subst e; rw [if_pos rfl, if_pos (by omega), if_pos rfl]; rfl
      · rw [if_neg e, if_neg (Ne.symm e)]
    simp only
    rw [e]
    split
    · exact hl
    · exact h.cr q
theorem qfd (h : qao A w c) (hk : K (.bool true) w) : C.q Tryz.prog 173 #[.pointer (some ⟨A.cel, 0, none⟩)] w K := by
  obtain ⟨cs, c1, c2, c3, c4, c5, c6⟩ := h.blk
  refine F173.sh ⟨_, qau _ _ _ Tryz.underlying166, ?_⟩
  simp only [C.aw, C.af, C.ag, C.al, Nat.zero_add]
  refine C.ae (v := .pointer (some ⟨A.mem, 0, none⟩)) c1 c4 ⟨_, qau _ _ _ Tryz.underlying238, ?_⟩
  simp only []
  exact hk
theorem qey {p : Int} (h : qao A w c) (hk : ∀ w', Fr [] w w' → K (.int .i64 (kAt c.ks p)) w') : C.q Tryz.prog 186 #[.pointer (some ⟨A.cel, 0, none⟩), .int .i64 p] w K := by
  obtain ⟨cs, c1, c2, c3, c4, c5, c6⟩ := h.blk
  refine F186.sh (qfd h ?_)
  simp only [C.ac, C.aq, Bool.not_true]
  refine F186.k3.to ?_
  simp only [C.af, C.ag, Nat.zero_add]
  refine C.br (n := 1) (vs := [.pointer (some ⟨A.tab, 0, none⟩)]) c1 (by omega) ?_ ?_
  · rw [List.drop_zero]
    have : 0 < cs.toList.length := by simp; omega
    rw [List.take_one]
    simp only [List.head?_eq_getElem?, Array.getElem?_toList, c3, Option.toList_some]
  · refine F250.sh (C.av fun x2 w1 hn1 => ?_)
    simp only [C.af, Nat.zero_add]
    exact C.ae (v := .pointer (some ⟨A.tab, 0, none⟩)) hn1.at_ rfl (qdt (h.keep0 hn1.fr).pg (hk w1 hn1.fr))
theorem qne (h : qao A w c) (hk : ∀ w', Fr [] w w' → K (.int .i64 (qct c.ks)) w') : C.q Tryz.prog 114 #[.pointer (some ⟨A.cel, 0, none⟩)] w K := by
  obtain ⟨cs, c1, c2, c3, c4, c5, c6⟩ := h.blk
  refine F114.sh (qfd h ?_)
  simp only [C.ac, C.aq, Bool.not_true]
  refine F114.k3.to ?_
  simp only [C.af, C.ag, Nat.zero_add]
  refine C.br (n := 1) (vs := [.pointer (some ⟨A.tab, 0, none⟩)]) c1 (by omega) ?_ ?_
  · rw [List.drop_zero, List.take_one]
    simp only [List.head?_eq_getElem?, Array.getElem?_toList, c3, Option.toList_some]
  · refine F174.sh (C.av fun x2 w1 hn1 => ?_)
    simp only [C.af, Nat.zero_add]
    exact C.ae (v := .pointer (some ⟨A.tab, 0, none⟩)) hn1.at_ rfl (qup (h.keep0 hn1.fr).pg fun w2 hf2 => hk w2 (hn1.fr.trans hf2))
theorem qoe {p : Int} (h : qao A w c) (hk : ∀ w', Fr [] w w' → K (.bool (c.small p)) w') : C.q Tryz.prog 251 #[.pointer (some ⟨A.cel, 0, none⟩), .int .i64 p] w K := by
  refine F251.sh (qey h fun w1 hf1 => qbt ?_)
  simp only [C.bl]
  exact hk w1 hf1
theorem qkt (h : qao A w c) {p : Int} (hs : c.small p = true) : 0 ≤ p ∧ p < c.ks.length ∧ p < 64 := by
  have hle := h.pg.le
  have := qez hle (p := p) (by intro e; simp [Ce.small, e] at hs; revert hs; decide)
  omega
theorem qli {p : Int} (h : qao A w c) (hk : ∀ w', Fr [] w w' → K (.int .i64 (c.left p)) w') : C.q Tryz.prog 187 #[.pointer (some ⟨A.cel, 0, none⟩), .int .i64 p] w K := by
  refine F187.sh (qoe h fun w1 hf1 => ?_)
  have hk := hk w1 hf1
  unfold Ce.left at hk
  cases hs : c.small p with
  | false =>
    rw [hs] at hk
    simp only [C.ah, C.aq, Bool.not_false] at hk ⊢
    exact hk
  | true =>
    rw [hs] at hk
    obtain ⟨p0, p1, p2⟩ := qkt h hs
    obtain ⟨cs, c1, c2, c3, c4, c5, c6⟩ := (h.keep0 hf1).blk
    obtain ⟨p, rfl⟩ := Int.eq_ofNat_of_zero_le p0
    simp only [C.ac, C.aq, Bool.not_true]
    refine F187.k3.to ?_
    simp only [C.af, C.ag, Nat.zero_add]
    refine C.bp (by omega) (by omega) ?_
    simp only [C.af, Int.toNat_natCast]
    refine C.ae (v := .int .i64 (c.ch.getD p (0, 0)).2) c1 ?_ ?_
    · exact (c6 p (by omega)).2
    · simpa [Ce.chain] using hk
theorem qsg {a : Int} (h : qao A w c) (hk : K (.bool (c.isIt a)) w) : C.q Tryz.prog 197 #[.pointer (some ⟨A.cel, 0, none⟩), .int .i64 a] w K := by
  obtain ⟨cs, c1, c2, c3, c4, c5, c6⟩ := h.blk
  refine F197.sh (qfd h ?_)
  simp only [C.aw, C.af, C.ag, C.al, Nat.zero_add]
  refine C.ae (v := .pointer (some ⟨A.tk, 0, none⟩)) c1 c5 (qk4 h.tk ?_)
  exact hk
theorem qng {a : Int} (h : qao A w c) (hk : ∀ ok, K (.tuple #[.int .i64 (qc0 c.m a), .bool ok]) w) : C.q Tryz.prog 198 #[.pointer (some ⟨A.cel, 0, none⟩), .int .i64 a] w K := by
  obtain ⟨cs, c1, c2, c3, c4, c5, c6⟩ := h.blk
  refine F198.sh (qfd h ?_)
  simp only [C.ac, C.aq, Bool.not_true]
  refine F198.k3.to ?_
  simp only [C.af, C.ag, Nat.zero_add]
  refine C.ae (v := .pointer (some ⟨A.mem, 0, none⟩)) c1 c4 (qp0 h.mm fun ok => ?_)
  simp only [C.a7, C.a8]
  exact hk ok
theorem qwg (h : qao A w c) (hT : TzB w) (hk : ∀ v w', Fr [] w w' → qal w v → qad w' v 3 1 (qaf (qij c.n c.tk)) → K v w') : C.q Tryz.prog 130 #[.pointer (some ⟨A.cel, 0, none⟩)] w K := by
  obtain ⟨cs, c1, c2, c3, c4, c5, c6⟩ := h.blk
  refine F130.sh (qfd h ?_)
  simp only [C.ac, C.aq, Bool.not_true]
  refine F130.k3.to ?_
  simp only [C.af, C.ag, Nat.zero_add]
  exact C.ae (v := .pointer (some ⟨A.tk, 0, none⟩)) c1 c5 (qwd h.tk hT hk)
theorem qpb (hle : c.ks.length ≤ 64) (p : Int) (h : 0 ≤ qdx c.ks p) : qdx c.ks p < 64 := by
  unfold qdx at h ⊢
  have key : ∀ q : Int, 0 ≤ (if qbh c.ks q = 0 then -1 else q) → (if qbh c.ks q = 0 then -1 else q) < 64 := fun q hq => by
    rcases qg8 hle q with e | ⟨e1, e2⟩
    · rw [if_pos e] at hq; omega
    · by_cases e : qbh c.ks q = 0
      · rw [if_pos e] at hq; omega
      · rw [if_neg e]; omega
  by_cases hp : 0 ≤ p
  · simp only [hp, if_true] at h ⊢
    exact key _ h
  · simp only [hp, if_false] at h ⊢
    exact key _ h
theorem qwf {a : Int} (h : qao A w c) (hk : ∀ w', Fr [] w w' → K (.int .i64 (c.base a)) w') : C.q Tryz.prog 246 #[.pointer (some ⟨A.cel, 0, none⟩), .int .i64 a] w K := by
  refine F246.sh (qfd h ?_)
  simp only [C.ac, C.aq, Bool.not_true]
  refine F246.k3.to (qd1 (qey h fun w1 hf1 => qnj ?_))
  have h1 := h.keep0 hf1
  obtain ⟨cs, c1, c2, c3, c4, c5, c6⟩ := h1.blk
  simp only [C.af, C.ag, C.au, Nat.zero_add]
  refine C.ae (v := .pointer (some ⟨A.tab, 0, none⟩)) c1 c3 (qut h1.pg ?_)
  have hk := hk w1 hf1
  unfold Ce.base at hk
  simp only at hk
  have fin : ∀ d : Int, d = (if qdv (kAt c.ks (qas a)) a < 0 ∧ 0 ≤ qdx c.ks (qas a) then (qhu (qdx c.ks (qas a)) 1).1 else qdv (kAt c.ks (qas a)) a) → F246.k8 K (.pointer (some ⟨A.cel, 0, none⟩)) (.int .i64 d) w1 := fun d e => by
    rw [← e] at hk
    refine F246.k8.to (qsg h1 ?_)
    cases hi : c.isIt d with
    | true =>
      rw [hi, if_pos rfl] at hk
      simp only [C.ac, C.aq, Bool.not_true]
      exact F246.k10.to hk
    | false =>
      rw [hi] at hk
      simp only [C.ah, C.aq, Bool.not_false, Bool.false_eq_true, if_false] at hk ⊢
      exact hk
  by_cases d1 : qdv (kAt c.ks (qas a)) a < 0
  · simp only [C.aw, C.bc, C.al, decide_true, d1]
    by_cases d2 : qdx c.ks (qas a) ≥ 0
    · simp only [C.ah, decide_true, d2]
      have hr := qpb h.pg.le (qas a) d2
      refine qhm ⟨d2, hr⟩ (by omega) ?_
      simp only [C.b0, C.b4, C.b5]
      refine fin _ ?_
      rw [if_pos ⟨d1, d2⟩]
      unfold qhu
      rw [if_pos (by omega)]
    · simp only [C.ac, decide_false, d2]
      refine fin _ ?_
      rw [if_neg (by omega)]
  · simp only [C.ac, C.ar, C.bf, decide_false, d1]
    refine fin _ ?_
    rw [if_neg (by omega)]
theorem qld {a v : Int} (h : qao A w c) (hv : -9223372036854775808 ≤ v ∧ v ≤ 9223372036854775807) (hk : ∀ w', Fr (qab A.mv) w w' → qao A w' (c.store a v).1 → K (.bool (c.store a v).2) w') : C.q Tryz.prog 181 #[.pointer (some ⟨A.cel, 0, none⟩), .int .i64 a, .int .i64 v] w K := by
  refine F181.sh (qwf h fun w1 hf1 => ?_)
  have h1 := h.keep0 hf1
  unfold Ce.store at hk
  by_cases d : c.base a ≥ 0
  · obtain ⟨cs, c1, c2, c3, c4, c5, c6⟩ := h1.blk
    simp only [C.aw, C.af, C.ag, C.bc, C.al, Nat.zero_add, decide_true, d]
    refine C.ae (v := .pointer (some ⟨A.mem, 0, none⟩)) c1 c4 (qnv h1.mm hv fun w2 hf2 h2 => ?_)
    by_cases e : mIn c.m a 1
    · rw [if_pos ⟨d, e⟩] at hk
      rw [decide_eq_true e]
      exact hk w2 (hf1.w.trans hf2) (h1.setMem hf2 h2 (qgk _ _ _))
    · rw [if_neg (fun x => e x.2)] at hk
      rw [decide_eq_false e]
      have : qf4 c.m a v = c.m := by unfold qf4 qbj; rw [if_neg e]
      rw [this] at h2
      exact hk w2 (hf1.w.trans hf2) (h1.setMem hf2 h2 rfl)
  · simp only [C.ar, C.bc, C.bf, decide_false, d]
    rw [if_neg (fun x => d x.1)] at hk
    exact hk w1 hf1.w h1
end
section
variable {K : VK} {w : World} {A : Cad} {c : Ce}
theorem qo8 (m : List Int) (p k : Int) : 0 ≤ (qc4 m p k).2.2 ∧ (qc4 m p k).2.2 ≤ 16 := by
  have := qby k
  unfold qc4
  split
  · simp only; omega
  · simp only; omega
theorem qo7 (m : List Int) (p k : Int) : (qc4 m p k).1.length = m.length := by
  unfold qc4
  split
  · simp only; rw [qi8, qdp]
  · rfl
theorem qrc {m : List Int} {p k : Int} {l : Int × Int} (hl : 0 ≤ l.2 ∧ l.2 ≤ 16) : (0 ≤ (qb0 m p k l).2.2 ∧ (qb0 m p k l).2.2 ≤ 16) ∧ (0 < qai k → 0 ≤ (qb0 m p k l).1 ∧ (qb0 m p k l).1 < qai k) := by
  unfold qb0
  split
  · rename_i h
    split
    · exact ⟨by simp only; omega, fun _ => h.2.2⟩
    · exact ⟨by simp only; omega, fun hc => by simp only; omega⟩
  · exact ⟨by simp only; omega, fun hc => by simp only; omega⟩
theorem qra {m : List Int} {p k i : Int} {l : Int × Int} : (0 ≤ (qdw m p k l i).2.2 ∧ (qdw m p k l i).2.2 ≤ 16) ∧ (qdw m p k l i).1.length = m.length := by
  have := qby k
  unfold qdw
  split
  · rename_i h
    exact ⟨by simp only; omega, qgk _ _ _⟩
  · exact ⟨by simp only; omega, rfl⟩
theorem qkm (hle : c.ks.length ≤ 64) (p : Int) : (qhw c.ks p).length = c.ks.length := by
  unfold qhw
  split
  · rfl
  · rename_i h
    rcases qg8 hle p with e | ⟨e1, e2⟩
    · exact absurd e h
    · exact qdl (by omega)
theorem Fr.kv {w w' : World} (h : Fr (qab A.kv) w w') : Fr A.S w w' := h.mono fun x hx => by simp [Cad.S, hx]
theorem Fr.mv {w w' : World} (h : Fr (qab A.mv) w w') : Fr A.S w w' := h.mono fun x hx => by simp [Cad.S, hx]
theorem Fr.cel {w w' : World} (h : Fr [A.cel] w w') : Fr A.S w w' := h.mono fun x hx => by simp only [List.mem_singleton] at hx; simp [Cad.S, hx]
theorem Fr.tk {w w' : World} (h : Fr [A.tk] w w') : Fr A.S w w' := h.mono fun x hx => by simp only [List.mem_singleton] at hx; simp [Cad.S, hx]
theorem qul {k : Int} (h : qao A w c) (hk : ∀ w', Fr A.S w w' → qao A w' (c.carve k).1 → K (match (c.carve k).2 with | some p => .tuple #[.int .i64 (p : Int), .bool true] | none => .tuple #[.int .i64 0, .bool false]) w') :
    C.q Tryz.prog 188 #[.pointer (some ⟨A.cel, 0, none⟩), .int .i64 k] w K := by
  obtain ⟨cs, c1, c2, c3, c4, c5, c6⟩ := h.blk
  refine F188.sh (qfd h ?_)
  simp only [C.ac, C.aq, Bool.not_true]
  refine F188.k3.to ?_
  simp only [C.af, C.ag, Nat.zero_add]
  unfold Ce.carve at hk
  refine C.ae (v := .pointer (some ⟨A.tab, 0, none⟩)) c1 c3 (qu6 h.pg (fun hn => ?_) fun p w1 hp hpl hf1 hp1 => ?_)
  · rw [hn] at hk
    simp only [C.ac, C.a7, C.a8]
    exact F188.k6.to (hk w (Fr.refl _ _) h)
  · rw [hp] at hk
    have hle := h.pg.le
    have h1 := h.setKs hf1 hp1 (by simp)
    obtain ⟨ds, d1, d2, d3, d4, d5, d6⟩ := h1.blk
    simp only [C.ah, C.a7, C.a8]
    refine C.a4 (fun _ => True) fun w2 hf2 _ => ⟨trivial, ?_⟩
    have h2 := h1.keep0 hf2
    simp only []
    refine ⟨C.ae (v := .pointer (some ⟨A.mem, 0, none⟩)) (hf2.at_ d1 (by simp)) d4 ⟨trivial, ?_⟩, trivial⟩
    refine ⟨quk h2.mm (p := (p : Int)) (by omega) fun w3 ok hf3 h3m => ⟨trivial, ?_⟩, trivial⟩
    have h3 := h2.setMem hf3 h3m (qo7 _ _ _)
    simp only [C.a7, C.a8]
    refine C.bp (by omega) (by omega) ?_
    rw [Int.toNat_natCast]
    refine ⟨h3.setCh (l := (qc4 c.m p k).2) (by omega) (qo8 _ _ _) fun w4 hf4 h4 => ⟨trivial, F188.k6.to ?_⟩, trivial⟩
    exact hk w4 ((hf1.kv.trans hf2.w).trans (hf3.mv.trans hf4.cel)) h4
theorem qm6 {p : Int} (h : c.small p = true) : 0 < qai (kAt c.ks p) := by
  unfold Ce.small at h
  rcases qq2 (kAt c.ks p) with ⟨_, e, f⟩ | ⟨_, e, f⟩ | ⟨_, e, f⟩ | ⟨_, e, f⟩ | ⟨_, e, f⟩ <;> rw [f] <;> simp [e] at h ⊢
theorem qxc {p : Int} (h : qao A w c) (hk : ∀ w', Fr A.S w w' → qao A w' (c.take p).1 → K (match (c.take p).2 with | some a => .tuple #[.int .i64 a, .bool true] | none => .tuple #[.int .i64 0, .bool false]) w') :
    C.q Tryz.prog 183 #[.pointer (some ⟨A.cel, 0, none⟩), .int .i64 p] w K := by
  refine F183.sh (qli h fun w1 hf1 => ?_)
  have h1 := h.keep0 hf1
  unfold Ce.take at hk
  by_cases z : c.left p = 0
  · rw [if_pos z] at hk
    simp only [C.ah, C.az, eq_self, decide_true, z]
    exact hk w1 hf1.w h1
  rw [if_neg z] at hk
  have hs : c.small p = true := by
    cases e : c.small p with
    | true => rfl
    | false => exact absurd (by unfold Ce.left; rw [e]; rfl) z
  obtain ⟨p0, p1, p2⟩ := qkt h hs
  have hcc := qm6 hs
  have hsz := qg4 (kAt c.ks p)
  obtain ⟨p, rfl⟩ := Int.eq_ofNat_of_zero_le p0
  simp only [C.ac, C.az, decide_false, z]
  refine F183.k3.to (qey h1 fun w2 hf2 => ?_)
  have h2 := h1.keep0 hf2
  have f2 := hf1.trans hf2
  refine C.a4 (fun w' => Fr [] w2 w') fun w3 hf3 _ => ⟨hf3, ?_⟩
  obtain ⟨cs, c1, c2, c3, c4, c5, c6⟩ := h2.blk
  simp only [C.af, C.ag, Nat.zero_add]
  refine C.bp (by omega) (by omega) ?_
  rw [Int.toNat_natCast]
  refine C.an (v := .pointer (some ⟨A.mem, 0, none⟩)) (fun w' hw => ⟨cs, _, _, hw.at_ c1 (by simp), c4⟩) ?_
  have hch : (cs.toList.drop (2 + p * 2)).take 2 = [.int .i64 (c.ch.getD p (0, 0)).1, .int .i64 (c.ch.getD p (0, 0)).2] := by
    have q1 := (c6 p (by omega)).1
    have q2 := (c6 p (by omega)).2
    apply List.ext_getElem?
    intro i
    rw [List.getElem?_take, List.getElem?_drop]
    match i with
    | 0 => simpa using q1
    | 1 => simpa using q2
    | i + 2 => rw [if_neg (by omega)]; rfl
  refine C.bn (vs := [.int .i64 (c.ch.getD p (0, 0)).1, .int .i64 (c.ch.getD p (0, 0)).2]) (fun w' hw => ⟨cs, _, _, hw.at_ c1 (by simp), by omega, hch⟩) ?_
  have hcr := h.cr p
  have hmm : ∀ w', Fr [] w2 w' → qat w' A.mem A.mv c.m := fun w' hf => (h2.keep0 hf).mm
  have eT : ∀ (x : Nat), c.chain ((p : Nat) : Int) = c.ch.getD p (0, 0) := fun _ => by simp [Ce.chain]
  simp only [eT 0] at hk
  generalize hl : c.ch.getD p (0, 0) = l at *
  obtain ⟨tr1, tr2⟩ := qrc (m := c.m) (p := (p : Int)) (k := kAt c.ks (p : Int)) (l := l) hcr
  have tr2 := tr2 hcc
  have fin : ∀ w4 x8, Fr [] w2 w4 → w2.heap.size ≤ x8 → w4.heap[x8]? = some (.cells (chV (qb0 c.m p (kAt c.ks p) l).2).cells 241 (0, 0)) →
      F183.k5 K (.pointer (some ⟨A.cel, 0, none⟩)) (.int .i64 (p : Int)) (.int .i64 (kAt c.ks p)) (.int .i64 (qb0 c.m p (kAt c.ks p) l).1) (.pointer (some ⟨x8, 0, none⟩)) w4 := fun w4 x8 hf4 hx8 e8 => by
    have h4 := h2.keep0 hf4
    refine F183.k5.to (qol (by omega) tr2 ?_)
    simp only [C.af, C.ag, C.a7, C.a8, Nat.zero_add]
    have n8 : x8 ≠ A.cel := by have := qac c1; omega
    refine C.a4 (fun w' => w'.heap[x8]? = some (.cells (chV (qb0 c.m p (kAt c.ks p) l).2).cells 241 (0, 0))) fun w5 hf5 _ => ⟨hf5.at_ e8 (by simp), ?_⟩
    have h5 := h4.keep0 hf5
    simp only []
    refine C.bn (vs := [.int .i64 (qb0 c.m p (kAt c.ks p) l).2.1, .int .i64 (qb0 c.m p (kAt c.ks p) l).2.2]) (fun w' hw => ⟨_, _, _, hw, by simp [chV, Value.cells], rfl⟩) ?_
    refine C.bp (by omega) (by omega) ?_
    rw [Int.toNat_natCast]
    refine ⟨h5.setCh (l := (qb0 c.m p (kAt c.ks p) l).2) (by omega) tr1 fun w6 hf6 h6 => ⟨hf6.at_ (hf5.at_ e8 (by simp)) (by simpa using n8), ?_⟩, trivial⟩
    obtain ⟨ds, d1, d2, d3, d4, d5, d6⟩ := h6.blk
    refine C.ae (v := .pointer (some ⟨A.tk, 0, none⟩)) d1 d5 (qoj h6.tk fun w7 hf7 h7b => ?_)
    have h7 := h6.setTk hf7 h7b
    obtain ⟨es, e1, e2, e3, e4, e5, e6⟩ := h7.blk
    refine C.a4 (fun w' => w'.heap[A.cel]? = some (.cells es 244 (0, 0))) fun w8 hf8 _ => ⟨hf8.at_ e1 (by simp), ?_⟩
    have h8 := h7.keep0 hf8
    simp only []
    refine C.an (v := .pointer (some ⟨A.mem, 0, none⟩)) (fun w' hw => ⟨_, _, _, hw, e4⟩) ⟨qbt ⟨hf8.at_ e1 (by simp), ?_⟩, trivial⟩
    have e18 := hf8.at_ e1 (by simp)
    refine ⟨qiv h8.mm (by omega) fun w9 hf9 h9m => ⟨hf9.at_ e18 (h8.mm.own.nb e18 (by decide)), ?_⟩, trivial⟩
    have h9 := h8.setMem hf9 h9m (qdp _ _ _ _)
    refine hk w9 ?_ h9
    exact ((((f2.trans hf4).trans hf5).w.trans hf6.cel).trans (hf7.tk.trans hf8.w)).trans hf9.mv
  refine ⟨qnh (l := l) (hmm w3 hf3) (by omega) (by omega) fun w4 ok hf4 => ⟨hf3.trans hf4, ?_⟩, ⟨?_, trivial⟩⟩
  · simp only [C.b0, C.b4, C.b5]
    refine ⟨C.av fun x8 w5 hn5 => ⟨(hf3.trans hf4).trans hn5.fr, C.a1 (x := chV (qb0 c.m p (kAt c.ks p) l).2) hn5.at_ rfl qbz rfl fun w6 hu6 => ⟨?_, ?_⟩, trivial⟩, trivial⟩
    · have := ((hf3.trans hf4).trans hn5.fr).size
      have := hn5.is
      have := (hf3.trans hf4).size
      exact ((hf3.trans hf4).trans hn5.fr).then hu6.fr fun z hz => .inr (by simp only [List.mem_singleton] at hz; omega)
    · have := hn5.is
      have := (hf3.trans hf4).size
      exact fin w6 x8 (((hf3.trans hf4).trans hn5.fr).then hu6.fr fun z hz => .inr (by simp only [List.mem_singleton] at hz; omega)) (by omega) hu6.at_
  · refine C.av fun x8 w4 hn4 => ⟨hf3.trans hn4.fr, qnh (l := l) (hmm w4 (hf3.trans hn4.fr)) (by omega) (by omega) fun w5 ok hf5 => ⟨(hf3.trans hn4.fr).trans hf5, ?_⟩, trivial⟩
    simp only [C.b0, C.b4, C.b5]
    have i4 := hn4.is
    have s3 := hf3.size
    refine ⟨C.a1 (x := chV (qb0 c.m p (kAt c.ks p) l).2) (hf5.at_ hn4.at_ (by simp)) rfl qbz rfl fun w6 hu6 => ⟨?_, ?_⟩, trivial⟩
    · exact ((hf3.trans hn4.fr).trans hf5).then hu6.fr fun z hz => .inr (by simp only [List.mem_singleton] at hz; omega)
    · exact fin w6 x8 (((hf3.trans hn4.fr).trans hf5).then hu6.fr fun z hz => .inr (by simp only [List.mem_singleton] at hz; omega)) (by omega) hu6.at_
theorem quz {n : Int} (h : qao A w c) (hn : n ≤ 64) (hk : ∀ w', Fr A.S w w' → qao A w' (c.large n).1 → K (match (c.large n).2 with | some a => .tuple #[.int .i64 a, .bool true] | none => .tuple #[.int .i64 0, .bool false]) w') :
    C.q Tryz.prog 119 #[.pointer (some ⟨A.cel, 0, none⟩), .int .i64 n] w K := by
  obtain ⟨cs, c1, c2, c3, c4, c5, c6⟩ := h.blk
  have hle := h.pg.le
  refine F119.sh (qfd h ?_)
  simp only [C.ac, C.aq, Bool.not_true]
  refine F119.k3.to ?_
  simp only [C.af, C.ag, Nat.zero_add]
  unfold Ce.large at hk
  refine C.ae (v := .pointer (some ⟨A.tab, 0, none⟩)) c1 c3 (qxa h.pg hn (fun hs w1 hf1 => ?_) fun p w1 hs hn1 hl hf1 hp1 => ?_)
  · rw [hs] at hk
    simp only [C.ah, C.aq, C.a7, C.a8, Bool.not_false]
    exact hk w1 hf1.w (h.keep0 hf1)
  · rw [hs] at hk
    simp only at hk
    have h1 := h.setKs hf1 hp1 (by rw [List.length_set, qdl hl])
    simp only [C.ac, C.aq, C.a7, C.a8, Bool.not_true]
    have eg : (qhu (p : Int) n).1 = (p : Int) * 32 := by unfold qhu; rw [if_pos (by omega)]
    rw [eg] at hk
    refine F119.k6.to (qhm (by omega) (by omega) ?_)
    obtain ⟨ds, d1, d2, d3, d4, d5, d6⟩ := h1.blk
    simp only [C.af, C.ag, C.bq, C.b0, C.b4, C.b5, Nat.zero_add]
    refine C.ae (v := .pointer (some ⟨A.tk, 0, none⟩)) d1 d5 (qoj h1.tk fun w2 hf2 h2b => ?_)
    have h2 := h1.setTk hf2 h2b
    obtain ⟨es, e1, e2, e3, e4, e5, e6⟩ := h2.blk
    refine C.ae (v := .pointer (some ⟨A.mem, 0, none⟩)) e1 e4 ?_
    rw [qaa (n := n * 32) (by omega)]
    refine qiv h2.mm (by omega) fun w3 hf3 h3m => ?_
    exact hk w3 ((hf1.kv.trans hf2.tk).trans hf3.mv) (h2.setMem hf3 h3m (qdp _ _ _ _))
theorem qwn {a : Int} (h : qao A w c) (hk : ∀ w', Fr A.S w w' → qao A w' (c.give a).1 → K (.bool (c.give a).2) w') :
    C.q Tryz.prog 338 #[.pointer (some ⟨A.cel, 0, none⟩), .int .i64 a] w K := by
  obtain ⟨cs, c1, c2, c3, c4, c5, c6⟩ := h.blk
  have hle := h.pg.le
  refine F338.sh (qsg h ?_)
  unfold Ce.give at hk
  cases hi : c.isIt a with
  | false =>
    rw [hi] at hk
    simp only [Bool.false_eq_true, if_false] at hk
    simp only [C.ah, C.aq, Bool.not_false]
    exact hk w (Fr.refl _ _) h
  | true =>
    rw [hi] at hk
    simp only [if_true] at hk
    have ha : 0 ≤ a ∧ a < c.n := by simp [Ce.isIt, qd5] at hi; exact hi.1
    have hml := h.ml
    have hmle := h.mm.le
    have han : a < c.m.length := ha.2
    have hpg : qas a = a / 32 := by unfold qas; rw [if_pos (by omega)]
    simp only [C.ac, C.aq, Bool.not_true]
    refine F338.k3.to ?_
    simp only [C.af, C.ag, Nat.zero_add]
    refine C.ae (v := .pointer (some ⟨A.tk, 0, none⟩)) c1 c5 (qlm h.tk fun w1 hf1 h1b => ?_)
    have h1 := h.setTk hf1 h1b
    refine qd1 (qey h1 fun w2 hf2 => ?_)
    have h2 := h1.keep0 hf2
    obtain ⟨ds, d1, d2, d3, d4, d5, d6⟩ := h2.blk
    by_cases k5 : kAt c.ks (qas a) = 5
    · rw [if_pos k5] at hk
      simp only [C.ah, C.az, eq_self, decide_true, k5]
      refine C.ae (v := .pointer (some ⟨A.tab, 0, none⟩)) d1 d3 (qno h2.pg fun w3 hf3 h3p => ?_)
      exact hk w3 ((hf1.tk.trans hf2.w).trans hf3.kv) (h2.setKs hf3 h3p (qkm hle _))
    · rw [if_neg k5] at hk
      simp only [C.ac, C.az, decide_false, k5]
      refine F338.k9.to (quu ?_)
      simp only [C.af, C.ag, C.a7, C.a8, Nat.zero_add]
      refine C.a4 (fun _ => True) fun w3 hf3 _ => ⟨trivial, ?_⟩
      have h3 := h2.keep0 hf3
      have d13 := hf3.at_ d1 (by simp)
      have hp0 : 0 ≤ qas a ∧ qas a < 64 := by rw [hpg]; omega
      obtain ⟨p, hp⟩ := Int.eq_ofNat_of_zero_le hp0.1
      rw [hp] at hk hp0 ⊢
      simp only []
      refine C.bp (by omega) (by omega) ?_
      rw [Int.toNat_natCast]
      have hch : (ds.toList.drop (2 + p * 2)).take 2 = [.int .i64 (c.ch.getD p (0, 0)).1, .int .i64 (c.ch.getD p (0, 0)).2] := by
        have q1 := (d6 p (by omega)).1
        have q2 := (d6 p (by omega)).2
        apply List.ext_getElem?
        intro i
        rw [List.getElem?_take, List.getElem?_drop]
        match i with
        | 0 => simpa using q1
        | 1 => simpa using q2
        | i + 2 => rw [if_neg (by omega)]; rfl
      have eT : c.chain ((p : Nat) : Int) = c.ch.getD p (0, 0) := by simp [Ce.chain]
      rw [eT] at hk
      obtain ⟨g1, g2⟩ := qra (m := c.m) (p := (p : Int)) (k := kAt c.ks (p : Int)) (i := (qfj (kAt c.ks (p : Int)) a).1) (l := c.ch.getD p (0, 0))
      have fin : ∀ w4 ok, Fr (qab A.mv) w3 w4 → qat w4 A.mem A.mv (qdw c.m p (kAt c.ks p) (c.ch.getD p (0, 0)) (qfj (kAt c.ks (p : Int)) a).1).1 → True ∧ C.a0 0 (.tuple #[chV (qdw c.m p (kAt c.ks p) (c.ch.getD p (0, 0)) (qfj (kAt c.ks (p : Int)) a).1).2, .bool ok]) w4 fun x56_22 w22 =>
          C.a0 1 (.tuple #[chV (qdw c.m p (kAt c.ks p) (c.ch.getD p (0, 0)) (qfj (kAt c.ks (p : Int)) a).1).2, .bool ok]) w22 fun x57_23 w23 => C.bt 64 2 (.pointer (some ⟨A.cel, 2, none⟩)) (.int .i64 (p : Int)) w23 fun x60_24 w24 =>
          (C.ak 2 x60_24 x56_22 w24 fun w25 => (True ∧ F338.k11 K w25)) ∧ True := fun w4 ok hf4 hm4 => by
        have h4 := h3.setMem hf4 hm4 g2
        refine ⟨trivial, ?_⟩
        simp only [C.a7, C.a8]
        refine C.bp (by omega) (by omega) ?_
        rw [Int.toNat_natCast]
        refine ⟨h4.setCh (by omega) g1 fun w5 hf5 h5 => ⟨trivial, F338.k11.to ?_⟩, trivial⟩
        exact hk w5 ((hf1.tk.trans (hf2.trans hf3).w).trans (hf4.mv.trans hf5.cel)) h5
      refine ⟨C.ae (v := .pointer (some ⟨A.mem, 0, none⟩)) d13 d4 ⟨trivial, ?_⟩, ?_, trivial⟩
      · exact ⟨C.br (n := 2) d13 (by omega) hch ⟨trivial, qnf (l := c.ch.getD p (0, 0)) h3.mm (by omega) fin, trivial⟩, trivial⟩
      · exact C.br (n := 2) d13 (by omega) hch ⟨trivial, C.ae (v := .pointer (some ⟨A.mem, 0, none⟩)) d13 d4 ⟨trivial, qnf (l := c.ch.getD p (0, 0)) h3.mm (by omega) fin, trivial⟩, trivial⟩
theorem qnd {p : Int} (h : qao A w c) (hk : ∀ w', Fr A.S w w' → qao A w' (c.drop p).1 → K (.bool (c.drop p).2) w') :
    C.q Tryz.prog 212 #[.pointer (some ⟨A.cel, 0, none⟩), .int .i64 p] w K := by
  have hle := h.pg.le
  refine F212.sh (qoe h fun w1 hf1 => ?_)
  have h1 := h.keep0 hf1
  unfold Ce.drop at hk
  cases hs : c.small p with
  | false =>
    rw [hs] at hk
    simp only [Bool.false_eq_true, false_and, if_false] at hk
    simp only [C.ah, C.aw, C.aq, C.ba, Bool.not_false]
    exact hk w1 hf1.w h1
  | true =>
    rw [hs] at hk
    simp only [true_and] at hk
    simp only [C.ar, C.aq, C.al, Bool.not_true]
    refine qli h1 fun w2 hf2 => qey (h1.keep0 hf2) fun w3 hf3 => qjp ?_
    have h3 := (h1.keep0 hf2).keep0 hf3
    have f3 := hf1.trans (hf2.trans hf3)
    by_cases d : c.left p < qai (kAt c.ks p)
    · simp only [C.ah, C.au, decide_true, d]
      rw [if_neg (by omega)] at hk
      exact hk w3 f3.w h3
    · simp only [C.ac, C.au, decide_false, d]
      rw [if_pos (by omega)] at hk
      refine F212.k3.to ?_
      obtain ⟨ds, d1, d2, d3, d4, d5, d6⟩ := h3.blk
      simp only [C.af, C.ag, Nat.zero_add]
      refine C.ae (v := .pointer (some ⟨A.tab, 0, none⟩)) d1 d3 (qno h3.pg fun w4 hf4 h4p => ?_)
      exact hk w4 (f3.w.trans hf4.kv) (h3.setKs hf4 h4p (qkm hle _))
end
structure IsC (w : World) (b m : Nat) (n : Int) (l : List ((Int × Int) × Value × Nat)) (c : Nat) : Prop where
  blk : w.heap[b]? = some (.cells #[.int .i64 n, .map (some m)] 247 (0, 0))
  map : qb8 qbp w m l c
  int : ∀ x ∈ l, ∃ p : Int, x.2.1 = .int .i64 p
theorem IsC.keep {S : List Nat} {w w' : World} {b m c : Nat} {n : Int} {l : List ((Int × Int) × Value × Nat)} (h : IsC w b m n l c) (hf : Fr S w w') (hb : b ∉ S) (hm : m ∉ S) : IsC w' b m n l c :=
  ⟨hf.at_ h.blk hb, h.map.keep hf hm, h.int⟩
def qt6 : Value → Int
  | .int _ p => p
  | _ => -1
def qcu (l : List ((Int × Int) × Value × Nat)) (a : Int × Int) : Int := match fnd a l 0 with
  | some (_, v) => qt6 v
  | none => -1
section
variable {K : VK} {w : World}
theorem qxj (n : Int) (m : Nat) : (Instr.build 247 #[(0, .int .i64 n), (1, .map (some m))]).run Tryz.prog w = .ok (.agg #[.int .i64 n, .map (some m)]) w := by kernel_rfl
theorem qox (t k : Int) : (Instr.build 265 #[(0, .int .i64 t), (1, .int .i64 k)]).run Tryz.prog w = .ok (qbp (t, k)) w := by kernel_rfl
theorem qyl {t : Int} (h : ∀ b m w', Fr [] w w' → w.heap.size ≤ b → w.heap.size ≤ m → b ≠ m → IsC w' b m (if t < 0 then 0 else if t > 9 then 9 else t) [] 0 → K (.pointer (some ⟨b, 0, none⟩)) w') : C.q Tryz.prog 113 #[.int .i64 t] w K := by
  refine F113.sh (qca ?_)
  generalize (if t < 0 then 0 else if t > 9 then 9 else t) = n at h ⊢
  refine C.c1 (kv := qbp) fun w1 hf1 hm1 hs1 => C.a5 (qxj n _) ?_
  refine C.av fun b w2 hn2 => ?_
  have hi := hn2.is
  exact h b w.heap.size w2 (hf1.trans hn2.fr) (by have := hf1.size; omega) (Nat.le_refl _) (by omega) ⟨hn2.at_, hm1.keep hn2.fr (by simp), by simp⟩
theorem qp9 {b m c : Nat} {n t k : Int} {l : List ((Int × Int) × Value × Nat)} (hC : IsC w b m n l c) (h : K (.int .i64 (qcu l (t, k))) w) : C.q Tryz.prog 184 #[.pointer (some ⟨b, 0, none⟩), .int .i64 t, .int .i64 k] w K := by
  refine F184.sh ⟨_, qam _ _ _ Tryz.underlying168, ?_⟩
  simp only [C.ac]
  refine F184.k3.to ?_
  simp only [C.af, C.ag, Nat.zero_add]
  refine C.ae (v := .map (some m)) hC.blk rfl (C.a5 (qox t k) ?_)
  have hx : ∀ {j : Nat} {v : Value}, fnd (t, k) l 0 = some (j, v) → ∃ p : Int, v = .int .i64 p := fun {j v} e => by
    have hex : ∃ x ∈ l, x.1 = (t, k) := by
      apply Classical.byContradiction
      intro hc
      rw [qd6 fun x hx he => hc ⟨x, hx, he⟩] at e
      cases e
    obtain ⟨j', x, h1, _, _, h4⟩ := qg6 (i := 0) hex
    rw [e] at h4
    simp only [Option.some.injEq, Prod.mk.injEq] at h4
    obtain ⟨p, hp⟩ := hC.int x (List.mem_of_getElem? h1)
    exact ⟨p, by rw [h4.2, hp]⟩
  cases e : fnd (t, k) l 0 with
  | none =>
    refine C.cu qf1 Tryz.underlying245 (z := .int .i64 0) (by kernel_rfl) hC.map (t, k) (.inl ⟨e, rfl, rfl⟩) ?_
    simp only [C.ac, C.a7, C.a8, eq_self, if_true]
    refine F184.k6.to ?_
    simpa [qcu, e] using h
  | some p =>
    obtain ⟨j, v⟩ := p
    obtain ⟨p, rfl⟩ := hx e
    refine C.cu qf1 Tryz.underlying245 (z := .int .i64 0) (by kernel_rfl) hC.map (t, k) (.inr ⟨j, e, rfl⟩) ?_
    simp only [C.ah, C.a7, C.a8, eq_self, if_true]
    simpa [qcu, e, qt6] using h
end
end Go.Proofs.YtcakfaakbpdklaaGreatDoorV
namespace Go.Proofs.YtcakfaakbpdklaaGreatDoorV
open Go Go.Proofs Go.RowKit
open Go.ChangeMaps (setBlock)
set_option linter.unusedVariables false
set_option linter.unusedSimpArgs false
set_option maxRecDepth 10000
def qpa (p : Int) : Value → Bool
  | .int .i64 q => decide (q = p)
  | _ => false
theorem qim {p : Int} {v : Value} : qpa p v = true ↔ v = .int .i64 p := by
  unfold qpa
  split
  · simp
  · rename_i h
    simp only [Bool.false_eq_true, false_iff]
    exact fun e => h p e
def qba (l : List ((Int × Int) × Value × Nat)) (p : Int) : Int × Int := match l.find? (fun x => qpa p x.2.1) with
  | some x => x.1
  | none => (-1, 0)
theorem qe9 {l : List ((Int × Int) × Value × Nat)} {p : Int} (h : ∀ x ∈ l, x.2.1 ≠ .int .i64 p) : qba l p = (-1, 0) := by
  unfold qba
  rw [List.find?_eq_none.2 fun x hx => fun e => h x hx (qim.1 e)]
theorem qhe {l : List ((Int × Int) × Value × Nat)} {p : Int} {x : (Int × Int) × Value × Nat} (hx : x ∈ l) (hp : x.2.1 = .int .i64 p) (hu : ∀ x ∈ l, ∀ y ∈ l, x.2.1 = y.2.1 → x = y) : qba l p = x.1 := by
  unfold qba
  cases e : l.find? (fun x => qpa p x.2.1) with
  | none => exact absurd (qim.2 hp) (List.find?_eq_none.1 e x hx)
  | some y =>
    have h1 := List.mem_of_find?_eq_some e
    have h2 : y.2.1 = .int .i64 p := qim.1 (by have := List.find?_some e; exact this)
    rw [hu x hx y h1 (by rw [hp, h2])]
structure qch (l : List ((Int × Int) × Value × Nat)) (c : Nat) : Prop where
  born : ∀ x ∈ l, x.2.2 < c
  once : (l.map fun x => x.2.2).Nodup
  uni : ∀ x ∈ l, ∀ y ∈ l, x.2.1 = y.2.1 → x = y
section
variable {K : VK} {w : World}
theorem qmt {r : Nat} {o o' : Obj} (hr : w.heap[r]? = some o) : Upd w r o' (setBlock w r o') := qex hr o'
theorem qpg {W : World} {b m c r : Nat} {n p : Int} {l : List ((Int × Int) × Value × Nat)} (hC : IsC W b m n l c) (hg : qch l c) (hr0 : W.heap.size ≤ r)
    (h : ∀ w', Fr [] W w' → K (.tuple #[.int .i64 (qba l p).1, .int .i64 (qba l p).2]) w') :
    ∀ (d : Nat) (seen : Array Nat) (w : World), (leftOf (l.map (ent qbp)).toArray seen).size ≤ d → Fr [] W w → w.heap[r]? = some (.mapIter (some m) c seen c) → (∀ x ∈ l, seen.contains x.2.2 = true → x.2.1 ≠ .int .i64 p) →
      F185.l4 K (.int .i64 p) (.pointer (some ⟨r, 0, none⟩)) w := by
  have hmW := qac hC.map
  intro d
  induction d with
  | zero =>
    intro seen w hd hf hr hs
    have hm := hC.map.keep hf (by simp)
    rcases run_next_at (P := Tryz.prog) w 0 r m c c seen _ c hr hm (fun x hx => by
      simp only [List.mem_map] at hx
      obtain ⟨y, hy, rfl⟩ := hx
      exact hg.born y hy) (Nat.le_refl _) with ⟨h0, hrun⟩ | ⟨e, he, w1, hal, hrun⟩
    · refine F185.l4.to (C.a5 hrun ⟨#[.bool false], .bool false, rfl, rfl, ?_⟩)
      simp only [C.ac]
      refine F185.k8.to ?_
      have := h w hf
      rwa [qe9 fun x hx => hs x hx (all_seen _ _ h0 _ (List.mem_map.2 ⟨x, hx, rfl⟩))] at this
    · have := Array.size_pos_of_mem (Array.mem_toList_iff.1 he)
      omega
  | succ d ih =>
    intro seen w hd hf hr hs
    have hm := hC.map.keep hf (by simp)
    rcases run_next_at (P := Tryz.prog) w 0 r m c c seen _ c hr hm (fun x hx => by
      simp only [List.mem_map] at hx
      obtain ⟨y, hy, rfl⟩ := hx
      exact hg.born y hy) (Nat.le_refl _) with ⟨h0, hrun⟩ | ⟨e, he, w1, hal, hrun⟩
    · refine F185.l4.to (C.a5 hrun ⟨#[.bool false], .bool false, rfl, rfl, ?_⟩)
      simp only [C.ac]
      refine F185.k8.to ?_
      have := h w hf
      rwa [qe9 fun x hx => hs x hx (all_seen _ _ h0 _ (List.mem_map.2 ⟨x, hx, rfl⟩))] at this
    · have hsh := left_shrinks _ _ _ he
      obtain ⟨hem, hes⟩ := mem_left he
      obtain ⟨x, hx, rfl⟩ := List.mem_map.1 hem
      have f1 : Fr [] w w1 ∧ w1.heap = w.heap := by
        rcases hal with rfl | rfl
        · exact ⟨Fr.refl _ _, rfl⟩
        · exact ⟨Fr.drew w, rfl⟩
      have hr1 : w1.heap[r]? = some (.mapIter (some m) c seen c) := by rw [f1.2]; exact hr
      have hu := qmt (o' := .mapIter (some m) c (seen.push x.2.2) c) hr1
      have ff : Fr [] W (setBlock w1 r (.mapIter (some m) c (seen.push x.2.2) c)) := (hf.trans f1.1).then hu.fr fun z hz => .inr (by simp only [List.mem_singleton] at hz; omega)
      refine F185.l4.to (C.a5 hrun ?_)
      simp only [C.ah, C.b0]
      have hrun2 := run_entry_at (P := Tryz.prog) _ r m c seen _ c (ent qbp x) hu.at_ (hC.map.keep ff (by simp)) hem (by simpa [ent, Function.comp_def] using hg.once)
      refine F185.k5.to (C.a5 hrun2 ?_)
      obtain ⟨q, hq⟩ := hC.int x hx
      simp only [C.az, C.a7, C.a8, ent, hq]
      refine C.av fun g w2 hn2 => C.a1 (x := qbp x.1) hn2.at_ rfl (by simp [qbp, Value.cells, Value.oneCell']) rfl fun w3 hu3 => ?_
      have i2 := hn2.is
      have s2 := ff.size
      have f2 : Fr [] W w3 := (ff.trans hn2.fr).then hu3.fr fun z hz => .inr (by simp only [List.mem_singleton] at hz; omega)
      by_cases c1 : q = p
      · subst c1
        simp only [C.ah, C.af, Nat.zero_add, eq_self, decide_true]
        refine C.a4 (fun w' => Fr [] w3 w') fun w4 hf4 _ => ⟨hf4, ?_⟩
        refine C.an (v := .int .i64 x.1.1) (fun w' hw => ⟨_, _, _, hw.at_ hu3.at_ (by simp), rfl⟩) ?_
        refine C.an (v := .int .i64 x.1.2) (fun w' hw => ⟨_, _, _, hw.at_ hu3.at_ (by simp), rfl⟩) ?_
        have := h w4 (f2.trans hf4)
        rwa [qhe hx hq hg.uni] at this
      · simp only [C.ac, C.af, Nat.zero_add, decide_false, c1]
        refine ih (seen.push x.2.2) w3 (by have : (ent qbp x).born = x.2.2 := rfl; rw [this] at hsh; omega) f2 ?_ fun y hy hc => ?_
        · refine hu3.fr.at_ (hn2.fr.at_ hu.at_ (by simp)) ?_
          have := qac hu.at_
          simp only [List.mem_singleton]
          omega
        · rw [Array.contains_push, Bool.or_eq_true] at hc
          rcases hc with hc | hc
          · exact hs y hy hc
          · have e2 : y.2.2 = x.2.2 := by simpa using hc
            intro hyp
            have : x = y := by
              obtain ⟨i, hi, rfl⟩ := List.getElem_of_mem hx
              obtain ⟨j, hj, rfl⟩ := List.getElem_of_mem hy
              by_cases eij : i = j
              · subst eij; rfl
              · rcases Nat.lt_or_gt_of_ne eij with hlt | hlt
                · have q := List.pairwise_iff_getElem.1 hg.once i j (by simpa using hi) (by simpa using hj) hlt; simp only [List.getElem_map] at q; exact absurd e2.symm q
                · have q := List.pairwise_iff_getElem.1 hg.once j i (by simpa using hj) (by simpa using hi) hlt; simp only [List.getElem_map] at q; exact absurd e2 q
            subst this
            rw [hq] at hyp
            simp only [Value.int.injEq, true_and] at hyp
            exact c1 hyp
theorem qnn {b m c : Nat} {n p : Int} {l : List ((Int × Int) × Value × Nat)} (hC : IsC w b m n l c) (hg : qch l c)
    (h : ∀ w', Fr [] w w' → K (.tuple #[.int .i64 (qba l p).1, .int .i64 (qba l p).2]) w') : C.q Tryz.prog 185 #[.pointer (some ⟨b, 0, none⟩), .int .i64 p] w K := by
  refine F185.sh ⟨_, qam _ _ _ Tryz.underlying168, ?_⟩
  simp only [C.ac]
  refine F185.k3.to ?_
  simp only [C.af, C.ag, Nat.zero_add]
  refine C.ae (v := .map (some m)) hC.blk rfl (C.a5 (run_range_map w 245 265 3 m _ c Tryz.underlying245 hC.map) ?_)
  have hn := New.mk' w (.mapIter (some m) c #[] c)
  exact qpg hC hg (Nat.le_refl _) h _ #[] _ (Nat.le_refl _) hn.fr hn.at_ fun x _ hx => by simp at hx
end
end Go.Proofs.YtcakfaakbpdklaaGreatDoorV
namespace Go.Proofs.YtcakfaakbpdklaaGreatDoorV
open Go Go.Proofs Go.RowKit
set_option linter.unusedVariables false
set_option linter.unusedSimpArgs false
set_option maxRecDepth 10000
def setL (l : List ((Int × Int) × Value × Nat)) (a : Int × Int) (p : Int) (c : Nat) : List ((Int × Int) × Value × Nat) × Nat := match fnd a l 0 with
  | none => (l ++ [(a, .int .i64 p, c)], c + 1)
  | some (j, _) => (l.set j (a, .int .i64 p, (l[j]?.map fun x => x.2.2).getD 0), c)
theorem qs9 {k : Int} : csz k = 0 ↔ k < 1 ∨ k ≥ 5 := by
  unfold csz
  by_cases h1 : k = 1
  · simp [h1]
  by_cases h2 : k = 2
  · simp [h2]
  by_cases h3 : k = 3
  · simp [h3]
  by_cases h4 : k = 4
  · simp [h4]
  simp only [h1, h2, h3, h4, if_false, true_iff]
  omega
section
variable {K : VK} {w : World}
theorem qo4 (x y : Operand) (m : Nat) : (do eqGuard .eql 245 x y (.map (some m)) (.map none); binOp .eql 245 (.map (some m)) (.map none) : Sem Value).run Tryz.prog w = .ok (.bool false) w := by
  have h : ∀ d, (Op.equalIn (d + 1) 245 (.map (some m)) (.map none)).run Tryz.prog w = .ok false w := fun d => by simp [Op.equalIn, run_underlying Tryz.underlying245]
  exact qhs (by simp [eqGuard]) rfl (h 9999)
theorem qyp {b m c : Nat} {n t k p : Int} {l : List ((Int × Int) × Value × Nat)} (hC : IsC w b m n l c) (hg : qch l c)
    (h0 : ¬ (0 ≤ t ∧ t < n ∧ csz k ≠ 0 ∧ 0 ≤ p ∧ p < 64 ∧ (qba l p).1 < 0) → ∀ w', Fr [] w w' → K (.bool false) w')
    (h1 : (0 ≤ t ∧ t < n ∧ csz k ≠ 0 ∧ 0 ≤ p ∧ p < 64 ∧ (qba l p).1 < 0) → ∀ w', Fr [m] w w' → IsC w' b m n (setL l (t, k) p c).1 (setL l (t, k) p c).2 → K (.bool true) w') :
    C.q Tryz.prog 124 #[.pointer (some ⟨b, 0, none⟩), .int .i64 t, .int .i64 k, .int .i64 p] w K := by
  have hbm : b ≠ m := fun e => by subst e; have h1 := hC.blk; have h2 := hC.map; unfold qb8 at h2; rw [h1] at h2; cases h2
  refine F124.sh ⟨_, qam _ _ _ Tryz.underlying168, ?_⟩
  simp only [C.ar, C.af, C.ag, C.al, Nat.zero_add]
  refine C.ae (v := .map (some m)) hC.blk rfl ⟨_, qo4 _ _ m, ?_⟩
  simp only [C.ar, C.au, C.al]
  by_cases c1 : t < 0
  · simp only [C.ah, C.aw, C.ba, decide_true, c1]
    exact h0 (by omega) w (Fr.refl _ _)
  simp only [C.ar, C.af, C.ag, C.al, Nat.zero_add, decide_false, c1]
  refine C.ae (v := .int .i64 n) hC.blk rfl ?_
  by_cases c2 : t ≥ n
  · simp only [C.ah, C.aw, C.bc, C.ba, decide_true, c2]
    exact h0 (by omega) w (Fr.refl _ _)
  simp only [C.ar, C.bc, C.al, decide_false, c2]
  refine qbt ?_
  by_cases c3 : csz k = 0
  · simp only [C.ah, C.aw, C.az, C.ba, eq_self, decide_true, c3]
    exact h0 (fun e => e.2.2.1 c3) w (Fr.refl _ _)
  simp only [C.ar, C.az, C.au, C.al, decide_false, c3]
  by_cases c4 : p < 0
  · simp only [C.ah, C.aw, C.ba, decide_true, c4]
    exact h0 (by omega) w (Fr.refl _ _)
  simp only [C.ar, C.bc, C.al, decide_false, c4]
  by_cases c5 : p ≥ 64
  · simp only [C.ah, decide_true, c5]
    exact h0 (by omega) w (Fr.refl _ _)
  simp only [C.ac, decide_false, c5]
  refine F124.k3.to (qnn hC hg fun w1 hf1 => ?_)
  by_cases c6 : (qba l p).1 ≥ 0
  · simp only [C.ah, C.bc, C.a7, C.a8, decide_true, c6]
    exact h0 (by omega) w1 hf1
  simp only [C.ac, C.bc, C.a7, C.a8, decide_false, c6]
  have hC1 := hC.keep hf1 (by simp) (by simp)
  refine F124.k6.to ?_
  simp only [C.af, C.ag, Nat.zero_add]
  refine C.ae (v := .map (some m)) hC1.blk rfl (C.a5 (qox t k) ?_)
  have hlt := qac hC.map
  have fin : ∀ w' l' c', setL l (t, k) p c = (l', c') → Fr [m] w1 w' → qb8 qbp w' m l' c' → (∀ x ∈ l', ∃ q : Int, x.2.1 = .int .i64 q) → K (.bool true) w' := fun w' l' c' e hf hm hi => by
    refine h1 ⟨by omega, by omega, c3, by omega, by omega, by omega⟩ w' ((hf1.mono (by simp)).trans hf) ?_
    rw [e]
    exact ⟨hf.at_ hC1.blk (by simpa using hbm), hm, hi⟩
  cases e : fnd (t, k) l 0 with
  | none =>
    refine C.c4 qf1 Tryz.underlying245 hC1.map (t, k) (.int .i64 p) e fun w' hf hs hm => fin w' _ _ (by simp [setL, e]) hf hm fun x hx => ?_
    rcases List.mem_append.1 hx with hx | hx
    · exact hC.int x hx
    · rw [List.mem_singleton.1 hx]; exact ⟨p, rfl⟩
  | some jv =>
    obtain ⟨j, v⟩ := jv
    have hex : ∃ x ∈ l, x.1 = (t, k) := by
      apply Classical.byContradiction
      intro hc
      rw [qd6 fun x hx he => hc ⟨x, hx, he⟩] at e
      cases e
    obtain ⟨j', x, g1, g2, _, g4⟩ := qg6 (i := 0) hex
    rw [Nat.zero_add] at g4
    have ej : j = j' := by rw [e] at g4; simp only [Option.some.injEq, Prod.mk.injEq] at g4; exact g4.1
    subst ej
    refine C.c5 qf1 Tryz.underlying245 hC1.map (t, k) (.int .i64 p) g1 g2 g4 fun w' hf hs hm => fin w' _ _ (by simp [setL, e, g1]) hf hm fun y hy => ?_
    rcases List.mem_or_eq_of_mem_set hy with hy | hy
    · exact hC.int y hy
    · rw [hy]; exact ⟨p, rfl⟩
end
end Go.Proofs.YtcakfaakbpdklaaGreatDoorV
namespace Go.Proofs.YtcakfaakbpdklaaGreatDoorV
open Go Go.Proofs Go.RowKit
set_option linter.unusedVariables false
set_option linter.unusedSimpArgs false
theorem qtf : qch [] 0 := ⟨by simp, by simp, by simp⟩
theorem qtg {l : List ((Int × Int) × Value × Nat)} {c : Nat} {a : Int × Int} {p : Int} (hg : qch l c) (hp : ∀ x ∈ l, x.2.1 ≠ .int .i64 p) : qch (setL l a p c).1 (setL l a p c).2 := by
  unfold setL
  cases e : fnd a l 0 with
  | none =>
    refine ⟨fun x hx => ?_, ?_, fun x hx y hy he => ?_⟩
    · rcases List.mem_append.1 hx with hx | hx
      · have := hg.born x hx; simp only; omega
      · rw [List.mem_singleton.1 hx]; simp
    · simp only [List.map_append, List.map_cons, List.map_nil]
      rw [List.nodup_append]
      refine ⟨hg.once, by simp, fun x hx y hy => ?_⟩
      obtain ⟨z, hz, rfl⟩ := List.mem_map.1 hx
      have := hg.born z hz
      rw [List.mem_singleton.1 hy]
      omega
    · rcases List.mem_append.1 hx with hx | hx <;> rcases List.mem_append.1 hy with hy | hy
      · exact hg.uni x hx y hy he
      · rw [List.mem_singleton.1 hy] at he; exact absurd he (hp x hx)
      · rw [List.mem_singleton.1 hx] at he; exact absurd he.symm (hp y hy)
      · rw [List.mem_singleton.1 hx, List.mem_singleton.1 hy]
  | some jv =>
    obtain ⟨j, v⟩ := jv
    have hex : ∃ x ∈ l, x.1 = a := by
      apply Classical.byContradiction
      intro hc
      rw [qd6 fun x hx he => hc ⟨x, hx, he⟩] at e
      cases e
    obtain ⟨j', x0, g1, g2, _, g4⟩ := qg6 (i := 0) hex
    rw [Nat.zero_add, e] at g4
    simp only [Option.some.injEq, Prod.mk.injEq] at g4
    obtain ⟨rfl, _⟩ := g4
    have hjl : j < l.length := (List.getElem?_eq_some_iff.1 g1).1
    have hxj : l[j] = x0 := (List.getElem?_eq_some_iff.1 g1).2
    simp only [g1, Option.map_some, Option.getD_some]
    refine ⟨fun x hx => ?_, ?_, fun x hx y hy he => ?_⟩
    · rcases List.mem_or_eq_of_mem_set hx with hx | hx
      · exact hg.born x hx
      · rw [hx]; exact hg.born x0 (List.mem_of_getElem? g1)
    · rw [List.map_set]
      have : (l.map fun x => x.2.2).set j x0.2.2 = l.map fun x => x.2.2 := by
        apply List.ext_getElem
        · simp
        · intro i h1 h2
          rw [List.getElem_set]
          split
          · rename_i e; subst e; simp [hxj]
          · rfl
      rw [this]
      exact hg.once
    · rcases List.mem_or_eq_of_mem_set hx with hx | hx <;> rcases List.mem_or_eq_of_mem_set hy with hy | hy
      · exact hg.uni x hx y hy he
      · rw [hy] at he; exact absurd he (hp x hx)
      · rw [hx] at he; exact absurd he.symm (hp y hy)
      · rw [hx, hy]
end Go.Proofs.YtcakfaakbpdklaaGreatDoorV
