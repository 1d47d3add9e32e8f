/- Part 16 of what the law needs: own lemmas, in the order in which they build. -/
import Derived.LaidMore
import Derived.OpenShut
import Derived.Stop.Joined
import Derived.Test.YtcakfaakbpdklaaGreatDoorProg
import Derived.Test.YtcakfaakbpdklaaGreatDoorRows
import Derived.Test.YtcakfaakbpdklaaGreatDoorTopOwn15
namespace Go.Proofs.YtcakfaakbpdklaaGreatDoorV
open Go Go.Proofs Go.RowKit
set_option linter.unusedVariables false
set_option linter.unusedSimpArgs false
def Ma.ans (cf : Cf) : Ma → List Stp → List Ans
  | _, [] => []
  | m, x :: l => (m.step cf x).2 :: Ma.ans cf (m.step cf x).1 l
def qbu : Cf := ⟨16, 4, 20, 4, 700, 100, 4, 4, 16, 4⟩
def qeh : List Stp := [⟨1, 0, 0, 0, 0, 0, 0⟩, ⟨3, 0, 0, 0, 0, 1, 2⟩, ⟨17, 0, 0, 0, 0, 0, 0⟩, ⟨14, 0, 0, 0, 0, 0, 0⟩, ⟨14, 0, 0, 0, 0, 0, 0⟩, ⟨16, 0, 0, 0, 0, 0, 64⟩]
set_option maxRecDepth 1000000 in
theorem qqq : ∃ a b c d e, Ma.ans qbu (Ma.new qbu) qeh = [a, ⟨0, 2, 1, 0, 0⟩, b, c, d, ⟨0, 0, 0, 2, e⟩] := by
  have h : (Ma.ans qbu (Ma.new qbu) qeh).length = 6 ∧ (Ma.ans qbu (Ma.new qbu) qeh)[1]? = some ⟨0, 2, 1, 0, 0⟩ ∧ ((Ma.ans qbu (Ma.new qbu) qeh)[5]?).map (fun a => (a.code, a.kd, a.n, a.done)) = some (0, 0, 0, 2) :=
    of_decide_eq_true (by kernel_rfl)
  generalize Ma.ans qbu (Ma.new qbu) qeh = l at h
  obtain ⟨h1, h2, h3⟩ := h
  match l, h1 with
  | [a, x, b, c, d, y], _ =>
    simp only [List.getElem?_cons_succ, List.getElem?_cons_zero, Option.some.injEq, Option.map_some, Prod.mk.injEq] at h2 h3
    refine ⟨a, b, c, d, y.credit, ?_⟩
    rw [h2]
    obtain ⟨y1, y2, y3, y4, y5⟩ := y
    simp only at h3
    obtain ⟨rfl, rfl, rfl, rfl⟩ := h3
    rfl
end Go.Proofs.YtcakfaakbpdklaaGreatDoorV
namespace Go.Proofs.YtcakfaakbpdklaaGreatDoorV
open Go Go.Proofs
set_option linter.unusedVariables false
set_option maxRecDepth 100000
noncomputable section
variable {K : VK} {w : World} {x0 x1 x2 y1 y2 y8 y10 y27 y28 y29 : Value}

theorem F9.sh (h : (C.a3 (.cells (Value.cells x0) 23) w fun a b =>
 C.ao 10 a b fun c d =>
 C.q Tryz.prog 32 #[c, x1, (.func (.func 33) #[] #[])] d fun f g =>
 C.a0 0 f g fun i j =>
 C.a0 1 f j fun k m =>
 K (.tuple #[i, k]) m)) : C.q Tryz.prog 9 #[x0, x1] w K := q9 (A := A0) (args := [x0, x1]) (qq h)
namespace F32
def ann : Ann := ⟨[(6, [1, 2, 8]), (9, [2, 8, 10, 27, 28, 29]), (12, [2, 8, 10, 27, 28, 29]), (13, [10])], [(8, [2, 8, 10, 27, 28, 29])], [], [], none⟩
def code := cd Tryz.f32
def top := tp Tryz.f32
variable (K : VK) (y1 y2 y8 y10 y27 y28 y29 : Value) (w : World)
def k6 : Prop := nk ann 45 [(1, y1), (2, y2), (8, y8)] w [1, 1, 1] code (top K)
def k13 : Prop := nk ann 45 [(10, y10)] w [1, 1, 1, 1, 1] code (top K)
def l8 : Prop := nl ann 45 [(2, y2), (8, y8), (10, y10), (27, y27), (28, y28), (29, y29)] w [1, 1, 1, 1, 0, 1, 0] code (top K)
def k9 : Prop := nk ann 45 [(2, y2), (8, y8), (10, y10), (27, y27), (28, y28), (29, y29)] w [1, 1, 1, 1, 0, 1, 0, 0, 1, 1] code (top K)
def k12 : Prop := nk ann 45 [(2, y2), (8, y8), (10, y10), (27, y27), (28, y28), (29, y29)] w [1, 1, 1, 1, 0, 1, 0, 0, 1, 1, 1] code (top K)
attribute [irreducible] k6 k13 l8 k9 k12
end F32
theorem F32.k6.to (h : (C.bk y1 w fun a b =>
 F32.l8 K y2 y8 (.slice none 0 0) y1 a (.int .i64 0) b)) : F32.k6 K y1 y2 y8 w := qq h
theorem F32.k13.to (h : (K (.tuple #[y10, (.int .i64 0)]) w)) : F32.k13 K y10 w := qq h
theorem F32.l8.to (h : (C.aj .lss y29 y28 w fun a b =>
 C.am a (F32.k9 K y2 y8 y10 y27 y28 y29 b) (F32.k13 K y10 b))) : F32.l8 K y2 y8 y10 y27 y28 y29 w := by unfold F32.l8 nl; exact qag (qq h)
theorem F32.k9.to (h : (C.bj 7 y27 y29 w fun a b =>
 C.ao 7 a b fun c d =>
 C.a3 (.cells #[.int .i64 0, .int .i64 0, .int .i64 0, .int .i64 0, .int .i64 0, .int .i64 0, .int .i64 0] 40) d fun f g =>
 C.ak 7 f c g fun i =>
 C.ao 7 f i fun j k =>
 C.q Tryz.prog 20 #[y8, j] k fun m o =>
 C.a3 (.cells #[.int .i64 0, .int .i64 0, .int .i64 0, .int .i64 0, .int .i64 0] 38) o fun p q =>
 C.ak 5 p m q fun r =>
 C.ao 5 p r fun s t =>
 qb2 Tryz.prog y2 [y8, s] t fun u v =>
 C.ay Tryz.prog (Instr.buildSlice 27 1 #[(0, u)]) v fun x y =>
 C.ay Tryz.prog (Builtin.append_ #[27, 27] 27 #[y10, x]) y fun z aa =>
 F32.k12 K y2 y8 z y27 y28 y29 aa)) : F32.k9 K y2 y8 y10 y27 y28 y29 w := qq h
theorem F32.k12.to (h : (C.aj .add y29 (.int .i64 1) w fun a b =>
 F32.l8 K y2 y8 y10 y27 y28 a b)) : F32.k12 K y2 y8 y10 y27 y28 y29 w := qq h
theorem F32.sh (h : (C.a3 (.cells (Value.cells x0) 23) w fun a b =>
 C.ao 10 a b fun c d =>
 C.q Tryz.prog 16 #[c] d fun f g =>
 C.a0 0 f g fun i j =>
 C.a0 1 f j fun k m =>
 C.aj .neq k (.int .i64 0) m fun o p =>
 C.am o (K (.tuple #[(.slice none 0 0), k]) p) (C.bk x1 p fun q r =>
 C.aj .gtr q (.int .i64 256) r fun s t =>
 C.am s (K (.tuple #[(.slice none 0 0), (.int .i64 3)]) t) (F32.k6 K x1 x2 i t)))) : C.q Tryz.prog 32 #[x0, x1, x2] w K := q9 (A := F32.ann) (args := [x0, x1, x2]) (qq h)

theorem F33.sh (h : (C.a3 (.cells (Value.cells x1) 38) w fun a b =>
 C.a3 (.cells #[.int .i64 0, .int .i64 0, .int .i64 0, .int .i64 0, .int .i64 0] 38) b fun c d =>
 C.ao 5 a d fun f g =>
 C.ak 5 c f g fun i =>
 C.ao 5 c i fun r5 _ =>
 K r5 i)) : C.q Tryz.prog 33 #[x0, x1] w K := q9 (A := A0) (args := [x0, x1]) (qq h)
end
end Go.Proofs.YtcakfaakbpdklaaGreatDoorV
namespace Go.Proofs.YtcakfaakbpdklaaGreatDoorV
open Go Go.Proofs Go.RowKit
set_option linter.unusedVariables false
set_option linter.unusedSimpArgs false
set_option maxRecDepth 10000
def stC (l : List Stp) : List (List Value) := l.map fun x => [.int .i64 x.kd, .int .i64 x.t, .int .i64 x.i, .int .i64 x.f, .int .i64 x.j, .int .i64 x.cost, .int .i64 x.n]
def anC (l : List Ans) : List (List Value) := l.map fun a => [.int .i64 a.code, .int .i64 a.kd, .int .i64 a.n, .int .i64 a.done, .int .i64 a.credit]
theorem qd9 (l : List Stp) : (stC l).length = l.length := by simp [stC]
theorem qnx (l : List Ans) : (anC l).length = l.length := by simp [anC]
theorem qj8 {l : List Stp} {j : Nat} (h : j < l.length) : (stC l)[j]? = some [.int .i64 l[j].kd, .int .i64 l[j].t, .int .i64 l[j].i, .int .i64 l[j].f, .int .i64 l[j].j, .int .i64 l[j].cost, .int .i64 l[j].n] := by simp [stC, h]
theorem qvp (a b : List Ans) : anC (a ++ b) = anC a ++ anC b := by simp [anC]
theorem qs1 : qbx Tryz.prog 33 = true := by kernel_rfl
theorem qt2 {x : Stp} : ∀ v ∈ (stV x).cells.toList, v.oneCell' = true := by
  intro v hv
  simp only [stV, Value.cells, List.mem_cons, List.not_mem_nil, or_false] at hv
  rcases hv with rfl | rfl | rfl | rfl | rfl | rfl | rfl <;> rfl
section
variable {K : VK} {A : Mad} {g : Gw} {cf : Cf} {B : Int} {x : Ma} {w : World}
theorem bsA (a : Ans) : (Instr.buildSlice 27 1 #[(0, anV a)]).run Tryz.prog w = .ok (.slice (some ⟨w.heap.size, 0, none⟩) 1 1) (w.alloc (.cells #[.int .i64 a.code, .int .i64 a.kd, .int .i64 a.n, .int .i64 a.done, .int .i64 a.credit] 38)) := by kernel_rfl
theorem C.c8 {W0 : World} {v : Value} {l : List Ans} {n : Ans} (hf : Fr [] W0 w) (hn : qal W0 v) (hv : qad w v 38 5 (anC l)) (hl : l.length ≤ 1000000)
    (hk : ∀ v' w', Fr [] W0 w' → qal W0 v' → qad w' v' 38 5 (anC (l ++ [n])) → Fr (qab v) w w' → (∀ g ∈ qab v', g ∈ qab v ∨ w.heap.size ≤ g) → K v' w') :
    C.ay Tryz.prog (Instr.buildSlice 27 1 #[(0, anV n)]) w fun x w1 => C.ay Tryz.prog (Builtin.append_ #[27, 27] 27 #[v, x]) w1 K :=
  C.cv (x := [.int .i64 n.code, .int .i64 n.kd, .int .i64 n.n, .int .i64 n.done, .int .i64 n.credit]) (e := 38) (sz := 5) (bytes := 40) (z := anV Ans.ok) Tryz.underlying27 (by kernel_rfl) rfl (by decide) (bsA n) rfl (by simp [Value.oneCell']) hf hn hv (by rw [qnx]; omega) (by rw [qnx]; omega) fun v' w' a b c d e => hk v' w' a b (by rw [qvp]; exact c) d e
theorem C.c7 {u : Value} {l : List Stp} {i : Nat} (h : RdS w u 7 (stC l)) (hi : i < l.length) (hk : K (stV l[i]) w) : C.bj 7 u (.int .i64 (i : Int)) w fun p w1 => C.ao 7 p w1 K := by
  refine C.b6 h (by omega) (by rw [Int.toNat_natCast]; exact qj8 hi) fun gg o cs e fz hg hl hs => ?_
  exact C.cp (x := [.int .i64 l[i].kd, .int .i64 l[i].t, .int .i64 l[i].i, .int .i64 l[i].f, .int .i64 l[i].j, .int .i64 l[i].cost, .int .i64 l[i].n]) hg rfl (by omega) hs hk
theorem qxd {p : Value} {a : Ans} (hk : ∀ w', Fr [] w w' → K (anV a) w') : qb2 Tryz.prog (.func (.func 33) #[] #[]) [p, anV a] w K := by
  refine qjl qs1 (F33.sh (C.av fun b w1 hn1 => C.av fun b2 w2 hn2 => ?_))
  have l1 := hn1.is
  have l2 := hn2.is
  have h1 := hn2.fr.at_ hn1.at_ (by simp)
  refine C.ax h1 rfl (C.a1 (x := anV a) hn2.at_ rfl qb3 rfl fun w3 hu3 => C.ax hu3.at_ rfl (hk w3 ?_))
  have s1 := hn1.fr.size
  exact (hn1.fr.trans hn2.fr).then hu3.fr fun q hq => .inr (by simp only [List.mem_singleton] at hq; omega)
theorem Mad.zero_in {T : Nat} : 0 ∈ A.all T g := by simp [Mad.all, Mad.low, Sad.all]
theorem qsr {W : World} {u : Value} {l : List Stp} (hl : l.length ≤ 256) (hu : RdS W u 7 (stC l)) (hk : ∀ v w', Fr [] W w' → qal W v → qad w' v 38 5 (anC (Ma.ans cf x l)) → K (.tuple #[v, .int .i64 0]) w') :
    ∀ (d i : Nat) (w : World) (v : Value) (g : Gw) (B : Int) (y : Ma) (L : List Ans), i + d = l.length → Fr [] W w → qae A g cf B w y → qb9 W A cf.threads.toNat g → B ≤ 64 * i → qal W v → qad w v 38 5 (anC L) → L.length = i → L ++ Ma.ans cf y (l.drop i) = Ma.ans cf x l →
      (∀ q ∈ qab v, q ∉ A.all cf.threads.toNat g) →
      F32.l8 K (.func (.func 33) #[] #[]) (.pointer (some ⟨A.ma, 0, none⟩)) v u (.int .i64 (l.length : Int)) (.int .i64 (i : Int)) w := by
  intro d
  induction d with
  | zero =>
    intro i w v g B y L hi hf hm hs hB hn hv hL he hd
    have e : i = l.length := by omega
    subst e
    refine F32.l8.to ?_
    simp only [C.ac, C.au, decide_false, show ¬ ((l.length : Int) < (l.length : Int)) by omega]
    rw [List.drop_length] at he
    simp only [Ma.ans, List.append_nil] at he
    rw [he] at hv
    exact F32.k13.to (hk v w hf hn hv)
  | succ d ih =>
    intro i w v g B y L hi hf hm hs hB hn hv hL he hd
    have hlt : i < l.length := by omega
    refine F32.l8.to ?_
    simp only [C.ah, C.au, decide_true, show (i : Int) < (l.length : Int) by omega]
    refine F32.k9.to (C.c7 (hu.keep hf) hlt ?_)
    generalize hgs : l[i] = s
    refine C.av fun b w1 hn1 => C.a1 (x := stV s) hn1.at_ rfl qt2 rfl fun w2 hu2 => C.ax hu2.at_ rfl ?_
    have l1 := hn1.is
    have s1 := hn1.fr.size
    have f2 : Fr [] w w2 := hn1.fr.then hu2.fr (by simp; omega)
    have hm2 := hm.keep0 f2
    refine qlo hm2 (by omega) fun g3 w3 hT3 hm3 => ?_
    have hF3 := hs.fr (hf.trans f2) hT3
    have s2 := f2.size
    have hv2 := hv.keep f2 (by simp)
    have hv3 := hv2.keep' hT3.fr fun q hq c => hd q hq (Mad.subS c)
    refine C.av fun b4 w4 hn4 => C.a1 (x := anV (y.step cf s).2) hn4.at_ rfl qb3 rfl fun w5 hu5 => C.ax hu5.at_ rfl ?_
    have l4 := hn4.is
    have s4 := hn4.fr.size
    have f5 : Fr [] w3 w5 := hn4.fr.then hu5.fr (by simp; omega)
    refine qxd fun w6 hf6 => ?_
    have f6 := f5.trans hf6
    have hv6 := hv3.keep f6 (by simp)
    have hm6 := hm3.keep0 f6
    refine C.c8 (hF3.trans f6) hn hv6 (by omega) fun v' w7 hf7 hn7 ho7 hf7' hg7 => ?_
    have hvA : ∀ q ∈ qab v, q ∉ A.all cf.threads.toNat g3 := fun q hq c => by
      rcases Mad.all_cases c with rfl | c
      · have := hn.blk _ hq
        have := hs
        exact absurd (Mad.zero_in (A := A) (T := cf.threads.toNat) (g := g)) (hd _ hq)
      · rcases hT3.inS c with d | d
        · exact hd q hq (Mad.subS d)
        · have := hv2.mem_lt q hq; omega
    have hm7 := hm6.keep hf7' fun q hq c => hvA q c hq
    refine F32.k12.to ?_
    try simp only [C.a6]
    rw [qaa (n := (i : Int) + 1) (by omega)]
    refine ih (i + 1) w7 v' g3 (B + 64) (y.step cf s).1 (L ++ [(y.step cf s).2]) (by omega) hf7 hm7 (hs.step hT3 (hf.trans f2).size) (by omega) hn7 ho7 (by simp [hL]) ?_ fun q hq c => ?_
    · rw [← he, List.drop_eq_getElem_cons hlt, hgs]
      simp [Ma.ans]
    · rcases hg7 q hq with d | d
      · exact hvA q d c
      · have := hm6.ltA q c; omega
theorem qyo {u : Value} {l : List Stp} (L : cf.Legal) (hT : TzB w) (hz : 0 < w.heap.size) (hl : l.length ≤ 256) (hu : RdS w u 7 (stC l)) (hk : ∀ v w', Fr [] w w' → qal w v → qad w' v 38 5 (anC (Ma.ans cf (Ma.new cf) l)) → K (.tuple #[v, .int .i64 0]) w') :
    C.q Tryz.prog 9 #[.agg (cfV cf).toArray, u] w K := by
  refine F9.sh (C.av fun b w1 hn1 => C.ax hn1.at_ rfl (F32.sh (C.av fun b2 w2 hn2 => C.ax hn2.at_ rfl ?_)))
  have f2 := hn1.fr.trans hn2.fr
  refine qhn (hT.keep f2 (by simp)) (Nat.lt_of_lt_of_le hz f2.size) (fun L' => absurd L L') fun _ A g w3 hf3 hg3 hn3 hm3 => ?_
  have f3 := f2.trans hf3
  simp only [C.ac, C.be, C.a7, C.a8, eq_self, decide_false, ne_eq, not_true_eq_false]
  refine C.bh (hu.keep f3) ?_
  rw [qd9]
  simp only [C.ac, C.bl, decide_false, show ¬ ((256 : Int) < (l.length : Int)) by omega]
  refine F32.k6.to (C.bh (hu.keep f3) ?_)
  rw [qd9]
  have hs3 : qb9 w A cf.threads.toNat g := qb9.of hm3 fun y hy => (hn3 y hy).imp id fun h => Nat.le_trans f2.size h
  refine qsr (W := w) (x := Ma.new cf) hl hu (fun v w4 hf4 hn4 ho4 => ?_) l.length 0 w3 _ g 0 (Ma.new cf) [] (by omega) f3 hm3 hs3 (by omega) (qal.nil _) (qad.nil _ _ _) rfl (by simp) (by simp [qab, Value.ownBlock])
  simp only [C.a7, C.a8]
  exact hk v w4 hf4 hn4 ho4
theorem qm8 : qbu.Legal := by
  refine ⟨fun i hi => ?_, by decide⟩
  have h : ∀ i : Fin 10, (spL.getD i.val (0, 0)).1 ≤ (cfL qbu).getD i.val 0 ∧ (cfL qbu).getD i.val 0 ≤ (spL.getD i.val (0, 0)).2 := by decide
  exact h ⟨i, hi⟩
theorem qxl : (Instr.build 23 #[(0, .int .i64 16), (1, .int .i64 4), (2, .int .i64 20), (3, .int .i64 4), (4, .int .i64 700), (5, .int .i64 100), (6, .int .i64 4), (7, .int .i64 4), (8, .int .i64 16), (9, .int .i64 4)]).run Tryz.prog w = .ok (.agg (cfV qbu).toArray) w := by kernel_rfl
theorem qvl (hk : ∀ w', Fr [] w w' → K (.agg (cfV qbu).toArray) w') : C.q Tryz.prog 31 #[] w K := by
  refine F31.sh (C.av fun b w1 hn1 => C.a5 qxl ?_)
  have l1 := hn1.is
  refine C.a1 (x := .agg (cfV qbu).toArray) hn1.at_ rfl (by simp [cfV, Value.cells, Value.oneCell']) rfl fun w2 hu2 => C.ax hu2.at_ rfl (hk w2 (hn1.fr.then hu2.fr (by simp; omega)))
theorem qzf (a b c d e f : Stp) : (Instr.buildSlice 24 6 #[(0, stV a), (1, stV b), (2, stV c), (3, stV d), (4, stV e), (5, stV f)]).run Tryz.prog w = .ok (.slice (some ⟨w.heap.size, 0, none⟩) 6 6) (w.alloc (.cells (stC [a, b, c, d, e, f]).flatten.toArray 40)) := by kernel_rfl
theorem bS1 : (Instr.build 40 #[(0, .int .i64 1)]).run Tryz.prog w = .ok (stV ⟨1, 0, 0, 0, 0, 0, 0⟩) w := by kernel_rfl
theorem bS2 : (Instr.build 40 #[(0, .int .i64 3), (6, .int .i64 2), (5, .int .i64 1)]).run Tryz.prog w = .ok (stV ⟨3, 0, 0, 0, 0, 1, 2⟩) w := by kernel_rfl
theorem bS3 : (Instr.build 40 #[(0, .int .i64 17)]).run Tryz.prog w = .ok (stV ⟨17, 0, 0, 0, 0, 0, 0⟩) w := by kernel_rfl
theorem bS4 : (Instr.build 40 #[(0, .int .i64 14)]).run Tryz.prog w = .ok (stV ⟨14, 0, 0, 0, 0, 0, 0⟩) w := by kernel_rfl
theorem bS5 : (Instr.build 40 #[(0, .int .i64 16), (6, .int .i64 64)]).run Tryz.prog w = .ok (stV ⟨16, 0, 0, 0, 0, 0, 64⟩) w := by kernel_rfl
theorem bA1 : (Instr.build 38 #[(1, .int .i64 2), (2, .int .i64 1)]).run Tryz.prog w = .ok (anV ⟨0, 2, 1, 0, 0⟩) w := by kernel_rfl
theorem eqA (x y : Operand) (a b : Ans) : (do eqGuard .eql 38 x y (anV a) (anV b); binOp .eql 38 (anV a) (anV b) : Sem Value).run Tryz.prog w = .ok (.bool (([a.code, a.kd, a.n, a.done, a.credit] == [b.code, b.kd, b.n, b.done, b.credit]))) w :=
  qn3 (ks := [.i64, .i64, .i64, .i64, .i64]) x y Tryz.underlying38 (by kernel_rfl) (by kernel_rfl) (by kernel_rfl) [a.code, a.kd, a.n, a.done, a.credit] [b.code, b.kd, b.n, b.done, b.credit] rfl rfl
theorem qui (hT : TzB w) (hz : 0 < w.heap.size) (hk : ∀ w', Fr [] w w' → K (.bool true) w') : C.q Tryz.prog 7 #[] w K := by
  refine F7.sh (qvl fun w1 hf1 => C.av fun b w2 hn2 => C.a1 (x := .agg (cfV qbu).toArray) hn2.at_ rfl (by simp [cfV, Value.cells, Value.oneCell']) rfl fun w3 hu3 => C.ax hu3.at_ rfl ?_)
  have l2 := hn2.is
  have s2 := hn2.fr.size
  have f3 : Fr [] w1 w3 := hn2.fr.then hu3.fr (by simp; omega)
  refine C.a5 bS1 (C.a5 bS2 (C.a5 bS3 (C.a5 bS4 (C.a5 bS4 (C.a5 bS5 (C.a5 (qzf _ _ _ _ _ _) ?_))))))
  have hw4 := New.mk' w3 (.cells (stC qeh).flatten.toArray 40)
  have hu : RdS (w3.alloc (.cells (stC qeh).flatten.toArray 40)) (.slice (some ⟨w3.heap.size, 0, none⟩) 6 6) 7 (stC qeh) := RdS.of_block hw4.at_ rfl (by decide) (by decide) (by
    intro y hy
    simp only [stC, List.mem_map] at hy
    obtain ⟨z, _, rfl⟩ := hy
    rfl) (by kernel_rfl)
  have f4 := (hf1.trans f3).trans hw4.fr
  refine qyo qm8 (hT.keep f4 (by simp)) (Nat.lt_of_lt_of_le hz f4.size) (by decide) hu fun v w5 hf5 hn5 ho5 => ?_
  obtain ⟨a, b, c, d, e, ha⟩ := qqq
  rw [ha] at ho5
  have hr := ho5.rd
  simp only [C.aw, C.az, C.a7, C.a8, C.al, eq_self, decide_true]
  refine C.bh hr ?_
  rw [show ((anC [a, ⟨0, 2, 1, 0, 0⟩, b, c, d, ⟨0, 0, 0, 2, e⟩]).length : Int) = 6 from rfl]
  simp only [C.aw, C.az, C.al, eq_self, decide_true]
  refine C.b6 (i := 1) (x := [.int .i64 0, .int .i64 2, .int .i64 1, .int .i64 0, .int .i64 0]) hr (by decide) rfl fun gg o cs ee fz hg hl hs => ?_
  refine C.cp (x := [.int .i64 0, .int .i64 2, .int .i64 1, .int .i64 0, .int .i64 0]) hg rfl (by omega) hs (C.a5 bA1 ⟨_, eqA _ _ ⟨0, 2, 1, 0, 0⟩ ⟨0, 2, 1, 0, 0⟩, ?_⟩)
  rw [show (([0, 2, 1, 0, 0] : List Int) == [0, 2, 1, 0, 0]) = true by decide]
  simp only [C.aw, C.al]
  refine C.b6 (i := 5) (x := [.int .i64 0, .int .i64 0, .int .i64 0, .int .i64 2, .int .i64 e]) hr (by decide) rfl fun g2 o2 cs2 ee2 fz2 hg2 hl2 hs2 => ?_
  simp only [C.af]
  refine C.ae (v := .int .i64 0) hg2 (by have := hs2 0 (by simp); simpa using this) ?_
  simp only [C.aw, C.az, C.al, eq_self, decide_true]
  refine C.b6 (i := 5) (x := [.int .i64 0, .int .i64 0, .int .i64 0, .int .i64 2, .int .i64 e]) hr (by decide) rfl fun g2 o2 cs2 ee2 fz2 hg2 hl2 hs2 => ?_
  simp only [C.af]
  refine C.ae (v := .int .i64 2) hg2 (by have := hs2 3 (by simp); simpa using this) ?_
  simp only [C.az, eq_self, decide_true]
  exact hk w5 (f4.trans hf5)
end
def Shp (lo : Nat) (w : World) (v : Value) (e : TypeId) (sz : Nat) : Prop := v = .slice none 0 0 ∨ ∃ g n cap cs, v = .slice (some ⟨g, 0, none⟩) n cap ∧ lo ≤ g ∧ w.heap[g]? = some (.cells cs e (0, 0)) ∧ n * sz ≤ cs.size ∧ n ≤ 9223372036854775807
theorem qad.shp {lo : Nat} {w : World} {v : Value} {e : TypeId} {sz : Nat} {xs : List (List Value)} (h : qad w v e sz xs) (hlo : ∀ g ∈ qab v, lo ≤ g) : Shp lo w v e sz := by
  have hle := h.rd.le
  obtain ⟨⟨h1, h2⟩, h3⟩ := h
  rcases h2 with ⟨rfl, h2⟩ | ⟨g, cap, cur, rfl, hb, hg, h4, h5, h6, h7⟩
  · exact .inl rfl
  · exact .inr ⟨g, _, cap, cur, rfl, hlo g (by simp [qab, Value.ownBlock]), hg, by rw [h6]; exact Nat.mul_le_mul_right _ h4, hle⟩
theorem Shp.upd {lo g : Nat} {w w' : World} {v : Value} {e e' : TypeId} {sz : Nat} {cs cs' : Array Value} (h : Shp lo w v e sz) (hg : w.heap[g]? = some (.cells cs e' (0, 0))) (hs : cs'.size = cs.size) (hu : Upd w g (.cells cs' e' (0, 0)) w') : Shp lo w' v e sz := by
  rcases h with h | ⟨b, n, cap, c, h1, h2, h3, h4, h5⟩
  · exact .inl h
  · right
    by_cases eb : b = g
    · subst eb
      rw [hg] at h3
      simp only [Option.some.injEq, Obj.cells.injEq] at h3
      obtain ⟨rfl, rfl, _⟩ := h3
      exact ⟨b, n, cap, cs', h1, h2, hu.at_, by omega, h5⟩
    · exact ⟨b, n, cap, c, h1, h2, hu.fr.at_ h3 (by simpa using eb), h4, h5⟩
def Has (lo : Nat) (w : World) (v : Value) (e : TypeId) (sz o : Nat) (fs : List Value) : Prop := (v = .slice none 0 0 ∧ fs = []) ∨ ∃ g cap cs, v = .slice (some ⟨g, 0, none⟩) fs.length cap ∧ lo ≤ g ∧ w.heap[g]? = some (.cells cs e (0, 0)) ∧ fs.length ≤ 9223372036854775807 ∧ ∀ j (h : j < fs.length), cs[j * sz + o]? = some fs[j]
structure Scr (Wb : World) (b : Nat) (rv nv : Value) (vs fs : List Value) (ov tv : Value) (w : World) : Prop where
  fr : Fr [] Wb w
  lb : Wb.heap.size ≤ b
  hb : w.heap[b]? = some (.cells #[rv, nv] 46 (0, 0))
  nd : Has Wb.heap.size w nv 58 2 1 fs
  rw' : Has Wb.heap.size w rv 56 1 0 vs
  fn : ∀ f ∈ fs, Shp Wb.heap.size w f 60 2
  rn : ∀ f ∈ vs, Shp Wb.heap.size w f 60 2
  os : Shp Wb.heap.size w ov 2 1
  ts : Shp Wb.heap.size w tv 3 1
theorem Has.upd {lo g : Nat} {w w' : World} {v : Value} {e e' : TypeId} {sz o : Nat} {fs : List Value} {cs cs' : Array Value} (h : Has lo w v e sz o fs) (hg : w.heap[g]? = some (.cells cs e' (0, 0))) (he : e' ≠ e) (hu : Upd w g (.cells cs' e' (0, 0)) w') : Has lo w' v e sz o fs := by
  rcases h with h | ⟨b, cap, c, h1, h2, h3, h4, h5⟩
  · exact .inl h
  · refine .inr ⟨b, cap, c, h1, h2, hu.fr.at_ h3 fun c => ?_, h4, h5⟩
    rw [List.mem_singleton.1 c, hg] at h3
    simp only [Option.some.injEq, Obj.cells.injEq] at h3
    exact he h3.2.1
section
variable {K : VK} {w : World} {Wb : World} {b : Nat} {rv nv ov tv : Value} {vs fs : List Value}
theorem Scr.upd {w' : World} {g : Nat} {e : TypeId} {cs cs' : Array Value} (h : Scr Wb b rv nv vs fs ov tv w) (hg : w.heap[g]? = some (.cells cs e (0, 0))) (hlo : Wb.heap.size ≤ g) (e1 : e ≠ 46) (e2 : e ≠ 58) (e3 : e ≠ 56) (hs : cs'.size = cs.size) (hu : Upd w g (.cells cs' e (0, 0)) w') : Scr Wb b rv nv vs fs ov tv w' := by
  refine ⟨h.fr.then hu.fr fun q hq => .inr (by rw [List.mem_singleton.1 hq]; exact hlo), h.lb, hu.fr.at_ h.hb fun c => ?_, h.nd.upd hg e2 hu, h.rw'.upd hg e3 hu, fun f hf => (h.fn f hf).upd hg hs hu, fun f hf => (h.rn f hf).upd hg hs hu, h.os.upd hg hs hu, h.ts.upd hg hs hu⟩
  have := h.hb
  rw [List.mem_singleton.1 c, hg] at this
  simp only [Option.some.injEq, Obj.cells.injEq] at this
  exact e1 this.2.1
theorem Scr.ser {w' : World} {g cap k : Nat} {x : Int} {cs : Array Value} (h : Scr Wb b rv nv vs fs ov tv w) (hn : nv = .slice (some ⟨g, 0, none⟩) fs.length cap) (hg : w.heap[g]? = some (.cells cs 58 (0, 0))) (hlo : Wb.heap.size ≤ g) (hl : fs.length ≤ 9223372036854775807) (hc : ∀ j (h : j < fs.length), cs[j * 2 + 1]? = some fs[j]) (hu : Upd w g (.cells (cs.setIfInBounds (k * 2) (.int .i64 x)) 58 (0, 0)) w') : Scr Wb b rv nv vs fs ov tv w' := by
  have hs : (cs.setIfInBounds (k * 2) (.int .i64 x)).size = cs.size := by simp
  refine ⟨h.fr.then hu.fr fun q hq => .inr (by rw [List.mem_singleton.1 hq]; exact hlo), h.lb, hu.fr.at_ h.hb fun c => ?_, .inr ⟨g, cap, _, hn, hlo, hu.at_, hl, fun j hj => ?_⟩, h.rw'.upd hg (by decide) hu, fun f hf => (h.fn f hf).upd hg hs hu, fun f hf => (h.rn f hf).upd hg hs hu, h.os.upd hg hs hu, h.ts.upd hg hs hu⟩
  · have := h.hb
    rw [List.mem_singleton.1 c, hg] at this
    simp only [Option.some.injEq, Obj.cells.injEq] at this
    exact absurd this.2.1 (by decide)
  · rw [Array.getElem?_setIfInBounds, if_neg (by omega)]
    exact hc j hj
theorem bV9 : (Instr.build 60 #[(0, .int .i64 9)]).run Tryz.prog w = .ok (V 9 0) w := by kernel_rfl
theorem qpi {cs : Array Value} {o : Nat} {x : List Value} (h : o + x.length ≤ cs.size) : (qaw cs.toList o x).toArray.size = cs.size := by
  simp only [List.size_toArray]
  rw [qc7 (by simpa using h)]; simp
def sln : Value → Nat
  | .slice _ n _ => n
  | _ => 0
theorem Shp.len {lo : Nat} {v : Value} {e : TypeId} {sz : Nat} (h : Shp lo w v e sz) {w1 : World} (hk : K (.int .i64 (sln v : Int)) w1) : C.bk v w1 K := by
  rcases h with rfl | ⟨g, n, cap, cs, rfl, _⟩
  · exact (C.bs _ _ _).2 hk
  · exact (C.bs _ _ _).2 hk
theorem Shp.le {lo : Nat} {v : Value} {e : TypeId} {sz : Nat} (h : Shp lo w v e sz) : sln v ≤ 9223372036854775807 := by
  rcases h with rfl | ⟨g, n, cap, cs, rfl, _, _, _, h5⟩
  · exact Nat.zero_le _
  · exact h5
theorem Has.len {lo : Nat} {v : Value} {e : TypeId} {sz o : Nat} {fs : List Value} (h : Has lo w v e sz o fs) {w1 : World} (hk : K (.int .i64 (fs.length : Int)) w1) : C.bk v w1 K := by
  rcases h with ⟨rfl, rfl⟩ | ⟨g, cap, cs, rfl, _⟩
  · exact (C.bs _ _ _).2 hk
  · exact (C.bs _ _ _).2 hk
theorem Has.le {lo : Nat} {v : Value} {e : TypeId} {sz o : Nat} {fs : List Value} (h : Has lo w v e sz o fs) : fs.length ≤ 9223372036854775807 := by
  rcases h with ⟨rfl, rfl⟩ | ⟨g, cap, cs, rfl, _, _, h4, _⟩
  · simp
  · exact h4
theorem Has.at_ {lo : Nat} {v : Value} {e : TypeId} {sz o : Nat} {fs : List Value} (h : Has lo w v e sz o fs) {k : Nat} (hk : k < fs.length) : ∃ g cap cs, v = .slice (some ⟨g, 0, none⟩) fs.length cap ∧ lo ≤ g ∧ w.heap[g]? = some (.cells cs e (0, 0)) ∧ ∀ j (h : j < fs.length), cs[j * sz + o]? = some fs[j] := by
  rcases h with ⟨rfl, rfl⟩ | ⟨g, cap, cs, h1, h2, h3, h4, h5⟩
  · simp at hk
  · exact ⟨g, cap, cs, h1, h2, h3, h5⟩
theorem Scr.put2 {v : Value} {j : Nat} {X : World → Prop} (h : Scr Wb b rv nv vs fs ov tv w) (hv : Shp Wb.heap.size w v 60 2) (hj : j < sln v) (hk : ∀ w', Scr Wb b rv nv vs fs ov tv w' → X w') : C.bj 2 v (.int .i64 (j : Int)) w fun p w1 => C.ak 2 p (V 9 0) w1 X := by
  rcases hv with rfl | ⟨g, n, cap, cs, rfl, h2, h3, h4, h5⟩
  · simp [sln] at hj
  · have hj' : j < n := hj
    rw [C.b1]
    refine ⟨by omega, C.b8 h3 rfl qak (by simp; omega) fun w' hu => hk w' ?_⟩
    exact h.upd h3 h2 (by decide) (by decide) (by decide) (qpi (by simp [V, Value.cells]; omega)) hu
theorem Scr.put1 {v : Value} {e : TypeId} {j : Nat} {X : World → Prop} (h : Scr Wb b rv nv vs fs ov tv w) (hv : Shp Wb.heap.size w v e 1) (e1 : e ≠ 46) (e2 : e ≠ 58) (e3 : e ≠ 56) (hj : j < sln v) (hk : ∀ w', Scr Wb b rv nv vs fs ov tv w' → X w') : C.bj 1 v (.int .i64 (j : Int)) w fun p w1 => C.ak 1 p (.int .i64 (-1)) w1 X := by
  rcases hv with rfl | ⟨g, n, cap, cs, rfl, h2, h3, h4, h5⟩
  · simp [sln] at hj
  · have hj' : j < n := hj
    rw [C.b1]
    refine ⟨by omega, C.bb h3 rfl rfl (by simp; omega) fun w' hu => hk w' ?_⟩
    exact h.upd h3 h2 e1 e2 e3 (by simp) hu
variable {y1 y5 y7 y9 : Value}
theorem qsl {k : Nat} (hk : ∀ w', Scr Wb b rv nv vs fs ov tv w' → F4.k35 K y1 y5 y7 y9 w') :
    ∀ (d j : Nat) (w : World), j + d = sln tv → Scr Wb b rv nv vs fs ov tv w → F4.l32 K y1 y5 y7 y9 tv (.int .i64 (j : Int)) w := by
  intro d
  induction d with
  | zero =>
    intro j w hj h
    refine F4.l32.to (h.ts.len ?_)
    simp only [C.ac, C.au, decide_false, show ¬ ((j : Int) < (sln tv : Int)) by omega]
    exact hk w h
  | succ d ih =>
    intro j w hj h
    have hle := h.ts.le
    refine F4.l32.to (h.ts.len ?_)
    simp only [C.ah, C.au, decide_true, show (j : Int) < (sln tv : Int) by omega]
    refine F4.k34.to (h.put1 h.ts (by decide) (by decide) (by decide) (by omega) fun w' h' => ?_)
    refine F4.k33.to ?_
    simp only [C.a6]
    rw [qaa (n := (j : Int) + 1) (by omega)]
    exact ih (j + 1) w' (by omega) h'
theorem qsn {k : Nat} (hk : ∀ w', Scr Wb b rv nv vs fs ov tv w' → F4.k35 K y1 y5 y7 y9 w') :
    ∀ (d j : Nat) (w : World), j + d = sln ov → Scr Wb b rv nv vs fs ov tv w → F4.l28 K y1 y5 y7 y9 ov tv (.int .i64 (j : Int)) w := by
  intro d
  induction d with
  | zero =>
    intro j w hj h
    refine F4.l28.to (h.os.len ?_)
    simp only [C.ac, C.au, decide_false, show ¬ ((j : Int) < (sln ov : Int)) by omega]
    exact F4.k31.to (qsl (k := k) hk (sln tv) 0 w (by omega) h)
  | succ d ih =>
    intro j w hj h
    have hle := h.os.le
    refine F4.l28.to (h.os.len ?_)
    simp only [C.ah, C.au, decide_true, show (j : Int) < (sln ov : Int) by omega]
    refine F4.k30.to (h.put1 h.os (by decide) (by decide) (by decide) (by omega) fun w' h' => ?_)
    refine F4.k29.to ?_
    simp only [C.a6]
    rw [qaa (n := (j : Int) + 1) (by omega)]
    exact ih (j + 1) w' (by omega) h'
theorem Has.get {lo : Nat} {v : Value} {e : TypeId} {sz o : Nat} {fs : List Value} (h : Has lo w v e sz o fs) {k : Nat} (hk : k < fs.length) {Kk : VK} (hr : ∀ g cs, w.heap[g]? = some (.cells cs e (0, 0)) → cs[k * sz + o]? = some fs[k] → Kk (.pointer (some ⟨g, k * sz, none⟩)) w) : C.bj sz v (.int .i64 (k : Int)) w Kk := by
  obtain ⟨g, cap, cs, rfl, h2, h3, h5⟩ := h.at_ hk
  rw [C.b1]
  refine ⟨by omega, ?_⟩
  have := hr g cs h3 (h5 k hk)
  simpa using this
theorem qu5 {k : Nat} (hkv : k < vs.length) (hk : ∀ w', Scr Wb b rv nv vs fs ov tv w' → F4.k22 K y1 y5 y7 y9 (.pointer (some ⟨b, 0, none⟩)) ov tv (.int .i64 (k : Int)) w') :
    ∀ (d j : Nat) (w : World), j + d = sln vs[k] → Scr Wb b rv nv vs fs ov tv w → F4.l24 K y1 y5 y7 y9 (.pointer (some ⟨b, 0, none⟩)) ov tv (.int .i64 (k : Int)) (.int .i64 (j : Int)) w := by
  intro d
  induction d with
  | zero =>
    intro j w hj h
    have hs := h.rn vs[k] (List.getElem_mem hkv)
    refine F4.l24.to ?_
    simp only [C.af, Nat.zero_add]
    refine C.ae (v := rv) h.hb rfl (h.rw'.get hkv fun g cs hg hc => C.ae hg (by simpa using hc) (hs.len ?_))
    simp only [C.ac, C.au, decide_false, show ¬ ((j : Int) < (sln vs[k] : Int)) by omega]
    exact hk w h
  | succ d ih =>
    intro j w hj h
    have hs := h.rn vs[k] (List.getElem_mem hkv)
    have hle := hs.le
    refine F4.l24.to ?_
    simp only [C.af, Nat.zero_add]
    refine C.ae (v := rv) h.hb rfl (h.rw'.get hkv fun g cs hg hc => C.ae hg (by simpa using hc) (hs.len ?_))
    simp only [C.ah, C.au, decide_true, show (j : Int) < (sln vs[k] : Int) by omega]
    refine F4.k26.to ?_
    simp only [C.af, Nat.zero_add]
    refine C.ae (v := rv) h.hb rfl (h.rw'.get hkv fun g cs hg hc => C.ae hg (by simpa using hc) (C.a5 bV9 (h.put2 hs (by omega) fun w' h' => ?_)))
    refine F4.k25.to ?_
    simp only [C.a6]
    rw [qaa (n := (j : Int) + 1) (by omega)]
    exact ih (j + 1) w' (by omega) h'
theorem qso (hk : ∀ w', Scr Wb b rv nv vs fs ov tv w' → F4.k35 K y1 y5 y7 y9 w') :
    ∀ (d j : Nat) (w : World), j + d = vs.length → Scr Wb b rv nv vs fs ov tv w → F4.l21 K y1 y5 y7 y9 (.pointer (some ⟨b, 0, none⟩)) ov tv (.int .i64 (j : Int)) w := by
  intro d
  induction d with
  | zero =>
    intro j w hj h
    refine F4.l21.to ?_
    simp only [C.af, Nat.zero_add]
    refine C.ae (v := rv) h.hb rfl (h.rw'.len ?_)
    simp only [C.ac, C.au, decide_false, show ¬ ((j : Int) < (vs.length : Int)) by omega]
    exact F4.k27.to (qsn (k := 0) hk (sln ov) 0 w (by omega) h)
  | succ d ih =>
    intro j w hj h
    have hle := h.rw'.le
    refine F4.l21.to ?_
    simp only [C.af, Nat.zero_add]
    refine C.ae (v := rv) h.hb rfl (h.rw'.len ?_)
    simp only [C.ah, C.au, decide_true, show (j : Int) < (vs.length : Int) by omega]
    refine F4.k23.to (qu5 (k := j) (by omega) (fun w' h' => ?_) (sln vs[j]) 0 w (by omega) h)
    refine F4.k22.to ?_
    simp only [C.a6]
    rw [qaa (n := (j : Int) + 1) (by omega)]
    exact ih (j + 1) w' (by omega) h'
theorem qsk {k : Nat} (hkv : k < fs.length) (hk : ∀ w', Scr Wb b rv nv vs fs ov tv w' → F4.k14 K y1 y5 y7 y9 (.pointer (some ⟨b, 0, none⟩)) ov tv (.int .i64 (k : Int)) w') :
    ∀ (d j : Nat) (w : World), j + d = sln fs[k] → Scr Wb b rv nv vs fs ov tv w → F4.l17 K y1 y5 y7 y9 (.pointer (some ⟨b, 0, none⟩)) ov tv (.int .i64 (k : Int)) (.int .i64 (j : Int)) w := by
  intro d
  induction d with
  | zero =>
    intro j w hj h
    have hs := h.fn fs[k] (List.getElem_mem hkv)
    refine F4.l17.to ?_
    simp only [C.af, Nat.zero_add]
    refine C.ae (v := nv) h.hb rfl (h.nd.get hkv fun g cs hg hc => ?_)
    simp only [C.af]
    refine C.ae (v := fs[k]) hg hc (hs.len ?_)
    simp only [C.ac, C.au, decide_false, show ¬ ((j : Int) < (sln fs[k] : Int)) by omega]
    exact hk w h
  | succ d ih =>
    intro j w hj h
    have hs := h.fn fs[k] (List.getElem_mem hkv)
    have hle := hs.le
    refine F4.l17.to ?_
    simp only [C.af, Nat.zero_add]
    refine C.ae (v := nv) h.hb rfl (h.nd.get hkv fun g cs hg hc => ?_)
    simp only [C.af]
    refine C.ae (v := fs[k]) hg hc (hs.len ?_)
    simp only [C.ah, C.au, decide_true, show (j : Int) < (sln fs[k] : Int) by omega]
    refine F4.k19.to ?_
    simp only [C.af, Nat.zero_add]
    refine C.ae (v := nv) h.hb rfl (h.nd.get hkv fun g cs hg hc => ?_)
    simp only [C.af]
    refine C.ae (v := fs[k]) hg hc (C.a5 bV9 (h.put2 hs (by omega) fun w' h' => ?_))
    refine F4.k18.to ?_
    simp only [C.a6]
    rw [qaa (n := (j : Int) + 1) (by omega)]
    exact ih (j + 1) w' (by omega) h'
theorem qp8 (hk : ∀ w', Scr Wb b rv nv vs fs ov tv w' → F4.k35 K y1 y5 y7 y9 w') :
    ∀ (d j : Nat) (w : World), j + d = fs.length → Scr Wb b rv nv vs fs ov tv w → F4.l13 K y1 y5 y7 y9 (.pointer (some ⟨b, 0, none⟩)) ov tv (.int .i64 (j : Int)) w := by
  intro d
  induction d with
  | zero =>
    intro j w hj h
    refine F4.l13.to ?_
    simp only [C.af, Nat.zero_add]
    refine C.ae (v := nv) h.hb rfl (h.nd.len ?_)
    simp only [C.ac, C.au, decide_false, show ¬ ((j : Int) < (fs.length : Int)) by omega]
    exact F4.k20.to (qso hk vs.length 0 w (by omega) h)
  | succ d ih =>
    intro j w hj h
    have hle := h.nd.le
    have hjl : j < fs.length := by omega
    refine F4.l13.to ?_
    simp only [C.af, Nat.zero_add]
    refine C.ae (v := nv) h.hb rfl (h.nd.len ?_)
    simp only [C.ah, C.au, decide_true, show (j : Int) < (fs.length : Int) by omega]
    refine F4.k15.to ?_
    simp only [C.af, Nat.zero_add]
    refine C.ae (v := nv) h.hb rfl ?_
    obtain ⟨g, cap, cs, e1, h2, h3, h5⟩ := h.nd.at_ hjl
    have hsz : j * 2 + 1 < cs.size := (Array.getElem?_eq_some_iff.1 (h5 j hjl)).1
    rw [e1, C.b1]
    refine ⟨by omega, ?_⟩
    simp only [C.af, Nat.zero_add]
    refine C.bb h3 rfl rfl (by simp; omega) fun w' hu => ?_
    have h' : Scr Wb b rv nv vs fs ov tv w' := h.ser (k := j) (x := -1) e1 h3 h2 hle h5 (by simpa using hu)
    refine qsk (k := j) hjl (fun w2 h2 => ?_) (sln fs[j]) 0 w' (by omega) h'
    refine F4.k14.to ?_
    simp only [C.a6]
    rw [qaa (n := (j : Int) + 1) (by omega)]
    exact ih (j + 1) w2 (by omega) h2
end
end Go.Proofs.YtcakfaakbpdklaaGreatDoorV
namespace Go.Proofs.YtcakfaakbpdklaaGreatDoorV
open Go Go.Proofs Go.RowKit
set_option linter.unusedVariables false
set_option linter.unusedSimpArgs false
def VI (c : Co) : Prop := ∀ l ∈ c.th, ∀ v ∈ l, vOk v = true
section
variable (cf : Cf)
theorem qjv : ∀ (d : Nat) (c : Co), (c.advance cf d).th = c.th
  | 0, _ => rfl
  | d + 1, c => by
    unfold Co.advance
    repeat' split
    all_goals first | rfl | (rw [qjv]; done) | (rw [qjv]; rfl)
theorem qyb (c : Co) : (c.tUnit cf).1.th = c.th := by
  unfold Co.tUnit
  repeat' split
  all_goals first | rfl | (unfold Co.entry; simp only; split <;> rfl) | (split <;> rfl)
theorem qkv : ∀ (l : List Int) (c : Co), (c.sweepAll l).th = c.th
  | [], _ => rfl
  | a :: l, c => by
    rw [Co.sweepAll, qkv l]
    unfold Co.sweepOne
    split <;> rfl
theorem qye (c : Co) : (c.wUnit cf).1.th = c.th := by
  unfold Co.wUnit
  split
  · rfl
  · exact qkv _ c
theorem qy7 (c : Co) : (c.unit cf).1.th = c.th := by
  have h1 : ∀ (r : Co × Bool), r.1.th = c.th → (if r.2 then ({ r.1 with units := w64 (r.1.units + 1) } : Co) else r.1).th = c.th := fun r h => by split <;> exact h
  unfold Co.unit
  refine h1 _ ?_
  split
  · have ht := qyb cf c
    generalize c.tUnit cf = z at ht
    obtain ⟨d, b⟩ := z
    cases b with
    | true => exact ht
    | false => simp only; unfold Co.adv; rw [qjv]; exact ht
  · split
    · have hw := qye cf c
      generalize c.wUnit cf = z at hw
      obtain ⟨d, b⟩ := z
      simp only at hw ⊢
      split <;> exact hw
    · rfl
theorem qlb : ∀ (n : Nat) (c : Co), (c.workN cf n).1.th = c.th
  | 0, _ => rfl
  | n + 1, c => by
    have h := qy7 cf c
    unfold Co.workN
    generalize c.unit cf = z at h
    obtain ⟨d, b⟩ := z
    cases b with
    | true => exact (qlb n d).trans h
    | false => exact h
theorem qqs (c : Co) : (c.beginC cf).1.th = c.th := by
  unfold Co.beginC Co.adv
  split
  · simp only; rw [qjv]; rfl
  · rfl
theorem qy2 (c : Co) (t : Int) : (c.poll cf t).th = c.th := by
  unfold Co.poll Co.adv
  split
  · simp only; rw [qjv]
    split
    · rfl
    · split <;> rfl
  · rfl
theorem VI.set {c : Co} (h : VI c) {i : Nat} {l : List V2} (hl : ∀ v ∈ l, vOk v = true) : ∀ k ∈ c.th.set i l, ∀ v ∈ k, vOk v = true := fun k hk v hv => by
  rcases List.mem_or_eq_of_mem_set hk with g | rfl
  · exact h k g v hv
  · exact hl v hv
theorem VI.row {c : Co} (h : VI c) (i : Nat) : ∀ v ∈ c.th.getD i [], vOk v = true := fun v hv => by
  rw [List.getD_eq_getElem?_getD] at hv
  cases hg : c.th[i]? with
  | none => rw [hg] at hv; cases hv
  | some l => rw [hg] at hv; exact h l (List.mem_of_getElem? hg) v hv
theorem VI.detach {c : Co} (h : VI c) (t : Int) : VI (c.detach cf t) := by
  unfold Co.detach Co.adv
  split
  · simp only
    unfold VI
    rw [qjv]
    exact h.set fun v hv => by cases hv
  · exact h
theorem VI.push {c : Co} (h : VI c) (t : Int) (v : V2) : VI (c.push t v).1 := by
  unfold Co.push
  split
  · rename_i hc
    refine h.set fun x hx => ?_
    rcases List.mem_append.1 hx with g | g
    · exact h.row _ x g
    · rw [List.mem_singleton.1 g]
      have := hc.2.1
      unfold Co.may at this
      simp only [Bool.and_eq_true] at this
      exact this.1
  · exact h
theorem VI.pop {c : Co} (h : VI c) (t : Int) : VI (c.pop t).1 := by
  unfold Co.pop
  split
  · split
    · exact h.set fun x hx => h.row _ x (List.dropLast_subset _ hx)
    · exact h
  · exact h
theorem qq0 (c : Co) (a : Int) : (c.color cf a).th = c.th := by
  unfold Co.color
  split
  · rfl
  · split <;> rfl
theorem qyx (c : Co) (t n : Int) : (c.fast cf t n).1.th = c.th := by
  unfold Co.fast
  split
  · generalize c.s.fast t n = z
    obtain ⟨s', o⟩ := z
    cases o with
    | none => rfl
    | some a => simp only; rw [qq0]
  · rfl
theorem qy5 (c : Co) (t n : Int) : (c.slow cf t n).1.th = c.th := by
  unfold Co.slow
  split
  · generalize c.s.slow cf.pages.toNat (cf.threads + 1) t n = z
    obtain ⟨s', a, e⟩ := z
    simp only
    split
    · rw [qq0]
    · rfl
  · rfl
theorem qyg (c : Co) (t a i : Int) (v : V2) : (c.write t a i v).1.th = c.th := by
  unfold Co.write
  split <;> rfl
theorem qny (m : Ma) (t n : Int) : (m.charge cf t n).co = m.co := by unfold Ma.charge; split <;> rfl
theorem VI.of {c d : Co} (h : VI c) (e : d.th = c.th) : VI d := by unfold VI; rw [e]; exact h
theorem qz6 (m : Ma) (x : Stp) : (m.tax cf x).1.co.th = m.co.th := by
  unfold Ma.tax
  split
  · rfl
  · simp only
    split
    · rfl
    · simp only; rw [qny]; exact qlb cf _ _
theorem qxz (m : Ma) (x : Stp) : (m.slow cf x).1.co.th = m.co.th := by
  unfold Ma.slow
  simp only
  have h1 : (if m.co.phase = 0 ∧ qct m.co.s.c.ks < cf.trigger then ({ m with co := (m.co.beginC cf).1 } : Ma) else m).co.th = m.co.th := by
    split
    · exact qqs cf _
    · rfl
  generalize (if m.co.phase = 0 ∧ qct m.co.s.c.ks < cf.trigger then ({ m with co := (m.co.beginC cf).1 } : Ma) else m) = m1 at h1
  have h2 := qz6 cf m1 x
  rw [h1] at h2
  generalize m1.tax cf x = z at h2
  obtain ⟨m2, y⟩ := z
  simp only at h2 ⊢
  split
  · exact h2
  · exact (qy5 cf _ _ _).trans h2
theorem VI.alloc {m : Ma} (h : VI m.co) (x : Stp) : VI (m.alloc cf x).1.co := by
  unfold Ma.alloc
  split
  · exact h
  split
  · exact h
  have hf := qyx cf m.co x.t x.n
  generalize m.co.fast cf x.t x.n = z at hf
  obtain ⟨c, o⟩ := z
  cases o with
  | some a => exact VI.push (h.of hf) _ _
  | none =>
    simp only
    have h2 := qxz cf m x
    split
    · exact h.of h2
    · exact VI.push (h.of h2) _ _
theorem VI.step {m : Ma} (h : VI m.co) (x : Stp) : VI (m.step cf x).1.co := by
  have hd : VI (m.doS cf x).1.co := by
    unfold Ma.doS
    split
    · exact h
    split
    · exact h.detach cf _
    split
    · exact h.alloc cf x
    split
    · unfold Ma.pushS
      split
      · exact h
      · have hp := h.push x.t (m.value x).1
        generalize m.co.push x.t (m.value x).1 = z at hp
        obtain ⟨c, o⟩ := z
        cases o
        · exact h
        · exact hp
    split
    · have hp := h.pop x.t
      generalize m.co.pop x.t = z at hp
      obtain ⟨c, o⟩ := z
      cases o
      · exact h
      · exact hp
    split
    · unfold Ma.writeS
      split
      · exact h
      · split
        · exact h
        · exact h.of (qyg _ _ _ _ _)
    split
    · exact h
    split
    · exact h.of (qy2 cf _ _)
    unfold Ma.spend
    split
    · split
      · exact h.of (qqs cf _)
      · exact h
    split
    · exact h
    split
    · exact h
    split
    · exact h.of (qlb cf _ _)
    split
    · exact h
    split
    · exact h
    simp only
    rw [qny]
    exact h.of (qlb cf _ _)
  unfold Ma.step
  split
  · exact h
  split
  · exact h
  simp only
  split
  · exact hd
  · exact hd
theorem VI.new : VI (Ma.new cf).co := fun l hl v hv => by
  have : l = [] := (List.mem_replicate.1 hl).2
  rw [this] at hv; cases hv
end
end Go.Proofs.YtcakfaakbpdklaaGreatDoorV
namespace Go.Proofs.YtcakfaakbpdklaaGreatDoorV
open Go Go.Proofs Go.RowKit
set_option linter.unusedVariables false
set_option linter.unusedSimpArgs false
set_option maxRecDepth 10000
theorem VI.rootsIn {x : Ma} (h : VI x.co) : qd3 x := fun t v hv h2 => by
  unfold Co.roots at hv
  split at hv
  · have hk := h.row t.toNat v hv
    unfold vOk chk at hk
    rw [h2, if_neg (by decide), if_neg (by decide), if_pos rfl] at hk
    by_cases hr : 0 ≤ v.2 ∧ v.2 < 2048
    · exact hr
    · rw [if_neg hr] at hk; cases hk
  · cases hv
theorem qax.has {lo : Nat} {w : World} {nv : Value} {N : List Nd} {fs : List Value} (h : qax lo w nv N fs) : Has lo w nv 58 2 1 fs := by
  have hle := h.sp.rd.le
  have hn := qhy h.len
  obtain ⟨A, c, e, h2, h3, h4⟩ := h.sp.rd
  obtain ⟨⟨h1, hb⟩, _⟩ := h.sp
  rw [hn] at hle
  rcases hb with ⟨rfl, hz⟩ | ⟨g, cap, cur, rfl, hb, hg, a4, a5, a6, a7⟩
  · left
    refine ⟨rfl, List.eq_nil_of_length_eq_zero ?_⟩
    rw [hn] at hz; rw [h.len]; exact hz
  · right
    refine ⟨g, cap, cur, by rw [hn, h.len], h.ge g (by simp [qab, Value.ownBlock]), hg, by rw [h.len]; exact hle, fun j hj => ?_⟩
    have hjN : j < N.length := by rw [← h.len]; exact hj
    have hne : ndC N fs ≠ [] := fun e => by rw [e] at hn; simp at hn; omega
    obtain ⟨g', o', cs', e', fz', b1, b2, b3⟩ := h4 hne
    simp only [Value.slice.injEq] at e
    rw [← e.1] at b1
    simp only [Option.some.injEq, Addr.mk.injEq] at b1
    obtain ⟨rfl, rfl, _⟩ := b1
    rw [hg] at b2
    simp only [Option.some.injEq, Obj.cells.injEq] at b2
    obtain ⟨rfl, _, _⟩ := b2
    have := (b3 j _ (qn7 hjN hj)).2 1 (by decide)
    simpa using this
theorem qa5.has {lo : Nat} {w : World} {rv : Value} {L : List (List Va)} {vs : List Value} (h : qa5 lo w rv L vs) : Has lo w rv 56 1 0 vs := by
  have hle := h.sp.rd.le
  have hn := qh0 vs
  obtain ⟨A, c, e, h2, h3, h4⟩ := h.sp.rd
  obtain ⟨⟨h1, hb⟩, _⟩ := h.sp
  rw [hn] at hle
  rcases hb with ⟨rfl, hz⟩ | ⟨g, cap, cur, rfl, hb, hg, a4, a5, a6, a7⟩
  · left
    refine ⟨rfl, List.eq_nil_of_length_eq_zero ?_⟩
    rw [hn] at hz; exact hz
  · right
    refine ⟨g, cap, cur, by rw [hn], h.ge g (by simp [qab, Value.ownBlock]), hg, hle, fun j hj => ?_⟩
    have hne : slC vs ≠ [] := fun e => by rw [e] at hn; simp at hn; omega
    obtain ⟨g', o', cs', e', fz', b1, b2, b3⟩ := h4 hne
    simp only [Value.slice.injEq] at e
    rw [← e.1] at b1
    simp only [Option.some.injEq, Addr.mk.injEq] at b1
    obtain ⟨rfl, rfl, _⟩ := b1
    rw [hg] at b2
    simp only [Option.some.injEq, Obj.cells.injEq] at b2
    obtain ⟨rfl, _, _⟩ := b2
    have := (b3 j _ (qod hj)).2 0 (by decide)
    simpa using this
section
variable {K : VK} {w : World} {cf : Cf}
theorem qz2 (x y : Operand) (a b : Ans) : (do eqGuard .neq 38 x y (anV a) (anV b); binOp .neq 38 (anV a) (anV b) : Sem Value).run Tryz.prog w = .ok (.bool (!([a.code, a.kd, a.n, a.done, a.credit] == [b.code, b.kd, b.n, b.done, b.credit]))) w :=
  qmg (ks := [.i64, .i64, .i64, .i64, .i64]) x y Tryz.underlying38 (by kernel_rfl) (by kernel_rfl) (by kernel_rfl) [a.code, a.kd, a.n, a.done, a.credit] [b.code, b.kd, b.n, b.done, b.credit] rfl rfl
theorem qyj {W : World} {u : Value} {l : List Stp} (hu : RdS W u 7 (stC l)) (hf : Fr [] W w) (hk : ∀ u', RdS W u' 7 (stC (l.take 70)) → K u' w) : C.q Tryz.prog 8 #[u] w K := by
  refine F8.sh (C.bh (hu.keep hf) ?_)
  rw [qd9]
  by_cases h : 70 < l.length
  · simp only [C.ah, C.bl, decide_true, show (70 : Int) < (l.length : Int) by omega]
    obtain ⟨A, c, rfl, h1, h2, h3⟩ := id hu
    rw [qd9] at h1 ⊢
    have run : ∀ w' : World, (Instr.sliceAt 24 (.slice A l.length c) none (some (.int .i64 70)) none).run Tryz.prog w' = .ok (.slice A 70 c) w' := fun w' => by
      have := qed (P := Tryz.prog) (w := w') (t := 24) (e := 40) (sz := 7) A l.length c .i64 70 Tryz.underlying24 (by kernel_rfl) (by omega) (by omega)
      exact this
    have ht := RdS.take hu 70 (by rw [qd9]; omega)
    refine C.a5 (run w) (hk _ ?_)
    have e : stC (l.take 70) = (stC l).take 70 := by simp [stC, List.map_take]
    rw [e]; exact ht
  · simp only [C.ac, C.bl, decide_false, show ¬ (70 : Int) < (l.length : Int) by omega]
    refine F8.k3.to (hk u ?_)
    rw [List.take_of_length_le (by omega)]; exact hu
variable {A A' : Mad} {g g' : Gw} {B B' : Int} {x : Ma}
theorem qu4 {W : World} (hf : Fr [] W w) (h1 : qae A g cf B w x) (h2 : qae A' g' cf B' w x) (hr : qd3 x) (hk : ∀ w', Fr [] W w' → K (.bool true) w') : F4.k37 K (.pointer (some ⟨A.ma, 0, none⟩)) (.pointer (some ⟨A'.ma, 0, none⟩)) w := by
  refine F4.k37.to (qjr h1 hr fun rv nv vs fs w1 hf1 hR hN => qjr (h2.keep0 hf1) hr fun rv' nv' vs' fs' w2 hf2 hR' hN' => ?_)
  have hV : IsV w2 rv nv (x.view cf) := ⟨hR.rd.keep hf2, hN.rd.keep hf2⟩
  have hV' : IsV w2 rv' nv' (x.view cf) := ⟨hR'.rd, hN'.rd⟩
  refine qxg hV hV' fun w3 hf3 => ?_
  rw [decide_eq_true rfl]
  have f3 := (hf1.trans hf2).trans hf3
  try simp only [C.aw, C.al]
  refine qga (h1.keep0 f3) fun ov w4 hf4 hn4 ho4 => ?_
  refine qga (h2.keep0 (f3.trans hf4)) fun ov' w5 hf5 hn5 ho5 => ?_
  refine qqm (ho4.rd.keep hf5) ho5.rd fun w6 hf6 => ?_
  rw [decide_eq_true rfl]
  try simp only [C.aw, C.al]
  have f6 := ((f3.trans hf4).trans hf5).trans hf6
  refine qjq (h1.keep0 f6) fun tv w7 hf7 hn7 ho7 => ?_
  refine qjq (h2.keep0 (f6.trans hf7)) fun tv' w8 hf8 hn8 ho8 => ?_
  refine qwp (ho7.rd.keep hf8) ho8.rd fun w9 hf9 => ?_
  rw [decide_eq_true rfl]
  exact hk w9 (((hf.trans f6).trans hf7).trans (hf8.trans hf9))
theorem qsm {W : World} {u : Value} {l : List Stp} (hl : l.length ≤ 70) (hu : RdS W u 7 (stC l)) (hk : ∀ w', Fr [] W w' → K (.bool true) w') :
    ∀ (d i : Nat) (w : World) (g g' : Gw) (y : Ma), i + d = l.length → Fr [] W w → qae A g cf (64 * (i : Int)) w y → qae A' g' cf (64 * (i : Int)) w y → qb9 W A cf.threads.toNat g → qb9 W A' cf.threads.toNat g' → Two A g A' g' cf.threads.toNat → VI y.co →
      F4.l9 K u (.pointer (some ⟨A.ma, 0, none⟩)) (.pointer (some ⟨A'.ma, 0, none⟩)) (.int .i64 (i : Int)) w := by
  intro d
  induction d with
  | zero =>
    intro i w g g' y hi hf h1 h2 hs1 hs2 ht hJ
    refine F4.l9.to (C.bh (hu.keep hf) ?_)
    rw [qd9]
    simp only [C.ac, C.au, decide_false, show ¬ ((i : Int) < (l.length : Int)) by omega]
    exact qu4 hf h1 h2 hJ.rootsIn hk
  | succ d ih =>
    intro i w g g' y hi hf h1 h2 hs1 hs2 ht hJ
    have hlt : i < l.length := by omega
    refine F4.l9.to (C.bh (hu.keep hf) ?_)
    rw [qd9]
    simp only [C.ah, C.au, decide_true, show (i : Int) < (l.length : Int) by omega]
    refine F4.k11.to (qjr h1 hJ.rootsIn fun rv nv vs fs w1 hf1 hR hN => qga (h1.keep0 hf1) fun ov w2 hf2 hn2 ho2 => qjq (h1.keep0 (hf1.trans hf2)) fun tv w3 hf3 hn3 ho3 => C.av fun b w4 hn4 => ?_)
    have l4 := hn4.is
    have f3 := (hf1.trans hf2).trans hf3
    have s3 := f3.size
    have f23 := hf2.trans hf3
    have hV : IsV w1 rv nv (y.view cf) := ⟨hR.rd, hN.rd⟩
    refine C.a1 (x := .agg #[rv, nv]) hn4.at_ (by rw [hV.cells]; rfl) hV.ones rfl fun w5 hu5 => ?_
    rw [hV.cells] at hu5
    have hR4 := (hR.keep0 f23).keep0 hn4.fr
    have hN4 := (hN.keep0 f23).keep0 hn4.fr
    have hbS : ∀ q ∈ [b], q < w.heap.size ∨ w4.heap.size ≤ q ∨ ∃ cs e fz, w4.heap[q]? = some (.cells cs e fz) ∧ e ≠ 56 ∧ e ≠ 60 := fun q hq => by
      rw [List.mem_singleton.1 hq]; exact .inr (.inr ⟨_, _, _, hn4.at_, by decide, by decide⟩)
    have hbS' : ∀ q ∈ [b], q < w.heap.size ∨ w4.heap.size ≤ q ∨ ∃ cs e fz, w4.heap[q]? = some (.cells cs e fz) ∧ e ≠ 58 ∧ e ≠ 60 := fun q hq => by
      rw [List.mem_singleton.1 hq]; exact .inr (.inr ⟨_, _, _, hn4.at_, by decide, by decide⟩)
    have hR5 := hR4.keep hu5.fr hbS
    have hN5 := hN4.keep hu5.fr hbS'
    have ho4 := (ho2.keep (hf3.trans hn4.fr) (by simp))
    have ho4' := ho3.keep hn4.fr (by simp)
    have hob : b ∉ qab ov := ho4.nb hn4.at_ (by decide)
    have htb : b ∉ qab tv := ho4'.nb hn4.at_ (by decide)
    have ho5 := ho4.keep' hu5.fr fun q hq c => hob (by rw [← List.mem_singleton.1 c]; exact hq)
    have ho5' := ho4'.keep' hu5.fr fun q hq c => htb (by rw [← List.mem_singleton.1 c]; exact hq)
    have hscr : Scr w b rv nv vs fs ov tv w5 := by
      refine ⟨(f3.trans hn4.fr).then hu5.fr fun q hq => .inr (by rw [List.mem_singleton.1 hq]; omega), by omega, hu5.at_, hN5.has, hR5.has, fun f hf => ?_, fun f hf => ?_, ho5.shp fun q hq => by have := hn2.blk q hq; have := hf1.size; omega, ho5'.shp fun q hq => by have := hn3.blk q hq; have := (hf1.trans hf2).size; omega⟩
      · obtain ⟨j, hj, rfl⟩ := List.getElem_of_mem hf
        obtain ⟨a1, a2⟩ := hN5.row j (by rw [← hN5.len]; exact hj) hj
        exact a1.shp a2
      · obtain ⟨j, hj, rfl⟩ := List.getElem_of_mem hf
        obtain ⟨a1, a2⟩ := hR5.row j (by rw [← hR5.len]; exact hj) hj
        exact a1.shp a2
    refine qp8 (fun w6 h6 => ?_) fs.length 0 w5 (by omega) hscr
    have hf6 := hf.trans h6.fr
    have m1 := h1.keep0 h6.fr
    have m2 := h2.keep0 h6.fr
    refine F4.k35.to (C.a4 (fun w' => Fr [] W w') fun w7 hf7 _ => ⟨hf6.trans hf7, ?_⟩)
    have f7 := hf6.trans hf7
    have m1 := m1.keep0 hf7
    have m2 := m2.keep0 hf7
    refine C.bx (S := fun w' => Fr [] W w') (fun w' hw => hu.keep hw) f7 (by omega) (by rw [Int.toNat_natCast]; exact qj8 hlt) fun ga oa hl1 hs1' => ?_
    refine C.bx (S := fun w' => Fr [] W w') (fun w' hw => hu.keep hw) f7 (by omega) (by rw [Int.toNat_natCast]; exact qj8 hlt) fun gb ob hl2 hs2' => ?_
    refine C.b7 hl1 (by omega) hs1' (C.b7 hl2 (by omega) hs2' ?_)
    have hst : Value.agg [Value.int .i64 l[i].kd, .int .i64 l[i].t, .int .i64 l[i].i, .int .i64 l[i].f, .int .i64 l[i].j, .int .i64 l[i].cost, .int .i64 l[i].n].toArray = stV l[i] := rfl
    refine ⟨qlo (s := l[i]) m1 (by omega) fun g1 w8 hT8 m8 => ⟨hs1.fr f7 hT8, ?_, trivial⟩, trivial⟩
    have f8 := hs1.fr f7 hT8
    obtain ⟨t8, m8'⟩ := ht.step m1 m2 hT8
    refine qlo (s := l[i]) m8' (by omega) fun g2 w9 hT9 m9 => ⟨hs2.fr f8 hT9, ?_⟩
    have f9 := hs2.fr f8 hT9
    obtain ⟨t9, m9'⟩ := t8.symm.step m8' m8 hT9
    refine ⟨_, fun w' _ => qz2 _ _ _ _, ?_⟩
    rw [show (!([(y.step cf l[i]).2.code, (y.step cf l[i]).2.kd, (y.step cf l[i]).2.n, (y.step cf l[i]).2.done, (y.step cf l[i]).2.credit] == [(y.step cf l[i]).2.code, (y.step cf l[i]).2.kd, (y.step cf l[i]).2.n, (y.step cf l[i]).2.done, (y.step cf l[i]).2.credit])) = false by simp]
    simp only [C.ac]
    refine F4.k10.to ?_
    simp only [C.a6]
    rw [qaa (n := (i : Int) + 1) (by omega)]
    have e1 : 64 * (i : Int) + 64 = 64 * ((i + 1 : Nat) : Int) := by omega
    rw [e1] at m9 m9'
    refine ih (i + 1) w9 g1 g2 (y.step cf l[i]).1 (by omega) f9 m9' m9 ((hs1.step hT8 f7.size)) (hs2.step hT9 f8.size) t9.symm ?_
    exact VI.step cf hJ l[i]
end
section
variable {K : VK} {w : World} {cf : Cf}
theorem qsv {u : Value} {l : List Stp} (hT : TzB w) (hz : 0 < w.heap.size) (hu : RdS w u 7 (stC l)) (hk : ∀ w', Fr [] w w' → K (.bool true) w') : C.q Tryz.prog 4 #[.agg (cfV cf).toArray, u] w K := by
  refine F4.sh (C.av fun b w1 hn1 => qui (hT.keep hn1.fr (by simp)) (Nat.lt_of_lt_of_le hz hn1.fr.size) fun w2 hf2 => ?_)
  have f2 := hn1.fr.trans hf2
  have hb2 := hf2.at_ hn1.at_ (by simp)
  simp only [C.ac, C.aq, Bool.not_true]
  refine F4.k3.to (C.ax hb2 rfl ?_)
  have T2 := hT.keep f2 (by simp)
  have z2 := Nat.lt_of_lt_of_le hz f2.size
  refine qhn T2 z2 (fun L w3 hf3 => ?_) fun L A g w3 hf3 hg3 hn3 hm3 => ?_
  · have f3 := f2.trans hf3
    simp only [C.be, C.a7, C.a8]
    refine C.ax (hf3.at_ hb2 (by simp)) rfl (qhn (hT.keep f3 (by simp)) (Nat.lt_of_lt_of_le hz f3.size) (fun _ w4 hf4 => ?_) fun L' => absurd L' L)
    simp only [C.ah, C.aw, C.a7, C.a8, C.ba, decide_true, ne_eq, show ¬ ((6 : Int) = 0) by decide, not_false_eq_true]
    refine C.ax (hf4.at_ (hf3.at_ hb2 (by simp)) (by simp)) rfl (qkd (fun L' => absurd L' L) fun _ w5 hf5 => ?_)
    simp only [C.be, decide_true, ne_eq, show ¬ ((6 : Int) = 0) by decide, not_false_eq_true]
    exact hk w5 ((f3.trans hf4).trans hf5)
  · have f3 := f2.trans hf3
    simp only [C.be, C.a7, C.a8]
    refine C.ax (hf3.at_ hb2 (by simp)) rfl (qhn (hT.keep f3 (by simp)) (Nat.lt_of_lt_of_le hz f3.size) (fun L' => absurd L L') fun _ A' g' w4 hf4 hg4 hn4 hm4 => ?_)
    simp only [C.ac, C.ar, C.be, C.a7, C.a8, C.al, eq_self, decide_false, ne_eq, not_true_eq_false]
    have f4 := f3.trans hf4
    refine F4.k7.to (qyj hu f4 fun u' hu' => ?_)
    have hs3 : qb9 w A cf.threads.toNat g := qb9.of hm3 fun y hy => (hn3 y hy).imp id fun h => Nat.le_trans f2.size h
    have hs4 : qb9 w A' cf.threads.toNat g' := qb9.of hm4 fun y hy => (hn4 y hy).imp id fun h => Nat.le_trans f3.size h
    have ht : Two A g A' g' cf.threads.toNat := by
      refine ⟨fun y hy c => ?_, fun y hy c => ?_⟩
      · rcases Mad.all_cases c with rfl | c
        · exact hm3.s0 hy
        · have := hm3.ltA y (Mad.subS hy)
          rcases hn4 y (Mad.subS c) with rfl | d
          · exact hm4.s0 c
          · omega
      · rcases Mad.all_cases c with rfl | c
        · exact hm4.s0 hy
        · have := hm3.ltA y (Mad.subS c)
          rcases hn4 y (Mad.subS hy) with rfl | d
          · exact hm4.s0 hy
          · omega
    exact qsm (W := w) (l := l.take 70) (by rw [List.length_take]; omega) hu' hk (l.take 70).length 0 w4 g g' (Ma.new cf) (by omega) f4 (hm3.keep0 hf4) hm4 hs3 hs4 ht (VI.new cf)
end
end Go.Proofs.YtcakfaakbpdklaaGreatDoorV
namespace Go.Proofs.YtcakfaakbpdklaaGreatDoorV
open Go Go.Proofs Go.RowKit Go.ChangeShapes Go.WideShapes Go.ChangeAt
set_option linter.unusedVariables false
set_option linter.unusedSimpArgs false
theorem qtl {M : Checked} {os : Os} {f : FuncId} {fn : Func} {s : ChangeSpec} {H : Type} {enc : TypeId × Value → H} {LD : List (String × DataW Unit)}
    (own : ownKnob M.prog.godebug = none) (started : os.Started) (noInit : M.prog.inits.idxOf? f = none) (hfn : M.prog.funcs[f]? = some fn)
    (witness : ∃ (w : World) (tape : Tape) (i : Input), w.os = os ∧ (w.forCall tape i).Shaped M.prog ∧ i.vars = [] ∧ Input.okWide M.prog (w.forCall tape i) .any w.heap.size f i ∧
      ((s.pre enc M.prog fn [] false (w.forCall tape i).memory i.args ∧ laidMetH M.prog LD (w.forCall tape i).memory) ∧ sizedMet enc M.prog fn (OpenSpec.ofChange s) false (w.forCall tape i).memory i.args) ∧ ({} : Assume).holds M.prog (lone (Frame.enter M.prog f i.args .normal) [] (w.forCall tape i)))
    (hvars : s.vars = []) (hpv : s.plain.varTypes M.prog = []) (hlaid : laidOutB M.prog = true) (hread : (fn.params.toList.all fun t => M.prog.readableRec t && Nat.blt t M.prog.types.size) = true)
    {tb : TypeId} (hres : fn.resultTypes = #[tb]) (hub : M.prog.underlying tb = some .bool) (hspec : ∀ ds : List (DataW H), ds.length = fn.params.toList.length → s.fn H ds = { results := [.lit (.bool true)], args := ds })
    (contract : ∀ (W : World) (args : Array Value) (ds : List (DataW H)) (ps : List MemPlace), qwb enc M.prog fn W args ds ps → laidMetH M.prog LD W → C.q M.prog f args W fun v W' => v = .bool true ∧ Fr [] W W') :
    ReturnsInHanded {} M os f .any (fun w args => (s.pre enc M.prog fn [] false w args ∧ laidMetH M.prog LD w) ∧ sizedMet enc M.prog fn (OpenSpec.ofChange s) false w args) (s.post enc M.prog fn false true false false) := by
  refine returnsInHanded_of_change_and (X := fun w _ => laidMetH M.prog LD w) (fun _ _ _ hh h => h.of_heap hh) own started noInit hfn witness ?_
  intro W base args ds gs before hval hW hcnd hsz hL _
  have hW' := hW
  obtain ⟨p, q, hA, hV, rfl, hfz, hnd⟩ := hW
  rw [hvars] at hV
  obtain ⟨rfl, rfl⟩ := trodVars_none hV
  simp only [List.append_nil] at *
  have hlt : ∀ x ∈ p, x.block < W.heap.size := fun x hx => hW'.lt x hx
  rw [hpv, List.append_nil] at hsz
  refine Calls.mono (contract W args ds p ⟨hA, ⟨base, hval⟩, hsz, hlt⟩ hL) ?_
  rintro e W' ⟨v, rfl, rfl, hf⟩
  refine ⟨_, rfl, ds, [], p, [], p, [], hW', ?_, ?_, ?_, hf.below.frame _, fun h => by cases h⟩
  · rw [List.append_nil, hspec ds (qee _ _ _ _ hA).2, hres]
    exact trodAll_mk1 (shut_bool hub _)
  · rw [List.append_nil, hspec ds (qee _ _ _ _ hA).2]
    refine qgx hlaid hf.below _ _ _ _ (fun t ht => ?_) hA hlt
    have := List.all_eq_true.1 hread t ht
    simp only [Bool.and_eq_true] at this
    exact ⟨this.1, by simpa [Nat.blt_eq] using this.2⟩
  · rw [List.append_nil, hspec ds (qee _ _ _ _ hA).2, hvars]
    rfl
abbrev LD : List (String × DataW Unit) := [("math/bits.deBruijn64tab", Go.Proofs.YtcakfaakbpdklaaGreatDoor.Rows.laid_math_bits_deBruijn64tab)]
theorem qzh : Tryz.prog.globalNamed "math/bits.deBruijn64tab" = some 0 := by kernel_rfl
theorem qz5 : (Tryz.prog.globals[0]?).map (·.type) = some 334 := by kernel_rfl
theorem qtb (os : Os) (args : Array Value) : laidMetH Tryz.prog LD ((World.doorLaid Tryz.prog 400 os).forCall (fun _ _ => 0) ⟨#[], args, []⟩).memory :=
  laidMetH_of_parts3 (fuel := 8) (laidMet_of_run' 8 (by kernel_rfl) (by kernel_rfl)) (by kernel_rfl) (by kernel_rfl)
theorem qyc : ∀ (n : Nat) (L : List Nat) (xs : List (DataW Unit × List MemPlace)) (l : List Value) (sp : Nat → Bool) (hd : Bool) (m : Nat) (W : World), xs.map (·.1) = L.map (fun k : Nat => DataW.lit (.int .u8 (k : Int))) → (∀ i, i < L.length → DataW.trod (fun _ : TypeId × Value => ()) Tryz.prog W n sp hd m 5 ((l.drop (i * 1)).take 1) = xs[i]?) → ∀ j, j < L.length → l[j]? = some (.int .u8 (L.getD j 0 : Nat)) := by
  intro n L xs l sp hd m W hm hel j hj
  have hlen : xs.length = L.length := by have := congrArg List.length hm; simpa using this
  have h0 := hel j hj
  rw [List.getElem?_eq_getElem (by omega)] at h0
  obtain ⟨k, e1, e2, _⟩ := DataW.trod_int Tryz.underlying5 h0
  have e3 : (xs.map (·.1))[j]? = (L.map fun k : Nat => DataW.lit (.int .u8 (k : Int)))[j]? := by rw [hm]
  rw [List.getElem?_map, List.getElem?_map, List.getElem?_eq_getElem (by omega), List.getElem?_eq_getElem hj] at e3
  simp only [Option.map_some, Option.some.injEq] at e3
  rw [e2] at e3
  have hk : k = (L[j] : Nat) := by simpa using e3
  rw [Nat.mul_one] at e1
  have e4 : (l.drop j)[0]? = some (.int .u8 k) := by
    have : ((l.drop j).take 1)[0]? = some (.int .u8 k) := by rw [e1]; rfl
    rwa [List.getElem?_take_of_lt (by decide)] at this
  rw [List.getElem?_drop, Nat.add_zero] at e4
  have hg : L.getD j 0 = L[j] := by simp [List.getD_eq_getElem?_getD, List.getElem?_eq_getElem hj]
  rw [e4, hk, hg]
theorem qv1 {W : World} (h : laidMetH Tryz.prog LD W) : TzB W ∧ 0 < W.heap.size := by
  rw [MakeChecks.laidMetH_plain _ _ _ (by kernel_rfl)] at h
  obtain ⟨ps, ⟨g0, t0, cs0, f0, p0, q0, hg0, ht0, hv0, hd0, _, _⟩, _, _⟩ := h
  obtain rfl := Option.some.inj (qzh.symm.trans hg0)
  obtain rfl := Option.some.inj (qz5.symm.trans ht0)
  obtain ⟨xs, m, rfl, hx, hl, hn, hel⟩ := DataW.trod_array Tryz.underlying334 hd0
  simp only [Prod.mk.injEq] at hx
  have c5 : Tryz.prog.cellsOf 5 = 1 := by kernel_rfl
  rw [c5] at hel
  have hcell : ∀ j, j < 64 → W.cell? ⟨0, j, none⟩ = some (.int .u8 (Lib.deBruijn64tab.getD j 0 : Nat)) := fun j hj => by
    have hj' : j < Lib.deBruijn64tab.length := hj
    rw [World.var?_cell hg0 hv0 j]
    have hx1 : xs.map (·.1) = Lib.deBruijn64tab.map (fun k : Nat => DataW.lit (.int .u8 (k : Int))) := by
      have h1 := hx.1
      have h2 : (Go.Proofs.YtcakfaakbpdklaaGreatDoor.Rows.laid_math_bits_deBruijn64tab : DataW Unit) = .agg (Lib.deBruijn64tab.map fun k : Nat => DataW.lit (.int .u8 (k : Int))) := by kernel_rfl
      rw [h2] at h1
      simpa using h1.symm
    have := qyc _ Lib.deBruijn64tab xs cs0.toList _ _ m W hx1 (fun i hi => hel i hi) j hj'
    simpa using this
  have h0 := hcell 0 (by decide)
  cases hb : W.heap[0]? with
  | none => simp [World.cell?, hb] at h0
  | some o =>
    cases o with
    | cells cs e fz =>
      refine ⟨⟨cs, e, fz, hb, fun j hj => ?_⟩, (Array.getElem?_eq_some_iff.1 hb).1⟩
      have := hcell j hj
      simpa [World.cell?, hb] using this
    | _ => simp [World.cell?, hb] at h0
end Go.Proofs.YtcakfaakbpdklaaGreatDoorV
namespace Go.Proofs.YtcakfaakbpdklaaGreatDoorV
open Go Go.Proofs Go.RowKit
set_option linter.unusedVariables false
set_option linter.unusedSimpArgs false
theorem qbc {k : IntKind} {ks : List CK} {x : List Value} (h : qa9 (.int k :: ks) x) : ∃ n y, x = .int k n :: y ∧ qa9 ks y := by
  cases x with
  | nil => exact h.elim
  | cons a y =>
    obtain ⟨⟨n, ha, _⟩, hy⟩ := h
    exact ⟨n, y, by rw [ha], hy⟩
theorem qrm {x : List Value} (h : qa9 [] x) : x = [] := by
  cases x with
  | nil => rfl
  | cons a y => exact h.elim
theorem qy0 {x : List Value} (h : qa9 [.int .i64, .int .i64, .int .i64, .int .i64, .int .i64, .int .i64, .int .i64, .int .i64, .int .i64, .int .i64] x) : ∃ cf : Cf, x = cfV cf := by
  obtain ⟨a, x1, e1, h1⟩ := qbc h
  obtain ⟨b, x2, e2, h2⟩ := qbc h1
  obtain ⟨c, x3, e3, h3⟩ := qbc h2
  obtain ⟨d, x4, e4, h4⟩ := qbc h3
  obtain ⟨e, x5, e5, h5⟩ := qbc h4
  obtain ⟨f, x6, e6, h6⟩ := qbc h5
  obtain ⟨g, x7, e7, h7⟩ := qbc h6
  obtain ⟨i, x8, e8, h8⟩ := qbc h7
  obtain ⟨j, x9, e9, h9⟩ := qbc h8
  obtain ⟨k, x10, e10, h10⟩ := qbc h9
  have e0 := qrm h10
  rw [e1, e2, e3, e4, e5, e6, e7, e8, e9, e10, e0]
  exact ⟨⟨a, b, c, d, e, f, g, i, j, k⟩, rfl⟩
theorem qy1 {x : List Value} (h : qa9 [.int .i64, .int .i64, .int .i64, .int .i64, .int .i64, .int .i64, .int .i64] x) : ∃ s : Stp, [x] = stC [s] := by
  obtain ⟨a, x1, e1, h1⟩ := qbc h
  obtain ⟨b, x2, e2, h2⟩ := qbc h1
  obtain ⟨c, x3, e3, h3⟩ := qbc h2
  obtain ⟨d, x4, e4, h4⟩ := qbc h3
  obtain ⟨e, x5, e5, h5⟩ := qbc h4
  obtain ⟨f, x6, e6, h6⟩ := qbc h5
  obtain ⟨g, x7, e7, h7⟩ := qbc h6
  have e0 := qrm h7
  rw [e1, e2, e3, e4, e5, e6, e7, e0]
  exact ⟨⟨a, b, c, d, e, f, g⟩, rfl⟩
theorem qr0 : ∀ (xs : List (List Value)), (∀ x ∈ xs, qa9 [.int .i64, .int .i64, .int .i64, .int .i64, .int .i64, .int .i64, .int .i64] x) → ∃ l, xs = stC l
  | [], _ => ⟨[], rfl⟩
  | x :: xs, h => by
    obtain ⟨l, hl⟩ := qr0 xs fun y hy => h y (by simp [hy])
    obtain ⟨s, hs⟩ := qy1 (h x (by simp))
    refine ⟨s :: l, ?_⟩
    have e1 : stC (s :: l) = stC [s] ++ stC l := by simp [stC]
    rw [e1, ← hs, hl]; rfl
end Go.Proofs.YtcakfaakbpdklaaGreatDoorV
