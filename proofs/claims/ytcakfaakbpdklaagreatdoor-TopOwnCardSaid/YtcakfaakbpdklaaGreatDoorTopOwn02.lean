/- Part 2 of what the law needs: own lemmas, in the order in which they build. -/
import Derived.Carry
import Derived.ChangeOld
import Derived.SizedLaws
import Derived.Deep.Slices
import Derived.OpenShut
import Derived.ProofKit
import Derived.Maps.AppendAt
import Derived.Laws.OwnMore
import Derived.Laws.CopyRow
import Derived.Laws.IdiomCopy
import Derived.Shelf.SortM.Plain
import Derived.Sort.OwnSortedInts
import Derived.Shelf.SlSortCmp.NoneTotal
import Derived.Maps.RangeRun
import Derived.Laws.StructEq
import Derived.Test.YtcakfaakbpdklaaGreatDoorProg
import Derived.Test.YtcakfaakbpdklaaGreatDoorTopOwn01
namespace Go.Proofs.YtcakfaakbpdklaaGreatDoorV
open Go Go.RowKit
structure Fr (S : List Nat) (w w' : World) : Prop where
  os : w'.os = w.os
  tape : w'.tape = w.tape
  output : w'.output = w.output
  size : w.heap.size ≤ w'.heap.size
  eq : ∀ b, b < w.heap.size → b ∉ S → w'.heap[b]? = w.heap[b]?
theorem Fr.refl (S : List Nat) (w : World) : Fr S w w := ⟨rfl, rfl, rfl, Nat.le_refl _, fun _ _ _ => rfl⟩
theorem Fr.trans {S : List Nat} {a b c : World} (h : Fr S a b) (k : Fr S b c) : Fr S a c :=
  ⟨k.os.trans h.os, k.tape.trans h.tape, k.output.trans h.output, Nat.le_trans h.size k.size, fun i hi hs => (k.eq i (Nat.lt_of_lt_of_le hi h.size) hs).trans (h.eq i hi hs)⟩
theorem Fr.then {S T : List Nat} {a b c : World} (h : Fr S a b) (k : Fr T b c) (hT : ∀ x, x ∈ T → x ∈ S ∨ a.heap.size ≤ x) : Fr S a c :=
  ⟨k.os.trans h.os, k.tape.trans h.tape, k.output.trans h.output, Nat.le_trans h.size k.size, fun i hi hs =>
    (k.eq i (Nat.lt_of_lt_of_le hi h.size) (fun hx => (hT i hx).elim hs (fun hle => by omega))).trans (h.eq i hi hs)⟩
theorem Fr.mono {S T : List Nat} {a b : World} (h : Fr S a b) (hs : ∀ x, x ∈ S → x ∈ T) : Fr T a b := ⟨h.os, h.tape, h.output, h.size, fun i hi ht => h.eq i hi fun hx => ht (hs i hx)⟩
theorem Fr.w {S : List Nat} {a b : World} (h : Fr [] a b) : Fr S a b := h.mono (by simp)
theorem Fr.below {a b : World} (h : Fr [] a b) : Below a.heap.size a b := ⟨h.os, h.tape, h.output, h.size, fun i hi => h.eq i hi (by simp)⟩
theorem Fr.of_below {a b : World} (h : Below a.heap.size a b) : Fr [] a b := ⟨h.os, h.tape, h.output, h.size, fun i hi _ => h.block i hi⟩
theorem Fr.at_ {S : List Nat} {w w' : World} (h : Fr S w w') {b : Nat} {o : Obj} (hb : w.heap[b]? = some o) (hs : b ∉ S) : w'.heap[b]? = some o :=
  (h.eq b (Array.getElem?_eq_some_iff.1 hb).1 hs).trans hb
theorem qac {w : World} {b : Nat} {o : Obj} (hb : w.heap[b]? = some o) : b < w.heap.size := (Array.getElem?_eq_some_iff.1 hb).1
structure New (w : World) (g : Nat) (o : Obj) (w' : World) : Prop where
  is : g = w.heap.size
  fr : Fr [] w w'
  at_ : w'.heap[g]? = some o
  sz : w'.heap.size = w.heap.size + 1
theorem New.mk' (w : World) (o : Obj) : New w w.heap.size o (w.alloc o) where
  is := rfl
  fr := .of_below ((Below.refl _ w).alloc (Nat.le_refl _) o)
  at_ := by show (w.heap.push o)[w.heap.size]? = _; simp
  sz := by simp
theorem New.ne {w w' : World} {g b : Nat} {o : Obj} (h : New w g o w') (hb : b < w.heap.size) : b ≠ g := by have := h.is; omega
structure Upd (w : World) (g : Nat) (o : Obj) (w' : World) : Prop where
  fr : Fr [g] w w'
  at_ : w'.heap[g]? = some o
  sz : w'.heap.size = w.heap.size
theorem Fr.drew (w : World) : Fr [] w { w with drawn := w.drawn + 1 } := ⟨rfl, rfl, rfl, Nat.le_refl _, fun _ _ _ => rfl⟩
theorem add_mk (g o n : Nat) : (⟨g, o, none⟩ : Addr).add n = ⟨g, o + n, none⟩ := by unfold Addr.add; split <;> simp_all
theorem qcw {w : World} {g o : Nat} {cs : Array Value} {e : TypeId} {fz : Nat × Nat} (h : w.heap[g]? = some (.cells cs e fz)) : w.cell? ⟨g, o, none⟩ = cs[o]? := by simp [World.cell?, h]
theorem qkl {w : World} {g o : Nat} {cs : Array Value} {e : TypeId} (h : w.heap[g]? = some (.cells cs e (0, 0))) : w.frozen? ⟨g, o, none⟩ = false := by simp [World.frozen?, h]
theorem qgm {w : World} {g : Nat} {cs : Array Value} {e : TypeId} {fz : Nat × Nat} (h : w.heap[g]? = some (.cells cs e fz)) : ∀ (n o i : Nat), o + i + n ≤ cs.size → qdf w ⟨g, o, none⟩ i n = some ((cs.toList.drop (o + i)).take n)
  | 0, o, i, hn => by simp [qdf]
  | n + 1, o, i, hn => by
    have ih := qgm h n o (i + 1) (by omega)
    have hlt : o + i < cs.size := by omega
    simp only [qdf, add_mk, qcw h, ih, Array.getElem?_eq_getElem hlt]
    have hd : cs.toList.drop (o + i) = cs[o + i] :: cs.toList.drop (o + (i + 1)) := by
      rw [show o + (i + 1) = o + i + 1 by omega]
      have := List.drop_eq_getElem_cons (l := cs.toList) (i := o + i) (by simpa using hlt)
      simpa using this
    rw [hd]
    simp
def qaw (cs : List Value) (o : Nat) (vs : List Value) : List Value := cs.take o ++ vs ++ cs.drop (o + vs.length)
theorem qie {w : World} {g o : Nat} {cs : Array Value} {e : TypeId} {fz : Nat × Nat} (h : w.heap[g]? = some (.cells cs e fz)) (v : Value) :
    Upd w g (.cells (cs.setIfInBounds o v) e fz) (w.setCell ⟨g, o, none⟩ v) := by
  refine ⟨⟨rfl, rfl, rfl, by simp [World.setCell], fun b _ hb => ?_⟩, ?_, by simp [World.setCell]⟩
  · simp only [List.mem_singleton] at hb
    exact Below.heap_setCell w ⟨g, o, none⟩ v b hb
  · simp [World.setCell, Array.getElem?_modify, h]
theorem Upd.trans {w w1 w2 : World} {g : Nat} {o1 o2 : Obj} (h : Upd w g o1 w1) (k : Upd w1 g o2 w2) : Upd w g o2 w2 :=
  ⟨h.fr.trans k.fr, k.at_, k.sz.trans h.sz⟩
section
variable {P : Program} {w : World} {K : VK}
theorem C.av {o : Obj} (h : ∀ g w', New w g o w' → K (.pointer (some ⟨g, 0, none⟩)) w') : C.a3 o w K := h _ _ (New.mk' w o)
theorem C.ae {g o : Nat} {cs : Array Value} {e : TypeId} {fz : Nat × Nat} {v : Value} (hb : w.heap[g]? = some (.cells cs e fz)) (hv : cs[o]? = some v) (h : K v w) : C.ai (.pointer (some ⟨g, o, none⟩)) w K :=
  ⟨_, v, rfl, by rw [qcw hb]; exact hv, h⟩
theorem C.br {n g o : Nat} {cs : Array Value} {e : TypeId} {fz : Nat × Nat} {vs : List Value} (hb : w.heap[g]? = some (.cells cs e fz)) (hn : o + n ≤ cs.size) (hv : (cs.toList.drop o).take n = vs) (h : K (.agg vs.toArray) w) : C.ao n (.pointer (some ⟨g, o, none⟩)) w K :=
  ⟨_, vs, rfl, by rw [qgm hb n o 0 (by omega)]; simpa using hv, h⟩
theorem C.ax {n g : Nat} {cs : Array Value} {e : TypeId} {fz : Nat × Nat} (hb : w.heap[g]? = some (.cells cs e fz)) (hn : cs.size = n) (h : K (.agg cs) w) : C.ao n (.pointer (some ⟨g, 0, none⟩)) w K :=
  C.br hb (by omega) (vs := cs.toList) (by subst hn; rw [List.drop_zero, ← Array.length_toList, List.take_length]) (by simpa using h)
theorem C.an {S : World → Prop} {g o : Nat} {v : Value} (hS : ∀ w', S w' → ∃ cs e fz, w'.heap[g]? = some (.cells cs e fz) ∧ cs[o]? = some v) (h : K v w) : C.ap S (.pointer (some ⟨g, o, none⟩)) w K :=
  ⟨_, v, rfl, fun w' hw => by obtain ⟨cs, e, fz, hb, hv⟩ := hS w' hw; rw [qcw hb]; exact hv, h⟩
theorem C.bn {S : World → Prop} {n g o : Nat} {vs : List Value} (hS : ∀ w', S w' → ∃ cs e fz, w'.heap[g]? = some (.cells cs e fz) ∧ o + n ≤ cs.size ∧ (cs.toList.drop o).take n = vs) (h : K (.agg vs.toArray) w) : C.bm S n (.pointer (some ⟨g, o, none⟩)) w K :=
  ⟨_, vs, rfl, fun w' hw => by obtain ⟨cs, e, fz, hb, hn, hv⟩ := hS w' hw; rw [qgm hb n o 0 (by omega)]; simpa using hv, h⟩
theorem qjn {g : Nat} {e : TypeId} {K : World → Prop} : ∀ (vs : List Value) (o i : Nat) (cs : Array Value) (w : World), w.heap[g]? = some (.cells cs e (0, 0)) → (∀ v ∈ vs, v.oneCell' = true) → o + i + vs.length ≤ cs.size →
    (∀ w', Upd w g (.cells (qaw cs.toList (o + i) vs).toArray e (0, 0)) w' → K w') → qh4 vs i ⟨g, o, none⟩ w K
  | [], o, i, cs, w, hb, _, _, h => by
    refine h w ⟨Fr.refl _ _, ?_, rfl⟩
    simp only [qaw, List.append_nil, List.length_nil, Nat.add_zero, List.take_append_drop]
    exact hb
  | v :: vs, o, i, cs, w, hb, hv, hn, h => by
    simp only [List.length_cons] at hn
    have hlt : o + i < cs.size := by omega
    refine ⟨hv v (by simp), ⟨cs[o + i], ?_⟩, ?_, ?_⟩
    · rw [add_mk, qcw hb, Array.getElem?_eq_getElem hlt]
    · rw [add_mk]; exact qkl hb
    · rw [add_mk]
      have hu := qie (o := o + i) hb v
      refine qjn vs o (i + 1) _ _ hu.at_ (fun u hu => hv u (by simp [hu])) (by simp; omega) fun w' hw => h w' ?_
      have := hu.trans hw
      have he : qaw (cs.setIfInBounds (o + i) v).toList (o + (i + 1)) vs = qaw cs.toList (o + i) (v :: vs) := by
        simp only [qaw, Array.toList_setIfInBounds, List.length_cons]
        rw [show o + (i + 1) = o + i + 1 by omega, List.take_set, List.drop_set, if_pos (by omega), List.take_add_one]
        rw [List.getElem?_eq_getElem (by simpa using hlt)]
        simp only [Option.toList_some]
        rw [List.set_append]
        simp only [List.length_take, Array.length_toList]
        rw [if_neg (by omega)]
        have : o + i - min (o + i) cs.size = 0 := by omega
        rw [this]
        simp [Nat.add_assoc, Nat.add_comm 1]
      rw [he] at this
      exact this
theorem C.b8 {n g o : Nat} {e : TypeId} {cs : Array Value} {x : Value} {K : World → Prop} (hb : w.heap[g]? = some (.cells cs e (0, 0))) (hx : x.cells.size = n) (h1 : ∀ v ∈ x.cells.toList, v.oneCell' = true) (hn : o + n ≤ cs.size)
    (h : ∀ w', Upd w g (.cells (qaw cs.toList o x.cells.toList).toArray e (0, 0)) w' → K w') : C.ak n (.pointer (some ⟨g, o, none⟩)) x w K :=
  ⟨_, rfl, hx, qjn _ o 0 cs w hb h1 (by simp; omega) (by simpa using h)⟩
theorem C.bb {g o : Nat} {e : TypeId} {cs : Array Value} {x : Value} {K : World → Prop} (hb : w.heap[g]? = some (.cells cs e (0, 0))) (hx : x.cells = #[x]) (h1 : x.oneCell' = true) (hn : o < cs.size)
    (h : ∀ w', Upd w g (.cells (cs.setIfInBounds o x) e (0, 0)) w' → K w') : C.ak 1 (.pointer (some ⟨g, o, none⟩)) x w K := by
  refine ⟨_, rfl, by simp [hx], ?_⟩
  rw [hx]
  refine ⟨h1, ⟨cs[o], by rw [add_mk, Nat.add_zero, qcw hb, Array.getElem?_eq_getElem hn]⟩, by rw [add_mk]; exact qkl hb, ?_⟩
  rw [add_mk, Nat.add_zero]
  exact h _ (qie hb x)
theorem C.a1 {n g : Nat} {e : TypeId} {cs : Array Value} {x : Value} {K : World → Prop} (hb : w.heap[g]? = some (.cells cs e (0, 0))) (hx : x.cells.size = n) (h1 : ∀ v ∈ x.cells.toList, v.oneCell' = true) (hn : cs.size = n)
    (h : ∀ w', Upd w g (.cells x.cells e (0, 0)) w' → K w') : C.ak n (.pointer (some ⟨g, 0, none⟩)) x w K := by
  refine C.b8 hb hx h1 (by omega) fun w' hw => h w' ?_
  have : (qaw cs.toList 0 x.cells.toList).toArray = x.cells := by
    simp only [qaw, List.take_zero, List.nil_append, Nat.zero_add]
    rw [List.drop_of_length_le (by simp; omega)]
    simp
  rwa [this] at hw
theorem C.a4 {F : (World → Prop) → World → Prop} (S : World → Prop) (h : ∀ w', Fr [] w w' → w'.heap = w.heap → S w' ∧ F S w') : C.a9 w F :=
  ⟨S, (h _ (Fr.drew w) rfl).1, (h _ (Fr.drew w) rfl).2⟩
theorem C.a5 {s : Sem Value} {v : Value} {w' : World} (h : s.run P w = .ok v w') (hk : K v w') : C.ay P s w K := ⟨v, w', h, hk⟩
end
section
variable {P : Program} {w : World} {K : VK}
theorem C.cn (b : Bool) (A B : Prop) : C.am (.bool b) A B ↔ (b = true → A) ∧ (b = false → B) := by
  constructor
  · rintro ⟨t, ht, h⟩; cases ht; exact h
  · intro h; exact ⟨b, rfl, h⟩
theorem C.ah (A B : Prop) : C.am (.bool true) A B ↔ A := by simp [C.cn]
theorem C.ac (A B : Prop) : C.am (.bool false) A B ↔ B := by simp [C.cn]
theorem C.aw (a b : Value) : C.a2 (some (.bool true)) (some a) (some b) w K ↔ K a w := by
  constructor
  · rintro ⟨t, ht, v, hv, h⟩; cases ht; cases hv; exact h
  · intro h; exact ⟨true, rfl, a, rfl, h⟩
theorem C.ar (a b : Value) : C.a2 (some (.bool false)) (some a) (some b) w K ↔ K b w := by
  constructor
  · rintro ⟨t, ht, v, hv, h⟩; cases ht; cases hv; exact h
  · intro h; exact ⟨false, rfl, b, rfl, h⟩
theorem C.aq (b : Bool) : C.bg (.bool b) w K ↔ K (.bool !b) w := by
  constructor
  · rintro ⟨t, ht, h⟩; cases ht; exact h
  · intro h; exact ⟨b, rfl, h⟩
theorem C.af (off g o : Nat) : C.ab off (.pointer (some ⟨g, o, none⟩)) w K ↔ K (.pointer (some ⟨g, o + off, none⟩)) w := by
  constructor
  · rintro ⟨a, ha, h⟩; cases ha; rwa [add_mk] at h
  · intro h; exact ⟨_, rfl, by rwa [add_mk]⟩
theorem C.ag (a : Addr) : C.ad (.pointer (some a)) w K ↔ K (.pointer (some a)) w := by simp [C.ad, qjc]
theorem C.b2 (op : BinOp) (k : IntKind) (a b : Int) : C.aj op (.int k a) (.int k b) w K ↔ ∃ v, qdd op k a b = some v ∧ K v w := by
  constructor
  · rintro ⟨k', a', b', v, h1, h2, h3, h⟩; cases h1; cases h2; exact ⟨v, h3, h⟩
  · rintro ⟨v, h3, h⟩; exact ⟨k, a, b, v, rfl, rfl, h3, h⟩
theorem C.a6 (k : IntKind) (a b : Int) : C.aj .add (.int k a) (.int k b) w K ↔ K (.int k (k.wrap (a + b))) w := by simp [C.b2, qdd]
theorem C.bo (k : IntKind) (a b : Int) : C.aj .sub (.int k a) (.int k b) w K ↔ K (.int k (k.wrap (a - b))) w := by simp [C.b2, qdd]
theorem C.bq (k : IntKind) (a b : Int) : C.aj .mul (.int k a) (.int k b) w K ↔ K (.int k (k.wrap (a * b))) w := by simp [C.b2, qdd]
theorem C.az (k : IntKind) (a b : Int) : C.aj .eql (.int k a) (.int k b) w K ↔ K (.bool (decide (a = b))) w := by
  have : (a == b) = decide (a = b) := by rw [Bool.eq_iff_iff]; simp
  simp [C.b2, qdd, this]
theorem C.be (k : IntKind) (a b : Int) : C.aj .neq (.int k a) (.int k b) w K ↔ K (.bool (decide (a ≠ b))) w := by
  have : (a != b) = decide (a ≠ b) := by rw [Bool.eq_iff_iff]; simp
  simp only [C.b2, qdd, this, Option.some.injEq, exists_eq_left']
theorem C.au (k : IntKind) (a b : Int) : C.aj .lss (.int k a) (.int k b) w K ↔ K (.bool (decide (a < b))) w := by simp [C.b2, qdd]
theorem C.ce (k : IntKind) (a b : Int) : C.aj .leq (.int k a) (.int k b) w K ↔ K (.bool (decide (a ≤ b))) w := by simp [C.b2, qdd]
theorem C.bl (k : IntKind) (a b : Int) : C.aj .gtr (.int k a) (.int k b) w K ↔ K (.bool (decide (a > b))) w := by simp [C.b2, qdd]
theorem C.bc (k : IntKind) (a b : Int) : C.aj .geq (.int k a) (.int k b) w K ↔ K (.bool (decide (a ≥ b))) w := by simp [C.b2, qdd]
theorem C.cl (k k' : IntKind) (a : Int) : C.cb k (.int k' a) w K ↔ K (.int k (k.wrap a)) w := by
  constructor
  · rintro ⟨k1, a1, h1, h⟩; cases h1; exact h
  · intro h; exact ⟨k', a, rfl, h⟩
theorem C.bs (g : Option Addr) (n c : Nat) : C.bk (.slice g n c) w K ↔ K (.int .i64 (n : Int)) w := by
  constructor
  · rintro ⟨g1, n1, c1, h1, h⟩; cases h1; exact h
  · intro h; exact ⟨g, n, c, rfl, h⟩
theorem C.cj (i : Nat) (vs : Array Value) : C.a0 i (.tuple vs) w K ↔ ∃ v, vs[i]? = some v ∧ K v w := by
  constructor
  · rintro ⟨vs', v, h1, h2, h⟩; cases h1; exact ⟨v, h2, h⟩
  · rintro ⟨v, h2, h⟩; exact ⟨vs, v, rfl, h2, h⟩
theorem C.a7 (a b : Value) : C.a0 0 (.tuple #[a, b]) w K ↔ K a w := by simp [C.cj]
theorem C.a8 (a b : Value) : C.a0 1 (.tuple #[a, b]) w K ↔ K b w := by simp [C.cj]
theorem C.b0 (a b c : Value) : C.a0 0 (.tuple #[a, b, c]) w K ↔ K a w := by simp [C.cj]
theorem C.b4 (a b c : Value) : C.a0 1 (.tuple #[a, b, c]) w K ↔ K b w := by simp [C.cj]
theorem C.b5 (a b c : Value) : C.a0 2 (.tuple #[a, b, c]) w K ↔ K c w := by simp [C.cj]
theorem C.b1 (n : Nat) (g o len cap : Nat) (k : IntKind) (j : Int) : C.bj n (.slice (some ⟨g, o, none⟩) len cap) (.int k j) w K ↔ (0 ≤ j ∧ j < (len : Int)) ∧ K (.pointer (some ⟨g, o + j.toNat * n, none⟩)) w := by
  constructor
  · rintro ⟨g1, l1, c1, k1, j1, h1, h2, h3, h4, h⟩; cases h1; cases h2; rw [Go.Proofs.YtcakfaakbpdklaaGreatDoorV.add_mk] at h; exact ⟨⟨h3, h4⟩, h⟩
  · rintro ⟨⟨h3, h4⟩, h⟩; exact ⟨_, _, _, _, _, rfl, rfl, h3, h4, by rwa [Go.Proofs.YtcakfaakbpdklaaGreatDoorV.add_mk]⟩
theorem C.al (want : Bool) (F : VK → Prop) : C.i want (.bool want) F w K ↔ F K := by simp [C.i, C.cm]
theorem C.bf (F : VK → Prop) : C.i true (.bool false) F w K ↔ K undef w := by simp [C.i, C.cm]
theorem C.ba (F : VK → Prop) : C.i false (.bool true) F w K ↔ K undef w := by simp [C.i, C.cm]
theorem C.cc (want : Bool) (F : VK → Prop) : C.i want undef F w K ↔ K undef w := by simp [C.i, C.cm, undef]
end
theorem qaa {n : Int} (h : -9223372036854775808 ≤ n ∧ n ≤ 9223372036854775807) : IntKind.i64.wrap n = n := by
  unfold IntKind.wrap IntKind.bits IntKind.signed
  simp
  omega
end Go.Proofs.YtcakfaakbpdklaaGreatDoorV
namespace Go.Proofs.YtcakfaakbpdklaaGreatDoorV
open Go
set_option linter.unusedVariables false
set_option linter.unusedSimpArgs false
section
variable {P : Program} {w : World} {t : TypeId}
theorem qhs {x y : Operand} {a b : Value} {r : Bool} (hg : (eqGuard .eql t x y a b).run P w = .ok () w) (hb : binOp .eql t a b = (do pure (.bool (← Op.equal t a b)))) (he : (Op.equalIn (9999 + 1) t a b).run P w = .ok r w) :
    (do eqGuard .eql t x y a b; binOp .eql t a b : Sem Value).run P w = .ok (.bool r) w := by
  have he' : (Op.equal t a b).run P w = .ok r w := he
  rw [hb]
  simp only [Sem.run_bind, hg, Result.andThen_ok, he', Sem.run_pure]
theorem qn2 {x y : Operand} {a b : Value} {r : Bool} (hg : (eqGuard .neq t x y a b).run P w = .ok () w) (hb : binOp .neq t a b = (do pure (.bool (!(← Op.equal t a b))))) (he : (Op.equalIn (9999 + 1) t a b).run P w = .ok r w) :
    (do eqGuard .neq t x y a b; binOp .neq t a b : Sem Value).run P w = .ok (.bool (!r)) w := by
  have he' : (Op.equal t a b).run P w = .ok r w := he
  rw [hb]
  simp only [Sem.run_bind, hg, Result.andThen_ok, he', Sem.run_pure]
theorem qgv (d : Nat) (a : Addr) {e : TypeId} (hu : P.underlying t = some (.pointer e)) : (Op.equalIn (d + 1) t (.pointer (some a)) (.pointer none)).run P w = .ok (false) w := by
  simp [Op.equalIn, underlying, hu]
theorem qam (x y : Operand) (a : Addr) {e : TypeId} (hu : P.underlying t = some (.pointer e)) : (do eqGuard .eql t x y (.pointer (some a)) (.pointer none); binOp .eql t (.pointer (some a)) (.pointer none) : Sem Value).run P w = .ok (.bool (false)) w :=
  qhs (by simp [eqGuard]) rfl (qgv 9999 a hu)
theorem qau (x y : Operand) (a : Addr) {e : TypeId} (hu : P.underlying t = some (.pointer e)) : (do eqGuard .neq t x y (.pointer (some a)) (.pointer none); binOp .neq t (.pointer (some a)) (.pointer none) : Sem Value).run P w = .ok (.bool (true)) w :=
  qn2 (by simp [eqGuard]) rfl (qgv 9999 a hu)
theorem qi6 (d : Nat) (a : Option Addr) (n c : Nat) {e : TypeId} (hu : P.underlying t = some (.slice e)) : (Op.equalIn (d + 1) t (.slice a n c) (.slice none 0 0)).run P w = .ok (a.isNone) w := by
  cases a <;> simp [Op.equalIn, underlying, hu]
theorem qe2 (x y : Operand) (a : Option Addr) (n c : Nat) {e : TypeId} (hu : P.underlying t = some (.slice e)) : (do eqGuard .eql t x y (.slice a n c) (.slice none 0 0); binOp .eql t (.slice a n c) (.slice none 0 0) : Sem Value).run P w = .ok (.bool (a.isNone)) w :=
  qhs (by simp [eqGuard]) rfl (qi6 9999 a n c hu)
theorem qmf (at_ : Array TypeId) (ty : TypeId) (k : IntKind) (a b : Int) : (Builtin.min_ at_ ty #[.int k a, .int k b]).run P w = .ok (.int k (min a b)) w := by
  have : (if b < a then b else a) = min a b := by omega
  simp [Builtin.min_, Builtin.min2, this]
theorem qip (at_ : Array TypeId) (ty : TypeId) (k : IntKind) (a b : Int) : (Builtin.max_ at_ ty #[.int k a, .int k b]).run P w = .ok (.int k (max a b)) w := by
  have : (if a < b then b else a) = max a b := by omega
  simp [Builtin.max_, Builtin.max2, this]
theorem qem (at_ : Array TypeId) (ty : TypeId) (c : Array Bool) (k : IntKind) (a b : Int) : (builtin .min at_ ty c #[.int k a, .int k b]).run P w = .ok (.value (.int k (min a b))) w := by
  simp only [builtin, Sem.run_bind, qmf]; rfl
theorem qhb (at_ : Array TypeId) (ty : TypeId) (c : Array Bool) (k : IntKind) (a b : Int) : (builtin .max at_ ty c #[.int k a, .int k b]).run P w = .ok (.value (.int k (max a b))) w := by
  simp only [builtin, Sem.run_bind, qip]; rfl
end
end Go.Proofs.YtcakfaakbpdklaaGreatDoorV
namespace Go.Proofs.YtcakfaakbpdklaaGreatDoorV
open Go Go.RowKit Go.ChangeShapes Go.WideShapes Go.ChangeAt
set_option linter.unusedVariables false
set_option linter.unusedSimpArgs false
def RdS (w : World) (v : Value) (sz : Nat) (xs : List (List Value)) : Prop :=
  ∃ A c, v = .slice A xs.length c ∧ xs.length ≤ c ∧ c ≤ maxLen ∧ (xs ≠ [] → ∃ g o cs e fz, A = some ⟨g, o, none⟩ ∧ w.heap[g]? = some (.cells cs e fz) ∧ ∀ i x, xs[i]? = some x → x.length = sz ∧ ∀ j, j < sz → cs[o + (i * sz + j)]? = x[j]?)
theorem RdS.keep {w w' : World} {v : Value} {sz : Nat} {xs : List (List Value)} (h : RdS w v sz xs) (hf : Fr [] w w') : RdS w' v sz xs := by
  obtain ⟨A, c, rfl, h1, h2, h3⟩ := h
  refine ⟨A, c, rfl, h1, h2, fun hx => ?_⟩
  obtain ⟨g, o, cs, e, fz, rfl, hg, hc⟩ := h3 hx
  exact ⟨g, o, cs, e, fz, rfl, hf.at_ hg (by simp), hc⟩
theorem RdS.len_c {P : Program} {K : VK} {w : World} {v : Value} {sz : Nat} {xs : List (List Value)} (h : RdS w v sz xs) : ∃ A c, v = .slice A xs.length c ∧ xs.length ≤ c := by
  obtain ⟨A, c, rfl, h1, _⟩ := h
  exact ⟨A, c, rfl, h1⟩
theorem RdS.le {w : World} {v : Value} {sz : Nat} {xs : List (List Value)} (h : RdS w v sz xs) : xs.length ≤ 9223372036854775807 := by
  obtain ⟨A, c, rfl, h1, h2, _⟩ := h
  unfold maxLen at h2
  omega
theorem C.bh {K : VK} {w w1 : World} {v : Value} {sz : Nat} {xs : List (List Value)} (h : RdS w1 v sz xs) (hk : K (.int .i64 (xs.length : Int)) w) : C.bk v w K := by
  obtain ⟨A, c, rfl, _⟩ := h
  simpa only [C.bs] using hk
theorem C.b6 {K : VK} {w : World} {v : Value} {sz : Nat} {xs : List (List Value)} {k : IntKind} {i : Int} (h : RdS w v sz xs) {x : List Value} (h0 : 0 ≤ i) (hx : xs[i.toNat]? = some x)
    (hk : ∀ g o cs e fz, w.heap[g]? = some (.cells cs e fz) → x.length = sz → (∀ j, j < sz → cs[o + j]? = x[j]?) → K (.pointer (some ⟨g, o, none⟩)) w) : C.bj sz v (.int k i) w K := by
  obtain ⟨A, c, rfl, h1, h2, h3⟩ := h
  have hlt : i.toNat < xs.length := (List.getElem?_eq_some_iff.1 hx).1
  obtain ⟨g, o, cs, e, fz, rfl, hg, hc⟩ := h3 (by intro he; rw [he] at hlt; simp at hlt)
  obtain ⟨hl, hj⟩ := hc _ _ hx
  rw [C.b1]
  exact ⟨⟨h0, by omega⟩, hk g _ cs e fz hg hl fun j hjs => by rw [Nat.add_assoc]; exact hj j hjs⟩
theorem RdS.take {w : World} {A : Option Addr} {n c sz : Nat} {xs : List (List Value)} (h : RdS w (.slice A n c) sz xs) (m : Nat) (hm : m ≤ n) : RdS w (.slice A m c) sz (xs.take m) := by
  obtain ⟨A', c', he, h1, h2, h3⟩ := h
  simp only [Value.slice.injEq] at he
  obtain ⟨rfl, rfl, rfl⟩ := he
  have hl : (xs.take m).length = m := by rw [List.length_take]; omega
  refine ⟨A, c, by rw [hl], by rw [hl]; omega, h2, fun hx => ?_⟩
  obtain ⟨g, o, cs, e, fz, rfl, hg, hc⟩ := h3 (by intro e; rw [e] at hx; simp at hx)
  refine ⟨g, o, cs, e, fz, rfl, hg, fun i x hi => hc i x ?_⟩
  rw [List.getElem?_take] at hi
  split at hi
  · exact hi
  · cases hi
inductive CK where
  | int (k : IntKind)
  | bool
def CK.ok : CK → Value → Prop
  | .int k, v => ∃ n, v = .int k n ∧ (Lit.int k n).wf = true
  | .bool, v => ∃ b, v = .bool b
def qht (kd : TypeId → Option (List CK)) (sz : TypeId → Nat) : List Field → Nat → Option (List CK)
  | [], _ => some []
  | f :: fs, off => cond (Nat.beq f.offset off) (match kd f.type with
    | some ks => cond (Nat.beq (sz f.type) ks.length) (match qht kd sz fs (off + ks.length) with
      | some r => some (ks ++ r)
      | none => none) none
    | none => none) none
def qge (P : Program) : Nat → TypeId → Option (List CK)
  | 0, _ => none
  | d + 1, t => match P.underlying t with
    | some (.int k) => some [.int k]
    | some .bool => some [.bool]
    | some (.struct fs) => match qht (qge P d) P.cellsOf fs.toList 0 with
      | some ks => cond (Nat.beq (P.cellsOf t) ks.length) (some ks) none
      | none => none
    | _ => none
def qa9 : List CK → List Value → Prop
  | [], [] => True
  | k :: ks, v :: vs => k.ok v ∧ qa9 ks vs
  | _, _ => False
theorem qf5 : ∀ {ks ks' : List CK} {vs vs' : List Value}, qa9 ks vs → qa9 ks' vs' → qa9 (ks ++ ks') (vs ++ vs')
  | [], _, [], _, _, h => h
  | k :: ks, _, v :: vs, _, h, h' => ⟨h.1, qf5 h.2 h'⟩
  | [], _, _ :: _, _, h, _ => h.elim
  | _ :: _, _, [], _, h, _ => h.elim
theorem qd7 : ∀ {ks : List CK} {vs : List Value}, qa9 ks vs → vs.length = ks.length
  | [], [], _ => rfl
  | k :: ks, v :: vs, h => by simp [qd7 h.2]
  | [], _ :: _, h => h.elim
  | _ :: _, [], h => h.elim
section
variable {H : Type} {enc : TypeId × Value → H} {P : Program} {w : World} {base : Nat} {spare : Nat → Bool} {held : Bool}
theorem qpm {t : TypeId} {fuel : Nat} {cs : List Value} {x : DataW H × List MemPlace} (ht : P.underlying t = some .bool) (h : DataW.trod enc P w base spare held fuel t cs = some x) : ∃ b, cs = [.bool b] := by
  cases fuel with
  | zero => simp [DataW.trod] at h
  | succ n =>
    unfold DataW.trod at h
    rw [ht] at h
    split at h <;> simp_all
theorem ql3 {n : Nat} {kd : TypeId → Option (List CK)} {cs : List Value} (hkd : ∀ t ks cs' x, kd t = some ks → DataW.trod enc P w base spare held n t cs' = some x → qa9 ks cs') :
    ∀ (fs : List Field) (off : Nat) (ks : List CK), qht kd P.cellsOf fs off = some ks → off + ks.length = cs.length → (∀ f ∈ fs, ∃ x, DataW.trod enc P w base spare held n f.type ((cs.drop f.offset).take (P.cellsOf f.type)) = some x) → qa9 ks (cs.drop off)
  | [], off, ks, hf, hl, _ => by
    simp only [qht, Option.some.injEq] at hf
    subst hf
    simp only [List.length_nil, Nat.add_zero] at hl
    rw [List.drop_of_length_le (by omega)]
    trivial
  | f :: fs, off, ks, hf, hl, ht => by
    simp only [qht] at hf
    cases h1 : Nat.beq f.offset off with
    | false => rw [h1] at hf; cases hf
    | true =>
      rw [h1] at hf
      simp only [cond_true] at hf
      have e1 : f.offset = off := Nat.eq_of_beq_eq_true h1
      cases hk : kd f.type with
      | none => rw [hk] at hf; cases hf
      | some k1 =>
        rw [hk] at hf
        simp only at hf
        cases h2 : Nat.beq (P.cellsOf f.type) k1.length with
        | false => rw [h2] at hf; cases hf
        | true =>
          rw [h2] at hf
          simp only [cond_true] at hf
          have e2 : P.cellsOf f.type = k1.length := Nat.eq_of_beq_eq_true h2
          cases hr : qht kd P.cellsOf fs (off + k1.length) with
          | none => rw [hr] at hf; cases hf
          | some r =>
            rw [hr] at hf
            simp only [Option.some.injEq] at hf
            subst hf
            rw [List.length_append] at hl
            obtain ⟨x, hx⟩ := ht f (by simp)
            have a1 := hkd _ _ _ _ hk hx
            have a2 := ql3 hkd fs (off + k1.length) r hr (by omega) fun f' hf' => ht f' (by simp [hf'])
            rw [e1, e2] at a1
            have := qf5 a1 a2
            rw [← List.drop_drop, List.take_append_drop] at this
            exact this
theorem qhk : ∀ (d : Nat) {t : TypeId} {ks : List CK} {fuel : Nat} {cs : List Value} {x : DataW H × List MemPlace}, qge P d t = some ks → DataW.trod enc P w base spare held fuel t cs = some x → qa9 ks cs
  | 0, _, _, _, _, _, hk, _ => by simp [qge] at hk
  | d + 1, t, ks, fuel, cs, x, hk, h => by
    simp only [qge] at hk
    split at hk
    · rename_i k hu
      simp only [Option.some.injEq] at hk
      subst hk
      obtain ⟨n, rfl, _, hw⟩ := DataW.trod_int hu h
      exact ⟨⟨n, rfl, hw⟩, trivial⟩
    · rename_i hu
      simp only [Option.some.injEq] at hk
      subst hk
      obtain ⟨b, rfl⟩ := qpm hu h
      exact ⟨⟨b, rfl⟩, trivial⟩
    · rename_i fs hu
      split at hk
      · rename_i ks' hf
        cases hb : Nat.beq (P.cellsOf t) ks'.length with
        | false => rw [hb] at hk; cases hk
        | true =>
          rw [hb] at hk
          simp only [cond_true, Option.some.injEq] at hk
          subst hk
          obtain ⟨xs, n, rfl, rfl, hl, hxl, hx⟩ := DataW.trod_struct hu h
          have := ql3 (n := n) (cs := cs) (fun t ks cs' x hk hx => qhk d hk hx) fs.toList 0 ks' hf (by rw [hl, Nat.eq_of_beq_eq_true hb]; omega) fun f hf => by
            obtain ⟨i, hi, rfl⟩ := List.getElem_of_mem hf
            have hi' : i < fs.size := by simpa using hi
            have := hx i fs[i] (by simp [hi'])
            simp only [Array.getElem_toList]
            rw [this, List.getElem?_eq_getElem (by omega)]
            exact ⟨_, rfl⟩
          simpa using this
      · cases hk
    · cases hk
theorem qrn {t e : TypeId} {d : Nat} {ks : List CK} {v : Value} {dd : DataW H} {ps : List MemPlace} (ht : P.underlying t = some (.slice e)) (hk : qge P d e = some ks) (hc : P.cellsOf e = ks.length) (hpos : 0 < ks.length)
    (h : DataW.Trod enc P w base spare held t v dd ps) (hv : v.cells.toList = [v]) : ∃ xs, RdS w v ks.length xs ∧ ∀ x ∈ xs, qa9 ks x := by
  obtain ⟨fuel, h⟩ := h
  rw [hv] at h
  rcases Deep.open_slice ht h with ⟨h1, _⟩ | ⟨a, len, cap, m, n, D, Pl, h1, hb, hl, hm, rfl, _, hx⟩
  · simp only [List.cons.injEq, and_true] at h1
    subst h1
    exact ⟨[], ⟨none, 0, rfl, by simp, by simp [maxLen], fun h => absurd rfl h⟩, by simp⟩
  · simp only [List.cons.injEq, and_true] at h1
    subst h1
    have hx' : ∀ i, i < len → ∃ cs', w.cells? base (a.add (i * P.cellsOf e)) (P.cellsOf e) = some cs' ∧ qa9 ks cs' := fun i hi => by
      obtain ⟨cs', h1, h2⟩ := hx i (by split <;> omega)
      exact ⟨cs', h1, qhk d hk h2⟩
    rw [hc] at hx'
    obtain ⟨X, hX⟩ := Deep.choose_lt (α := List Value) hx'
    have hlen : ((List.range len).map X).length = len := by simp
    refine ⟨(List.range len).map X, ⟨some a, cap, by rw [hlen], by rw [hlen]; exact hl, hm, fun hne => ?_⟩, fun x hx => ?_⟩
    · have h0 : 0 < len := by
        rcases Nat.eq_zero_or_pos len with h0 | h0
        · subst h0; simp at hne
        · exact h0
      obtain ⟨hc0, hok⟩ := hX 0 h0
      obtain ⟨_, _, hcell⟩ := World.cells?_some hc0
      have hl0 := qd7 hok
      have h00 := hcell 0 hpos
      simp only [Nat.zero_mul] at h00
      have ha0 : (a.add 0).add 0 = a := by simp [Addr.add]
      rw [ha0, List.getElem?_eq_getElem (by omega)] at h00
      obtain ⟨g, o, sp⟩ := a
      have hsp : sp = none := by
        cases sp with
        | none => rfl
        | some s => simp [World.cell?] at h00; split at h00 <;> simp_all
      subst hsp
      have hblk : ∃ cs e fz, w.heap[g]? = some (.cells cs e fz) := by
        simp only [World.cell?] at h00
        split at h00
        · rename_i c e' fz hg; exact ⟨c, e', fz, hg⟩
        · cases h00
      obtain ⟨cs, e', fz, hg⟩ := hblk
      refine ⟨g, o, cs, e', fz, rfl, hg, fun i x hi => ?_⟩
      have hi' : i < len := by have := (List.getElem?_eq_some_iff.1 hi).1; simpa using this
      simp only [List.getElem?_map, List.getElem?_range hi', Option.map_some, Option.some.injEq] at hi
      subst hi
      obtain ⟨hci, hoki⟩ := hX i hi'
      obtain ⟨_, _, hcelli⟩ := World.cells?_some hci
      refine ⟨qd7 hoki, fun j hj => ?_⟩
      have := hcelli j hj
      rw [add_mk, add_mk, qcw hg] at this
      rw [← this, Nat.add_assoc]
    · obtain ⟨i, hi, rfl⟩ := List.mem_map.1 hx
      exact (hX i (by simpa using hi)).2
end
theorem qk0 {H : Type} {enc : TypeId × Value → H} {P : Program} {w : World} {base b0 : Nat} {r : Reach} {spare : Nat → Bool} {held : Bool} {t e : TypeId} {d : Nat} {ks : List CK} {v : Value} {dd : DataW H} {ps : List MemPlace}
    (ht : P.underlying t = some (.slice e)) (hk : qge P d e = some ks) (hc : P.cellsOf e = ks.length) (hpos : 0 < ks.length) (hv : Value.okWide P w r b0 t v) (h : DataW.Trod enc P w base spare held t v dd ps) :
    ∃ xs, RdS w v ks.length xs ∧ ∀ x ∈ xs, qa9 ks x := by
  obtain ⟨a, len, cap, rfl⟩ := okWide_slice ht hv
  exact qrn ht hk hc hpos h rfl
theorem qjd {H : Type} {enc : TypeId × Value → H} {P : Program} {w : World} {base b0 : Nat} {r : Reach} {spare : Nat → Bool} {held : Bool} {t : TypeId} {fs : Array Field} {d : Nat} {ks : List CK} {v : Value} {dd : DataW H} {ps : List MemPlace}
    (ht : P.underlying t = some (.struct fs)) (hk : qge P d t = some ks) (hv : Value.okWide P w r b0 t v) (h : DataW.Trod enc P w base spare held t v dd ps) :
    ∃ cs, v = .agg cs ∧ qa9 ks cs.toList := by
  obtain ⟨cs, rfl, _⟩ := okWide_struct ht hv
  obtain ⟨fuel, h⟩ := h
  exact ⟨cs, rfl, qhk d hk h⟩
theorem qee {H : Type} {enc : TypeId × Value → H} {P : Program} {w : World} {base : Nat} {spare : Nat → Bool} {held : Bool} : ∀ (ts : List TypeId) (vs : List Value) (ds : List (DataW H)) (ps : List MemPlace),
    DataW.TrodAll enc P w base spare held ts vs ds ps → vs.length = ts.length ∧ ds.length = ts.length
  | [], vs, ds, ps, h => by obtain ⟨rfl, rfl, _⟩ := trodAll_nil h; exact ⟨rfl, rfl⟩
  | t :: ts, vs, ds, ps, h => by
    obtain ⟨v, vs', d, ds', p, q, rfl, rfl, _, _, h'⟩ := trodAll_cons h
    have := qee ts vs' ds' q h'
    simp [this]
theorem qgx {H : Type} {enc : TypeId × Value → H} {P : Program} {W W' : World} (hl : laidOutB P = true) (hb : Below W.heap.size W W') : ∀ (ts : List TypeId) (vs : List Value) (ds : List (DataW H)) (ps : List MemPlace),
    (∀ t ∈ ts, P.readableRec t = true ∧ t < P.types.size) → DataW.TrodAll enc P W 0 (fun _ => true) true ts vs ds ps → (∀ x ∈ ps, x.block < W.heap.size) →
    DataW.TrodAll enc P W' 0 (fun b => decide (b < W.heap.size)) true ts vs ds ps
  | [], vs, ds, ps, _, h, _ => by obtain ⟨rfl, rfl, rfl⟩ := trodAll_nil h; exact rfl
  | t :: ts, vs, ds, ps, hr, h, hlt => by
    obtain ⟨v, vs', d, ds', p, q, rfl, rfl, rfl, h0, h'⟩ := trodAll_cons h
    obtain ⟨h1, h2⟩ := hr t (by simp)
    exact ⟨p, q, Below.trod hl h1 h2 h0 hb (fun x hx => hlt x (by simp [hx])), qgx hl hb ts vs' ds' q (fun t ht => hr t (by simp [ht])) h' (fun x hx => hlt x (by simp [hx])), rfl⟩
structure qwb {H : Type} (enc : TypeId × Value → H) (P : Program) (fn : Func) (W : World) (args : Array Value) (ds : List (DataW H)) (ps : List MemPlace) : Prop where
  trod : DataW.TrodAll enc P W 0 (fun _ => true) true fn.params.toList args.toList ds ps
  wide : ∃ base, ∀ (j : Nat) t v, fn.params[j]? = some t → args[j]? = some v → Value.okWide P W .any base t v
  reach : (DataW.weightsEach P fn.params.toList ds).all (· ≤ reachBytes) = true
  lt : ∀ x ∈ ps, x.block < W.heap.size
end Go.Proofs.YtcakfaakbpdklaaGreatDoorV
namespace Go.Proofs.YtcakfaakbpdklaaGreatDoorV
open Go Go.RowKit
set_option linter.unusedVariables false
set_option linter.unusedSimpArgs false
section
variable {P : Program} {w : World} {t e : TypeId} {sz : Nat}
theorem qkj (a : Addr) : a.add 0 = a := by simp [Addr.add]
theorem qtp (A : Option Addr) : A.map (·.add 0) = A := by cases A <;> simp [qkj]
theorem qed (A : Option Addr) (n c : Nat) (k : IntKind) (m : Int) (hu : P.underlying t = some (.slice e)) (hs : qer P e = some sz) (h0 : 0 ≤ m) (h1 : m ≤ (c : Int)) :
    (Instr.sliceAt t (.slice A n c) none (some (.int k m)) none).run P w = .ok (.slice A m.toNat c) w := by
  have hs' : (sizeOf e).run P w = .ok sz w := qbi hs
  have hz : ∀ (c : Nat), (if c = 0 then A else A.map (·.add (0 * sz))) = A := by intro c; rw [Nat.zero_mul, qtp]; split <;> rfl
  simp [Instr.sliceAt, Instr.slice, underlying, hu, Instr.sliceBounds, Instr.sliceBound, asIntOf, h0, h1, hs']
  cases A <;> simp [qkj]
theorem qeq (A : Option Addr) (n c : Nat) (k : IntKind) (l : Int) (hu : P.underlying t = some (.slice e)) (hs : qer P e = some sz) (h0 : 0 ≤ l) (h1 : l ≤ (n : Int)) :
    (Instr.sliceAt t (.slice A n c) (some (.int k l)) none none).run P w = .ok (.slice (if c = l.toNat then A else A.map (·.add (l.toNat * sz))) (n - l.toNat) (c - l.toNat)) w := by
  have hs' : (sizeOf e).run P w = .ok sz w := qbi hs
  simp [Instr.sliceAt, Instr.slice, underlying, hu, Instr.sliceBounds, Instr.sliceBound, asIntOf, h0, h1, hs']
end
theorem RdS.drop {w : World} {A : Option Addr} {n c sz : Nat} {xs : List (List Value)} (h : RdS w (.slice A n c) sz xs) (l : Nat) (hl : l ≤ n) :
    RdS w (.slice (if c = l then A else A.map (·.add (l * sz))) (n - l) (c - l)) sz (xs.drop l) := by
  obtain ⟨A', c', he, h1, h2, h3⟩ := h
  simp only [Value.slice.injEq] at he
  obtain ⟨rfl, rfl, rfl⟩ := he
  have hlen : (xs.drop l).length = xs.length - l := List.length_drop
  refine ⟨_, _, by rw [hlen], by rw [hlen]; omega, by omega, fun hne => ?_⟩
  obtain ⟨g, o, cs, e, fz, rfl, hg, hc⟩ := h3 (by intro e; rw [e] at hne; simp at hne)
  have hlt : l < xs.length := by
    rcases Nat.lt_or_ge l xs.length with h | h
    · exact h
    · exact absurd (List.drop_of_length_le h) hne
  refine ⟨g, o + l * sz, cs, e, fz, ?_, hg, fun i x hi => ?_⟩
  · rw [if_neg (by omega)]
    simp [add_mk]
  · rw [List.getElem?_drop] at hi
    obtain ⟨hx, hj⟩ := hc _ _ hi
    refine ⟨hx, fun j hjs => ?_⟩
    rw [← hj j hjs]
    congr 1
    rw [Nat.add_mul]
    omega
theorem qly {cs : Array Value} {x : List Value} {o sz : Nat} (hl : x.length = sz) (h : ∀ j, j < sz → cs[o + j]? = x[j]?) : (0 < sz → o + sz ≤ cs.size) ∧ (cs.toList.drop o).take sz = x := by
  constructor
  · intro h0
    have := h (sz - 1) (by omega)
    rw [List.getElem?_eq_getElem (by omega)] at this
    have := (Array.getElem?_eq_some_iff.1 this).1
    omega
  · apply List.ext_getElem?
    intro j
    rw [List.getElem?_take]
    by_cases hj : j < sz
    · rw [if_pos hj, List.getElem?_drop, ← h j hj]; simp
    · rw [if_neg hj, List.getElem?_eq_none (by omega)]
theorem C.cp {K : VK} {w : World} {g o sz : Nat} {cs : Array Value} {e : TypeId} {fz : Nat × Nat} {x : List Value} (hg : w.heap[g]? = some (.cells cs e fz)) (hl : x.length = sz) (h0 : 0 < sz) (h : ∀ j, j < sz → cs[o + j]? = x[j]?) (hk : K (.agg x.toArray) w) :
    C.ao sz (.pointer (some ⟨g, o, none⟩)) w K := by
  obtain ⟨h1, h2⟩ := qly hl h
  exact C.br hg (h1 h0) h2 hk
theorem C.bx {K : VK} {w : World} {S : World → Prop} {v : Value} {sz : Nat} {xs : List (List Value)} {k : IntKind} {i : Int} (h : ∀ w', S w' → RdS w' v sz xs) (hS : S w) {x : List Value} (h0 : 0 ≤ i) (hx : xs[i.toNat]? = some x)
    (hk : ∀ g o, x.length = sz → (∀ w', S w' → ∃ cs e fz, w'.heap[g]? = some (.cells cs e fz) ∧ ∀ j, j < sz → cs[o + j]? = x[j]?) → K (.pointer (some ⟨g, o, none⟩)) w) : C.bj sz v (.int k i) w K := by
  have hlt : i.toNat < xs.length := (List.getElem?_eq_some_iff.1 hx).1
  have hne : xs ≠ [] := by intro he; rw [he] at hlt; simp at hlt
  obtain ⟨A, c, rfl, h1, h2, h3⟩ := h w hS
  obtain ⟨g, o, cs, e, fz, rfl, hg, hc⟩ := h3 hne
  rw [C.b1]
  refine ⟨⟨h0, by omega⟩, hk g _ (hc _ _ hx).1 fun w' hw' => ?_⟩
  obtain ⟨A', c', he, _, _, h3'⟩ := h w' hw'
  simp only [Value.slice.injEq] at he
  obtain ⟨rfl, _, rfl⟩ := he
  obtain ⟨g', o', cs', e', fz', hA, hg', hc'⟩ := h3' hne
  simp only [Option.some.injEq, Addr.mk.injEq] at hA
  obtain ⟨rfl, rfl, _⟩ := hA
  exact ⟨cs', e', fz', hg', fun j hj => by rw [Nat.add_assoc]; exact (hc' _ _ hx).2 j hj⟩
theorem C.b7 {K : VK} {S : World → Prop} {w : World} {g o sz : Nat} {x : List Value} (hl : x.length = sz) (h0 : 0 < sz) (h : ∀ w', S w' → ∃ cs e fz, w'.heap[g]? = some (.cells cs e fz) ∧ ∀ j, j < sz → cs[o + j]? = x[j]?) (hk : K (.agg x.toArray) w) :
    C.bm S sz (.pointer (some ⟨g, o, none⟩)) w K := by
  refine C.bn (vs := x) (fun w' hw' => ?_) hk
  obtain ⟨cs, e, fz, hg, hc⟩ := h w' hw'
  obtain ⟨h1, h2⟩ := qly hl hc
  exact ⟨cs, e, fz, hg, h1 h0, h2⟩
def qad (w : World) (v : Value) (e : TypeId) (sz : Nat) (xs : List (List Value)) : Prop :=
  w.ownsRow 0 e sz v xs.length xs.flatten ∧ ∀ x ∈ xs, x.length = sz ∧ ∀ u ∈ x, u.oneCell' = true
theorem qcx {sz : Nat} : ∀ (xs : List (List Value)), (∀ x ∈ xs, x.length = sz) → ∀ (i : Nat) (x : List Value), xs[i]? = some x → ∀ j, j < sz → xs.flatten[i * sz + j]? = x[j]?
  | [], _, i, x, h, _, _ => by simp at h
  | y :: xs, hl, 0, x, h, j, hj => by
    simp only [List.getElem?_cons_zero, Option.some.injEq] at h
    subst h
    have := hl y (by simp)
    simp only [Nat.zero_mul, Nat.zero_add, List.flatten_cons]
    rw [List.getElem?_append_left (by omega)]
  | y :: xs, hl, i + 1, x, h, j, hj => by
    simp only [List.getElem?_cons_succ] at h
    have hy := hl y (by simp)
    have ih := qcx xs (fun z hz => hl z (by simp [hz])) i x h j hj
    simp only [List.flatten_cons]
    rw [List.getElem?_append_right (by rw [hy, Nat.add_mul]; omega), hy, ← ih]
    congr 1
    rw [Nat.add_mul]
    omega
theorem qb4 {sz : Nat} : ∀ (xs : List (List Value)), (∀ x ∈ xs, x.length = sz) → xs.flatten.length = xs.length * sz
  | [], _ => by simp
  | y :: xs, hl => by
    rw [List.flatten_cons, List.length_append, hl y (by simp), qb4 xs (fun z hz => hl z (by simp [hz])), List.length_cons, Nat.add_mul]
    omega
theorem qad.nil (w : World) (e : TypeId) (sz : Nat) : qad w (.slice none 0 0) e sz [] := ⟨⟨by simp, .inl ⟨rfl, rfl⟩⟩, by simp⟩
theorem qad.lt {w : World} {v : Value} {e : TypeId} {sz : Nat} {xs : List (List Value)} (h : qad w v e sz xs) {g : Nat} (hg : v.ownBlock = some g) : g < w.heap.size := by
  obtain ⟨⟨_, h⟩, _⟩ := h
  rcases h with ⟨rfl, _⟩ | ⟨g', cap, cur, rfl, _, hh, _⟩
  · simp [Value.ownBlock] at hg
  · simp only [Value.ownBlock, Option.some.injEq] at hg
    subst hg
    exact qac hh
theorem qad.keep {S : List Nat} {w w' : World} {v : Value} {e : TypeId} {sz : Nat} {xs : List (List Value)} (h : qad w v e sz xs) (hf : Fr S w w') (hS : ∀ g, v.ownBlock = some g → g ∉ S) : qad w' v e sz xs := by
  obtain ⟨⟨h1, h2⟩, h3⟩ := h
  refine ⟨⟨h1, ?_⟩, h3⟩
  rcases h2 with h2 | ⟨g, cap, cur, rfl, hb, hh, r⟩
  · exact .inl h2
  · exact .inr ⟨g, cap, cur, rfl, hb, hf.at_ hh (hS g rfl), r⟩
theorem qad.rd {w : World} {v : Value} {e : TypeId} {sz : Nat} {xs : List (List Value)} (h : qad w v e sz xs) : RdS w v sz xs := by
  obtain ⟨⟨h1, h2⟩, h3⟩ := h
  rcases h2 with ⟨rfl, h2⟩ | ⟨g, cap, cur, rfl, hb, hh, h4, h5, h6, h7⟩
  · have : xs = [] := List.eq_nil_of_length_eq_zero h2
    subst this
    exact ⟨none, 0, rfl, by simp, by simp [maxLen], fun h => absurd rfl h⟩
  · refine ⟨_, cap, rfl, h4, h5, fun _ => ⟨g, 0, cur, e, (0, 0), rfl, hh, fun i x hx => ?_⟩⟩
    have hl : ∀ x ∈ xs, x.length = sz := fun x hx => (h3 x hx).1
    have hlt : i < xs.length := (List.getElem?_eq_some_iff.1 hx).1
    refine ⟨hl x (List.mem_of_getElem? hx), fun j hj => ?_⟩
    have := qcx xs hl i x hx j hj
    rw [← this, ← h7, List.getElem?_take, if_pos]
    · simp
    · have : (i + 1) * sz ≤ xs.length * sz := Nat.mul_le_mul_right _ hlt
      rw [Nat.add_mul] at this
      omega
theorem qad.len {w : World} {v : Value} {e : TypeId} {sz : Nat} {xs : List (List Value)} (h : qad w v e sz xs) : ∃ A c, v = .slice A xs.length c := by
  obtain ⟨⟨_, h⟩, _⟩ := h
  rcases h with ⟨rfl, h⟩ | ⟨g, cap, cur, rfl, _⟩
  · exact ⟨none, 0, by rw [h]⟩
  · exact ⟨_, cap, rfl⟩
def qab (v : Value) : List Nat := match v.ownBlock with | some g => [g] | none => []
theorem qan {v : Value} {x : Nat} : x ∈ qab v ↔ v.ownBlock = some x := by
  unfold qab
  cases v.ownBlock with
  | none => simp
  | some g => simp [eq_comm]
theorem qep {w w' : World} {v : Value} (h : w.grownBy w' v.ownBlock) : Fr (qab v) w w' :=
  ⟨h.os, h.tape, h.output, h.size, fun b hb hS => h.block b hb (fun e => hS (qan.2 e.symm))⟩
section
variable {P : Program} {K : VK} {w : World}
theorem C.b9 {t ty e : TypeId} {sz bytes : Nat} {z : Value} {v src : Value} {xs ys : List (List Value)} (ht : P.underlying t = some (.slice e))
    (hinfo : (P.info? e).map (fun i => (i.zero, i.size, i.bytes)) = some (some z, sz, bytes)) (hz : z.cells.size = sz) (hsz : 0 < sz) (hv : qad w v e sz xs) (hs : RdS w src sz ys) (h1 : ∀ y ∈ ys, ∀ u ∈ y, u.oneCell' = true)
    (hb : (xs.length + ys.length) * bytes ≤ 140737488355328) (hm : xs.length + ys.length ≤ 9223372036854775807)
    (hk : ∀ v' w', qad w' v' e sz (xs ++ ys) → Fr (qab v) w w' → (v'.ownBlock = v.ownBlock ∨ ∃ g, v'.ownBlock = some g ∧ w.heap.size ≤ g) → (v' = .slice none 0 0 ↔ v = .slice none 0 0 ∧ ys = []) → K v' w') :
    C.ay P (Builtin.append_ #[t, t] ty #[v, src]) w K := by
  obtain ⟨i0, hi, hzz⟩ := Option.map_eq_some_iff.1 hinfo
  simp only [Prod.mk.injEq] at hzz
  obtain ⟨hz0, hz1, hz2⟩ := hzz
  obtain ⟨A, c, rfl, hlc, hcm, hcell⟩ := hs
  have hyl : ∀ y ∈ ys, y.length = sz := by
    intro y hy
    obtain ⟨i, hi', rfl⟩ := List.getElem_of_mem hy
    obtain ⟨g, o, cs, e', fz, _, _, hc⟩ := hcell (by intro h; rw [h] at hi'; simp at hi')
    exact (hc i _ (List.getElem?_eq_getElem hi')).1
  cases A with
  | none =>
    have : ys = [] := by
      apply Classical.byContradiction
      intro hne
      obtain ⟨g, o, cs, e', fz, h, _⟩ := hcell hne
      cases h
    subst this
    refine C.a5 (v := v) (w' := w) ?_ (hk v w (by simpa using hv) (Fr.refl _ _) (.inl rfl) (by simp))
    rcases hv.1.2 with ⟨rfl, hn⟩ | ⟨g, cap, cur, rfl, _, _, hnc, _⟩
    · simp [Builtin.append_, underlying, ht, sizeOf, typeInfo, hi, Builtin.lenOf, Builtin.firstCells]
    · simp [Builtin.append_, underlying, ht, sizeOf, typeInfo, hi, Builtin.lenOf, Builtin.firstCells, hnc, storeCells]
  | some ad =>
    have hnews : ∀ j u, ys.flatten[j]? = some u → w.cell? (ad.add j) = some u := by
      intro j u hj
      have hlt : j < ys.flatten.length := (List.getElem?_eq_some_iff.1 hj).1
      rw [qb4 ys hyl] at hlt
      have hne : ys ≠ [] := by intro h; rw [h] at hlt; simp at hlt
      obtain ⟨g, o, cs, e', fz, hA, hg, hc⟩ := hcell hne
      simp only [Option.some.injEq] at hA
      subst hA
      have hdiv : j / sz < ys.length := Nat.div_lt_of_lt_mul (by rwa [Nat.mul_comm])
      have hmod : j % sz < sz := Nat.mod_lt _ hsz
      have e1 := hc (j / sz) _ (List.getElem?_eq_getElem hdiv)
      have e2 := qcx ys hyl (j / sz) _ (List.getElem?_eq_getElem hdiv) (j % sz) hmod
      have hj' : j / sz * sz + j % sz = j := by rw [Nat.mul_comm]; exact Nat.div_add_mod j sz
      rw [hj', hj] at e2
      have e3 := e1.2 (j % sz) hmod
      rw [hj', ← e2] at e3
      rw [_root_.Go.Proofs.YtcakfaakbpdklaaGreatDoorV.add_mk, qcw hg, e3]
    obtain ⟨v1, w1, hr, hown, hg, hnil, hat⟩ := run_append_own_at (P := P) (w := w) 0 t ty e i0 z sz bytes ht hi hz0 hz1 hz2 hz hsz v xs.length xs.flatten hv.1 ad ys.length c ys.flatten (qb4 ys hyl) hnews
      (by intro u hu; obtain ⟨y, hy, hu⟩ := List.mem_flatten.1 hu; exact h1 y hy u hu) (by unfold maxLen; omega) hb (Nat.zero_le _)
    refine C.a5 hr (hk v1 w1 ⟨?_, ?_⟩ (qep hg) ?_ ?_)
    · rw [List.length_append, List.flatten_append]; exact hown
    · intro x hx
      rcases List.mem_append.1 hx with hx | hx
      · exact hv.2 x hx
      · exact ⟨hyl x hx, h1 x hx⟩
    · rcases hat with h | h
      · exact .inl h
      · exact .inr ⟨_, h, Nat.le_refl _⟩
    · rw [hnil]
      constructor
      · rintro ⟨h1, h2⟩; exact ⟨h1, List.eq_nil_of_length_eq_zero h2⟩
      · rintro ⟨h1, h2⟩; exact ⟨h1, by rw [h2]; rfl⟩
theorem RdS.of_block {g n c sz : Nat} {e : TypeId} {fz : Nat × Nat} {cs : Array Value} {xs : List (List Value)} (hg : w.heap[g]? = some (.cells cs e fz)) (hn : n = xs.length) (hc : n ≤ c) (hcm : c ≤ 9223372036854775807) (hl : ∀ x ∈ xs, x.length = sz) (hx : cs.toList.take (n * sz) = xs.flatten) :
    RdS w (.slice (some ⟨g, 0, none⟩) n c) sz xs := by
  subst hn
  refine ⟨_, c, rfl, hc, by unfold maxLen; omega, fun _ => ⟨g, 0, cs, e, fz, rfl, hg, fun i x hi => ?_⟩⟩
  refine ⟨hl x (List.mem_of_getElem? hi), fun j hj => ?_⟩
  have hlt : i < xs.length := (List.getElem?_eq_some_iff.1 hi).1
  rw [← qcx xs hl i x hi j hj, ← hx, List.getElem?_take, if_pos]
  · simp
  · have : (i + 1) * sz ≤ xs.length * sz := Nat.mul_le_mul_right _ hlt
    rw [Nat.add_mul] at this
    omega
theorem qad.of_block {g n c sz : Nat} {e : TypeId} {cs : Array Value} {xs : List (List Value)} (hg : w.heap[g]? = some (.cells cs e (0, 0))) (hn : n = xs.length) (hc : n ≤ c) (hcm : c ≤ 9223372036854775807) (hcs : cs.size = c * sz) (hl : ∀ x ∈ xs, x.length = sz ∧ ∀ u ∈ x, u.oneCell' = true) (hx : cs.toList.take (n * sz) = xs.flatten) :
    qad w (.slice (some ⟨g, 0, none⟩) n c) e sz xs := by
  subst hn
  exact ⟨⟨qb4 xs fun x h => (hl x h).1, .inr ⟨g, c, cs, rfl, Nat.zero_le _, hg, hc, by unfold maxLen; omega, hcs, hx⟩⟩, hl⟩
end
theorem qhg {T R y : List Value} {o : Nat} (h : o + y.length ≤ T.length) : qaw (T ++ R) o y = qaw T o y ++ R := by
  unfold qaw
  rw [List.take_append_of_le_length (by omega), List.drop_append_of_le_length (by omega)]
  simp
theorem qc7 {T y : List Value} {o : Nat} (h : o + y.length ≤ T.length) : (qaw T o y).length = T.length := by
  unfold qaw
  simp
  omega
theorem qfr {sz : Nat} {y : List Value} (hy : y.length = sz) : ∀ (xs : List (List Value)), (∀ x ∈ xs, x.length = sz) → ∀ j, j < xs.length → (xs.set j y).flatten = qaw xs.flatten (j * sz) y
  | [], _, j, hj => by simp at hj
  | a :: xs, hl, 0, _ => by
    have ha := hl a (by simp)
    simp only [List.set_cons_zero, List.flatten_cons, Nat.zero_mul, qaw, List.take_zero, List.nil_append, Nat.zero_add]
    rw [hy, ← ha, List.drop_left]
  | a :: xs, hl, j + 1, hj => by
    have ha := hl a (by simp)
    simp only [List.length_cons, Nat.add_lt_add_iff_right] at hj
    have ih := qfr hy xs (fun x hx => hl x (by simp [hx])) j hj
    simp only [List.set_cons_succ, List.flatten_cons, ih]
    unfold qaw
    have e : (j + 1) * sz = a.length + j * sz := by rw [ha, Nat.add_mul]; omega
    rw [e, List.take_length_add_append, Nat.add_assoc, List.drop_length_add_append]
    simp
section
variable {P : Program} {K : World → Prop} {w : World}
theorem C.b3 {v x : Value} {e : TypeId} {sz : Nat} {xs : List (List Value)} {k : IntKind} {j : Int} (ho : qad w v e sz xs) (h0 : 0 ≤ j) (hj : j.toNat < xs.length) (hx : x.cells.size = sz) (h1 : ∀ u ∈ x.cells.toList, u.oneCell' = true)
    (hk : ∀ w', qad w' v e sz (xs.set j.toNat x.cells.toList) → Fr (qab v) w w' → w'.heap.size = w.heap.size → K w') : C.bj sz v (.int k j) w fun p w1 => C.ak sz p x w1 K := by
  obtain ⟨⟨h2, h3⟩, h4⟩ := ho
  rcases h3 with ⟨rfl, h3⟩ | ⟨g, cap, cur, rfl, hb, hh, h5, h6, h7, h8⟩
  · omega
  · simp only [C.b1]
    have hle : (j.toNat + 1) * sz ≤ cap * sz := Nat.mul_le_mul_right _ (by omega)
    have hle2 : (j.toNat + 1) * sz ≤ xs.length * sz := Nat.mul_le_mul_right _ hj
    have hle3 : xs.length * sz ≤ cap * sz := Nat.mul_le_mul_right _ h5
    rw [Nat.add_mul] at hle hle2
    refine ⟨⟨h0, by omega⟩, C.b8 hh hx h1 (by omega) fun w' hu => hk w' ?_ (hu.fr.mono (by simp [qab, Value.ownBlock])) hu.sz⟩
    have hxl : x.cells.toList.length = sz := by simpa using hx
    rw [Nat.zero_add] at hu
    have hsz : (qaw cur.toList (j.toNat * sz) x.cells.toList).length = cur.toList.length := qc7 (by rw [hxl]; simp; omega)
    have ht : (cur.toList.take (xs.length * sz)).length = xs.length * sz := List.length_take_of_le (by simp; omega)
    refine qad.of_block (n := xs.length) hu.at_ (by simp) h5 (by unfold maxLen at h6; omega) (by rw [List.size_toArray, hsz]; simpa using h7) (fun y hy => ?_) ?_
    · rcases List.mem_or_eq_of_mem_set hy with hy | rfl
      · exact h4 y hy
      · exact ⟨hxl, h1⟩
    · rw [qfr hxl xs (fun y hy => (h4 y hy).1) _ hj, ← h8]
      show (qaw cur.toList (j.toNat * sz) x.cells.toList).take (xs.length * sz) = qaw (cur.toList.take (xs.length * sz)) (j.toNat * sz) x.cells.toList
      generalize hT : cur.toList.take (xs.length * sz) = T at *
      have hc : cur.toList = T ++ cur.toList.drop (xs.length * sz) := by rw [← hT]; exact (List.take_append_drop _ _).symm
      rw [hc, qhg (by rw [hxl, ht]; omega)]
      exact List.take_left' (by rw [qc7 (by rw [hxl, ht]; omega), ht])
end
def qal (w : World) (v : Value) : Prop := ∀ g, v.ownBlock = some g → w.heap.size ≤ g
theorem qal.mono {w w' : World} {v : Value} (h : qal w' v) (hf : w.heap.size ≤ w'.heap.size) : qal w v := fun g hg => Nat.le_trans hf (h g hg)
theorem qal.nil (w : World) : qal w (.slice none 0 0) := fun g hg => by simp [Value.ownBlock] at hg
theorem qal.blk {w : World} {v : Value} (h : qal w v) : ∀ g ∈ qab v, w.heap.size ≤ g := fun g hg => h g (qan.1 hg)
theorem qme {c : Array Value} {sz : Nat} (hc : c.size = sz) (h0 : 0 < sz) (n : Nat) : (madeCells c (n * sz)).toList = (List.replicate n c.toList).flatten := by
  have hl : ∀ x ∈ List.replicate n c.toList, x.length = sz := fun x hx => by rw [List.eq_of_mem_replicate hx]; simpa using hc
  apply List.ext_getElem?
  intro k
  by_cases hk : k < n * sz
  · have hdiv : k / sz < n := Nat.div_lt_of_lt_mul (by rwa [Nat.mul_comm])
    have hmod : k % sz < sz := Nat.mod_lt _ h0
    have e2 := qcx _ hl (k / sz) c.toList (by rw [List.getElem?_replicate, if_pos hdiv]) (k % sz) hmod
    have hk' : k / sz * sz + k % sz = k := by rw [Nat.mul_comm]; exact Nat.div_add_mod k sz
    rw [hk'] at e2
    rw [e2]
    unfold madeCells
    simp [hk, hc]
    rw [Array.getElem?_eq_getElem (by omega), getElem!_pos c _ (by omega)]
  · rw [List.getElem?_eq_none (by unfold madeCells; simp; omega), List.getElem?_eq_none (by rw [qb4 _ hl]; simp; omega)]
section
variable {P : Program} {K : VK} {w : World}
theorem qad.mem_lt {w : World} {v : Value} {e : TypeId} {sz : Nat} {xs : List (List Value)} (h : qad w v e sz xs) : ∀ g ∈ qab v, g < w.heap.size := fun g hg => h.lt (qan.1 hg)
theorem qad.keep' {S : List Nat} {w w' : World} {v : Value} {e : TypeId} {sz : Nat} {xs : List (List Value)} (h : qad w v e sz xs) (hf : Fr S w w') (hS : ∀ g ∈ qab v, g ∉ S) : qad w' v e sz xs := h.keep hf fun g hg => hS g (qan.2 hg)
theorem qad.cap {v : Value} {e : TypeId} {sz : Nat} {xs : List (List Value)} (h : qad w v e sz xs) : ∃ A c, v = .slice A xs.length c ∧ xs.length ≤ c ∧ (A = none → xs = []) := by
  obtain ⟨⟨_, h⟩, _⟩ := h
  rcases h with ⟨rfl, h⟩ | ⟨g, cap, cur, rfl, _, _, h1, _⟩
  · exact ⟨none, 0, by rw [h], by omega, fun _ => List.eq_nil_of_length_eq_zero h⟩
  · exact ⟨_, cap, rfl, h1, fun h => by cases h⟩
theorem qad.one {v : Value} {e : TypeId} {sz : Nat} {xs : List (List Value)} (h : qad w v e sz xs) : v.oneCell' = true ∧ v.cells = #[v] := by
  obtain ⟨A, c, rfl⟩ := h.len
  exact ⟨rfl, rfl⟩
theorem qad.take {A : Option Addr} {n c sz : Nat} {e : TypeId} {xs : List (List Value)} (h : qad w (.slice A n c) e sz xs) (m : Nat) (hm : m ≤ n) (hA : A = none → m = 0) : qad w (.slice A m c) e sz (xs.take m) := by
  obtain ⟨⟨h1, h2⟩, h3⟩ := h
  have h3' : ∀ x ∈ xs.take m, x.length = sz ∧ ∀ u ∈ x, u.oneCell' = true := fun x hx => h3 x (List.mem_of_mem_take hx)
  rcases h2 with ⟨he, hn⟩ | ⟨g, cap, cur, he, hb, hh, r1, r2, r3, r4⟩
  · simp only [Value.slice.injEq] at he
    obtain ⟨rfl, rfl, rfl⟩ := he
    have : m = 0 := by omega
    subst this
    simp only [List.take_zero]
    exact qad.nil w e sz
  · simp only [Value.slice.injEq] at he
    obtain ⟨rfl, rfl, rfl⟩ := he
    have hl : (xs.take m).length = m := by rw [List.length_take]; omega
    have := qad.of_block (w := w) (g := g) (n := m) (c := c) (sz := sz) (e := e) (cs := cur) (xs := xs.take m) hh hl.symm (by omega) (by unfold maxLen at r2; omega) r3 h3' ?_
    · exact this
    · have e1 : cur.toList.take (m * sz) = (cur.toList.take (xs.length * sz)).take (m * sz) := by rw [List.take_take, Nat.min_eq_left (Nat.mul_le_mul_right _ hm)]
      rw [e1, r4]
      have hlen : ∀ x ∈ xs, x.length = sz := fun x hx => (h3 x hx).1
      have : xs.flatten = (xs.take m).flatten ++ (xs.drop m).flatten := by rw [← List.flatten_append, List.take_append_drop]
      rw [this, List.take_left' (by rw [qb4 _ fun x hx => hlen x (List.mem_of_mem_take hx), hl])]
theorem C.ca {t e : TypeId} {sz bytes : Nat} {z : Value} {k k' : IntKind} (n : Nat) (ht : P.underlying t = some (.slice e)) (hinfo : (P.info? e).map (fun i => (i.zero, i.size, i.bytes)) = some (some z, sz, bytes)) (hz : z.cells.size = sz) (hsz : 0 < sz)
    (h1 : ∀ u ∈ z.cells.toList, u.oneCell' = true) (hb : bytes * n ≤ 281474976710656) (hm : n ≤ 9223372036854775807)
    (hk : ∀ g w', New w g (.cells (madeCells z.cells (n * sz)) e) w' → qad w' (.slice (some ⟨g, 0, none⟩) n n) e sz (List.replicate n z.cells.toList) → K (.slice (some ⟨g, 0, none⟩) n n) w') : C.ay P (Instr.makeSlice t (.int k (n : Int)) (.int k' (n : Int))) w K := by
  obtain ⟨i0, hi, hzz⟩ := Option.map_eq_some_iff.1 hinfo
  simp only [Prod.mk.injEq] at hzz
  obtain ⟨hz0, hz1, hz2⟩ := hzz
  have hr := run_make (P := P) w t e i0 z ht hi hz0 k k' (n : Int) (n : Int) (by omega) (Int.le_refl _) (by rw [hz2, ← Int.natCast_mul]; omega) (by omega)
  simp only [Int.toNat_natCast, hz1] at hr
  have hn := New.mk' w (.cells (madeCells z.cells (n * sz)) e)
  refine C.a5 hr (hk _ _ hn (qad.of_block hn.at_ (by simp) (Nat.le_refl _) (by omega) (by unfold madeCells; simp) (fun x hx => ?_) ?_))
  · rw [List.eq_of_mem_replicate hx]
    exact ⟨by simpa using hz, h1⟩
  · rw [qme hz hsz, List.take_of_length_le]
    rw [qb4 (sz := sz) _ fun x hx => by rw [List.eq_of_mem_replicate hx]; simpa using hz]
    simp
theorem qjk {g : Nat} {e : TypeId} {cs cs' : Array Value} (h : w.heap[g]? = some (.cells cs e (0, 0))) : Upd w g (.cells cs' e (0, 0)) (w.setRow g cs') := by
  refine ⟨⟨rfl, rfl, rfl, by simp [World.setRow], fun b _ hb => ?_⟩, setRow_heap w g cs cs' e _ h, by simp [World.setRow]⟩
  simp only [List.mem_singleton] at hb
  simp [World.setRow, Array.getElem?_modify, Ne.symm hb]
end
end Go.Proofs.YtcakfaakbpdklaaGreatDoorV
namespace Go.Proofs.YtcakfaakbpdklaaGreatDoorV
open Go Go.Proofs Go.Shelf
def qry : Go.Shelf.Ren := ⟨fun | 5 => 52 | 8 => 94 | 7 => 93 | 19 => 140 | 20 => 141 | 10 => 131 | 11 => 132 | 12 => 133 | 13 => 134 | 14 => 135 | 15 => 136 | 16 => 137 | 17 => 138 | 18 => 139 | 30 => 203 | 31 => 204 | 32 => 205 | 33 => 206 | 34 => 207 | 35 => 208 | 40 => 259 | n => n, fun | 23 => 52 | 25 => 2 | 3 => 3 | 32 => 157 | 22 => 52 | 0 => 0 | 44 => 208 | 46 => 210 | 4 => 4 | 36 => 201 | 35 => 200 | 41 => 68 | 5 => 5 | 9 => 9 | 53 => 275 | 57 => 109 | 63 => 306 | 64 => 262 | n => n, fun n => n⟩
theorem quf : SlLaysM.n5 Tryz.prog qry := {
  mixed := by kernel_rfl,
  f5 := ⟨Tryz.f52.name, by decide, Tryz.func52.trans (congrArg some (by kernel_rfl))⟩,
  f7 := ⟨Tryz.f93.name, by decide, Tryz.func93.trans (congrArg some (by kernel_rfl))⟩,
  f8 := Tryz.func94.trans (congrArg some (by kernel_rfl)),
  f10 := ⟨Tryz.f131.name, by decide, Tryz.func131.trans (congrArg some (by kernel_rfl))⟩,
  f11 := ⟨Tryz.f132.name, by decide, Tryz.func132.trans (congrArg some (by kernel_rfl))⟩,
  f12 := ⟨Tryz.f133.name, by decide, Tryz.func133.trans (congrArg some (by kernel_rfl))⟩,
  f13 := ⟨Tryz.f134.name, by decide, Tryz.func134.trans (congrArg some (by kernel_rfl))⟩,
  f14 := ⟨Tryz.f135.name, by decide, Tryz.func135.trans (congrArg some (by kernel_rfl))⟩,
  f15 := ⟨Tryz.f136.name, by decide, Tryz.func136.trans (congrArg some (by kernel_rfl))⟩,
  f16 := ⟨Tryz.f137.name, by decide, Tryz.func137.trans (congrArg some (by kernel_rfl))⟩,
  f17 := ⟨Tryz.f138.name, by decide, Tryz.func138.trans (congrArg some (by kernel_rfl))⟩,
  f18 := ⟨Tryz.f139.name, by decide, Tryz.func139.trans (congrArg some (by kernel_rfl))⟩,
  f19 := Tryz.func140.trans (congrArg some (by kernel_rfl)),
  f20 := Tryz.func141.trans (congrArg some (by kernel_rfl)),
  f30 := ⟨Tryz.f203.name, by decide, Tryz.func203.trans (congrArg some (by kernel_rfl))⟩,
  f31 := Tryz.func204.trans (congrArg some (by kernel_rfl)),
  f32 := Tryz.func205.trans (congrArg some (by kernel_rfl)),
  f33 := ⟨Tryz.f206.name, by decide, Tryz.func206.trans (congrArg some (by kernel_rfl))⟩,
  f34 := ⟨Tryz.f207.name, by decide, Tryz.func207.trans (congrArg some (by kernel_rfl))⟩,
  f35 := ⟨Tryz.f208.name, by decide, Tryz.func208.trans (congrArg some (by kernel_rfl))⟩,
  f40 := ⟨Tryz.f259.name, by decide, Tryz.func259.trans (congrArg some (by kernel_rfl))⟩,
  t0 := Tryz.underlying0,
  a0 := Tryz.isAgg0,
  z0 := Tryz.sizeOf0,
  v0 := Tryz.zeroValue0,
  t3 := Tryz.underlying3,
  a3 := Tryz.isAgg3,
  z3 := Tryz.sizeOf3,
  v3 := Tryz.zeroValue3,
  t4 := Tryz.underlying4,
  a4 := Tryz.isAgg4,
  z4 := Tryz.sizeOf4,
  v4 := Tryz.zeroValue4,
  t5 := Tryz.underlying5,
  a5 := Tryz.isAgg5,
  z5 := Tryz.sizeOf5,
  v5 := Tryz.zeroValue5,
  t9 := Tryz.underlying9,
  a9 := Tryz.isAgg9,
  z9 := Tryz.sizeOf9,
  v9 := Tryz.zeroValue9,
  t22 := Tryz.underlying52,
  a22 := Tryz.isAgg52,
  z22 := Tryz.sizeOf52,
  v22 := Tryz.zeroValue52,
  t23 := Tryz.underlying52,
  a23 := Tryz.isAgg52,
  z23 := Tryz.sizeOf52,
  v23 := Tryz.zeroValue52,
  t25 := Tryz.underlying2,
  a25 := Tryz.isAgg2,
  z25 := Tryz.sizeOf2,
  v25 := Tryz.zeroValue2,
  t32 := Tryz.underlying157,
  a32 := Tryz.isAgg157,
  z32 := Tryz.sizeOf157,
  v32 := Tryz.zeroValue157,
  t35 := Tryz.underlying200,
  a35 := Tryz.isAgg200,
  z35 := Tryz.sizeOf200,
  v35 := Tryz.zeroValue200,
  t36 := Tryz.underlying201,
  a36 := Tryz.isAgg201,
  z36 := Tryz.sizeOf201,
  v36 := Tryz.zeroValue201,
  t41 := Tryz.underlying68,
  a41 := Tryz.isAgg68,
  z41 := Tryz.sizeOf68,
  v41 := Tryz.zeroValue68,
  t44 := Tryz.underlying208,
  a44 := Tryz.isAgg208,
  z44 := Tryz.sizeOf208,
  v44 := Tryz.zeroValue208,
  t46 := Tryz.underlying210,
  a46 := Tryz.isAgg210,
  z46 := Tryz.sizeOf210,
  v46 := Tryz.zeroValue210,
  t53 := Tryz.underlying275,
  a53 := Tryz.isAgg275,
  z53 := Tryz.sizeOf275,
  v53 := Tryz.zeroValue275,
  t57 := Tryz.underlying109,
  a57 := Tryz.isAgg109,
  z57 := Tryz.sizeOf109,
  v57 := Tryz.zeroValue109,
  t63 := Tryz.underlying306,
  a63 := Tryz.isAgg306,
  z63 := Tryz.sizeOf306,
  v63 := Tryz.zeroValue306,
  t64 := Tryz.underlying262,
  a64 := Tryz.isAgg262,
  z64 := Tryz.sizeOf262,
  v64 := Tryz.zeroValue262 }
def qku : Go.Shelf.Ren := ⟨fun | 6 => 86 | 15 => 94 | 14 => 126 | 28 => 140 | 29 => 141 | 20 => 189 | 21 => 190 | 22 => 191 | 23 => 192 | 24 => 193 | 25 => 194 | 26 => 195 | 27 => 196 | 46 => 254 | 47 => 204 | 48 => 205 | 49 => 255 | 50 => 256 | 57 => 290 | n => n, fun | 22 => 54 | 24 => 3 | 25 => 151 | 3 => 3 | 39 => 157 | 0 => 0 | 53 => 208 | 55 => 210 | 4 => 4 | 46 => 201 | 45 => 200 | 50 => 68 | 5 => 5 | 9 => 9 | 66 => 275 | 70 => 109 | 76 => 306 | 77 => 262 | n => n, fun n => n⟩
theorem qud : SlLaysF.n6 Tryz.prog qku := {
  mixed := by kernel_rfl,
  f6 := ⟨Tryz.f86.name, by decide, Tryz.func86.trans (congrArg some (by kernel_rfl))⟩,
  f14 := ⟨Tryz.f126.name, by decide, Tryz.func126.trans (congrArg some (by kernel_rfl))⟩,
  f15 := Tryz.func94.trans (congrArg some (by kernel_rfl)),
  f20 := ⟨Tryz.f189.name, by decide, Tryz.func189.trans (congrArg some (by kernel_rfl))⟩,
  f21 := ⟨Tryz.f190.name, by decide, Tryz.func190.trans (congrArg some (by kernel_rfl))⟩,
  f22 := ⟨Tryz.f191.name, by decide, Tryz.func191.trans (congrArg some (by kernel_rfl))⟩,
  f23 := ⟨Tryz.f192.name, by decide, Tryz.func192.trans (congrArg some (by kernel_rfl))⟩,
  f24 := ⟨Tryz.f193.name, by decide, Tryz.func193.trans (congrArg some (by kernel_rfl))⟩,
  f25 := ⟨Tryz.f194.name, by decide, Tryz.func194.trans (congrArg some (by kernel_rfl))⟩,
  f26 := ⟨Tryz.f195.name, by decide, Tryz.func195.trans (congrArg some (by kernel_rfl))⟩,
  f27 := ⟨Tryz.f196.name, by decide, Tryz.func196.trans (congrArg some (by kernel_rfl))⟩,
  f28 := Tryz.func140.trans (congrArg some (by kernel_rfl)),
  f29 := Tryz.func141.trans (congrArg some (by kernel_rfl)),
  f46 := ⟨Tryz.f254.name, by decide, Tryz.func254.trans (congrArg some (by kernel_rfl))⟩,
  f47 := Tryz.func204.trans (congrArg some (by kernel_rfl)),
  f48 := Tryz.func205.trans (congrArg some (by kernel_rfl)),
  f49 := ⟨Tryz.f255.name, by decide, Tryz.func255.trans (congrArg some (by kernel_rfl))⟩,
  f50 := ⟨Tryz.f256.name, by decide, Tryz.func256.trans (congrArg some (by kernel_rfl))⟩,
  f57 := ⟨Tryz.f290.name, by decide, Tryz.func290.trans (congrArg some (by kernel_rfl))⟩,
  t0 := Tryz.underlying0,
  a0 := Tryz.isAgg0,
  z0 := Tryz.sizeOf0,
  v0 := Tryz.zeroValue0,
  t3 := Tryz.underlying3,
  a3 := Tryz.isAgg3,
  z3 := Tryz.sizeOf3,
  v3 := Tryz.zeroValue3,
  t4 := Tryz.underlying4,
  a4 := Tryz.isAgg4,
  z4 := Tryz.sizeOf4,
  v4 := Tryz.zeroValue4,
  t5 := Tryz.underlying5,
  a5 := Tryz.isAgg5,
  z5 := Tryz.sizeOf5,
  v5 := Tryz.zeroValue5,
  t9 := Tryz.underlying9,
  a9 := Tryz.isAgg9,
  z9 := Tryz.sizeOf9,
  v9 := Tryz.zeroValue9,
  t22 := Tryz.underlying54,
  a22 := Tryz.isAgg54,
  z22 := Tryz.sizeOf54,
  v22 := Tryz.zeroValue54,
  a24 := Tryz.isAgg3,
  z24 := Tryz.sizeOf3,
  t25 := Tryz.underlying151,
  a25 := Tryz.isAgg151,
  z25 := Tryz.sizeOf151,
  v25 := Tryz.zeroValue151,
  t39 := Tryz.underlying157,
  a39 := Tryz.isAgg157,
  z39 := Tryz.sizeOf157,
  v39 := Tryz.zeroValue157,
  t45 := Tryz.underlying200,
  a45 := Tryz.isAgg200,
  z45 := Tryz.sizeOf200,
  v45 := Tryz.zeroValue200,
  t46 := Tryz.underlying201,
  a46 := Tryz.isAgg201,
  z46 := Tryz.sizeOf201,
  v46 := Tryz.zeroValue201,
  t50 := Tryz.underlying68,
  a50 := Tryz.isAgg68,
  z50 := Tryz.sizeOf68,
  v50 := Tryz.zeroValue68,
  t53 := Tryz.underlying208,
  a53 := Tryz.isAgg208,
  z53 := Tryz.sizeOf208,
  v53 := Tryz.zeroValue208,
  t55 := Tryz.underlying210,
  a55 := Tryz.isAgg210,
  z55 := Tryz.sizeOf210,
  v55 := Tryz.zeroValue210,
  t66 := Tryz.underlying275,
  a66 := Tryz.isAgg275,
  z66 := Tryz.sizeOf275,
  v66 := Tryz.zeroValue275,
  t70 := Tryz.underlying109,
  a70 := Tryz.isAgg109,
  z70 := Tryz.sizeOf109,
  v70 := Tryz.zeroValue109,
  t76 := Tryz.underlying306,
  a76 := Tryz.isAgg306,
  z76 := Tryz.sizeOf306,
  v76 := Tryz.zeroValue306,
  t77 := Tryz.underlying262,
  a77 := Tryz.isAgg262,
  z77 := Tryz.sizeOf262,
  v77 := Tryz.zeroValue262 }
end Go.Proofs.YtcakfaakbpdklaaGreatDoorV
namespace Go.Proofs.YtcakfaakbpdklaaGreatDoorV
open Go Go.Proofs
set_option linter.unusedVariables false
set_option maxRecDepth 100000
def A0 : Ann := ⟨[], [], [], [], none⟩
noncomputable def cd (f : Func) : Code := match f.body with | some c => c | none => .skip
noncomputable def tp (f : Func) (K : VK) : QE := qx4 Tryz.prog f.results.toList K
theorem qq {a b : Prop} (h : a) (e : b = a := by kernel_rfl) : b := e.mpr h
noncomputable def nk (A : Ann) (n : Nat) (e : List (Nat × Value)) (w : World) (p : List Nat) (c : Code) (Q : QE) : Prop := nav A Tryz.prog n (fun c Q => qa7 A Tryz.prog n c Q e w) p c Q
noncomputable def nl (A : Ann) (n : Nat) (e : List (Nat × Value)) (w : World) (p : List Nat) (c : Code) (Q : QE) : Prop := nav A Tryz.prog n (ql9 A Tryz.prog n e w) p c Q
noncomputable section
variable {K : VK} {w : World} {x0 x1 x2 x3 y0 y1 y2 y3 y5 y6 y14 : Value}
namespace F66
def ann : Ann := ⟨[(5, [0])], [], [], [], none⟩
def code := cd Tryz.f66
def top := tp Tryz.f66
variable (K : VK) (y0 : Value) (w : World)
def k5 : Prop := nk ann 18 [(0, y0)] w [1, 1] code (top K)
attribute [irreducible] k5
end F66
theorem F66.k5.to (h : (K y0 w)) : F66.k5 K y0 w := qq h
theorem F66.sh (h : (C.aj .lss x0 x1 w fun a b =>
 C.am a (K x1 b) (C.aj .gtr x0 x2 b fun c d =>
 C.am c (K x2 d) (F66.k5 K x0 d)))) : C.q Tryz.prog 66 #[x0, x1, x2] w K := q9 (A := F66.ann) (args := [x0, x1, x2]) (qq h)
namespace F117
def ann : Ann := ⟨[(3, [0]), (5, [0, 3]), (6, [3])], [(4, [0, 3])], [], [], none⟩
def code := cd Tryz.f117
def top := tp Tryz.f117
variable (K : VK) (y0 y3 : Value) (w : World)
def k3 : Prop := nk ann 22 [(0, y0)] w [1, 1] code (top K)
def k6 : Prop := nk ann 22 [(3, y3)] w [1, 1, 1, 1] code (top K)
def l4 : Prop := nl ann 22 [(0, y0), (3, y3)] w [1, 1, 1, 0, 0] code (top K)
def k5 : Prop := nk ann 22 [(0, y0), (3, y3)] w [1, 1, 1, 0, 0, 0, 1] code (top K)
attribute [irreducible] k3 k6 l4 k5
end F117
theorem F117.k3.to (h : (F117.l4 K y0 (.int .i64 1) w)) : F117.k3 K y0 w := qq h
theorem F117.k6.to (h : (K y3 w)) : F117.k6 K y3 w := qq h
theorem F117.l4.to (h : (C.aj .lss y3 (.int .i64 5) w fun a b =>
 C.i true a (fun K => K y3 b) b fun c d =>
 C.i true a (fun K => C.q Tryz.prog 175 #[c] d K) d fun f g =>
 C.i true a (fun K => K y0 g) g fun i j =>
 C.i true a (fun K => C.aj .add i (.int .i64 1) j K) j fun k m =>
 C.i true a (fun K => C.aj .lss f k m K) m fun o p =>
 C.a2 (some a) (some o) (some (.bool false)) p fun q r =>
 C.am q (F117.k5 K y0 y3 r) (F117.k6 K y3 r))) : F117.l4 K y0 y3 w := by unfold F117.l4 nl; exact qag (qq h)
theorem F117.k5.to (h : (C.aj .add y3 (.int .i64 1) w fun a b =>
 F117.l4 K y0 a b)) : F117.k5 K y0 y3 w := qq h
theorem F117.sh (h : (C.aj .lss x0 (.int .i64 0) w fun a b =>
 C.i false a (fun K => K x0 b) b fun c d =>
 C.i false a (fun K => C.aj .gtr c (.int .i64 127) d K) d fun f g =>
 C.a2 (some a) (some (.bool true)) (some f) g fun i j =>
 C.am i (K (.int .i64 0) j) (F117.k3 K x0 j))) : C.q Tryz.prog 117 #[x0] w K := q9 (A := F117.ann) (args := [x0]) (qq h)
namespace F120
def ann : Ann := ⟨[(3, [0])], [], [], [], none⟩
def code := cd Tryz.f120
def top := tp Tryz.f120
variable (K : VK) (y0 : Value) (w : World)
def k3 : Prop := nk ann 9 [(0, y0)] w [1, 1] code (top K)
attribute [irreducible] k3
end F120
theorem F120.k3.to (h : (C.aj .add y0 (.int .i64 32) w fun a b =>
 C.bi Tryz.prog .quo 3 (.tmp 7) (.const (.int .i64 32)) a (.int .i64 32) b fun c d =>
 K c d)) : F120.k3 K y0 w := qq h
theorem F120.sh (h : (C.q Tryz.prog 117 #[x0] w fun a b =>
 C.aj .neq a (.int .i64 5) b fun c d =>
 C.am c (K (.int .i64 0) d) (F120.k3 K x0 d))) : C.q Tryz.prog 120 #[x0] w K := q9 (A := F120.ann) (args := [x0]) (qq h)
namespace F175
def ann : Ann := ⟨[(3, [0])], [], [], [], none⟩
def code := cd Tryz.f175
def top := tp Tryz.f175
variable (K : VK) (y0 : Value) (w : World)
def k3 : Prop := nk ann 12 [(0, y0)] w [1, 1] code (top K)
attribute [irreducible] k3
end F175
theorem F175.k3.to (h : (C.aj .sub y0 (.int .i64 1) w fun a b =>
 C.bi Tryz.prog .shl 3 (.const (.int .i64 2)) (.tmp 10) (.int .i64 2) a b fun c d =>
 K c d)) : F175.k3 K y0 w := qq h
theorem F175.sh (h : (C.aj .lss x0 (.int .i64 1) w fun a b =>
 C.i false a (fun K => K x0 b) b fun c d =>
 C.i false a (fun K => C.aj .geq c (.int .i64 5) d K) d fun f g =>
 C.a2 (some a) (some (.bool true)) (some f) g fun i j =>
 C.am i (K (.int .i64 0) j) (F175.k3 K x0 j))) : C.q Tryz.prog 175 #[x0] w K := q9 (A := F175.ann) (args := [x0]) (qq h)
namespace F263
def ann : Ann := ⟨[(3, [0])], [], [], [], none⟩
def code := cd Tryz.f263
def top := tp Tryz.f263
variable (K : VK) (y0 : Value) (w : World)
def k3 : Prop := nk ann 9 [(0, y0)] w [1, 1] code (top K)
attribute [irreducible] k3
end F263
theorem F263.k3.to (h : (C.q Tryz.prog 175 #[y0] w fun a b =>
 C.bi Tryz.prog .quo 3 (.const (.int .i64 32)) (.tmp 7) (.int .i64 32) a b fun c d =>
 K c d)) : F263.k3 K y0 w := qq h
theorem F263.sh (h : (C.q Tryz.prog 175 #[x0] w fun a b =>
 C.aj .eql a (.int .i64 0) b fun c d =>
 C.am c (K (.int .i64 0) d) (F263.k3 K x0 d))) : C.q Tryz.prog 263 #[x0] w K := q9 (A := F263.ann) (args := [x0]) (qq h)
namespace F272
def ann : Ann := ⟨[(3, [0])], [], [], [], none⟩
def code := cd Tryz.f272
def top := tp Tryz.f272
variable (K : VK) (y0 : Value) (w : World)
def k3 : Prop := nk ann 11 [(0, y0)] w [1, 1] code (top K)
attribute [irreducible] k3
end F272
theorem F272.k3.to (h : (C.bi Tryz.prog .quo 3 (.tmp 9) (.const (.int .i64 32)) y0 (.int .i64 32) w fun a b =>
 K a b)) : F272.k3 K y0 w := qq h
theorem F272.sh (h : (C.aj .lss x0 (.int .i64 0) w fun a b =>
 C.i false a (fun K => K x0 b) b fun c d =>
 C.i false a (fun K => C.aj .geq c (.int .i64 2048) d K) d fun f g =>
 C.a2 (some a) (some (.bool true)) (some f) g fun i j =>
 C.am i (K (.int .i64 (-1)) j) (F272.k3 K x0 j))) : C.q Tryz.prog 272 #[x0] w K := q9 (A := F272.ann) (args := [x0]) (qq h)
namespace F284
def ann : Ann := ⟨[(3, [0, 1])], [], [], [], none⟩
def code := cd Tryz.f284
def top := tp Tryz.f284
variable (K : VK) (y0 y1 : Value) (w : World)
def k3 : Prop := nk ann 19 [(0, y0), (1, y1)] w [1, 1] code (top K)
attribute [irreducible] k3
end F284
theorem F284.k3.to (h : (C.q Tryz.prog 175 #[y0] w fun a b =>
 C.bi Tryz.prog .rem 3 (.tmp 14) (.tmp 16) y1 a b fun c d =>
 C.aj .sub y1 c d fun f g =>
 K f g)) : F284.k3 K y0 y1 w := qq h
theorem F284.sh (h : (C.q Tryz.prog 175 #[x0] w fun a b =>
 C.aj .eql a (.int .i64 0) b fun c d =>
 C.i false c (fun K => K x1 d) d fun f g =>
 C.i false c (fun K => C.q Tryz.prog 272 #[f] g K) g fun i j =>
 C.i false c (fun K => C.aj .lss i (.int .i64 0) j K) j fun k m =>
 C.a2 (some c) (some (.bool true)) (some k) m fun o p =>
 C.am o (K (.int .i64 (-1)) p) (F284.k3 K x0 x1 p))) : C.q Tryz.prog 284 #[x0, x1] w K := q9 (A := F284.ann) (args := [x0, x1]) (qq h)
namespace F343
def ann : Ann := ⟨[(4, [0, 1])], [], [], [], none⟩
def code := cd Tryz.f343
def top := tp Tryz.f343
variable (K : VK) (y0 y1 : Value) (w : World)
def k4 : Prop := nk ann 22 [(0, y0), (1, y1)] w [1, 1] code (top K)
attribute [irreducible] k4
end F343
theorem F343.k4.to (h : (C.q Tryz.prog 346 #[y1] w fun a b =>
 C.q Tryz.prog 175 #[y0] b fun c d =>
 C.bi Tryz.prog .quo 3 (.tmp 18) (.tmp 20) a c d fun f g =>
 K (.tuple #[f, (.bool true)]) g)) : F343.k4 K y0 y1 w := qq h
theorem F343.sh (h : (C.q Tryz.prog 284 #[x0, x1] w fun a b =>
 C.aj .lss a (.int .i64 0) b fun c d =>
 C.i false c (fun K => K a d) d fun f g =>
 C.i false c (fun K => K x1 g) g fun i j =>
 C.i false c (fun K => C.aj .neq f i j K) j fun k m =>
 C.a2 (some c) (some (.bool true)) (some k) m fun o p =>
 C.am o (K (.tuple #[(.int .i64 0), (.bool false)]) p) (F343.k4 K x0 x1 p))) : C.q Tryz.prog 343 #[x0, x1] w K := q9 (A := F343.ann) (args := [x0, x1]) (qq h)
namespace F346
def ann : Ann := ⟨[(3, [0])], [], [], [], none⟩
def code := cd Tryz.f346
def top := tp Tryz.f346
variable (K : VK) (y0 : Value) (w : World)
def k3 : Prop := nk ann 8 [(0, y0)] w [1, 1] code (top K)
attribute [irreducible] k3
end F346
theorem F346.k3.to (h : (C.bi Tryz.prog .rem 3 (.tmp 6) (.const (.int .i64 32)) y0 (.int .i64 32) w fun a b =>
 K a b)) : F346.k3 K y0 w := qq h
theorem F346.sh (h : (C.q Tryz.prog 272 #[x0] w fun a b =>
 C.aj .lss a (.int .i64 0) b fun c d =>
 C.am c (K (.int .i64 (-1)) d) (F346.k3 K x0 d))) : C.q Tryz.prog 346 #[x0] w K := q9 (A := F346.ann) (args := [x0]) (qq h)
namespace F249
def ann : Ann := ⟨[(3, [0, 1, 2])], [], [], [], none⟩
def code := cd Tryz.f249
def top := tp Tryz.f249
variable (K : VK) (y0 y1 y2 : Value) (w : World)
def k3 : Prop := nk ann 31 [(0, y0), (1, y1), (2, y2)] w [1, 1] code (top K)
attribute [irreducible] k3
end F249
theorem F249.k3.to (h : (C.aj .mul y0 (.int .i64 32) w fun a b =>
 C.q Tryz.prog 175 #[y1] b fun c d =>
 C.aj .mul y2 c d fun f g =>
 C.aj .add a f g fun i j =>
 K (.tuple #[i, (.bool true)]) j)) : F249.k3 K y0 y1 y2 w := qq h
theorem F249.sh (h : (C.aj .lss x0 (.int .i64 0) w fun a b =>
 C.i false a (fun K => K x0 b) b fun c d =>
 C.i false a (fun K => C.aj .geq c (.int .i64 64) d K) d fun f g =>
 C.a2 (some a) (some (.bool true)) (some f) g fun i j =>
 C.i false i (fun K => K x2 j) j fun k m =>
 C.i false i (fun K => C.aj .lss k (.int .i64 0) m K) m fun o p =>
 C.a2 (some i) (some (.bool true)) (some o) p fun q r =>
 C.i false q (fun K => K x2 r) r fun s t =>
 C.i false q (fun K => K x1 t) t fun u v =>
 C.i false q (fun K => C.q Tryz.prog 263 #[u] v K) v fun x y =>
 C.i false q (fun K => C.aj .geq s x y K) y fun z aa =>
 C.a2 (some q) (some (.bool true)) (some z) aa fun ab ac =>
 C.am ab (K (.tuple #[(.int .i64 0), (.bool false)]) ac) (F249.k3 K x0 x1 x2 ac))) : C.q Tryz.prog 249 #[x0, x1, x2] w K := q9 (A := F249.ann) (args := [x0, x1, x2]) (qq h)
namespace F177
def ann : Ann := ⟨[(3, [0, 1])], [], [], [], none⟩
def code := cd Tryz.f177
def top := tp Tryz.f177
variable (K : VK) (y0 y1 : Value) (w : World)
def k3 : Prop := nk ann 30 [(0, y0), (1, y1)] w [1, 1] code (top K)
attribute [irreducible] k3
end F177
theorem F177.k3.to (h : (C.aj .mul y0 (.int .i64 32) w fun a b =>
 C.aj .add y0 y1 b fun c d =>
 C.aj .mul c (.int .i64 32) d fun f g =>
 C.aj .sub f (.int .i64 1) g fun i j =>
 K (.tuple #[a, i, (.bool true)]) j)) : F177.k3 K y0 y1 w := qq h
theorem F177.sh (h : (C.aj .lss x0 (.int .i64 0) w fun a b =>
 C.i false a (fun K => K x1 b) b fun c d =>
 C.i false a (fun K => C.aj .lss c (.int .i64 1) d K) d fun f g =>
 C.a2 (some a) (some (.bool true)) (some f) g fun i j =>
 C.i false i (fun K => K x0 j) j fun k m =>
 C.i false i (fun K => C.aj .geq k (.int .i64 64) m K) m fun o p =>
 C.a2 (some i) (some (.bool true)) (some o) p fun q r =>
 C.i false q (fun K => K x1 r) r fun s t =>
 C.i false q (fun K => K x0 t) t fun u v =>
 C.i false q (fun K => C.aj .sub (.int .i64 64) u v K) v fun x y =>
 C.i false q (fun K => C.aj .gtr s x y K) y fun z aa =>
 C.a2 (some q) (some (.bool true)) (some z) aa fun ab ac =>
 C.am ab (K (.tuple #[(.int .i64 0), (.int .i64 0), (.bool false)]) ac) (F177.k3 K x0 x1 ac))) : C.q Tryz.prog 177 #[x0, x1] w K := q9 (A := F177.ann) (args := [x0, x1]) (qq h)
namespace F180
def ann : Ann := ⟨[(3, [0, 1])], [], [], [], none⟩
def code := cd Tryz.f180
def top := tp Tryz.f180
variable (K : VK) (y0 y1 : Value) (w : World)
def k3 : Prop := nk ann 24 [(0, y0), (1, y1)] w [1, 1] code (top K)
attribute [irreducible] k3
end F180
theorem F180.k3.to (h : (C.aj .mul y0 (.int .i64 128) w fun a b =>
 C.aj .add a y1 b fun c d =>
 K (.tuple #[c, (.bool true)]) d)) : F180.k3 K y0 y1 w := qq h
theorem F180.sh (h : (C.aj .lss x0 (.int .i64 0) w fun a b =>
 C.i false a (fun K => K x0 b) b fun c d =>
 C.i false a (fun K => C.aj .geq c (.int .i64 1099511627776) d K) d fun f g =>
 C.a2 (some a) (some (.bool true)) (some f) g fun i j =>
 C.i false i (fun K => K x1 j) j fun k m =>
 C.i false i (fun K => C.aj .lss k (.int .i64 0) m K) m fun o p =>
 C.a2 (some i) (some (.bool true)) (some o) p fun q r =>
 C.i false q (fun K => K x1 r) r fun s t =>
 C.i false q (fun K => C.aj .gtr s (.int .i64 127) t K) t fun u v =>
 C.a2 (some q) (some (.bool true)) (some u) v fun x y =>
 C.am x (K (.tuple #[(.int .i64 0), (.bool false)]) y) (F180.k3 K x0 x1 y))) : C.q Tryz.prog 180 #[x0, x1] w K := q9 (A := F180.ann) (args := [x0, x1]) (qq h)
namespace F199
def ann : Ann := ⟨[(3, [0])], [], [], [], none⟩
def code := cd Tryz.f199
def top := tp Tryz.f199
variable (K : VK) (y0 : Value) (w : World)
def k3 : Prop := nk ann 16 [(0, y0)] w [1, 1] code (top K)
attribute [irreducible] k3
end F199
theorem F199.k3.to (h : (C.bi Tryz.prog .quo 2 (.tmp 12) (.const (.int .i64 128)) y0 (.int .i64 128) w fun a b =>
 C.bi Tryz.prog .rem 2 (.tmp 14) (.const (.int .i64 128)) y0 (.int .i64 128) b fun c d =>
 K (.tuple #[a, c, (.bool true)]) d)) : F199.k3 K y0 w := qq h
theorem F199.sh (h : (C.aj .lss x0 (.int .i64 0) w fun a b =>
 C.i false a (fun K => K x0 b) b fun c d =>
 C.i false a (fun K => C.bi Tryz.prog .quo 2 (.tmp 8) (.const (.int .i64 128)) c (.int .i64 128) d K) d fun f g =>
 C.i false a (fun K => C.aj .geq f (.int .i64 1099511627776) g K) g fun i j =>
 C.a2 (some a) (some (.bool true)) (some i) j fun k m =>
 C.am k (K (.tuple #[(.int .i64 0), (.int .i64 0), (.bool false)]) m) (F199.k3 K x0 m))) : C.q Tryz.prog 199 #[x0] w K := q9 (A := F199.ann) (args := [x0]) (qq h)

theorem F113.sh (h : (C.q Tryz.prog 66 #[x0, (.int .i64 0), (.int .i64 9)] w fun a b =>
 C.ay Tryz.prog (Instr.makeMap 245 none) b fun c d =>
 C.ay Tryz.prog (Instr.build 247 #[(0, a), (1, c)]) d fun f g =>
 C.a3 (.cells (Value.cells f) 247) g fun i j =>
 K i j)) : C.q Tryz.prog 113 #[x0] w K := q9 (A := A0) (args := [x0]) (qq h)
namespace F124
def ann : Ann := ⟨[(3, [0, 1, 2, 3]), (6, [0, 1, 2, 3])], [], [], [], none⟩
def code := cd Tryz.f124
def top := tp Tryz.f124
variable (K : VK) (y0 y1 y2 y3 : Value) (w : World)
def k3 : Prop := nk ann 61 [(0, y0), (1, y1), (2, y2), (3, y3)] w [1, 1] code (top K)
def k6 : Prop := nk ann 61 [(0, y0), (1, y1), (2, y2), (3, y3)] w [1, 1, 1] code (top K)
attribute [irreducible] k3 k6
end F124
theorem F124.k3.to (h : (C.q Tryz.prog 185 #[y0, y3] w fun a b =>
 C.a0 0 a b fun c d =>
 C.a0 1 a d fun f g =>
 C.aj .geq c (.int .i64 0) g fun i j =>
 C.am i (K (.bool false) j) (F124.k6 K y0 y1 y2 y3 j))) : F124.k3 K y0 y1 y2 y3 w := qq h
theorem F124.k6.to (h : (C.ad y0 w fun a b =>
 C.ab 1 a b fun c d =>
 C.ai c d fun f g =>
 C.ay Tryz.prog (Instr.build 265 #[(0, y1), (1, y2)]) g fun i j =>
 C.cx Tryz.prog (Instr.mapUpdate 245 f i y3) j fun k =>
 K (.bool true) k)) : F124.k6 K y0 y1 y2 y3 w := qq h
theorem F124.sh (h : (C.bi Tryz.prog .eql 168 (.tmp 11) (.const (.pointer none)) x0 (.pointer none) w fun a b =>
 C.i false a (fun K => K x0 b) b fun c d =>
 C.i false a (fun K => C.ad c d K) d fun f g =>
 C.i false a (fun K => C.ab 1 f g K) g fun i j =>
 C.i false a (fun K => C.ai i j K) j fun k m =>
 C.i false a (fun K => C.bi Tryz.prog .eql 245 (.tmp 17) (.const (.map none)) k (.map none) m K) m fun o p =>
 C.a2 (some a) (some (.bool true)) (some o) p fun q r =>
 C.i false q (fun K => K x1 r) r fun s t =>
 C.i false q (fun K => C.aj .lss s (.int .i64 0) t K) t fun u v =>
 C.a2 (some q) (some (.bool true)) (some u) v fun x y =>
 C.i false x (fun K => K x1 y) y fun z aa =>
 C.i false x (fun K => K x0 aa) aa fun ab ac =>
 C.i false x (fun K => C.ad ab ac K) ac fun ad ae =>
 C.i false x (fun K => C.ab 0 ad ae K) ae fun af ag =>
 C.i false x (fun K => C.ai af ag K) ag fun ah ai =>
 C.i false x (fun K => C.aj .geq z ah ai K) ai fun aj ak =>
 C.a2 (some x) (some (.bool true)) (some aj) ak fun al am =>
 C.i false al (fun K => K x2 am) am fun an ao =>
 C.i false al (fun K => C.q Tryz.prog 175 #[an] ao K) ao fun ap aq =>
 C.i false al (fun K => C.aj .eql ap (.int .i64 0) aq K) aq fun ar au =>
 C.a2 (some al) (some (.bool true)) (some ar) au fun av aw =>
 C.i false av (fun K => K x3 aw) aw fun ax ay =>
 C.i false av (fun K => C.aj .lss ax (.int .i64 0) ay K) ay fun az ba =>
 C.a2 (some av) (some (.bool true)) (some az) ba fun bb bc =>
 C.i false bb (fun K => K x3 bc) bc fun bd be =>
 C.i false bb (fun K => C.aj .geq bd (.int .i64 64) be K) be fun bf bg =>
 C.a2 (some bb) (some (.bool true)) (some bf) bg fun bh bi =>
 C.am bh (K (.bool false) bi) (F124.k3 K x0 x1 x2 x3 bi))) : C.q Tryz.prog 124 #[x0, x1, x2, x3] w K := q9 (A := F124.ann) (args := [x0, x1, x2, x3]) (qq h)
namespace F184
def ann : Ann := ⟨[(3, [0, 1, 2]), (6, [])], [], [], [], none⟩
def code := cd Tryz.f184
def top := tp Tryz.f184
variable (K : VK) (y0 y1 y2 : Value) (w : World)
def k3 : Prop := nk ann 24 [(0, y0), (1, y1), (2, y2)] w [1, 1] code (top K)
def k6 : Prop := nk ann 24 [] w [1, 1, 1] code (top K)
attribute [irreducible] k3 k6
end F184
theorem F184.k3.to (h : (C.ad y0 w fun a b =>
 C.ab 1 a b fun c d =>
 C.ai c d fun f g =>
 C.ay Tryz.prog (Instr.build 265 #[(0, y1), (1, y2)]) g fun i j =>
 C.ay Tryz.prog (Instr.lookup 245 f i true) j fun k m =>
 C.a0 0 k m fun o p =>
 C.a0 1 k p fun q r =>
 C.am q (K o r) (F184.k6 K r))) : F184.k3 K y0 y1 y2 w := qq h
theorem F184.k6.to (h : (K (.int .i64 (-1)) w)) : F184.k6 K w := qq h
theorem F184.sh (h : (C.bi Tryz.prog .eql 168 (.tmp 9) (.const (.pointer none)) x0 (.pointer none) w fun a b =>
 C.am a (K (.int .i64 (-1)) b) (F184.k3 K x0 x1 x2 b))) : C.q Tryz.prog 184 #[x0, x1, x2] w K := q9 (A := F184.ann) (args := [x0, x1, x2]) (qq h)
namespace F185
def ann : Ann := ⟨[(3, [0, 1]), (5, [1, 14]), (8, [])], [(4, [1, 14])], [], [(7, (.take 0 (.take 2 (.take 1 (.take 4 (.take 3 (.take 5 .fin)))))))], none⟩
def code := cd Tryz.f185
def top := tp Tryz.f185
variable (K : VK) (y0 y1 y14 : Value) (w : World)
def k3 : Prop := nk ann 27 [(0, y0), (1, y1)] w [1, 1] code (top K)
def k8 : Prop := nk ann 27 [] w [1, 1, 1] code (top K)
def l4 : Prop := nl ann 27 [(1, y1), (14, y14)] w [1, 1, 0, 1, 0] code (top K)
def k5 : Prop := nk ann 27 [(1, y1), (14, y14)] w [1, 1, 0, 1, 0, 0, 1, 1] code (top K)
attribute [irreducible] k3 k8 l4 k5
end F185
theorem F185.k3.to (h : (C.ad y0 w fun a b =>
 C.ab 1 a b fun c d =>
 C.ai c d fun f g =>
 C.ay Tryz.prog (Instr.range 245 f) g fun i j =>
 F185.l4 K y1 i j)) : F185.k3 K y0 y1 w := qq h
theorem F185.k8.to (h : (K (.tuple #[(.int .i64 (-1)), (.int .i64 0)]) w)) : F185.k8 K w := qq h
theorem F185.l4.to (h : (C.ay Tryz.prog (Instr.next y14 false 0) w fun a b =>
 C.a0 0 a b fun c d =>
 C.am c (F185.k5 K y1 y14 d) (F185.k8 K d))) : F185.l4 K y1 y14 w := by unfold F185.l4 nl; exact qag (qq h)
theorem F185.k5.to (h : (C.ay Tryz.prog (Instr.entry y14) w fun a b =>
 C.a0 0 a b fun c d =>
 C.a0 1 a d fun f g =>
 C.a3 (.cells #[.int .i64 0, .int .i64 0] 265) g fun i j =>
 C.ak 2 i c j fun k =>
 C.aj .eql f y1 k fun m o =>
 C.am m (C.a9 o fun S p =>
 C.ab 0 i p fun q r =>
 C.ab 1 i r fun s t =>
 C.ap S q t fun u v =>
 C.ap S s v fun x y =>
 K (.tuple #[u, x]) y) (F185.l4 K y1 y14 o))) : F185.k5 K y1 y14 w := qq h
theorem F185.sh (h : (C.bi Tryz.prog .eql 168 (.tmp 8) (.const (.pointer none)) x0 (.pointer none) w fun a b =>
 C.am a (K (.tuple #[(.int .i64 (-1)), (.int .i64 0)]) b) (F185.k3 K x0 x1 b))) : C.q Tryz.prog 185 #[x0, x1] w K := q9 (A := F185.ann) (args := [x0, x1]) (qq h)
namespace F211
def ann : Ann := ⟨[(3, [0, 1]), (6, [0, 1, 5, 6]), (7, [0, 1, 5, 6]), (11, [5])], [(5, [0, 1, 5, 6])], [], [], none⟩
def code := cd Tryz.f211
def top := tp Tryz.f211
variable (K : VK) (y0 y1 y5 y6 : Value) (w : World)
def k3 : Prop := nk ann 35 [(0, y0), (1, y1)] w [1, 1] code (top K)
def k11 : Prop := nk ann 35 [(5, y5)] w [1, 1, 1, 1] code (top K)
def l5 : Prop := nl ann 35 [(0, y0), (1, y1), (5, y5), (6, y6)] w [1, 1, 1, 0, 1, 0] code (top K)
def k7 : Prop := nk ann 35 [(0, y0), (1, y1), (5, y5), (6, y6)] w [1, 1, 1, 0, 1, 0, 0, 1] code (top K)
def k6 : Prop := nk ann 35 [(0, y0), (1, y1), (5, y5), (6, y6)] w [1, 1, 1, 0, 1, 0, 0, 1, 1] code (top K)
attribute [irreducible] k3 k11 l5 k7 k6
end F211
theorem F211.k3.to (h : (F211.l5 K y0 y1 (.slice none 0 0) (.int .i64 1) w)) : F211.k3 K y0 y1 w := qq h
theorem F211.k11.to (h : (C.q Tryz.prog 262 #[y5] w fun a b =>
 K y5 b)) : F211.k11 K y5 w := qq h
theorem F211.l5.to (h : (C.q Tryz.prog 175 #[y6] w fun a b =>
 C.aj .gtr a (.int .i64 0) b fun c d =>
 C.am c (F211.k7 K y0 y1 y5 y6 d) (F211.k11 K y5 d))) : F211.l5 K y0 y1 y5 y6 w := by unfold F211.l5 nl; exact qag (qq h)
theorem F211.k7.to (h : (C.q Tryz.prog 184 #[y0, y1, y6] w fun a b =>
 C.aj .geq a (.int .i64 0) b fun c d =>
 C.am c (C.ay Tryz.prog (Instr.buildSlice 54 1 #[(0, a)]) d fun f g =>
 C.ay Tryz.prog (Builtin.append_ #[54, 54] 54 #[y5, f]) g fun i j =>
 C.ad y0 j fun k m =>
 C.ab 1 k m fun o p =>
 C.ai o p fun q r =>
 C.ay Tryz.prog (Instr.build 265 #[(0, y1), (1, y6)]) r fun s t =>
 C.ay Tryz.prog (Builtin.delete_ #[245, 265] 0 #[q, s]) t fun _ u =>
 F211.k6 K y0 y1 i y6 u) (F211.k6 K y0 y1 y5 y6 d))) : F211.k7 K y0 y1 y5 y6 w := qq h
theorem F211.k6.to (h : (C.aj .add y6 (.int .i64 1) w fun a b =>
 F211.l5 K y0 y1 y5 a b)) : F211.k6 K y0 y1 y5 y6 w := qq h
theorem F211.sh (h : (C.bi Tryz.prog .eql 168 (.tmp 8) (.const (.pointer none)) x0 (.pointer none) w fun a b =>
 C.am a (K (.slice none 0 0) b) (F211.k3 K x0 x1 b))) : C.q Tryz.prog 211 #[x0, x1] w K := q9 (A := F211.ann) (args := [x0, x1]) (qq h)
end
end Go.Proofs.YtcakfaakbpdklaaGreatDoorV
namespace Go.Proofs.YtcakfaakbpdklaaGreatDoorV
open Go Go.Proofs Go.RowKit
set_option linter.unusedVariables false
set_option linter.unusedSimpArgs false
def w64 (n : Int) : Int := IntKind.i64.wrap n
def csz (k : Int) : Int := if k = 1 then 2 else if k = 2 then 4 else if k = 3 then 8 else if k = 4 then 16 else 0
def cOf (n : Int) : Int := if n < 0 ∨ n > 127 then 0 else if n < 2 then 1 else if n < 4 then 2 else if n < 8 then 3 else if n < 16 then 4 else 5
def qai (k : Int) : Int := if k = 1 then 16 else if k = 2 then 8 else if k = 3 then 4 else if k = 4 then 2 else 0
def qdu (n : Int) : Int := if cOf n = 5 then (n + 32) / 32 else 0
def qas (a : Int) : Int := if 0 ≤ a ∧ a < 2048 then a / 32 else -1
def gAt (p k i : Int) : Int × Bool := if 0 ≤ p ∧ p < 64 ∧ 0 ≤ i ∧ i < qai k then (p * 32 + i * csz k, true) else (0, false)
def qdv (k a : Int) : Int := if csz k = 0 ∨ qas a < 0 then -1 else a - a % csz k
def qfj (k a : Int) : Int × Bool := if qdv k a < 0 ∨ qdv k a ≠ a then (0, false) else (a % 32 / csz k, true)
def qhu (p n : Int) : Int × Int × Bool := if 0 ≤ p ∧ 1 ≤ n ∧ p < 64 ∧ n ≤ 64 - p then (p * 32, (p + n) * 32 - 1, true) else (0, 0, false)
def qhv (s n : Int) : Int := if 0 ≤ s ∧ s < 1099511627776 ∧ 0 ≤ n ∧ n ≤ 127 then s * 128 + n else 0
def qfz (w : Int) : Int × Int := if 0 ≤ w ∧ w / 128 < 1099511627776 then (w / 128, w % 128) else (0, 0)
abbrev V2 := Int × Int
def chk (k n : Int) : Int := if k = 0 then (if n = 0 then 0 else 4) else if k = 1 then (if -1099511627776 ≤ n ∧ n < 1099511627776 then 0 else 4) else if k = 2 then (if 0 ≤ n ∧ n < 2048 then 0 else 4) else 12
def qmo (k n : Int) : Int := if k = 2 then 2 * n + 2 else if k = 1 then 2 * n + 1 else 0
def rdK (a : Int) : Int := if a % 2 = 1 then 1 else if a = 0 then 0 else 2
def rdN (a : Int) : Int := if a % 2 = 1 then a / 2 else if a = 0 then 0 else a.tdiv 2 - 1
def vOk (v : V2) : Bool := decide (chk v.1 v.2 = 0)
def qka (v : V2) : Int := qmo v.1 v.2
def qgr (w : Int) : V2 × Bool := if chk (rdK w) (rdN w) = 0 then ((rdK w, rdN w), true) else ((0, 0), false)
def mIn (m : List Int) (a n : Int) : Prop := 0 ≤ a ∧ 0 ≤ n ∧ a ≤ m.length ∧ n ≤ m.length - a
instance (m : List Int) (a n : Int) : Decidable (mIn m a n) := by unfold mIn; infer_instance
def qc0 (m : List Int) (a : Int) : Int := if mIn m a 1 then m.getD a.toNat 0 else 0
def qbj (m : List Int) (a n w : Int) : List Int := if mIn m a n then m.take a.toNat ++ List.replicate n.toNat w ++ m.drop (a.toNat + n.toNat) else m
theorem qdp (m : List Int) (a n w : Int) : (qbj m a n w).length = m.length := by
  unfold qbj
  split
  · rename_i h
    unfold mIn at h
    simp only [List.length_append, List.length_take, List.length_replicate, List.length_drop]
    omega
  · rfl
def qf4 (m : List Int) (a w : Int) : List Int := qbj m a 1 w
abbrev Bs := Nat → Bool
def qd5 (n : Int) (s : Bs) (i : Int) : Bool := decide (0 ≤ i) && decide (i < n) && s i.toNat
def qdg (s : Bs) (i : Nat) (b : Bool) : Bs := fun j => if j = i then b else s j
def qjx (n : Int) (s : Bs) (i : Int) : Bs := if 0 ≤ i ∧ i < n then qdg s i.toNat true else s
def qlu (n : Int) (s : Bs) (i : Int) : Bs := if qd5 n s i then qdg s i.toNat false else s
def qij (n : Int) (s : Bs) : List Int := ((List.range n.toNat).filter s).map Int.ofNat
def kAt (ks : List Int) (p : Int) : Int := if 0 ≤ p ∧ p < ks.length then ks.getD p.toNat 0 else -1
def qgh (ks : List Int) (k : Int) : Option Nat := if csz k = 0 then none else ks.findIdx? fun k => decide (k = 0)
def qdo (n : Nat) : List Int → Nat → Nat → Option Nat
  | [], p, run => if n ≤ run then some (p - run) else none
  | k :: ks, p, run => if k = 0 then qdo n ks (p + 1) (run + 1) else if 0 < run ∧ n ≤ run then some (p - run) else qdo n ks (p + 1) 0
def qea (ks : List Int) (n : Int) : Option Nat := if n < 1 then none else qdo n.toNat ks 0 0
def qb5 (ks : List Int) (p n : Nat) (k : Int) : List Int := ks.take p ++ List.replicate n k ++ ks.drop (p + n)
def qco : List Int → Nat
  | [] => 0
  | k :: ks => if k = 6 then qco ks + 1 else 0
def qbh (ks : List Int) (p : Int) : Nat := if csz (kAt ks p) > 0 then 1 else if kAt ks p = 5 then qco (ks.drop (p.toNat + 1)) + 1 else 0
def qhw (ks : List Int) (p : Int) : List Int := if qbh ks p = 0 then ks else qb5 ks p.toNat (qbh ks p) 0
def qgg (ks : List Int) : Nat → Int
  | 0 => if kAt ks 0 = 6 then -1 else 0
  | p + 1 => if kAt ks ((p + 1 : Nat) : Int) = 6 then qgg ks p else ((p + 1 : Nat) : Int)
def qdx (ks : List Int) (p : Int) : Int := if qbh ks (if 0 ≤ p then qgg ks p.toNat else p) = 0 then -1 else if 0 ≤ p then qgg ks p.toNat else p
def qct (ks : List Int) : Int := ks.countP fun k => decide (k = 0)
def qdj (m : List Int) (p k : Int) : Prop := 0 ≤ p ∧ p < 64 ∧ 0 < qai k ∧ p * 32 + 31 < m.length
instance (m : List Int) (p k : Int) : Decidable (qdj m p k) := by unfold qdj; infer_instance
def qi7 (m : List Int) (p k i next : Int) : List Int := qf4 m (gAt p k i).1 (-1 - next)
def qfy (m : List Int) (p k : Int) : Nat → List Int
  | 0 => m
  | i + 1 => qi7 (qfy m p k i) p k i (i + 1)
def qc4 (m : List Int) (p k : Int) : List Int × (Int × Int) := if qdj m p k then (qfy (qbj m (p * 32) 32 0) p k (qai k).toNat, (0, qai k)) else (m, (0, 0))
def qk7 (m : List Int) (p k i : Int) : Option Int := let w := qc0 m (gAt p k i).1; if 0 ≤ w ∨ w < -1 - qai k then none else some (-1 - w)
def qb0 (m : List Int) (p k : Int) (l : Int × Int) : Int × (Int × Int) := if qdj m p k ∧ 1 ≤ l.2 ∧ 0 ≤ l.1 ∧ l.1 < qai k then (match qk7 m p k l.1 with
    | some x => (l.1, (x, l.2 - 1))
    | none => (0, (0, 0))) else (0, (0, 0))
def qdw (m : List Int) (p k : Int) (l : Int × Int) (i : Int) : List Int × (Int × Int) := if qdj m p k ∧ 0 ≤ i ∧ i < qai k ∧ 0 ≤ l.2 ∧ l.2 < qai k ∧ 0 ≤ l.1 ∧ l.1 ≤ qai k then (qi7 m p k i l.1, (i, l.2 + 1)) else (m, (0, 0))
structure Ce where
  ks : List Int
  m : List Int
  ch : List (Int × Int)
  tk : Bs
def Ce.n (c : Ce) : Int := c.m.length
def Ce.small (c : Ce) (p : Int) : Bool := decide (csz (kAt c.ks p) > 0)
def Ce.chain (c : Ce) (p : Int) : Int × Int := c.ch.getD p.toNat (0, 0)
def Ce.left (c : Ce) (p : Int) : Int := if c.small p then (c.chain p).2 else 0
def Ce.carve (c : Ce) (k : Int) : Ce × Option Nat := match qgh c.ks k with
  | none => (c, none)
  | some p => ({ c with ks := c.ks.set p k, m := (qc4 c.m p k).1, ch := c.ch.set p (qc4 c.m p k).2 }, some p)
def Ce.take (c : Ce) (p : Int) : Ce × Option Int := if c.left p = 0 then (c, none) else
  let k := kAt c.ks p
  let r := qb0 c.m p k (c.chain p)
  let a := (gAt p k r.1).1
  ({ c with ch := c.ch.set p.toNat r.2, tk := qjx c.n c.tk a, m := qbj c.m a (csz k) 0 }, some a)
def Ce.large (c : Ce) (n : Int) : Ce × Option Int := match qea c.ks n with
  | none => (c, none)
  | some p =>
    let a := (qhu p n).1
    ({ c with ks := (qb5 c.ks p n.toNat 6).set p 5, tk := qjx c.n c.tk a, m := qbj c.m a (n * 32) 0 }, some a)
def Ce.isIt (c : Ce) (a : Int) : Bool := qd5 c.n c.tk a
def Ce.give (c : Ce) (a : Int) : Ce × Bool := if c.isIt a then
    let t := qlu c.n c.tk a
    let p := qas a
    let k := kAt c.ks p
    if k = 5 then ({ c with tk := t, ks := qhw c.ks p }, true) else
    let r := qdw c.m p k (c.chain p) (qfj k a).1
    ({ c with tk := t, m := r.1, ch := c.ch.set p.toNat r.2 }, true) else (c, false)
def Ce.drop (c : Ce) (p : Int) : Ce × Bool := if c.small p ∧ qai (kAt c.ks p) ≤ c.left p then ({ c with ks := qhw c.ks p }, true) else (c, false)
def Ce.base (c : Ce) (a : Int) : Int :=
  let p := qas a
  let b := qdv (kAt c.ks p) a
  let f := qdx c.ks p
  let d := if b < 0 ∧ 0 ≤ f then (qhu f 1).1 else b
  if c.isIt d then d else -1
def Ce.store (c : Ce) (a w : Int) : Ce × Bool := if 0 ≤ c.base a ∧ mIn c.m a 1 then ({ c with m := qf4 c.m a w }, true) else (c, false)
abbrev Om := Int × Int → Option Int
def qjh : List (Int × Int) := (List.range 9).flatMap fun t : Nat => [(Int.ofNat t, 1), (Int.ofNat t, 2), (Int.ofNat t, 3), (Int.ofNat t, 4)]
def qfm (f : Om) (a : Int × Int) : Int := (f a).getD (-1)
def qb1 (f : Om) (p : Int) : Int × Int := match qjh.find? (fun a => decide (f a = some p)) with
  | some a => a
  | none => (-1, 0)
def qtt (f : Om) (a : Int × Int) (p : Int) : Om := fun b => if b = a then some p else f b
def qpf (f : Om) (t : Int) : Om := fun b => if b.1 = t then none else f b
def qdk (f : Om) (t : Int) : List Int := ([1, 2, 3, 4] : List Int).filterMap fun k => f (t, k)
end Go.Proofs.YtcakfaakbpdklaaGreatDoorV
namespace Go.Proofs.YtcakfaakbpdklaaGreatDoorV
open Go Go.RowKit
set_option linter.unusedVariables false
set_option linter.unusedSimpArgs false
section
variable {κ : Type}
def ent (kv : κ → Value) (x : κ × Value × Nat) : MapEntry := { key := kv x.1, val := x.2.1, born := x.2.2 }
def qb8 (kv : κ → Value) (w : World) (b : Nat) (l : List (κ × Value × Nat)) (c : Nat) : Prop := w.heap[b]? = some (.map (l.map (ent kv)).toArray c)
theorem qb8.keep {kv : κ → Value} {S : List Nat} {w w' : World} {b c : Nat} {l : List (κ × Value × Nat)} (h : qb8 kv w b l c) (hf : Fr S w w') (hS : b ∉ S) : qb8 kv w' b l c := hf.at_ h hS
theorem C.c1 {P : Program} {w : World} {K : VK} {t : TypeId} {kv : κ → Value} (hk : ∀ w', Fr [] w w' → qb8 kv w' w.heap.size [] 0 → w'.heap.size = w.heap.size + 1 → K (.map (some w.heap.size)) w') : C.ay P (Instr.makeMap t none) w K := by
  have hn := New.mk' w (.map #[] 0)
  refine C.a5 (v := .map (some w.heap.size)) (w' := w.alloc (.map #[] 0)) ?_ (hk _ hn.fr hn.at_ hn.sz)
  simp [Instr.makeMap, newObj, Sem.run]
end
section
variable {κ : Type} [DecidableEq κ]
def fnd (a : κ) : List (κ × Value × Nat) → Nat → Option (Nat × Value)
  | [], _ => none
  | x :: l, i => if x.1 = a then some (i, x.2.1) else fnd a l (i + 1)
theorem qd6 {a : κ} : ∀ {l : List (κ × Value × Nat)} {i : Nat}, (∀ x ∈ l, x.1 ≠ a) → fnd a l i = none
  | [], _, _ => rfl
  | x :: l, i, h => by
    unfold fnd
    rw [if_neg (h x (by simp)), qd6 fun y hy => h y (by simp [hy])]
theorem qg6 {a : κ} : ∀ {l : List (κ × Value × Nat)} {i : Nat}, (∃ x ∈ l, x.1 = a) → ∃ (j : Nat) (x : κ × Value × Nat), l[j]? = some x ∧ x.1 = a ∧ (∀ k y, k < j → l[k]? = some y → y.1 ≠ a) ∧ fnd a l i = some (i + j, x.2.1)
  | [], _, h => by obtain ⟨x, hx, _⟩ := h; cases hx
  | y :: l, i, h => by
    by_cases c : y.1 = a
    · exact ⟨0, y, rfl, c, fun k _ hk => by omega, by unfold fnd; rw [if_pos c]; rfl⟩
    · have h' : ∃ x ∈ l, x.1 = a := by
        obtain ⟨x, hx, e⟩ := h
        rcases List.mem_cons.1 hx with d | d
        · subst d; exact absurd e c
        · exact ⟨x, d, e⟩
      obtain ⟨j, x, h1, h2, h3, h4⟩ := qg6 (i := i + 1) h'
      refine ⟨j + 1, x, by simpa using h1, h2, fun k z hk hz => ?_, ?_⟩
      · cases k with
        | zero => simp at hz; subst hz; exact c
        | succ k => exact h3 k z (by omega) (by simpa using hz)
      · unfold fnd
        rw [if_neg c, h4]
        congr 2
        omega
structure qfe (P : Program) (kt : TypeId) (kv : κ → Value) : Prop where
  check : ∀ e a w, (Instr.checkKey e 10000 kt (kv a)).run P w = .ok () w
  find : ∀ a l w, (Instr.findKey kt (kv a) (l.map (ent kv))).run P w = .ok (fnd a l 0) w
  same : ∀ a, Instr.sameBits 10000 (kv a) (kv a) = true
theorem qfe.asked {P : Program} {kt : TypeId} {kv : κ → Value} {d : TypeDesc} (hu : P.underlying kt = some d) (hc : ∀ e a w, (Instr.checkKey e 10000 kt (kv a)).run P w = .ok () w) (hn : ∀ a b, Instr.sameNow d (kv a) (kv b) = none)
    (he : ∀ a b w, (Op.equal kt (kv a) (kv b)).run P w = .ok (decide (a = b)) w) (hs : ∀ a, Instr.sameBits 10000 (kv a) (kv a) = true) : qfe P kt kv where
  check := hc
  find := fun a l w => by
    have key : ∀ (l : List (κ × Value × Nat)) (i : Nat), (Instr.findAsking kt (kv a) (l.map (ent kv)) i).run P w = .ok (fnd a l i) w := by
      intro l
      induction l with
      | nil => intro i; rfl
      | cons x l ih =>
        intro i
        simp only [List.map_cons, Instr.findAsking, ent, Sem.run_bind, he, Result.andThen_ok, fnd]
        by_cases c : x.1 = a
        · simp [c]
        · simp only [Ne.symm c, decide_false, Bool.false_eq_true, if_false, if_neg c]
          exact ih (i + 1)
    cases l with
    | nil => simp [Instr.findKey, run_underlying hu, Instr.findNow, fnd]
    | cons x l =>
      have := key (x :: l) 0
      simp only [List.map_cons] at this ⊢
      simp [Instr.findKey, run_underlying hu, Instr.findNow, ent, hn] at this ⊢
      exact this
  same := hs
section
variable {P : Program} {w : World} {K : VK} {t kt et : TypeId} {kv : κ → Value} {b c : Nat} {l : List (κ × Value × Nat)}
theorem qdn {es : Array MapEntry} {k : Nat} (hb : w.heap[b]? = some (.map es k)) : (getObj b).run P w = .ok (.map es k) w := by simp [getObj, Sem.run, hb]
theorem qex {o : Obj} (hb : w.heap[b]? = some o) (o' : Obj) : Upd w b o' (w.putObj b o') := by
  have hlt := qac hb
  refine ⟨⟨rfl, rfl, rfl, by simp, fun i _ hi => ?_⟩, World.putObj_heap_same hlt, by simp⟩
  simp only [List.mem_singleton] at hi
  exact World.putObj_heap_other hi
theorem qew (es : Array MapEntry) (k : Nat) {es' : Array MapEntry} {k' : Nat} (hb : w.heap[b]? = some (.map es' k')) : (setObj b (.map es k)).run P w = .ok () (w.putObj b (.map es k)) := by
  simp [setObj, Sem.run, World.putObj, hb]
theorem C.cu (hK : qfe P kt kv) (ht : P.underlying t = some (.map kt et)) {z : Value} (hz : qjo P et = some z) (hb : qb8 kv w b l c) (a : κ) {ok : Bool} {v : Value} {is : Bool}
    (hv : (fnd a l 0 = none ∧ v = z ∧ is = false) ∨ (∃ j, fnd a l 0 = some (j, v) ∧ is = true)) (hk : K (if ok then .tuple #[v, .bool is] else v) w) : C.ay P (Instr.lookup t (.map (some b)) (kv a) ok) w K := by
  refine C.a5 ?_ hk
  have hz' := qjf (w := w) hz
  rcases hv with ⟨h1, rfl, rfl⟩ | ⟨j, h1, rfl⟩
  · simp only [Instr.lookup, Sem.run_bind, run_underlying ht, Result.andThen_ok, qdn hb, hK.check, hK.find, h1, hz', Sem.run_pure]
  · simp only [Instr.lookup, Sem.run_bind, run_underlying ht, Result.andThen_ok, qdn hb, hK.check, hK.find, h1, Sem.run_pure]
theorem C.c4 {KU : World → Prop} (hK : qfe P kt kv) (ht : P.underlying t = some (.map kt et)) (hb : qb8 kv w b l c) (a : κ) (v : Value) (hn : fnd a l 0 = none)
    (hk : ∀ w', Fr [b] w w' → w'.heap.size = w.heap.size → qb8 kv w' b (l ++ [(a, v, c)]) (c + 1) → KU w') : C.cx P (Instr.mapUpdate t (.map (some b)) (kv a) v) w KU := by
  have hu := qex hb (.map ((l.map (ent kv)).toArray.push { key := kv a, val := v, born := c }) (c + 1))
  refine ⟨_, ?_, hk _ hu.fr hu.sz ?_⟩
  · simp only [Instr.mapUpdate, Sem.run_bind, run_underlying ht, Result.andThen_ok, qdn hb, hK.check, hK.find, hn, qew _ _ hb]
  · have := hu.at_
    rw [List.push_toArray] at this
    simpa [qb8, ent] using this
theorem C.c5 {KU : World → Prop} (hK : qfe P kt kv) (ht : P.underlying t = some (.map kt et)) (hb : qb8 kv w b l c) (a : κ) (v : Value) {j : Nat} {x : κ × Value × Nat} (hj : l[j]? = some x) (hx : x.1 = a) (hf : fnd a l 0 = some (j, x.2.1))
    (hk : ∀ w', Fr [b] w w' → w'.heap.size = w.heap.size → qb8 kv w' b (l.set j (a, v, x.2.2)) c → KU w') : C.cx P (Instr.mapUpdate t (.map (some b)) (kv a) v) w KU := by
  subst hx
  have hjl : j < l.length := (List.getElem?_eq_some_iff.1 hj).1
  have hxj : l[j] = x := (List.getElem?_eq_some_iff.1 hj).2
  have hkey : ((((l.map (ent kv)).toArray)[j]?).map (·.key)).getD (kv x.1) = kv x.1 := by simp [hj, ent]
  have hu := qex hb (.map ((l.map (ent kv)).toArray.modify j fun e => { e with key := kv x.1, val := v }) c)
  refine ⟨_, ?_, hk _ hu.fr hu.sz ?_⟩
  · simp only [Instr.mapUpdate, Sem.run_bind, run_underlying ht, Result.andThen_ok, qdn hb, hK.check, hK.find, hf, hkey, Instr.keyThatStays, hK.same, if_true, Sem.run_pure, qew _ _ hb]
  · have := hu.at_
    have e : (l.map (ent kv)).toArray.modify j (fun e => { e with key := kv x.1, val := v }) = ((l.set j (x.1, v, x.2.2)).map (ent kv)).toArray := by
      apply Array.ext
      · simp
      · intro i h1 h2
        simp only [Array.getElem_modify, List.getElem_toArray, List.getElem_map, List.getElem_set]
        split
        · rename_i e; subst e; simp [ent, hxj]
        · rfl
    exact this.trans (by rw [e])
theorem C.c3 {t' ty : TypeId} (hK : qfe P kt kv) (ht : P.underlying t = some (.map kt et)) (hb : qb8 kv w b l c) (a : κ) {l' : List (κ × Value × Nat)} (hl : l' = match fnd a l 0 with | some (j, _) => l.eraseIdx j | none => l)
    (hk : ∀ w', Fr [b] w w' → w'.heap.size = w.heap.size → qb8 kv w' b l' c → K (.tuple #[]) w') : C.ay P (Builtin.delete_ #[t, t'] ty #[.map (some b), kv a]) w K := by
  have hu := qex hb (.map ((l'.map (ent kv)).toArray) c)
  refine C.a5 (v := .tuple #[]) ?_ (hk _ hu.fr hu.sz hu.at_)
  cases hf : fnd a l 0 with
  | none =>
    rw [hf] at hl
    subst hl
    simp [Builtin.delete_, run_underlying ht, qdn hb, hK.check, hK.find, hf, qew _ _ hb]
  | some p =>
    obtain ⟨j, v⟩ := p
    rw [hf] at hl
    subst hl
    have e : (l.map (ent kv)).toArray.eraseIdxIfInBounds j = ((l.eraseIdx j).map (ent kv)).toArray := by
      apply Array.ext'
      simp [List.eraseIdx_eq_take_drop_succ]
    simp only [Builtin.delete_, List.getElem?_toArray, List.getElem?_cons_zero, List.getElem?_cons_succ, Sem.run_bind, run_underlying ht, Result.andThen_ok, qdn hb, hK.check, hK.find, hf, qew _ _ hb, e, Sem.run_pure]
end
end
end Go.Proofs.YtcakfaakbpdklaaGreatDoorV
namespace Go.Proofs.YtcakfaakbpdklaaGreatDoorV
open Go Go.Proofs Go.RowKit
set_option linter.unusedVariables false
set_option linter.unusedSimpArgs false
set_option maxRecDepth 10000
def qbp (a : Int × Int) : Value := .agg #[.int .i64 a.1, .int .i64 a.2]
theorem qx7 : ∃ f g : Field, (Tryz.prog.fieldsOf 265).toList = [f, g] ∧ (f.name != "_") = true ∧ (g.name != "_") = true ∧ f.type = 3 ∧ g.type = 3 ∧ f.offset = 0 ∧ g.offset = 1 := ⟨(Tryz.prog.fieldsOf 265)[0]!, (Tryz.prog.fieldsOf 265)[1]!, by kernel_rfl, by kernel_rfl, by kernel_rfl, by kernel_rfl, by kernel_rfl, by kernel_rfl, by kernel_rfl⟩
theorem qru (x y : Int) (w : World) : (part 3 #[.int .i64 x, .int .i64 y] 0).run Tryz.prog w = .ok (.int .i64 x) w := by kernel_rfl
theorem qrv (x y : Int) (w : World) : (part 3 #[.int .i64 x, .int .i64 y] 1).run Tryz.prog w = .ok (.int .i64 y) w := by kernel_rfl
theorem qn6 (x y : Int) (w : World) (d : Nat) : (Op.equalIn (d + 1) 3 (.int .i64 x) (.int .i64 y)).run Tryz.prog w = .ok (x == y) w := by
  simp [Op.equalIn, run_underlying Tryz.underlying3]
theorem qtz (a b : Int × Int) (w : World) (d : Nat) : (Op.equalIn (d + 1 + 1) 265 (qbp a) (qbp b)).run Tryz.prog w = .ok (decide (a.1 = b.1) && decide (a.2 = b.2)) w := by
  obtain ⟨f, g, e, hf, hg, tf, tg, of, og⟩ := qx7
  have hf : (f.name ≠ "_") = True := by simpa using hf
  have hg : (g.name ≠ "_") = True := by simpa using hg
  unfold qbp
  rw [run_equalIn_struct w (d + 1) 265 _ _ Tryz.underlying265 (by kernel_rfl), e]
  simp only [Op.eqFields, hf, hg, tf, tg, of, og, if_true, Sem.run_bind, qru, qn6, Result.andThen_ok]
  by_cases h1 : a.1 = b.1 <;> by_cases h2 : a.2 = b.2 <;> simp [h1, h2, qn6, qrv]
theorem qx6 (a b : Int × Int) (w : World) : (Op.equal 265 (qbp a) (qbp b)).run Tryz.prog w = .ok (decide (a = b)) w := by
  have e : decide (a = b) = (decide (a.1 = b.1) && decide (a.2 = b.2)) := by
    rw [Bool.eq_iff_iff]; simp [Prod.ext_iff]
  rw [e]
  exact qtz a b w 9998
theorem qx5 (e : Bool) (a : Int × Int) (w : World) (d : Nat) : (Instr.checkKey e (d + 1 + 1) 265 (qbp a)).run Tryz.prog w = .ok () w := by
  kernel_rfl
theorem qf1 : qfe Tryz.prog 265 qbp :=
  qfe.asked Tryz.underlying265 (fun e a w => qx5 e a w 9998) (fun a b => rfl) qx6 (fun a => by
    have h : ∀ d, Instr.sameBits (d + 1 + 1) (qbp a) (qbp a) = true := fun d => by simp [qbp, Instr.sameBits]
    exact h 9998)
section
variable {K : VK} {w : World}
theorem qca {a b c : Int} (h : K (.int .i64 (if a < b then b else if a > c then c else a)) w) : C.q Tryz.prog 66 #[.int .i64 a, .int .i64 b, .int .i64 c] w K := by
  refine F66.sh ?_
  by_cases h1 : a < b
  · simp only [C.ah, C.au, C.bl, decide_true, h1]
    rwa [if_pos h1] at h
  · rw [if_neg h1] at h
    by_cases h2 : a > c
    · simp only [C.ah, C.ac, C.au, C.bl, decide_true, decide_false, h1, h2]
      rwa [if_pos h2] at h
    · simp only [C.ac, C.au, C.bl, decide_false, h1, h2]
      rw [if_neg h2] at h
      exact F66.k5.to h
theorem qbt {k : Int} (h : K (.int .i64 (csz k)) w) : C.q Tryz.prog 175 #[.int .i64 k] w K := by
  refine F175.sh ?_
  by_cases h1 : k < 1
  · simp only [C.ah, C.aw, C.au, C.ba, decide_true, h1]
    rwa [show csz k = 0 by unfold csz; repeat (rw [if_neg (by omega)])] at h
  · by_cases h2 : k ≥ 5
    · simp only [C.ah, C.ar, C.au, C.bc, C.al, decide_true, decide_false, h1, h2]
      rwa [show csz k = 0 by unfold csz; repeat (rw [if_neg (by omega)])] at h
    · simp only [C.ac, C.ar, C.au, C.bc, C.al, decide_false, h1, h2]
      refine F175.k3.to ?_
      simp only [C.bo]
      rw [qaa (n := k - 1) (by omega)]
      have : k = 1 ∨ k = 2 ∨ k = 3 ∨ k = 4 := by omega
      rcases this with rfl | rfl | rfl | rfl
      · exact ⟨.int .i64 2, by kernel_rfl, h⟩
      · exact ⟨.int .i64 4, by kernel_rfl, h⟩
      · exact ⟨.int .i64 8, by kernel_rfl, h⟩
      · exact ⟨.int .i64 16, by kernel_rfl, h⟩
end
end Go.Proofs.YtcakfaakbpdklaaGreatDoorV
