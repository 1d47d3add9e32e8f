/- THE ENGINE, part 4: words for worlds, and how each asked step is met. Own work. -/
import Derived.Test.YtfdpmgddlaamcaaVc3
namespace Go.Proofs.YtfdpmgddlaamcaaV
open Go Go.RowKit

/-! ### 1. How a world came of another one -/
/-- No block below has changed but those of S (which are below, too). -/
structure Fr (S : List Nat) (w w' : World) : Prop where
  os : w'.os = w.os
  tape : w'.tape = w.tape
  output : w'.output = w.output
  size : w.heap.size ≤ w'.heap.size
  eq : ∀ b, b < w.heap.size → b ∉ S → w'.heap[b]? = w.heap[b]?
theorem Fr.refl (S : List Nat) (w : World) : Fr S w w := ⟨rfl, rfl, rfl, Nat.le_refl _, fun _ _ _ => rfl⟩
theorem Fr.trans {S : List Nat} {a b c : World} (h : Fr S a b) (k : Fr S b c) : Fr S a c :=
  ⟨k.os.trans h.os, k.tape.trans h.tape, k.output.trans h.output, Nat.le_trans h.size k.size, fun i hi hs => (k.eq i (Nat.lt_of_lt_of_le hi h.size) hs).trans (h.eq i hi hs)⟩
/-- What changed was made meanwhile, or is of S. -/
theorem Fr.then {S T : List Nat} {a b c : World} (h : Fr S a b) (k : Fr T b c) (hT : ∀ x, x ∈ T → x ∈ S ∨ a.heap.size ≤ x) : Fr S a c :=
  ⟨k.os.trans h.os, k.tape.trans h.tape, k.output.trans h.output, Nat.le_trans h.size k.size, fun i hi hs =>
    (k.eq i (Nat.lt_of_lt_of_le hi h.size) (fun hx => (hT i hx).elim hs (fun hle => by omega))).trans (h.eq i hi hs)⟩
theorem Fr.mono {S T : List Nat} {a b : World} (h : Fr S a b) (hs : ∀ x, x ∈ S → x ∈ T) : Fr T a b := ⟨h.os, h.tape, h.output, h.size, fun i hi ht => h.eq i hi fun hx => ht (hs i hx)⟩
theorem Fr.w {S : List Nat} {a b : World} (h : Fr [] a b) : Fr S a b := h.mono (by simp)
theorem Fr.below {a b : World} (h : Fr [] a b) : Below a.heap.size a b := ⟨h.os, h.tape, h.output, h.size, fun i hi => h.eq i hi (by simp)⟩
theorem Fr.of_below {a b : World} (h : Below a.heap.size a b) : Fr [] a b := ⟨h.os, h.tape, h.output, h.size, fun i hi _ => h.block i hi⟩
/-- A block that is there stays as it was. -/
theorem Fr.at_ {S : List Nat} {w w' : World} (h : Fr S w w') {b : Nat} {o : Obj} (hb : w.heap[b]? = some o) (hs : b ∉ S) : w'.heap[b]? = some o :=
  (h.eq b (Array.getElem?_eq_some_iff.1 hb).1 hs).trans hb
theorem lt_of_at {w : World} {b : Nat} {o : Obj} (hb : w.heap[b]? = some o) : b < w.heap.size := (Array.getElem?_eq_some_iff.1 hb).1
theorem Fr.lt {S : List Nat} {w w' : World} (h : Fr S w w') {b : Nat} (hb : b < w.heap.size) : b < w'.heap.size := Nat.lt_of_lt_of_le hb h.size
/-- The world with a new block. -/
structure New (w : World) (g : Nat) (o : Obj) (w' : World) : Prop where
  is : g = w.heap.size
  fr : Fr [] w w'
  at_ : w'.heap[g]? = some o
  sz : w'.heap.size = w.heap.size + 1
theorem New.mk' (w : World) (o : Obj) : New w w.heap.size o (w.alloc o) where
  is := rfl
  fr := .of_below ((Below.refl _ w).alloc (Nat.le_refl _) o)
  at_ := by show (w.heap.push o)[w.heap.size]? = _; simp
  sz := by simp
theorem New.ne {w w' : World} {g b : Nat} {o : Obj} (h : New w g o w') (hb : b < w.heap.size) : b ≠ g := by have := h.is; omega
/-- The world with one block changed. -/
structure Upd (w : World) (g : Nat) (o : Obj) (w' : World) : Prop where
  fr : Fr [g] w w'
  at_ : w'.heap[g]? = some o
  sz : w'.heap.size = w.heap.size
/-- The same memory. -/
theorem Fr.drew (w : World) : Fr [] w { w with drawn := w.drawn + 1 } := ⟨rfl, rfl, rfl, Nat.le_refl _, fun _ _ _ => rfl⟩

/-! ### 2. Cells -/
theorem add_mk (g o n : Nat) : (⟨g, o, none⟩ : Addr).add n = ⟨g, o + n, none⟩ := by unfold Addr.add; split <;> simp_all
theorem cell_mk {w : World} {g o : Nat} {cs : Array Value} {e : TypeId} {fz : Nat × Nat} (h : w.heap[g]? = some (.cells cs e fz)) : w.cell? ⟨g, o, none⟩ = cs[o]? := by simp [World.cell?, h]
theorem frozen_mk {w : World} {g o : Nat} {cs : Array Value} {e : TypeId} (h : w.heap[g]? = some (.cells cs e (0, 0))) : w.frozen? ⟨g, o, none⟩ = false := by simp [World.frozen?, h]
theorem rdCells_mk {w : World} {g : Nat} {cs : Array Value} {e : TypeId} {fz : Nat × Nat} (h : w.heap[g]? = some (.cells cs e fz)) : ∀ (n o i : Nat), o + i + n ≤ cs.size → rdCells w ⟨g, o, none⟩ i n = some ((cs.toList.drop (o + i)).take n)
  | 0, o, i, hn => by simp [rdCells]
  | n + 1, o, i, hn => by
    have ih := rdCells_mk h n o (i + 1) (by omega)
    have hlt : o + i < cs.size := by omega
    simp only [rdCells, add_mk, cell_mk h, ih, Array.getElem?_eq_getElem hlt]
    have hd : cs.toList.drop (o + i) = cs[o + i] :: cs.toList.drop (o + (i + 1)) := by
      rw [show o + (i + 1) = o + i + 1 by omega]
      have := List.drop_eq_getElem_cons (l := cs.toList) (i := o + i) (by simpa using hlt)
      simpa using this
    rw [hd]
    simp
/-- The cells of a block, from o on, become vs. -/
def setAt (cs : List Value) (o : Nat) (vs : List Value) : List Value := cs.take o ++ vs ++ cs.drop (o + vs.length)
theorem upd_setCell {w : World} {g o : Nat} {cs : Array Value} {e : TypeId} {fz : Nat × Nat} (h : w.heap[g]? = some (.cells cs e fz)) (v : Value) :
    Upd w g (.cells (cs.setIfInBounds o v) e fz) (w.setCell ⟨g, o, none⟩ v) := by
  refine ⟨⟨rfl, rfl, rfl, by simp [World.setCell], fun b _ hb => ?_⟩, ?_, by simp [World.setCell]⟩
  · simp only [List.mem_singleton] at hb
    exact Below.heap_setCell w ⟨g, o, none⟩ v b hb
  · simp [World.setCell, Array.getElem?_modify, h]
theorem Upd.trans {w w1 w2 : World} {g : Nat} {o1 o2 : Obj} (h : Upd w g o1 w1) (k : Upd w1 g o2 w2) : Upd w g o2 w2 :=
  ⟨h.fr.trans k.fr, k.at_, k.sz.trans h.sz⟩

/-! ### 3. Steps -/
section
variable {P : Program} {w : World} {K : VK}
theorem C.new_of {o : Obj} (h : ∀ g w', New w g o w' → K (.pointer (some ⟨g, 0, none⟩)) w') : C.new o w K := h _ _ (New.mk' w o)
theorem C.load1_of {g o : Nat} {cs : Array Value} {e : TypeId} {fz : Nat × Nat} {v : Value} (hb : w.heap[g]? = some (.cells cs e fz)) (hv : cs[o]? = some v) (h : K v w) : C.load1 (.pointer (some ⟨g, o, none⟩)) w K :=
  ⟨_, v, rfl, by rw [cell_mk hb]; exact hv, h⟩
theorem C.loadA_of {n g o : Nat} {cs : Array Value} {e : TypeId} {fz : Nat × Nat} {vs : List Value} (hb : w.heap[g]? = some (.cells cs e fz)) (hn : o + n ≤ cs.size) (hv : (cs.toList.drop o).take n = vs) (h : K (.agg vs.toArray) w) : C.loadA n (.pointer (some ⟨g, o, none⟩)) w K :=
  ⟨_, vs, rfl, by rw [rdCells_mk hb n o 0 (by omega)]; simpa using hv, h⟩
/-- A whole block of its own, read. -/
theorem C.loadA_all {n g : Nat} {cs : Array Value} {e : TypeId} {fz : Nat × Nat} (hb : w.heap[g]? = some (.cells cs e fz)) (hn : cs.size = n) (h : K (.agg cs) w) : C.loadA n (.pointer (some ⟨g, 0, none⟩)) w K :=
  C.loadA_of hb (by omega) (vs := cs.toList) (by subst hn; rw [List.drop_zero, ← Array.length_toList, List.take_length]) (by simpa using h)
theorem C.load1S_of {S : World → Prop} {g o : Nat} {v : Value} (hS : ∀ w', S w' → ∃ cs e fz, w'.heap[g]? = some (.cells cs e fz) ∧ cs[o]? = some v) (h : K v w) : C.load1S S (.pointer (some ⟨g, o, none⟩)) w K :=
  ⟨_, v, rfl, fun w' hw => by obtain ⟨cs, e, fz, hb, hv⟩ := hS w' hw; rw [cell_mk hb]; exact hv, h⟩
theorem C.loadAS_of {S : World → Prop} {n g o : Nat} {vs : List Value} (hS : ∀ w', S w' → ∃ cs e fz, w'.heap[g]? = some (.cells cs e fz) ∧ o + n ≤ cs.size ∧ (cs.toList.drop o).take n = vs) (h : K (.agg vs.toArray) w) : C.loadAS S n (.pointer (some ⟨g, o, none⟩)) w K :=
  ⟨_, vs, rfl, fun w' hw => by obtain ⟨cs, e, fz, hb, hn, hv⟩ := hS w' hw; rw [rdCells_mk hb n o 0 (by omega)]; simpa using hv, h⟩
theorem wrCells_mk {g : Nat} {e : TypeId} {K : World → Prop} : ∀ (vs : List Value) (o i : Nat) (cs : Array Value) (w : World), w.heap[g]? = some (.cells cs e (0, 0)) → (∀ v ∈ vs, v.oneCell' = true) → o + i + vs.length ≤ cs.size →
    (∀ w', Upd w g (.cells (setAt cs.toList (o + i) vs).toArray e (0, 0)) w' → K w') → wrCells vs i ⟨g, o, none⟩ w K
  | [], o, i, cs, w, hb, _, _, h => by
    refine h w ⟨Fr.refl _ _, ?_, rfl⟩
    simp only [setAt, List.append_nil, List.length_nil, Nat.add_zero, List.take_append_drop]
    exact hb
  | v :: vs, o, i, cs, w, hb, hv, hn, h => by
    simp only [List.length_cons] at hn
    have hlt : o + i < cs.size := by omega
    refine ⟨hv v (by simp), ⟨cs[o + i], ?_⟩, ?_, ?_⟩
    · rw [add_mk, cell_mk hb, Array.getElem?_eq_getElem hlt]
    · rw [add_mk]; exact frozen_mk hb
    · rw [add_mk]
      have hu := upd_setCell (o := o + i) hb v
      refine wrCells_mk vs o (i + 1) _ _ hu.at_ (fun u hu => hv u (by simp [hu])) (by simp; omega) fun w' hw => h w' ?_
      have := hu.trans hw
      have he : setAt (cs.setIfInBounds (o + i) v).toList (o + (i + 1)) vs = setAt cs.toList (o + i) (v :: vs) := by
        simp only [setAt, Array.toList_setIfInBounds, List.length_cons]
        rw [show o + (i + 1) = o + i + 1 by omega, List.take_set, List.drop_set, if_pos (by omega), List.take_add_one]
        rw [List.getElem?_eq_getElem (by simpa using hlt)]
        simp only [Option.toList_some]
        rw [List.set_append]
        simp only [List.length_take, Array.length_toList]
        rw [if_neg (by omega)]
        have : o + i - min (o + i) cs.size = 0 := by omega
        rw [this]
        simp [Nat.add_assoc, Nat.add_comm 1]
      rw [he] at this
      exact this
theorem C.store_of {n g o : Nat} {e : TypeId} {cs : Array Value} {x : Value} {K : World → Prop} (hb : w.heap[g]? = some (.cells cs e (0, 0))) (hx : x.cells.size = n) (h1 : ∀ v ∈ x.cells.toList, v.oneCell' = true) (hn : o + n ≤ cs.size)
    (h : ∀ w', Upd w g (.cells (setAt cs.toList o x.cells.toList).toArray e (0, 0)) w' → K w') : C.store n (.pointer (some ⟨g, o, none⟩)) x w K :=
  ⟨_, rfl, hx, wrCells_mk _ o 0 cs w hb h1 (by simp; omega) (by simpa using h)⟩
/-- One cell. -/
theorem C.store1_of {g o : Nat} {e : TypeId} {cs : Array Value} {x : Value} {K : World → Prop} (hb : w.heap[g]? = some (.cells cs e (0, 0))) (hx : x.cells = #[x]) (h1 : x.oneCell' = true) (hn : o < cs.size)
    (h : ∀ w', Upd w g (.cells (cs.setIfInBounds o x) e (0, 0)) w' → K w') : C.store 1 (.pointer (some ⟨g, o, none⟩)) x w K := by
  refine ⟨_, rfl, by simp [hx], ?_⟩
  rw [hx]
  refine ⟨h1, ⟨cs[o], by rw [add_mk, Nat.add_zero, cell_mk hb, Array.getElem?_eq_getElem hn]⟩, by rw [add_mk]; exact frozen_mk hb, ?_⟩
  rw [add_mk, Nat.add_zero]
  exact h _ (upd_setCell hb x)
/-- A whole block. -/
theorem C.store_all {n g : Nat} {e : TypeId} {cs : Array Value} {x : Value} {K : World → Prop} (hb : w.heap[g]? = some (.cells cs e (0, 0))) (hx : x.cells.size = n) (h1 : ∀ v ∈ x.cells.toList, v.oneCell' = true) (hn : cs.size = n)
    (h : ∀ w', Upd w g (.cells x.cells e (0, 0)) w' → K w') : C.store n (.pointer (some ⟨g, 0, none⟩)) x w K := by
  refine C.store_of hb hx h1 (by omega) fun w' hw => h w' ?_
  have : (setAt cs.toList 0 x.cells.toList).toArray = x.cells := by
    simp only [setAt, List.take_zero, List.nil_append, Nat.zero_add]
    rw [List.drop_of_length_le (by simp; omega)]
    simp
  rwa [this] at hw
theorem C.call.mono {f : FuncId} {args : Array Value} {K' : VK} (h : C.call P f args w K') (hk : ∀ v w', K' v w' → K v w') : C.call P f args w K :=
  Calls.mono h fun _ w' ⟨v, he, h⟩ => ⟨v, he, hk v w' h⟩
theorem C.draw_of {F : (World → Prop) → World → Prop} (S : World → Prop) (h : ∀ w', Fr [] w w' → w'.heap = w.heap → S w' ∧ F S w') : C.draw w F :=
  ⟨S, (h _ (Fr.drew w) rfl).1, (h _ (Fr.drew w) rfl).2⟩
/-- What is asked of the memory at hand. -/
theorem C.draw_same {F : (World → Prop) → World → Prop} (h : ∀ w', Fr [] w w' → w'.heap = w.heap → F (fun v => v.heap = w.heap) w') : C.draw w F :=
  ⟨fun v => v.heap = w.heap, rfl, h _ (Fr.drew w) rfl⟩
theorem C.run_of {s : Sem Value} {v : Value} {w' : World} (h : s.run P w = .ok v w') (hk : K v w') : C.run P s w K := ⟨v, w', h, hk⟩
end

/-! ### 4. What needs no memory: for 'simp' -/
section
variable {P : Program} {w : World} {K : VK}
theorem C.ite_bool (b : Bool) (A B : Prop) : C.ite (.bool b) A B ↔ (b = true → A) ∧ (b = false → B) := by
  constructor
  · rintro ⟨t, ht, h⟩; cases ht; exact h
  · intro h; exact ⟨b, rfl, h⟩
theorem C.ite_true (A B : Prop) : C.ite (.bool true) A B ↔ A := by simp [C.ite_bool]
theorem C.ite_false (A B : Prop) : C.ite (.bool false) A B ↔ B := by simp [C.ite_bool]
theorem C.pick_true (a b : Value) : C.pick (some (.bool true)) (some a) (some b) w K ↔ K a w := by
  constructor
  · rintro ⟨t, ht, v, hv, h⟩; cases ht; cases hv; exact h
  · intro h; exact ⟨true, rfl, a, rfl, h⟩
theorem C.pick_false (a b : Value) : C.pick (some (.bool false)) (some a) (some b) w K ↔ K b w := by
  constructor
  · rintro ⟨t, ht, v, hv, h⟩; cases ht; cases hv; exact h
  · intro h; exact ⟨false, rfl, b, rfl, h⟩
theorem C.not_bool (b : Bool) : C.not (.bool b) w K ↔ K (.bool !b) w := by
  constructor
  · rintro ⟨t, ht, h⟩; cases ht; exact h
  · intro h; exact ⟨b, rfl, h⟩
theorem C.field_ptr (off g o : Nat) : C.field off (.pointer (some ⟨g, o, none⟩)) w K ↔ K (.pointer (some ⟨g, o + off, none⟩)) w := by
  constructor
  · rintro ⟨a, ha, h⟩; cases ha; rwa [add_mk] at h
  · intro h; exact ⟨_, rfl, by rwa [add_mk]⟩
theorem C.nilCheck_ptr (a : Addr) : C.nilCheck (.pointer (some a)) w K ↔ K (.pointer (some a)) w := by simp [C.nilCheck, notNil]
theorem C.int_mk (op : BinOp) (k : IntKind) (a b : Int) : C.int op (.int k a) (.int k b) w K ↔ ∃ v, intOp op k a b = some v ∧ K v w := by
  constructor
  · rintro ⟨k', a', b', v, h1, h2, h3, h⟩; cases h1; cases h2; exact ⟨v, h3, h⟩
  · rintro ⟨v, h3, h⟩; exact ⟨k, a, b, v, rfl, rfl, h3, h⟩
theorem C.add_mk (k : IntKind) (a b : Int) : C.int .add (.int k a) (.int k b) w K ↔ K (.int k (k.wrap (a + b))) w := by simp [C.int_mk, intOp]
theorem C.sub_mk (k : IntKind) (a b : Int) : C.int .sub (.int k a) (.int k b) w K ↔ K (.int k (k.wrap (a - b))) w := by simp [C.int_mk, intOp]
theorem C.mul_mk (k : IntKind) (a b : Int) : C.int .mul (.int k a) (.int k b) w K ↔ K (.int k (k.wrap (a * b))) w := by simp [C.int_mk, intOp]
theorem C.eql_mk (k : IntKind) (a b : Int) : C.int .eql (.int k a) (.int k b) w K ↔ K (.bool (decide (a = b))) w := by
  have : (a == b) = decide (a = b) := by rw [Bool.eq_iff_iff]; simp
  simp [C.int_mk, intOp, this]
theorem C.neq_mk (k : IntKind) (a b : Int) : C.int .neq (.int k a) (.int k b) w K ↔ K (.bool (decide (a ≠ b))) w := by
  have : (a != b) = decide (a ≠ b) := by rw [Bool.eq_iff_iff]; simp
  simp only [C.int_mk, intOp, this, Option.some.injEq, exists_eq_left']
theorem C.lss_mk (k : IntKind) (a b : Int) : C.int .lss (.int k a) (.int k b) w K ↔ K (.bool (decide (a < b))) w := by simp [C.int_mk, intOp]
theorem C.leq_mk (k : IntKind) (a b : Int) : C.int .leq (.int k a) (.int k b) w K ↔ K (.bool (decide (a ≤ b))) w := by simp [C.int_mk, intOp]
theorem C.gtr_mk (k : IntKind) (a b : Int) : C.int .gtr (.int k a) (.int k b) w K ↔ K (.bool (decide (a > b))) w := by simp [C.int_mk, intOp]
theorem C.geq_mk (k : IntKind) (a b : Int) : C.int .geq (.int k a) (.int k b) w K ↔ K (.bool (decide (a ≥ b))) w := by simp [C.int_mk, intOp]
theorem C.conv_mk (k k' : IntKind) (a : Int) : C.conv k (.int k' a) w K ↔ K (.int k (k.wrap a)) w := by
  constructor
  · rintro ⟨k1, a1, h1, h⟩; cases h1; exact h
  · intro h; exact ⟨k', a, rfl, h⟩
theorem C.len_mk (g : Option Addr) (n c : Nat) : C.len (.slice g n c) w K ↔ K (.int .i64 (n : Int)) w := by
  constructor
  · rintro ⟨g1, n1, c1, h1, h⟩; cases h1; exact h
  · intro h; exact ⟨g, n, c, rfl, h⟩
theorem C.ext_mk (i : Nat) (vs : Array Value) : C.ext i (.tuple vs) w K ↔ ∃ v, vs[i]? = some v ∧ K v w := by
  constructor
  · rintro ⟨vs', v, h1, h2, h⟩; cases h1; exact ⟨v, h2, h⟩
  · rintro ⟨v, h2, h⟩; exact ⟨vs, v, rfl, h2, h⟩
theorem C.ext_0 (a b : Value) : C.ext 0 (.tuple #[a, b]) w K ↔ K a w := by simp [C.ext_mk]
theorem C.ext_1 (a b : Value) : C.ext 1 (.tuple #[a, b]) w K ↔ K b w := by simp [C.ext_mk]
theorem C.ext3_0 (a b c : Value) : C.ext 0 (.tuple #[a, b, c]) w K ↔ K a w := by simp [C.ext_mk]
theorem C.ext3_1 (a b c : Value) : C.ext 1 (.tuple #[a, b, c]) w K ↔ K b w := by simp [C.ext_mk]
theorem C.ext3_2 (a b c : Value) : C.ext 2 (.tuple #[a, b, c]) w K ↔ K c w := by simp [C.ext_mk]
theorem C.idx_mk (n : Nat) (g o len cap : Nat) (k : IntKind) (j : Int) : C.idx n (.slice (some ⟨g, o, none⟩) len cap) (.int k j) w K ↔ (0 ≤ j ∧ j < (len : Int)) ∧ K (.pointer (some ⟨g, o + j.toNat * n, none⟩)) w := by
  constructor
  · rintro ⟨g1, l1, c1, k1, j1, h1, h2, h3, h4, h⟩; cases h1; cases h2; rw [Go.Proofs.YtfdpmgddlaamcaaV.add_mk] at h; exact ⟨⟨h3, h4⟩, h⟩
  · rintro ⟨⟨h3, h4⟩, h⟩; exact ⟨_, _, _, _, _, rfl, rfl, h3, h4, by rwa [Go.Proofs.YtfdpmgddlaamcaaV.add_mk]⟩
theorem C.guarded_bool (want b : Bool) (F : VK → Prop) : C.guarded want (.bool b) F w K ↔ ((b = want → F K) ∧ (b ≠ want → K undef w)) := by simp [C.guarded, C.guard]
theorem C.guarded_yes (want : Bool) (F : VK → Prop) : C.guarded want (.bool want) F w K ↔ F K := by simp [C.guarded, C.guard]
theorem C.guarded_tf (F : VK → Prop) : C.guarded true (.bool false) F w K ↔ K undef w := by simp [C.guarded, C.guard]
theorem C.guarded_ft (F : VK → Prop) : C.guarded false (.bool true) F w K ↔ K undef w := by simp [C.guarded, C.guard]
theorem C.guarded_undef (want : Bool) (F : VK → Prop) : C.guarded want undef F w K ↔ K undef w := by simp [C.guarded, C.guard, undef]
end
theorem wrap64_id {n : Int} (h : -9223372036854775808 ≤ n ∧ n ≤ 9223372036854775807) : IntKind.i64.wrap n = n := by
  unfold IntKind.wrap IntKind.bits IntKind.signed
  simp
  omega
end Go.Proofs.YtfdpmgddlaamcaaV
