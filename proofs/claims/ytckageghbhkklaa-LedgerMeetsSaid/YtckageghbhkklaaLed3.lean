/- Windows of letters: the plain law. -/
import Derived.Test.YtckageghbhkklaaLed2
namespace Go.Proofs.YtckageghbhkklaaV
open Go Go.Proofs Go.RowKit
set_option linter.unusedVariables false
set_option linter.unusedSimpArgs false
theorem cnt_app (a b : List Bool) : cnt (a ++ b) = cnt a + cnt b := List.count_append
theorem cnt_rep (n : Nat) (b : Bool) : cnt (List.replicate n b) = if b then n else 0 := by
  cases b <;> simp [cnt, List.count_replicate]
theorem cnt_drop_le (l : List Bool) (a b : Nat) (h : a ≤ b) : cnt (l.drop b) ≤ cnt (l.drop a) := by
  have : l.drop b = (l.drop a).drop (b - a) := by rw [List.drop_drop]; congr 1; omega
  rw [this]
  exact (List.drop_sublist _ _).count_le _
theorem cnt_drop_add (l : List Bool) (a b : Nat) (h : a ≤ b) : cnt (l.drop a) ≤ cnt (l.drop b) + (b - a) := by
  have : l.drop b = (l.drop a).drop (b - a) := by rw [List.drop_drop]; congr 1; omega
  have e : cnt (l.drop a) = cnt ((l.drop a).take (b - a)) + cnt ((l.drop a).drop (b - a)) := by rw [← cnt_app, List.take_append_drop]
  have := cnt_le ((l.drop a).take (b - a))
  rw [List.length_take] at this
  rw [e, ‹l.drop b = _›]
  omega
theorem lastN_app (win : Nat) (H : List Bool) (n : Nat) (b : Bool) : lastN win (H ++ List.replicate n b) = H.drop (H.length + n - win) ++ List.replicate (min n win) b := by
  unfold lastN
  rw [List.length_append, List.length_replicate, List.drop_append, List.drop_replicate]
  rcases Nat.le_total n win with h | h
  · rw [show n - (H.length + n - win - H.length) = min n win by omega]
  · rw [show n - (H.length + n - win - H.length) = min n win by omega]
theorem lastN_step (win : Nat) (H : List Bool) (n : Nat) (b : Bool) : lastN win (lastN win H ++ List.replicate (min n win) b) = lastN win (H ++ List.replicate n b) := by
  rw [lastN_app, lastN_app, lastN_len]
  rw [show min (min n win) win = min n win by omega]
  congr 1
  unfold lastN
  rw [List.drop_drop]
  by_cases h : n ≤ win
  · congr 1
    omega
  · rw [List.drop_of_length_le (by omega), List.drop_of_length_le (by omega)]
def okH (win : Nat) (most : Int) (H : List Bool) : Prop := ∀ k, k ≤ H.length → (cnt (lastN win (H.take k)) : Int) ≤ most
theorem okH_app {win n : Nat} {most : Int} {H : List Bool} {b : Bool} (h : okH win most H) (hn : ∀ i, i ≤ n → (cnt (lastN win (H ++ List.replicate i b)) : Int) ≤ most) : okH win most (H ++ List.replicate n b) := by
  intro k hk
  rw [List.length_append, List.length_replicate] at hk
  rcases Nat.le_total k H.length with h1 | h1
  · rw [List.take_append_of_le_length h1]
    exact h k h1
  · have : (H ++ List.replicate n b).take k = H ++ List.replicate (k - H.length) b := by
      rw [List.take_append, List.take_of_length_le h1, List.take_replicate, Nat.min_eq_left (by omega)]
    rw [this]
    exact hn _ (by omega)
theorem okH_false {win n : Nat} {most : Int} {H : List Bool} (h : okH win most H) : okH win most (H ++ List.replicate n false) := by
  refine okH_app h fun i _ => ?_
  have h0 := h H.length (Nat.le_refl _)
  rw [List.take_length] at h0
  rw [lastN_app, cnt_app, cnt_rep]
  have := cnt_drop_le H (H.length - win) (H.length + i - win) (by omega)
  unfold lastN at h0
  simp only [Bool.false_eq_true, if_false]
  omega
theorem okH_true {win n : Nat} {most : Int} {H : List Bool} (h : okH win most H) (hm : most ≤ (win : Int)) (ha : admits (win : Int) most (n : Int) (lastN win H) = true) : okH win most (H ++ List.replicate n true) := by
  have ha := of_decide_eq_true ha
  refine okH_app h fun i hi => ?_
  rw [lastN_app, cnt_app, cnt_rep, if_pos rfl]
  have e : cnt ((lastN win H).drop (((lastN win H).length : Int) + (n : Int) - (win : Int)).toNat) = cnt (H.drop (H.length + n - win)) := by
    rw [lastN_len]
    unfold lastN
    rw [List.drop_drop]
    congr 2
    omega
  rw [e] at ha
  have := cnt_drop_add H (H.length + i - win) (H.length + n - win) (by omega)
  omega
end Go.Proofs.YtckageghbhkklaaV
