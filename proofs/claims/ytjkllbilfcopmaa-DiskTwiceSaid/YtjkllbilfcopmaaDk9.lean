import Derived.Test.YtjkllbilfcopmaaDk8
import Derived.Deep.QuietTactic
namespace Go.Proofs.Ytjkllbilfcopmaa.Dk
open Go.RowKit Go.Proofs.YtjkllbilfcopmaaW.PrintWords Go.Proofs.YtjkllbilfcopmaaW.PrintLast Go.Proofs.YtjkllbilfcopmaaW.PrintMore
set_option linter.unusedVariables false
set_option linter.unusedSimpArgs false
theorem step_look1 {ops : Array Oper} {rest : List Oper} {o : Oper} {a : Act} {Q : Exit → Act → World → Prop} {W : World} (hg : o.guard = none) (m x : Operand) (hop : o.op = Op.lookup 51 m x false) (b : Nat) (fs : Fs) (hm : a.eval m = .map (some b)) (hown : Own W b fs) (s : ByteArray) (hx : a.eval x = .string s) (hs : s.size ≤ maxLen)
    (hK : wpList Try.prog ops Q rest (a.put o.dst (fileV ((FM.get fs s.data.toList).getD z0))) W) : wpList Try.prog ops Q (o :: rest) a W := by
  refine wpList_plain hg fun K' hK' => ?_
  have hrun := look_run (W := W) b fs hown s hs
  unfold Oper.wp
  simp [execOp, hop, hm, hx, hrun, Result.andThen]
  exact hK' _ _ hK
/-- A row of values at an address outside of S. -/
def RowAt {α : Type} (enc : α → Value) (d : α) (S : Nat → Prop) (W : World) (A : Option Addr) (xs : List α) : Prop :=
  xs.length ≤ maxLen ∧ (0 < xs.length → ∃ ad, A = some ad ∧ ¬ S ad.block ∧ ad.block < W.heap.size ∧ ∀ j, j < xs.length → W.cell? (ad.add j) = some (enc (xs.getD j d)))
section
variable {α : Type} {enc : α → Value} {d : α} {S : Nat → Prop} {W W1 : World} {A : Option Addr} {xs : List α}
theorem add_block' (ad : Addr) (j : Nat) : (ad.add j).block = ad.block := by
  obtain ⟨a, b, c⟩ := ad
  by_cases hj : j = 0 <;> simp [Addr.add, hj]
theorem RowAt.fr (h : RowAt enc d S W A xs) (hf : Fr S W W1) : RowAt enc d S W1 A xs := by
  refine ⟨h.1, fun hp => ?_⟩
  obtain ⟨ad, e, hn, hl, hc⟩ := h.2 hp
  refine ⟨ad, e, hn, Nat.lt_of_lt_of_le hl hf.size, fun j hj => ?_⟩
  rw [← hc j hj]
  exact World.cell?_of_block (by rw [add_block']; exact hf.block ad.block hl hn)
theorem RowAt.at_ (h : RowAt enc d S W A xs) (i : Nat) (hi : i < xs.length) : ∃ ad, A = some ad ∧ W.cell? (ad.add i) = some (enc (xs.getD i d)) := by
  obtain ⟨ad, e, _, _, hc⟩ := h.2 (by omega)
  exact ⟨ad, e, hc i hi⟩
theorem add_add (ad : Addr) (i j : Nat) : (ad.add i).add j = ad.add (i + j) := by
  obtain ⟨a, b, c⟩ := ad
  by_cases hi : i = 0 <;> by_cases hj : j = 0 <;> simp [Addr.add, hi, hj, Nat.add_assoc]
theorem RowAt.tail {x : α} {A1 : Option Addr} (h : RowAt enc d S W A (x :: xs)) (hA : 0 < xs.length → A1 = A.map (·.add (1 * 1))) : RowAt enc d S W A1 xs := by
  refine ⟨Nat.le_trans (Nat.le_succ _) h.1, fun hp => ?_⟩
  obtain ⟨ad, rfl, hn, hl, hc⟩ := h.2 (by simp)
  refine ⟨ad.add 1, by rw [hA hp]; rfl, by rw [add_block']; exact hn, by rw [add_block']; exact hl, fun j hj => ?_⟩
  have := hc (j + 1) (by simp; omega)
  rw [add_add, Nat.add_comm 1 j, this]
  simp [List.getD_eq_getElem?_getD]
end
theorem own_row {W : World} {base : Nat} {v : Value} {l : List ByteArray} {S : Nat → Prop} (h : W.ownsRow base 9 1 v l.length (l.map Value.string)) (hS : ∀ k, base ≤ k → ¬ S k) : ∃ A c, v = .slice A l.length c ∧ RowAt Value.string ByteArray.empty S W A l ∧ l.length ≤ c ∧ c ≤ maxLen := by
  rcases h.2 with ⟨rfl, h0⟩ | ⟨g, cap, cur, rfl, hb, hh, hnc, hcm, hcs, ht⟩
  · rw [h0]
    exact ⟨none, 0, rfl, ⟨by omega, fun hp => absurd hp (by omega)⟩, Nat.le_refl _, Nat.zero_le _⟩
  · refine ⟨some ⟨g, 0, none⟩, cap, rfl, ⟨Nat.le_trans hnc hcm, fun hp => ⟨_, rfl, hS g hb, blk_lt hh, fun j hj => ?_⟩⟩, hnc, hcm⟩
    rw [add_plain, blk_cell hh j]
    have e2 : cur[j]? = (cur.toList.take (l.length * 1))[j]? := by
      rw [List.getElem?_take, if_pos (by omega)]; simp
    rw [e2, ht, List.getElem?_map, List.getElem?_eq_getElem hj]
    simp [List.getD_eq_getElem?_getD, hj]
end Go.Proofs.Ytjkllbilfcopmaa.Dk
