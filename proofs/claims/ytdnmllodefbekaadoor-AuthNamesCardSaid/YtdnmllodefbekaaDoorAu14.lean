import Derived.Test.YtdnmllodefbekaaDoorAu12
import Derived.Sort.Walk0
namespace Go.Proofs.YtdnmllodefbekaaDoor.Au
open Go.RowKit Go.Lib Go.Maps Go.Sort Go.Shelf Go.Proofs.YtdnmllodefbekaaDoor.Sha Go.Proofs.YtdnmllodefbekaaDoorW.PrintWords Go.Proofs.YtdnmllodefbekaaDoorW.PrintLast Go.Proofs.YtdnmllodefbekaaDoorW.PrintMore
set_option linter.unusedVariables false
set_option linter.unusedSimpArgs false
/-- A row of values at an address outside of S. -/
def RowAt {α : Type} (enc : α → Value) (d : α) (S : Nat → Prop) (W : World) (A : Option Addr) (xs : List α) : Prop :=
  xs.length ≤ maxLen ∧ (0 < xs.length → ∃ ad, A = some ad ∧ ¬ S ad.block ∧ ad.block < W.heap.size ∧ ∀ j, j < xs.length → W.cell? (ad.add j) = some (enc (xs.getD j d)))
section
variable {α : Type} {enc : α → Value} {d : α} {S : Nat → Prop} {W W1 : World} {A : Option Addr} {xs : List α}
theorem add_block' (ad : Addr) (j : Nat) : (ad.add j).block = ad.block := by
  obtain ⟨a, b, c⟩ := ad
  by_cases hj : j = 0 <;> simp [Addr.add, hj]
theorem RowAt.fr (h : RowAt enc d S W A xs) (hf : Fr S W W1) : RowAt enc d S W1 A xs := by
  refine ⟨h.1, fun hp => ?_⟩
  obtain ⟨ad, e, hn, hl, hc⟩ := h.2 hp
  refine ⟨ad, e, hn, Nat.lt_of_lt_of_le hl hf.size, fun j hj => ?_⟩
  rw [← hc j hj]
  exact World.cell?_of_block (by rw [add_block']; exact hf.block ad.block hl hn)
theorem RowAt.at_ (h : RowAt enc d S W A xs) (i : Nat) (hi : i < xs.length) : ∃ ad, A = some ad ∧ W.cell? (ad.add i) = some (enc (xs.getD i d)) := by
  obtain ⟨ad, e, _, _, hc⟩ := h.2 (by omega)
  exact ⟨ad, e, hc i hi⟩
theorem add_add (ad : Addr) (i j : Nat) : (ad.add i).add j = ad.add (i + j) := by
  obtain ⟨a, b, c⟩ := ad
  by_cases hi : i = 0 <;> by_cases hj : j = 0 <;> simp [Addr.add, hi, hj, Nat.add_assoc]
theorem RowAt.tail {x : α} {A1 : Option Addr} (h : RowAt enc d S W A (x :: xs)) (hA : 0 < xs.length → A1 = A.map (·.add (1 * 1))) : RowAt enc d S W A1 xs := by
  refine ⟨Nat.le_trans (Nat.le_succ _) h.1, fun hp => ?_⟩
  obtain ⟨ad, rfl, hn, hl, hc⟩ := h.2 (by simp)
  refine ⟨ad.add 1, by rw [hA hp]; rfl, by rw [add_block']; exact hn, by rw [add_block']; exact hl, fun j hj => ?_⟩
  have := hc (j + 1) (by simp; omega)
  rw [add_add, Nat.add_comm 1 j, this]
  simp [List.getD_eq_getElem?_getD]
end
theorem own_row {W : World} {base : Nat} {v : Value} {l : List ByteArray} {S : Nat → Prop} (h : W.ownsRow base 9 1 v l.length (l.map Value.string)) (hS : ∀ k, base ≤ k → ¬ S k) : ∃ A c, v = .slice A l.length c ∧ RowAt Value.string ByteArray.empty S W A l ∧ l.length ≤ c ∧ c ≤ maxLen := by
  rcases h.2 with ⟨rfl, h0⟩ | ⟨g, cap, cur, rfl, hb, hh, hnc, hcm, hcs, ht⟩
  · rw [h0]
    exact ⟨none, 0, rfl, ⟨by omega, fun hp => absurd hp (by omega)⟩, Nat.le_refl _, Nat.zero_le _⟩
  · refine ⟨some ⟨g, 0, none⟩, cap, rfl, ⟨Nat.le_trans hnc hcm, fun hp => ⟨_, rfl, hS g hb, blk_lt hh, fun j hj => ?_⟩⟩, hnc, hcm⟩
    rw [add_plain, blk_cell hh j]
    have e2 : cur[j]? = (cur.toList.take (l.length * 1))[j]? := by
      rw [List.getElem?_take, if_pos (by omega)]; simp
    rw [e2, ht, List.getElem?_map, List.getElem?_eq_getElem hj]
    simp [List.getD_eq_getElem?_getD, hj]

abbrev StrsAt := RowAt Value.string ByteArray.empty
theorem nameL_len (m : Ks) : (nameL m).length = m.length := by unfold nameL; rw [List.length_map, FM.names_len]
theorem nameL_at (m : Ks) (i : Nat) (h : i < m.length) : (FM.names m)[i]? = some ((nameL m).getD i ByteArray.empty).data.toList := by
  have hl : i < (FM.names m).length := by rw [FM.names_len]; exact h
  unfold nameL
  rw [List.getD_eq_getElem?_getD, List.getElem?_map, List.getElem?_eq_getElem hl]
  simp
theorem name_size {m : Ks} (hs : ∀ p ∈ m, p.1.length ≤ 100) (i : Nat) (h : i < m.length) : ((nameL m).getD i ByteArray.empty).size ≤ 100 := by
  have h1 := nameL_at m i h
  obtain ⟨v, hv⟩ := FM.mem_names.1 (List.mem_of_getElem? h1)
  have := hs _ hv
  rw [Array.length_toList] at this
  exact this
theorem names_sorted (m : Ks) : (FM.names m).Pairwise fun a b => a ≤ b := by
  have := List.pairwise_mergeSort (le := leB) (fun a b c h1 h2 => decide_eq_true (List.le_trans (of_decide_eq_true h1) (of_decide_eq_true h2))) (fun a b => by
    rcases List.le_total a b with h | h
    · simp [leB, h]
    · simp [leB, h]) (FM.keys m)
  exact this.imp fun h => of_decide_eq_true h
theorem names_less {m : Ks} (hn : Nd m) (j : Nat) (a b : FM.Key) (ha : (FM.names m)[j]? = some a) (hb : (FM.names m)[j + 1]? = some b) : Op.bytesLess a b = true := by
  rw [bytesLess_eq]
  obtain ⟨h1, rfl⟩ := List.getElem?_eq_some_iff.1 ha
  obtain ⟨h2, rfl⟩ := List.getElem?_eq_some_iff.1 hb
  have hle := (List.pairwise_iff_getElem.1 (names_sorted m)) j (j + 1) h1 h2 (by omega)
  have hne := (List.pairwise_iff_getElem.1 (names_nodup hn)) j (j + 1) h1 h2 (by omega)
  refine decide_eq_true ?_
  refine Decidable.byContradiction fun hlt => hne ?_
  exact List.le_antisymm hle (List.not_lt.1 hlt)
end Go.Proofs.YtdnmllodefbekaaDoor.Au
