/- Lists of keys and values in order of the keys, whatever the values: where a key stands, what putting and taking come to. -/
import Derived.Test.YtjehbnhjaogfkaaFM
import Derived.Sort.Walk0
import Derived.WideAt
import Derived.WideShapes
namespace Go.Proofs.Ytjehbnhjaogfkaa.FL
open Go.RowKit Go.Lib Go.Maps Go.Sort Go.WideAt Go.WideShapes Go.Proofs.Ytjehbnhjaogfkaa
set_option linter.unusedVariables false
set_option linter.unusedSimpArgs false
variable {V : Type}
def Nd (m : FM.T V) : Prop := (FM.keys m).Nodup
theorem ins_perm (x : FM.Key × V) : ∀ m : FM.T V, (FM.ins x m).Perm (x :: m)
  | [] => by simp [FM.ins]
  | y :: r => by
    unfold FM.ins
    split
    · exact List.Perm.refl _
    · exact ((ins_perm x r).cons y).trans (List.Perm.swap x y r)
theorem keys_del (m : FM.T V) (k : FM.Key) : FM.keys (FM.del m k) = (FM.keys m).filter fun x => !(x == k) := by
  unfold FM.keys FM.del
  rw [List.filter_map]
  rfl
theorem names_sorted (m : FM.T V) : (FM.names m).Pairwise fun a b => a ≤ b := by
  have := List.pairwise_mergeSort (le := leB) (fun a b c h1 h2 => decide_eq_true (List.le_trans (of_decide_eq_true h1) (of_decide_eq_true h2))) (fun a b => by
    rcases List.le_total a b with h | h
    · simp [leB, h]
    · simp [leB, h]) (FM.keys m)
  exact this.imp fun h => of_decide_eq_true h
theorem before_eq : ∀ a b : List UInt8, bytesBefore a b = Op.bytesLess a b
  | [], [] => rfl
  | [], _ :: _ => rfl
  | _ :: _, [] => rfl
  | a :: r, b :: s => by
    unfold bytesBefore Op.bytesLess
    rw [before_eq r s]
/-- The names stand in order. -/
def St (m : FM.T V) : Prop := (FM.keys m).Pairwise fun a b => bytesBefore a b = true
theorem St.nd {m : FM.T V} (h : St m) : Nd m := h.imp fun {a b} hab e => by rw [e, bytes_irrefl] at hab; cases hab
theorem St.del {m : FM.T V} (h : St m) (k : FM.Key) : St (FM.del m k) := by
  unfold St
  rw [keys_del]
  exact h.filter _
theorem st_ins (k : FM.Key) (v : V) : ∀ m : FM.T V, St m → (∀ p ∈ m, p.1 ≠ k) → St (FM.ins (k, v) m)
  | [], _, _ => by simp [FM.ins, St, FM.keys]
  | y :: r, h, hk => by
    have hy : ∀ b ∈ FM.keys r, bytesBefore y.1 b = true := (List.pairwise_cons.1 h).1
    have hr : St r := (List.pairwise_cons.1 h).2
    unfold FM.ins
    split
    · rename_i hb
      exact List.pairwise_cons.2 ⟨fun b hm => by
        rcases List.mem_cons.1 hm with rfl | hm
        · exact hb
        · exact bytes_trans _ _ _ hb (hy b hm), h⟩
    · rename_i hb
      have hky : bytesBefore y.1 k = true := by
        rcases bytes_total y.1 k (hk y (by simp)) with h1 | h1
        · exact h1
        · exact absurd h1 hb
      refine List.pairwise_cons.2 ⟨fun b hm => ?_, st_ins k v r hr fun p hp => hk p (by simp [hp])⟩
      have : b ∈ (k :: FM.keys r) := by
        have hp : (FM.keys (FM.ins (k, v) r)).Perm (k :: FM.keys r) := (ins_perm (k, v) r).map _
        exact hp.mem_iff.1 hm
      rcases List.mem_cons.1 this with rfl | hm
      · exact hky
      · exact hy b hm
theorem St.put {m : FM.T V} (h : St m) (k : FM.Key) (v : V) : St (FM.put m k v) :=
  st_ins k v _ (h.del k) fun p hp => (FM.mem_del.1 hp).2
/-- Where a name stands, or would. -/
def pl : FM.T V → FM.Key → Nat
  | [], _ => 0
  | y :: r, k => if bytesBefore y.1 k then pl r k + 1 else 0
theorem pl_le : ∀ (m : FM.T V) (k : FM.Key), pl m k ≤ m.length
  | [], _ => Nat.le_refl _
  | y :: r, k => by
    unfold pl
    have := pl_le r k
    split
    · rw [List.length_cons]; omega
    · exact Nat.zero_le _
theorem pl_less : ∀ (m : FM.T V) (k : FM.Key) (i : Nat) (h : i < m.length), i < pl m k → bytesBefore (m[i]).1 k = true
  | [], _, _, h, _ => by simp at h
  | y :: r, k, i, h, hi => by
    unfold pl at hi
    split at hi
    · rename_i hb
      cases i with
      | zero => exact hb
      | succ i => exact pl_less r k i (by simpa using h) (by omega)
    · omega
theorem pl_not : ∀ (m : FM.T V) (k : FM.Key) (h : pl m k < m.length), bytesBefore (m[pl m k]).1 k = false
  | [], _, h => by simp at h
  | y :: r, k, h => by
    by_cases hb : bytesBefore y.1 k = true
    · have e : pl (y :: r) k = pl r k + 1 := by rw [pl, if_pos hb]
      have h' : pl r k < r.length := by rw [e] at h; simpa using h
      have := pl_not r k h'
      simp only [e, List.getElem_cons_succ]
      exact this
    · have e : pl (y :: r) k = 0 := by rw [pl, if_neg hb]
      simp only [e, List.getElem_cons_zero]
      simpa using hb
/-- Of names in order: the one that is asked for stands at its place, or nowhere. -/
theorem get_pl : ∀ (m : FM.T V) (hs : St m) (k : FM.Key), FM.get m k = (m[pl m k]?).bind fun p => if p.1 = k then some p.2 else none
  | [], _, _ => rfl
  | y :: r, hs, k => by
    have hr : St r := (List.pairwise_cons.1 hs).2
    have hy : ∀ b ∈ FM.keys r, bytesBefore y.1 b = true := (List.pairwise_cons.1 hs).1
    unfold FM.get
    rw [List.find?_cons]
    by_cases hb : bytesBefore y.1 k = true
    · have hne : (y.1 == k) = false := by
        rw [beq_eq_false_iff_ne]
        intro e
        rw [e, bytes_irrefl] at hb
        cases hb
      rw [hne, pl, if_pos hb, List.getElem?_cons_succ]
      exact get_pl r hr k
    · rw [pl, if_neg hb, List.getElem?_cons_zero]
      by_cases e : y.1 = k
      · simp [e]
      · have : (y.1 == k) = false := by simpa using e
        rw [this]
        have hn : r.find? (fun p => p.1 == k) = none := by
          rw [List.find?_eq_none]
          intro p hp
          have h1 := hy p.1 (List.mem_map.2 ⟨p, hp, rfl⟩)
          simp only [beq_iff_eq]
          intro ep
          rw [ep] at h1
          exact hb h1
        rw [hn]
        simp [e]
theorem del_none {m : FM.T V} {k : FM.Key} (h : FM.get m k = none) : FM.del m k = m := by
  unfold FM.del
  rw [List.filter_eq_self]
  intro p hp
  have : (p.1 == k) = false := by
    cases he : (p.1 == k) with
    | false => rfl
    | true =>
      obtain ⟨u, hu, _⟩ := FM.get_of_mem (m := m) (k := k) (v := p.2) (by have : p.1 = k := by simpa using he
                                                                          rw [← this]; exact hp)
      rw [h] at hu
      cases hu
  rw [this]
  rfl
theorem ins_new : ∀ (m : FM.T V) (hs : St m) (k : FM.Key) (v : V), FM.get m k = none → FM.ins (k, v) m = m.take (pl m k) ++ (k, v) :: m.drop (pl m k)
  | [], _, _, _, _ => rfl
  | y :: r, hs, k, v, hg => by
    have hr : St r := (List.pairwise_cons.1 hs).2
    have hne : y.1 ≠ k := fun e => by
      have := FM.get_of_mem (m := y :: r) (k := k) (v := y.2) (by rw [← e]; simp)
      obtain ⟨u, hu, _⟩ := this
      rw [hg] at hu
      cases hu
    have hg' : FM.get r k = none := by
      unfold FM.get at hg ⊢
      rw [List.find?_cons] at hg
      have : (y.1 == k) = false := by simpa using hne
      rw [this] at hg
      exact hg
    unfold FM.ins
    by_cases hb : bytesBefore y.1 k = true
    · have hkb : ¬ bytesBefore k y.1 = true := fun h2 => by
        have := bytes_trans _ _ _ hb h2
        rw [bytes_irrefl] at this
        cases this
      rw [if_neg hkb, pl, if_pos hb, List.take_succ_cons, List.drop_succ_cons, ins_new r hr k v hg']
      rfl
    · have hkb : bytesBefore k y.1 = true := by
        rcases bytes_total y.1 k hne with h1 | h1
        · exact absurd h1 hb
        · exact h1
      rw [if_pos hkb, pl, if_neg hb]
      rfl
theorem head_case {y : FM.Key × V} {r : FM.T V} {k : FM.Key} {u : V} (hs : St (y :: r)) (hg : FM.get (y :: r) k = some u) (hb : ¬ bytesBefore y.1 k = true) : y.1 = k ∧ FM.get r k = none ∧ pl r k = 0 := by
  have hy : ∀ b ∈ FM.keys r, bytesBefore y.1 b = true := (List.pairwise_cons.1 hs).1
  have h1 := get_pl (y :: r) hs k
  rw [hg, pl, if_neg hb, List.getElem?_cons_zero, Option.bind_some] at h1
  have e : y.1 = k := by
    by_cases e : y.1 = k
    · exact e
    · rw [if_neg e] at h1; cases h1
  refine ⟨e, ?_, ?_⟩
  · unfold FM.get
    rw [List.find?_eq_none.2]
    · rfl
    · intro p hp
      have h2 := hy p.1 (List.mem_map.2 ⟨p, hp, rfl⟩)
      simp only [beq_iff_eq]
      intro ep
      rw [ep, e, bytes_irrefl] at h2
      cases h2
  · cases r with
    | nil => rfl
    | cons z r =>
      have h2 := hy z.1 (by simp [FM.keys])
      rw [pl, if_neg]
      intro h3
      rw [e] at h2
      have := bytes_trans _ _ _ h2 h3
      rw [bytes_irrefl] at this
      cases this
theorem get_tail {y : FM.Key × V} {r : FM.T V} {k : FM.Key} (hne : y.1 ≠ k) : FM.get (y :: r) k = FM.get r k := by
  unfold FM.get
  rw [List.find?_cons]
  have : (y.1 == k) = false := by simpa using hne
  rw [this]
theorem del_old : ∀ (m : FM.T V) (hs : St m) (k : FM.Key) (u : V), FM.get m k = some u → FM.del m k = m.take (pl m k) ++ m.drop (pl m k + 1) ∧ pl (FM.del m k) k = pl m k
  | [], _, _, _, hg => by cases hg
  | y :: r, hs, k, u, hg => by
    have hr : St r := (List.pairwise_cons.1 hs).2
    by_cases hb : bytesBefore y.1 k = true
    · have hne : y.1 ≠ k := fun e => by rw [e, bytes_irrefl] at hb; cases hb
      obtain ⟨h1, h2⟩ := del_old r hr k u (by rw [← get_tail hne]; exact hg)
      have e : FM.del (y :: r) k = y :: FM.del r k := by
        unfold FM.del
        rw [List.filter_cons]
        have : (y.1 == k) = false := by simpa using hne
        rw [this]
        rfl
      rw [e]
      constructor
      · rw [pl, if_pos hb, h1]; rfl
      · rw [pl, if_pos hb, h2, pl, if_pos hb]
    · obtain ⟨e, hn, h0⟩ := head_case hs hg hb
      have e1 : FM.del (y :: r) k = r := by
        have : FM.del (y :: r) k = FM.del r k := by
          unfold FM.del
          rw [List.filter_cons, e]
          simp
        rw [this, del_none hn]
      rw [e1, h0, pl, if_neg hb]
      exact ⟨rfl, rfl⟩
theorem put_new {m : FM.T V} (hs : St m) (k : FM.Key) (v : V) (h : FM.get m k = none) : FM.put m k v = m.take (pl m k) ++ (k, v) :: m.drop (pl m k) := by
  unfold FM.put
  rw [del_none h]
  exact ins_new m hs k v h
theorem put_old {m : FM.T V} (hs : St m) (k : FM.Key) (v u : V) (h : FM.get m k = some u) : FM.put m k v = m.take (pl m k) ++ (k, v) :: m.drop (pl m k + 1) := by
  unfold FM.put
  obtain ⟨h1, h2⟩ := del_old m hs k u h
  rw [ins_new _ (hs.del k) k v (FM.get_del_same m k), h2]
  have hl : (m.take (pl m k)).length = pl m k := by rw [List.length_take]; have := pl_le m k; omega
  rw [h1, List.take_append_of_le_length (by omega), List.take_of_length_le (by omega), List.drop_append_of_le_length (by omega), List.drop_of_length_le (by omega)]
  rfl
theorem names_keys {m : FM.T V} (hs : St m) : FM.names m = FM.keys m := by
  refine List.Perm.eq_of_pairwise (le := fun a b : List UInt8 => a ≤ b) (fun a b _ _ h1 h2 => List.le_antisymm h1 h2) (names_sorted m) (hs.imp fun {a b} h => ?_) (List.mergeSort_perm _ _)
  rw [before_eq, bytesLess_eq] at h
  exact List.le_of_lt (of_decide_eq_true h)
end Go.Proofs.Ytjehbnhjaogfkaa.FL
