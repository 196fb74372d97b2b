import Derived.Test.YtdnmllodefbekaaDoorAu11
namespace Go.Proofs.YtdnmllodefbekaaDoor.Au
open Go.RowKit Go.Lib Go.Maps Go.Sort Go.Shelf
set_option linter.unusedVariables false
set_option linter.unusedSimpArgs false
def Nd (m : Ks) : Prop := (FM.keys m).Nodup
theorem ins_perm (x : FM.Key × ByteArray) : ∀ m : Ks, (FM.ins x m).Perm (x :: m)
  | [] => by simp [FM.ins]
  | y :: r => by
    unfold FM.ins
    split
    · exact List.Perm.refl _
    · exact ((ins_perm x r).cons y).trans (List.Perm.swap x y r)
theorem keys_del (m : Ks) (k : FM.Key) : FM.keys (FM.del m k) = (FM.keys m).filter fun x => !(x == k) := by
  unfold FM.keys FM.del
  rw [List.filter_map]
  rfl
theorem Nd.del {m : Ks} (h : Nd m) (k : FM.Key) : Nd (FM.del m k) := by
  unfold Nd
  rw [keys_del]
  exact List.Nodup.sublist List.filter_sublist h
theorem Nd.put {m : Ks} (h : Nd m) (k : FM.Key) (v : ByteArray) : Nd (FM.put m k v) := by
  unfold Nd FM.put
  have hp : (FM.keys (FM.ins (k, v) (FM.del m k))).Perm (k :: FM.keys (FM.del m k)) := (ins_perm (k, v) (FM.del m k)).map _
  refine hp.nodup_iff.2 (List.nodup_cons.2 ⟨?_, h.del k⟩)
  rw [keys_del]
  simp
theorem nd_nil : Nd [] := List.nodup_nil
theorem names_nodup {m : Ks} (h : Nd m) : (FM.names m).Nodup := (List.mergeSort_perm _ _).nodup_iff.2 h
/-- What is left of a map when the first i names have been taken away. -/
def rest (m : Ks) (i : Nat) : Ks := m.filter fun p => !(((FM.names m).take i).contains p.1)
theorem rest_zero (m : Ks) : rest m 0 = m := by
  unfold rest
  simp
theorem rest_succ (m : Ks) (i : Nat) (k : FM.Key) (h : (FM.names m)[i]? = some k) : FM.del (rest m i) k = rest m (i + 1) := by
  unfold rest FM.del
  rw [List.filter_filter]
  congr 1
  funext p
  rw [List.take_add_one, h]
  by_cases e : p.1 = k <;> simp [e]
theorem find_filter {p : FM.Key × ByteArray → Bool} {q : FM.Key × ByteArray → Bool} (h : ∀ x, q x = true → p x = true) : ∀ l : Ks, (l.filter p).find? q = l.find? q
  | [] => rfl
  | x :: r => by
    rw [List.filter_cons]
    split
    · rw [List.find?_cons, List.find?_cons, find_filter h r]
    · rename_i hx
      have : q x = false := by
        cases hq : q x with
        | false => rfl
        | true => exact absurd (h x hq) hx
      rw [List.find?_cons, this]
      exact find_filter h r
theorem rest_get {m : Ks} (hn : Nd m) (i : Nat) (k : FM.Key) (h : (FM.names m)[i]? = some k) : FM.get (rest m i) k = FM.get m k := by
  unfold FM.get rest
  rw [find_filter]
  intro x hx
  have hk : x.1 = k := by simpa using hx
  rw [hk]
  have hnd := names_nodup hn
  have : k ∉ (FM.names m).take i := fun hm => by
    obtain ⟨j, hj, e⟩ := List.mem_iff_getElem.1 hm
    rw [List.getElem_take] at e
    have hj' : j < i := by rw [List.length_take] at hj; omega
    obtain ⟨hi, e2⟩ := List.getElem?_eq_some_iff.1 h
    exact (List.pairwise_iff_getElem.1 hnd) j i (by omega) hi hj' (e.trans e2.symm)
  simpa using this
theorem get_there {m : Ks} (i : Nat) (k : FM.Key) (h : (FM.names m)[i]? = some k) : ∃ v, FM.get m k = some v := by
  obtain ⟨v, hv⟩ := FM.mem_names.1 (List.mem_of_getElem? h)
  obtain ⟨u, hu, _⟩ := FM.get_of_mem hv
  exact ⟨u, hu⟩
theorem rest_all (m : Ks) (i : Nat) (h : m.length ≤ i) : rest m i = [] := by
  unfold rest
  rw [List.filter_eq_nil_iff]
  intro p hp
  rw [List.take_of_length_le (by rw [FM.names_len]; exact h)]
  have : p.1 ∈ FM.names m := FM.mem_names.2 ⟨p.2, hp⟩
  simpa using this
theorem put_two (m : Ks) (n k : ByteArray) : (put m n k = (FM.put m n.data.toList k, 0)) ∨ ((put m n k).1 = m ∧ ((put m n k).2 = 10 ∨ (put m n k).2 = 2)) := by
  unfold put
  split
  · exact .inr ⟨rfl, .inl rfl⟩
  · split
    · exact .inr ⟨rfl, .inr rfl⟩
    · split
      · exact .inr ⟨rfl, .inr rfl⟩
      · exact .inl rfl
end Go.Proofs.YtdnmllodefbekaaDoor.Au
