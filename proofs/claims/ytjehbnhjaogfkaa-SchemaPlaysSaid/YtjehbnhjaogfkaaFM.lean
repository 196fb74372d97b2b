/- A map keyed by strings, as a list of keys and values in order; what the model's words on maps come to upon it. -/
import Derived.Maps.OwnSet
import Derived.Sort.KeysCollected
namespace Go.Proofs.Ytjehbnhjaogfkaa.FM
open Go.Maps
set_option linter.unusedVariables false
set_option linter.unusedSimpArgs false
variable {V : Type} {H : Type}
abbrev Key := List UInt8
abbrev T (V : Type) := List (Key × V)
def ins (x : Key × V) : T V → T V
  | [] => [x]
  | y :: r => if bytesBefore x.1 y.1 then x :: y :: r else y :: ins x r
def del (m : T V) (k : Key) : T V := m.filter fun p => !(p.1 == k)
def put (m : T V) (k : Key) (f : V) : T V := ins (k, f) (del m k)
def get (m : T V) (k : Key) : Option V := (m.find? fun p => p.1 == k).map (·.2)
def toD (val : V → DataW H) (m : T V) : DataW H := .map (m.map fun p => (Lit.string p.1, val p.2))
def keys (m : T V) : List Key := m.map (·.1)
def names (m : T V) : List Key := (keys m).mergeSort leB
theorem toD_ins (val : V → DataW H) (k : Key) (f : V) : ∀ m : T V, DataW.insert (Lit.string k, val f) (m.map fun p => (Lit.string p.1, val p.2)) = (ins (k, f) m).map fun p => (Lit.string p.1, val p.2)
  | [] => rfl
  | y :: r => by
    have ih := toD_ins val k f r
    by_cases h : bytesBefore k y.1 = true
    · simp [DataW.insert, ins, Lit.before, h]
    · simp [DataW.insert, ins, Lit.before, h, ih]
theorem toD_filter (val : V → DataW H) (k : Key) : ∀ m : T V, (m.map fun p => (Lit.string p.1, val p.2)).filter (fun p => !p.1.sameKey (Lit.string k)) = (del m k).map fun p => (Lit.string p.1, val p.2)
  | [] => rfl
  | y :: r => by
    have ih := toD_filter val k r
    unfold del at ih ⊢
    rw [List.map_cons, List.filter_cons, List.filter_cons, ih]
    by_cases h : y.1 = k
    · simp [Lit.sameKey, h]
    · simp [Lit.sameKey, h]
theorem toD_put (val : V → DataW H) (m : T V) (k : Key) (f : V) : (toD val m).put (.string k) (val f) = toD val (put m k f) := by
  unfold toD DataW.put put
  simp only
  rw [toD_filter, toD_ins]
theorem toD_del (val : V → DataW H) (m : T V) (k : Key) : (toD val m).del (.string k) = toD val (del m k) := by
  unfold toD DataW.del
  simp only
  rw [toD_filter]
theorem find_map (val : V → DataW H) (k : Key) : ∀ m : T V, (m.map fun p => (Lit.string p.1, val p.2)).find? (fun p => p.1.sameKey (Lit.string k)) = (m.find? fun p => p.1 == k).map fun p => (Lit.string p.1, val p.2)
  | [] => rfl
  | y :: r => by
    rw [List.map_cons, List.find?_cons, List.find?_cons, find_map val k r]
    simp only [Lit.sameKey]
    cases y.1 == k <;> rfl
theorem toD_at (val : V → DataW H) (m : T V) (k : Key) (z : V) : (toD val m).atKey (.string k) (val z) = val ((get m k).getD z) := by
  unfold toD DataW.atKey get
  simp only
  rw [find_map]
  cases m.find? fun p => p.1 == k <;> rfl
theorem toD_has (val : V → DataW H) (m : T V) (k : Key) : has (toD val m) (.string k) = (get m k).isSome := by
  unfold toD get
  have h := congrArg Option.isSome (find_map (H := H) val k m)
  rw [List.isSome_find?] at h
  rw [has_eq, h]
  cases m.find? fun p => p.1 == k <;> rfl
theorem toD_size (val : V → DataW H) (m : T V) : size (toD val m) = m.length := by
  unfold toD
  rw [size_eq, List.length_map]
theorem toD_keys (val : V → DataW H) (m : T V) : strKeys (toD val m) = keys m := by
  unfold toD strKeys keys
  simp only [List.map_map]
  rfl
theorem names_of {val : V → DataW H} {m : T V} {ss : List Key} (h : ss.Perm (strKeys (toD val m))) : ss.mergeSort (fun x y => decide (x ≤ y)) = names m := by
  rw [toD_keys] at h
  exact mergeSort_of_perm h
theorem names_len (m : T V) : (names m).length = m.length := by
  unfold names keys
  rw [List.length_mergeSort, List.length_map]
theorem mem_names {m : T V} {k : Key} : k ∈ names m ↔ ∃ v, (k, v) ∈ m := by
  unfold names keys
  rw [List.mem_mergeSort, List.mem_map]
  exact ⟨fun ⟨p, h, e⟩ => ⟨p.2, by rw [← e]; exact h⟩, fun ⟨v, h⟩ => ⟨_, h, rfl⟩⟩
theorem get_of_mem {m : T V} {k : Key} {v : V} (h : (k, v) ∈ m) : ∃ u, get m k = some u ∧ (k, u) ∈ m := by
  unfold get
  cases hf : m.find? fun p => p.1 == k with
  | none =>
    have := List.find?_eq_none.1 hf _ h
    simp at this
  | some p =>
    have h1 := List.find?_some hf
    have h2 := List.mem_of_find?_eq_some hf
    obtain ⟨a, b⟩ := p
    have : a = k := by simpa using h1
    subst this
    exact ⟨b, rfl, h2⟩
theorem mem_of_get {m : T V} {k : Key} {u : V} (h : get m k = some u) : (k, u) ∈ m := by
  unfold get at h
  obtain ⟨p, hf, rfl⟩ := Option.map_eq_some_iff.1 h
  have h1 := List.find?_some hf
  have h2 := List.mem_of_find?_eq_some hf
  obtain ⟨a, b⟩ := p
  have : a = k := by simpa using h1
  subst this
  exact h2
theorem mem_ins {x y : Key × V} : ∀ {m : T V}, y ∈ ins x m ↔ y = x ∨ y ∈ m
  | [] => by simp [ins]
  | z :: r => by
    unfold ins
    split
    · simp
    · rw [List.mem_cons, mem_ins, List.mem_cons]
      constructor
      · rintro (h | h | h)
        · exact .inr (.inl h)
        · exact .inl h
        · exact .inr (.inr h)
      · rintro (h | h | h)
        · exact .inr (.inl h)
        · exact .inl h
        · exact .inr (.inr h)
theorem mem_del {m : T V} {k : Key} {y : Key × V} : y ∈ del m k ↔ y ∈ m ∧ y.1 ≠ k := by
  unfold del
  rw [List.mem_filter]
  simp
theorem mem_put {m : T V} {k : Key} {f : V} {y : Key × V} : y ∈ put m k f ↔ y = (k, f) ∨ (y ∈ m ∧ y.1 ≠ k) := by
  unfold put
  rw [mem_ins, mem_del]
theorem len_ins (x : Key × V) : ∀ m : T V, (ins x m).length = m.length + 1
  | [] => rfl
  | y :: r => by
    unfold ins
    split
    · rfl
    · rw [List.length_cons, len_ins x r]; rfl
theorem len_del (m : T V) (k : Key) : (del m k).length ≤ m.length := List.length_filter_le _ _
theorem len_del_of_get {m : T V} {k : Key} {f : V} (h : get m k = some f) : (del m k).length + 1 ≤ m.length := by
  have hm := mem_of_get h
  unfold del
  exact List.length_filter_lt_length_iff_exists.2 ⟨_, hm, by simp⟩
theorem len_put_new (m : T V) (k : Key) (f : V) : (put m k f).length ≤ m.length + 1 := by
  unfold put
  rw [len_ins]
  have := len_del m k
  omega
theorem len_put_old {m : T V} {k : Key} {g : V} (f : V) (h : get m k = some g) : (put m k f).length ≤ m.length := by
  unfold put
  rw [len_ins]
  exact len_del_of_get h
theorem find_ins_same (k : Key) (f : V) : ∀ m : T V, (∀ p ∈ m, p.1 ≠ k) → (ins (k, f) m).find? (fun p => p.1 == k) = some (k, f)
  | [], _ => by simp [ins]
  | y :: r, h => by
    unfold ins
    split
    · simp
    · have hy : (y.1 == k) = false := by simpa using h y (by simp)
      rw [List.find?_cons, hy]
      exact find_ins_same k f r fun p hp => h p (by simp [hp])
theorem find_ins_other {k k' : Key} (f : V) (hne : k ≠ k') : ∀ m : T V, (ins (k, f) m).find? (fun p => p.1 == k') = m.find? (fun p => p.1 == k')
  | [] => by simp [ins, hne]
  | y :: r => by
    unfold ins
    have hb : (k == k') = false := by simpa using hne
    split
    · rw [List.find?_cons]
      simp only [hb]
    · rw [List.find?_cons, List.find?_cons, find_ins_other f hne r]
theorem get_put_same (m : T V) (k : Key) (f : V) : get (put m k f) k = some f := by
  unfold get put
  rw [find_ins_same k f _ fun p hp => (mem_del.1 hp).2]
  rfl
theorem find_del_other {k k' : Key} (hne : k ≠ k') : ∀ m : T V, (del m k).find? (fun p => p.1 == k') = m.find? (fun p => p.1 == k')
  | [] => rfl
  | y :: r => by
    have ih := find_del_other hne r
    unfold del at ih ⊢
    rw [List.filter_cons]
    by_cases e : y.1 = k
    · have h1 : (!(y.1 == k)) = false := by simp [e]
      rw [h1, List.find?_cons]
      have h2 : (y.1 == k') = false := by simpa [e] using hne
      rw [h2]
      exact ih
    · have h1 : (!(y.1 == k)) = true := by simpa using e
      rw [h1, if_pos rfl, List.find?_cons, List.find?_cons, ih]
theorem get_put_other {k k' : Key} (m : T V) (f : V) (hne : k ≠ k') : get (put m k f) k' = get m k' := by
  unfold get put
  rw [find_ins_other f hne, find_del_other hne]
theorem get_del_same (m : T V) (k : Key) : get (del m k) k = none := by
  unfold get
  rw [List.find?_eq_none.2 fun p hp => by simpa using (mem_del.1 hp).2]
  rfl
theorem get_del_other {k k' : Key} (m : T V) (hne : k ≠ k') : get (del m k) k' = get m k' := by
  unfold get
  rw [find_del_other hne]
end Go.Proofs.Ytjehbnhjaogfkaa.FM
