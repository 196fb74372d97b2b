import Derived.Test.YtjehbnhjaogfkaaSc37
namespace Go.Proofs.Ytjehbnhjaogfkaa.Sc
open Go.RowKit Go.Lib Go.Maps Go.WideAt Go.WideShapes Go.Proofs.YtjehbnhjaogfkaaW.PrintWords Go.Proofs.YtjehbnhjaogfkaaW.PrintLast Go.Proofs.YtjehbnhjaogfkaaW.PrintMore
open Go.Proofs.Ytjehbnhjaogfkaa
set_option linter.unusedVariables false
set_option linter.unusedSimpArgs false
/-! What is bad stays bad; a number takes eight bytes. -/
theorem rtake_badm {s : RS} (h : s.bad = true) (n : Int) : (rtake s n).2.bad = true := by unfold rtake; rw [if_pos (.inl h)]
theorem rnum_badm {s : RS} (h : s.bad = true) : (rnum s).2.bad = true := rtake_badm h 8
theorem rtext_badm {s : RS} (h : s.bad = true) : (rtext s).2.bad = true := rtake_badm (rnum_badm h) _
theorem rcol_badm {s : RS} (h : s.bad = true) : (rcol s).2.bad = true := rnum_badm (rtext_badm h)
theorem rloop_badm {α : Type} {each : RS → α × RS} : ∀ (k : Nat) (acc : List α) (s : RS), s.bad = true → (rloop each k acc s).2.bad = true
  | 0, _, s, h => h
  | k + 1, acc, s, h => by rw [rloop, if_pos h]; exact h
theorem rlist_badm {α : Type} {each : RS → α × RS} {s : RS} (h : s.bad = true) : (rlist each s).2.bad = true := by
  unfold rlist
  exact rloop_badm _ _ _ (by simp [rnum_badm h])
theorem rnum_ok {s : RS} (h : (rnum s).2.bad = false) : s.bad = false ∧ 8 ≤ s.b.length ∧ (rnum s).2 = ⟨s.b.drop 8, false⟩ ∧ (rnum s).1 = toI (fromle (s.b.take 8)) := by
  have hb : s.bad = false := by
    cases hs : s.bad with
    | false => rfl
    | true => rw [rnum_badm hs] at h; cases h
  unfold rnum rtake at h ⊢
  split at h
  · cases h
  · next hc =>
    rw [if_neg hc]
    refine ⟨hb, by omega, by rw [hb]; rfl, rfl⟩
theorem rtab_ok {s : RS} (h : (rtab s).2.bad = false) : s.bad = false ∧ (rtab s).2.b.length + 8 ≤ s.b.length := by
  have h1 : (rtab s).2 = (rlist rix (rnum (rlist rcol (rtext s).2).2).2).2 := rfl
  have hk : (rnum (rlist rcol (rtext s).2).2).2.bad = false := by
    cases hs : (rnum (rlist rcol (rtext s).2).2).2.bad with
    | false => rfl
    | true => rw [h1, rlist_badm hs] at h; cases h
  obtain ⟨k1, k2, k3, k4⟩ := rnum_ok hk
  have hs : s.bad = false := by
    cases hs : s.bad with
    | false => rfl
    | true => rw [rlist_badm (rtext_badm hs)] at k1; cases k1
  refine ⟨hs, ?_⟩
  have a1 := rlist_b rix_b (rnum (rlist rcol (rtext s).2).2).2
  have a2 := rlist_b rcol_b (rtext s).2
  have a3 := rtext_b s
  rw [h1]
  rw [k3] at a1 ⊢
  simp only [List.length_drop] at a1
  omega
theorem rtake_len1 (s : RS) (n : Int) : (rtake s n).1.length ≤ s.b.length := by
  unfold rtake
  split
  · exact Nat.zero_le _
  · simp only [List.length_take]; omega
theorem rtext_len (s : RS) : (rtext s).1.length ≤ s.b.length := Nat.le_trans (rtake_len1 _ _) (rnum_b s)
theorem rloop_len {α : Type} {each : RS → α × RS} : ∀ (k : Nat) (acc : List α) (s : RS), (rloop each k acc s).1.length ≤ acc.length + k
  | 0, acc, _ => Nat.le_refl _
  | k + 1, acc, s => by
    rw [rloop]
    split
    · show acc.length ≤ acc.length + (k + 1); omega
    · have := rloop_len (each := each) k (acc ++ [(each s).1]) (each s).2
      rw [List.length_append, List.length_singleton] at this
      omega
theorem rloop_bad {α : Type} {each : RS → α × RS} (k : Nat) (acc : List α) (s : RS) (h : s.bad = true) : rloop each k acc s = (acc, s) := by
  cases k with
  | zero => rfl
  | succ k => rw [rloop, if_pos h]
theorem rlist_len {α : Type} {each : RS → α × RS} (s : RS) : (rlist each s).1.length ≤ 4096 := by
  unfold rlist
  by_cases h : 4096 < (rnum s).1
  · rw [rloop_bad _ _ _ (by simp [h])]
    exact Nat.zero_le _
  · have := rloop_len (each := each) (rnum s).1.toNat [] ⟨(rnum s).2.b, (rnum s).2.bad || decide ((rnum s).1 < 0) || decide (4096 < (rnum s).1)⟩
    simp only [List.length_nil] at this
    omega
theorem rloop_all {α : Type} {each : RS → α × RS} {G : α → Prop} {B : Nat} (hb : ∀ s, (each s).2.b.length ≤ s.b.length) (hg : ∀ s, s.b.length ≤ B → G (each s).1) : ∀ (k : Nat) (acc : List α) (s : RS), s.b.length ≤ B → (∀ x ∈ acc, G x) → ∀ x ∈ (rloop each k acc s).1, G x
  | 0, acc, _, _, ha => ha
  | k + 1, acc, s, hs, ha => by
    rw [rloop]
    split
    · exact ha
    · refine rloop_all hb hg k _ _ (Nat.le_trans (hb s) hs) fun x hx => ?_
      rcases List.mem_append.1 hx with hx | hx
      · exact ha x hx
      · obtain rfl := List.mem_singleton.1 hx
        exact hg s hs
theorem rlist_all {α : Type} {each : RS → α × RS} {G : α → Prop} {B : Nat} (hb : ∀ s, (each s).2.b.length ≤ s.b.length) (hg : ∀ s, s.b.length ≤ B → G (each s).1) (s : RS) (hs : s.b.length ≤ B) : ∀ x ∈ (rlist each s).1, G x :=
  rloop_all hb hg _ _ _ (Nat.le_trans (rnum_b s) hs) (fun x hx => absurd hx (List.not_mem_nil))
theorem rT_sz (b : List UInt8) (h : b.length ≤ 1000000000) : TSz (rT b).1 := by
  have hm : ∀ n : Nat, n ≤ 1000000000 → n ≤ maxLen := fun n hn => by unfold maxLen; omega
  have ht : ∀ s : RS, s.b.length ≤ 1000000000 → (str (rtext s).1).size ≤ maxLen := fun s hs => by rw [str_size]; exact hm _ (Nat.le_trans (rtext_len s) hs)
  have h0 : (⟨b, false⟩ : RS).b.length ≤ 1000000000 := h
  have h1 := Nat.le_trans (rtext_b ⟨b, false⟩) h0
  have h2 := Nat.le_trans (rlist_b rcol_b _) h1
  have h3 := Nat.le_trans (rnum_b _) h2
  refine ⟨ht _ h0, rlist_all (G := fun x : Col => x.nm.size ≤ maxLen) rcol_b (fun s hs => ht s hs) _ h1, rlist_all (G := fun x : Ix => x.nm.size ≤ maxLen) rix_b (fun s hs => ht s hs) _ h3, Nat.le_trans (rlist_len _) (by decide), Nat.le_trans (rlist_len _) (by decide), rlist_all (G := fun x : Ix => x.cols.length ≤ 140737488355328) rix_b (fun s hs => Nat.le_trans (rlist_len _) (by decide)) _ h3⟩
/-! Decode, plainly. -/
def decA : Nat → List UInt8 → List UInt8 → List Tb → Option (List Tb)
  | 0, _, _, _ => none
  | k + 1, b, last, acc =>
    if b = [] then some acc
    else if (rT b).2.bad = true ∨ bytesBefore last (rT b).1.nm.data.toList = false ∨ chk (rT b).1 = false ∨ 4096 ≤ acc.length then none
    else decA k (rT b).2.b (rT b).1.nm.data.toList (acc ++ [(rT b).1])
/-- Of bytes: the schemas, or what is wrong. -/
def outD : Option (List Tb) → Int × Option (List Tb)
  | none => (3, none)
  | some l => (0, some l)
def decR (b : List UInt8) : Int × Option (List Tb) := if 262144 < b.length then (2, none) else outD (decA (b.length + 1) b [] [])
end Go.Proofs.Ytjehbnhjaogfkaa.Sc
