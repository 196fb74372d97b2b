/- What the laws on disks come to: one file, two files, a crash. -/
import Derived.Test.YtjkllbilfcopmaaDiskPure
namespace Go.Proofs.Ytjkllbilfcopmaa.Dk
set_option linter.unusedVariables false
set_option linter.unusedSimpArgs false
def kA : FM.Key := [97]
def kB : FM.Key := [98]
def nA : ByteArray := ⟨#[97]⟩
def nB : ByteArray := ⟨#[98]⟩
theorem okA : nameOk nA = true := by decide
theorem okB : nameOk nB = true := by decide
/-- A disk with one file, a. -/
def One (f : Fl) (fu dn : Bool) (l : Int) : DS := ⟨[(kA, f)], fu, dn, l⟩
theorem put_nil {V : Type} (k : FM.Key) (f : V) : FM.put [] k f = [(k, f)] := rfl
theorem put_one {V : Type} (k : FM.Key) (f g : V) : FM.put [(k, f)] k g = [(k, g)] := by simp [FM.put, FM.del, FM.ins]
theorem get_one {V : Type} (k : FM.Key) (f : V) : FM.get [(k, f)] k = some f := by simp [FM.get]
theorem get_nil {V : Type} (k : FM.Key) : FM.get ([] : FM.T V) k = none := rfl
theorem names_one {V : Type} (k : FM.Key) (f : V) : FM.names [(k, f)] = [k] := by simp [FM.names, FM.keys]
theorem file_one (f : Fl) (fu dn : Bool) (l : Int) : file (One f fu dn l) nA = f := by
  show (FM.get [(kA, f)] kA).getD z0 = f
  rw [get_one]; rfl
theorem there_one (f : Fl) (fu dn : Bool) (l : Int) : there (One f fu dn l) nA = true := by
  show (FM.get [(kA, f)] kA).isSome = true
  rw [get_one]; rfl
theorem known_one (f : Fl) (fu dn : Bool) (l : Int) : known (One f fu dn l) nA = (f, 0) := by
  unfold known
  rw [okA, there_one, file_one]
  rfl
theorem append_empty (t : ByteArray) : ByteArray.empty ++ t = t := ByteArray.empty_append
theorem app_new (t : ByteArray) (h : t.size ≤ 262144) : append new nA t = (One ⟨t, 0⟩ false false 0, 0) := by
  unfold append
  rw [okA, if_neg (by decide)]
  have hf : file new nA = z0 := rfl
  rw [hf, if_neg (show ¬ 262144 < z0.has.size + t.size from by have : z0.has.size = 0 := rfl; omega), if_neg (show ¬ (there new nA = false ∧ 64 ≤ new.m.length) from fun h => absurd h.2 (by decide)), if_neg (by decide)]
  show (DS.mk (FM.put [] kA ⟨ByteArray.empty ++ t, 0⟩) false false 0, (0 : Int)) = _
  rw [append_empty]
  rfl
theorem ok_plain (m : Fs) (l : Int) : (DS.mk m false false l).ok = true := rfl
theorem app_one (f : Fl) (t : ByteArray) (l : Int) (h : f.has.size + t.size ≤ 262144) : append (One f false false l) nA t = (One ⟨f.has ++ t, f.safe⟩ false false l, 0) := by
  unfold append
  rw [okA, file_one, there_one, if_neg (by decide), if_neg (by omega), if_neg (fun h => absurd h.1 (by decide)), show (One f false false l).ok = true from rfl, if_neg (by decide)]
  show (DS.mk (FM.put [(kA, f)] kA ⟨f.has ++ t, f.safe⟩) false false l, (0 : Int)) = _
  rw [put_one]; rfl
theorem sync_one (f : Fl) (l : Int) : sync (One f false false l) nA = (One ⟨f.has, f.has.size⟩ false false l, 0) := by
  unfold sync altered
  rw [known_one, file_one, show (One f false false l).ok = true from rfl]
  show (DS.mk (FM.put [(kA, f)] kA ⟨f.has, f.has.size⟩) false false l, (0 : Int)) = _
  rw [put_one]; rfl
theorem read_one (f : Fl) (fu dn : Bool) (l : Int) : read (One f fu dn l) nA = (f.has, 0) := by
  unfold read
  rw [known_one]
theorem crash_one (f : Fl) (fu dn : Bool) (l x : Int) : crash (One f fu dn l) [x] = (One (if tail f = 0 then f else torn f x) false false 0, 0) := by
  unfold crash
  rw [if_neg (by simp)]
  show (DS.mk (crashL (FM.names [(kA, f)]) [x] [(kA, f)]) false false 0, (0 : Int)) = _
  rw [names_one, crashL_cons, get_one]
  show (DS.mk (if tail f = 0 then [(kA, f)] else FM.put [(kA, f)] kA (torn f x)) false false 0, (0 : Int)) = _
  rw [put_one]
  split <;> rfl
/-! ### a crash -/
theorem crashL_keep : ∀ (ns : List FM.Key) (dr : List Int) (m : Fs) (k : FM.Key), tail ((FM.get m k).getD z0) = 0 → FM.get (crashL ns dr m) k = FM.get m k
  | [], _, _, _, _ => rfl
  | n :: ns, dr, m, k, h => by
    rw [crashL_cons]
    split
    · exact crashL_keep ns dr m k h
    · rename_i hn
      have hne : n ≠ k := fun e => hn (by rw [e]; exact h)
      have e := FM.get_put_other m (torn ((FM.get m n).getD z0) (dr.headD 0)) hne
      rw [crashL_keep ns _ _ k (by rw [e]; exact h), e]
theorem tail_torn {f : Fl} (h : 0 ≤ f.safe ∧ f.safe ≤ f.has.size) (x : Int) : tail (torn f x) = 0 := by
  have := torn_le h x
  unfold tail
  omega
theorem crashL_safe : ∀ (ns : List FM.Key) (dr : List Int) (m : Fs), AllFine m → ∀ k ∈ ns, tail ((FM.get (crashL ns dr m) k).getD z0) = 0
  | n :: ns, dr, m, h, k, hk => by
    rw [crashL_cons]
    rcases List.mem_cons.1 hk with rfl | hk
    · split
      · rename_i hn
        rw [crashL_keep ns dr m k hn]; exact hn
      · rename_i hn
        obtain ⟨f, hf⟩ := tail_there hn
        have hff := h.1 _ (FM.mem_of_get hf)
        have e : tail ((FM.get (FM.put m k (torn ((FM.get m k).getD z0) (dr.headD 0))) k).getD z0) = 0 := by
          rw [FM.get_put_same, hf]
          exact tail_torn (f := f) ⟨hff.1, hff.2.1⟩ _
        rw [crashL_keep ns _ _ k e]; exact e
    · split
      · exact crashL_safe ns dr m h k hk
      · rename_i hn
        exact crashL_safe ns _ _ (torn_fine h hn _) k hk
theorem names_get {m : Fs} {k : FM.Key} (h : k ∉ FM.names m) : FM.get m k = none := by
  cases hg : FM.get m k with
  | none => rfl
  | some u => exact absurd (FM.mem_names.2 ⟨u, FM.mem_of_get hg⟩) h
theorem crashL_out : ∀ (ns : List FM.Key) (dr : List Int) (m : Fs) (k : FM.Key), FM.get m k = none → FM.get (crashL ns dr m) k = none := fun ns dr m k h => by
  rw [crashL_keep ns dr m k (by rw [h]; rfl)]; exact h
theorem all_safe {m : Fs} (h : AllFine m) (dr : List Int) (k : FM.Key) : tail ((FM.get (crashL (FM.names m) dr m) k).getD z0) = 0 := by
  by_cases hk : k ∈ FM.names m
  · exact crashL_safe _ _ _ h k hk
  · rw [crashL_out _ _ _ _ (names_get hk)]; rfl
theorem crashL_still : ∀ (ns : List FM.Key) (dr : List Int) (m : Fs), (∀ k, tail ((FM.get m k).getD z0) = 0) → crashL ns dr m = m
  | [], _, _, _ => rfl
  | n :: ns, dr, m, h => by rw [crashL_cons, if_pos (h n)]; exact crashL_still ns dr m h
/-- Behind a crash another one changes nothing. -/
theorem crash_twice {d : DS} (h : Fine d) (x y : List Int) (hx : (crash d x).2 = 0) (hy : (crash (crash d x).1 y).2 = 0) : (crash (crash d x).1 y).1.m = (crash d x).1.m := by
  unfold crash at hx hy ⊢
  split at hx
  · cases hx
  · rename_i h1
    rw [if_neg h1] at hy ⊢
    split at hy
    · cases hy
    · rename_i h2
      rw [if_neg h2]
      show crashL _ y (crashL (FM.names d.m) x d.m) = crashL (FM.names d.m) x d.m
      exact crashL_still _ _ _ (all_safe ⟨h.fls, h.many⟩ x)
theorem crash_two (d : DS) (x : List Int) : (crash d x).2 = 0 ∧ x.length ≤ 4096 ∨ (crash d x).2 = 2 ∧ 4096 < x.length := by
  unfold crash
  split
  · exact .inr ⟨rfl, by assumption⟩
  · exact .inl ⟨rfl, by omega⟩
end Go.Proofs.Ytjkllbilfcopmaa.Dk
