/- A disk as a list of files in order: what its calls come to. No program in sight. -/
import Derived.Test.YtjkllbilfcopmaaFM
namespace Go.Proofs.Ytjkllbilfcopmaa.Dk
open Go.Proofs.Ytjkllbilfcopmaa (FM.T)
set_option linter.unusedVariables false
set_option linter.unusedSimpArgs false
/-- A file: its bytes, how many are safe. -/
structure Fl where
  has : ByteArray
  safe : Int
def z0 : Fl := ⟨ByteArray.empty, 0⟩
def fileV (f : Fl) : Value := .agg #[.string f.has, .int .i64 f.safe]
def fileD {H : Type} (f : Fl) : DataW H := .agg [.lit (.string f.has.data.toList), .lit (.int .i64 f.safe)]
def fileL {H : Type} : List Value → Option (DataW H × List MemPlace)
  | [.string s, .int .i64 n] => some (fileD ⟨s, n⟩, [])
  | _ => none
def fileR {H : Type} : Value → Option (DataW H × List MemPlace)
  | .agg a => fileL a.toList
  | _ => none
theorem fileR_mk {H : Type} (f : Fl) : fileR (H := H) (fileV f) = some (fileD f, []) := rfl
theorem fileD_inj {H : Type} {f g : Fl} (h : fileD (H := H) f = fileD g) : f = g := by
  unfold fileD at h
  obtain ⟨⟨⟨a⟩⟩, b⟩ := f
  obtain ⟨⟨⟨c⟩⟩, d⟩ := g
  simp at h
  obtain ⟨rfl, rfl⟩ := h
  rfl
theorem fileR_inv {H : Type} {v : Value} {f : Fl} {ps : List MemPlace} (h : fileR (H := H) v = some (fileD f, ps)) : v = fileV f := by
  unfold fileR at h
  split at h
  · rename_i a
    obtain ⟨l⟩ := a
    simp only at h
    unfold fileL at h
    split at h
    · obtain rfl := fileD_inj (Prod.mk.inj (Option.some.inj h)).1
      rfl
    · cases h
  · cases h
abbrev Fs := FM.T Fl
def nameC (c : UInt8) : Bool := (97 ≤ c && c ≤ 122) || (48 ≤ c && c ≤ 57) || c == 46
def nameOk (s : ByteArray) : Bool := !s.data.toList.isEmpty && decide (s.size ≤ 32) && s.data.toList.all nameC
structure DS where
  m : Fs
  fused : Bool
  down : Bool
  left : Int
def DS.ok (d : DS) : Bool := !(d.down || (d.fused && d.left == 0))
/-- Behind the asking whether a change may be made. -/
def DS.chg (d : DS) : DS := if d.ok then (if d.fused then { d with left := d.left - 1 } else d) else { d with down := true }
def file (d : DS) (s : ByteArray) : Fl := (FM.get d.m s.data.toList).getD z0
def there (d : DS) (s : ByteArray) : Bool := (FM.get d.m s.data.toList).isSome
def append (d : DS) (s t : ByteArray) : DS × Int :=
  if nameOk s = false then (d, 10)
  else if 262144 < (file d s).has.size + t.size then (d, 2)
  else if there d s = false ∧ 64 ≤ d.m.length then (d, 2)
  else if d.ok = false then (d.chg, 11)
  else ({ d.chg with m := FM.put d.m s.data.toList ⟨(file d s).has ++ t, (file d s).safe⟩ }, 0)
/-- What a name that must be there comes to. -/
def known (d : DS) (s : ByteArray) : Fl × Int :=
  if nameOk s = false then (z0, 10) else if there d s = false then (z0, 5) else (file d s, 0)
def altered (d : DS) (s : ByteArray) : DS × Fl × Int :=
  if (known d s).2 = 0 then (d.chg, (known d s).1, if d.ok then 0 else 11) else (d, known d s)
def sync (d : DS) (s : ByteArray) : DS × Int :=
  if (altered d s).2.2 = 0 then ({ (altered d s).1 with m := FM.put d.m s.data.toList ⟨(file d s).has, (file d s).has.size⟩ }, 0) else ((altered d s).1, (altered d s).2.2)
def rename (d : DS) (s t : ByteArray) : DS × Int :=
  if nameOk s = false then (d, 10) else if nameOk t = false then (d, 10)
  else if (altered d s).2.2 = 0 then ({ (altered d s).1 with m := FM.put (FM.del d.m s.data.toList) t.data.toList (file d s) }, 0) else ((altered d s).1, (altered d s).2.2)
def remove (d : DS) (s : ByteArray) : DS × Int :=
  if (altered d s).2.2 = 0 then ({ (altered d s).1 with m := FM.del d.m s.data.toList }, 0) else ((altered d s).1, (altered d s).2.2)
def read (d : DS) (s : ByteArray) : ByteArray × Int := ((known d s).1.has, (known d s).2)
def fuse (d : DS) (n : Int) : DS × Int := if n < 0 then (d, 1) else ({ d with fused := true, left := n }, 0)
def tail (f : Fl) : Int := f.has.size - f.safe
/-- A crash, file by file. -/
def crashL : List FM.Key → List Int → Fs → Fs
  | [], _, m => m
  | n :: ns, dr, m =>
    if tail ((FM.get m n).getD z0) = 0 then crashL ns dr m
    else crashL ns dr.tail (FM.put m n ⟨((FM.get m n).getD z0).has.extract 0 (((FM.get m n).getD z0).safe + (max 0 (dr.headD 0)) % (tail ((FM.get m n).getD z0) + 1)).toNat, ((FM.get m n).getD z0).safe + (max 0 (dr.headD 0)) % (tail ((FM.get m n).getD z0) + 1)⟩)
def crash (d : DS) (dr : List Int) : DS × Int := if 4096 < dr.length then (d, 2) else (⟨crashL (FM.names d.m) dr d.m, false, false, 0⟩, 0)
/-- A sound disk. -/
structure Fine (d : DS) : Prop where
  fls : ∀ p ∈ d.m, 0 ≤ p.2.safe ∧ p.2.safe ≤ p.2.has.size ∧ p.2.has.size ≤ 262144 ∧ p.1.length ≤ 32
  many : d.m.length ≤ 64
  left : 0 ≤ d.left ∧ d.left ≤ 9223372036854775807
theorem Fine.file {d : DS} (h : Fine d) (s : ByteArray) : 0 ≤ (file d s).safe ∧ (file d s).safe ≤ (file d s).has.size ∧ (file d s).has.size ≤ 262144 := by
  unfold Dk.file
  cases hg : FM.get d.m s.data.toList with
  | none => exact ⟨by decide, by decide, by decide⟩
  | some f => exact ⟨(h.fls _ (FM.mem_of_get hg)).1, (h.fls _ (FM.mem_of_get hg)).2.1, (h.fls _ (FM.mem_of_get hg)).2.2.1⟩
theorem nameOk_len {s : ByteArray} (h : nameOk s = true) : s.data.toList.length ≤ 32 := by
  unfold nameOk at h
  simp only [Bool.and_eq_true, decide_eq_true_eq] at h
  rw [Array.length_toList]
  exact h.1.2
theorem chg_m (d : DS) : d.chg.m = d.m := by unfold DS.chg; split <;> (try split) <;> rfl
theorem chg_left {d : DS} (h : Fine d) : 0 ≤ d.chg.left ∧ d.chg.left ≤ 9223372036854775807 := by
  have hl := h.left
  unfold DS.chg
  split
  · rename_i h1
    split
    · rename_i h2
      have : d.left ≠ 0 := fun e => by unfold DS.ok at h1; rw [h2, e] at h1; cases d.down <;> simp at h1
      exact ⟨by show 0 ≤ d.left - 1; omega, by show d.left - 1 ≤ _; omega⟩
    · exact hl
  · exact hl
theorem Fine.chg {d : DS} (h : Fine d) : Fine d.chg := ⟨by rw [chg_m]; exact h.fls, by rw [chg_m]; exact h.many, chg_left h⟩
theorem append_size (a b : ByteArray) : (a ++ b).size = a.size + b.size := ByteArray.size_append
theorem append_fine {d : DS} (h : Fine d) (s t : ByteArray) : Fine (append d s t).1 := by
  unfold append
  split
  · exact h
  · rename_i hn
    split
    · exact h
    · rename_i hz
      split
      · exact h
      · rename_i hm
        split
        · exact h.chg
        · refine ⟨fun p hp => ?_, ?_, chg_left h⟩
          · rcases FM.mem_put.1 hp with rfl | ⟨hp, _⟩
            · have := h.file s
              have e := append_size (file d s).has t
              exact ⟨this.1, by show (file d s).safe ≤ (((file d s).has ++ t).size : Int); omega, by show ((file d s).has ++ t).size ≤ _; omega, nameOk_len (by simpa using hn)⟩
            · exact h.fls p hp
          · show (FM.put d.m s.data.toList _).length ≤ 64
            cases hg : FM.get d.m s.data.toList with
            | none =>
              have h1 := FM.len_put_new d.m s.data.toList ⟨(file d s).has ++ t, (file d s).safe⟩
              have h2 : ¬ 64 ≤ d.m.length := fun h2 => hm ⟨by unfold there; rw [hg]; rfl, h2⟩
              omega
            | some g => exact Nat.le_trans (FM.len_put_old _ hg) h.many
theorem altered_yes {d : DS} {s : ByteArray} (h : (altered d s).2.2 = 0) : nameOk s = true ∧ there d s = true ∧ d.ok = true ∧ (altered d s).1 = d.chg ∧ (altered d s).2.1 = file d s := by
  unfold altered at h ⊢
  split at h
  · rename_i hk
    rw [if_pos hk]
    unfold known at hk
    split at hk
    · cases hk
    · rename_i h1
      split at hk
      · cases hk
      · rename_i h2
        split at h
        · rename_i h3
          refine ⟨by simpa using h1, by simpa using h2, h3, rfl, ?_⟩
          show (known d s).1 = _
          unfold known
          rw [if_neg h1, if_neg h2]
        · cases h
  · rename_i hk
    exact absurd h hk
theorem altered_fine {d : DS} (h : Fine d) (s : ByteArray) : Fine (altered d s).1 := by
  unfold altered
  split
  · exact h.chg
  · exact h
theorem sync_fine {d : DS} (h : Fine d) (s : ByteArray) : Fine (sync d s).1 := by
  unfold sync
  split
  · rename_i hk
    obtain ⟨h1, h2, h3, h4, h5⟩ := altered_yes hk
    rw [h4]
    refine ⟨fun p hp => ?_, ?_, chg_left h⟩
    · rcases FM.mem_put.1 hp with rfl | ⟨hp, _⟩
      · have := h.file s
        exact ⟨by show (0 : Int) ≤ ((file d s).has.size : Int); omega, Int.le_refl _, this.2.2, nameOk_len h1⟩
      · exact h.fls p hp
    · show (FM.put d.m s.data.toList _).length ≤ 64
      unfold there at h2
      obtain ⟨g, hg⟩ := Option.isSome_iff_exists.1 h2
      exact Nat.le_trans (FM.len_put_old _ hg) h.many
  · exact altered_fine h s
theorem rename_fine {d : DS} (h : Fine d) (s t : ByteArray) : Fine (rename d s t).1 := by
  unfold rename
  split
  · exact h
  · split
    · exact h
    · rename_i hn
      split
      · rename_i hk
        obtain ⟨h1, h2, h3, h4, h5⟩ := altered_yes hk
        rw [h4]
        refine ⟨fun p hp => ?_, ?_, chg_left h⟩
        · rcases FM.mem_put.1 hp with rfl | ⟨hp, _⟩
          · have := h.file s
            exact ⟨this.1, this.2.1, this.2.2, nameOk_len (by simpa using hn)⟩
          · exact h.fls p (FM.mem_del.1 hp).1
        · show (FM.put (FM.del d.m s.data.toList) t.data.toList _).length ≤ 64
          unfold there at h2
          obtain ⟨g, hg⟩ := Option.isSome_iff_exists.1 h2
          have h6 := FM.len_del_of_get hg
          have h7 := FM.len_put_new (FM.del d.m s.data.toList) t.data.toList (file d s)
          have := h.many
          omega
      · exact altered_fine h s
theorem remove_fine {d : DS} (h : Fine d) (s : ByteArray) : Fine (remove d s).1 := by
  unfold remove
  split
  · rename_i hk
    obtain ⟨h1, h2, h3, h4, h5⟩ := altered_yes hk
    rw [h4]
    exact ⟨fun p hp => h.fls p (FM.mem_del.1 hp).1, Nat.le_trans (FM.len_del _ _) h.many, chg_left h⟩
  · exact altered_fine h s
theorem fuse_fine {d : DS} (h : Fine d) (n : Int) (hn : n ≤ 9223372036854775807) : Fine (fuse d n).1 := by
  unfold fuse
  split
  · exact h
  · exact ⟨h.fls, h.many, by show 0 ≤ n; omega, hn⟩
/-- A file behind a crash. -/
def torn (f : Fl) (x : Int) : Fl := ⟨f.has.extract 0 (f.safe + (max 0 x) % (tail f + 1)).toNat, f.safe + (max 0 x) % (tail f + 1)⟩
theorem torn_le {f : Fl} (h : 0 ≤ f.safe ∧ f.safe ≤ f.has.size) (x : Int) : f.safe ≤ (torn f x).safe ∧ (torn f x).safe ≤ f.has.size ∧ ((torn f x).has.size : Int) = (torn f x).safe := by
  have ht : 0 ≤ tail f := by unfold tail; omega
  have h1 := Int.emod_nonneg (max 0 x) (show tail f + 1 ≠ 0 by omega)
  have h2 := Int.emod_lt_of_pos (max 0 x) (show 0 < tail f + 1 by omega)
  unfold tail at h1 h2
  unfold torn
  simp only [ByteArray.size_extract]
  unfold tail
  omega
theorem crashL_cons (n : FM.Key) (ns : List FM.Key) (dr : List Int) (m : Fs) : crashL (n :: ns) dr m = if tail ((FM.get m n).getD z0) = 0 then crashL ns dr m else crashL ns dr.tail (FM.put m n (torn ((FM.get m n).getD z0) (dr.headD 0))) := rfl
theorem put_there {m : Fs} {n : FM.Key} {f g : Fl} (h : FM.get m n = some g) {B : Nat} (hB : m.length ≤ B) : (FM.put m n f).length ≤ B := Nat.le_trans (FM.len_put_old _ h) hB
def AllFine (m : Fs) : Prop := (∀ p ∈ m, 0 ≤ p.2.safe ∧ p.2.safe ≤ p.2.has.size ∧ p.2.has.size ≤ 262144 ∧ p.1.length ≤ 32) ∧ m.length ≤ 64
theorem tail_there {m : Fs} {n : FM.Key} (h : tail ((FM.get m n).getD z0) ≠ 0) : ∃ f, FM.get m n = some f := by
  cases hg : FM.get m n with
  | none => rw [hg] at h; exact absurd rfl h
  | some f => exact ⟨f, rfl⟩
theorem torn_fine {m : Fs} (h : AllFine m) {n : FM.Key} (ht : tail ((FM.get m n).getD z0) ≠ 0) (x : Int) : AllFine (FM.put m n (torn ((FM.get m n).getD z0) x)) := by
  obtain ⟨f, hf⟩ := tail_there ht
  rw [hf]
  have hff := h.1 _ (FM.mem_of_get hf)
  have htl := torn_le (f := f) ⟨hff.1, hff.2.1⟩ x
  refine ⟨fun p hp => ?_, put_there hf h.2⟩
  rcases FM.mem_put.1 hp with rfl | ⟨hp, _⟩
  · exact ⟨by show 0 ≤ (torn f x).safe; have := hff.1; simp only at this; omega, by show (torn f x).safe ≤ ((torn f x).has.size : Int); omega, by show (torn f x).has.size ≤ _; have := hff.2.2.1; simp only at this; omega, hff.2.2.2⟩
  · exact h.1 p hp
theorem crashL_fine : ∀ (ns : List FM.Key) (dr : List Int) (m : Fs), AllFine m → AllFine (crashL ns dr m)
  | [], _, _, h => h
  | n :: ns, dr, m, h => by
    rw [crashL_cons]
    split
    · exact crashL_fine ns dr m h
    · rename_i ht
      exact crashL_fine ns _ _ (torn_fine h ht _)
theorem crash_fine {d : DS} (h : Fine d) (dr : List Int) : Fine (crash d dr).1 := by
  unfold crash
  split
  · exact h
  · have := crashL_fine (FM.names d.m) dr d.m ⟨h.fls, h.many⟩
    exact ⟨this.1, this.2, Int.le_refl _, by show (0 : Int) ≤ _; decide⟩
def new : DS := ⟨[], false, false, 0⟩
theorem new_fine : Fine new := ⟨by simp [new], by simp [new], by decide, by decide⟩
end Go.Proofs.Ytjkllbilfcopmaa.Dk
