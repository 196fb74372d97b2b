/- What the laws on disks come to: a fuse; a file in the place of another one. -/
import Derived.Test.YtjkllbilfcopmaaDiskLaw
namespace Go.Proofs.Ytjkllbilfcopmaa.Dk
set_option linter.unusedVariables false
set_option linter.unusedSimpArgs false
theorem append_eq (d : DS) (s t : ByteArray) (hn : nameOk s = true) (h1 : (file d s).has.size + t.size ≤ 262144) (h2 : there d s = true ∨ d.m.length < 64) :
    append d s t = if d.ok = false then (d.chg, 11) else ({ d.chg with m := FM.put d.m s.data.toList ⟨(file d s).has ++ t, (file d s).safe⟩ }, 0) := by
  unfold append
  rw [hn, if_neg (by decide), if_neg (by omega), if_neg (fun h => h2.elim (fun h2 => by rw [h2] at h; exact absurd h.1 (by decide)) (fun h2 => absurd h.2 (by omega)))]
theorem chg_down {d : DS} (h : d.ok = false) : d.chg = { d with down := true } := by unfold DS.chg; rw [h, if_neg (by decide)]
theorem ok_fused (m : Fs) (l : Int) (h : l ≠ 0) : (DS.mk m true false l).ok = true := by
  unfold DS.ok
  simp [h]
theorem chg_fused (m : Fs) (l : Int) (h : l ≠ 0) : (DS.mk m true false l).chg = ⟨m, true, false, l - 1⟩ := by
  unfold DS.chg
  rw [ok_fused m l h]; rfl
theorem ok_out (m : Fs) : (DS.mk m true false 0).ok = false := rfl
theorem ok_down (m : Fs) (fu : Bool) (l : Int) : (DS.mk m fu true l).ok = false := rfl
theorem sync_eq (d : DS) (s : ByteArray) (hn : nameOk s = true) (h : there d s = true) :
    sync d s = if d.ok = true then ({ d.chg with m := FM.put d.m s.data.toList ⟨(file d s).has, (file d s).has.size⟩ }, 0) else (d.chg, 11) := by
  have hk : known d s = (file d s, 0) := by unfold known; rw [hn, h]; rfl
  unfold sync altered
  rw [hk]
  cases ho : d.ok <;> rfl
theorem sync_none (d : DS) (s : ByteArray) (hn : nameOk s = true) (h : there d s = false) : sync d s = (d, 5) := by
  have hk : known d s = (z0, 5) := by unfold known; rw [hn, h]; rfl
  unfold sync altered
  rw [hk]; rfl
theorem rename_eq (d : DS) (s t : ByteArray) (hn : nameOk s = true) (ht : nameOk t = true) (h : there d s = true) :
    rename d s t = if d.ok = true then ({ d.chg with m := FM.put (FM.del d.m s.data.toList) t.data.toList (file d s) }, 0) else (d.chg, 11) := by
  have hk : known d s = (file d s, 0) := by unfold known; rw [hn, h]; rfl
  unfold rename altered
  rw [hk, hn, ht]
  cases ho : d.ok <;> rfl
/-! ### two files -/
theorem put_two (f g : Fl) : FM.put [(kA, f)] kB g = [(kA, f), (kB, g)] := rfl
theorem put_two_b (f g h : Fl) : FM.put [(kA, f), (kB, g)] kB h = [(kA, f), (kB, h)] := rfl
theorem put_two_a (f g h : Fl) : FM.put (FM.del [(kA, f), (kB, g)] kB) kA h = [(kA, h)] := rfl
theorem get_two_a (f g : Fl) : FM.get [(kA, f), (kB, g)] kA = some f := rfl
theorem get_two_b (f g : Fl) : FM.get [(kA, f), (kB, g)] kB = some g := rfl
theorem fuse_pos (m : Fs) (fu dn : Bool) (l k : Int) (h : 0 ≤ k) : fuse ⟨m, fu, dn, l⟩ k = (⟨m, true, dn, k⟩, 0) := by
  unfold fuse
  rw [if_neg (by omega)]
/-- What is read behind a crash of a file whose bytes are safe. -/
theorem read_crash {d : DS} {f : Fl} (h : FM.get d.m kA = some f) (ht : tail f = 0) (dr : List Int) : read (crash d dr).1 nA = (f.has, 0) := by
  have hg : FM.get (crash d dr).1.m kA = some f := by
    unfold crash
    split
    · exact h
    · show FM.get (crashL _ _ _) kA = _
      rw [crashL_keep _ _ _ _ (by rw [h]; exact ht)]; exact h
  have h1 : there (crash d dr).1 nA = true := by unfold there; show (FM.get _ kA).isSome = true; rw [hg]; rfl
  have h2 : file (crash d dr).1 nA = f := by unfold file; show (FM.get _ kA).getD z0 = f; rw [hg]; rfl
  unfold read known
  rw [okA, h1, h2]; rfl
def safeF (b : ByteArray) : Fl := ⟨b, b.size⟩
theorem tail_safe (b : ByteArray) : tail (safeF b) = 0 := by show (b.size : Int) - (b.size : Int) = 0; omega
/-- Behind the append of b: the fuse k counts. -/
theorem swap_append (was will : ByteArray) (k : Int) (hw : will.size ≤ 262144) (hk : 0 ≤ k) :
    append ⟨[(kA, safeF was)], true, false, k⟩ nB will = if k = 0 then (⟨[(kA, safeF was)], true, true, k⟩, 11) else (⟨[(kA, safeF was), (kB, ⟨will, 0⟩)], true, false, k - 1⟩, 0) := by
  have hf : file ⟨[(kA, safeF was)], true, false, k⟩ nB = z0 := rfl
  rw [append_eq _ _ _ okB (by rw [hf]; have : z0.has.size = 0 := rfl; omega) (.inr (by simp))]
  split
  · rename_i h
    split
    · rename_i h2; subst h2; rfl
    · rename_i h2; rw [ok_fused _ _ h2] at h; cases h
  · rename_i h
    split
    · rename_i h2; subst h2; exact absurd rfl h
    · rename_i h2
      rw [chg_fused _ _ h2, hf]
      show (DS.mk (FM.put [(kA, safeF was)] kB ⟨ByteArray.empty ++ will, 0⟩) true false (k - 1), (0 : Int)) = _
      rw [append_empty]; rfl
theorem swap_sync (was will : ByteArray) (k : Int) : sync ⟨[(kA, safeF was), (kB, ⟨will, 0⟩)], true, false, k⟩ nB = if k = 0 then (⟨[(kA, safeF was), (kB, ⟨will, 0⟩)], true, true, k⟩, 11) else (⟨[(kA, safeF was), (kB, safeF will)], true, false, k - 1⟩, 0) := by
  rw [sync_eq _ _ okB rfl]
  split
  · rename_i h
    split
    · rename_i h2; subst h2; cases h
    · rename_i h2; rw [chg_fused _ _ h2]; rfl
  · rename_i h
    split
    · rename_i h2; subst h2; rfl
    · rename_i h2; exact absurd (ok_fused _ _ h2) h
theorem swap_rename (was will : ByteArray) (k : Int) : rename ⟨[(kA, safeF was), (kB, safeF will)], true, false, k⟩ nB nA = if k = 0 then (⟨[(kA, safeF was), (kB, safeF will)], true, true, k⟩, 11) else (⟨[(kA, safeF will)], true, false, k - 1⟩, 0) := by
  rw [rename_eq _ _ _ okB okA rfl]
  split
  · rename_i h
    split
    · rename_i h2; subst h2; cases h
    · rename_i h2; rw [chg_fused _ _ h2]; rfl
  · rename_i h
    split
    · rename_i h2; subst h2; rfl
    · rename_i h2; exact absurd (ok_fused _ _ h2) h
/-! ### a fuse -/
def xs (i : Nat) : ByteArray := ⟨(List.replicate i 120).toArray⟩
theorem xs_size (i : Nat) : (xs i).size = i := by unfold xs; show (List.replicate i (120 : UInt8)).toArray.size = i; simp
theorem xs_succ (i : Nat) : xs i ++ ⟨#[120]⟩ = xs (i + 1) := by
  apply ByteArray.ext
  rw [ByteArray.data_append]
  unfold xs
  rw [List.replicate_succ']
  show (List.replicate i 120).toArray ++ #[120] = _
  rw [← List.append_toArray]
def FM1 (i : Nat) : Fs := if i = 0 then [] else [(kA, ⟨xs i, 0⟩)]
/-- A disk of n changes, i of which are made. -/
def Fu (i n : Nat) : DS := ⟨FM1 i, true, false, (n : Int) - i⟩
def FuD (n : Nat) : DS := ⟨FM1 n, true, true, 0⟩
theorem get_FM1 (i : Nat) : (FM.get (FM1 i) kA).getD z0 = ⟨xs i, 0⟩ := by
  unfold FM1
  split
  · rename_i h; subst h; rfl
  · rw [get_one]; rfl
theorem put_FM1 (i : Nat) : FM.put (FM1 i) kA ⟨xs (i + 1), 0⟩ = FM1 (i + 1) := by
  unfold FM1
  rw [if_neg (Nat.succ_ne_zero i)]
  split
  · rfl
  · rw [put_one]
theorem len_FM1 (i : Nat) : (FM1 i).length ≤ 1 := by unfold FM1; split <;> simp
theorem there_FM1 (i : Nat) (fu dn : Bool) (l : Int) (h : 0 < i) : there ⟨FM1 i, fu, dn, l⟩ nA = true := by
  show (FM.get (FM1 i) kA).isSome = true
  unfold FM1
  rw [if_neg (by omega), get_one]; rfl
theorem file_FM1 (i : Nat) (fu dn : Bool) (l : Int) : file ⟨FM1 i, fu, dn, l⟩ nA = ⟨xs i, 0⟩ := get_FM1 i
def nNone : ByteArray := ⟨#[110, 111, 110, 101]⟩
def nX : ByteArray := ⟨#[120]⟩
theorem fu_none (i n : Nat) : sync (Fu i n) nNone = (Fu i n, 5) := by
  refine sync_none _ _ (by decide) ?_
  show (FM.get (FM1 i) [110, 111, 110, 101]).isSome = false
  unfold FM1
  split <;> rfl
theorem append_bad (d : DS) (t : ByteArray) : append d ByteArray.empty t = (d, 10) := rfl
theorem fu_append (i n : Nat) (h : i < n) (hn : n ≤ 1000) : append (Fu i n) nA nX = (Fu (i + 1) n, 0) := by
  have hf : file (Fu i n) nA = ⟨xs i, 0⟩ := file_FM1 _ _ _ _
  rw [append_eq _ _ _ okA (by rw [hf]; show (xs i).size + 1 ≤ _; rw [xs_size]; omega) (.inr (Nat.lt_of_le_of_lt (len_FM1 i) (by decide)))]
  have ho : (Fu i n).ok = true := ok_fused _ _ (by omega)
  have hc : (Fu i n).chg = ⟨FM1 i, true, false, (n : Int) - i - 1⟩ := chg_fused _ _ (by omega)
  rw [ho, hc, hf, if_neg (by decide)]
  show (DS.mk (FM.put (FM1 i) kA ⟨xs i ++ ⟨#[120]⟩, 0⟩) true false ((n : Int) - i - 1), (0 : Int)) = _
  rw [xs_succ, put_FM1]
  unfold Fu
  rw [show (n : Int) - i - 1 = (n : Int) - (i + 1 : Nat) by omega]
theorem fu_out (n : Nat) (hn : n ≤ 1000) : append (Fu n n) nA nX = (FuD n, 11) := by
  have hf : file (Fu n n) nA = ⟨xs n, 0⟩ := file_FM1 _ _ _ _
  rw [append_eq _ _ _ okA (by rw [hf]; show (xs n).size + 1 ≤ _; rw [xs_size]; omega) (.inr (Nat.lt_of_le_of_lt (len_FM1 n) (by decide)))]
  have e : Fu n n = ⟨FM1 n, true, false, 0⟩ := by unfold Fu; rw [Int.sub_self]
  rw [e]; rfl
theorem fu_down (n : Nat) (hn : n ≤ 1000) : append (FuD n) nA nX = (FuD n, 11) := by
  have hf : file (FuD n) nA = ⟨xs n, 0⟩ := file_FM1 _ _ _ _
  rw [append_eq _ _ _ okA (by rw [hf]; show (xs n).size + 1 ≤ _; rw [xs_size]; omega) (.inr (Nat.lt_of_le_of_lt (len_FM1 n) (by decide)))]
  rfl
theorem fu_sync (n : Nat) (h : 0 < n) : sync (FuD n) nA = (FuD n, 11) := by
  rw [sync_eq _ _ okA (show there (FuD n) nA = true from there_FM1 n _ _ _ h)]; rfl
theorem fu_read (n : Nat) (h : 0 < n) : read (FuD n) nA = (xs n, 0) := by
  unfold read known
  rw [okA, show there (FuD n) nA = true from there_FM1 n _ _ _ h]
  have hf : file (FuD n) nA = ⟨xs n, 0⟩ := file_FM1 _ _ _ _
  rw [hf]; rfl
/-- Behind the crash: a disk that is neither fused nor down, of one file at most, not b. -/
theorem fu_crash (n : Nat) : ∃ m : Fs, crash (FuD n) [] = (⟨m, false, false, 0⟩, 0) ∧ m.length ≤ 1 ∧ FM.get m kB = none := by
  refine ⟨crashL (FM.names (FM1 n)) [] (FM1 n), rfl, ?_, ?_⟩
  · unfold FM1
    split
    · show (crashL (FM.names []) [] []).length ≤ 1
      have : FM.names ([] : Fs) = [] := by simp [FM.names, FM.keys]
      rw [this]; exact Nat.zero_le _
    · rw [names_one, crashL_cons, get_one]
      show (if _ then [(kA, _)] else FM.put [(kA, _)] kA _).length ≤ 1
      rw [put_one]
      split <;> simp
  · refine crashL_out _ _ _ _ ?_
    unfold FM1
    split <;> rfl
theorem fu_append_b {m : Fs} (h : m.length ≤ 1) (hb : FM.get m kB = none) : append ⟨m, false, false, 0⟩ nB nX = (⟨FM.put m kB ⟨nX, 0⟩, false, false, 0⟩, 0) := by
  have hf : file ⟨m, false, false, 0⟩ nB = z0 := by show (FM.get m kB).getD z0 = z0; rw [hb]; rfl
  rw [append_eq _ _ _ okB (by rw [hf]; decide) (.inr (Nat.lt_of_le_of_lt h (by decide))), hf]
  show (DS.mk (FM.put m kB ⟨ByteArray.empty ++ nX, 0⟩) false false 0, (0 : Int)) = _
  rw [append_empty]
theorem fu_sync_b (m : Fs) (f : Fl) : (sync ⟨FM.put m kB f, false, false, 0⟩ nB).2 = 0 := by
  rw [sync_eq _ _ okB (by show (FM.get (FM.put m kB f) kB).isSome = true; rw [FM.get_put_same]; rfl)]; rfl
end Go.Proofs.Ytjkllbilfcopmaa.Dk
