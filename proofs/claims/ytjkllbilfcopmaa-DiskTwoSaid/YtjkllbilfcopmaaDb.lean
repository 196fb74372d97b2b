/- Db: the texts Rd0, Rd1, Rd2, Rd3, Rd4, Rd5, Rd6, Rd7, Rd8, Rd9, Rd10, Rd11, Rd12, Rd13, Rd14, Rd15, Rd16, Rd17, one behind the other. -/
import Derived.Test.YtjkllbilfcopmaaDa
import Derived.Test.YtjkllbilfcopmaaFL
import Derived.Test.YtjkllbilfcopmaaHN
import Derived.WalkLawsBesides
import Derived.Deep.LoopGhost
import Derived.BigQuiet
import Derived.StillTailTactics
import Derived.Deep.RegionHeld3
import Derived.Test.YtjkllbilfcopmaaWSized
section
namespace Go.Proofs.Ytjkllbilfcopmaa.Dk
open Go.RowKit Go.Proofs.YtjkllbilfcopmaaW.PrintWords Go.Proofs.YtjkllbilfcopmaaW.PrintLast Go.Proofs.YtjkllbilfcopmaaW.PrintMore
open HDiskPlays (hopperref01_Named.l0 hopperref01_Named.j0 hopperref01_Named.f)
set_option linter.unusedVariables false
set_option linter.unusedSimpArgs false
theorem named_l (s : ByteArray) (hs : s.size ≤ 1000000) : ∀ (k p : Nat), p ≤ s.size → s.size < p + k → hopperref01_Named.l0 k s (p : Int) = some ((s.data.toList.drop p).all nameC)
  | 0, p, h1, h2 => by omega
  | k + 1, p, h1, h2 => by
    rw [hopperref01_Named.l0]
    by_cases q : p < s.size
    · have e3 : wrap64 ((p : Int) + 1) = ((p + 1 : Nat) : Int) := by unfold wrap64; omega
      have hlt : p < s.data.toList.length := by rw [Array.length_toList]; exact q
      have hb : bt s (p : Int) = ((s.data.toList[p]).toNat : Int) := by
        unfold bt
        rw [dif_pos (by simpa using q)]
        rfl
      rw [if_pos (by omega), if_pos (by omega), e3, named_l s hs k (p + 1) (by omega) (by omega), List.drop_eq_getElem_cons hlt, List.all_cons, hb]
      generalize s.data.toList[p] = c
      by_cases hc : (97 ≤ (c.toNat : Int) ∧ (c.toNat : Int) ≤ 122) ∨ (48 ≤ (c.toNat : Int) ∧ (c.toNat : Int) ≤ 57) ∨ (c.toNat : Int) = 46
      · rw [nameC_yes hc, Bool.true_and]
        repeat' split
        all_goals first | rfl | omega
      · rw [nameC_no hc, Bool.false_and]
        repeat' split
        all_goals first | rfl | omega
    · rw [if_neg (by omega), List.drop_of_length_le (by rw [Array.length_toList]; exact Nat.le_of_not_lt q)]
      rfl
theorem named_f (s : ByteArray) : hopperref01_Named.f 40 s = some (nameOk s) := by
  unfold hopperref01_Named.f nameOk
  rw [ByteArray.toList_eq]
  by_cases h0 : s.data.toList = []
  · rw [if_pos h0, hopperref01_Named.j0, if_pos rfl, h0]
    rfl
  · rw [if_neg h0]
    have e1 : s.data.toList.isEmpty = false := by simpa using h0
    by_cases h1 : s.size ≤ 32
    · rw [hopperref01_Named.j0, if_neg (by simp; omega), show (0 : Int) = ((0 : Nat) : Int) from rfl, named_l s (by omega) 39 0 (Nat.zero_le _) (by omega), e1, decide_eq_true h1]
      rfl
    · rw [hopperref01_Named.j0, if_pos (by simp; omega), e1, decide_eq_false h1]
      rfl
theorem named_walk (s : ByteArray) (w : World) : Calls Try.prog 42 #[.string s] w fun e w' => e = .returned (.bool (nameOk s)) ∧ Below w.heap.size w w' :=
  (HDiskPlays.hopperref01_Named.calls 40 s _ w (named_f s)).mono fun e w' h => ⟨h.1, h.2.below⟩
/-- The cells of a file with its name. -/
def fcells (p : FM.Key × Fl) : List Value := [.string ⟨p.1.toArray⟩, .string p.2.has, .int .i64 p.2.safe]
def fk : Kd (FM.Key × Fl) where
  sz := 3
  E := []
  K := fun _ x cs => cs = fcells x
  M := fun _ _ _ x cs => cs = fcells x
  K_len := fun h => by rw [h]; rfl
  K_one := fun h u hu => by
    rw [h] at hu
    simp only [fcells, List.mem_cons, List.not_mem_nil, or_false] at hu
    rcases hu with rfl | rfl | rfl <;> rfl
  K_below := fun _ h => h
  K_of_M := fun h => h
  M_mono := fun _ h => h
  M_bound := fun h => h
  M_move := fun _ h => h
  M_lower := fun _ h => h
theorem fk_ok {e : Nat} {W : World} {base : Nat} {ok ok' : Nat → Prop} {v : Value} {xs : List (FM.Key × Fl)} (h : fk.R e W base ok v xs) (hk : ∀ k, v.ownBlock = some k → ok' k) : fk.R e W base ok' v xs := by
  obtain ⟨h0, inner, ho, hr⟩ := h
  exact ⟨hk, inner, ho, hr⟩
theorem fk_move {e : Nat} {W W1 : World} {base : Nat} {ok : Nat → Prop} {v : Value} {xs : List (FM.Key × Fl)} (h : fk.R e W base ok v xs) (hm : ∀ k, v.ownBlock = some k → W1.heap[k]? = W.heap[k]?) : fk.R e W1 base ok v xs :=
  fk_ok (Kd.R_move (fk_ok h (ok' := fun k => v.ownBlock = some k) fun _ hk => hk) hm) h.1
theorem info67 : (Try.prog.info? 67).map (fun i => (i.zero, i.size, i.bytes)) = some (some (.agg #[.string ⟨#[]⟩, .string ⟨#[]⟩, .int .i64 0]), 3, 40) := by kernel_rfl
/-- What stands in the document's disk in the place of the fuse. -/
def rl (d : DS) : Int := if d.fused then d.left else -1
/-- The document's disk at block h, its row is v. -/
structure RdAt (W : World) (h : Nat) (v : Value) (d : DS) : Prop where
  blk : W.heap[h]? = some (.cells #[v, .int .i64 (rl d), .bool d.down] 63 (0, 0))
  row : fk.R 67 W 0 (fun _ => True) v d.m
  fine : Fine d
  st : FL.St d.m
/-- .. its row's block is r, if it has one. -/
def IsRd (W : World) (h : Nat) (r : Option Nat) (d : DS) : Prop := ∃ v, RdAt W h v d ∧ v.ownBlock = r
abbrev HR (h : Nat) (r : Option Nat) : Nat → Prop := fun k => k = h ∨ r = some k
/-- Behind a call that changes the disk: its block, its row, no others. -/
def RdTo (W W' : World) (h : Nat) (r : Option Nat) (d : DS) : Prop := ∃ r', IsRd W' h r' d ∧ Fr (HR h r) W W' ∧ (r' = r ∨ ∀ k, r' = some k → W.heap.size ≤ k)
theorem RdAt.lt {W : World} {h : Nat} {v : Value} {d : DS} (i : RdAt W h v d) : h < W.heap.size := blk_lt i.blk
theorem IsRd.lt {W : World} {h : Nat} {r : Option Nat} {d : DS} (i : IsRd W h r d) : h < W.heap.size := by
  obtain ⟨v, i, rfl⟩ := i
  exact i.lt
theorem IsRd.ltr {W : World} {h : Nat} {r : Option Nat} {d : DS} (i : IsRd W h r d) (k : Nat) (hk : r = some k) : k < W.heap.size := by
  obtain ⟨v, i, rfl⟩ := i
  exact Kd.R_lt i.row k hk
theorem RdAt.move {W W1 : World} {h : Nat} {v : Value} {d : DS} (i : RdAt W h v d) (hm : ∀ k, k < W.heap.size → HR h v.ownBlock k → W1.heap[k]? = W.heap[k]?) : RdAt W1 h v d :=
  ⟨(hm h i.lt (.inl rfl)).trans i.blk, fk_move i.row fun k hk => hm k (Kd.R_lt i.row k hk) (.inr hk), i.fine, i.st⟩

theorem row_shape {W : World} {base : Nat} {ok : Nat → Prop} {v : Value} {m : Fs} (i : fk.R 67 W base ok v m) : ∃ A c, v = .slice A m.length c ∧ m.length ≤ c ∧ c ≤ 9223372036854775807 ∧
    ∀ j (hj : j < m.length), ∃ g, A = some ⟨g, 0, none⟩ ∧ W.cell? ⟨g, j * 3, none⟩ = some (.string ⟨(m[j]).1.toArray⟩) ∧ W.cell? ⟨g, j * 3 + 1, none⟩ = some (.string (m[j]).2.has) ∧ W.cell? ⟨g, j * 3 + 2, none⟩ = some (.int .i64 (m[j]).2.safe) ∧ ∀ k, W.frozen? ⟨g, k, none⟩ = false := by
  obtain ⟨h0, inner, ho, hr⟩ := i
  rcases ho.2 with ⟨rfl, hn⟩ | ⟨g, cap, cur, rfl, hb, hh, hnc, hcm, hcs, ht⟩
  · refine ⟨none, 0, by rw [hn], by omega, by omega, fun j hj => absurd hj (by omega)⟩
  · refine ⟨some ⟨g, 0, none⟩, cap, rfl, hnc, by unfold maxLen at hcm; omega, fun j hj => ?_⟩
    have h1 := hr.2 j _ (List.getElem?_eq_getElem hj)
    have h1 : (inner.drop (j * 3)).take 3 = fcells m[j] := h1
    have hil : inner.length = m.length * 3 := hr.1
    have hc : ∀ k, k < 3 → W.cell? ⟨g, j * 3 + k, none⟩ = (fcells m[j])[k]? := fun k hk => by
      rw [cell_of_row W g _ cur 67 (0, 0) hh, ← h1, List.getElem?_take, if_pos hk, List.getElem?_drop, ← ht, List.getElem?_take, if_pos (by show j * 3 + k < m.length * 3; omega), Array.getElem?_toList]
    exact ⟨g, rfl, hc 0 (by omega), hc 1 (by omega), hc 2 (by omega), fun k => blk_frozen hh k⟩
theorem key_ne {k : FM.Key} {s : ByteArray} (h : k ≠ s.data.toList) : (k == s.toList) = false := by
  rw [beq_eq_false_iff_ne, ByteArray.toList_eq]
  exact h
theorem key_eq {k : FM.Key} {s : ByteArray} (h : k = s.data.toList) : (⟨k.toArray⟩ : ByteArray) = s := by
  subst h
  rfl
end Go.Proofs.Ytjkllbilfcopmaa.Dk
end

section
namespace Go.Proofs.Ytjkllbilfcopmaa.Dk
open Go.RowKit Go.Proofs.YtjkllbilfcopmaaW.PrintWords Go.Proofs.YtjkllbilfcopmaaW.PrintLast Go.Proofs.YtjkllbilfcopmaaW.PrintMore
set_option linter.unusedVariables false
set_option linter.unusedSimpArgs false
/-- Where a file stands: at p, the first of that name. -/
theorem find_yes (W : World) (h : Nat) (v : Value) (d : DS) (i : RdAt W h v d) (s : ByteArray) (p : Nat) (hp : p < d.m.length) (hk : (d.m[p]).1 = s.data.toList) (hl : ∀ j (hj : j < d.m.length), j < p → (d.m[j]).1 ≠ s.data.toList) :
    Calls Try.prog 43 #[.pointer (some ⟨h, 0, none⟩), .string s] W fun e w' => e = .returned (.int .i64 (p : Int)) ∧ W = w' := by
  obtain ⟨A, c, rfl, hc, hcm, hat⟩ := row_shape i.row
  have hlen := i.fine.many
  have c0 := (blk_cell i.blk 0).trans (show _ = some (Value.slice A d.m.length c) from rfl)
  have HA := Aside0.mk hat
  have HP := Aside0.mk (And.intro hk hl)
  have hq : (d.m.length : Int) ≤ (c : Int) := by omega
  clear hat hk hl i
  go_enter Try.func43, Try.ntmps43
  go_wp2_with fail
  go_loopg [5] (d.m.length + 1) (fun kq v5 w' => ∃ j : Nat, v5 = .int .i64 (j : Int) ∧ Aside0 (j + kq = d.m.length + 1 ∧ j ≤ p) ∧ w' = W)
  case atStart => exact ⟨0, rfl, ⟨by omega, Nat.zero_le _⟩, rfl⟩
  case round =>
    obtain ⟨j, rfl, HJ, rfl⟩ := hrel
    have hj : j < d.m.length := by have := HJ.out; omega
    obtain ⟨kq1, rfl⟩ : ∃ kq1, gk = kq1 + 1 := ⟨gk - 1, by have := HJ.out; omega⟩
    obtain ⟨g, rfl, x0, -, -, -⟩ := HA.out j hj
    have hji : (j : Int) < (d.m.length : Int) := by omega
    by_cases e : j = p
    · subst e
      rw [key_eq HP.out.1] at x0
      go_wp2_with fail
      go_ret
      exact ⟨rfl, rfl⟩
    · have hne := key_ne (HP.out.2 j hj (by have := HJ.out; omega))
      go_wp2_with fail
      go_roundg kq1
      case measure => have := HJ.out; omega
      case rel => exact ⟨j + 1, by go_num, ⟨by have := HJ.out; omega, by have := HJ.out; omega⟩, rfl⟩
/-- Where no file stands. -/
theorem find_no (W : World) (h : Nat) (v : Value) (d : DS) (i : RdAt W h v d) (s : ByteArray) (hl : ∀ j (hj : j < d.m.length), (d.m[j]).1 ≠ s.data.toList) :
    Calls Try.prog 43 #[.pointer (some ⟨h, 0, none⟩), .string s] W fun e w' => e = .returned (.int .i64 (-1)) ∧ W = w' := by
  obtain ⟨A, c, rfl, hc, hcm, hat⟩ := row_shape i.row
  have hlen := i.fine.many
  have c0 := (blk_cell i.blk 0).trans (show _ = some (Value.slice A d.m.length c) from rfl)
  have HA := Aside0.mk hat
  have HP := Aside0.mk hl
  have hq : (d.m.length : Int) ≤ (c : Int) := by omega
  clear hat hl i
  go_enter Try.func43, Try.ntmps43
  go_wp2_with fail
  go_loopg [5] (d.m.length + 1) (fun kq v5 w' => ∃ j : Nat, v5 = .int .i64 (j : Int) ∧ Aside0 (j + kq = d.m.length + 1 ∧ j ≤ d.m.length) ∧ w' = W)
  case atStart => exact ⟨0, rfl, ⟨by omega, Nat.zero_le _⟩, rfl⟩
  case round =>
    obtain ⟨j, rfl, HJ, rfl⟩ := hrel
    by_cases hj : j < d.m.length
    · obtain ⟨kq1, rfl⟩ : ∃ kq1, gk = kq1 + 1 := ⟨gk - 1, by have := HJ.out; omega⟩
      obtain ⟨g, rfl, x0, -, -, -⟩ := HA.out j hj
      have hji : (j : Int) < (d.m.length : Int) := by omega
      have hne := key_ne (HP.out j hj)
      go_wp2_with fail
      go_roundg kq1
      case measure => have := HJ.out; omega
      case rel => exact ⟨j + 1, by go_num, ⟨by have := HJ.out; omega, by have := HJ.out; omega⟩, rfl⟩
    · have hji : ¬ (j : Int) < (d.m.length : Int) := by omega
      go_wp2_with fail
      go_ret
      exact ⟨rfl, rfl⟩
/-- Of names in order. -/
theorem pl_first {m : Fs} (hs : FL.St m) {k : FM.Key} (hp : FL.pl m k < m.length) : (∀ j (hj : j < m.length), j < FL.pl m k → (m[j]).1 ≠ k) := fun j hj hlt e => by
  have h1 := FL.pl_less m k j hj hlt
  rw [e, Go.WideAt.bytes_irrefl] at h1
  cases h1
theorem there_pl {m : Fs} (hs : FL.St m) {k : FM.Key} {u : Fl} (h : FM.get m k = some u) : ∃ hp : FL.pl m k < m.length, m[FL.pl m k] = (k, u) := by
  rw [FL.get_pl m hs k] at h
  cases he : m[FL.pl m k]? with
  | none => rw [he] at h; cases h
  | some q =>
    rw [he] at h
    obtain ⟨hp, e⟩ := List.getElem?_eq_some_iff.1 he
    simp only [Option.bind_some] at h
    split at h
    · rename_i e2
      injection h with h
      exact ⟨hp, by rw [e]; exact Prod.ext e2 h⟩
    · cases h
theorem none_at {m : Fs} {k : FM.Key} (h : FM.get m k = none) : ∀ j (hj : j < m.length), (m[j]).1 ≠ k := fun j hj e => by
  obtain ⟨u, hu, _⟩ := FM.get_of_mem (m := m) (k := k) (v := (m[j]).2) (by rw [← e]; exact List.getElem_mem hj)
  rw [h] at hu
  cases hu
/-- find, of a name that is there, and of one that is not. -/
theorem find_there (W : World) (h : Nat) (v : Value) (d : DS) (i : RdAt W h v d) (s : ByteArray) (u : Fl) (hg : FM.get d.m s.data.toList = some u) :
    Calls Try.prog 43 #[.pointer (some ⟨h, 0, none⟩), .string s] W fun e w' => e = .returned (.int .i64 (FL.pl d.m s.data.toList : Int)) ∧ W = w' := by
  obtain ⟨hp, e⟩ := there_pl i.st hg
  exact find_yes W h v d i s _ hp (by rw [e]) (pl_first i.st hp)
theorem find_none (W : World) (h : Nat) (v : Value) (d : DS) (i : RdAt W h v d) (s : ByteArray) (hg : FM.get d.m s.data.toList = none) :
    Calls Try.prog 43 #[.pointer (some ⟨h, 0, none⟩), .string s] W fun e w' => e = .returned (.int .i64 (-1)) ∧ W = w' := find_no W h v d i s (none_at hg)
/-- The place of a name, where there is one, or 0. -/
def rplace (d : DS) (s : ByteArray) : Nat := if (known d s).2 = 0 then FL.pl d.m s.data.toList else 0
theorem known_zero {d : DS} {s : ByteArray} : (known d s).2 = 0 ↔ nameOk s = true ∧ there d s = true := by
  unfold known
  by_cases h1 : nameOk s = false
  · rw [if_pos h1, h1]; simp
  · rw [if_neg h1]
    by_cases h2 : there d s = false
    · rw [if_pos h2, h2]; simp
    · rw [if_neg h2]
      simp at h1 h2
      simp [h1, h2]
/-- known: its place, and what is wrong. -/
theorem rknown_walk (W : World) (h : Nat) (v : Value) (d : DS) (i : RdAt W h v d) (s : ByteArray) :
    Calls Try.prog 46 #[.pointer (some ⟨h, 0, none⟩), .string s] W fun e w' => e = .returned (.tuple #[.int .i64 (rplace d s : Int), .int .i64 (known d s).2]) ∧ Below W.heap.size W w' := by
  have HI := Aside0.mk i
  clear i
  by_cases hn : nameOk s = true
  · cases hg : FM.get d.m s.data.toList with
    | none =>
      have e1 : (known d s).2 = 5 := by unfold known there; rw [hn, hg]; rfl
      have e2 : rplace d s = 0 := by unfold rplace; rw [e1]; rfl
      rw [e1, e2]
      have HN := Aside0.mk hn
      have HG := Aside0.mk hg
      clear hn hg e1 e2
      go_enter Try.func46, Try.ntmps46
      go_wp2_with fail
      refine (named_walk s W).mono ?_
      rw [HN.out]
      rintro e w1 ⟨rfl, hB⟩
      have HB := Aside0.mk hB
      clear hB
      go_wp2_with fail
      refine (find_none w1 h v d (HI.out.move fun k hk _ => HB.out.block k hk) s HG.out).mono ?_
      rintro e w2 ⟨rfl, rfl⟩
      go_wp2_with fail
      go_ret2
      exact ⟨rfl, HB.out⟩
    | some u =>
      have e1 : (known d s).2 = 0 := by unfold known there; rw [hn, hg]; rfl
      have e2 : rplace d s = FL.pl d.m s.data.toList := by unfold rplace; rw [e1]; rfl
      rw [e1, e2]
      have HN := Aside0.mk hn
      have HG := Aside0.mk hg
      clear hn hg e1 e2
      go_enter Try.func46, Try.ntmps46
      go_wp2_with fail
      refine (named_walk s W).mono ?_
      rw [HN.out]
      rintro e w1 ⟨rfl, hB⟩
      have HB := Aside0.mk hB
      clear hB
      go_wp2_with fail
      refine (find_there w1 h v d (HI.out.move fun k hk _ => HB.out.block k hk) s u HG.out).mono ?_
      rintro e w2 ⟨rfl, rfl⟩
      have hp0 : (0 : Int) ≤ (FL.pl d.m s.data.toList : Int) := by omega
      go_wp2_with fail
      go_ret2
      exact ⟨rfl, HB.out⟩
  · have hn' : nameOk s = false := by simpa using hn
    have e1 : (known d s).2 = 10 := by unfold known; rw [hn']; rfl
    have e2 : rplace d s = 0 := by unfold rplace; rw [e1]; rfl
    rw [e1, e2]
    have HN := Aside0.mk hn'
    clear hn hn' e1 e2
    go_enter Try.func46, Try.ntmps46
    go_wp2_with fail
    refine (named_walk s W).mono ?_
    rw [HN.out]
    rintro e w1 ⟨rfl, hB⟩
    have HB := Aside0.mk hB
    clear hB
    go_wp2_with fail
    go_ret2
    exact ⟨rfl, HB.out⟩
end Go.Proofs.Ytjkllbilfcopmaa.Dk
end

section
namespace Go.Proofs.Ytjkllbilfcopmaa.Dk
open Go.RowKit Go.Proofs.YtjkllbilfcopmaaW.PrintWords Go.Proofs.YtjkllbilfcopmaaW.PrintLast Go.Proofs.YtjkllbilfcopmaaW.PrintMore
set_option linter.unusedVariables false
set_option linter.unusedSimpArgs false
abbrev Only (h : Nat) : Nat → Prop := fun k => k = h
theorem RdAt.ne {W : World} {h : Nat} {v : Value} {d : DS} (i : RdAt W h v d) : some h ≠ v.ownBlock := Kd.R_ne i.row i.blk (by decide)
theorem RdAt.put {W : World} {h : Nat} {v : Value} {d : DS} (i : RdAt W h v d) (j : Nat) (u : Value) (d' : DS) (hc : (#[v, .int .i64 (rl d), .bool d.down] : Array Value).setIfInBounds j u = #[v, .int .i64 (rl d'), .bool d'.down]) (hm : d'.m = d.m) (hf : Fine d') :
    RdAt (W.setCell ⟨h, j, none⟩ u) h v d' ∧ Fr (Only h) W (W.setCell ⟨h, j, none⟩ u) :=
  ⟨⟨blk_put i.blk j u hc, by rw [hm]; exact fk_move i.row fun k hk => Below.heap_setCell W ⟨h, j, none⟩ u k fun e => i.ne (by rw [hk, e]), hf, by rw [hm]; exact i.st⟩, (Fr.refl (Only h) W).set (p := ⟨h, j, none⟩) (.inl rfl) u⟩
theorem RdAt.two {W : World} {h : Nat} {v : Value} {d : DS} (i : RdAt W h v d) (j j2 : Nat) (u u2 : Value) (d' : DS) (hc : ((#[v, .int .i64 (rl d), .bool d.down] : Array Value).setIfInBounds j u).setIfInBounds j2 u2 = #[v, .int .i64 (rl d'), .bool d'.down]) (hm : d'.m = d.m) (hf : Fine d') :
    RdAt ((W.setCell ⟨h, j, none⟩ u).setCell ⟨h, j2, none⟩ u2) h v d' ∧ Fr (Only h) W ((W.setCell ⟨h, j, none⟩ u).setCell ⟨h, j2, none⟩ u2) :=
  ⟨⟨blk_put (blk_put i.blk j u rfl) j2 u2 hc, by
    rw [hm]
    refine fk_move i.row fun k hk => ?_
    have hkh : k ≠ h := fun e => i.ne (by rw [hk, e])
    rw [Below.heap_setCell _ ⟨h, j2, none⟩ u2 k hkh, Below.heap_setCell W ⟨h, j, none⟩ u k hkh], hf, by rw [hm]; exact i.st⟩, ((Fr.refl (Only h) W).set (p := ⟨h, j, none⟩) (.inl rfl) u).set (p := ⟨h, j2, none⟩) (.inl rfl) u2⟩
set_option maxHeartbeats 1000000 in
theorem rchg_walk (W : World) (h : Nat) (v : Value) (d : DS) (i : RdAt W h v d) :
    Calls Try.prog 44 #[.pointer (some ⟨h, 0, none⟩)] W fun e W' => e = .returned (.bool d.ok) ∧ RdAt W' h v d.chg ∧ Fr (Only h) W W' := by
  have HI := Aside0.mk i
  have HF := Aside0.mk i.fine.chg
  have hlf := i.fine.left
  have hblk := i.blk
  clear i
  obtain ⟨m, fu, dn, l⟩ := d
  obtain ⟨hl0, hl1⟩ : 0 ≤ l ∧ l ≤ 9223372036854775807 := hlf
  have c2 := (blk_cell hblk 2).trans (show _ = some (Value.bool dn) from rfl)
  have f1 := blk_frozen hblk 1
  have f2 := blk_frozen hblk 2
  cases dn with
  | true =>
    have HC := Aside0.mk (show (DS.mk m fu true l).chg = ⟨m, fu, true, l⟩ from rfl)
    rw [show (DS.mk m fu true l).ok = false from rfl]
    clear hblk
    go_enter Try.func44, Try.ntmps44
    go_wp2
    go_ret
    rw [HC.out]
    exact ⟨rfl, HI.out.put 2 (.bool true) _ rfl rfl (by rw [← HC.out]; exact HF.out)⟩
  | false =>
    cases fu with
    | false =>
      have c1 := (blk_cell hblk 1).trans (show _ = some (Value.int .i64 (-1)) from rfl)
      have HC := Aside0.mk (show (DS.mk m false false l).chg = ⟨m, false, false, l⟩ from rfl)
      rw [show (DS.mk m false false l).ok = true from rfl]
      clear hblk
      go_enter Try.func44, Try.ntmps44
      go_wp2
      go_ret
      rw [HC.out]
      exact ⟨rfl, HI.out, Fr.refl _ _⟩
    | true =>
      have c1 := (blk_cell hblk 1).trans (show _ = some (Value.int .i64 l) from rfl)
      clear hblk
      by_cases hz : l = 0
      · subst hz
        have HC := Aside0.mk (show (DS.mk m true false 0).chg = ⟨m, true, true, 0⟩ from rfl)
        rw [show (DS.mk m true false 0).ok = false from rfl]
        go_enter Try.func44, Try.ntmps44
        go_wp2
        go_ret
        rw [HC.out]
        exact ⟨rfl, HI.out.put 2 (.bool true) _ rfl rfl (by rw [← HC.out]; exact HF.out)⟩
      · have hzb : (l == 0) = false := by simpa using hz
        have hok : (DS.mk m true false l).ok = true := by unfold DS.ok; simp [hzb]
        have HC := Aside0.mk (show (DS.mk m true false l).chg = ⟨m, true, false, l - 1⟩ from by unfold DS.chg; rw [hok]; rfl)
        rw [hok]
        have hg : (0 : Int) < l := by omega
        clear hok hz
        go_enter Try.func44, Try.ntmps44
        go_wp2
        go_ret
        rw [HC.out]
        exact ⟨rfl, HI.out.put 1 (.int .i64 (l - 1)) _ rfl rfl (by rw [← HC.out]; exact HF.out)⟩
/-- Fuse. -/
theorem rfuse_walk (W : World) (h : Nat) (v : Value) (d : DS) (i : RdAt W h v d) (n : Int) (hn : n ≤ 9223372036854775807) :
    Calls Try.prog 35 #[.pointer (some ⟨h, 0, none⟩), .int .i64 n] W fun e W' => e = .returned (.int .i64 (fuse d n).2) ∧ RdAt W' h v (fuse d n).1 ∧ Fr (Only h) W W' := by
  have HI := Aside0.mk i
  have HF := Aside0.mk (fuse_fine i.fine n hn)
  have f1 := blk_frozen i.blk 1
  have c1 := (blk_cell i.blk 1).trans (show _ = some (Value.int .i64 (rl d)) from rfl)
  clear i
  by_cases q : n < 0
  · have HC := Aside0.mk (show fuse d n = (d, 1) from by unfold fuse; rw [if_pos q])
    rw [HC.out]
    go_enter Try.func35, Try.ntmps35
    go_wp2
    go_ret
    exact ⟨rfl, HI.out, Fr.refl _ _⟩
  · have HC := Aside0.mk (show fuse d n = (⟨d.m, true, d.down, n⟩, 0) from by unfold fuse; rw [if_neg q])
    rw [HC.out]
    have q2 : 0 ≤ n := by omega
    go_enter Try.func35, Try.ntmps35
    go_wp2
    go_ret
    exact ⟨rfl, HI.out.put 1 (.int .i64 n) ⟨d.m, true, d.down, n⟩ rfl rfl (by have := HF.out; rw [HC.out] at this; exact this)⟩
/-- Read. -/
theorem rread_walk (W : World) (h : Nat) (v : Value) (d : DS) (i : RdAt W h v d) (s : ByteArray) :
    Calls Try.prog 34 #[.pointer (some ⟨h, 0, none⟩), .string s] W fun e w' => e = .returned (.tuple #[.string (read d s).1, .int .i64 (read d s).2]) ∧ Below W.heap.size W w' := by
  have HI := Aside0.mk i
  clear i
  have hk := @known_zero d s
  obtain ⟨e2, he2⟩ : ∃ e2, (known d s).2 = e2 := ⟨_, rfl⟩
  rw [he2] at hk
  by_cases hz : e2 = 0
  · obtain ⟨hn, ht⟩ := hk.1 hz
    unfold there at ht
    obtain ⟨u, hu⟩ := Option.isSome_iff_exists.1 ht
    have er : read d s = (u.has, 0) := by unfold read; rw [he2, hz]; unfold known file there; rw [hn, hu]; rfl
    obtain ⟨p, hp, hm, ep⟩ : ∃ p, ∃ hp : p < d.m.length, d.m[p] = (s.data.toList, u) ∧ rplace d s = p := by
      obtain ⟨hp, hm⟩ := there_pl HI.out.st hu
      exact ⟨_, hp, hm, by unfold rplace; rw [he2, if_pos hz]⟩
    rw [er]
    subst hz
    have HK := Aside0.mk he2
    have HP := Aside0.mk ep
    have HM := Aside0.mk hm
    clear hk hn ht hu he2 er ep hm
    go_enter Try.func34, Try.ntmps34
    go_wp2_with fail
    refine (rknown_walk W h v d HI.out s).mono ?_
    rw [HK.out, HP.out]
    rintro e w1 ⟨rfl, hB⟩
    have HB := Aside0.mk hB
    have hI1 := HI.out.move fun k hk _ => hB.block k hk
    obtain ⟨A, c, rfl, hc, hcm, hat⟩ := row_shape hI1.row
    have c0 := (blk_cell hI1.blk 0).trans (show _ = some (Value.slice A d.m.length c) from rfl)
    obtain ⟨g, rfl, -, x1, -, -⟩ := hat p hp
    rw [HM.out] at x1
    have q1 : (p : Int) < (d.m.length : Int) := by omega
    clear hB hat hI1
    go_wp2_with fail
    go_ret2
    exact ⟨rfl, HB.out⟩
  · have er : read d s = (ByteArray.empty, e2) := by
      unfold read
      rw [he2]
      unfold known at he2 ⊢
      split
      · rfl
      · rename_i h1
        rw [if_neg h1] at he2
        split
        · rfl
        · rename_i h2
          rw [if_neg h2] at he2
          exact absurd he2.symm hz
    have HK := Aside0.mk he2
    rw [er]
    have zb : (e2 == 0) = false := by simpa using hz
    have zb2 : (e2 != 0) = true := by simp [hz]
    clear hk he2 er hz
    go_enter Try.func34, Try.ntmps34
    go_wp2_with fail
    refine (rknown_walk W h v d HI.out s).mono ?_
    rw [HK.out]
    rintro e w1 ⟨rfl, hB⟩
    have HB := Aside0.mk hB
    clear hB
    go_wp2_with fail
    go_ret2
    exact ⟨rfl, HB.out⟩
end Go.Proofs.Ytjkllbilfcopmaa.Dk
end

section
namespace Go.Proofs.Ytjkllbilfcopmaa.Dk
open Go.RowKit Go.Proofs.YtjkllbilfcopmaaW.PrintWords Go.Proofs.YtjkllbilfcopmaaW.PrintLast Go.Proofs.YtjkllbilfcopmaaW.PrintMore
set_option linter.unusedVariables false
set_option linter.unusedSimpArgs false
theorem fk_all {W : World} {base : Nat} {ok : Nat → Prop} {A : Option Addr} {n c : Nat} {m : Fs} (h : fk.R 67 W base ok (.slice A n c) m) : fk.C W A m.length m := (Kd.R_reads' h).2.2
theorem fk_take {W : World} {base : Nat} {ok : Nat → Prop} {A : Option Addr} {n c p : Nat} {m : Fs} (h : fk.R 67 W base ok (.slice A n c) m) (hp : p ≤ m.length) : ReadsRow (fk.K W) fk.sz W A p (m.take p) := by
  have := Kd.C_take (fk_all h) hp
  rw [List.length_take, Nat.min_eq_left hp] at this
  exact this
theorem fk_slice {W : World} {base : Nat} {ok : Nat → Prop} {v : Value} {m : Fs} (h : fk.R 67 W base ok v m) : ∃ A n c, v = .slice A n c := by
  obtain ⟨A, c, e⟩ := Kd.R_slice h
  exact ⟨A, _, c, e⟩
/-- The files behind p, in a row at block g. -/
theorem fk_drop {W : World} {base : Nat} {ok : Nat → Prop} {g n c p k o : Nat} {m : Fs} (h : fk.R 67 W base ok (.slice (some ⟨g, 0, none⟩) n c) m) (hp : p ≤ m.length) (hk : k = m.length - p) (ho : o = p * 3 ∨ k = 0) : ReadsRow (fk.K W) fk.sz W (some ⟨g, o, none⟩) k (m.drop p) := by
  have hC := fk_all h
  refine ⟨by rw [List.length_drop]; exact hk.symm, by have := hC.2.1; omega, fun hk0 => ?_⟩
  obtain ⟨ad, e, hc⟩ := hC.2.2 (by omega)
  injection e with e
  refine ⟨_, rfl, fun j q hj => ?_⟩
  have ho' : o = p * 3 := by omega
  rw [List.getElem?_drop] at hj
  obtain ⟨cs, hl, hK, hcell⟩ := hc (p + j) q hj
  refine ⟨cs, hl, hK, fun i u hu => ?_⟩
  have := hcell i u hu
  rw [← e, add_plain] at this
  subst ho'
  have e2 : (⟨g, p * 3, none⟩ : Addr).add (j * fk.sz + i) = ⟨g, (p + j) * fk.sz + i, none⟩ := by
    rw [← add_plain g (p * 3), add_add, add_plain]
    have : p * 3 + (j * fk.sz + i) = (p + j) * fk.sz + i := by
      show p * 3 + (j * 3 + i) = (p + j) * 3 + i
      omega
    rw [this]
  rw [e2]
  exact this
theorem rd_end {W w4 : World} {h : Nat} {v : Value} {d d' : DS} {A4 : Option Addr} {n4 c4 : Nat} {m' : Fs} {ok : Nat → Prop} (i : RdAt W h v d) (hb : Below W.heap.size W w4) (hr : fk.R 67 w4 W.heap.size ok (.slice A4 n4 c4) m')
    (hm : d'.m = m') (hd : rl d' = rl d ∧ d'.down = d.down) (hf : Fine d') (hs : FL.St d'.m) :
    ∃ v', RdAt (w4.setCell ⟨h, 0, none⟩ (.slice A4 n4 c4)) h v' d' ∧ Fr (Only h) W (w4.setCell ⟨h, 0, none⟩ (.slice A4 n4 c4)) ∧ (∀ k, v'.ownBlock = some k → W.heap.size ≤ k) := by
  have hbl : w4.heap[h]? = _ := (hb.block h i.lt).trans i.blk
  refine ⟨_, ⟨blk_put hbl 0 (.slice A4 n4 c4) (by rw [hd.1, hd.2]; rfl), ?_, hf, hs⟩, ((Fr.of_below (S := Only h) hb).set (p := ⟨h, 0, none⟩) (.inl rfl) (.slice A4 n4 c4)), fun k hk => Kd.R_base hr k hk⟩
  rw [hm]
  refine fk_ok (Kd.R_lower (base' := 0) (fk_move hr fun k hk => Below.heap_setCell w4 ⟨h, 0, none⟩ _ k fun e => ?_) (Nat.zero_le _)) fun _ _ => trivial
  have := Kd.R_base hr k hk
  have := i.lt
  simp only at e
  omega
set_option maxRecDepth 100000 in
set_option maxHeartbeats 4000000 in
theorem drop_walk (W : World) (gh : Nat) (v : Value) (d : DS) (i : RdAt W gh v d) (p : Nat) (hp : p < d.m.length) (d' : DS) (hm : d'.m = d.m.take p ++ d.m.drop (p + 1)) (hd : rl d' = rl d ∧ d'.down = d.down) (hf : Fine d') (hs : FL.St d'.m) :
    Calls Try.prog 47 #[.pointer (some ⟨gh, 0, none⟩), .int .i64 (p : Int)] W fun e W' => e = .returned (.tuple #[]) ∧ ∃ v', RdAt W' gh v' d' ∧ Fr (Only gh) W W' ∧ (∀ k, v'.ownBlock = some k → W.heap.size ≤ k) := by
  obtain ⟨A, c, rfl, hc, hcm, hat⟩ := row_shape i.row
  obtain ⟨g, rfl, -⟩ := hat p hp
  have hlen := i.fine.many
  have c0 := (blk_cell i.blk 0).trans (show _ = some (Value.slice (some ⟨g, 0, none⟩) d.m.length c) from rfl)
  have HI := Aside0.mk i
  have HD := Aside0.mk (And.intro hm (And.intro hd (And.intro hf hs)))
  have q1 : (p : Int) ≤ (c : Int) := by omega
  have q2 : (p : Int) + 1 ≤ (c : Int) := by omega
  have q3 : (p : Int) + 1 ≤ (d.m.length : Int) := by omega
  clear i hat hm hd hf hs
  by_cases hca : c = p + 1
  all_goals (try subst hca)
  all_goals (
    go_enter Try.func47, Try.ntmps47
    go_wp2_with (
      first
      | ((with_reducible refine gate_builtin (b := .append) (xs := #[.tmp 5, .tmp 11]) rfl ?_); at_builtin; refine Kd.R_append_rows fk (Rr := fk.K W) (w0 := W) W.heap.size rfl (.tmp 5) (.tmp 11) 61 67 (.agg #[.string ⟨#[]⟩, .string ⟨#[]⟩, .int .i64 0]) 40 rfl Try.underlying61 info67 rfl (by decide) (by decide) _ [] (d.m.take p) (some ⟨g, 0, none⟩) p _ (fun _ => True) (fun _ => False) rfl rfl (Kd.R_nil _ _ _ _ _) (fk_take HI.out.row (by omega)) (fun _ _ hh => hh) (fun _ hk => hk.elim) (fun _ _ => trivial) (Below.refl _ _) (Nat.le_refl _) (by simp only [List.length_nil]; omega) ?_; intro v3 w3 hr_ hb_ _ _; have HR3 := Aside0.mk hr_; have HB3 := Aside0.mk hb_; have HI3 := Aside0.mk (HI.out.move fun k hk _ => hb_.block k hk); have c3 := (blk_cell HI3.out.blk 0).trans (show _ = some (Value.slice (some ⟨g, 0, none⟩) d.m.length _) from rfl); clear hr_ hb_)
      | ((with_reducible refine gate_builtin (b := .append) (xs := #[.tmp 14, .tmp 21]) rfl ?_); at_builtin; refine Kd.R_append_rows fk (Rr := fk.K w3) (w0 := W) W.heap.size rfl (.tmp 14) (.tmp 21) 61 67 (.agg #[.string ⟨#[]⟩, .string ⟨#[]⟩, .int .i64 0]) 40 rfl Try.underlying61 info67 rfl (by decide) (by decide) _ _ (d.m.drop (p + 1)) _ _ _ (fun _ => True) (fun _ => False) rfl rfl HR3.out (fk_drop HI3.out.row (by omega) (by omega) (by omega)) (fun _ _ hh => hh) (fun _ hk => hk.elim) (fun _ _ => trivial) HB3.out HB3.out.size (by simp only [List.nil_append, List.length_take]; omega) ?_; intro v4 w4 hr_ hb_ _ _; obtain ⟨A4, n4, c4, rfl⟩ := fk_slice hr_; have HR4 := Aside0.mk hr_; have HB4 := Aside0.mk hb_; have HI4 := Aside0.mk (HI.out.move fun k hk _ => hb_.block k hk); have k4 := (blk_cell HI4.out.blk 0).trans (show _ = some (Value.slice (some ⟨g, 0, none⟩) d.m.length _) from rfl); have f4 := blk_frozen HI4.out.blk 0; clear hr_ hb_))
    go_end0
    exact ⟨rfl, rd_end HI.out HB4.out HR4.out (by rw [HD.out.1, List.nil_append]) HD.out.2.1 HD.out.2.2.1 HD.out.2.2.2⟩)
end Go.Proofs.Ytjkllbilfcopmaa.Dk
end

section
namespace Go.Proofs.Ytjkllbilfcopmaa.Dk
open Go.RowKit Go.Proofs.YtjkllbilfcopmaaW.PrintWords Go.Proofs.YtjkllbilfcopmaaW.PrintLast Go.Proofs.YtjkllbilfcopmaaW.PrintMore
set_option linter.unusedVariables false
set_option linter.unusedSimpArgs false
theorem below_zero (w : World) : Below 0 w w := Below.refl 0 w
/-- What stands through put's loop: the disk, the file to be put at block b. -/
structure PutX (W w' : World) (gh b : Nat) (v : Value) (d : DS) (s : ByteArray) (f : Fl) : Prop where
  rd : RdAt w' gh v d
  bx : w'.heap[b]? = some (.cells #[.string s, .string f.has, .int .i64 f.safe] 67 (0, 0))
  be : Below W.heap.size W w'
  bl : W.heap.size ≤ b
theorem PutX.below {W w1 w2 : World} {gh b : Nat} {v : Value} {d : DS} {s : ByteArray} {f : Fl} (x : PutX W w1 gh b v d s f) (hb : Below w1.heap.size w1 w2) : PutX W w2 gh b v d s f :=
  ⟨x.rd.move fun k hk _ => hb.block k hk, (hb.block b (blk_lt x.bx)).trans x.bx, x.be.trans (hb.mono x.be.size), x.bl⟩
theorem PutX.drewN {W w1 : World} {gh b : Nat} {v : Value} {d : DS} {s : ByteArray} {f : Fl} (x : PutX W w1 gh b v d s f) (n : Nat) : PutX W (w1.drewN n) gh b v d s f := x.below (pw_below_drewN (Below.refl _ _) n)
theorem less_at {m : Fs} {s : ByteArray} {j : Nat} (hj : j < m.length) (h : j < FL.pl m s.data.toList) : Op.bytesLess (m[j]).1 s.toList = true := by
  rw [ByteArray.toList_eq, ← FL.before_eq]
  exact FL.pl_less m _ j hj h
theorem notless_at {m : Fs} {s : ByteArray} {p : Nat} (hp : p < m.length) (h : FL.pl m s.data.toList = p) : Op.bytesLess (m[p]).1 s.toList = false := by
  subst h
  rw [ByteArray.toList_eq, ← FL.before_eq]
  exact FL.pl_not m _ hp
/-- The row was written in place. -/
theorem rd_store {W w1 : World} {gh g n c : Nat} {d d' : DS} {m' : Fs} {ok : Nat → Prop} (i : RdAt W gh (.slice (some ⟨g, 0, none⟩) n c) d) (hr : fk.R 67 w1 0 ok (.slice (some ⟨g, 0, none⟩) n c) m') (hg : W.grownBy w1 (some g)) {mm : Fs}
    (hm : d'.m = mm) (hd : rl d' = rl d ∧ d'.down = d.down) (hf : Fine d') (he : mm = m') (hs : FL.St mm) : RdAt w1 gh (.slice (some ⟨g, 0, none⟩) n c) d' ∧ Fr (HR gh (some g)) W w1 :=
  ⟨⟨(hg.block gh i.lt fun e => i.ne (by rw [e]; simp [Value.ownBlock])).trans (by rw [i.blk, hd.1, hd.2]), by rw [hm, he]; exact fk_ok hr fun _ _ => trivial, hf, by rw [hm]; exact hs⟩,
    ⟨hg.os, hg.tape, hg.output, hg.size, fun k hk hn => hg.block k hk fun e => hn (.inr e.symm)⟩⟩
set_option maxRecDepth 100000 in
set_option maxHeartbeats 4000000 in
theorem put_old_walk (W : World) (gh : Nat) (v : Value) (d : DS) (i : RdAt W gh v d) (s : ByteArray) (f u : Fl) (hu : FM.get d.m s.data.toList = some u) (d' : DS) (hm : d'.m = FM.put d.m s.data.toList f) (hd : rl d' = rl d ∧ d'.down = d.down) (hf : Fine d') :
    Calls Try.prog 45 #[.pointer (some ⟨gh, 0, none⟩), .agg #[.string s, .string f.has, .int .i64 f.safe]] W fun e W' => e = .returned (.tuple #[]) ∧ RdAt W' gh v d' ∧ Fr (HR gh v.ownBlock) W W' := by
  obtain ⟨A, c, rfl, hc, hcm, hat⟩ := row_shape i.row
  obtain ⟨p, hp, hmp, hpl⟩ : ∃ p, ∃ hp : p < d.m.length, d.m[p] = (s.data.toList, u) ∧ FL.pl d.m s.data.toList = p := by
    obtain ⟨hp, e⟩ := there_pl i.st hu
    exact ⟨_, hp, e, rfl⟩
  obtain ⟨g, rfl, -⟩ := hat p hp
  have hlen := i.fine.many
  have HD := Aside0.mk (And.intro hm (And.intro hd hf))
  have HU := Aside0.mk hu
  have HP := Aside0.mk (And.intro hmp hpl)
  have HA := Aside0.mk hat
  have q1 : (d.m.length : Int) ≤ (c : Int) := by omega
  have q2 : (p : Int) < (d.m.length : Int) := by omega
  obtain ⟨fh, fs⟩ := f
  have hX0 : PutX W (W.alloc (.cells #[.string s, .string fh, .int .i64 fs] 67)) gh W.heap.size (.slice (some ⟨g, 0, none⟩) d.m.length c) d s ⟨fh, fs⟩ :=
    ⟨i.move fun k hk _ => (below_alloc (Below.refl W.heap.size W) _).block k hk, heap_alloc_new W _, below_alloc (Below.refl _ _) _, Nat.le_refl _⟩
  have HX0 := Aside0.mk hX0
  obtain ⟨b, hb⟩ : ∃ b, W.heap.size = b := ⟨_, rfl⟩
  clear i hat hm hd hf hu hmp hpl hX0
  go_enter Try.func45, Try.ntmps45
  go_wp2_with fail
  rw [hb] at HX0
  generalize (W.alloc (.cells #[.string s, .string fh, .int .i64 fs] 67)) = w0 at *
  go_loopg [4] (d.m.length + 1) (fun kq v4 w' => ∃ j : Nat, v4 = .int .i64 (j : Int) ∧ Aside0 (j + kq = d.m.length + 1 ∧ j ≤ p) ∧ Aside0 (PutX W w' gh b (.slice (some ⟨g, 0, none⟩) d.m.length c) d s ⟨fh, fs⟩))
  case atStart => exact ⟨0, rfl, ⟨by omega, Nat.zero_le _⟩, HX0⟩
  case round =>
    obtain ⟨j, rfl, HJ, HX⟩ := hrel
    have hj : j < d.m.length := by have := HJ.out; omega
    have hji : (j : Int) < (d.m.length : Int) := by omega
    obtain ⟨A, c', hs_, -, -, hat⟩ := row_shape HX.out.rd.row
    obtain ⟨g', e1, x0, -⟩ := hat j hj
    injection hs_ with h1 h2 h3
    subst h1
    injection e1 with e1
    injection e1 with e1
    subst e1
    clear h2 h3 hat
    have c0 := (blk_cell HX.out.rd.blk 0).trans (show _ = some (Value.slice (some ⟨g, 0, none⟩) d.m.length c) from rfl)
    have b0 := (blk_cell HX.out.bx 0).trans (show _ = some (Value.string s) from rfl)
    by_cases q : j < p
    · obtain ⟨kq1, rfl⟩ : ∃ kq1, gk = kq1 + 1 := ⟨gk - 1, by have := HJ.out; omega⟩
      have hbl := less_at (s := s) hj (by rw [HP.out.2]; exact q)
      have HQ := Aside0.mk q
      generalize (d.m[j]).1 = nm at x0 hbl
      clear q hj
      go_wp2_with fail
      go_quiet (fail)
      go_wp2_with fail
      go_roundg kq1
      case measure => omega
      case rel => exact ⟨j + 1, by go_num, ⟨by have := HJ.out; omega, by have := HQ.out; omega⟩, ⟨HX.out.drewN _⟩⟩
    · obtain rfl : j = p := by have := HJ.out; omega
      have hbl := notless_at (s := s) hj HP.out.2
      rw [HP.out.1] at x0 hbl
      rw [key_eq rfl] at x0
      rw [← ByteArray.toList_eq] at hbl
      clear q HX0
      go_wp2_with fail
      go_quiet (fail)
      have HX5 := Aside0.mk (HX.out.drewN nq)
      have x5 : (wr.drewN nq).cell? ⟨g, j * 3, none⟩ = some (.string s) := x0
      have c5 : (wr.drewN nq).cell? ⟨gh, 0, none⟩ = some (Value.slice (some ⟨g, 0, none⟩) d.m.length c) := c0
      have b5 : (wr.drewN nq).cell? ⟨b, 0, none⟩ = some (.string s) := b0
      clear x0 c0 b0 HX
      generalize wr.drewN nq = w5 at *
      go_wp2_with fail
      go_quiet (fail)
      have HX6 := Aside0.mk (HX5.out.drewN nq)
      clear x5 c5 b5 HX5
      generalize w5.drewN nq = w6 at *
      have HX7 := Aside0.mk (show PutX W ({ w6 with drawn := w6.drawn + 1 } : World) gh b (.slice (some ⟨g, 0, none⟩) d.m.length c) d s ⟨fh, fs⟩ from HX6.out.below (below_drew (Below.refl _ _)))
      clear HX6
      have c7 := (blk_cell HX7.out.rd.blk 0).trans (show _ = some (Value.slice (some ⟨g, 0, none⟩) d.m.length c) from rfl)
      have b70 := (blk_cell HX7.out.bx 0).trans (show _ = some (Value.string s) from rfl)
      have b71 := (blk_cell HX7.out.bx 1).trans (show _ = some (Value.string fh) from rfl)
      have b72 := (blk_cell HX7.out.bx 2).trans (show _ = some (Value.int .i64 fs) from rfl)
      go_wp2_with fail
      refine wp_region_still_tail 7 (by kernel_rfl) (by kernel_rfl) ?_
      simp only [List.take_succ_cons, List.take_zero, List.drop_succ_cons, List.drop_zero]
      generalize ({ w6 with drawn := w6.drawn + 1 } : World) = w7 at *
      repeat still_step
      refine wpStill_nil ?_
      obtain ⟨cs, hl, hM, hcc, -⟩ := Kd.R_elem HX7.out.rd.row (s.data.toList, u) (j : Int) (by omega) (by omega)
      refine Kd.R_store fk (w0 := w7) (o' := j * 3) 0 rfl rfl 67 (.tmp 54) (.tmp 53) rfl 67 (j : Int) 0 d.m (s.data.toList, ⟨fh, fs⟩) (.agg #[.string s, .string fh, .int .i64 fs]) [.string s, .string fh, .int .i64 fs] cs (fun _ => True) (fun _ => False) ?ha ?ho rfl rfl (by kernel_rfl) ?h1 HX7.out.rd.row (by omega) (by omega) hl hcc (Nat.le_refl 3) ?hM (fun _ hk => hk.elim) (below_zero _) ?_
      case ha => first | rfl | simp [go_sem]
      case ho => show j * 3 = ((j : Int).toNat) * 3 + 0; omega
      case h1 => intro q hq; simp only [List.mem_cons, List.not_mem_nil, or_false] at hq; rcases hq with rfl | rfl | rfl <;> rfl
      case hM => show _ = fcells _; rw [List.take_zero, List.nil_append, List.drop_of_length_le (by rw [hl]; exact Nat.le_refl 3), List.append_nil]; rfl
      intro w8 hr8 _ hg8
      have HE := Aside0.mk (rd_store HX7.out.rd hr8 hg8 HD.out.1 HD.out.2.1 HD.out.2.2 (by
        rw [Int.toNat_natCast]
        have e1 := FL.put_old HX7.out.rd.st s.data.toList ⟨fh, fs⟩ u HU.out
        rw [HP.out.2] at e1
        rw [e1, List.set_eq_take_append_cons_drop, if_pos hj]) (HX7.out.rd.st.put _ _))
      have HB8 := Aside0.mk HX7.out.be
      clear hr8 hg8 hcc hM hl c7 b70 b71 b72 HX7
      go_wp2
      (try simp only [Exit.inBlock, Exit.then])
      refine bodyPost_ret (results_none rfl _ _ _) rfl ?_
      exact ⟨rfl, HE.out.1, (Fr.of_below (S := HR gh (some g)) HB8.out).trans HE.out.2⟩
end Go.Proofs.Ytjkllbilfcopmaa.Dk
end

section
namespace Go.Proofs.Ytjkllbilfcopmaa.Dk
open Go.RowKit Go.Proofs.YtjkllbilfcopmaaW.PrintWords Go.Proofs.YtjkllbilfcopmaaW.PrintLast Go.Proofs.YtjkllbilfcopmaaW.PrintMore
set_option linter.unusedVariables false
set_option linter.unusedSimpArgs false
theorem fk_nil (W : World) (A : Option Addr) : ReadsRow (fk.K W) fk.sz W A 0 ([] : Fs) := ⟨rfl, by omega, fun h => absurd h (by omega)⟩
theorem fk_nil' {W : World} {A : Option Addr} {m : Fs} {k p : Nat} (hm : m.length ≤ p) (hk : k = 0) : ReadsRow (fk.K W) fk.sz W A k (m.drop p) := by
  subst hk
  rw [List.drop_of_length_le hm]
  exact fk_nil W A
theorem row_two {W : World} {base : Nat} {ok : Nat → Prop} {v : Value} {m : Fs} (i : fk.R 67 W base ok v m) : (v = .slice none 0 0 ∧ m.length = 0) ∨ ∃ g c, v = .slice (some ⟨g, 0, none⟩) m.length c ∧ m.length ≤ c ∧ c ≤ 9223372036854775807 := by
  obtain ⟨h0, inner, ho, hr⟩ := i
  rcases ho.2 with ⟨rfl, hn⟩ | ⟨g, cap, cur, rfl, hb, hh, hnc, hcm, hcs, ht⟩
  · exact .inl ⟨rfl, hn⟩
  · exact .inr ⟨g, cap, rfl, hnc, by unfold maxLen at hcm; omega⟩
theorem cells_at {W : World} {base : Nat} {ok : Nat → Prop} {g n c : Nat} {m : Fs} (i : fk.R 67 W base ok (.slice (some ⟨g, 0, none⟩) n c) m) (j : Nat) (hj : j < m.length) : W.cell? ⟨g, j * 3, none⟩ = some (.string ⟨(m[j]).1.toArray⟩) ∧ W.cell? ⟨g, j * 3 + 1, none⟩ = some (.string (m[j]).2.has) ∧ W.cell? ⟨g, j * 3 + 2, none⟩ = some (.int .i64 (m[j]).2.safe) := by
  obtain ⟨A, c', e, -, -, hat⟩ := row_shape i
  obtain ⟨g', e1, x0, x1, x2, -⟩ := hat j hj
  injection e with h1 h2 h3
  subst h1
  injection e1 with e1
  injection e1 with e1
  subst e1
  exact ⟨x0, x1, x2⟩
abbrev PutPost (W : World) (gh : Nat) (d' : DS) : Ending → World → Prop := fun e W' => e = .returned (.tuple #[]) ∧ ∃ v', RdAt W' gh v' d' ∧ Fr (Only gh) W W' ∧ (∀ k, v'.ownBlock = some k → W.heap.size ≤ k)
set_option maxRecDepth 100000 in
set_option maxHeartbeats 4000000 in
theorem put_new_none (W : World) (gh : Nat) (d : DS) (i : RdAt W gh (.slice none 0 0) d) (s : ByteArray) (fh : ByteArray) (fs : Int) (p : Nat) (hpl : FL.pl d.m s.data.toList = p) (hu : FM.get d.m s.data.toList = none) (hz : d.m.length = 0) (d' : DS) (hm : d'.m = d.m.take p ++ (s.data.toList, ⟨fh, fs⟩) :: d.m.drop p) (hd : rl d' = rl d ∧ d'.down = d.down) (hf : Fine d') (hs : FL.St d'.m) :
    Calls Try.prog 45 #[.pointer (some ⟨gh, 0, none⟩), .agg #[.string s, .string fh, .int .i64 fs]] W (PutPost W gh d') := by
  have hle := FL.pl_le d.m s.data.toList
  rw [hpl] at hle
  have hlen := i.fine.many
  have HD := Aside0.mk (And.intro hm (And.intro hd (And.intro hf hs)))
  have HU := Aside0.mk hu
  have HI := Aside0.mk i
  have hX0 : PutX W (W.alloc (.cells #[.string s, .string fh, .int .i64 fs] 67)) gh W.heap.size (.slice none 0 0) d s ⟨fh, fs⟩ :=
    ⟨i.move fun k hk _ => (below_alloc (Below.refl W.heap.size W) _).block k hk, heap_alloc_new W _, below_alloc (Below.refl _ _) _, Nat.le_refl _⟩
  have HX0 := Aside0.mk hX0
  obtain ⟨b, hb⟩ : ∃ b, W.heap.size = b := ⟨_, rfl⟩
  clear i hm hd hf hs hu hX0
  obtain rfl : p = 0 := by omega
  clear hpl hle
  go_enter Try.func45, Try.ntmps45
  go_wp2_with fail
  rw [hb] at HX0
  generalize (W.alloc (.cells #[.string s, .string fh, .int .i64 fs] 67)) = w0 at *
  go_loopg [4] (d.m.length + 1) (fun kq v4 w' => ∃ j : Nat, v4 = .int .i64 (j : Int) ∧ Aside0 (j + kq = d.m.length + 1 ∧ j ≤ 0) ∧ Aside0 (PutX W w' gh b (.slice none 0 0) d s ⟨fh, fs⟩))
  case atStart => exact ⟨0, by go_num, ⟨by omega, Nat.zero_le _⟩, HX0⟩
  case round =>
    obtain ⟨j, rfl, HJ, HX⟩ := hrel
    have c0 := (blk_cell HX.out.rd.blk 0).trans (show _ = some (.slice none 0 0) from rfl)
    have b0 := (blk_cell HX.out.bx 0).trans (show _ = some (Value.string s) from rfl)
    obtain rfl : j = 0 := by have := HJ.out; omega
    clear HX0
    go_wp2_with fail
    go_quiet (fail)
    have HX5 := Aside0.mk (HX.out.drewN nq)
    have c5 : (wr.drewN nq).cell? ⟨gh, 0, none⟩ = some (.slice none 0 0) := c0
    have b5 : (wr.drewN nq).cell? ⟨b, 0, none⟩ = some (.string s) := b0
    skip
    clear c0 b0 HX 
    generalize wr.drewN nq = w5 at *
    go_wp2_with fail
    go_quiet (fail)
    have HX6 := Aside0.mk (HX5.out.drewN nq)
    clear c5 b5 HX5 
    generalize w5.drewN nq = w6 at *
    have c6 := (blk_cell HX6.out.rd.blk 0).trans (show _ = some (.slice none 0 0) from rfl)
    have b60 := (blk_cell HX6.out.bx 0).trans (show _ = some (Value.string s) from rfl)
    have b61 := (blk_cell HX6.out.bx 1).trans (show _ = some (Value.string fh) from rfl)
    have b62 := (blk_cell HX6.out.bx 2).trans (show _ = some (Value.int .i64 fs) from rfl)
    go_wp2_with (
      first
      | ((with_reducible refine gate_builtin (b := .append) (xs := #[.tmp 55, .tmp 61]) rfl ?_); at_builtin; refine Kd.R_append_rows fk (Rr := fk.K w6) (w0 := W) W.heap.size rfl (.tmp 55) (.tmp 61) 61 67 (.agg #[.string ⟨#[]⟩, .string ⟨#[]⟩, .int .i64 0]) 40 rfl Try.underlying61 info67 rfl (by decide) (by decide) (.slice none 0 0) [] (d.m.take 0) _ _ _ (fun _ => True) (fun _ => False) rfl rfl (Kd.R_nil _ _ _ _ _) (fk_take HX6.out.rd.row (by omega)) (fun _ _ hh => hh) (fun _ hk => hk.elim) (fun _ _ => trivial) HX6.out.be HX6.out.be.size (by simp only [List.length_nil]; omega) ?_; intro v7 w7 hr_ hb_ hg_ _; have HR7 := Aside0.mk hr_; have HB7 := Aside0.mk hb_; have hx7 := (hg_.block b (blk_lt HX6.out.bx) (fun e => by simp [Value.ownBlock] at e)).trans HX6.out.bx; have b70 := (blk_cell hx7 0).trans (show _ = some (Value.string s) from rfl); have b71 := (blk_cell hx7 1).trans (show _ = some (Value.string fh) from rfl); have b72 := (blk_cell hx7 2).trans (show _ = some (Value.int .i64 fs) from rfl); clear hr_ hb_ hg_ hx7)
      | ((with_reducible refine gate_builtin (b := .append) (xs := #[.tmp 63, .tmp 65]) rfl ?_); at_builtin; refine Kd.R_append fk (w0 := W) W.heap.size rfl (.tmp 63) (.tmp 65) 61 67 (.agg #[.string ⟨#[]⟩, .string ⟨#[]⟩, .int .i64 0]) 40 rfl Try.underlying61 info67 rfl (by decide) (by decide) _ _ (s.data.toList, ⟨fh, fs⟩) [.string s, .string fh, .int .i64 fs] (fun _ => True) (fun _ => False) rfl rfl rfl (fun _ hk => hk.elim) (fun _ _ => trivial) HR7.out HB7.out HB7.out.size (by simp only [List.nil_append, List.length_take]; omega) ?_; intro v8 w8 hr_ hb_ _ _; have HR8 := Aside0.mk hr_; have HB8 := Aside0.mk hb_; have HI8 := Aside0.mk (HI.out.move fun k hk _ => hb_.block k hk); have c8 := (blk_cell HI8.out.blk 0).trans (show _ = some (.slice none 0 0) from rfl); clear hr_ hb_ b70 b71 b72)
      | ((with_reducible refine gate_builtin (b := .append) (xs := #[.tmp 68, .tmp 74]) rfl ?_); at_builtin; refine Kd.R_append_rows fk (Rr := fk.K w8) (w0 := W) W.heap.size rfl (.tmp 68) (.tmp 74) 61 67 (.agg #[.string ⟨#[]⟩, .string ⟨#[]⟩, .int .i64 0]) 40 rfl Try.underlying61 info67 rfl (by decide) (by decide) _ _ (d.m.drop 0) _ _ _ (fun _ => True) (fun _ => False) rfl rfl HR8.out (fk_nil' (by omega) rfl) (fun _ _ hh => hh) (fun _ hk => hk.elim) (fun _ _ => trivial) HB8.out HB8.out.size (by simp only [List.nil_append, List.length_take, List.length_append, List.length_cons, List.length_nil]; omega) ?_; intro v9 w9 hr_ hb_ _ _; obtain ⟨A9, n9, c9, rfl⟩ := fk_slice hr_; have HR9 := Aside0.mk hr_; have HB9 := Aside0.mk hb_; have HI9 := Aside0.mk (HI.out.move fun k hk _ => hb_.block k hk); have k9 := (blk_cell HI9.out.blk 0).trans (show _ = some (.slice none 0 0) from rfl); have f9 := blk_frozen HI9.out.blk 0; clear hr_ hb_))
    go_end0
    exact ⟨rfl, rd_end HI.out HB9.out HR9.out (by rw [HD.out.1]; simp) HD.out.2.1 HD.out.2.2.1 HD.out.2.2.2⟩
set_option maxRecDepth 100000 in
set_option maxHeartbeats 4000000 in
theorem put_new_mid (W : World) (gh : Nat) (d : DS) (g c : Nat) (hc : d.m.length ≤ c) (hcm : c ≤ 9223372036854775807) (i : RdAt W gh (.slice (some ⟨g, 0, none⟩) d.m.length c) d) (s : ByteArray) (fh : ByteArray) (fs : Int) (p : Nat) (hpl : FL.pl d.m s.data.toList = p) (hu : FM.get d.m s.data.toList = none) (hp : p < d.m.length) (d' : DS) (hm : d'.m = d.m.take p ++ (s.data.toList, ⟨fh, fs⟩) :: d.m.drop p) (hd : rl d' = rl d ∧ d'.down = d.down) (hf : Fine d') (hs : FL.St d'.m) :
    Calls Try.prog 45 #[.pointer (some ⟨gh, 0, none⟩), .agg #[.string s, .string fh, .int .i64 fs]] W (PutPost W gh d') := by
  have hle := FL.pl_le d.m s.data.toList
  rw [hpl] at hle
  have hlen := i.fine.many
  have HD := Aside0.mk (And.intro hm (And.intro hd (And.intro hf hs)))
  have HU := Aside0.mk hu
  have HI := Aside0.mk i
  have hX0 : PutX W (W.alloc (.cells #[.string s, .string fh, .int .i64 fs] 67)) gh W.heap.size (.slice (some ⟨g, 0, none⟩) d.m.length c) d s ⟨fh, fs⟩ :=
    ⟨i.move fun k hk _ => (below_alloc (Below.refl W.heap.size W) _).block k hk, heap_alloc_new W _, below_alloc (Below.refl _ _) _, Nat.le_refl _⟩
  have HX0 := Aside0.mk hX0
  obtain ⟨b, hb⟩ : ∃ b, W.heap.size = b := ⟨_, rfl⟩
  clear i hm hd hf hs hu hX0
  have HP := Aside0.mk hpl
  have q1 : (d.m.length : Int) ≤ (c : Int) := by omega
  have q2 : (p : Int) ≤ (c : Int) := by omega
  clear hpl
  go_enter Try.func45, Try.ntmps45
  go_wp2_with fail
  rw [hb] at HX0
  generalize (W.alloc (.cells #[.string s, .string fh, .int .i64 fs] 67)) = w0 at *
  go_loopg [4] (d.m.length + 1) (fun kq v4 w' => ∃ j : Nat, v4 = .int .i64 (j : Int) ∧ Aside0 (j + kq = d.m.length + 1 ∧ j ≤ p) ∧ Aside0 (PutX W w' gh b (.slice (some ⟨g, 0, none⟩) d.m.length c) d s ⟨fh, fs⟩))
  case atStart => exact ⟨0, rfl, ⟨by omega, Nat.zero_le _⟩, HX0⟩
  case round =>
    obtain ⟨j, rfl, HJ, HX⟩ := hrel
    have c0 := (blk_cell HX.out.rd.blk 0).trans (show _ = some (.slice (some ⟨g, 0, none⟩) d.m.length c) from rfl)
    have b0 := (blk_cell HX.out.bx 0).trans (show _ = some (Value.string s) from rfl)
    by_cases q : j < p
    · obtain ⟨kq1, rfl⟩ : ∃ kq1, gk = kq1 + 1 := ⟨gk - 1, by have := HJ.out; omega⟩
      have hj : j < d.m.length := by omega
      have hji : (j : Int) < (d.m.length : Int) := by omega
      obtain ⟨x0, -, -⟩ := cells_at HX.out.rd.row j hj
      have hbl := less_at (s := s) hj (by rw [HP.out]; exact q)
      have HQ := Aside0.mk q
      generalize (d.m[j]).1 = nm at x0 hbl
      clear q hj
      go_wp2_with fail
      go_quiet (fail)
      go_wp2_with fail
      go_roundg kq1
      case measure => omega
      case rel => exact ⟨j + 1, by go_num, ⟨by have := HJ.out; omega, by have := HQ.out; omega⟩, ⟨HX.out.drewN _⟩⟩
    · obtain rfl : j = p := by have := HJ.out; omega
      have hji : (j : Int) < (d.m.length : Int) := by omega
      obtain ⟨x0, -, -⟩ := cells_at HX.out.rd.row j hp
      have hbl := notless_at (s := s) hp HP.out
      have hne := key_ne (none_at HU.out j hp)
      generalize (d.m[j]).1 = nm at x0 hbl hne
      clear HX0
      go_wp2_with fail
      go_quiet (fail)
      have HX5 := Aside0.mk (HX.out.drewN nq)
      have c5 : (wr.drewN nq).cell? ⟨gh, 0, none⟩ = some (.slice (some ⟨g, 0, none⟩) d.m.length c) := c0
      have b5 : (wr.drewN nq).cell? ⟨b, 0, none⟩ = some (.string s) := b0
      have x5 : (wr.drewN nq).cell? ⟨g, j * 3, none⟩ = some (.string ⟨nm.toArray⟩) := x0
      clear c0 b0 HX x0
      generalize wr.drewN nq = w5 at *
      go_wp2_with fail
      go_quiet (fail)
      have HX6 := Aside0.mk (HX5.out.drewN nq)
      clear c5 b5 HX5 x5
      generalize w5.drewN nq = w6 at *
      have c6 := (blk_cell HX6.out.rd.blk 0).trans (show _ = some (.slice (some ⟨g, 0, none⟩) d.m.length c) from rfl)
      have b60 := (blk_cell HX6.out.bx 0).trans (show _ = some (Value.string s) from rfl)
      have b61 := (blk_cell HX6.out.bx 1).trans (show _ = some (Value.string fh) from rfl)
      have b62 := (blk_cell HX6.out.bx 2).trans (show _ = some (Value.int .i64 fs) from rfl)
      go_wp2_with (
        first
        | ((with_reducible refine gate_builtin (b := .append) (xs := #[.tmp 55, .tmp 61]) rfl ?_); at_builtin; refine Kd.R_append_rows fk (Rr := fk.K w6) (w0 := W) W.heap.size rfl (.tmp 55) (.tmp 61) 61 67 (.agg #[.string ⟨#[]⟩, .string ⟨#[]⟩, .int .i64 0]) 40 rfl Try.underlying61 info67 rfl (by decide) (by decide) (.slice none 0 0) [] (d.m.take j) _ _ _ (fun _ => True) (fun _ => False) rfl rfl (Kd.R_nil _ _ _ _ _) (fk_take HX6.out.rd.row (by omega)) (fun _ _ hh => hh) (fun _ hk => hk.elim) (fun _ _ => trivial) HX6.out.be HX6.out.be.size (by simp only [List.length_nil]; omega) ?_; intro v7 w7 hr_ hb_ hg_ _; have HR7 := Aside0.mk hr_; have HB7 := Aside0.mk hb_; have hx7 := (hg_.block b (blk_lt HX6.out.bx) (fun e => by simp [Value.ownBlock] at e)).trans HX6.out.bx; have b70 := (blk_cell hx7 0).trans (show _ = some (Value.string s) from rfl); have b71 := (blk_cell hx7 1).trans (show _ = some (Value.string fh) from rfl); have b72 := (blk_cell hx7 2).trans (show _ = some (Value.int .i64 fs) from rfl); clear hr_ hb_ hg_ hx7)
        | ((with_reducible refine gate_builtin (b := .append) (xs := #[.tmp 63, .tmp 65]) rfl ?_); at_builtin; refine Kd.R_append fk (w0 := W) W.heap.size rfl (.tmp 63) (.tmp 65) 61 67 (.agg #[.string ⟨#[]⟩, .string ⟨#[]⟩, .int .i64 0]) 40 rfl Try.underlying61 info67 rfl (by decide) (by decide) _ _ (s.data.toList, ⟨fh, fs⟩) [.string s, .string fh, .int .i64 fs] (fun _ => True) (fun _ => False) rfl rfl rfl (fun _ hk => hk.elim) (fun _ _ => trivial) HR7.out HB7.out HB7.out.size (by simp only [List.nil_append, List.length_take]; omega) ?_; intro v8 w8 hr_ hb_ _ _; have HR8 := Aside0.mk hr_; have HB8 := Aside0.mk hb_; have HI8 := Aside0.mk (HI.out.move fun k hk _ => hb_.block k hk); have c8 := (blk_cell HI8.out.blk 0).trans (show _ = some (.slice (some ⟨g, 0, none⟩) d.m.length c) from rfl); clear hr_ hb_ b70 b71 b72)
        | ((with_reducible refine gate_builtin (b := .append) (xs := #[.tmp 68, .tmp 74]) rfl ?_); at_builtin; refine Kd.R_append_rows fk (Rr := fk.K w8) (w0 := W) W.heap.size rfl (.tmp 68) (.tmp 74) 61 67 (.agg #[.string ⟨#[]⟩, .string ⟨#[]⟩, .int .i64 0]) 40 rfl Try.underlying61 info67 rfl (by decide) (by decide) _ _ (d.m.drop j) _ _ _ (fun _ => True) (fun _ => False) rfl rfl HR8.out (fk_drop HI8.out.row (by omega) (by omega) (by omega)) (fun _ _ hh => hh) (fun _ hk => hk.elim) (fun _ _ => trivial) HB8.out HB8.out.size (by simp only [List.nil_append, List.length_take, List.length_append, List.length_cons, List.length_nil]; omega) ?_; intro v9 w9 hr_ hb_ _ _; obtain ⟨A9, n9, c9, rfl⟩ := fk_slice hr_; have HR9 := Aside0.mk hr_; have HB9 := Aside0.mk hb_; have HI9 := Aside0.mk (HI.out.move fun k hk _ => hb_.block k hk); have k9 := (blk_cell HI9.out.blk 0).trans (show _ = some (.slice (some ⟨g, 0, none⟩) d.m.length c) from rfl); have f9 := blk_frozen HI9.out.blk 0; clear hr_ hb_))
      go_end0
      exact ⟨rfl, rd_end HI.out HB9.out HR9.out (by rw [HD.out.1]; simp) HD.out.2.1 HD.out.2.2.1 HD.out.2.2.2⟩
set_option maxRecDepth 100000 in
set_option maxHeartbeats 4000000 in
theorem put_new_end1 (W : World) (gh : Nat) (d : DS) (g c : Nat) (hc : d.m.length ≤ c) (hcm : c ≤ 9223372036854775807) (i : RdAt W gh (.slice (some ⟨g, 0, none⟩) d.m.length c) d) (s : ByteArray) (fh : ByteArray) (fs : Int) (p : Nat) (hpl : FL.pl d.m s.data.toList = p) (hu : FM.get d.m s.data.toList = none) (hp : p = d.m.length) (hca : d.m.length < c) (d' : DS) (hm : d'.m = d.m.take p ++ (s.data.toList, ⟨fh, fs⟩) :: d.m.drop p) (hd : rl d' = rl d ∧ d'.down = d.down) (hf : Fine d') (hs : FL.St d'.m) :
    Calls Try.prog 45 #[.pointer (some ⟨gh, 0, none⟩), .agg #[.string s, .string fh, .int .i64 fs]] W (PutPost W gh d') := by
  have hle := FL.pl_le d.m s.data.toList
  rw [hpl] at hle
  have hlen := i.fine.many
  have HD := Aside0.mk (And.intro hm (And.intro hd (And.intro hf hs)))
  have HU := Aside0.mk hu
  have HI := Aside0.mk i
  have hX0 : PutX W (W.alloc (.cells #[.string s, .string fh, .int .i64 fs] 67)) gh W.heap.size (.slice (some ⟨g, 0, none⟩) d.m.length c) d s ⟨fh, fs⟩ :=
    ⟨i.move fun k hk _ => (below_alloc (Below.refl W.heap.size W) _).block k hk, heap_alloc_new W _, below_alloc (Below.refl _ _) _, Nat.le_refl _⟩
  have HX0 := Aside0.mk hX0
  obtain ⟨b, hb⟩ : ∃ b, W.heap.size = b := ⟨_, rfl⟩
  clear i hm hd hf hs hu hX0
  subst hp
  have HP := Aside0.mk hpl
  have q1 : (d.m.length : Int) ≤ (c : Int) := by omega
  have q2 : (d.m.length : Int) < (c : Int) := by omega
  clear hpl
  go_enter Try.func45, Try.ntmps45
  go_wp2_with fail
  rw [hb] at HX0
  generalize (W.alloc (.cells #[.string s, .string fh, .int .i64 fs] 67)) = w0 at *
  go_loopg [4] (d.m.length + 1) (fun kq v4 w' => ∃ j : Nat, v4 = .int .i64 (j : Int) ∧ Aside0 (j + kq = d.m.length + 1 ∧ j ≤ d.m.length) ∧ Aside0 (PutX W w' gh b (.slice (some ⟨g, 0, none⟩) d.m.length c) d s ⟨fh, fs⟩))
  case atStart => exact ⟨0, rfl, ⟨by omega, Nat.zero_le _⟩, HX0⟩
  case round =>
    obtain ⟨j, rfl, HJ, HX⟩ := hrel
    have c0 := (blk_cell HX.out.rd.blk 0).trans (show _ = some (.slice (some ⟨g, 0, none⟩) d.m.length c) from rfl)
    have b0 := (blk_cell HX.out.bx 0).trans (show _ = some (Value.string s) from rfl)
    by_cases q : j < d.m.length
    · obtain ⟨kq1, rfl⟩ : ∃ kq1, gk = kq1 + 1 := ⟨gk - 1, by have := HJ.out; omega⟩
      have hj : j < d.m.length := by omega
      have hji : (j : Int) < (d.m.length : Int) := by omega
      obtain ⟨x0, -, -⟩ := cells_at HX.out.rd.row j hj
      have hbl := less_at (s := s) hj (by rw [HP.out]; exact q)
      have HQ := Aside0.mk q
      generalize (d.m[j]).1 = nm at x0 hbl
      clear q hj
      go_wp2_with fail
      go_quiet (fail)
      go_wp2_with fail
      go_roundg kq1
      case measure => omega
      case rel => exact ⟨j + 1, by go_num, ⟨by have := HJ.out; omega, by have := HQ.out; omega⟩, ⟨HX.out.drewN _⟩⟩
    · obtain rfl : j = d.m.length := by have := HJ.out; omega
      clear HX0
      go_wp2_with fail
      go_quiet (fail)
      have HX5 := Aside0.mk (HX.out.drewN nq)
      have c5 : (wr.drewN nq).cell? ⟨gh, 0, none⟩ = some (.slice (some ⟨g, 0, none⟩) d.m.length c) := c0
      have b5 : (wr.drewN nq).cell? ⟨b, 0, none⟩ = some (.string s) := b0
      skip
      clear c0 b0 HX 
      generalize wr.drewN nq = w5 at *
      go_wp2_with fail
      go_quiet (fail)
      have HX6 := Aside0.mk (HX5.out.drewN nq)
      clear c5 b5 HX5 
      generalize w5.drewN nq = w6 at *
      have c6 := (blk_cell HX6.out.rd.blk 0).trans (show _ = some (.slice (some ⟨g, 0, none⟩) d.m.length c) from rfl)
      have b60 := (blk_cell HX6.out.bx 0).trans (show _ = some (Value.string s) from rfl)
      have b61 := (blk_cell HX6.out.bx 1).trans (show _ = some (Value.string fh) from rfl)
      have b62 := (blk_cell HX6.out.bx 2).trans (show _ = some (Value.int .i64 fs) from rfl)
      go_wp2_with (
        first
        | ((with_reducible refine gate_builtin (b := .append) (xs := #[.tmp 55, .tmp 61]) rfl ?_); at_builtin; refine Kd.R_append_rows fk (Rr := fk.K w6) (w0 := W) W.heap.size rfl (.tmp 55) (.tmp 61) 61 67 (.agg #[.string ⟨#[]⟩, .string ⟨#[]⟩, .int .i64 0]) 40 rfl Try.underlying61 info67 rfl (by decide) (by decide) (.slice none 0 0) [] (d.m.take d.m.length) _ _ _ (fun _ => True) (fun _ => False) rfl rfl (Kd.R_nil _ _ _ _ _) (fk_take HX6.out.rd.row (by omega)) (fun _ _ hh => hh) (fun _ hk => hk.elim) (fun _ _ => trivial) HX6.out.be HX6.out.be.size (by simp only [List.length_nil]; omega) ?_; intro v7 w7 hr_ hb_ hg_ _; have HR7 := Aside0.mk hr_; have HB7 := Aside0.mk hb_; have hx7 := (hg_.block b (blk_lt HX6.out.bx) (fun e => by simp [Value.ownBlock] at e)).trans HX6.out.bx; have b70 := (blk_cell hx7 0).trans (show _ = some (Value.string s) from rfl); have b71 := (blk_cell hx7 1).trans (show _ = some (Value.string fh) from rfl); have b72 := (blk_cell hx7 2).trans (show _ = some (Value.int .i64 fs) from rfl); clear hr_ hb_ hg_ hx7)
        | ((with_reducible refine gate_builtin (b := .append) (xs := #[.tmp 63, .tmp 65]) rfl ?_); at_builtin; refine Kd.R_append fk (w0 := W) W.heap.size rfl (.tmp 63) (.tmp 65) 61 67 (.agg #[.string ⟨#[]⟩, .string ⟨#[]⟩, .int .i64 0]) 40 rfl Try.underlying61 info67 rfl (by decide) (by decide) _ _ (s.data.toList, ⟨fh, fs⟩) [.string s, .string fh, .int .i64 fs] (fun _ => True) (fun _ => False) rfl rfl rfl (fun _ hk => hk.elim) (fun _ _ => trivial) HR7.out HB7.out HB7.out.size (by simp only [List.nil_append, List.length_take]; omega) ?_; intro v8 w8 hr_ hb_ _ _; have HR8 := Aside0.mk hr_; have HB8 := Aside0.mk hb_; have HI8 := Aside0.mk (HI.out.move fun k hk _ => hb_.block k hk); have c8 := (blk_cell HI8.out.blk 0).trans (show _ = some (.slice (some ⟨g, 0, none⟩) d.m.length c) from rfl); clear hr_ hb_ b70 b71 b72)
        | ((with_reducible refine gate_builtin (b := .append) (xs := #[.tmp 68, .tmp 74]) rfl ?_); at_builtin; refine Kd.R_append_rows fk (Rr := fk.K w8) (w0 := W) W.heap.size rfl (.tmp 68) (.tmp 74) 61 67 (.agg #[.string ⟨#[]⟩, .string ⟨#[]⟩, .int .i64 0]) 40 rfl Try.underlying61 info67 rfl (by decide) (by decide) _ _ (d.m.drop d.m.length) _ _ _ (fun _ => True) (fun _ => False) rfl rfl HR8.out (fk_nil' (by omega) (by omega)) (fun _ _ hh => hh) (fun _ hk => hk.elim) (fun _ _ => trivial) HB8.out HB8.out.size (by simp only [List.nil_append, List.length_take, List.length_append, List.length_cons, List.length_nil]; omega) ?_; intro v9 w9 hr_ hb_ _ _; obtain ⟨A9, n9, c9, rfl⟩ := fk_slice hr_; have HR9 := Aside0.mk hr_; have HB9 := Aside0.mk hb_; have HI9 := Aside0.mk (HI.out.move fun k hk _ => hb_.block k hk); have k9 := (blk_cell HI9.out.blk 0).trans (show _ = some (.slice (some ⟨g, 0, none⟩) d.m.length c) from rfl); have f9 := blk_frozen HI9.out.blk 0; clear hr_ hb_))
      go_end0
      exact ⟨rfl, rd_end HI.out HB9.out HR9.out (by rw [HD.out.1]; simp) HD.out.2.1 HD.out.2.2.1 HD.out.2.2.2⟩
set_option maxRecDepth 100000 in
set_option maxHeartbeats 4000000 in
theorem put_new_end0 (W : World) (gh : Nat) (d : DS) (g : Nat) (hcm : d.m.length ≤ 9223372036854775807) (i : RdAt W gh (.slice (some ⟨g, 0, none⟩) d.m.length d.m.length) d) (s : ByteArray) (fh : ByteArray) (fs : Int) (p : Nat) (hpl : FL.pl d.m s.data.toList = p) (hu : FM.get d.m s.data.toList = none) (hp : p = d.m.length) (d' : DS) (hm : d'.m = d.m.take p ++ (s.data.toList, ⟨fh, fs⟩) :: d.m.drop p) (hd : rl d' = rl d ∧ d'.down = d.down) (hf : Fine d') (hs : FL.St d'.m) :
    Calls Try.prog 45 #[.pointer (some ⟨gh, 0, none⟩), .agg #[.string s, .string fh, .int .i64 fs]] W (PutPost W gh d') := by
  have hle := FL.pl_le d.m s.data.toList
  rw [hpl] at hle
  have hlen := i.fine.many
  have HD := Aside0.mk (And.intro hm (And.intro hd (And.intro hf hs)))
  have HU := Aside0.mk hu
  have HI := Aside0.mk i
  have hX0 : PutX W (W.alloc (.cells #[.string s, .string fh, .int .i64 fs] 67)) gh W.heap.size (.slice (some ⟨g, 0, none⟩) d.m.length d.m.length) d s ⟨fh, fs⟩ :=
    ⟨i.move fun k hk _ => (below_alloc (Below.refl W.heap.size W) _).block k hk, heap_alloc_new W _, below_alloc (Below.refl _ _) _, Nat.le_refl _⟩
  have HX0 := Aside0.mk hX0
  obtain ⟨b, hb⟩ : ∃ b, W.heap.size = b := ⟨_, rfl⟩
  clear i hm hd hf hs hu hX0
  subst hp
  have HP := Aside0.mk hpl
  clear hpl
  go_enter Try.func45, Try.ntmps45
  go_wp2_with fail
  rw [hb] at HX0
  generalize (W.alloc (.cells #[.string s, .string fh, .int .i64 fs] 67)) = w0 at *
  go_loopg [4] (d.m.length + 1) (fun kq v4 w' => ∃ j : Nat, v4 = .int .i64 (j : Int) ∧ Aside0 (j + kq = d.m.length + 1 ∧ j ≤ d.m.length) ∧ Aside0 (PutX W w' gh b (.slice (some ⟨g, 0, none⟩) d.m.length d.m.length) d s ⟨fh, fs⟩))
  case atStart => exact ⟨0, rfl, ⟨by omega, Nat.zero_le _⟩, HX0⟩
  case round =>
    obtain ⟨j, rfl, HJ, HX⟩ := hrel
    have c0 := (blk_cell HX.out.rd.blk 0).trans (show _ = some (.slice (some ⟨g, 0, none⟩) d.m.length d.m.length) from rfl)
    have b0 := (blk_cell HX.out.bx 0).trans (show _ = some (Value.string s) from rfl)
    by_cases q : j < d.m.length
    · obtain ⟨kq1, rfl⟩ : ∃ kq1, gk = kq1 + 1 := ⟨gk - 1, by have := HJ.out; omega⟩
      have hj : j < d.m.length := by omega
      have hji : (j : Int) < (d.m.length : Int) := by omega
      obtain ⟨x0, -, -⟩ := cells_at HX.out.rd.row j hj
      have hbl := less_at (s := s) hj (by rw [HP.out]; exact q)
      have HQ := Aside0.mk q
      generalize (d.m[j]).1 = nm at x0 hbl
      clear q hj
      go_wp2_with fail
      go_quiet (fail)
      go_wp2_with fail
      go_roundg kq1
      case measure => omega
      case rel => exact ⟨j + 1, by go_num, ⟨by have := HJ.out; omega, by have := HQ.out; omega⟩, ⟨HX.out.drewN _⟩⟩
    · obtain rfl : j = d.m.length := by have := HJ.out; omega
      clear HX0
      go_wp2_with fail
      go_quiet (fail)
      have HX5 := Aside0.mk (HX.out.drewN nq)
      have c5 : (wr.drewN nq).cell? ⟨gh, 0, none⟩ = some (.slice (some ⟨g, 0, none⟩) d.m.length d.m.length) := c0
      have b5 : (wr.drewN nq).cell? ⟨b, 0, none⟩ = some (.string s) := b0
      skip
      clear c0 b0 HX 
      generalize wr.drewN nq = w5 at *
      go_wp2_with fail
      go_quiet (fail)
      have HX6 := Aside0.mk (HX5.out.drewN nq)
      clear c5 b5 HX5 
      generalize w5.drewN nq = w6 at *
      have c6 := (blk_cell HX6.out.rd.blk 0).trans (show _ = some (.slice (some ⟨g, 0, none⟩) d.m.length d.m.length) from rfl)
      have b60 := (blk_cell HX6.out.bx 0).trans (show _ = some (Value.string s) from rfl)
      have b61 := (blk_cell HX6.out.bx 1).trans (show _ = some (Value.string fh) from rfl)
      have b62 := (blk_cell HX6.out.bx 2).trans (show _ = some (Value.int .i64 fs) from rfl)
      go_wp2_with (
        first
        | ((with_reducible refine gate_builtin (b := .append) (xs := #[.tmp 55, .tmp 61]) rfl ?_); at_builtin; refine Kd.R_append_rows fk (Rr := fk.K w6) (w0 := W) W.heap.size rfl (.tmp 55) (.tmp 61) 61 67 (.agg #[.string ⟨#[]⟩, .string ⟨#[]⟩, .int .i64 0]) 40 rfl Try.underlying61 info67 rfl (by decide) (by decide) (.slice none 0 0) [] (d.m.take d.m.length) _ _ _ (fun _ => True) (fun _ => False) rfl rfl (Kd.R_nil _ _ _ _ _) (fk_take HX6.out.rd.row (by omega)) (fun _ _ hh => hh) (fun _ hk => hk.elim) (fun _ _ => trivial) HX6.out.be HX6.out.be.size (by simp only [List.length_nil]; omega) ?_; intro v7 w7 hr_ hb_ hg_ _; have HR7 := Aside0.mk hr_; have HB7 := Aside0.mk hb_; have hx7 := (hg_.block b (blk_lt HX6.out.bx) (fun e => by simp [Value.ownBlock] at e)).trans HX6.out.bx; have b70 := (blk_cell hx7 0).trans (show _ = some (Value.string s) from rfl); have b71 := (blk_cell hx7 1).trans (show _ = some (Value.string fh) from rfl); have b72 := (blk_cell hx7 2).trans (show _ = some (Value.int .i64 fs) from rfl); clear hr_ hb_ hg_ hx7)
        | ((with_reducible refine gate_builtin (b := .append) (xs := #[.tmp 63, .tmp 65]) rfl ?_); at_builtin; refine Kd.R_append fk (w0 := W) W.heap.size rfl (.tmp 63) (.tmp 65) 61 67 (.agg #[.string ⟨#[]⟩, .string ⟨#[]⟩, .int .i64 0]) 40 rfl Try.underlying61 info67 rfl (by decide) (by decide) _ _ (s.data.toList, ⟨fh, fs⟩) [.string s, .string fh, .int .i64 fs] (fun _ => True) (fun _ => False) rfl rfl rfl (fun _ hk => hk.elim) (fun _ _ => trivial) HR7.out HB7.out HB7.out.size (by simp only [List.nil_append, List.length_take]; omega) ?_; intro v8 w8 hr_ hb_ _ _; have HR8 := Aside0.mk hr_; have HB8 := Aside0.mk hb_; have HI8 := Aside0.mk (HI.out.move fun k hk _ => hb_.block k hk); have c8 := (blk_cell HI8.out.blk 0).trans (show _ = some (.slice (some ⟨g, 0, none⟩) d.m.length d.m.length) from rfl); clear hr_ hb_ b70 b71 b72)
        | ((with_reducible refine gate_builtin (b := .append) (xs := #[.tmp 68, .tmp 74]) rfl ?_); at_builtin; refine Kd.R_append_rows fk (Rr := fk.K w8) (w0 := W) W.heap.size rfl (.tmp 68) (.tmp 74) 61 67 (.agg #[.string ⟨#[]⟩, .string ⟨#[]⟩, .int .i64 0]) 40 rfl Try.underlying61 info67 rfl (by decide) (by decide) _ _ (d.m.drop d.m.length) _ _ _ (fun _ => True) (fun _ => False) rfl rfl HR8.out (fk_nil' (by omega) (by omega)) (fun _ _ hh => hh) (fun _ hk => hk.elim) (fun _ _ => trivial) HB8.out HB8.out.size (by simp only [List.nil_append, List.length_take, List.length_append, List.length_cons, List.length_nil]; omega) ?_; intro v9 w9 hr_ hb_ _ _; obtain ⟨A9, n9, c9, rfl⟩ := fk_slice hr_; have HR9 := Aside0.mk hr_; have HB9 := Aside0.mk hb_; have HI9 := Aside0.mk (HI.out.move fun k hk _ => hb_.block k hk); have k9 := (blk_cell HI9.out.blk 0).trans (show _ = some (.slice (some ⟨g, 0, none⟩) d.m.length d.m.length) from rfl); have f9 := blk_frozen HI9.out.blk 0; clear hr_ hb_))
      go_end0
      exact ⟨rfl, rd_end HI.out HB9.out HR9.out (by rw [HD.out.1]; simp) HD.out.2.1 HD.out.2.2.1 HD.out.2.2.2⟩
end Go.Proofs.Ytjkllbilfcopmaa.Dk
end

section
namespace Go.Proofs.Ytjkllbilfcopmaa.Dk
open Go.RowKit Go.Proofs.YtjkllbilfcopmaaW.PrintWords Go.Proofs.YtjkllbilfcopmaaW.PrintLast Go.Proofs.YtjkllbilfcopmaaW.PrintMore
set_option linter.unusedVariables false
set_option linter.unusedSimpArgs false
theorem none_of_there {d : DS} {s : ByteArray} (h : there d s = false) : FM.get d.m s.data.toList = none := by
  unfold there at h
  cases hg : FM.get d.m s.data.toList with
  | none => rfl
  | some u => rw [hg] at h; cases h
theorem RdTo.of_at {W W' : World} {gh : Nat} {v : Value} {d : DS} (i : RdAt W' gh v d) (hf : Fr (Only gh) W W') : RdTo W W' gh v.ownBlock d :=
  ⟨_, ⟨v, i, rfl⟩, hf.mono fun k hk => .inl hk, .inl rfl⟩
theorem RdTo.trans {W W1 W2 : World} {gh : Nat} {v : Value} {d d1 : DS} (i : RdAt W1 gh v d1) (hf : Fr (Only gh) W W1) (h : RdTo W1 W2 gh v.ownBlock d) : RdTo W W2 gh v.ownBlock d := by
  obtain ⟨r', h1, h2, h3⟩ := h
  refine ⟨r', h1, (hf.mono fun k hk => .inl hk).trans h2, h3.imp id fun h k hk => ?_⟩
  have := h k hk
  have := hf.size
  omega
/-- put: whatever the name. -/
theorem put_walk (W : World) (gh : Nat) (v : Value) (d : DS) (i : RdAt W gh v d) (s : ByteArray) (f : Fl) (d' : DS) (hm : d'.m = FM.put d.m s.data.toList f) (hd : rl d' = rl d ∧ d'.down = d.down) (hf : Fine d') :
    Calls Try.prog 45 #[.pointer (some ⟨gh, 0, none⟩), .agg #[.string s, .string f.has, .int .i64 f.safe]] W fun e W' => e = .returned (.tuple #[]) ∧ RdTo W W' gh v.ownBlock d' := by
  cases hu : FM.get d.m s.data.toList with
  | some u => exact (put_old_walk W gh v d i s f u hu d' hm hd hf).mono fun e W' h => ⟨h.1, _, ⟨v, h.2.1, rfl⟩, h.2.2, .inl rfl⟩
  | none =>
    have hs : FL.St d'.m := by rw [hm]; exact i.st.put _ _
    rw [FL.put_new i.st _ _ hu] at hm
    obtain ⟨fh, fs⟩ := f
    have fin : ∀ e W', PutPost W gh d' e W' → e = .returned (.tuple #[]) ∧ RdTo W W' gh v.ownBlock d' := fun e W' ⟨h1, v', h2, h3, h4⟩ => ⟨h1, _, ⟨v', h2, rfl⟩, h3.mono fun k hk => .inl hk, .inr h4⟩
    rcases row_two i.row with ⟨rfl, hz⟩ | ⟨g, c, rfl, hc, hcm⟩
    · exact (put_new_none W gh d i s fh fs _ rfl hu hz d' hm hd hf hs).mono fin
    · have hle := FL.pl_le d.m s.data.toList
      by_cases hp : FL.pl d.m s.data.toList < d.m.length
      · exact (put_new_mid W gh d g c hc hcm i s fh fs _ rfl hu hp d' hm hd hf hs).mono fin
      · have hp' : FL.pl d.m s.data.toList = d.m.length := by omega
        by_cases hca : d.m.length < c
        · exact (put_new_end1 W gh d g c hc hcm i s fh fs _ rfl hu hp' hca d' hm hd hf hs).mono fin
        · obtain rfl : c = d.m.length := by omega
          exact (put_new_end0 W gh d g hcm i s fh fs _ rfl hu hp' d' hm hd hf hs).mono fin
theorem app_nil (t : ByteArray) : (ByteArray.empty ++ t) = t := by simp
theorem cell_alloc {W : World} {a : Addr} {v : Value} (o : Obj) (h : W.cell? a = some v) : (W.alloc o).cell? a = some v := (World.cell?_alloc_lt _ _ _ (World.block_lt_of_cell? _ _ h)).trans h
/-- The file in the local variable f. -/
structure FBox (W : World) (b : Nat) (s : ByteArray) (fh : ByteArray) (fs : Int) : Prop where
  blk : W.heap[b]? = some (.cells #[.string s, .string fh, .int .i64 fs] 67 (0, 0))
theorem FBox.fr {W W1 : World} {b : Nat} {s fh : ByteArray} {fs : Int} {S : Nat → Prop} (x : FBox W b s fh fs) (hf : Fr S W W1) (hn : ¬ S b) : FBox W1 b s fh fs := ⟨(hf.block b (blk_lt x.blk) hn).trans x.blk⟩
theorem RdAt.far {W : World} {gh : Nat} {v : Value} {d : DS} (i : RdAt W gh v d) (p : Addr) (u : Value) (hp : ∀ k, HR gh v.ownBlock k → k ≠ p.block) : RdAt (W.setCell p u) gh v d :=
  i.move fun k _ hk => Below.heap_setCell W p u k (hp k hk)
theorem RdAt.old {W W1 : World} {gh : Nat} {v : Value} {d : DS} (i : RdAt W gh v d) : ∀ k, HR gh v.ownBlock k → k < W.heap.size := fun k hk => by
  rcases hk with rfl | hk
  · exact i.lt
  · exact Kd.R_lt i.row k hk
set_option maxRecDepth 100000 in
set_option maxHeartbeats 4000000 in
theorem rapp_there (W : World) (gh : Nat) (v : Value) (d : DS) (i : RdAt W gh v d) (s t : ByteArray) (ht : t.size ≤ 140737488351232) (hn : nameOk s = true) (u : Fl) (hu : FM.get d.m s.data.toList = some u) :
    Calls Try.prog 29 #[.pointer (some ⟨gh, 0, none⟩), .string s, .string t] W fun e W' => e = .returned (.int .i64 (append d s t).2) ∧ RdTo W W' gh v.ownBlock (append d s t).1 := by
  have HF := Aside0.mk (append_fine i.fine s t)
  have hfile : file d s = u := by unfold file; rw [hu]; rfl
  have hth : there d s = true := by unfold there; rw [hu]; rfl
  have huf := i.fine.fls _ (FM.mem_of_get hu)
  simp only at huf
  obtain ⟨uh, us⟩ := u
  simp only at huf
  obtain ⟨p, hp, hmp, hpl⟩ : ∃ p, ∃ hp : p < d.m.length, d.m[p] = (s.data.toList, ⟨uh, us⟩) ∧ FL.pl d.m s.data.toList = p := by
    obtain ⟨hp, e⟩ := there_pl i.st hu
    exact ⟨_, hp, e, rfl⟩
  have HP := Aside0.mk (And.intro hmp hpl)
  obtain ⟨A, c, rfl, hc, hcm, hat⟩ := row_shape i.row
  obtain ⟨g, rfl, -⟩ := hat p hp
  have hlen := i.fine.many
  have HI := Aside0.mk i
  have HN := Aside0.mk hn
  have HU := Aside0.mk hu
  have q1 : (p : Int) < (d.m.length : Int) := by omega
  have q2 : (d.m.length : Int) ≤ (c : Int) := by omega
  have hA : append d s t = if 262144 < uh.size + t.size then (d, 2) else if d.ok = false then (d.chg, 11) else ({ d.chg with m := FM.put d.m s.data.toList ⟨uh ++ t, us⟩ }, 0) := by
    unfold append
    rw [hn, hth, hfile]
    simp
  have HAp := Aside0.mk hA
  obtain ⟨-, -, huh, -⟩ := huf
  have hj : ¬ 9223372036854775807 < uh.size + t.size := by omega
  clear i hn hu hmp hpl hat hA hfile hth
  have pro : ∀ (w1 : World), Below W.heap.size W w1 → RdAt w1 gh (.slice (some ⟨g, 0, none⟩) d.m.length c) d := fun w1 hB => HI.out.move fun k hk _ => hB.block k hk
  have HPr := Aside0.mk pro
  clear pro
  by_cases hbig : 262144 < uh.size + t.size
  · have q3 : (262144 : Int) < (uh.size : Int) + (t.size : Int) := by omega
    rw [HAp.out, if_pos hbig]
    clear hbig
    go_enter Try.func29, Try.ntmps29
    go_wp2_with fail
    refine (named_walk s W).mono ?_
    rw [HN.out]
    rintro e w1 ⟨rfl, hB⟩
    have HB := Aside0.mk hB
    have HI1 := Aside0.mk (HPr.out w1 hB)
    clear hB
    go_wp2_with fail
    refine (find_there w1 gh _ d HI1.out s _ HU.out).mono ?_
    rw [HP.out.2]
    rintro e w2 ⟨rfl, rfl⟩
    obtain ⟨x0, x1, x2⟩ := cells_at HI1.out.row p hp
    rw [HP.out.1] at x0 x1 x2
    rw [key_eq rfl] at x0
    simp only at x1 x2
    have c0 := (blk_cell HI1.out.blk 0).trans (show _ = some (Value.slice (some ⟨g, 0, none⟩) d.m.length c) from rfl)
    have y0 := cell_alloc (.cells #[.string s, .string ⟨#[]⟩, .int .i64 0] 67) x0
    have y1 := cell_alloc (.cells #[.string s, .string ⟨#[]⟩, .int .i64 0] 67) x1
    have y2 := cell_alloc (.cells #[.string s, .string ⟨#[]⟩, .int .i64 0] 67) x2
    have d0 := cell_alloc (.cells #[.string s, .string ⟨#[]⟩, .int .i64 0] 67) c0
    clear x0 x1 x2 c0
    go_wp2_with fail
    go_ret
    refine ⟨rfl, RdTo.of_at (HI1.out.move fun k hk _ => (below_alloc (Below.refl w1.heap.size w1) _).block k hk) ((Fr.of_below HB.out).alloc _)⟩
  · have q3 : ¬ (262144 : Int) < (uh.size : Int) + (t.size : Int) := by omega
    have hA2 : append d s t = if d.ok = false then (d.chg, 11) else ({ d.chg with m := FM.put d.m s.data.toList ⟨uh ++ t, us⟩ }, 0) := by rw [HAp.out, if_neg hbig]
    clear HAp hbig
    cases hok : d.ok with
    | true =>
      rw [hok, if_neg (by decide)] at hA2
      rw [hA2] at HF ⊢
      have HOk := Aside0.mk hok
      clear hok hA2
      go_enter Try.func29, Try.ntmps29
      go_wp2_with fail
      refine (named_walk s W).mono ?_
      rw [HN.out]
      rintro e w1 ⟨rfl, hB⟩
      have HB := Aside0.mk hB
      have HI1 := Aside0.mk (HPr.out w1 hB)
      clear hB
      go_wp2_with fail
      refine (find_there w1 gh _ d HI1.out s _ HU.out).mono ?_
      rw [HP.out.2]
      rintro e w2 ⟨rfl, rfl⟩
      obtain ⟨x0, x1, x2⟩ := cells_at HI1.out.row p hp
      rw [HP.out.1] at x0 x1 x2
      rw [key_eq rfl] at x0
      simp only at x1 x2
      have c0 := (blk_cell HI1.out.blk 0).trans (show _ = some (Value.slice (some ⟨g, 0, none⟩) d.m.length c) from rfl)
      have y0 := cell_alloc (.cells #[.string s, .string ⟨#[]⟩, .int .i64 0] 67) x0
      have y1 := cell_alloc (.cells #[.string s, .string ⟨#[]⟩, .int .i64 0] 67) x1
      have y2 := cell_alloc (.cells #[.string s, .string ⟨#[]⟩, .int .i64 0] 67) x2
      have d0 := cell_alloc (.cells #[.string s, .string ⟨#[]⟩, .int .i64 0] 67) c0
      clear x0 x1 x2 c0
      go_wp2_with fail
      refine (rchg_walk _ gh _ d (HI1.out.move fun k hk _ => (below_alloc (Below.refl w1.heap.size w1) _).block k hk)).mono ?_
      rw [HOk.out]
      rintro e w4 ⟨rfl, hI4, hF4⟩
      have hb1 := HB.out.size
      have HX4 := Aside0.mk (FBox.fr (⟨heap_alloc_new w1 _⟩ : FBox (w1.alloc (.cells #[.string s, .string uh, .int .i64 us] 67)) w1.heap.size s uh us) hF4 (by have := HI.out.lt; unfold Only; omega))
      have HF4 := Aside0.mk (((Fr.of_below (S := Only gh) HB.out).alloc _).trans hF4)
      have HI4 := Aside0.mk hI4
      obtain ⟨b, hb⟩ : ∃ b, w1.heap.size = b := ⟨_, rfl⟩
      have hbW : W.heap.size ≤ b := by omega
      clear y0 y1 y2 d0 hI4 hF4 hb1
      rw [hb] at HX4
      have b40 := (blk_cell HX4.out.blk 0).trans (show _ = some (Value.string s) from rfl)
      have b41 := (blk_cell HX4.out.blk 1).trans (show _ = some (Value.string uh) from rfl)
      have b42 := (blk_cell HX4.out.blk 2).trans (show _ = some (Value.int .i64 us) from rfl)
      have f4 := blk_frozen HX4.out.blk 1
      go_wp2_with fail
      have HI5 := Aside0.mk (HI4.out.far ⟨b, 1, none⟩ (.string (uh ++ t)) fun k hk => by have := HI.out.old (W1 := W) k hk; simp only; omega)
      have HF5 := Aside0.mk (HF4.out.set (p := ⟨b, 1, none⟩) (.inr hbW) (.string (uh ++ t)))
      refine (put_walk _ gh _ d.chg HI5.out s ⟨uh ++ t, us⟩ { d.chg with m := FM.put d.m s.data.toList ⟨uh ++ t, us⟩ } (by rw [chg_m]) ⟨rfl, rfl⟩ HF.out).mono ?_
      rintro e w6 ⟨rfl, hT⟩
      have HT := Aside0.mk (RdTo.trans HI5.out HF5.out hT)
      clear hT b40 b41 b42 f4
      go_wp2_with fail
      go_ret
      exact ⟨rfl, HT.out⟩
    | false =>
      rw [hok, if_pos rfl] at hA2
      rw [hA2]
      have HOk := Aside0.mk hok
      clear hok hA2
      go_enter Try.func29, Try.ntmps29
      go_wp2_with fail
      refine (named_walk s W).mono ?_
      rw [HN.out]
      rintro e w1 ⟨rfl, hB⟩
      have HB := Aside0.mk hB
      have HI1 := Aside0.mk (HPr.out w1 hB)
      clear hB
      go_wp2_with fail
      refine (find_there w1 gh _ d HI1.out s _ HU.out).mono ?_
      rw [HP.out.2]
      rintro e w2 ⟨rfl, rfl⟩
      obtain ⟨x0, x1, x2⟩ := cells_at HI1.out.row p hp
      rw [HP.out.1] at x0 x1 x2
      rw [key_eq rfl] at x0
      simp only at x1 x2
      have c0 := (blk_cell HI1.out.blk 0).trans (show _ = some (Value.slice (some ⟨g, 0, none⟩) d.m.length c) from rfl)
      have y0 := cell_alloc (.cells #[.string s, .string ⟨#[]⟩, .int .i64 0] 67) x0
      have y1 := cell_alloc (.cells #[.string s, .string ⟨#[]⟩, .int .i64 0] 67) x1
      have y2 := cell_alloc (.cells #[.string s, .string ⟨#[]⟩, .int .i64 0] 67) x2
      have d0 := cell_alloc (.cells #[.string s, .string ⟨#[]⟩, .int .i64 0] 67) c0
      clear x0 x1 x2 c0
      go_wp2_with fail
      refine (rchg_walk _ gh _ d (HI1.out.move fun k hk _ => (below_alloc (Below.refl w1.heap.size w1) _).block k hk)).mono ?_
      rw [HOk.out]
      rintro e w4 ⟨rfl, hI4, hF4⟩
      have hb1 := HB.out.size
      have HX4 := Aside0.mk (FBox.fr (⟨heap_alloc_new w1 _⟩ : FBox (w1.alloc (.cells #[.string s, .string uh, .int .i64 us] 67)) w1.heap.size s uh us) hF4 (by have := HI.out.lt; unfold Only; omega))
      have HF4 := Aside0.mk (((Fr.of_below (S := Only gh) HB.out).alloc _).trans hF4)
      have HI4 := Aside0.mk hI4
      obtain ⟨b, hb⟩ : ∃ b, w1.heap.size = b := ⟨_, rfl⟩
      have hbW : W.heap.size ≤ b := by omega
      clear y0 y1 y2 d0 hI4 hF4 hb1
      rw [hb] at HX4
      go_wp2_with fail
      go_ret
      exact ⟨rfl, RdTo.of_at HI4.out HF4.out⟩
end Go.Proofs.Ytjkllbilfcopmaa.Dk
end

section
namespace Go.Proofs.Ytjkllbilfcopmaa.Dk
open Go.RowKit Go.Proofs.YtjkllbilfcopmaaW.PrintWords Go.Proofs.YtjkllbilfcopmaaW.PrintLast Go.Proofs.YtjkllbilfcopmaaW.PrintMore
set_option linter.unusedVariables false
set_option linter.unusedSimpArgs false
def nilB : ByteArray := ⟨#[]⟩
theorem app_none {d : DS} {s t : ByteArray} (hn : nameOk s = true) (hu : FM.get d.m s.data.toList = none) : append d s t = if 262144 < t.size then (d, 2) else if 64 ≤ d.m.length then (d, 2) else if d.ok = false then (d.chg, 11) else ({ d.chg with m := FM.put d.m s.data.toList ⟨t, 0⟩ }, 0) := by
  have hfile : file d s = z0 := by unfold file; rw [hu]; rfl
  have hth : there d s = false := by unfold there; rw [hu]; rfl
  unfold append
  rw [hn, hth, hfile]
  have e : z0.has.size + t.size = t.size := by show 0 + t.size = _; omega
  have e2 : z0.has ++ t = t := app_nil t
  rw [e, e2]
  simp [z0]
theorem len_string (t : ByteArray) : ((⟨#[]⟩ : ByteArray) ++ t) = t := app_nil t
set_option maxRecDepth 100000 in
set_option maxHeartbeats 4000000 in
theorem rapp_none (W : World) (gh : Nat) (v : Value) (d : DS) (i : RdAt W gh v d) (s t : ByteArray) (ht : t.size ≤ 140737488351232) (hn : nameOk s = true) (hu : FM.get d.m s.data.toList = none) :
    Calls Try.prog 29 #[.pointer (some ⟨gh, 0, none⟩), .string s, .string t] W fun e W' => e = .returned (.int .i64 (append d s t).2) ∧ RdTo W W' gh v.ownBlock (append d s t).1 := by
  have HF := Aside0.mk (append_fine i.fine s t)
  obtain ⟨A, c, rfl, hc, hcm, hat⟩ := row_shape i.row
  have hlen := i.fine.many
  have HI := Aside0.mk i
  have HN := Aside0.mk hn
  have HU := Aside0.mk hu
  have hA := app_none (t := t) hn hu
  have hj : ¬ 9223372036854775807 < (⟨#[]⟩ : ByteArray).size + t.size := by show ¬ 9223372036854775807 < 0 + t.size; omega
  have HPr := Aside0.mk (show ∀ (w1 : World), Below W.heap.size W w1 → RdAt w1 gh (.slice A d.m.length c) d from fun w1 hB => HI.out.move fun k hk _ => hB.block k hk)
  clear i hn hu hat
  by_cases hbig : 262144 < t.size
  · rw [if_pos hbig] at hA
    rw [hA]
    have q3 : (262144 : Int) < (t.size : Int) := by omega
    clear hbig hA
    go_enter Try.func29, Try.ntmps29
    go_wp2_with fail
    refine (named_walk s W).mono ?_
    rw [HN.out]
    rintro e w1 ⟨rfl, hB⟩
    have HB := Aside0.mk hB
    have HI1 := Aside0.mk (HPr.out w1 hB)
    clear hB
    go_wp2_with fail
    refine (find_none w1 gh _ d HI1.out s HU.out).mono ?_
    rintro e w2 ⟨rfl, rfl⟩
    have c0 := (blk_cell HI1.out.blk 0).trans (show _ = some (Value.slice A d.m.length c) from rfl)
    have d0 := cell_alloc (.cells #[.string s, .string ⟨#[]⟩, .int .i64 0] 67) c0
    clear c0
    go_wp2_with fail
    go_ret
    exact ⟨rfl, RdTo.of_at (HI1.out.move fun k hk _ => (below_alloc (Below.refl w1.heap.size w1) _).block k hk) ((Fr.of_below HB.out).alloc _)⟩
  · rw [if_neg hbig] at hA
    have q3 : ¬ (262144 : Int) < (t.size : Int) := by omega
    by_cases hfull : 64 ≤ d.m.length
    · rw [if_pos hfull] at hA
      rw [hA]
      have q4 : (64 : Int) ≤ (d.m.length : Int) := by omega
      clear hbig hA hfull
      go_enter Try.func29, Try.ntmps29
      go_wp2_with fail
      refine (named_walk s W).mono ?_
      rw [HN.out]
      rintro e w1 ⟨rfl, hB⟩
      have HB := Aside0.mk hB
      have HI1 := Aside0.mk (HPr.out w1 hB)
      clear hB
      go_wp2_with fail
      refine (find_none w1 gh _ d HI1.out s HU.out).mono ?_
      rintro e w2 ⟨rfl, rfl⟩
      have c0 := (blk_cell HI1.out.blk 0).trans (show _ = some (Value.slice A d.m.length c) from rfl)
      have d0 := cell_alloc (.cells #[.string s, .string ⟨#[]⟩, .int .i64 0] 67) c0
      clear c0
      go_wp2_with fail
      go_ret
      exact ⟨rfl, RdTo.of_at (HI1.out.move fun k hk _ => (below_alloc (Below.refl w1.heap.size w1) _).block k hk) ((Fr.of_below HB.out).alloc _)⟩
    · rw [if_neg hfull] at hA
      have q4 : ¬ (64 : Int) ≤ (d.m.length : Int) := by omega
      clear hbig hfull
      cases hok : d.ok with
      | true =>
        rw [hok, if_neg (by decide)] at hA
        rw [hA] at HF ⊢
        have HOk := Aside0.mk hok
        clear hok hA
        go_enter Try.func29, Try.ntmps29
        go_wp2_with fail
        refine (named_walk s W).mono ?_
        rw [HN.out]
        rintro e w1 ⟨rfl, hB⟩
        have HB := Aside0.mk hB
        have HI1 := Aside0.mk (HPr.out w1 hB)
        clear hB
        go_wp2_with fail
        refine (find_none w1 gh _ d HI1.out s HU.out).mono ?_
        rintro e w2 ⟨rfl, rfl⟩
        have c0 := (blk_cell HI1.out.blk 0).trans (show _ = some (Value.slice A d.m.length c) from rfl)
        have d0 := cell_alloc (.cells #[.string s, .string ⟨#[]⟩, .int .i64 0] 67) c0
        clear c0
        go_wp2_with fail
        refine (rchg_walk _ gh _ d (HI1.out.move fun k hk _ => (below_alloc (Below.refl w1.heap.size w1) _).block k hk)).mono ?_
        rw [HOk.out]
        rintro e w4 ⟨rfl, hI4, hF4⟩
        have hb1 := HB.out.size
        have HX4 := Aside0.mk (FBox.fr (⟨heap_alloc_new w1 _⟩ : FBox (w1.alloc (.cells #[.string s, .string ⟨#[]⟩, .int .i64 0] 67)) w1.heap.size s ⟨#[]⟩ 0) hF4 (by have := HI.out.lt; unfold Only; omega))
        have HF4 := Aside0.mk (((Fr.of_below (S := Only gh) HB.out).alloc _).trans hF4)
        have HI4 := Aside0.mk hI4
        obtain ⟨b, hb⟩ : ∃ b, w1.heap.size = b := ⟨_, rfl⟩
        have hbW : W.heap.size ≤ b := by omega
        clear d0 hI4 hF4 hb1
        rw [hb] at HX4
        have b40 := (blk_cell HX4.out.blk 0).trans (show _ = some (Value.string s) from rfl)
        have b41 := (blk_cell HX4.out.blk 1).trans (show _ = some (Value.string ⟨#[]⟩) from rfl)
        have b42 := (blk_cell HX4.out.blk 2).trans (show _ = some (Value.int .i64 0) from rfl)
        have f4 := blk_frozen HX4.out.blk 1
        have hcat := len_string t
        go_wp2_with fail
        have HI5 := Aside0.mk (HI4.out.far ⟨b, 1, none⟩ (.string t) fun k hk => by have := HI.out.old (W1 := W) k hk; simp only; omega)
        have HF5 := Aside0.mk (HF4.out.set (p := ⟨b, 1, none⟩) (.inr hbW) (.string t))
        refine (put_walk _ gh _ d.chg HI5.out s ⟨t, 0⟩ { d.chg with m := FM.put d.m s.data.toList ⟨t, 0⟩ } (by rw [chg_m]) ⟨rfl, rfl⟩ HF.out).mono ?_
        rintro e w6 ⟨rfl, hT⟩
        have HT := Aside0.mk (RdTo.trans HI5.out HF5.out hT)
        clear hT b40 b41 b42 f4
        go_wp2_with fail
        go_ret
        exact ⟨rfl, HT.out⟩
      | false =>
        rw [hok, if_pos rfl] at hA
        rw [hA]
        have HOk := Aside0.mk hok
        clear hok hA
        go_enter Try.func29, Try.ntmps29
        go_wp2_with fail
        refine (named_walk s W).mono ?_
        rw [HN.out]
        rintro e w1 ⟨rfl, hB⟩
        have HB := Aside0.mk hB
        have HI1 := Aside0.mk (HPr.out w1 hB)
        clear hB
        go_wp2_with fail
        refine (find_none w1 gh _ d HI1.out s HU.out).mono ?_
        rintro e w2 ⟨rfl, rfl⟩
        have c0 := (blk_cell HI1.out.blk 0).trans (show _ = some (Value.slice A d.m.length c) from rfl)
        have d0 := cell_alloc (.cells #[.string s, .string ⟨#[]⟩, .int .i64 0] 67) c0
        clear c0
        go_wp2_with fail
        refine (rchg_walk _ gh _ d (HI1.out.move fun k hk _ => (below_alloc (Below.refl w1.heap.size w1) _).block k hk)).mono ?_
        rw [HOk.out]
        rintro e w4 ⟨rfl, hI4, hF4⟩
        have hb1 := HB.out.size
        have HX4 := Aside0.mk (FBox.fr (⟨heap_alloc_new w1 _⟩ : FBox (w1.alloc (.cells #[.string s, .string ⟨#[]⟩, .int .i64 0] 67)) w1.heap.size s ⟨#[]⟩ 0) hF4 (by have := HI.out.lt; unfold Only; omega))
        have HF4 := Aside0.mk (((Fr.of_below (S := Only gh) HB.out).alloc _).trans hF4)
        have HI4 := Aside0.mk hI4
        obtain ⟨b, hb⟩ : ∃ b, w1.heap.size = b := ⟨_, rfl⟩
        have hbW : W.heap.size ≤ b := by omega
        clear d0 hI4 hF4 hb1
        rw [hb] at HX4
        go_wp2_with fail
        go_ret
        exact ⟨rfl, RdTo.of_at HI4.out HF4.out⟩
/-- Append. -/
theorem rapp_walk (W : World) (gh : Nat) (r : Option Nat) (d : DS) (i : IsRd W gh r d) (s t : ByteArray) (ht : t.size ≤ 140737488351232) :
    Calls Try.prog 29 #[.pointer (some ⟨gh, 0, none⟩), .string s, .string t] W fun e W' => e = .returned (.int .i64 (append d s t).2) ∧ RdTo W W' gh r (append d s t).1 := by
  obtain ⟨v, i, rfl⟩ := i
  cases hn : nameOk s with
  | true =>
    cases hu : FM.get d.m s.data.toList with
    | none => exact rapp_none W gh v d i s t ht hn hu
    | some u => exact rapp_there W gh v d i s t ht hn u hu
  | false =>
    have hA : append d s t = (d, 10) := by unfold append; rw [hn]; rfl
    rw [hA]
    have HI := Aside0.mk i
    have HN := Aside0.mk hn
    clear i hn hA
    go_enter Try.func29, Try.ntmps29
    go_wp2_with fail
    refine (named_walk s W).mono ?_
    rw [HN.out]
    rintro e w1 ⟨rfl, hB⟩
    have HB := Aside0.mk hB
    clear hB
    go_wp2_with fail
    go_ret
    exact ⟨rfl, RdTo.of_at (HI.out.move fun k hk _ => HB.out.block k hk) (Fr.of_below HB.out)⟩
end Go.Proofs.Ytjkllbilfcopmaa.Dk
end

section
namespace Go.Proofs.Ytjkllbilfcopmaa.Dk
open Go.RowKit Go.Proofs.YtjkllbilfcopmaaW.PrintWords Go.Proofs.YtjkllbilfcopmaaW.PrintLast Go.Proofs.YtjkllbilfcopmaaW.PrintMore
set_option linter.unusedVariables false
set_option linter.unusedSimpArgs false
/-- What a name that must be there comes to, two ways. -/
theorem known_two (d : DS) (s : ByteArray) (hs : FL.St d.m) : (∃ e, (known d s).2 = e ∧ e ≠ 0 ∧ (altered d s).2.2 = e ∧ (altered d s).1 = d) ∨
    (∃ u p, ∃ hp : p < d.m.length, FM.get d.m s.data.toList = some u ∧ nameOk s = true ∧ (known d s).2 = 0 ∧ rplace d s = p ∧ d.m[p] = (s.data.toList, u) ∧ FL.pl d.m s.data.toList = p ∧ file d s = u ∧ altered d s = (d.chg, u, if d.ok then 0 else 11)) := by
  by_cases h : (known d s).2 = 0
  · right
    obtain ⟨hn, ht⟩ := known_zero.1 h
    have ht' := ht
    unfold there at ht
    obtain ⟨u, hu⟩ := Option.isSome_iff_exists.1 ht
    obtain ⟨hp, e⟩ := there_pl hs hu
    have hf : file d s = u := by unfold file; rw [hu]; rfl
    refine ⟨u, _, hp, hu, hn, h, by unfold rplace; rw [if_pos h], e, rfl, hf, ?_⟩
    unfold altered
    rw [if_pos h]
    have : (known d s).1 = u := by unfold known; rw [hn, ht', hf]; rfl
    rw [this]
  · left
    refine ⟨_, rfl, h, ?_, ?_⟩ <;> (unfold altered; rw [if_neg h])
theorem fine_del {d : DS} (h : Fine d) (k : FM.Key) : Fine { d.chg with m := FM.del d.m k } := ⟨fun p hp => h.fls p (FM.mem_del.1 hp).1, Nat.le_trans (FM.len_del _ _) h.many, (h.chg).left⟩
theorem st_del {d : DS} (h : FL.St d.m) (k : FM.Key) : FL.St ({ d.chg with m := FM.del d.m k } : DS).m := h.del k
theorem del_del (m : Fs) (k : FM.Key) : FM.del (FM.del m k) k = FM.del m k := FL.del_none (FM.get_del_same m k)
theorem put_back {m : Fs} (hs : FL.St m) {k : FM.Key} {u : Fl} (h : FM.get m k = some u) : FM.put (FM.del m k) k u = m := by
  obtain ⟨hp, e⟩ := there_pl hs h
  have e1 : FM.put (FM.del m k) k u = FM.put m k u := by unfold FM.put; rw [del_del]
  rw [e1, FL.put_old hs k u u h, ← e, ← List.drop_eq_getElem_cons hp, List.take_append_drop]
theorem slice_shape {W : World} {gh : Nat} {v : Value} {d : DS} (i : RdAt W gh v d) (h : 0 < d.m.length) : ∃ g c, v = .slice (some ⟨g, 0, none⟩) d.m.length c ∧ d.m.length ≤ c ∧ c ≤ 9223372036854775807 := by
  rcases row_two i.row with ⟨rfl, hz⟩ | h2
  · omega
  · exact h2
theorem slice_shape_n {W : World} {gh : Nat} {v : Value} {d : DS} (n : Nat) (i : RdAt W gh v d) (hn : d.m.length = n) (h : 0 < n) : ∃ g c, v = .slice (some ⟨g, 0, none⟩) n c ∧ n ≤ c ∧ c ≤ 9223372036854775807 := by
  subst hn
  exact slice_shape i h
set_option maxRecDepth 100000 in
set_option maxHeartbeats 4000000 in
theorem rsync_walk (W : World) (gh : Nat) (r : Option Nat) (d : DS) (i : IsRd W gh r d) (s : ByteArray) :
    Calls Try.prog 30 #[.pointer (some ⟨gh, 0, none⟩), .string s] W fun e W' => e = .returned (.int .i64 (sync d s).2) ∧ RdTo W W' gh r (sync d s).1 := by
  obtain ⟨v, i, rfl⟩ := i
  have HI := Aside0.mk i
  have HF := Aside0.mk (sync_fine i.fine s)
  have hst := i.st
  have hlen := i.fine.many
  clear i
  rcases known_two d s hst with ⟨e2, hk, hz, ha2, ha1⟩ | ⟨u, p, hp, hu, hn, hk, hrp, hmp, hpl, hfile, halt⟩
  · have hS : sync d s = (d, e2) := by unfold sync; rw [ha2, if_neg hz, ha1]
    rw [hS]
    have HK := Aside0.mk hk
    have zb : (e2 == 0) = false := by simpa using hz
    have zb2 : (e2 != 0) = true := by simp [hz]
    clear hk hz ha2 ha1 hS hst HF
    go_enter Try.func30, Try.ntmps30
    go_wp2_with fail
    refine (rknown_walk W gh v d HI.out s).mono ?_
    rw [HK.out]
    rintro e w1 ⟨rfl, hB⟩
    have HB := Aside0.mk hB
    clear hB
    go_wp2_with fail
    go_ret
    exact ⟨rfl, RdTo.of_at (HI.out.move fun k hk _ => HB.out.block k hk) (Fr.of_below HB.out)⟩
  · have HK := Aside0.mk hk
    have HRp := Aside0.mk hrp
    have HP := Aside0.mk (And.intro hmp hpl)
    have HU := Aside0.mk hu
    have HPr := Aside0.mk (show ∀ (w1 : World), Below W.heap.size W w1 → RdAt w1 gh v d from fun w1 hB => HI.out.move fun k hk _ => hB.block k hk)
    cases hok : d.ok with
    | false =>
      have hS : sync d s = (d.chg, 11) := by unfold sync; rw [halt, hok]; rfl
      rw [hS]
      have HOk := Aside0.mk hok
      clear hk hrp hmp hpl hu hn halt hS hst HF hok
      go_enter Try.func30, Try.ntmps30
      go_wp2_with fail
      refine (rknown_walk W gh v d HI.out s).mono ?_
      rw [HK.out, HRp.out]
      rintro e w1 ⟨rfl, hB⟩
      have HB := Aside0.mk hB
      have HI1 := Aside0.mk (HPr.out w1 hB)
      clear hB
      go_wp2_with fail
      refine (rchg_walk w1 gh v d HI1.out).mono ?_
      rw [HOk.out]
      rintro e w2 ⟨rfl, hI2, hF2⟩
      have HI2 := Aside0.mk hI2
      have HF2 := Aside0.mk ((Fr.of_below (S := Only gh) HB.out).trans hF2)
      clear hI2 hF2
      go_wp2_with fail
      go_ret
      exact ⟨rfl, RdTo.of_at HI2.out HF2.out⟩
    | true =>
      have hS : sync d s = ({ d.chg with m := FM.put d.m s.data.toList ⟨u.has, (u.has.size : Int)⟩ }, 0) := by unfold sync; rw [halt, hok, hfile]; rfl
      rw [hS] at HF ⊢
      have HOk := Aside0.mk hok
      clear hk hrp hmp hpl hu hn halt hS hst hok hfile
      go_enter Try.func30, Try.ntmps30
      go_wp2_with fail
      refine (rknown_walk W gh v d HI.out s).mono ?_
      rw [HK.out, HRp.out]
      rintro e w1 ⟨rfl, hB⟩
      have HB := Aside0.mk hB
      have HI1 := Aside0.mk (HPr.out w1 hB)
      clear hB
      go_wp2_with fail
      refine (rchg_walk w1 gh v d HI1.out).mono ?_
      rw [HOk.out]
      rintro e w2 ⟨rfl, hI2, hF2⟩
      have HI2 := Aside0.mk hI2
      have HF2 := Aside0.mk ((Fr.of_below (S := Only gh) HB.out).trans hF2)
      clear hI2 hF2
      obtain ⟨g, c, rfl, hc, hcm⟩ := slice_shape_n d.m.length HI2.out (by rw [chg_m]) (by omega)
      obtain ⟨uh, us⟩ := u
      have HI3 := Aside0.mk (show RdAt ({ w2 with drawn := w2.drawn + 1 } : World) gh (.slice (some ⟨g, 0, none⟩) d.m.length c) d.chg from HI2.out.move fun k hk _ => rfl)
      have HF3 := Aside0.mk (show Fr (Only gh) W ({ w2 with drawn := w2.drawn + 1 } : World) from HF2.out.drew)
      obtain ⟨x0, x1, x2⟩ := cells_at HI3.out.row p (by rw [chg_m]; exact hp)
      have c3 := (blk_cell HI3.out.blk 0).trans (show _ = some (Value.slice (some ⟨g, 0, none⟩) d.m.length c) from rfl)
      have hmc : d.chg.m = d.m := chg_m d
      have e1 : d.chg.m[p]'(by rw [chg_m]; exact hp) = (s.data.toList, ⟨uh, us⟩) := by
        have := HP.out.1
        simp only [hmc]
        exact this
      rw [e1] at x0 x1 x2
      simp only at x1 x2
      have q1 : (p : Int) < (d.m.length : Int) := by omega
      have HMc := Aside0.mk hmc
      clear x0 x2 e1 hmc
      go_wp2_with fail
      refine wp_region_still_tail 16 (by kernel_rfl) (by kernel_rfl) ?_
      simp only [List.take_succ_cons, List.take_zero, List.drop_succ_cons, List.drop_zero]
      generalize ({ w2 with drawn := w2.drawn + 1 } : World) = w3 at *
      repeat still_step
      refine wpStill_nil ?_
      have hrow := HI3.out.row
      rw [HMc.out] at hrow
      obtain ⟨cs, hl, hM, hcc, -⟩ := Kd.R_elem hrow (s.data.toList, ⟨uh, us⟩) (p : Int) (by omega) (by omega)
      have hcs : cs = fcells (s.data.toList, ⟨uh, us⟩) := by
        have h1 : cs = fcells (d.m.getD ((p : Int).toNat) (s.data.toList, ⟨uh, us⟩)) := hM
        rw [h1, Int.toNat_natCast, List.getD_eq_getElem?_getD, List.getElem?_eq_getElem hp, HP.out.1]
        rfl
      refine Kd.R_store fk (w0 := w3) (o' := p * 3 + 2) 0 rfl rfl 3 (.tmp 34) (.tmp 32) rfl 67 (p : Int) 2 d.m (s.data.toList, ⟨uh, (uh.size : Int)⟩) (.int .i64 (uh.size : Int)) [.int .i64 (uh.size : Int)] cs (fun _ => True) (fun _ => False) ?ha ?ho rfl rfl (by kernel_rfl) ?h1 hrow (by omega) (by omega) hl hcc (Nat.le_refl 3) ?hM (fun _ hk => hk.elim) (below_zero _) ?_
      case ha => first | rfl | simp [go_sem]
      case ho => show p * 3 + 2 = ((p : Int).toNat) * 3 + 2; omega
      case h1 => intro q hq; simp only [List.mem_cons, List.not_mem_nil, or_false] at hq; rcases hq with rfl; rfl
      case hM => rw [hcs]; rfl
      intro w4 hr4 _ hg4
      have HE := Aside0.mk (rd_store (d' := { d.chg with m := FM.put d.m s.data.toList ⟨uh, (uh.size : Int)⟩ }) HI3.out hr4 hg4 rfl ⟨rfl, rfl⟩ HF.out (by
        rw [Int.toNat_natCast]
        have e1 := FL.put_old HI.out.st s.data.toList (⟨uh, (uh.size : Int)⟩ : Fl) (⟨uh, us⟩ : Fl) HU.out
        rw [HP.out.2] at e1
        rw [e1, List.set_eq_take_append_cons_drop, if_pos hp]) (HI.out.st.put _ _))
      clear hr4 hg4 hcc hM hl c3 x1 hrow hcs
      go_wp2
      go_ret
      exact ⟨rfl, _, ⟨_, HE.out.1, rfl⟩, (HF3.out.mono fun k hk => .inl hk).trans HE.out.2, .inl rfl⟩
set_option maxRecDepth 100000 in
set_option maxHeartbeats 4000000 in
theorem rremove_walk (W : World) (gh : Nat) (r : Option Nat) (d : DS) (i : IsRd W gh r d) (s : ByteArray) :
    Calls Try.prog 33 #[.pointer (some ⟨gh, 0, none⟩), .string s] W fun e W' => e = .returned (.int .i64 (remove d s).2) ∧ RdTo W W' gh r (remove d s).1 := by
  obtain ⟨v, i, rfl⟩ := i
  have HI := Aside0.mk i
  have HF := Aside0.mk (remove_fine i.fine s)
  have hst := i.st
  have hlen := i.fine.many
  clear i
  rcases known_two d s hst with ⟨e2, hk, hz, ha2, ha1⟩ | ⟨u, p, hp, hu, hn, hk, hrp, hmp, hpl, hfile, halt⟩
  · have hS : remove d s = (d, e2) := by unfold remove; rw [ha2, if_neg hz, ha1]
    rw [hS]
    have HK := Aside0.mk hk
    have zb : (e2 == 0) = false := by simpa using hz
    have zb2 : (e2 != 0) = true := by simp [hz]
    clear hk hz ha2 ha1 hS hst HF
    go_enter Try.func33, Try.ntmps33
    go_wp2_with fail
    refine (rknown_walk W gh v d HI.out s).mono ?_
    rw [HK.out]
    rintro e w1 ⟨rfl, hB⟩
    have HB := Aside0.mk hB
    clear hB
    go_wp2_with fail
    go_ret
    exact ⟨rfl, RdTo.of_at (HI.out.move fun k hk _ => HB.out.block k hk) (Fr.of_below HB.out)⟩
  · have HK := Aside0.mk hk
    have HRp := Aside0.mk hrp
    have HP := Aside0.mk (And.intro hmp hpl)
    have HU := Aside0.mk hu
    have HPr := Aside0.mk (show ∀ (w1 : World), Below W.heap.size W w1 → RdAt w1 gh v d from fun w1 hB => HI.out.move fun k hk _ => hB.block k hk)
    cases hok : d.ok with
    | false =>
      have hS : remove d s = (d.chg, 11) := by unfold remove; rw [halt, hok]; rfl
      rw [hS]
      have HOk := Aside0.mk hok
      clear hk hrp hmp hpl hu hn halt hS hst HF hok
      go_enter Try.func33, Try.ntmps33
      go_wp2_with fail
      refine (rknown_walk W gh v d HI.out s).mono ?_
      rw [HK.out, HRp.out]
      rintro e w1 ⟨rfl, hB⟩
      have HB := Aside0.mk hB
      have HI1 := Aside0.mk (HPr.out w1 hB)
      clear hB
      go_wp2_with fail
      refine (rchg_walk w1 gh v d HI1.out).mono ?_
      rw [HOk.out]
      rintro e w2 ⟨rfl, hI2, hF2⟩
      have HI2 := Aside0.mk hI2
      have HF2 := Aside0.mk ((Fr.of_below (S := Only gh) HB.out).trans hF2)
      clear hI2 hF2
      go_wp2_with fail
      go_ret
      exact ⟨rfl, RdTo.of_at HI2.out HF2.out⟩
    | true =>
      have hS : remove d s = ({ d.chg with m := FM.del d.m s.data.toList }, 0) := by unfold remove; rw [halt, hok]; rfl
      rw [hS] at HF ⊢
      have HOk := Aside0.mk hok
      clear hk hrp hmp hpl hu hn halt hS hst hok hfile
      go_enter Try.func33, Try.ntmps33
      go_wp2_with fail
      refine (rknown_walk W gh v d HI.out s).mono ?_
      rw [HK.out, HRp.out]
      rintro e w1 ⟨rfl, hB⟩
      have HB := Aside0.mk hB
      have HI1 := Aside0.mk (HPr.out w1 hB)
      clear hB
      go_wp2_with fail
      refine (rchg_walk w1 gh v d HI1.out).mono ?_
      rw [HOk.out]
      rintro e w2 ⟨rfl, hI2, hF2⟩
      have HI2 := Aside0.mk hI2
      have HF2 := Aside0.mk ((Fr.of_below (S := Only gh) HB.out).trans hF2)
      clear hI2 hF2
      go_wp2_with fail
      refine (drop_walk w2 gh v d.chg HI2.out p (by rw [chg_m]; exact hp) { d.chg with m := FM.del d.m s.data.toList } (by
        rw [chg_m]
        have := (FL.del_old d.m HI.out.st s.data.toList u HU.out).1
        rw [HP.out.2] at this
        exact this) ⟨rfl, rfl⟩ HF.out (HI.out.st.del _)).mono ?_
      rintro e w3 ⟨rfl, v', hI3, hF3, hn3⟩
      have HE := Aside0.mk (And.intro hI3 (And.intro (HF2.out.trans hF3) hn3))
      clear hI3 hF3 hn3
      go_wp2_with fail
      go_ret
      exact ⟨rfl, _, ⟨v', HE.out.1, rfl⟩, HE.out.2.1.mono fun k hk => .inl hk, .inr fun k hk => Nat.le_trans HF2.out.size (HE.out.2.2 k hk)⟩
end Go.Proofs.Ytjkllbilfcopmaa.Dk
end

section
namespace Go.Proofs.Ytjkllbilfcopmaa.Dk
open Go.RowKit Go.Proofs.YtjkllbilfcopmaaW.PrintWords Go.Proofs.YtjkllbilfcopmaaW.PrintLast Go.Proofs.YtjkllbilfcopmaaW.PrintMore
set_option linter.unusedVariables false
set_option linter.unusedSimpArgs false
theorem tl_ne {x y : ByteArray} (h : x ≠ y) : (x.toList == y.toList) = false := by
  rw [beq_eq_false_iff_ne]
  intro e
  rw [ByteArray.toList_eq, ByteArray.toList_eq] at e
  exact h (ByteArray.ext (Array.toList_inj.1 e))
theorem RdTo.after_new {W W1 W2 : World} {gh : Nat} {r r1 : Option Nat} {d : DS} (hf : Fr (Only gh) W W1) (hn : ∀ k, r1 = some k → W.heap.size ≤ k) (h : RdTo W1 W2 gh r1 d) : RdTo W W2 gh r d := by
  obtain ⟨r', h1, h2, h3⟩ := h
  refine ⟨r', h1, ⟨h2.os.trans hf.os, h2.tape.trans hf.tape, h2.output.trans hf.output, Nat.le_trans hf.size h2.size, fun k hk hnk => ?_⟩, .inr fun k hk => ?_⟩
  · have hg : k ≠ gh := fun e => hnk (.inl e)
    refine (h2.block k (Nat.lt_of_lt_of_le hk hf.size) fun e => ?_).trans (hf.block k hk hg)
    rcases e with e | e
    · exact hg e
    · have := hn k e
      omega
  · rcases h3 with rfl | h3
    · exact hn k hk
    · exact Nat.le_trans hf.size (h3 k hk)
theorem rename_bad {d : DS} {s t : ByteArray} (h : nameOk s = false ∨ nameOk t = false) : rename d s t = (d, 10) := by
  unfold rename
  rcases h with h | h
  · rw [if_pos h]
  · by_cases h2 : nameOk s = false
    · rw [if_pos h2]
    · rw [if_neg h2, if_pos h]
theorem rename_good {d : DS} {s t : ByteArray} (h1 : nameOk s = true) (h2 : nameOk t = true) : rename d s t = if (altered d s).2.2 = 0 then ({ (altered d s).1 with m := FM.put (FM.del d.m s.data.toList) t.data.toList (file d s) }, 0) else ((altered d s).1, (altered d s).2.2) := by
  unfold rename
  rw [if_neg (by rw [h1]; decide), if_neg (by rw [h2]; decide)]
set_option maxRecDepth 100000 in
set_option maxHeartbeats 8000000 in
theorem rrename_walk (W : World) (gh : Nat) (r : Option Nat) (d : DS) (i : IsRd W gh r d) (s t : ByteArray) :
    Calls Try.prog 31 #[.pointer (some ⟨gh, 0, none⟩), .string s, .string t] W fun e W' => e = .returned (.int .i64 (rename d s t).2) ∧ RdTo W W' gh r (rename d s t).1 := by
  obtain ⟨v, i, rfl⟩ := i
  have HI := Aside0.mk i
  have HF := Aside0.mk (rename_fine i.fine s t)
  have hst := i.st
  have hlen := i.fine.many
  have HPr := Aside0.mk (show ∀ (w1 : World), Below W.heap.size W w1 → RdAt w1 gh v d from fun w1 hB => HI.out.move fun k hk _ => hB.block k hk)
  clear i
  cases hn1 : nameOk s with
  | false =>
    rw [rename_bad (.inl hn1)]
    have HN1 := Aside0.mk hn1
    clear hn1 hst HF
    go_enter Try.func31, Try.ntmps31
    go_wp2_with fail
    refine (named_walk s W).mono ?_
    rw [HN1.out]
    rintro e w0 ⟨rfl, hB⟩
    have HB0 := Aside0.mk hB
    clear hB
    go_wp2_with fail
    go_ret
    exact ⟨rfl, RdTo.of_at (HPr.out _ HB0.out) (Fr.of_below HB0.out)⟩
  | true =>
    cases hn2 : nameOk t with
    | false =>
      rw [rename_bad (.inr hn2)]
      have HN1 := Aside0.mk hn1
      have HN2 := Aside0.mk hn2
      clear hn1 hn2 hst HF
      go_enter Try.func31, Try.ntmps31
      go_wp2_with fail
      refine (named_walk s W).mono ?_
      rw [HN1.out]
      rintro e w0 ⟨rfl, hB⟩
      have HB0 := Aside0.mk hB
      clear hB
      go_wp2_with fail
      refine (named_walk t w0).mono ?_
      rw [HN2.out]
      rintro e w00 ⟨rfl, hB⟩
      have HB00 := Aside0.mk (HB0.out.trans (hB.mono HB0.out.size))
      clear hB
      go_wp2_with fail
      go_ret
      exact ⟨rfl, RdTo.of_at (HPr.out _ HB00.out) (Fr.of_below HB00.out)⟩
    | true =>
      have hG := rename_good (d := d) hn1 hn2
      have HN1 := Aside0.mk hn1
      have HN2 := Aside0.mk hn2
      clear hn1 hn2
      rcases known_two d s hst with ⟨e2, hk, hz, ha2, ha1⟩ | ⟨u, p, hp, hu, hn, hk, hrp, hmp, hpl, hfile, halt⟩
      · rw [ha2, if_neg hz, ha1] at hG
        rw [hG]
        have HK := Aside0.mk hk
        have zb : (e2 == 0) = false := by simpa using hz
        have zb2 : (e2 != 0) = true := by simp [hz]
        clear hk hz ha2 ha1 hG hst HF
        go_enter Try.func31, Try.ntmps31
        go_wp2_with fail
        refine (named_walk s W).mono ?_
        rw [HN1.out]
        rintro e w0 ⟨rfl, hB⟩
        have HB0 := Aside0.mk hB
        clear hB
        go_wp2_with fail
        refine (named_walk t w0).mono ?_
        rw [HN2.out]
        rintro e w00 ⟨rfl, hB⟩
        have HB00 := Aside0.mk (HB0.out.trans (hB.mono HB0.out.size))
        clear hB
        go_wp2_with fail
        refine (rknown_walk w00 gh v d (HPr.out _ HB00.out) s).mono ?_
        rw [HK.out]
        rintro e w1 ⟨rfl, hB⟩
        have HB := Aside0.mk (HB00.out.trans (hB.mono HB00.out.size))
        clear hB
        go_wp2_with fail
        go_ret
        exact ⟨rfl, RdTo.of_at (HPr.out _ HB.out) (Fr.of_below HB.out)⟩
      · have HK := Aside0.mk hk
        have HRp := Aside0.mk hrp
        have HP := Aside0.mk (And.intro hmp hpl)
        have HU := Aside0.mk hu
        cases hok : d.ok with
        | false =>
          rw [halt, hok, if_neg (by simp)] at hG
          simp only at hG
          rw [hG]
          have HOk := Aside0.mk hok
          clear hk hrp hmp hpl hu hn halt hG hst HF hok
          go_enter Try.func31, Try.ntmps31
          go_wp2_with fail
          refine (named_walk s W).mono ?_
          rw [HN1.out]
          rintro e w0 ⟨rfl, hB⟩
          have HB0 := Aside0.mk hB
          clear hB
          go_wp2_with fail
          refine (named_walk t w0).mono ?_
          rw [HN2.out]
          rintro e w00 ⟨rfl, hB⟩
          have HB00 := Aside0.mk (HB0.out.trans (hB.mono HB0.out.size))
          clear hB
          go_wp2_with fail
          refine (rknown_walk w00 gh v d (HPr.out _ HB00.out) s).mono ?_
          rw [HK.out, HRp.out]
          rintro e w1 ⟨rfl, hB⟩
          have HB := Aside0.mk (HB00.out.trans (hB.mono HB00.out.size))
          clear hB
          go_wp2_with fail
          refine (rchg_walk w1 gh v d (HPr.out _ HB.out)).mono ?_
          rw [HOk.out]
          rintro e w2 ⟨rfl, hI2, hF2⟩
          have HI2 := Aside0.mk hI2
          have HF2 := Aside0.mk ((Fr.of_below (S := Only gh) HB.out).trans hF2)
          clear hI2 hF2
          go_wp2_with fail
          go_ret
          exact ⟨rfl, RdTo.of_at HI2.out HF2.out⟩
        | true =>
          rw [halt, hok, if_pos rfl, hfile] at hG
          rw [hG] at HF ⊢
          have HOk := Aside0.mk hok
          clear hk hrp hmp hpl hu hn halt hG hst hok hfile
          by_cases est : s = t
          · subst est
            have HB1 := Aside0.mk (show ({ d.chg with m := FM.put (FM.del d.m s.data.toList) s.data.toList u } : DS) = d.chg from by rw [put_back HI.out.st HU.out, ← chg_m d])
            rw [HB1.out]
            go_enter Try.func31, Try.ntmps31
            go_wp2_with fail
            refine (named_walk s W).mono ?_
            rw [HN1.out]
            rintro e w0 ⟨rfl, hB⟩
            have HB0 := Aside0.mk hB
            clear hB
            go_wp2_with fail
            refine (named_walk s w0).mono ?_
            rw [HN2.out]
            rintro e w00 ⟨rfl, hB⟩
            have HB00 := Aside0.mk (HB0.out.trans (hB.mono HB0.out.size))
            clear hB
            go_wp2_with fail
            refine (rknown_walk w00 gh v d (HPr.out _ HB00.out) s).mono ?_
            rw [HK.out, HRp.out]
            rintro e w1 ⟨rfl, hB⟩
            have HB := Aside0.mk (HB00.out.trans (hB.mono HB00.out.size))
            clear hB
            go_wp2_with fail
            refine (rchg_walk w1 gh v d (HPr.out _ HB.out)).mono ?_
            rw [HOk.out]
            rintro e w2 ⟨rfl, hI2, hF2⟩
            have HI2 := Aside0.mk hI2
            have HF2 := Aside0.mk ((Fr.of_below (S := Only gh) HB.out).trans hF2)
            clear hI2 hF2
            go_wp2_with fail
            go_ret
            exact ⟨rfl, RdTo.of_at HI2.out HF2.out⟩
          · have hst2 := tl_ne est
            clear est
            go_enter Try.func31, Try.ntmps31
            go_wp2_with fail
            refine (named_walk s W).mono ?_
            rw [HN1.out]
            rintro e w0 ⟨rfl, hB⟩
            have HB0 := Aside0.mk hB
            clear hB
            go_wp2_with fail
            refine (named_walk t w0).mono ?_
            rw [HN2.out]
            rintro e w00 ⟨rfl, hB⟩
            have HB00 := Aside0.mk (HB0.out.trans (hB.mono HB0.out.size))
            clear hB
            go_wp2_with fail
            refine (rknown_walk w00 gh v d (HPr.out _ HB00.out) s).mono ?_
            rw [HK.out, HRp.out]
            rintro e w1 ⟨rfl, hB⟩
            have HB := Aside0.mk (HB00.out.trans (hB.mono HB00.out.size))
            clear hB
            go_wp2_with fail
            refine (rchg_walk w1 gh v d (HPr.out _ HB.out)).mono ?_
            rw [HOk.out]
            rintro e w2 ⟨rfl, hI2, hF2⟩
            have HI2 := Aside0.mk hI2
            have HF2 := Aside0.mk ((Fr.of_below (S := Only gh) HB.out).trans hF2)
            clear hI2 hF2
            obtain ⟨g, c, rfl, hc, hcm⟩ := slice_shape_n d.m.length HI2.out (by rw [chg_m]) (by omega)
            obtain ⟨uh, us⟩ := u
            obtain ⟨x0, x1, x2⟩ := cells_at HI2.out.row p (by rw [chg_m]; exact hp)
            have hmc : d.chg.m = d.m := chg_m d
            have e1 : d.chg.m[p]'(by rw [chg_m]; exact hp) = (s.data.toList, ⟨uh, us⟩) := by
              have := HP.out.1
              simp only [hmc]
              exact this
            rw [e1] at x0 x1 x2
            rw [key_eq rfl] at x0
            simp only at x1 x2
            have c0 := (blk_cell HI2.out.blk 0).trans (show _ = some (Value.slice (some ⟨g, 0, none⟩) d.m.length c) from rfl)
            have q1 : (p : Int) < (d.m.length : Int) := by omega
            clear e1 hmc
            go_wp2_with fail
            refine (drop_walk _ gh _ d.chg (HI2.out.move fun k hk _ => (below_alloc (Below.refl w2.heap.size w2) _).block k hk) p (by rw [chg_m]; exact hp) { d.chg with m := FM.del d.m s.data.toList } (by
              rw [chg_m]
              have := (FL.del_old d.m HI.out.st s.data.toList (⟨uh, us⟩ : Fl) HU.out).1
              rw [HP.out.2] at this
              exact this) ⟨rfl, rfl⟩ (fine_del HI.out.fine _) (HI.out.st.del _)).mono ?_
            rintro e w3 ⟨rfl, v', hI3, hF3, hn3⟩
            have hlg := HI.out.lt
            have hs2 := HF2.out.size
            have hX3 : FBox w3 w2.heap.size s uh us := FBox.fr (⟨heap_alloc_new w2 _⟩ : FBox (w2.alloc (.cells #[.string s, .string uh, .int .i64 us] 67)) w2.heap.size s uh us) hF3 (by unfold Only; omega)
            obtain ⟨b, hb⟩ : ∃ b, w2.heap.size = b := ⟨_, rfl⟩
            have hn4 : ∀ k, v'.ownBlock = some k → b < k := fun k hk => by have := hn3 k hk; simp at this; omega
            have HF4 := Aside0.mk ((HF2.out.alloc _).trans hF3)
            rw [hb] at hX3
            have HX3 := Aside0.mk hX3
            have HI3 := Aside0.mk hI3
            have HN4 := Aside0.mk hn4
            have hbg : gh < b ∧ W.heap.size ≤ b := by omega
            clear x0 x1 x2 c0 hI3 hF3 hn3 hn4 hX3 hlg
            have b40 := (blk_cell HX3.out.blk 0).trans (show _ = some (Value.string s) from rfl)
            have b41 := (blk_cell HX3.out.blk 1).trans (show _ = some (Value.string uh) from rfl)
            have b42 := (blk_cell HX3.out.blk 2).trans (show _ = some (Value.int .i64 us) from rfl)
            have f4 := blk_frozen HX3.out.blk 0
            go_wp2_with fail
            have HI5 := Aside0.mk (HI3.out.far ⟨b, 0, none⟩ (.string t) fun k hk => by
              rcases hk with rfl | hk
              · exact Nat.ne_of_lt hbg.1
              · have := HN4.out k hk
                exact fun e => by simp only at e; omega)
            have HF5 := Aside0.mk (HF4.out.set (p := ⟨b, 0, none⟩) (.inr hbg.2) (.string t))
            refine (put_walk _ gh _ _ HI5.out t ⟨uh, us⟩ { d.chg with m := FM.put (FM.del d.m s.data.toList) t.data.toList ⟨uh, us⟩ } rfl ⟨rfl, rfl⟩ HF.out).mono ?_
            rintro e w6 ⟨rfl, hT⟩
            have HT := Aside0.mk (RdTo.after_new (r := (Value.slice (some ⟨g, 0, none⟩) d.m.length c).ownBlock) HF5.out (fun k hk => by have := HN4.out k hk; omega) hT)
            clear hT b40 b41 b42 f4
            go_wp2_with fail
            go_ret
            exact ⟨rfl, HT.out⟩
end Go.Proofs.Ytjkllbilfcopmaa.Dk
end

section
namespace Go.Proofs.Ytjkllbilfcopmaa.Dk
open Go.RowKit Go.Proofs.YtjkllbilfcopmaaW.PrintWords Go.Proofs.YtjkllbilfcopmaaW.PrintLast Go.Proofs.YtjkllbilfcopmaaW.PrintMore
set_option linter.unusedVariables false
set_option linter.unusedSimpArgs false
/-- The names, in order. -/
def nmB (m : Fs) : List ByteArray := m.map fun p => ⟨p.1.toArray⟩
theorem nmB_len (m : Fs) : (nmB m).length = m.length := by simp [nmB]
theorem nmB_take (m : Fs) (j : Nat) (h : j < m.length) : (nmB m).take (j + 1) = (nmB m).take j ++ [⟨(m[j]).1.toArray⟩] := by
  rw [List.take_succ_eq_append_getElem (by rw [nmB_len]; exact h)]
  simp [nmB]
theorem nameL_nm {d : DS} (hs : FL.St d.m) : nameL d = nmB d.m := by
  unfold nameL nmB
  rw [FL.names_keys hs]
  simp [FM.keys]
def NmPost (W : World) (m : Fs) (e : Ending) (W' : World) : Prop := ∃ A c, e = .returned (.slice A m.length c) ∧ StrsAt (fun _ => False) W' A (nmB m) ∧ Below W.heap.size W W'
set_option maxRecDepth 100000 in
set_option maxHeartbeats 4000000 in
theorem rnames_walk (W : World) (gh : Nat) (v : Value) (d : DS) (i : RdAt W gh v d) :
    Calls Try.prog 39 #[.pointer (some ⟨gh, 0, none⟩)] W (NmPost W d.m) := by
  obtain ⟨A, c, rfl, hc, hcm, hat⟩ := row_shape i.row
  have hlen := i.fine.many
  have HI := Aside0.mk i
  have q2 : (d.m.length : Int) ≤ (c : Int) := by omega
  clear i hat
  go_enter Try.func39, Try.ntmps39
  go_wp2_with fail
  go_loopg [3, 4] (d.m.length + 1) (fun kq v3 v4 w' => ∃ j : Nat, v4 = .int .i64 (j : Int) ∧ Aside0 (j + kq = d.m.length + 1 ∧ j ≤ d.m.length) ∧ Aside0 (Kd.R Kd.string 9 w' W.heap.size (fun _ => True) v3 ((nmB d.m).take j)) ∧ Aside0 (Below W.heap.size W w'))
  case atStart => exact ⟨0, rfl, ⟨by omega, Nat.zero_le _⟩, ⟨Kd.R_nil _ _ _ _ _⟩, ⟨Below.refl _ _⟩⟩
  case round =>
    obtain ⟨j, rfl, HJ, HR, HB⟩ := hrel
    have HI1 := Aside0.mk (HI.out.move fun k hk _ => HB.out.block k hk)
    have c0 := (blk_cell HI1.out.blk 0).trans (show _ = some (Value.slice A d.m.length c) from rfl)
    by_cases hj : j < d.m.length
    · obtain ⟨kq1, rfl⟩ : ∃ kq1, gk = kq1 + 1 := ⟨gk - 1, by have := HJ.out; omega⟩
      obtain ⟨A', c', hs_, -, -, hat⟩ := row_shape HI1.out.row
      obtain ⟨g, e1, x0, -⟩ := hat j hj
      injection hs_ with h1 h2 h3
      subst h1
      obtain rfl := e1
      clear h2 h3 hat
      have hji : (j : Int) < (d.m.length : Int) := by omega
      have HT := Aside0.mk (nmB_take d.m j hj)
      obtain ⟨nm, hnm⟩ : ∃ nm : ByteArray, (⟨(d.m[j]).1.toArray⟩ : ByteArray) = nm := ⟨_, rfl⟩
      rw [hnm] at x0 HT
      clear hnm
      go_wp2_with (first | ((with_reducible refine gate_builtin (b := .append) (xs := #[.tmp 14, .tmp 23]) rfl ?_); at_builtin; refine Kd.R_append Kd.string (w0 := W) W.heap.size rfl (.tmp 14) (.tmp 23) 39 9 (.string ⟨#[]⟩) 16 rfl Try.underlying39 info9 rfl (by decide) (by decide) _ _ nm [.string nm] (fun _ => True) (fun _ => False) rfl rfl rfl (fun _ hk => hk.elim) (fun _ _ => trivial) HR.out HB.out HB.out.size (by simp only [List.length_take, nmB_len]; omega) ?_; intro v7 w7 hr_ hb_ _ _; have HR7 := Aside0.mk hr_; have HB7 := Aside0.mk hb_; clear hr_ hb_))
      rw [← HT.out] at HR7
      go_roundg kq1
      case measure => have := HJ.out; omega
      case rel => exact ⟨j + 1, by go_num, ⟨by have := HJ.out; omega, by have := HJ.out; omega⟩, HR7, HB7⟩
    · have hji : ¬ (j : Int) < (d.m.length : Int) := by omega
      have hR := HR.out
      rw [List.take_of_length_le (by rw [nmB_len]; omega)] at hR
      have ho := Kd.own_of_R hR
      obtain ⟨A9, c9, e9, hA9, -, -⟩ := own_row (S := fun _ => False) ho fun _ _ h => h
      have HA9 := Aside0.mk hA9
      rw [nmB_len] at e9
      clear hR ho hA9 HR
      subst e9
      go_wp2
      go_ret
      exact ⟨A9, c9, rfl, HA9.out, HB.out⟩
/-- The document's crash: file by file, in order. -/
def rcr : Fs → List Int → Fs
  | [], _ => []
  | x :: r, dr => if tail x.2 = 0 then x :: rcr r dr else (x.1, torn x.2 (dr.headD 0)) :: rcr r dr.tail
theorem rcr_len : ∀ (m : Fs) (dr : List Int), (rcr m dr).length = m.length
  | [], _ => rfl
  | x :: r, dr => by
    unfold rcr
    split <;> simp [rcr_len r]
theorem pl_pre : ∀ (pre : Fs) (x : FM.Key × Fl) (r : Fs), FL.St (pre ++ x :: r) → FL.pl (pre ++ x :: r) x.1 = pre.length
  | [], x, r, _ => by
    show FL.pl (x :: r) x.1 = 0
    unfold FL.pl
    rw [if_neg]
    rw [Go.WideAt.bytes_irrefl]
    decide
  | y :: pre, x, r, h => by
    have hy := (List.pairwise_cons.1 h).1 x.1 (by simp)
    have hr : FL.St (pre ++ x :: r) := (List.pairwise_cons.1 h).2
    show FL.pl (y :: (pre ++ x :: r)) x.1 = _
    rw [FL.pl, if_pos hy, pl_pre pre x r hr]
    rfl
theorem get_pre {pre : Fs} {x : FM.Key × Fl} {r : Fs} (h : FL.St (pre ++ x :: r)) : FM.get (pre ++ x :: r) x.1 = some x.2 := by
  rw [FL.get_pl _ h, pl_pre pre x r h]
  simp
theorem put_pre {pre : Fs} {x : FM.Key × Fl} {r : Fs} (h : FL.St (pre ++ x :: r)) (f : Fl) : FM.put (pre ++ x :: r) x.1 f = pre ++ (x.1, f) :: r := by
  rw [FL.put_old h x.1 f x.2 (get_pre h), pl_pre pre x r h]
  simp
theorem crash_rcr : ∀ (r : Fs) (dr : List Int) (pre : Fs), FL.St (pre ++ r) → crashL (FM.keys r) dr (pre ++ r) = pre ++ rcr r dr
  | [], dr, pre, _ => rfl
  | x :: r, dr, pre, h => by
    show crashL (x.1 :: FM.keys r) dr (pre ++ x :: r) = _
    rw [crashL_cons, get_pre h, Option.getD_some]
    unfold rcr
    by_cases ht : tail x.2 = 0
    · rw [if_pos ht, if_pos ht]
      have := crash_rcr r dr (pre ++ [x]) (by simpa using h)
      simpa using this
    · rw [if_neg ht, if_neg ht, put_pre h]
      have h2 : FL.St (pre ++ (x.1, torn x.2 (dr.headD 0)) :: r) := by
        rw [← put_pre h]
        exact h.put _ _
      have := crash_rcr r dr.tail (pre ++ [(x.1, torn x.2 (dr.headD 0))]) (by simpa using h2)
      simpa using this
theorem crash_m {d : DS} (hs : FL.St d.m) (dr : List Int) : crashL (FM.names d.m) dr d.m = rcr d.m dr := by
  rw [FL.names_keys hs]
  exact crash_rcr d.m dr [] hs
end Go.Proofs.Ytjkllbilfcopmaa.Dk
end

section
namespace Go.Proofs.Ytjkllbilfcopmaa.Dk
open Go.RowKit Go.Proofs.YtjkllbilfcopmaaW.PrintWords Go.Proofs.YtjkllbilfcopmaaW.PrintLast Go.Proofs.YtjkllbilfcopmaaW.PrintMore
set_option linter.unusedVariables false
set_option linter.unusedSimpArgs false
theorem headD_drop (dr : List Int) (n : Nat) (h : n < dr.length) : (dr.drop n).headD 0 = dr.getD n 0 ∧ (dr.drop n).tail = dr.drop (n + 1) := by
  rw [List.drop_eq_getElem_cons h]
  simp [List.getD_eq_getElem?_getD, h]
theorem headD_end (dr : List Int) (n : Nat) (h : dr.length ≤ n) : (dr.drop n).headD 0 = 0 ∧ (dr.drop n).tail = dr.drop (n + 1) := by
  rw [List.drop_of_length_le h, List.drop_of_length_le (by omega)]
  exact ⟨rfl, rfl⟩
theorem rcr_cons (x : FM.Key × Fl) (r : Fs) (dr : List Int) : rcr (x :: r) dr = if tail x.2 = 0 then x :: rcr r dr else (x.1, torn x.2 (dr.headD 0)) :: rcr r dr.tail := rfl
theorem rcr_next {pre : Fs} {x : FM.Key × Fl} {r : Fs} {dr : List Int} {M : Fs} (h : pre ++ rcr (x :: r) dr = M) (ht : tail x.2 = 0) : (pre ++ [x]) ++ rcr r dr = M := by
  rw [rcr_cons, if_pos ht] at h
  simpa using h
theorem rcr_torn {pre : Fs} {x : FM.Key × Fl} {r : Fs} {dr : List Int} {M : Fs} (h : pre ++ rcr (x :: r) dr = M) (ht : ¬ tail x.2 = 0) : (pre ++ [(x.1, torn x.2 (dr.headD 0))]) ++ rcr r dr.tail = M := by
  rw [rcr_cons, if_neg ht] at h
  simpa using h
theorem RdAt.old2 {W : World} {gh : Nat} {v : Value} {d : DS} (i : RdAt W gh v d) : ∀ k, HR gh v.ownBlock k → k < W.heap.size := i.old (W1 := W)
abbrev D0 (m : Fs) : DS := ⟨m, false, false, 0⟩
theorem fine_d0 {d : DS} (h : Fine d) : Fine (D0 d.m) := ⟨h.fls, h.many, Int.le_refl _, by show (0 : Int) ≤ _; decide⟩
/-- One file torn, in its place. -/
theorem rd_torn {w4 w5 : World} {gh g n c : Nat} {pre : Fs} {k : FM.Key} {f : Fl} {r : Fs} {ok : Nat → Prop} {x : Int} (i : RdAt w4 gh (.slice (some ⟨g, 0, none⟩) n c) (D0 (pre ++ (k, f) :: r))) (ht : ¬ tail f = 0)
    (hr : fk.R 67 w5 0 ok (.slice (some ⟨g, 0, none⟩) n c) ((pre ++ (k, f) :: r).set pre.length (k, torn f x))) (hg : w4.grownBy w5 (some g)) :
    RdAt w5 gh (.slice (some ⟨g, 0, none⟩) n c) (D0 ((pre ++ [(k, torn f x)]) ++ r)) ∧ Fr (HR gh (some g)) w4 w5 := by
  have hst : FL.St (pre ++ (k, f) :: r) := i.st
  have e1 : (pre ++ (k, f) :: r).set pre.length (k, torn f x) = (pre ++ [(k, torn f x)]) ++ r := by simp
  have e2 : FM.put (pre ++ (k, f) :: r) k (torn f x) = (pre ++ [(k, torn f x)]) ++ r := by
    have := put_pre (pre := pre) (x := (k, f)) (r := r) hst (torn f x)
    simpa using this
  have h3 := torn_fine (m := pre ++ (k, f) :: r) ⟨i.fine.fls, i.fine.many⟩ (n := k) (by rw [get_pre (x := (k, f)) hst]; exact ht) x
  rw [get_pre (x := (k, f)) hst] at h3
  simp only [Option.getD_some] at h3
  rw [e2] at h3
  rw [e1] at hr
  have hs : FL.St ((pre ++ [(k, torn f x)]) ++ r) := by
    rw [← e2]
    exact hst.put _ _
  exact rd_store (d' := D0 ((pre ++ [(k, torn f x)]) ++ r)) i hr hg rfl ⟨rfl, rfl⟩ ⟨h3.1, h3.2, Int.le_refl _, by show (0 : Int) ≤ _; decide⟩ rfl hs
set_option maxRecDepth 100000 in
set_option maxHeartbeats 8000000 in
theorem rcrash_some (W : World) (gh g c9 : Nat) (d : DS) (i : RdAt W gh (.slice (some ⟨g, 0, none⟩) d.m.length c9) d) (hc9 : d.m.length ≤ c9) (hcm9 : c9 ≤ 9223372036854775807) (A : Option Addr) (dr : List Int) (c : Nat) (hA : IntsAt (HR gh (some g)) W A dr) (hc : dr.length ≤ c) (hcm : c ≤ maxLen) (hdr : ∀ x ∈ dr, -9223372036854775808 ≤ x ∧ x ≤ 9223372036854775807) (hbig : ¬ 4096 < dr.length) (M : Fs) (hM : rcr d.m dr = M) :
    Calls Try.prog 37 #[.pointer (some ⟨gh, 0, none⟩), .slice A dr.length c] W fun e W' => e = .returned (.int .i64 0) ∧ RdAt W' gh (.slice (some ⟨g, 0, none⟩) d.m.length c9) (D0 M) ∧ Fr (HR gh (some g)) W W' := by
  unfold maxLen at hcm
  have hb' : (dr.length : Int) ≤ 4096 := by omega
  have hlen := i.fine.many
  have f1 := blk_frozen i.blk 1
  have f2 := blk_frozen i.blk 2
  have c1 := (blk_cell i.blk 1).trans (show _ = some (Value.int .i64 (rl d)) from rfl)
  have c2 := (blk_cell i.blk 2).trans (show _ = some (Value.bool d.down) from rfl)
  have HI := Aside0.mk (i.two 2 1 (.bool false) (.int .i64 (-1)) (D0 d.m) rfl rfl (fine_d0 i.fine))
  have HA := Aside0.mk hA
  have HDR := Aside0.mk hdr
  have HM := Aside0.mk (show ([] : Fs) ++ rcr d.m (dr.drop 0) = M from hM)
  obtain ⟨n, hn⟩ : ∃ n, d.m.length = n := ⟨_, rfl⟩
  have HN := Aside0.mk hn
  rw [hn] at hlen hc9 HI ⊢
  have q9 : (n : Int) ≤ (c9 : Int) := by omega
  have q8 : (dr.length : Int) ≤ (c : Int) := by omega
  clear i hA hdr hM hbig hn
  go_enter Try.func37, Try.ntmps37
  go_wp2_with fail
  have HF1 := Aside0.mk (HI.out.2.mono (T := HR gh (some g)) fun k hk => .inl hk)
  have HI1 := Aside0.mk (show RdAt ((W.setCell ⟨gh, 2, none⟩ (.bool false)).setCell ⟨gh, 1, none⟩ (.int .i64 (-1))) gh (.slice (some ⟨g, 0, none⟩) n c9) (D0 ([] ++ d.m)) from HI.out.1)
  clear f1 f2 c1 c2 HI
  generalize ((W.setCell ⟨gh, 2, none⟩ (.bool false)).setCell ⟨gh, 1, none⟩ (.int .i64 (-1))) = W1 at *
  go_loopg [5, 6] (n + 1) (fun kq v5 v6 w' => ∃ (j nx : Nat) (pre r : Fs), v6 = .int .i64 (j : Int) ∧ v5 = .int .i64 (nx : Int) ∧ Aside0 (j + kq = n + 1 ∧ pre.length = j ∧ pre.length + r.length = n ∧ nx ≤ j) ∧ Aside0 (pre ++ rcr r (dr.drop nx) = M) ∧ Aside0 (RdAt w' gh (.slice (some ⟨g, 0, none⟩) n c9) (D0 (pre ++ r))) ∧ Aside0 (Fr (HR gh (some g)) W w'))
  case atStart => exact ⟨0, 0, [], d.m, rfl, rfl, ⟨by omega, rfl, by have := HN.out; simp only [List.length_nil]; omega, Nat.le_refl _⟩, HM, HI1, HF1⟩
  case round =>
    clear HM HI1 HF1
    obtain ⟨j, nx, pre, r, rfl, rfl, HJ, HM, HX, HF⟩ := hrel
    have c0 := (blk_cell HX.out.blk 0).trans (show _ = some (Value.slice (some ⟨g, 0, none⟩) n c9) from rfl)
    match r with
    | [] =>
      have hji : ¬ (j : Int) < (n : Int) := by have := HJ.out; simp only [List.length_nil] at this; omega
      go_wp2
      go_ret
      have e := HM.out
      simp only [rcr, List.append_nil] at e
      subst e
      have h2 := HX.out
      rw [List.append_nil] at h2
      exact ⟨rfl, h2, HF.out⟩
    | (k, ⟨fh, fs⟩) :: r =>
      obtain ⟨kq1, rfl⟩ : ∃ kq1, gk = kq1 + 1 := ⟨gk - 1, by have := HJ.out; simp only [List.length_cons] at this; omega⟩
      have hj : j < n := by have := HJ.out; simp only [List.length_cons] at this; omega
      have hjl : j < (pre ++ (k, (⟨fh, fs⟩ : Fl)) :: r).length := by have := HJ.out; simp only [List.length_append, List.length_cons] at this ⊢; omega
      have hji : (j : Int) < (n : Int) := by omega
      have hpj : pre.length = j := HJ.out.2.1
      obtain ⟨x0, x1, x2⟩ := cells_at HX.out.row j hjl
      have e1 : (pre ++ (k, (⟨fh, fs⟩ : Fl)) :: r)[j]'hjl = (k, ⟨fh, fs⟩) := by
        subst hpj
        simp
      rw [e1] at x0 x1 x2
      simp only at x0 x1 x2
      have hff := HX.out.fine.fls (k, ⟨fh, fs⟩) (by simp)
      obtain ⟨b1', b2', b3', -⟩ : 0 ≤ fs ∧ fs ≤ (fh.size : Int) ∧ fh.size ≤ 262144 ∧ k.length ≤ 32 := hff
      obtain ⟨nm, hnm⟩ : ∃ nm : ByteArray, (⟨k.toArray⟩ : ByteArray) = nm := ⟨_, rfl⟩
      rw [hnm] at x0
      have HNm := Aside0.mk hnm
      have HPJ := Aside0.mk hpj
      have HFal := Aside0.mk (HF.out.alloc (.cells #[.string nm, .string fh, .int .i64 fs] 67))
      have HXal := Aside0.mk (HX.out.move fun k hk _ => (below_alloc (Below.refl wr.heap.size wr) (.cells #[.string nm, .string fh, .int .i64 fs] 67)).block k hk)
      have hnx : nx ≤ 64 := by have := HJ.out; omega
      clear e1 hnm hpj hjl
      by_cases htl : (fh.size : Int) - fs = 0
      · have htb : fs = (fh.size : Int) := by omega
        have HM' := Aside0.mk (rcr_next HM.out (show tail ⟨fh, fs⟩ = 0 from htl))
        have htb2 : (fs == (fh.size : Int)) = true := by simpa using htb
        clear htl htb b1' b2'
        go_wp2_with fail
        go_roundg kq1
        case measure => omega
        case rel => exact ⟨j + 1, nx, pre ++ [(k, ⟨fh, fs⟩)], r, by go_num, rfl, ⟨by have := HJ.out; omega, by simp [HPJ.out], by have := HJ.out; simp only [List.length_append, List.length_cons, List.length_nil] at this ⊢; omega, by have := HJ.out; omega⟩, HM', ⟨by have := HXal.out; rw [List.append_cons] at this; exact this⟩, HFal⟩
      · have htb : (fs == (fh.size : Int)) = false := by simp; omega
        have HTl := Aside0.mk (show ¬ tail ⟨fh, fs⟩ = 0 from htl)
        have ht1 : 0 < (fh.size : Int) - fs := by omega
        clear htl
        by_cases hd : nx < dr.length
        · have q6 : (nx : Int) < (dr.length : Int) := by omega
          obtain ⟨ad, rfl, hcx⟩ := (HA.out.fr HF.out).at_ nx hd
          have hcx2 := cell_alloc (.cells #[.string nm, .string fh, .int .i64 fs] 67) hcx
          obtain ⟨x, hx⟩ : ∃ x, dr.getD nx 0 = x := ⟨_, rfl⟩
          rw [hx] at hcx hcx2
          obtain ⟨x1', x2'⟩ := HDR.out x (by rw [← hx, List.getD_eq_getElem?_getD, List.getElem?_eq_getElem hd]; exact List.getElem_mem hd)
          obtain ⟨y, hy⟩ : ∃ y, max 0 x = y := ⟨_, rfl⟩
          have hy0 : 0 ≤ y := by omega
          have hy1 : y ≤ 9223372036854775807 := by omega
          have HY := Aside0.mk hy
          have HXx := Aside0.mk hx
          have HH := Aside0.mk (headD_drop dr nx hd)
          clear hy hx hd hcx
          go_wp2_with fail
          rw [HY.out]
          have hr1 := Int.emod_nonneg (y) (show (fh.size : Int) - fs + 1 ≠ 0 by omega)
          have hr2 := Int.emod_lt_of_pos (y) (show 0 < (fh.size : Int) - fs + 1 by omega)
          obtain ⟨kf, hkf⟩ : ∃ kf, wr.heap.size = kf := ⟨_, rfl⟩
          have hfl : FBox (wr.alloc (.cells #[.string nm, .string fh, .int .i64 fs] 67)) kf nm fh fs := ⟨hkf ▸ heap_alloc_new wr _⟩
          have HK := Aside0.mk (And.intro (show ∀ q, HR gh (some g) q → q < kf from fun q hq => by have := HX.out.old2 q hq; omega) (show W.heap.size ≤ kf by have := HF.out.size; omega))
          have hz1 : IntKind.i64.wrap ((fh.size : Int) - fs + 1) = (fh.size : Int) - fs + 1 := by rw [IntKind.wrap_i64]; omega
          have hz0 : IntKind.i64.wrap ((fh.size : Int) - fs) = (fh.size : Int) - fs := by rw [IntKind.wrap_i64]; omega
          have hz2 : ¬ ((fh.size : Int) - fs + 1 = 0) := by omega
          have hz3 : Int.tmod (y) ((fh.size : Int) - fs + 1) = (y) % ((fh.size : Int) - fs + 1) := Int.tmod_eq_emod_of_nonneg (by omega)
          obtain ⟨nn, hnn⟩ : ∃ nn : Nat, fs + y % ((fh.size : Int) - fs + 1) = (nn : Int) := ⟨(fs + y % ((fh.size : Int) - fs + 1)).toNat, by omega⟩
          have hz4 : IntKind.i64.wrap (fs + y % ((fh.size : Int) - fs + 1)) = (nn : Int) := by rw [IntKind.wrap_i64]; omega
          have hn0 : (0 : Int) ≤ (nn : Int) := by omega
          have hnb : (nn : Int) ≤ (fh.size : Int) := by omega
          have HNN := Aside0.mk hnn
          rw [hkf]
          clear hkf c0 hnn HX HF
          generalize (wr.alloc (.cells #[.string nm, .string fh, .int .i64 fs] 67)) = Wa at *
          have HFb := Aside0.mk (FBox.fr hfl (Fr.drew (Fr.refl (fun _ => False) Wa)) (fun h => h))
          have HIb := Aside0.mk (show RdAt Wa.drew gh (.slice (some ⟨g, 0, none⟩) n c9) (D0 (pre ++ (k, ⟨fh, fs⟩) :: r)) from HXal.out.move fun k hk _ => rfl)
          have HWb := Aside0.mk (show Fr (HR gh (some g)) W Wa.drew from HFal.out.drew)
          have d1 : ({ Wa with drawn := Wa.drawn + 1 } : World).cell? ⟨kf, 1, none⟩ = some (.string fh) := (blk_cell HFb.out.blk 1).trans rfl
          have d2 : ({ Wa with drawn := Wa.drawn + 1 } : World).cell? ⟨kf, 2, none⟩ = some (.int .i64 fs) := (blk_cell HFb.out.blk 2).trans rfl
          have g2 : ({ Wa with drawn := Wa.drawn + 1 } : World).frozen? ⟨kf, 2, none⟩ = false := blk_frozen HFb.out.blk 2
          clear hfl HXal HFal
          refine wp_region_still_tail 13 (by kernel_rfl) (by kernel_rfl) ?_
          simp only [List.take_succ_cons, List.take_zero, List.drop_succ_cons, List.drop_zero]
          have hWb : ({ Wa with drawn := Wa.drawn + 1 } : World) = Wa.drew := rfl
          rw [← hWb] at HFb HIb HWb
          clear hWb
          generalize ({ Wa with drawn := Wa.drawn + 1 } : World) = Wb at *
          repeat still_step
          refine wpStill_nil ?_
          have g1 : Wb.frozen? ⟨kf, 1, none⟩ = false := blk_frozen HFb.out.blk 1
          go_wp2_with fail
          have HFc := Aside0.mk (show FBox ((Wb.setCell ⟨kf, 2, none⟩ (.int .i64 nn)).setCell ⟨kf, 1, none⟩ (.string (fh.extract 0 nn))) kf nm (fh.extract 0 nn) nn from ⟨blk_put (blk_put HFb.out.blk 2 (.int .i64 nn) rfl) 1 (.string (fh.extract 0 nn)) rfl⟩)
          have HIc := Aside0.mk ((HIb.out.far ⟨kf, 2, none⟩ (.int .i64 nn) fun q hq => Nat.ne_of_lt (HK.out.1 q hq)).far ⟨kf, 1, none⟩ (.string (fh.extract 0 nn)) fun q hq => Nat.ne_of_lt (HK.out.1 q hq))
          have HWc := Aside0.mk ((HWb.out.set (p := ⟨kf, 2, none⟩) (.inr HK.out.2) (.int .i64 nn)).set (p := ⟨kf, 1, none⟩) (.inr HK.out.2) (.string (fh.extract 0 nn)))
          clear hr1 hr2 hz0 hz1 hz2 hz3 hz4 d1 d2 g1 g2 HFb HIb HWb
          generalize ((Wb.setCell ⟨kf, 2, none⟩ (.int .i64 nn)).setCell ⟨kf, 1, none⟩ (.string (fh.extract 0 nn))) = Wc at *
          have HFd := Aside0.mk (FBox.fr HFc.out (Fr.drew (Fr.refl (fun _ => False) Wc)) (fun h => h))
          have HId := Aside0.mk (show RdAt Wc.drew gh (.slice (some ⟨g, 0, none⟩) n c9) (D0 (pre ++ (k, ⟨fh, fs⟩) :: r)) from HIc.out.move fun k hk _ => rfl)
          have HWd := Aside0.mk (show Fr (HR gh (some g)) W Wc.drew from HWc.out.drew)
          have d0 : ({ Wc with drawn := Wc.drawn + 1 } : World).cell? ⟨kf, 0, none⟩ = some (.string nm) := (blk_cell HFd.out.blk 0).trans rfl
          have d1 : ({ Wc with drawn := Wc.drawn + 1 } : World).cell? ⟨kf, 1, none⟩ = some (.string (fh.extract 0 nn)) := (blk_cell HFd.out.blk 1).trans rfl
          have d2 : ({ Wc with drawn := Wc.drawn + 1 } : World).cell? ⟨kf, 2, none⟩ = some (.int .i64 nn) := (blk_cell HFd.out.blk 2).trans rfl
          have e0 : ({ Wc with drawn := Wc.drawn + 1 } : World).cell? ⟨gh, 0, none⟩ = some (Value.slice (some ⟨g, 0, none⟩) n c9) := (blk_cell HId.out.blk 0).trans rfl
          clear HFc HIc HWc
          refine wp_region_still_tail 7 (by kernel_rfl) (by kernel_rfl) ?_
          simp only [List.take_succ_cons, List.take_zero, List.drop_succ_cons, List.drop_zero]
          have hWd : ({ Wc with drawn := Wc.drawn + 1 } : World) = Wc.drew := rfl
          rw [← hWd] at HFd HId HWd
          clear hWd
          generalize ({ Wc with drawn := Wc.drawn + 1 } : World) = Wd at *
          repeat still_step
          refine wpStill_nil ?_
          obtain ⟨cs, hl, hM, hcc, -⟩ := Kd.R_elem HId.out.row (k, ⟨fh, fs⟩) (j : Int) (by omega) (by omega)
          refine Kd.R_store fk (w0 := Wd) (o' := j * 3) 0 rfl rfl 67 (.tmp 76) (.tmp 75) rfl 67 (j : Int) 0 (pre ++ (k, (⟨fh, fs⟩ : Fl)) :: r) (k, ⟨fh.extract 0 nn, nn⟩) (.agg #[.string nm, .string (fh.extract 0 nn), .int .i64 nn]) [.string nm, .string (fh.extract 0 nn), .int .i64 nn] cs (fun _ => True) (fun _ => False) ?ha ?ho rfl rfl (by kernel_rfl) ?h1 HId.out.row (by omega) (by omega) hl hcc (Nat.le_refl 3) ?hM (fun _ hk => hk.elim) (below_zero _) ?_
          case ha => first | rfl | simp [go_sem]
          case ho => show j * 3 = ((j : Int).toNat) * 3 + 0; omega
          case h1 => intro q hq; simp only [List.mem_cons, List.not_mem_nil, or_false] at hq; rcases hq with rfl | rfl | rfl <;> rfl
          case hM => show _ = fcells _; rw [List.take_zero, List.nil_append, List.drop_of_length_le (by rw [hl]; exact Nat.le_refl 3), List.append_nil, ← HNm.out]; rfl
          intro w8 hr8 _ hg8
          have htorn : torn ⟨fh, fs⟩ (x) = ⟨fh.extract 0 nn, nn⟩ := by
            have e : fs + (max 0 (x)) % (tail ⟨fh, fs⟩ + 1) = (nn : Int) := by
              rw [← HNN.out]
              show fs + (max 0 x) % ((fh.size : Int) - fs + 1) = _
              rw [HY.out]
            unfold torn
            rw [e, Int.toNat_natCast]
          rw [Int.toNat_natCast, ← HPJ.out, ← htorn] at hr8
          have HE := Aside0.mk (rd_torn HId.out HTl.out hr8 hg8)
          have HM' := Aside0.mk (rcr_torn HM.out HTl.out)
          rw [HH.out.1, HH.out.2, HXx.out] at HM'
          have HWe := Aside0.mk (HWd.out.trans HE.out.2)
          clear hr8 hg8 hcc hM hl d0 d1 d2 e0 htorn
          go_wp2_with fail
          go_roundg kq1
          case measure => omega
          case rel => exact ⟨j + 1, nx + 1, pre ++ [(k, torn ⟨fh, fs⟩ (x))], r, by go_num, by go_num, ⟨by have := HJ.out; omega, by simp [HPJ.out], by have := HJ.out; simp only [List.length_append, List.length_cons, List.length_nil] at this ⊢; omega, by have := HJ.out; omega⟩, HM', ⟨HE.out.1⟩, HWe⟩
        · have q6 : ¬ (nx : Int) < (dr.length : Int) := by omega
          have HH := Aside0.mk (headD_end dr nx (by omega))
          clear hd
          obtain ⟨nn, rfl⟩ : ∃ nn : Nat, fs = (nn : Int) := ⟨fs.toNat, by omega⟩
          go_wp2_with fail
          have hr1 := Int.emod_nonneg (0) (show (fh.size : Int) - (nn : Int) + 1 ≠ 0 by omega)
          have hr2 := Int.emod_lt_of_pos (0) (show 0 < (fh.size : Int) - (nn : Int) + 1 by omega)
          obtain ⟨kf, hkf⟩ : ∃ kf, wr.heap.size = kf := ⟨_, rfl⟩
          have hfl : FBox (wr.alloc (.cells #[.string nm, .string fh, .int .i64 (nn : Int)] 67)) kf nm fh (nn : Int) := ⟨hkf ▸ heap_alloc_new wr _⟩
          have HK := Aside0.mk (And.intro (show ∀ q, HR gh (some g) q → q < kf from fun q hq => by have := HX.out.old2 q hq; omega) (show W.heap.size ≤ kf by have := HF.out.size; omega))
          have hz1 : IntKind.i64.wrap ((fh.size : Int) - (nn : Int) + 1) = (fh.size : Int) - (nn : Int) + 1 := by rw [IntKind.wrap_i64]; omega
          have hz0 : IntKind.i64.wrap ((fh.size : Int) - (nn : Int)) = (fh.size : Int) - (nn : Int) := by rw [IntKind.wrap_i64]; omega
          have hz2 : ¬ ((fh.size : Int) - (nn : Int) + 1 = 0) := by omega
          have hz3 : Int.tmod (0) ((fh.size : Int) - (nn : Int) + 1) = (0) % ((fh.size : Int) - (nn : Int) + 1) := Int.tmod_eq_emod_of_nonneg (by omega)
          have hz4 : IntKind.i64.wrap ((nn : Int)) = (nn : Int) := by rw [IntKind.wrap_i64]; omega
          have hn0 : (0 : Int) ≤ (nn : Int) := by omega
          have hnb : (nn : Int) ≤ (fh.size : Int) := by omega
          rw [hkf]
          clear hkf c0 HX HF
          generalize (wr.alloc (.cells #[.string nm, .string fh, .int .i64 (nn : Int)] 67)) = Wa at *
          have HFb := Aside0.mk (FBox.fr hfl (Fr.drew (Fr.refl (fun _ => False) Wa)) (fun h => h))
          have HIb := Aside0.mk (show RdAt Wa.drew gh (.slice (some ⟨g, 0, none⟩) n c9) (D0 (pre ++ (k, ⟨fh, (nn : Int)⟩) :: r)) from HXal.out.move fun k hk _ => rfl)
          have HWb := Aside0.mk (show Fr (HR gh (some g)) W Wa.drew from HFal.out.drew)
          have d1 : ({ Wa with drawn := Wa.drawn + 1 } : World).cell? ⟨kf, 1, none⟩ = some (.string fh) := (blk_cell HFb.out.blk 1).trans rfl
          have d2 : ({ Wa with drawn := Wa.drawn + 1 } : World).cell? ⟨kf, 2, none⟩ = some (.int .i64 (nn : Int)) := (blk_cell HFb.out.blk 2).trans rfl
          have g2 : ({ Wa with drawn := Wa.drawn + 1 } : World).frozen? ⟨kf, 2, none⟩ = false := blk_frozen HFb.out.blk 2
          clear hfl HXal HFal
          refine wp_region_still_tail 13 (by kernel_rfl) (by kernel_rfl) ?_
          simp only [List.take_succ_cons, List.take_zero, List.drop_succ_cons, List.drop_zero]
          have hWb : ({ Wa with drawn := Wa.drawn + 1 } : World) = Wa.drew := rfl
          rw [← hWb] at HFb HIb HWb
          clear hWb
          generalize ({ Wa with drawn := Wa.drawn + 1 } : World) = Wb at *
          repeat still_step
          refine wpStill_nil ?_
          have g1 : Wb.frozen? ⟨kf, 1, none⟩ = false := blk_frozen HFb.out.blk 1
          go_wp2_with fail
          have HFc := Aside0.mk (show FBox ((Wb.setCell ⟨kf, 2, none⟩ (.int .i64 nn)).setCell ⟨kf, 1, none⟩ (.string (fh.extract 0 nn))) kf nm (fh.extract 0 nn) nn from ⟨blk_put (blk_put HFb.out.blk 2 (.int .i64 nn) rfl) 1 (.string (fh.extract 0 nn)) rfl⟩)
          have HIc := Aside0.mk ((HIb.out.far ⟨kf, 2, none⟩ (.int .i64 nn) fun q hq => Nat.ne_of_lt (HK.out.1 q hq)).far ⟨kf, 1, none⟩ (.string (fh.extract 0 nn)) fun q hq => Nat.ne_of_lt (HK.out.1 q hq))
          have HWc := Aside0.mk ((HWb.out.set (p := ⟨kf, 2, none⟩) (.inr HK.out.2) (.int .i64 nn)).set (p := ⟨kf, 1, none⟩) (.inr HK.out.2) (.string (fh.extract 0 nn)))
          clear hr1 hr2 hz0 hz1 hz2 hz3 hz4 d1 d2 g1 g2 HFb HIb HWb
          generalize ((Wb.setCell ⟨kf, 2, none⟩ (.int .i64 nn)).setCell ⟨kf, 1, none⟩ (.string (fh.extract 0 nn))) = Wc at *
          have HFd := Aside0.mk (FBox.fr HFc.out (Fr.drew (Fr.refl (fun _ => False) Wc)) (fun h => h))
          have HId := Aside0.mk (show RdAt Wc.drew gh (.slice (some ⟨g, 0, none⟩) n c9) (D0 (pre ++ (k, ⟨fh, (nn : Int)⟩) :: r)) from HIc.out.move fun k hk _ => rfl)
          have HWd := Aside0.mk (show Fr (HR gh (some g)) W Wc.drew from HWc.out.drew)
          have d0 : ({ Wc with drawn := Wc.drawn + 1 } : World).cell? ⟨kf, 0, none⟩ = some (.string nm) := (blk_cell HFd.out.blk 0).trans rfl
          have d1 : ({ Wc with drawn := Wc.drawn + 1 } : World).cell? ⟨kf, 1, none⟩ = some (.string (fh.extract 0 nn)) := (blk_cell HFd.out.blk 1).trans rfl
          have d2 : ({ Wc with drawn := Wc.drawn + 1 } : World).cell? ⟨kf, 2, none⟩ = some (.int .i64 nn) := (blk_cell HFd.out.blk 2).trans rfl
          have e0 : ({ Wc with drawn := Wc.drawn + 1 } : World).cell? ⟨gh, 0, none⟩ = some (Value.slice (some ⟨g, 0, none⟩) n c9) := (blk_cell HId.out.blk 0).trans rfl
          clear HFc HIc HWc
          refine wp_region_still_tail 7 (by kernel_rfl) (by kernel_rfl) ?_
          simp only [List.take_succ_cons, List.take_zero, List.drop_succ_cons, List.drop_zero]
          have hWd : ({ Wc with drawn := Wc.drawn + 1 } : World) = Wc.drew := rfl
          rw [← hWd] at HFd HId HWd
          clear hWd
          generalize ({ Wc with drawn := Wc.drawn + 1 } : World) = Wd at *
          repeat still_step
          refine wpStill_nil ?_
          obtain ⟨cs, hl, hM, hcc, -⟩ := Kd.R_elem HId.out.row (k, ⟨fh, (nn : Int)⟩) (j : Int) (by omega) (by omega)
          refine Kd.R_store fk (w0 := Wd) (o' := j * 3) 0 rfl rfl 67 (.tmp 76) (.tmp 75) rfl 67 (j : Int) 0 (pre ++ (k, (⟨fh, (nn : Int)⟩ : Fl)) :: r) (k, ⟨fh.extract 0 nn, nn⟩) (.agg #[.string nm, .string (fh.extract 0 nn), .int .i64 nn]) [.string nm, .string (fh.extract 0 nn), .int .i64 nn] cs (fun _ => True) (fun _ => False) ?ha ?ho rfl rfl (by kernel_rfl) ?h1 HId.out.row (by omega) (by omega) hl hcc (Nat.le_refl 3) ?hM (fun _ hk => hk.elim) (below_zero _) ?_
          case ha => first | rfl | simp [go_sem]
          case ho => show j * 3 = ((j : Int).toNat) * 3 + 0; omega
          case h1 => intro q hq; simp only [List.mem_cons, List.not_mem_nil, or_false] at hq; rcases hq with rfl | rfl | rfl <;> rfl
          case hM => show _ = fcells _; rw [List.take_zero, List.nil_append, List.drop_of_length_le (by rw [hl]; exact Nat.le_refl 3), List.append_nil, ← HNm.out]; rfl
          intro w8 hr8 _ hg8
          have htorn : torn ⟨fh, (nn : Int)⟩ (0) = ⟨fh.extract 0 nn, nn⟩ := by
            have e : (nn : Int) + (max 0 (0)) % (tail ⟨fh, (nn : Int)⟩ + 1) = (nn : Int) := by
              simp
            unfold torn
            rw [e, Int.toNat_natCast]
          rw [Int.toNat_natCast, ← HPJ.out, ← htorn] at hr8
          have HE := Aside0.mk (rd_torn HId.out HTl.out hr8 hg8)
          have HM' := Aside0.mk (rcr_torn HM.out HTl.out)
          rw [HH.out.1, HH.out.2] at HM'
          have HWe := Aside0.mk (HWd.out.trans HE.out.2)
          clear hr8 hg8 hcc hM hl d0 d1 d2 e0 htorn
          go_wp2_with fail
          go_roundg kq1
          case measure => omega
          case rel => exact ⟨j + 1, nx + 1, pre ++ [(k, torn ⟨fh, (nn : Int)⟩ (0))], r, by go_num, by go_num, ⟨by have := HJ.out; omega, by simp [HPJ.out], by have := HJ.out; simp only [List.length_append, List.length_cons, List.length_nil] at this ⊢; omega, by have := HJ.out; omega⟩, HM', ⟨HE.out.1⟩, HWe⟩
end Go.Proofs.Ytjkllbilfcopmaa.Dk
end

section
namespace Go.Proofs.Ytjkllbilfcopmaa.Dk
open Go.RowKit Go.Proofs.YtjkllbilfcopmaaW.PrintWords Go.Proofs.YtjkllbilfcopmaaW.PrintLast Go.Proofs.YtjkllbilfcopmaaW.PrintMore
set_option linter.unusedVariables false
set_option linter.unusedSimpArgs false
set_option maxRecDepth 100000 in
set_option maxHeartbeats 4000000 in
theorem rcrash_big (W : World) (gh : Nat) (v : Value) (d : DS) (i : RdAt W gh v d) (A : Option Addr) (dr : List Int) (c : Nat) (hcm : dr.length ≤ maxLen) (hbig : 4096 < dr.length) :
    Calls Try.prog 37 #[.pointer (some ⟨gh, 0, none⟩), .slice A dr.length c] W fun e W' => e = .returned (.int .i64 2) ∧ W = W' := by
  have q : (4096 : Int) < (dr.length : Int) := by omega
  unfold maxLen at hcm
  clear hbig i
  go_enter Try.func37, Try.ntmps37
  go_wp2
  go_ret
  exact ⟨rfl, rfl⟩
set_option maxRecDepth 100000 in
set_option maxHeartbeats 4000000 in
theorem rcrash_nil (W : World) (gh : Nat) (d : DS) (i : RdAt W gh (.slice none 0 0) d) (hz : d.m = []) (A : Option Addr) (dr : List Int) (c : Nat) (hcm : dr.length ≤ maxLen) (hbig : ¬ 4096 < dr.length) :
    Calls Try.prog 37 #[.pointer (some ⟨gh, 0, none⟩), .slice A dr.length c] W fun e W' => e = .returned (.int .i64 0) ∧ RdAt W' gh (.slice none 0 0) (D0 d.m) ∧ Fr (Only gh) W W' := by
  have q : ¬ (4096 : Int) < (dr.length : Int) := by omega
  unfold maxLen at hcm
  have f1 := blk_frozen i.blk 1
  have f2 := blk_frozen i.blk 2
  have c1 := (blk_cell i.blk 1).trans (show _ = some (Value.int .i64 (rl d)) from rfl)
  have c2 := (blk_cell i.blk 2).trans (show _ = some (Value.bool d.down) from rfl)
  have HI := Aside0.mk (i.two 2 1 (.bool false) (.int .i64 (-1)) (D0 d.m) rfl rfl (fine_d0 i.fine))
  have HZ := Aside0.mk hz
  clear i hbig hz
  go_enter Try.func37, Try.ntmps37
  go_wp2_with fail
  clear f1 f2 c1 c2
  generalize ((W.setCell ⟨gh, 2, none⟩ (.bool false)).setCell ⟨gh, 1, none⟩ (.int .i64 (-1))) = W1 at *
  have c0 := (blk_cell HI.out.1.blk 0).trans (show _ = some (Value.slice none 0 0) from rfl)
  go_loopg [5, 6] 1 (fun kq v5 v6 w' => v5 = .int .i64 0 ∧ v6 = .int .i64 0 ∧ w' = W1)
  case atStart => exact ⟨rfl, rfl, rfl⟩
  case round =>
    obtain ⟨rfl, rfl, rfl⟩ := hrel
    go_wp2
    go_ret
    exact ⟨rfl, HI.out.1, HI.out.2⟩
/-- Crash. -/
theorem rcrash_walk (W : World) (gh : Nat) (r : Option Nat) (d : DS) (i : IsRd W gh r d) (A : Option Addr) (dr : List Int) (c : Nat) (hA : IntsAt (HR gh r) W A dr) (hc : dr.length ≤ c) (hcm : c ≤ maxLen) (hdr : ∀ x ∈ dr, -9223372036854775808 ≤ x ∧ x ≤ 9223372036854775807) :
    Calls Try.prog 37 #[.pointer (some ⟨gh, 0, none⟩), .slice A dr.length c] W fun e W' => e = .returned (.int .i64 (crash d dr).2) ∧ RdTo W W' gh r (crash d dr).1 := by
  obtain ⟨v, i, rfl⟩ := i
  by_cases hbig : 4096 < dr.length
  · have hS : crash d dr = (d, 2) := by unfold crash; rw [if_pos hbig]
    rw [hS]
    exact (rcrash_big W gh v d i A dr c (Nat.le_trans hc hcm) hbig).mono fun e W' ⟨h1, h2⟩ => ⟨h1, by subst h2; exact ⟨_, ⟨v, i, rfl⟩, Fr.refl _ _, .inl rfl⟩⟩
  · have hS : crash d dr = (D0 (rcr d.m dr), 0) := by unfold crash; rw [if_neg hbig, crash_m i.st]
    rw [hS]
    rcases row_two i.row with ⟨rfl, hz⟩ | ⟨g, c9, rfl, hc9, hcm9⟩
    · have hz' : d.m = [] := List.eq_nil_of_length_eq_zero hz
      refine (rcrash_nil W gh d i hz' A dr c (Nat.le_trans hc hcm) hbig).mono fun e W' ⟨h1, h2, h3⟩ => ⟨h1, ?_⟩
      have e2 : rcr d.m dr = d.m := by rw [hz']; rfl
      rw [e2]
      exact RdTo.of_at h2 h3
    · exact (rcrash_some W gh g c9 d i hc9 hcm9 A dr c hA hc hcm hdr hbig _ rfl).mono fun e W' ⟨h1, h2, h3⟩ => ⟨h1, _, ⟨_, h2, rfl⟩, h3, .inl rfl⟩
theorem names_const (W : World) : Calls Try.prog 21 #[] W fun e W' => e = .returned (.bool true) ∧ W = W' := by
  go_enter Try.func21, Try.ntmps21
  go_wp2
  go_ret
  exact ⟨rfl, rfl⟩
theorem rnew_walk (W : World) : Calls Try.prog 20 #[] W fun e W' => e = .returned (.pointer (some ⟨W.heap.size, 0, none⟩)) ∧ RdAt W' W.heap.size (.slice none 0 0) new ∧ Below W.heap.size W W' := by
  go_enter Try.func20, Try.ntmps20
  go_wp2
  go_ret
  exact ⟨rfl, ⟨heap_alloc_new W _, Kd.R_nil _ _ _ _ _, new_fine, List.Pairwise.nil⟩, below_alloc (Below.refl _ _) _⟩
set_option maxRecDepth 100000 in
set_option maxHeartbeats 4000000 in
/-- Two slices of the same numbers are the same. -/
theorem sameI_walk (W : World) (S T : Nat → Prop) (A B : Option Addr) (l : List Int) (c c' : Nat) (hA : IntsAt S W A l) (hB : IntsAt T W B l) :
    Calls Try.prog 48 #[.slice A l.length c, .slice B l.length c'] W fun e W' => e = .returned (.bool true) ∧ Below W.heap.size W W' := by
  have HA := Lib.hid hA
  have HB := Lib.hid hB
  have hlm : l.length ≤ 9223372036854775807 := by have := hA.1; unfold maxLen at this; omega
  clear hA hB
  go_enter Try.func48, Try.ntmps48
  go_wp2
  go_loopg [5] (l.length + 1) (fun kq v5 w' => ∃ j : Nat, v5 = .int .i64 (j : Int) ∧ Hid (j + kq = l.length + 1 ∧ j ≤ l.length) ∧ Hid (Below W.heap.size W w'))
  case atStart => exact ⟨0, rfl, Lib.hid ⟨by omega, Nat.zero_le _⟩, Lib.hid (Below.refl _ _)⟩
  case round =>
    obtain ⟨j, rfl, HJ, HBl⟩ := hrel
    obtain ⟨j1, j2⟩ := HJ.out
    by_cases hj : j < l.length
    · obtain ⟨kq1, rfl⟩ : ∃ kq1, gk = kq1 + 1 := ⟨gk - 1, by omega⟩
      have hjj : (j : Int) < (l.length : Int) := by omega
      obtain ⟨ad, rfl, hc1⟩ := (HA.out.fr (Fr.of_below HBl.out)).at_ j hj
      obtain ⟨ad2, rfl, hc2⟩ := (HB.out.fr (Fr.of_below HBl.out)).at_ j hj
      go_wp2_with fail
      go_quiet (fail)
      go_wp2_with fail
      go_roundg kq1
      case measure => omega
      case rel => exact ⟨j + 1, by go_num, Lib.hid ⟨by omega, by omega⟩, Lib.hid (pw_below_drewN HBl.out _)⟩
    · have hjj : ¬ (j : Int) < (l.length : Int) := by omega
      go_wp2
      go_ret
      exact ⟨rfl, HBl.out⟩
theorem info3' : (Try.prog.info? 3).map (fun i => (i.zero, i.size, i.bytes)) = some (some (.int .i64 0), 1, 8) := by kernel_rfl
/-- What LendInts leaves: a row of one number more, at a new block. -/
def LentPost (W : World) (dr : List Int) (e : Ending) (W' : World) : Prop := ∃ g cap, e = .returned (.slice (some ⟨g, 0, none⟩) dr.length cap) ∧ dr.length + 1 ≤ cap ∧ cap ≤ maxLen ∧ W.heap.size ≤ g ∧ g < W'.heap.size ∧ (∀ j, j < dr.length + 1 → W'.cell? ⟨g, j, none⟩ = some (.int .i64 ((dr ++ [-77]).getD j 0))) ∧ Below W.heap.size W W'
theorem ints_c {S : Nat → Prop} {W : World} {A : Option Addr} {xs : List Int} (h : IntsAt S W A xs) : Kd.C (Kd.int .i64) W A xs.length xs :=
  Kd.C_of_reads (enc := Value.int .i64) (d := (0 : Int)) (h1 := fun _ => rfl) ⟨rfl, by have := h.1; unfold maxLen at this; omega, fun hp => by
    obtain ⟨ad, e, _, _, hc⟩ := h.2 hp
    exact ⟨ad, e, hc⟩⟩
theorem lent_row {W : World} {base : Nat} {v : Value} {l : List Int} (h : Kd.R (Kd.int .i64) 3 W base (fun _ => True) v l) (hl : 0 < l.length) : ∃ g cap, v = .slice (some ⟨g, 0, none⟩) l.length cap ∧ l.length ≤ cap ∧ cap ≤ maxLen ∧ base ≤ g ∧ g < W.heap.size ∧ ∀ j, j < l.length → W.cell? ⟨g, j, none⟩ = some (.int .i64 (l.getD j 0)) := by
  have ho := Kd.own_of_R h
  rcases ho.2 with ⟨rfl, h0⟩ | ⟨g, cap, cur, rfl, hb, hh, hnc, hcm, hcs, ht⟩
  · omega
  · refine ⟨g, cap, rfl, hnc, hcm, hb, blk_lt hh, fun j hj => ?_⟩
    rw [blk_cell hh j]
    have e2 : cur[j]? = (cur.toList.take (l.length * 1))[j]? := by
      rw [List.getElem?_take, if_pos (by omega)]; simp
    rw [e2, ht]
    unfold encs
    rw [List.getElem?_map, List.getElem?_eq_getElem hj]
    simp [List.getD_eq_getElem?_getD, hj]
set_option maxRecDepth 100000 in
set_option maxHeartbeats 4000000 in
theorem lend_walk (S : Nat → Prop) (W : World) (A : Option Addr) (dr : List Int) (c : Nat) (hA : IntsAt S W A dr) (hc : dr.length ≤ c) (hcm : c ≤ maxLen) (hsz : dr.length * 8 ≤ 140737488351232) :
    Calls Try.prog 36 #[.slice A dr.length c] W (LentPost W dr) := by
  have HA := Aside0.mk (ints_c hA)
  unfold maxLen at hcm
  clear hA
  go_enter Try.func36, Try.ntmps36
  go_wp2_with (
    first
    | ((with_reducible refine gate_dst (N := 4) rfl ?_); refine Kd.R_lit (Kd.int .i64) _ 3 ?hg (N := 4) ?hd (xs := ([] : List Int)) (inner := []) (ok := fun _ => True) (okp := fun _ => True) ?hr ?hp (fun _ hk => hk) trivial (Below.refl _ _) (Nat.le_refl _) (by simp) ?_; (case hd => rfl); (case hg => rfl); (case hr => first | (go_simp; done) | (go_simp; rfl)); (case hp => exact (Reps.none _ _)); intro v5 w5 ho hb hg hat; have HO5 := Aside0.mk ho; have HB5 := Aside0.mk hb; clear ho hb hg hat)
    | ((with_reducible refine gate_builtin (b := .append) (xs := #[.tmp 4, .tmp 5]) rfl ?_); at_builtin; refine Kd.R_append_rows (Kd.int .i64) (Rr := (Kd.int .i64).K w5) (w0 := W) W.heap.size rfl (.tmp 4) (.tmp 5) 29 3 (.int .i64 0) 8 rfl Try.underlying29 info3' rfl (by decide) (by decide) v5 [] dr _ _ _ (fun _ => True) (fun _ => False) rfl rfl HO5.out (Kd.C_below HA.out HB5.out) (fun _ _ h => h) (fun _ h => h.elim) (fun _ _ => trivial) HB5.out HB5.out.size (by simp only [List.length_nil]; omega) ?_; intro v6 w6 ho hb hg hat; have HO6 := Aside0.mk ho; have HB6 := Aside0.mk hb; clear ho hb hg hat)
    | ((with_reducible refine gate_builtin (b := .append) (xs := #[.tmp 7, .tmp 8]) rfl ?_); at_builtin; refine Kd.R_append (Kd.int .i64) (w0 := W) W.heap.size rfl (.tmp 7) (.tmp 8) 29 3 (.int .i64 0) 8 rfl Try.underlying29 info3' rfl (by decide) (by decide) v6 _ (-77) [.int .i64 (-77)] (fun _ => True) (fun _ => False) rfl rfl rfl (fun _ hk => hk.elim) (fun _ _ => trivial) HO6.out HB6.out HB6.out.size (by simp only [List.nil_append]; omega) ?_; intro v7 w7 ho hb hg hat; clear hg hat; obtain ⟨g7, cap7, rfl, hl7, hm7, hg7, hlt7, hc7⟩ := lent_row ho (by simp); have HC7 := Aside0.mk (And.intro hm7 (And.intro hg7 (And.intro hlt7 hc7))); have HB7 := Aside0.mk hb; have hcap : dr.length + 1 ≤ cap7 := (by simpa using hl7); have hcapi : (dr.length : Int) ≤ (cap7 : Int) := Int.ofNat_le.2 (Nat.le_of_succ_le hcap); clear ho hb hm7 hg7 hlt7 hc7 hl7))
  go_ret
  exact ⟨g7, cap7, rfl, hcap, HC7.out.1, HC7.out.2.1, HC7.out.2.2.1, fun j hj => by have := HC7.out.2.2.2 j (by simpa using hj); simpa using this, HB7.out⟩
set_option maxRecDepth 100000 in
set_option maxHeartbeats 4000000 in
theorem kept_walk (S : Nat → Prop) (W : World) (A : Option Addr) (dr : List Int) (c : Nat) (hA : IntsAt S W A dr) (hc : dr.length ≤ c) (hcm : dr.length ≤ maxLen) (g cap : Nat) (hcap : dr.length + 1 ≤ cap) (hcapm : cap ≤ maxLen) (hg : g < W.heap.size) (hcell : ∀ j, j < dr.length + 1 → W.cell? ⟨g, j, none⟩ = some (.int .i64 ((dr ++ [-77]).getD j 0))) :
    Calls Try.prog 38 #[.slice (some ⟨g, 0, none⟩) dr.length cap, .slice A dr.length c] W fun e W' => e = .returned (.bool true) ∧ Below W.heap.size W W' := by
  have hO : IntsAt (fun _ => False) W (some ⟨g, 0, none⟩) dr := ⟨hcm, fun hp => ⟨_, rfl, fun h => h, hg, fun j hj => by
    rw [add_plain, hcell j (by omega)]
    congr 2
    rw [List.getD_eq_getElem?_getD, List.getD_eq_getElem?_getD, List.getElem?_append_left hj]⟩⟩
  have HO := Aside0.mk hO
  have HA := Aside0.mk hA
  have HL := Aside0.mk (show W.cell? ⟨g, dr.length, none⟩ = some (.int .i64 (-77)) from by rw [hcell dr.length (by omega)]; congr 2; simp)
  unfold maxLen at hcapm
  have q1 : (dr.length : Int) + 1 ≤ (cap : Int) := by omega
  have HG := Aside0.mk hg
  clear hO hA hcell hcm hg
  go_enter Try.func38, Try.ntmps38
  go_wp2_with fail
  refine (sameI_walk W (fun _ => False) S (some ⟨g, 0, none⟩) A dr cap c HO.out HA.out).mono ?_
  rintro e w1 ⟨rfl, hB⟩
  have HB := Aside0.mk hB
  have hL1 : w1.cell? ⟨g, dr.length, none⟩ = some (.int .i64 (-77)) := (hB.cell (p := ⟨g, dr.length, none⟩) HG.out).trans HL.out
  clear hB
  go_wp2_with fail
  go_ret
  exact ⟨rfl, HB.out⟩
end Go.Proofs.Ytjkllbilfcopmaa.Dk
end

section
namespace Go.Proofs.Ytjkllbilfcopmaa.Dk
open Go.RowKit Go.Proofs.YtjkllbilfcopmaaW.PrintWords Go.Proofs.YtjkllbilfcopmaaW.PrintLast Go.Proofs.YtjkllbilfcopmaaW.PrintMore
set_option linter.unusedVariables false
set_option linter.unusedSimpArgs false
/-- All names may be. -/
def Nok (d : DS) : Prop := ∀ p ∈ d.m, nameOk ⟨p.1.toArray⟩ = true
theorem nok_chg {d : DS} (h : Nok d) : Nok d.chg := by unfold Nok; rw [chg_m]; exact h
theorem append_nok {d : DS} (h : Nok d) (s t : ByteArray) : Nok (append d s t).1 := by
  unfold append
  split
  · exact h
  · rename_i hn
    split
    · exact h
    · split
      · exact h
      · split
        · exact nok_chg h
        · intro p hp
          rcases FM.mem_put.1 hp with rfl | ⟨hp, _⟩
          · simpa using hn
          · exact h p hp
theorem altered_nok {d : DS} (h : Nok d) (s : ByteArray) : Nok (altered d s).1 := by
  unfold altered
  split
  · exact nok_chg h
  · exact h
theorem sync_nok {d : DS} (h : Nok d) (s : ByteArray) : Nok (sync d s).1 := by
  unfold sync
  split
  · rename_i hk
    intro p hp
    rcases FM.mem_put.1 hp with rfl | ⟨hp, _⟩
    · exact (altered_yes hk).1
    · exact h p hp
  · exact altered_nok h s
theorem rename_nok {d : DS} (h : Nok d) (s t : ByteArray) : Nok (rename d s t).1 := by
  unfold rename
  split
  · exact h
  · split
    · exact h
    · rename_i hn
      split
      · intro p hp
        rcases FM.mem_put.1 hp with rfl | ⟨hp, _⟩
        · simpa using hn
        · exact h p (FM.mem_del.1 hp).1
      · exact altered_nok h s
theorem remove_nok {d : DS} (h : Nok d) (s : ByteArray) : Nok (remove d s).1 := by
  unfold remove
  split
  · intro p hp
    exact h p (FM.mem_del.1 hp).1
  · exact altered_nok h s
theorem fuse_nok {d : DS} (h : Nok d) (n : Int) : Nok (fuse d n).1 := by
  unfold fuse
  split <;> exact h
theorem mem_rcr : ∀ (m : Fs) (dr : List Int) (p : FM.Key × Fl), p ∈ rcr m dr → ∃ q ∈ m, q.1 = p.1
  | [], _, p, h => by simp [rcr] at h
  | x :: r, dr, p, h => by
    rw [rcr_cons] at h
    split at h
    · rcases List.mem_cons.1 h with rfl | h
      · exact ⟨_, List.mem_cons_self, rfl⟩
      · obtain ⟨q, hq, e⟩ := mem_rcr r dr p h
        exact ⟨q, List.mem_cons_of_mem _ hq, e⟩
    · rcases List.mem_cons.1 h with rfl | h
      · exact ⟨x, List.mem_cons_self, rfl⟩
      · obtain ⟨q, hq, e⟩ := mem_rcr r dr.tail p h
        exact ⟨q, List.mem_cons_of_mem _ hq, e⟩
theorem crash_nok {d : DS} (h : Nok d) (hs : FL.St d.m) (dr : List Int) : Nok (crash d dr).1 := by
  unfold crash
  split
  · exact h
  · intro p hp
    simp only at hp
    rw [crash_m hs] at hp
    obtain ⟨q, hq, e⟩ := mem_rcr d.m dr p hp
    have := h q hq
    rw [e] at this
    exact this
/-- The program's disk (block g, map b) and the document's (block h, row r): the same files. -/
structure Pr (W0 W : World) (g b h : Nat) (r : Option Nat) (d : DS) : Prop where
  dk : IsDk W g b d
  rd : IsRd W h r d
  nk : Nok d
  gh : g ≠ h ∧ b ≠ h ∧ r ≠ some g ∧ r ≠ some b
  be : Below W0.heap.size W0 W
  lo : W0.heap.size ≤ g ∧ W0.heap.size ≤ b ∧ W0.heap.size ≤ h ∧ ∀ k, r = some k → W0.heap.size ≤ k
abbrev All (g b h : Nat) (r : Option Nat) : Nat → Prop := fun k => Two g b k ∨ HR h r k
def PrTo (W0 W W' : World) (g b h : Nat) (r : Option Nat) (d : DS) : Prop := ∃ r', Pr W0 W' g b h r' d ∧ Fr (All g b h r) W W' ∧ (r' = r ∨ ∀ k, r' = some k → W.heap.size ≤ k)
theorem IsRd.fr {W W1 : World} {h : Nat} {r : Option Nat} {d : DS} {S : Nat → Prop} (i : IsRd W h r d) (hf : Fr S W W1) (hn : ∀ k, HR h r k → ¬ S k) : IsRd W1 h r d := by
  obtain ⟨v, i, rfl⟩ := i
  exact ⟨v, i.move fun k hk hr => hf.block k hk (hn k hr), rfl⟩
theorem IsRd.below {W W1 : World} {h : Nat} {r : Option Nat} {d : DS} (i : IsRd W h r d) (hb : Below W.heap.size W W1) : IsRd W1 h r d := i.fr (S := fun _ => False) (Fr.of_below hb) fun _ _ h => h
theorem IsRd.old {W : World} {h : Nat} {r : Option Nat} {d : DS} (i : IsRd W h r d) : ∀ k, HR h r k → k < W.heap.size := fun k hk => by
  rcases hk with rfl | hk
  · exact i.lt
  · exact i.ltr k hk
theorem below_step {base : Nat} {w W W1 : World} (h : Below base w W) (hb : Below W.heap.size W W1) (hl : base ≤ W.heap.size) : Below base w W1 := h.trans (hb.mono hl)
theorem Pr.below {W0 W W1 : World} {g b h : Nat} {r : Option Nat} {d : DS} (p : Pr W0 W g b h r d) (hb : Below W.heap.size W W1) : Pr W0 W1 g b h r d :=
  ⟨p.dk.below hb, p.rd.below hb, p.nk, p.gh, below_step p.be hb p.be.size, p.lo⟩
theorem Pr.old {W0 W : World} {g b h : Nat} {r : Option Nat} {d : DS} (p : Pr W0 W g b h r d) : ∀ k, All g b h r k → k < W.heap.size := fun k hk => by
  rcases hk with (rfl | rfl) | hk
  · exact p.dk.lt.1
  · exact p.dk.lt.2
  · exact p.rd.old k hk
theorem Pr.low {W0 W : World} {g b h : Nat} {r : Option Nat} {d : DS} (p : Pr W0 W g b h r d) : ∀ k, All g b h r k → W0.heap.size ≤ k := fun k hk => by
  rcases hk with (rfl | rfl) | rfl | hk
  · exact p.lo.1
  · exact p.lo.2.1
  · exact p.lo.2.2.1
  · exact p.lo.2.2.2 k hk
theorem Pr.apart {W0 W : World} {g b h : Nat} {r : Option Nat} {d : DS} (p : Pr W0 W g b h r d) : ∀ k, HR h r k → ¬ Two g b k := fun k hk ht => by
  obtain ⟨n1, n2, n3, n4⟩ := p.gh
  rcases hk with rfl | hk
  · rcases ht with ht | ht
    · exact n1 ht.symm
    · exact n2 ht.symm
  · rcases ht with rfl | rfl
    · exact n3 hk
    · exact n4 hk
theorem Pr.st {W0 W : World} {g b h : Nat} {r : Option Nat} {d : DS} (p : Pr W0 W g b h r d) : FL.St d.m := by
  obtain ⟨v, i, _⟩ := p.rd
  exact i.st
theorem Pr.rd7 {W0 W W7 : World} {g b h : Nat} {r : Option Nat} {d : DS} (p : Pr W0 W g b h r d) (f7 : Fr (Two g b) W W7) : IsRd W7 h r d := p.rd.fr f7 p.apart
theorem Pr.two {W0 W W7 W8 : World} {g b h : Nat} {r : Option Nat} {d d' : DS} (p : Pr W0 W g b h r d) (h7 : IsDk W7 g b d') (f7 : Fr (Two g b) W W7) (h8 : RdTo W7 W8 h r d') (hnk : Nok d') : PrTo W0 W W8 g b h r d' := by
  obtain ⟨r', i8, f8, hr⟩ := h8
  have hnew : ∀ k, r' = some k → r = some k ∨ W.heap.size ≤ k := fun k hk => by
    rcases hr with rfl | hr
    · exact .inl hk
    · exact .inr (Nat.le_trans f7.size (hr k hk))
  have hlt := p.dk.lt
  obtain ⟨n1, n2, n3, n4⟩ := p.gh
  refine ⟨r', ⟨h7.fr f8 (fun e => ?_) (fun e => ?_), i8, hnk, ⟨n1, n2, fun e => ?_, fun e => ?_⟩, ?_, ⟨p.lo.1, p.lo.2.1, p.lo.2.2.1, fun k hk => ?_⟩⟩, (f7.mono fun k hk => .inl hk).trans (f8.mono fun k hk => .inr hk), ?_⟩
  · exact p.apart g e (.inl rfl)
  · exact p.apart b e (.inr rfl)
  · rcases hnew g e with e | e
    · exact n3 e
    · omega
  · rcases hnew b e with e | e
    · exact n4 e
    · omega
  · exact f8.below (f7.below p.be fun k hk => p.low k (.inl hk)) fun k hk => p.low k (.inr hk)
  · rcases hnew k hk with e | e
    · exact p.lo.2.2.2 k e
    · exact Nat.le_trans p.be.size e
  · rcases hr with rfl | hr
    · exact .inl rfl
    · exact .inr fun k hk => Nat.le_trans f7.size (hr k hk)
theorem PrTo.start {W0 W W1 W2 : World} {g b h : Nat} {r : Option Nat} {d : DS} (hb : Below W.heap.size W W1) (p : PrTo W0 W1 W2 g b h r d) : PrTo W0 W W2 g b h r d := by
  obtain ⟨r', p1, f, hr⟩ := p
  exact ⟨r', p1, (Fr.of_below hb).trans f, hr.imp id fun h k hk => Nat.le_trans hb.size (h k hk)⟩
theorem PrTo.step {W0 W W1 W2 : World} {g b h : Nat} {r : Option Nat} {d : DS} (p : PrTo W0 W W1 g b h r d) (hb : Below W1.heap.size W1 W2) : PrTo W0 W W2 g b h r d := by
  obtain ⟨r', p1, f, hr⟩ := p
  exact ⟨r', p1.below hb, f.trans (Fr.of_below hb), hr⟩
theorem Pr.to {W0 W W1 : World} {g b h : Nat} {r : Option Nat} {d : DS} (p : Pr W0 W g b h r d) (hb : Below W.heap.size W W1) : PrTo W0 W W1 g b h r d := ⟨r, p.below hb, Fr.of_below hb, .inl rfl⟩
theorem rdto_fr {W W' : World} {h : Nat} {r : Option Nat} {d : DS} (t : RdTo W W' h r d) : Fr (HR h r) W W' := by
  obtain ⟨r', _, f, _⟩ := t
  exact f
/-- The step's own copy of the call. -/
structure XA (W : World) (k : Nat) (kd : Int) (nm dt : ByteArray) (n : Int) (da : Option Addr) (dl dc : Nat) : Prop where
  blk : W.heap[k]? = some (.cells #[.int .i64 kd, .string nm, .string dt, .int .i64 n, .slice da dl dc] 38 (0, 0))
theorem XA.fr {W W1 : World} {k : Nat} {kd : Int} {nm dt : ByteArray} {n : Int} {da : Option Addr} {dl dc : Nat} {S : Nat → Prop} (x : XA W k kd nm dt n da dl dc) (hf : Fr S W W1) (hn : ¬ S k) : XA W1 k kd nm dt n da dl dc := ⟨(hf.block k (blk_lt x.blk) hn).trans x.blk⟩
theorem XA.cells {W : World} {k : Nat} {kd : Int} {nm dt : ByteArray} {n : Int} {da : Option Addr} {dl dc : Nat} (x : XA W k kd nm dt n da dl dc) : W.cell? ⟨k, 0, none⟩ = some (.int .i64 kd) ∧ W.cell? ⟨k, 1, none⟩ = some (.string nm) ∧ W.cell? ⟨k, 2, none⟩ = some (.string dt) ∧ W.cell? ⟨k, 3, none⟩ = some (.int .i64 n) ∧ W.cell? ⟨k, 4, none⟩ = some (.slice da dl dc) :=
  ⟨blk_cell x.blk 0, blk_cell x.blk 1, blk_cell x.blk 2, blk_cell x.blk 3, blk_cell x.blk 4⟩
theorem ints_mono {S T : Nat → Prop} {W : World} {A : Option Addr} {xs : List Int} (i : IntsAt S W A xs) (h : ∀ k, T k → S k) : IntsAt T W A xs := ⟨i.1, fun hp => by
  obtain ⟨ad, e, hn, hl, hc⟩ := i.2 hp
  exact ⟨ad, e, fun ht => hn (h _ ht), hl, hc⟩⟩
theorem lend_n (S : Nat → Prop) (W : World) (A : Option Addr) (dr : List Int) (n c : Nat) (hn : dr.length = n) (hA : IntsAt S W A dr) (hc : n ≤ c) (hcm : c ≤ maxLen) (hsz : n * 8 ≤ 140737488351232) : Calls Try.prog 36 #[.slice A n c] W (LentPost W dr) := by
  subst hn
  exact lend_walk S W A dr c hA hc hcm hsz
theorem crash_n (W : World) (g b : Nat) (d : DS) (h : IsDk W g b d) (A : Option Addr) (dr : List Int) (n c : Nat) (hn : dr.length = n) (hA : IntsAt (Two g b) W A dr) (hc : n ≤ c) (hcm : c ≤ maxLen) (hdr : ∀ x ∈ dr, -9223372036854775808 ≤ x ∧ x ≤ 9223372036854775807) :
    Calls Try.prog 13 #[.pointer (some ⟨g, 0, none⟩), .slice A n c] W fun e W' => e = .returned (.int .i64 (crash d dr).2) ∧ IsDk W' g b (crash d dr).1 ∧ Fr (Two g b) W W' := by
  subst hn
  exact crash_walk W g b d h A dr c hA hc hcm hdr
theorem rcrash_n (W : World) (gh : Nat) (r : Option Nat) (d : DS) (i : IsRd W gh r d) (A : Option Addr) (dr : List Int) (n c : Nat) (hn : dr.length = n) (hA : IntsAt (HR gh r) W A dr) (hc : n ≤ c) (hcm : c ≤ maxLen) (hdr : ∀ x ∈ dr, -9223372036854775808 ≤ x ∧ x ≤ 9223372036854775807) :
    Calls Try.prog 37 #[.pointer (some ⟨gh, 0, none⟩), .slice A n c] W fun e W' => e = .returned (.int .i64 (crash d dr).2) ∧ RdTo W W' gh r (crash d dr).1 := by
  subst hn
  exact rcrash_walk W gh r d i A dr c hA hc hcm hdr
theorem kept_n (S : Nat → Prop) (W : World) (A : Option Addr) (dr : List Int) (n c : Nat) (hn : dr.length = n) (hA : IntsAt S W A dr) (hc : n ≤ c) (hcm : n ≤ maxLen) (g cap : Nat) (hcap : n + 1 ≤ cap) (hcapm : cap ≤ maxLen) (hg : g < W.heap.size) (hcell : ∀ j, j < n + 1 → W.cell? ⟨g, j, none⟩ = some (.int .i64 ((dr ++ [-77]).getD j 0))) :
    Calls Try.prog 38 #[.slice (some ⟨g, 0, none⟩) n cap, .slice A n c] W fun e W' => e = .returned (.bool true) ∧ Below W.heap.size W W' := by
  subst hn
  exact kept_walk S W A dr c hA hc hcm g cap hcap hcapm hg hcell
/-- The lent row stays where a call leaves its block. -/
theorem lent_fr {S : Nat → Prop} {W W1 : World} {g n : Nat} {dr : List Int} (hc : ∀ j, j < n + 1 → W.cell? ⟨g, j, none⟩ = some (.int .i64 ((dr ++ [-77]).getD j 0))) (hg : g < W.heap.size) (hf : Fr S W W1) (hn : ¬ S g) : ∀ j, j < n + 1 → W1.cell? ⟨g, j, none⟩ = some (.int .i64 ((dr ++ [-77]).getD j 0)) := fun j hj => by
  rw [← hc j hj]
  exact World.cell?_of_block (hf.block g hg hn)
theorem lent_ints {S : Nat → Prop} {W : World} {g n : Nat} {dr : List Int} (hn : dr.length = n) (hm : n ≤ maxLen) (hc : ∀ j, j < n + 1 → W.cell? ⟨g, j, none⟩ = some (.int .i64 ((dr ++ [-77]).getD j 0))) (hg : g < W.heap.size) (hs : ¬ S g) : IntsAt S W (some ⟨g, 0, none⟩) dr := by
  subst hn
  refine ⟨hm, fun hp => ⟨_, rfl, hs, hg, fun j hj => ?_⟩⟩
  rw [add_plain, hc j (by omega)]
  congr 2
  rw [List.getD_eq_getElem?_getD, List.getD_eq_getElem?_getD, List.getElem?_append_left hj]
def StepPost (W0 W : World) (g b h : Nat) (r : Option Nat) (e : Ending) (W' : World) : Prop := e = .returned (.bool true) ∧ ∃ d', PrTo W0 W W' g b h r d'
set_option maxRecDepth 100000 in
set_option maxHeartbeats 8000000 in
theorem step_walk (W0 W : World) (g b h : Nat) (r : Option Nat) (d : DS) (p : Pr W0 W g b h r d) (kd : Int) (nm dt : ByteArray) (n : Int) (da : Option Addr) (dl dc : Nat) (dz : List Int) (ho : ActOk W0 ⟨kd, nm, dt, n, da, dl, dc, dz⟩) (hdl : dl * 8 ≤ 140737488351232) :
    Calls Try.prog 22 #[.pointer (some ⟨g, 0, none⟩), .pointer (some ⟨h, 0, none⟩), .agg #[.int .i64 kd, .string nm, .string dt, .int .i64 n, .slice da dl dc]] W (StepPost W0 W g b h r) := by
  have HO := Aside0.mk ho
  have hb0 := below_alloc (Below.refl W.heap.size W) (.cells #[.int .i64 kd, .string nm, .string dt, .int .i64 n, .slice da dl dc] 38)
  have HP := Aside0.mk (p.below hb0)
  have HB := Aside0.mk hb0
  have HX := Aside0.mk (show XA (W.alloc (.cells #[.int .i64 kd, .string nm, .string dt, .int .i64 n, .slice da dl dc] 38)) W.heap.size kd nm dt n da dl dc from ⟨heap_alloc_new W _⟩)
  have HK := Aside0.mk (show ∀ k, All g b h r k → k < W.heap.size from p.old)
  have hnm := ho.nm
  have hdt := ho.dt
  obtain ⟨hn1, hn2⟩ := wf_i64 ho.n
  simp only at hnm hdt hn1 hn2
  have hnm2 : nm.size ≤ maxLen := by unfold maxLen; omega
  have hdt2 : dt.size ≤ maxLen := by unfold maxLen; omega
  have HDl := Aside0.mk hdl
  clear p ho hb0 hdl
  go_enter Try.func22, Try.ntmps22
  go_wp2_with fail
  obtain ⟨kx, hkx⟩ : ∃ kx, W.heap.size = kx := ⟨_, rfl⟩
  rw [hkx] at HX HK ⊢
  have HKx := Aside0.mk (Nat.le_of_eq hkx)
  have hf1 : ¬ Two g b kx := fun e => Nat.lt_irrefl _ (HK.out kx (.inl e))
  have hf2 : ¬ HR h r kx := fun e => Nat.lt_irrefl _ (HK.out kx (.inr e))
  generalize (W.alloc (.cells #[.int .i64 kd, .string nm, .string dt, .int .i64 n, .slice da dl dc] 38)) = w1 at *
  clear hkx
  refine (among_walk kd 7 _ HO.out.kd (by decide) (by decide)).mono ?_
  rintro e w' ⟨rfl, rfl⟩
  have h40 := Int.emod_nonneg kd (show (7 : Int) ≠ 0 by decide)
  have h41 := Int.emod_lt_of_pos kd (show (0 : Int) < 7 by decide)
  generalize kd % 7 = km at h40 h41 ⊢
  have hkm : km = 0 ∨ km = 1 ∨ km = 2 ∨ km = 3 ∨ km = 4 ∨ km = 5 ∨ km = 6 := by omega
  have hbd := below_drew (Below.refl w1.heap.size w1)
  have HPd := Aside0.mk (HP.out.below hbd)
  have HBd := Aside0.mk (below_step HB.out hbd HB.out.size)
  have HXd := Aside0.mk (HX.out.fr (S := fun _ => False) (Fr.of_below hbd) fun h => h)
  obtain ⟨c0, c1, c2, c3, c4⟩ := HX.out.cells
  clear h40 h41 hbd
  rcases hkm with rfl | rfl | rfl | rfl | rfl | rfl | rfl
  · go_wp2_with fail
    go_region_held3 (fun w' => w'.cell? ⟨kx, 1, none⟩ = some (.string nm) ∧ w'.cell? ⟨kx, 2, none⟩ = some (.string dt)) (first | (dsimp only; refine ⟨?_, ?_⟩ <;> assumption) | (simp [*]; done)) (first | (go_at_call 11; refine (append_walk _ g b d HPd.out.dk nm dt hnm2 hdt).mono ?_; rintro e w7 ⟨rfl, hI7, hF7⟩; have hR7 := HPd.out.rd7 hF7; obtain ⟨d0, d1, d2, d3, d4⟩ := (HXd.out.fr hF7 hf1).cells) | (go_at_call 29; refine (rapp_walk _ h r d hR7 nm dt hdt).mono ?_; rintro e w8 ⟨rfl, hT8⟩; have hF8 := rdto_fr hT8; obtain ⟨x0, x1, x2, x3, x4⟩ := ((HXd.out.fr hF7 hf1).fr hF8 hf2).cells))
    have HE := Aside0.mk (PrTo.start HBd.out (HPd.out.two hI7 hF7 hT8 (append_nok HPd.out.nk nm dt)))
    clear hI7 hF7 hR7 hT8 hF8 d0 d1 d2 d3 d4 x0 x1 x2 x3 x4 c0 c1 c2 c3 c4
    go_wp2_with fail
    go_ret
    exact ⟨rfl, _, HE.out⟩
  · go_wp2_with fail
    go_region_held3 (fun w' => w'.cell? ⟨kx, 1, none⟩ = some (.string nm)) (first | assumption | (simp [*]; done)) (first | (go_at_call 12; refine (sync_walk _ g b d HPd.out.dk nm hnm2).mono ?_; rintro e w7 ⟨rfl, hI7, hF7⟩; have hR7 := HPd.out.rd7 hF7; obtain ⟨d0, d1, d2, d3, d4⟩ := (HXd.out.fr hF7 hf1).cells) | (go_at_call 30; refine (rsync_walk _ h r d hR7 nm).mono ?_; rintro e w8 ⟨rfl, hT8⟩; have hF8 := rdto_fr hT8; obtain ⟨x0, x1, x2, x3, x4⟩ := ((HXd.out.fr hF7 hf1).fr hF8 hf2).cells))
    have HE := Aside0.mk (PrTo.start HBd.out (HPd.out.two hI7 hF7 hT8 (sync_nok HPd.out.nk nm)))
    clear hI7 hF7 hR7 hT8 hF8 d0 d1 d2 d3 d4 x0 x1 x2 x3 x4 c0 c1 c2 c3 c4
    go_wp2_with fail
    go_ret
    exact ⟨rfl, _, HE.out⟩
  · go_wp2_with fail
    go_region_held3 (fun w' => w'.cell? ⟨kx, 1, none⟩ = some (.string nm) ∧ w'.cell? ⟨kx, 2, none⟩ = some (.string dt)) (first | (dsimp only; refine ⟨?_, ?_⟩ <;> assumption) | (simp [*]; done)) (first | (go_at_call 17; refine (rename_walk _ g b d HPd.out.dk nm dt hnm2 hdt2).mono ?_; rintro e w7 ⟨rfl, hI7, hF7⟩; have hR7 := HPd.out.rd7 hF7; obtain ⟨d0, d1, d2, d3, d4⟩ := (HXd.out.fr hF7 hf1).cells) | (go_at_call 31; refine (rrename_walk _ h r d hR7 nm dt).mono ?_; rintro e w8 ⟨rfl, hT8⟩; have hF8 := rdto_fr hT8; obtain ⟨x0, x1, x2, x3, x4⟩ := ((HXd.out.fr hF7 hf1).fr hF8 hf2).cells))
    have HE := Aside0.mk (PrTo.start HBd.out (HPd.out.two hI7 hF7 hT8 (rename_nok HPd.out.nk nm dt)))
    clear hI7 hF7 hR7 hT8 hF8 d0 d1 d2 d3 d4 x0 x1 x2 x3 x4 c0 c1 c2 c3 c4
    go_wp2_with fail
    go_ret
    exact ⟨rfl, _, HE.out⟩
  · go_wp2_with fail
    go_region_held3 (fun w' => w'.cell? ⟨kx, 1, none⟩ = some (.string nm)) (first | assumption | (simp [*]; done)) (first | (go_at_call 32; refine (remove_walk _ g b d HPd.out.dk nm hnm2).mono ?_; rintro e w7 ⟨rfl, hI7, hF7⟩; have hR7 := HPd.out.rd7 hF7; obtain ⟨d0, d1, d2, d3, d4⟩ := (HXd.out.fr hF7 hf1).cells) | (go_at_call 33; refine (rremove_walk _ h r d hR7 nm).mono ?_; rintro e w8 ⟨rfl, hT8⟩; have hF8 := rdto_fr hT8; obtain ⟨x0, x1, x2, x3, x4⟩ := ((HXd.out.fr hF7 hf1).fr hF8 hf2).cells))
    have HE := Aside0.mk (PrTo.start HBd.out (HPd.out.two hI7 hF7 hT8 (remove_nok HPd.out.nk nm)))
    clear hI7 hF7 hR7 hT8 hF8 d0 d1 d2 d3 d4 x0 x1 x2 x3 x4 c0 c1 c2 c3 c4
    go_wp2_with fail
    go_ret
    exact ⟨rfl, _, HE.out⟩
  · go_wp2_with fail
    refine (read_walk _ g b d HP.out.dk nm hnm2).mono ?_
    rintro e w7 ⟨rfl, hB7⟩
    have HP7 := Aside0.mk (HP.out.below hB7)
    have HX7 := Aside0.mk (HX.out.fr (S := fun _ => False) (Fr.of_below hB7) fun h => h)
    have HB7 := Aside0.mk (below_step HB.out hB7 HB.out.size)
    obtain ⟨rs, re, hre⟩ : ∃ rs re, read d nm = (rs, re) := ⟨_, _, rfl⟩
    have HRe := Aside0.mk hre
    rw [hre]
    clear hB7 c0 c1 c2 c3 c4 hre
    obtain ⟨c0, c1, c2, c3, c4⟩ := HX7.out.cells
    obtain ⟨v, hv, hvr⟩ := HP7.out.rd
    go_wp2_with fail
    refine (rread_walk _ h v d hv nm).mono ?_
    rw [HRe.out]
    rintro e w8 ⟨rfl, hB8⟩
    have HE := Aside0.mk (HP7.out.to hB8)
    have HB8 := Aside0.mk HB7.out
    clear hB8 hv hvr c0 c1 c2 c3 c4
    go_wp2_with fail
    go_ret
    exact ⟨rfl, _, PrTo.start HB7.out HE.out⟩
  · go_wp2_with fail
    go_region_held3 (fun w' => w'.cell? ⟨kx, 3, none⟩ = some (.int .i64 n)) (first | assumption | (simp [*]; done)) (first | (go_at_call 16; refine (fuse_walk _ g b d HPd.out.dk n hn2).mono ?_; rintro e w7 ⟨rfl, hI7, hF7⟩; have hR7 := HPd.out.rd7 hF7; obtain ⟨d0, d1, d2, d3, d4⟩ := (HXd.out.fr hF7 hf1).cells) | (go_at_call 35; obtain ⟨v, hv, hvr⟩ := hR7; refine (rfuse_walk _ h v d hv n hn2).mono ?_; rintro e w8 ⟨rfl, hT9, hF9⟩; have hT8 := hvr ▸ RdTo.of_at hT9 hF9; have hF8 := rdto_fr hT8; obtain ⟨x0, x1, x2, x3, x4⟩ := ((HXd.out.fr hF7 hf1).fr hF8 hf2).cells))
    have HE := Aside0.mk (PrTo.start HBd.out (HPd.out.two hI7 hF7 hT8 (fuse_nok HPd.out.nk n)))
    clear hI7 hF7 hT8 hF8 d0 d1 d2 d3 d4 x0 x1 x2 x3 x4 c0 c1 c2 c3 c4
    go_wp2_with fail
    go_ret
    exact ⟨rfl, _, HE.out⟩
  · obtain ⟨p1, p2, p3, p4, p5⟩ := row_ints HO.out.d
    simp only at p1 p2 p3 p4 p5
    obtain ⟨dr, hdr⟩ : ∃ dr, dz.take dl = dr := ⟨_, rfl⟩
    rw [hdr] at p1 p4 p5
    have HQ := Aside0.mk (And.intro p1 (And.intro p2 (And.intro p3 p5)))
    have HIn := Aside0.mk (show ∀ W1, Fr (All g b h r) W0 W1 → IntsAt (All g b h r) W1 da dr from fun W1 hf => (p4 _ HP.out.low).fr hf)
    clear p1 p2 p3 p4 p5 hdr HBd HPd HXd
    go_wp2_with fail
    refine (lend_n (All g b h r) w1 da dr dl dc HQ.out.1 (HIn.out w1 (Fr.of_below HP.out.be)) HQ.out.2.1 HQ.out.2.2.1 HDl.out).mono ?_
    rintro e w2 ⟨g7, cap, rfl, hcap, hcapm, hg7, hlt7, hc7, hB2⟩
    have HL := Aside0.mk (And.intro hcap (And.intro hcapm hc7))
    have hbd := below_drew (Below.refl w2.heap.size w2)
    have HP2 := Aside0.mk ((HP.out.below hB2).below hbd)
    have HB2 := Aside0.mk (below_step (below_step HB.out hB2 HB.out.size) hbd (Nat.le_trans HB.out.size hB2.size))
    have HX2 := Aside0.mk ((HX.out.fr (S := fun _ => False) (Fr.of_below hB2) fun h => h).fr (S := fun _ => False) (Fr.of_below hbd) fun h => h)
    have hng : ¬ All g b h r g7 := fun e => by have := HP.out.old g7 e; omega
    have HNg := Aside0.mk (And.intro hng (show g7 < w2.drew.heap.size from hlt7))
    have HC2 := Aside0.mk (lent_fr (S := fun _ => False) hc7 hlt7 (Fr.of_below hbd) fun h => h)
    rw [HQ.out.1] at HC2
    rw [HQ.out.1] at hcap
    have hcap' := Aside0.mk hcap
    rw [HQ.out.1]
    obtain ⟨-, -, -, -, y4⟩ := HX2.out.cells
    clear hB2 hbd hc7 hg7 hlt7 hcap hcapm hng c0 c1 c2 c3 c4
    go_wp2_with fail
    go_region_held3 (fun w' => w'.cell? ⟨kx, 4, none⟩ = some (.slice da dl dc)) (first | assumption | (simp [*]; done)) (first | (go_at_call 13; refine (crash_n _ g b d HP2.out.dk (some ⟨g7, 0, none⟩) dr dl cap HQ.out.1 (lent_ints HQ.out.1 (Nat.le_trans HQ.out.2.1 HQ.out.2.2.1) HC2.out HNg.out.2 fun e => HNg.out.1 (.inl e)) (Nat.le_of_succ_le hcap'.out) HL.out.2.1 HQ.out.2.2.2).mono ?_; rintro e w7 ⟨rfl, hI7, hF7⟩; have hR7 := HP2.out.rd7 hF7; have hA7 := HIn.out w7 ((Fr.of_below HP2.out.be).trans (hF7.mono fun k hk => .inl hk)); have hL7 := lent_fr HC2.out HNg.out.2 hF7 fun e => HNg.out.1 (.inl e); obtain ⟨d0, d1, d2, d3, d4⟩ := (HX2.out.fr hF7 hf1).cells) | (go_at_call 37; refine (rcrash_n _ h r d hR7 da dr dl dc HQ.out.1 (ints_mono hA7 fun k hk => .inr hk) HQ.out.2.1 HQ.out.2.2.1 HQ.out.2.2.2).mono ?_; rintro e w8 ⟨rfl, hT8⟩; have hF8 := rdto_fr hT8; have hA8 := hA7.fr (hF8.mono fun k hk => .inr hk); have hL8 := lent_fr hL7 (Nat.lt_of_lt_of_le HNg.out.2 hF7.size) hF8 fun e => HNg.out.1 (.inr e); obtain ⟨x0, x1, x2, x3, x4⟩ := ((HX2.out.fr hF7 hf1).fr hF8 hf2).cells) | (go_at_call 38; refine (kept_n (All g b h r) _ da dr dl dc HQ.out.1 hA8 HQ.out.2.1 (Nat.le_trans HQ.out.2.1 HQ.out.2.2.1) g7 cap hcap'.out HL.out.2.1 (Nat.lt_of_lt_of_le HNg.out.2 (Nat.le_trans hF7.size hF8.size)) hL8).mono ?_; rintro e w9 ⟨rfl, hB9⟩; obtain ⟨z0, z1, z2, z3, z4⟩ := (((HX2.out.fr hF7 hf1).fr hF8 hf2).fr (S := fun _ => False) (Fr.of_below hB9) fun h => h).cells))
    have HE := Aside0.mk ((PrTo.start HB2.out (HP2.out.two hI7 hF7 hT8 (crash_nok HP2.out.nk HP2.out.st dr))).step hB9)
    clear hI7 hF7 hR7 hT8 hF8 hB9 hA7 hA8 hL7 hL8 d0 d1 d2 d3 d4 x0 x1 x2 x3 x4 y4 z0 z1 z2 z3 z4
    go_wp2_with fail
    go_ret
    exact ⟨rfl, _, HE.out⟩
end Go.Proofs.Ytjkllbilfcopmaa.Dk
end

section
namespace Go.Proofs.Ytjkllbilfcopmaa.Dk
open Go.RowKit Go.Proofs.YtjkllbilfcopmaaW.PrintWords Go.Proofs.YtjkllbilfcopmaaW.PrintLast Go.Proofs.YtjkllbilfcopmaaW.PrintMore
set_option linter.unusedVariables false
set_option linter.unusedSimpArgs false
theorem texts_n (W : World) (S T : Nat → Prop) (A B : Option Addr) (l : List ByteArray) (n c c' : Nat) (hl : l.length = n) (hA : StrsAt S W A l) (hB : StrsAt T W B l) :
    Calls Try.prog 19 #[.slice A n c, .slice B n c'] W fun e W' => e = .returned (.bool true) ∧ Below W.heap.size W W' := by
  subst hl
  exact same_walk W S T A B l c c' hA hB
theorem names_n (W : World) (g b : Nat) (d : DS) (h : IsDk W g b d) (hs : FL.St d.m) : Calls Try.prog 27 #[.pointer (some ⟨g, 0, none⟩)] W (NmPost W d.m) :=
  (names_walk W g b d h).mono fun e W' ⟨v, he, ho, hb⟩ => by
    obtain ⟨A, c, rfl, hA, -, -⟩ := own_row (S := fun _ => False) ho fun _ _ h => h
    rw [nameL_nm hs] at hA he
    rw [nmB_len] at he
    exact ⟨A, c, he, hA, hb⟩
theorem read_at_i {d : DS} (hs : FL.St d.m) (hn : Nok d) (j : Nat) (hj : j < d.m.length) : read d ((nmB d.m).getD j ByteArray.empty) = ((d.m[j]).2.has, 0) := by
  have e : (nmB d.m).getD j ByteArray.empty = ⟨(d.m[j]).1.toArray⟩ := by simp [nmB, List.getD_eq_getElem?_getD, hj]
  rw [e]
  have hk : nameOk ⟨(d.m[j]).1.toArray⟩ = true := hn _ (List.getElem_mem hj)
  have hg : FM.get d.m (d.m[j]).1 = some (d.m[j]).2 := by
    obtain ⟨pre, r, hm⟩ : ∃ pre r, d.m = pre ++ d.m[j] :: r := ⟨d.m.take j, d.m.drop (j + 1), by rw [← List.drop_eq_getElem_cons hj, List.take_append_drop]⟩
    have h1 := hs
    rw [hm] at h1
    have := get_pre h1
    rw [← hm] at this
    exact this
  unfold read known there file
  rw [hk]
  simp [hg]
set_option maxRecDepth 100000 in
set_option maxHeartbeats 8000000 in
theorem same_disks (W0 W : World) (g b h : Nat) (r : Option Nat) (d : DS) (p : Pr W0 W g b h r d) :
    Calls Try.prog 23 #[.pointer (some ⟨g, 0, none⟩), .pointer (some ⟨h, 0, none⟩)] W fun e W' => e = .returned (.bool true) ∧ Below W.heap.size W W' := by
  have HP := Aside0.mk p
  obtain ⟨m, hm⟩ : ∃ m, d.m = m := ⟨_, rfl⟩
  have hlen := p.dk.fine.many
  clear p
  obtain ⟨n, hn⟩ : ∃ n, d.m.length = n := ⟨_, rfl⟩
  rw [hn] at hlen
  have HN := Aside0.mk hn
  clear hn hm
  go_enter Try.func23, Try.ntmps23
  go_wp2_with fail
  refine (names_n W g b d HP.out.dk HP.out.st).mono ?_
  rintro e w1 ⟨A1, c1, rfl, hA1, hB1⟩
  have HA1 := Aside0.mk hA1
  have HB1 := Aside0.mk hB1
  rw [HN.out]
  clear hA1 hB1
  go_wp2_with fail
  obtain ⟨v, hv, hvr⟩ := (HP.out.below HB1.out).rd
  refine (rnames_walk w1 h v d hv).mono ?_
  rintro e w2 ⟨A2, c2, rfl, hA2, hB2⟩
  have HA2 := Aside0.mk hA2
  have HB2 := Aside0.mk (below_step HB1.out hB2 HB1.out.size)
  have HA12 := Aside0.mk (HA1.out.fr (Fr.of_below (S := fun _ => False) hB2))
  rw [HN.out]
  clear hA2 hB2
  go_wp2_with fail
  refine (texts_n w2 (fun _ => False) (fun _ => False) A1 A2 (nmB d.m) n c1 c2 (by rw [nmB_len]; exact HN.out) HA12.out HA2.out).mono ?_
  rintro e w3 ⟨rfl, hB3⟩
  have HB3 := Aside0.mk (below_step HB2.out hB3 HB2.out.size)
  have HA13 := Aside0.mk (HA12.out.fr (Fr.of_below (S := fun _ => False) hB3))
  have HV := Aside0.mk (And.intro (show RdAt W h v d from by
    obtain ⟨v', i, e⟩ := HP.out.rd
    have h1 := (i.move fun k hk _ => HB1.out.block k hk).blk
    rw [hv.blk] at h1
    simp only [Option.some.injEq, Obj.cells.injEq, Array.mk.injEq, List.cons.injEq, and_true] at h1
    obtain rfl := h1
    exact i) hvr)
  clear hB3 hv hvr HA12 HA2
  go_wp2_with fail
  go_loopg [6] (n + 1) (fun kq v6 w' => ∃ j : Nat, v6 = .int .i64 (j : Int) ∧ Aside0 (j + kq = n + 1 ∧ j ≤ n) ∧ Aside0 (StrsAt (fun _ => False) w' A1 (nmB d.m)) ∧ Aside0 (Below W.heap.size W w'))
  case atStart => exact ⟨0, rfl, ⟨by omega, Nat.zero_le _⟩, HA13, HB3⟩
  case round =>
    clear HA13 HB3
    obtain ⟨j, rfl, HJ, HA, HB⟩ := hrel
    by_cases hj : j < n
    · obtain ⟨kq1, rfl⟩ : ∃ kq1, gk = kq1 + 1 := ⟨gk - 1, by have := HJ.out; omega⟩
      have hji : (j : Int) < (n : Int) := by omega
      have hjl : j < d.m.length := by rw [HN.out]; exact hj
      obtain ⟨ad, rfl, hx⟩ := HA.out.at_ j (by rw [nmB_len]; exact hjl)
      have HJl := Aside0.mk hjl
      obtain ⟨hs, hhs⟩ : ∃ hs, (d.m[j]'HJl.out).2.has = hs := ⟨_, rfl⟩
      have hR := read_at_i HP.out.st HP.out.nk j HJl.out
      rw [hhs] at hR
      have HHs := Aside0.mk hhs
      have HR := Aside0.mk hR
      clear hR hhs
      obtain ⟨nm, hnm⟩ : ∃ nm, (nmB d.m).getD j ByteArray.empty = nm := ⟨_, rfl⟩
      rw [hnm] at hx HR
      have hsz : nm.size ≤ maxLen := by
        have hp := HP.out.dk.fine.fls _ (List.getElem_mem hjl)
        rw [← hnm]
        simp only [nmB, List.getD_eq_getElem?_getD, List.getElem?_map, List.getElem?_eq_getElem hjl, Option.map_some, Option.getD_some]
        show (d.m[j]).1.toArray.size ≤ _
        rw [List.size_toArray]
        have := hp.2.2.2
        unfold maxLen
        omega
      have HPj := Aside0.mk (HP.out.below HB.out)
      clear hnm hjl
      go_wp2_with fail
      refine (read_walk wr g b d HPj.out.dk nm hsz).mono ?_
      rw [HR.out]
      rintro e w5 ⟨rfl, hB5⟩
      have HB5 := Aside0.mk (below_step HB.out hB5 HB.out.size)
      have HA5 := Aside0.mk (HA.out.fr (Fr.of_below (S := fun _ => False) hB5))
      have hI5 := HV.out.1.move fun k hk _ => HB5.out.block k hk
      obtain ⟨A9, c9, hv9, hc9, hcm9, hat⟩ := row_shape hI5.row
      obtain ⟨gr, e9, -, x1, -⟩ := hat j HJl.out
      subst e9
      have hc0 := hI5.blk
      rw [hv9, HN.out] at hc0
      have c0 := (blk_cell hc0 0).trans (show _ = some (Value.slice (some ⟨gr, 0, none⟩) n c9) from rfl)
      have q9 : (n : Int) ≤ (c9 : Int) := by rw [HN.out] at hc9; omega
      rw [HHs.out] at x1
      clear hB5 hat hc0 hI5 hv9 hx
      go_wp2_with fail
      go_roundg kq1
      case measure => have := HJ.out; omega
      case rel => exact ⟨j + 1, by go_num, ⟨by have := HJ.out; omega, by have := HJ.out; omega⟩, HA5, HB5⟩
    · have hji : ¬ (j : Int) < (n : Int) := by omega
      go_wp2
      go_ret
      exact ⟨rfl, HB.out⟩
end Go.Proofs.Ytjkllbilfcopmaa.Dk
end

section
namespace Go.Proofs.Ytjkllbilfcopmaa.Dk
open Go.RowKit Go.Deep Go.ChangeShapes Go.WideShapes Go.Proofs.YtjkllbilfcopmaaW.PrintWords
set_option linter.unusedVariables false
set_option linter.unusedSimpArgs false
section
variable {H : Type} {enc : TypeId × Value → H} {W : World} {base : Nat} {spare : Nat → Bool} {held : Bool}
theorem acts_open2 {v : Value} {d : DataW H} {ps : List MemPlace} {ts : List TypeId} {ds : List (DataW H)} {j : Nat}
    (hsz : (DataW.weightsEach Try.prog ts ds).all (· ≤ reachBytes) = true) (htj : ts[j]? = some 36) (hdj : ds[j]? = some d)
    (hv : Value.okWide Try.prog W .any base 36 v) (h : DataW.Trod enc Try.prog W 0 (fun _ => true) true 36 v d ps) :
    ∃ (A : Option Addr) (acts : List Act5) (c : Nat), v = .slice A acts.length c ∧ ActsAt W A acts ∧ acts.length ≤ c ∧ ∀ i (h : i < acts.length), (acts[i]).dl * 8 ≤ 140737488351232 := by
  obtain ⟨A, n, c, rfl⟩ := okWide_slice Try.underlying36 hv
  obtain ⟨fuel, hf⟩ := h
  have k38 : Try.prog.cellsOf 38 = 5 := by kernel_rfl
  rcases open_slice Try.underlying36 hf with ⟨hcs, _⟩ | ⟨x, l, cc, m, n2, D, Pl, hcs, _, hl, hm, hmm, hx, hi⟩
  · simp [Value.cells] at hcs
    obtain ⟨rfl, rfl, rfl⟩ := hcs
    exact ⟨none, [], 0, rfl, ⟨by simp, fun i hi => absurd hi (by simp)⟩, Nat.le_refl _, fun i hi => absurd hi (by simp)⟩
  · simp [Value.cells] at hcs
    obtain ⟨rfl, rfl, rfl⟩ := hcs
    have hmc : m = c := by simpa using hmm
    subst hmc
    obtain ⟨hxd, _⟩ := Prod.mk.inj hx
    have hall := DataW.weights_mem_each (P := Try.prog) htj hdj
    have hstr : ∀ i, i < n → ∀ b ∈ DataW.weights Try.prog 38 (D i), b ≤ reachBytes := fun i hin b hb => by
      have hmem : b ∈ DataW.weights Try.prog 36 d := by
        rw [hxd]
        simp only [DataW.weights, Try.underlying36, List.mem_cons, List.mem_append]
        exact .inr (.inl (weightsAll_mem hb (List.mem_map.2 ⟨i, List.mem_range.2 hin, rfl⟩)))
      have := List.all_eq_true.1 hsz _ (hall b hmem)
      simpa using this
    have hr : reachBytes ≤ 140737488351232 := by decide
    obtain ⟨acts, hal, hacts⟩ := list_of (n := n) (P := fun i (a : Act5) => ActOk W a ∧ a.dl * 8 ≤ 140737488351232 ∧ x.block < W.heap.size ∧
      W.cell? (x.add (i * 5)) = some (.int .i64 a.kd) ∧ W.cell? (x.add (i * 5 + 1)) = some (.string a.nm) ∧ W.cell? (x.add (i * 5 + 2)) = some (.string a.dt) ∧ W.cell? (x.add (i * 5 + 3)) = some (.int .i64 a.n) ∧ W.cell? (x.add (i * 5 + 4)) = some (.slice a.da a.dl a.dc)) (fun i hin => by
        obtain ⟨cs', hc, ht'⟩ := hi i (by omega)
        rw [k38] at hc
        obtain ⟨c0, c1, c2, c3, c4, y0, y1, y2, y3, y4, n', rfl, hD, t0, t1, t2, t3, t4⟩ := act_open ht'
        obtain ⟨_, _, hat⟩ := World.cells?_some hc
        obtain ⟨kd, e0, _, w0⟩ := DataW.trod_int Try.underlying3 t0
        obtain ⟨nm, e1, f1, w1⟩ := DataW.trod_string Try.underlying9 t1
        obtain ⟨dt, e2, f2, w2⟩ := DataW.trod_string Try.underlying9 t2
        obtain ⟨nn, e3, _, w3⟩ := DataW.trod_int Try.underlying3 t3
        obtain ⟨da, dl, dc, dz, e4, w4⟩ := ints_open t4
        simp only [List.cons.injEq, and_true] at e0 e1 e2 e3
        subst e0 e1 e2 e3 e4
        have hw : ∀ b ∈ DataW.weightsEach Try.prog [3, 9, 9, 3, 29] [y0.1, y1.1, y2.1, y3.1, y4.1], b ≤ reachBytes := fun b hb => hstr i hin b (by
          rw [show D i = .agg [y0.1, y1.1, y2.1, y3.1, y4.1] from hD]
          simp only [DataW.weights, Try.underlying38]
          exact hb)
        have hnm : nm.size ≤ 140737488351232 := by
          have := hw nm.data.toList.length (DataW.weights_mem_each (j := 1) rfl rfl _ (by rw [f1]; simp [DataW.weights]))
          rw [Array.length_toList] at this
          exact Nat.le_trans this hr
        have hdt : dt.size ≤ 140737488351232 := by
          have := hw dt.data.toList.length (DataW.weights_mem_each (j := 2) rfl rfl _ (by rw [f2]; simp [DataW.weights]))
          rw [Array.length_toList] at this
          exact Nat.le_trans this hr
        have hdl : dl * 8 ≤ 140737488351232 := sized_ints (ts := [3, 9, 9, 3, 29]) (ds := [y0.1, y1.1, y2.1, y3.1, y4.1]) (j := 4) (List.all_eq_true.2 fun b hb => decide_eq_true (hw b hb)) rfl rfl Try.underlying29 Try.underlying3 (by kernel_rfl) (by kernel_rfl) (ps := y4.2) ⟨n', by simpa [Value.cells] using t4⟩
        have g0 := hat 0 (by decide)
        have g1 := hat 1 (by decide)
        have g2 := hat 2 (by decide)
        have g3 := hat 3 (by decide)
        have g4 := hat 4 (by decide)
        have hblk := World.block_lt_of_cell? W _ g0
        rw [add_block', add_block'] at hblk
        refine ⟨⟨kd, nm, dt, nn, da, dl, dc, dz⟩, ⟨w0, hnm, hdt, w3, w4⟩, hdl, hblk, ?_, ?_, ?_, ?_, ?_⟩
        · rw [Dk.add_add] at g0; exact g0
        · rw [Dk.add_add] at g1; exact g1
        · rw [Dk.add_add] at g2; exact g2
        · rw [Dk.add_add] at g3; exact g3
        · rw [Dk.add_add] at g4; exact g4)
    refine ⟨some x, acts, m, by rw [hal], ⟨by omega, fun i hi2 => ?_⟩, by omega, fun i hi2 => (hacts i hi2).2.1⟩
    obtain ⟨ho, -, hb, h0, h1, h2, h3, h4⟩ := hacts i hi2
    exact ⟨ho, x, rfl, hb, h0, h1, h2, h3, h4⟩
end
end Go.Proofs.Ytjkllbilfcopmaa.Dk
end

section
namespace Go.Proofs.Ytjkllbilfcopmaa.Dk
open Go.RowKit Go.Proofs.YtjkllbilfcopmaaW.PrintWords Go.Proofs.YtjkllbilfcopmaaW.PrintLast Go.Proofs.YtjkllbilfcopmaaW.PrintMore
set_option linter.unusedVariables false
set_option linter.unusedSimpArgs false
theorem ok_move {W W1 : World} {a : Act5} (h : ActOk W a) (hb : Below W.heap.size W W1) : ActOk W1 a := ⟨h.kd, h.nm, h.dt, h.n, row_move h.d hb⟩
theorem nok_new : Nok new := fun p hp => by cases hp
/-- Two new disks, side by side. -/
theorem pr_new {W0 W1 W2 W3 : World} {g b h : Nat} (hg : g = W1.heap.size + 1 ∧ b = W1.heap.size) (hB1 : Below W0.heap.size W0 W1) (hI : IsDk W2 g b new) (hB2 : Below W1.heap.size W1 W2) (hh : h = W2.heap.size) (hr : RdAt W3 h (.slice none 0 0) new) (hB3 : Below W2.heap.size W2 W3) : Pr W0 W3 g b h none new := by
  obtain ⟨rfl, rfl⟩ := hg
  subst hh
  have h1 := hB1.size
  have h2 := hB2.size
  have hl := hI.lt
  refine ⟨hI.below hB3, ⟨_, hr, rfl⟩, nok_new, ⟨by omega, by omega, by simp, by simp⟩, below_step (below_step hB1 hB2 h1) hB3 (by omega), by omega, by omega, by omega, fun k hk => by cases hk⟩
set_option maxRecDepth 100000 in
set_option maxHeartbeats 8000000 in
theorem plays_walk (A : Option Addr) (acts : List Act5) (c : Nat) (W : World) (hA : ActsAt W A acts) (hc : acts.length ≤ c) (hdl : ∀ i (h : i < acts.length), (acts[i]).dl * 8 ≤ 140737488351232) :
    Calls Try.prog 7 #[.slice A acts.length c] W fun e W' => e = .returned (.bool true) ∧ Below W.heap.size W W' := by
  have HA := Lib.hid hA
  have HDl := Lib.hid hdl
  have hal : acts.length ≤ 9223372036854775807 := by have := hA.1; unfold maxLen at this; omega
  clear hA hdl
  go_enter Try.func7, Try.ntmps7
  go_wp2_with fail
  refine (new_walk W).mono ?_
  rintro e w1 ⟨rfl, hI1, hB1⟩
  have HI1 := Lib.hid hI1
  have HB1 := Lib.hid hB1
  clear hI1 hB1
  go_wp2_with fail
  refine (rnew_walk w1).mono ?_
  rintro e w2 ⟨rfl, hR2, hB2⟩
  obtain ⟨g, hg⟩ : ∃ g, W.heap.size + 1 = g := ⟨_, rfl⟩
  obtain ⟨b, hb⟩ : ∃ b, W.heap.size = b := ⟨_, rfl⟩
  obtain ⟨h, hh⟩ : ∃ h, w1.heap.size = h := ⟨_, rfl⟩
  have HP := Lib.hid (show ∃ r d, Pr W w2 g b h r d from ⟨_, _, pr_new (W0 := W) (W1 := W) (W2 := w1) (g := g) (b := b) (h := h) ⟨hg.symm, hb.symm⟩ (Below.refl _ _) (by rw [← hg, ← hb]; exact HI1.out) HB1.out hh.symm (by rw [← hh]; exact hR2) hB2⟩)
  rw [hg, hh]
  clear HI1 HB1 hR2 hB2 hg hb hh
  go_wp2_with fail
  refine (names_const w2).mono ?_
  rintro e w3 ⟨rfl, rfl⟩
  go_wp2_with fail
  go_loopg [5] 201 (fun kq v5 w' => ∃ i : Nat, v5 = .int .i64 (i : Int) ∧ Hid (i + kq = 201 ∧ i ≤ 200) ∧ Hid (∃ r d, Pr W w' g b h r d))
  case atStart => exact ⟨0, rfl, Lib.hid ⟨by omega, by omega⟩, HP⟩
  case round =>
    clear HP
    obtain ⟨i, rfl, HI, HP⟩ := hrel
    obtain ⟨r, d, hp⟩ := HP.out
    have HPp := Lib.hid hp
    by_cases q : i < acts.length ∧ i < 200
    · obtain ⟨q1, q2⟩ := q
      obtain ⟨kq1, rfl⟩ : ∃ kq1, gk = kq1 + 1 := ⟨gk - 1, by have := HI.out; omega⟩
      obtain ⟨ho, ad, rfl, hl, e0, e1, e2, e3, e4⟩ := (HA.out.move hp.be).2 i q1
      have ho0 := (HA.out.2 i q1).1
      have hdl := HDl.out i q1
      have q1' : (i : Int) < (acts.length : Int) := by omega
      have q2' : (i : Int) < 200 := by omega
      obtain ⟨⟨kd, nm, dt, n, da, dl, dc, dz⟩, hx⟩ : ∃ x, acts[i] = x := ⟨_, rfl⟩
      rw [hx] at ho0 e0 e1 e2 e3 e4 hdl
      have HO := Lib.hid ho0
      have HD := Lib.hid hdl
      have HQ := Lib.hid (And.intro q1 q2)
      clear hx ho ho0 hp HP hl hdl q1 q2
      simp only at e0 e1 e2 e3 e4
      rw [← add_add ad (i * 5) 1, add_far _ 1 (by decide)] at e1
      rw [← add_add ad (i * 5) 2, add_far _ 2 (by decide)] at e2
      rw [← add_add ad (i * 5) 3, add_far _ 3 (by decide)] at e3
      rw [← add_add ad (i * 5) 4, add_far _ 4 (by decide)] at e4
      go_wp2_with fail
      refine (step_walk W wr g b h r d HPp.out kd nm dt n da dl dc dz HO.out HD.out).mono ?_
      rintro e w5 ⟨rfl, d', hT⟩
      obtain ⟨r', hp5, -, -⟩ := hT
      have HP5 := Lib.hid hp5
      clear hp5 e0 e1 e2 e3 e4
      go_wp2_with fail
      refine (same_disks W w5 g b h r' d' HP5.out).mono ?_
      rintro e w6 ⟨rfl, hB6⟩
      have HP6 := Lib.hid (show ∃ r d, Pr W w6 g b h r d from ⟨_, _, HP5.out.below hB6⟩)
      clear hB6
      go_wp2_with fail
      go_roundg kq1
      case measure => have := HI.out; omega
      case rel => exact ⟨i + 1, by go_num, Lib.hid ⟨by have := HI.out; omega, by have := HQ.out; omega⟩, HP6⟩
    · have hex : ¬ i < acts.length ∨ (i < acts.length ∧ ¬ i < 200) := by omega
      clear hp HP q
      rcases hex with q1 | ⟨q1, q2⟩
      · have q1' : ¬ (i : Int) < (acts.length : Int) := by omega
        go_wp2_with fail
        refine (works_walk _).mono ?_
        rintro e w4 ⟨rfl, hB4⟩
        have HB4 := Lib.hid (below_step HPp.out.be hB4 HPp.out.be.size)
        clear hB4
        go_wp2
        go_ret
        exact ⟨rfl, HB4.out⟩
      · have q1' : (i : Int) < (acts.length : Int) := by omega
        have q2' : ¬ (i : Int) < 200 := by omega
        go_wp2_with fail
        refine (works_walk _).mono ?_
        rintro e w4 ⟨rfl, hB4⟩
        have HB4 := Lib.hid (below_step HPp.out.be hB4 HPp.out.be.size)
        clear hB4
        go_wp2
        go_ret
        exact ⟨rfl, HB4.out⟩
end Go.Proofs.Ytjkllbilfcopmaa.Dk
end

section
namespace Go.Proofs.Ytjkllbilfcopmaa.Dk
open Go.RowKit Go.Proofs.YtjkllbilfcopmaaW.PrintWords Go.Proofs.YtjkllbilfcopmaaW.PrintLast Go.Proofs.YtjkllbilfcopmaaW.PrintMore
set_option linter.unusedVariables false
set_option linter.unusedSimpArgs false
/-- A pair of disks that a call of another pair leaves. -/
theorem Pr.other {W0 W W1 : World} {g b h g2 b2 h2 : Nat} {r r2 : Option Nat} {d : DS} (p : Pr W0 W g2 b2 h2 r2 d) (hf : Fr (All g b h r) W W1) (ap : ∀ k, All g2 b2 h2 r2 k → ¬ All g b h r k) (hb : Below W0.heap.size W0 W1) : Pr W0 W1 g2 b2 h2 r2 d :=
  ⟨p.dk.fr hf (ap _ (.inl (.inl rfl))) (ap _ (.inl (.inr rfl))), p.rd.fr hf fun k hk => ap k (.inr hk), p.nk, p.gh, hb, p.lo⟩
theorem ap_new {W : World} {g b h g2 b2 h2 : Nat} {r r' r2 : Option Nat} (ap : ∀ k, All g2 b2 h2 r2 k → ¬ All g b h r k) (hr : r' = r ∨ ∀ k, r' = some k → W.heap.size ≤ k) (hlt : ∀ k, All g2 b2 h2 r2 k → k < W.heap.size) : ∀ k, All g2 b2 h2 r2 k → ¬ All g b h r' k := fun k hk hn => by
  rcases hr with rfl | hr
  · exact ap k hk hn
  · rcases hn with hn | rfl | hn
    · exact ap k hk (.inl hn)
    · exact ap k hk (.inr (.inl rfl))
    · have := hr k hn
      have := hlt k hk
      omega
/-- Both pairs. -/
structure Both (W0 W : World) (g1 b1 h1 : Nat) (r1 : Option Nat) (d1 : DS) (g2 b2 h2 : Nat) (r2 : Option Nat) (d2 : DS) : Prop where
  one : Pr W0 W g1 b1 h1 r1 d1
  two : Pr W0 W g2 b2 h2 r2 d2
  ap : ∀ k, All g2 b2 h2 r2 k → ¬ All g1 b1 h1 r1 k
theorem Both.swap {W0 W : World} {g1 b1 h1 g2 b2 h2 : Nat} {r1 r2 : Option Nat} {d1 d2 : DS} (p : Both W0 W g1 b1 h1 r1 d1 g2 b2 h2 r2 d2) : Both W0 W g2 b2 h2 r2 d2 g1 b1 h1 r1 d1 := ⟨p.two, p.one, fun k hk hn => p.ap k hn hk⟩
theorem Both.below {W0 W W1 : World} {g1 b1 h1 g2 b2 h2 : Nat} {r1 r2 : Option Nat} {d1 d2 : DS} (p : Both W0 W g1 b1 h1 r1 d1 g2 b2 h2 r2 d2) (hb : Below W.heap.size W W1) : Both W0 W1 g1 b1 h1 r1 d1 g2 b2 h2 r2 d2 := ⟨p.one.below hb, p.two.below hb, p.ap⟩
theorem Both.step {W0 W W1 : World} {g1 b1 h1 g2 b2 h2 : Nat} {r1 r2 : Option Nat} {d1 d2 d' : DS} (p : Both W0 W g1 b1 h1 r1 d1 g2 b2 h2 r2 d2) (t : PrTo W0 W W1 g1 b1 h1 r1 d') : ∃ r', Both W0 W1 g1 b1 h1 r' d' g2 b2 h2 r2 d2 := by
  obtain ⟨r', p1, hf, hr⟩ := t
  exact ⟨r', p1, p.two.other hf p.ap p1.be, ap_new p.ap hr p.two.old⟩
theorem both_new {W W1 W2 W3 W4 : World} (hI1 : IsDk W1 (W.heap.size + 1) W.heap.size new) (hB1 : Below W.heap.size W W1) (hI2 : IsDk W2 (W1.heap.size + 1) W1.heap.size new) (hB2 : Below W1.heap.size W1 W2) (hR3 : RdAt W3 W2.heap.size (.slice none 0 0) new) (hB3 : Below W2.heap.size W2 W3) (hR4 : RdAt W4 W3.heap.size (.slice none 0 0) new) (hB4 : Below W3.heap.size W3 W4) :
    Both W W4 (W.heap.size + 1) W.heap.size W2.heap.size none new (W1.heap.size + 1) W1.heap.size W3.heap.size none new := by
  have l1 := hI1.lt
  have l2 := hI2.lt
  have l3 := hR3.lt
  have l4 := hR4.lt
  have s1 := hB1.size
  have s2 := hB2.size
  have s3 := hB3.size
  have s4 := hB4.size
  have hb2 := below_step hB1 hB2 s1
  have hb3 := below_step hb2 hB3 hb2.size
  have hb4 := below_step hb3 hB4 hb3.size
  refine ⟨⟨(((hI1.below hB2).below hB3).below hB4), ⟨_, hR3.move fun k hk _ => hB4.block k hk, rfl⟩, nok_new, ⟨by omega, by omega, by simp, by simp⟩, hb4, by omega, by omega, by omega, fun k hk => by cases hk⟩,
    ⟨((hI2.below hB3).below hB4), ⟨_, hR4, rfl⟩, nok_new, ⟨by omega, by omega, by simp, by simp⟩, hb4, by omega, by omega, by omega, fun k hk => by cases hk⟩, fun k hk hn => ?_⟩
  rcases hk with (rfl | rfl) | rfl | hk
  · rcases hn with (hn | hn) | hn | hn
    · omega
    · omega
    · omega
    · cases hn
  · rcases hn with (hn | hn) | hn | hn
    · omega
    · omega
    · omega
    · cases hn
  · rcases hn with (hn | hn) | hn | hn
    · omega
    · omega
    · omega
    · cases hn
  · cases hk
set_option maxRecDepth 100000 in
set_option maxHeartbeats 8000000 in
theorem two_walk (A : Option Addr) (acts : List Act5) (c : Nat) (W : World) (hA : ActsAt W A acts) (hc : acts.length ≤ c) (hdl : ∀ i (h : i < acts.length), (acts[i]).dl * 8 ≤ 140737488351232) :
    Calls Try.prog 8 #[.slice A acts.length c] W fun e W' => e = .returned (.bool true) ∧ Below W.heap.size W W' := by
  have HA := Lib.hid hA
  have HDl := Lib.hid hdl
  have hal : acts.length ≤ 9223372036854775807 := by have := hA.1; unfold maxLen at this; omega
  clear hA hdl
  go_enter Try.func8, Try.ntmps8
  go_wp2_with fail
  refine (new_walk W).mono ?_
  rintro e w1 ⟨rfl, hI1, hB1⟩
  have HI1 := Lib.hid hI1
  have HB1 := Lib.hid hB1
  clear hI1 hB1
  go_wp2_with fail
  refine (new_walk w1).mono ?_
  rintro e w2 ⟨rfl, hI2, hB2⟩
  have HI2 := Lib.hid hI2
  have HB2 := Lib.hid hB2
  clear hI2 hB2
  go_wp2_with fail
  refine (rnew_walk w2).mono ?_
  rintro e w3 ⟨rfl, hR3, hB3⟩
  have HR3 := Lib.hid hR3
  have HB3 := Lib.hid hB3
  clear hR3 hB3
  go_wp2_with fail
  refine (rnew_walk w3).mono ?_
  rintro e w4 ⟨rfl, hR4, hB4⟩
  have hbo := both_new HI1.out HB1.out HI2.out HB2.out HR3.out HB3.out hR4 hB4
  clear hR4 hB4 HI1 HB1 HI2 HB2 HR3 HB3
  obtain ⟨g1, hg1⟩ : ∃ g, W.heap.size + 1 = g := ⟨_, rfl⟩
  obtain ⟨b1, hb1⟩ : ∃ g, W.heap.size = g := ⟨_, rfl⟩
  obtain ⟨h1, hh1⟩ : ∃ g, w2.heap.size = g := ⟨_, rfl⟩
  obtain ⟨g2, hg2⟩ : ∃ g, w1.heap.size + 1 = g := ⟨_, rfl⟩
  obtain ⟨b2, hb2⟩ : ∃ g, w1.heap.size = g := ⟨_, rfl⟩
  obtain ⟨h2, hh2⟩ : ∃ g, w3.heap.size = g := ⟨_, rfl⟩
  rw [hg1, hg2, hh1, hh2, hb2] at hbo
  rw [hg1, hg2, hh1, hh2]
  have HP := Lib.hid (show ∃ r1 d1 r2 d2, Both W w4 g1 W.heap.size h1 r1 d1 g2 b2 h2 r2 d2 from ⟨_, _, _, _, hbo⟩)
  rw [hb1] at HP
  clear hbo hg1 hb1 hh1 hg2 hb2 hh2
  go_wp2_with fail
  go_loopg [7] 201 (fun kq v7 w' => ∃ i : Nat, v7 = .int .i64 (i : Int) ∧ Hid (i + kq = 201 ∧ i ≤ 200) ∧ Hid (∃ r1 d1 r2 d2, Both W w' g1 b1 h1 r1 d1 g2 b2 h2 r2 d2))
  case atStart => exact ⟨0, rfl, Lib.hid ⟨by omega, by omega⟩, HP⟩
  case round =>
    clear HP
    obtain ⟨i, rfl, HI, HP⟩ := hrel
    obtain ⟨r1, d1, r2, d2, hp⟩ := HP.out
    have HPp := Lib.hid hp
    by_cases q : i < acts.length ∧ i < 200
    · obtain ⟨q1, q2⟩ := q
      obtain ⟨kq1, rfl⟩ : ∃ kq1, gk = kq1 + 1 := ⟨gk - 1, by have := HI.out; omega⟩
      obtain ⟨ho, ad, rfl, hl, e0, e1, e2, e3, e4⟩ := (HA.out.move hp.one.be).2 i q1
      have ho0 := (HA.out.2 i q1).1
      have hdl := HDl.out i q1
      have q1' : (i : Int) < (acts.length : Int) := by omega
      have q2' : (i : Int) < 200 := by omega
      obtain ⟨⟨kd, nm, dt, n, da, dl, dc, dz⟩, hx⟩ : ∃ x, acts[i] = x := ⟨_, rfl⟩
      rw [hx] at ho0 e0 e1 e2 e3 e4 hdl
      have HO := Lib.hid ho0
      have HD := Lib.hid hdl
      have HQ := Lib.hid (And.intro q1 q2)
      clear hx ho ho0 hp HP hl hdl q1 q2
      simp only at e0 e1 e2 e3 e4
      rw [← add_add ad (i * 5) 1, add_far _ 1 (by decide)] at e1
      rw [← add_add ad (i * 5) 2, add_far _ 2 (by decide)] at e2
      rw [← add_add ad (i * 5) 3, add_far _ 3 (by decide)] at e3
      rw [← add_add ad (i * 5) 4, add_far _ 4 (by decide)] at e4
      by_cases hm : i % 2 = 1
      · have hm1 : ((i : Int) % 2 == 1) = true := by simp; omega
        clear hm
        go_wp2_with fail
        refine (step_walk W wr g2 b2 h2 r2 d2 HPp.out.two kd nm dt n da dl dc dz HO.out HD.out).mono ?_
        rintro e w5 ⟨rfl, d', hT⟩
        obtain ⟨r', hp5⟩ := HPp.out.swap.step hT
        have HP5 := Lib.hid (show ∃ r1 d1 r2 d2, Both W w5 g1 b1 h1 r1 d1 g2 b2 h2 r2 d2 from ⟨_, _, _, _, hp5.swap⟩)
        clear hp5 hT e0 e1 e2 e3 e4
        go_wp2_with fail
        go_roundg kq1
        case measure => have := HI.out; omega
        case rel => exact ⟨i + 1, by go_num, Lib.hid ⟨by have := HI.out; omega, by have := HQ.out; omega⟩, HP5⟩
      · have hm1 : ((i : Int) % 2 == 1) = false := by simp; omega
        clear hm
        go_wp2_with fail
        refine (step_walk W wr g1 b1 h1 r1 d1 HPp.out.one kd nm dt n da dl dc dz HO.out HD.out).mono ?_
        rintro e w5 ⟨rfl, d', hT⟩
        obtain ⟨r', hp5⟩ := HPp.out.step hT
        have HP5 := Lib.hid (show ∃ r1 d1 r2 d2, Both W w5 g1 b1 h1 r1 d1 g2 b2 h2 r2 d2 from ⟨_, _, _, _, hp5⟩)
        clear hp5 hT e0 e1 e2 e3 e4
        go_wp2_with fail
        go_roundg kq1
        case measure => have := HI.out; omega
        case rel => exact ⟨i + 1, by go_num, Lib.hid ⟨by have := HI.out; omega, by have := HQ.out; omega⟩, HP5⟩
    · have hex : ¬ i < acts.length ∨ (i < acts.length ∧ ¬ i < 200) := by omega
      clear hp HP q
      rcases hex with q1 | ⟨q1, q2⟩
      · have q1' : ¬ (i : Int) < (acts.length : Int) := by omega
        go_wp2_with fail
        refine (same_disks W wr g1 b1 h1 r1 d1 HPp.out.one).mono ?_
        rintro e w5 ⟨rfl, hB5⟩
        have HP5 := Lib.hid (HPp.out.below hB5)
        clear hB5
        go_wp2_with fail
        refine (same_disks W w5 g2 b2 h2 r2 d2 HP5.out.two).mono ?_
        rintro e w6 ⟨rfl, hB6⟩
        have HP6 := Lib.hid (HP5.out.below hB6)
        clear hB6
        go_wp2_with fail
        refine (works_walk _).mono ?_
        rintro e w7 ⟨rfl, hB7⟩
        have HB7 := Lib.hid (below_step HP6.out.one.be hB7 HP6.out.one.be.size)
        clear hB7
        go_wp2
        go_ret
        exact ⟨rfl, HB7.out⟩
      · have q1' : (i : Int) < (acts.length : Int) := by omega
        have q2' : ¬ (i : Int) < 200 := by omega
        go_wp2_with fail
        refine (same_disks W wr g1 b1 h1 r1 d1 HPp.out.one).mono ?_
        rintro e w5 ⟨rfl, hB5⟩
        have HP5 := Lib.hid (HPp.out.below hB5)
        clear hB5
        go_wp2_with fail
        refine (same_disks W w5 g2 b2 h2 r2 d2 HP5.out.two).mono ?_
        rintro e w6 ⟨rfl, hB6⟩
        have HP6 := Lib.hid (HP5.out.below hB6)
        clear hB6
        go_wp2_with fail
        refine (works_walk _).mono ?_
        rintro e w7 ⟨rfl, hB7⟩
        have HB7 := Lib.hid (below_step HP6.out.one.be hB7 HP6.out.one.be.size)
        clear hB7
        go_wp2
        go_ret
        exact ⟨rfl, HB7.out⟩
end Go.Proofs.Ytjkllbilfcopmaa.Dk
end
