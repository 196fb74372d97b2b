-- Written by a program of this session (wip/tools/handprint.py) out of the translation; hand-written parts among it. Lean checks it.
import Derived.Test.YtmfbmagbpceomaaHFrameBytesx0
import Derived.Test.YtmfbmagbpceomaaHFrameBytesx9
import Derived.Test.YtmfbmagbpceomaaHFrameBytesx13
import Derived.Test.YtmfbmagbpceomaaHFrameBytesx14
namespace Go.Proofs.Ytmfbmagbpceomaa.HFrameBytes
open Go.RowKit Go.Proofs.YtmfbmagbpceomaaW.PrintWords Go.Proofs.YtmfbmagbpceomaaW.PrintLast Go.Proofs.YtmfbmagbpceomaaW.PrintMore
attribute [local go_sem] max2_int min2_int max_two min_two max_three min_three max_four min_four   -- for this text's walks alone
set_option linter.unusedVariables false
set_option linter.unusedSimpArgs false

/-! ### hopperref06_Unframe: function 43 -/
/-- What the document's Unframe tells. -/
def hopperref06_Unframe.f (K : Nat) (a0 : ByteArray) (a1 : Int) : Option (ByteArray × Int × Int × Int) :=
  if a1 < 0 then some (⟨#[]⟩, 0, 0, 1) else if a1 > (a0.size : Int) then some (⟨#[]⟩, 0, 0, 1) else if a0.size ≤ 9223372036854775000 then
    (if (a0.size : Int) - a1 < 4 then some (⟨#[]⟩, 0, a1, 61) else (hopperref06_unfour.f (a0.extract a1.toNat (a1.toNat + 4))).bind fun n =>
      if n > 65536 then some (⟨#[]⟩, 0, a1, 2) else if 0 ≤ n then
        (if (a0.size : Int) - a1 < 8 + n then some (⟨#[]⟩, 0, a1, 61) else
          (hopperref06_Sum.f K (a0.extract a1.toNat (a1 + 4 + n).toNat)).bind fun x =>
          (hopperref06_unfour.f (a0.extract (a1 + 4 + n).toNat (a1 + 8 + n).toNat)).bind fun y =>
          if x = y then some (a0.extract (a1.toNat + 4) (a1 + 4 + n).toNat, a1 + 8 + n, 0, 0) else some (⟨#[]⟩, 0, a1, 60)) else none) else none
theorem hopperref06_Unframe.mono : ∀ a0 a1 k, LeO (hopperref06_Unframe.f k a0 a1) (hopperref06_Unframe.f (k + 1) a0 a1) := by
  intro a0 a1 k
  unfold hopperref06_Unframe.f
  repeat' first
      | (with_reducible exact hopperref06_Sum.mono _ _)
      | (with_reducible exact LeO.refl _)
      | (with_reducible exact LeO.none _)
      | (with_reducible refine LeO.ite ?_ ?_)
      | (with_reducible refine LeO.bind ?_ (fun _ => ?_))
set_option maxHeartbeats 1000000 in
theorem hopperref06_Unframe.sum (K : Nat) (s : ByteArray) (k : Nat) (n x y : Int) (w : World) (hk : k ≤ s.size) (hs : s.size ≤ 9223372036854775000) (h4 : ¬ (s.size : Int) - k < 4) (hg : hopperref06_unfour.f (s.extract k (k + 4)) = some n) (hn : ¬ n > 65536) (hn0 : 0 ≤ n) (hl : ¬ (s.size : Int) - k < 8 + n)
    (hx : hopperref06_Sum.f K (s.extract k ((k : Int) + 4 + n).toNat) = some x) (hy : hopperref06_unfour.f (s.extract ((k : Int) + 4 + n).toNat ((k : Int) + 8 + n).toNat) = some y) :
    Calls Try.prog 43 #[.string s, .int .i64 k] w fun e w' => e = .returned (if x = y then .tuple #[.string (s.extract (k + 4) ((k : Int) + 4 + n).toNat), .int .i64 (k + 8 + n), .agg #[.int .i64 0, .int .i64 0]] else .tuple #[.string ⟨#[]⟩, .int .i64 0, .agg #[.int .i64 k, .int .i64 60]]) ∧ Below w.heap.size w w' := by
  have hu63 := Try.underlying63
  have HG := Lib.hid hg
  have HX := Lib.hid hx
  have HY := Lib.hid hy
  clear hg hx hy
  have c1 : decide ((k : Int) < 0) = false := decide_eq_false (by omega)
  have c2 : decide ((s.size : Int) < (k : Int)) = false := decide_eq_false (by omega)
  have c5 : decide (65536 < n) = false := decide_eq_false (by omega)
  have b0 : (0 : Int) ≤ (k : Int) + 4 + n := by omega
  have b1 : (k : Int) + 4 + n ≤ (s.size : Int) := by omega
  have b2 : (k : Int) ≤ (k : Int) + 4 + n := by omega
  have b3 : (k : Int) + 4 + n ≤ (k : Int) + 8 + n := by omega
  have b4 : (k : Int) + 8 + n ≤ (s.size : Int) := by omega
  have b5 : (k : Int) + 4 ≤ (k : Int) + 4 + n := by omega
  by_cases hxy : x = y
  · subst hxy
    rw [if_pos rfl]
    go_enter Try.func43, Try.ntmps43
    go_wp2_with fail
    refine (hopperref06_unfour.calls _ n _ HG.out).mono ?_
    rintro e w' ⟨rfl, ⟨nd, rfl⟩⟩
    go_wp2_with fail
    go_quiet ((with_reducible first | exact quiet_add (hopperref06_Sum.calls K _ x _ HX.out) | exact quiet_add (hopperref06_unfour.calls _ x _ HY.out) | exact quiet_one (hopperref06_Sum.calls K _ x _ HX.out) | exact quiet_one (hopperref06_unfour.calls _ x _ HY.out)))
    go_wp2
    refine bodyPost_ret (v := .tuple #[.string (s.extract (k + 4) ((k : Int) + 4 + n).toNat), .int .i64 (k + 8 + n), .agg #[.int .i64 0, .int .i64 0]]) (by simp [results, Try.results43, go_sem]) rfl ⟨rfl, ?_⟩
    first | exact ((pw_below_drewN (below_alloc (Below.refl _ _) _) _).setCell (Nat.le_refl _) _).setCell (Nat.le_refl _) _ | exact pw_below_drewN (below_alloc (Below.refl _ _) _) _
  · rw [if_neg hxy]
    have b6 : (x != y) = true := bne_iff_ne.2 hxy
    go_enter Try.func43, Try.ntmps43
    go_wp2_with fail
    refine (hopperref06_unfour.calls _ n _ HG.out).mono ?_
    rintro e w' ⟨rfl, ⟨nd, rfl⟩⟩
    go_wp2_with fail
    go_quiet ((with_reducible first | exact quiet_add (hopperref06_Sum.calls K _ x _ HX.out) | exact quiet_add (hopperref06_unfour.calls _ y _ HY.out) | exact quiet_one (hopperref06_Sum.calls K _ x _ HX.out) | exact quiet_one (hopperref06_unfour.calls _ y _ HY.out)))
    go_wp2_with fail
    refine (hopperref06_fault.calls k 60 _ _ _ rfl).mono ?_
    rintro e W1 ⟨rfl, hb⟩
    obtain ⟨hc, hf⟩ := bcell hb
    obtain ⟨hk0, hk1⟩ := new_kept hb
    go_wp2
    obtain ⟨t0, t1, t2⟩ := two_cells hk0 (.int .i64 k) (.int .i64 60)
    refine bodyPost_ret (v := .tuple #[.string ⟨#[]⟩, .int .i64 0, .agg #[.int .i64 k, .int .i64 60]]) (by simp [results, Try.results43, go_sem, t0, t1, t2]) rfl ⟨rfl, ?_⟩
    exact (hk1.setCell (Nat.le_refl _) _).setCell (Nat.le_refl _) _
set_option maxHeartbeats 1000000 in
theorem hopperref06_Unframe.end1 (s : ByteArray) (k : Nat) (w : World) (hk : k ≤ s.size) (hs : s.size ≤ 9223372036854775000) (n : Int) (h4 : ¬ (s.size : Int) - k < 4) (hg : hopperref06_unfour.f (s.extract k (k + 4)) = some n) (hn : ¬ n > 65536) (hn0 : 0 ≤ n) (hl : (s.size : Int) - k < 8 + n) :
    Calls Try.prog 43 #[.string s, .int .i64 k] w fun e w' => e = .returned (.tuple #[.string ⟨#[]⟩, .int .i64 0, .agg #[.int .i64 k, .int .i64 61]]) ∧ Below w.heap.size w w' := by
  have hu63 := Try.underlying63
  have HG := Lib.hid hg
  clear hg
  have c1 : decide ((k : Int) < 0) = false := decide_eq_false (by omega)
  have c2 : decide ((s.size : Int) < (k : Int)) = false := decide_eq_false (by omega)
  have c5 : decide (65536 < n) = false := decide_eq_false (by omega)
  go_enter Try.func43, Try.ntmps43
  go_wp2_with fail
  refine (hopperref06_unfour.calls _ n _ HG.out).mono ?_
  rintro e w' ⟨rfl, ⟨nd, rfl⟩⟩
  go_wp2_with fail
  refine (hopperref06_fault.calls k 61 _ _ _ rfl).mono ?_
  rintro e W1 ⟨rfl, hb⟩
  obtain ⟨hc, hf⟩ := bcell hb
  obtain ⟨hk0, hk1⟩ := new_kept hb
  go_wp2
  obtain ⟨t0, t1, t2⟩ := two_cells hk0 (.int .i64 k) (.int .i64 61)
  refine bodyPost_ret (v := .tuple #[.string ⟨#[]⟩, .int .i64 0, .agg #[.int .i64 k, .int .i64 61]]) (by simp [results, Try.results43, go_sem, t0, t1, t2]) rfl ⟨rfl, ?_⟩
  exact (hk1.setCell (Nat.le_refl _) _).setCell (Nat.le_refl _) _
set_option maxHeartbeats 1000000 in
theorem hopperref06_Unframe.long (s : ByteArray) (k : Nat) (w : World) (hk : k ≤ s.size) (hs : s.size ≤ 9223372036854775000) (n : Int) (h4 : ¬ (s.size : Int) - k < 4) (hg : hopperref06_unfour.f (s.extract k (k + 4)) = some n) (hn : n > 65536) (hn2 : n < 4294967296) :
    Calls Try.prog 43 #[.string s, .int .i64 k] w fun e w' => e = .returned (.tuple #[.string ⟨#[]⟩, .int .i64 0, .agg #[.int .i64 k, .int .i64 2]]) ∧ Below w.heap.size w w' := by
  have hu63 := Try.underlying63
  have HG := Lib.hid hg
  clear hg
  have c1 : decide ((k : Int) < 0) = false := decide_eq_false (by omega)
  have c2 : decide ((s.size : Int) < (k : Int)) = false := decide_eq_false (by omega)
  have c5 : decide (65536 < n) = true := decide_eq_true (by omega)
  go_enter Try.func43, Try.ntmps43
  go_wp2_with fail
  refine (hopperref06_unfour.calls _ n _ HG.out).mono ?_
  rintro e w' ⟨rfl, ⟨nd, rfl⟩⟩
  go_wp2_with fail
  refine (hopperref06_fault.calls k 2 _ _ _ rfl).mono ?_
  rintro e W1 ⟨rfl, hb⟩
  obtain ⟨hc, hf⟩ := bcell hb
  obtain ⟨hk0, hk1⟩ := new_kept hb
  go_wp2
  obtain ⟨t0, t1, t2⟩ := two_cells hk0 (.int .i64 k) (.int .i64 2)
  refine bodyPost_ret (v := .tuple #[.string ⟨#[]⟩, .int .i64 0, .agg #[.int .i64 k, .int .i64 2]]) (by simp [results, Try.results43, go_sem, t0, t1, t2]) rfl ⟨rfl, ?_⟩
  exact (hk1.setCell (Nat.le_refl _) _).setCell (Nat.le_refl _) _
set_option maxHeartbeats 1000000 in
theorem hopperref06_Unframe.end0 (s : ByteArray) (k : Nat) (w : World) (hk : k ≤ s.size) (hs : s.size ≤ 9223372036854775000) (h4 : (s.size : Int) - k < 4) :
    Calls Try.prog 43 #[.string s, .int .i64 k] w fun e w' => e = .returned (.tuple #[.string ⟨#[]⟩, .int .i64 0, .agg #[.int .i64 k, .int .i64 61]]) ∧ Below w.heap.size w w' := by
  have hu63 := Try.underlying63
  have c1 : decide ((k : Int) < 0) = false := decide_eq_false (by omega)
  have c2 : decide ((s.size : Int) < (k : Int)) = false := decide_eq_false (by omega)
  go_enter Try.func43, Try.ntmps43
  go_wp2_with fail
  refine (hopperref06_fault.calls k 61 _ _ _ rfl).mono ?_
  rintro e W1 ⟨rfl, hb⟩
  obtain ⟨hc, hf⟩ := bcell hb
  obtain ⟨hk0, hk1⟩ := new_kept0 hb
  go_wp2
  obtain ⟨t0, t1, t2⟩ := two_cells hk0 (.int .i64 k) (.int .i64 61)
  refine bodyPost_ret (v := .tuple #[.string ⟨#[]⟩, .int .i64 0, .agg #[.int .i64 k, .int .i64 61]]) (by simp [results, Try.results43, go_sem, t0, t1, t2]) rfl ⟨rfl, ?_⟩
  exact (hk1.setCell (Nat.le_refl _) _).setCell (Nat.le_refl _) _
set_option maxHeartbeats 1000000 in
theorem hopperref06_Unframe.range0 (s : ByteArray) (k : Int) (w : World) (h0 : k < 0) :
    Calls Try.prog 43 #[.string s, .int .i64 k] w fun e w' => e = .returned (.tuple #[.string ⟨#[]⟩, .int .i64 0, .agg #[.int .i64 0, .int .i64 1]]) ∧ Below w.heap.size w w' := by
  have hu63 := Try.underlying63
  have c1 : decide (k < 0) = true := decide_eq_true h0
  go_enter Try.func43, Try.ntmps43
  go_wp2_with fail
  refine (hopperref06_fault.calls 0 1 _ _ _ rfl).mono ?_
  rintro e W1 ⟨rfl, hb⟩
  obtain ⟨hc, hf⟩ := bcell hb
  obtain ⟨hk0, hk1⟩ := new_kept0 hb
  go_wp2
  obtain ⟨t0, t1, t2⟩ := two_cells hk0 (.int .i64 0) (.int .i64 1)
  refine bodyPost_ret (v := .tuple #[.string ⟨#[]⟩, .int .i64 0, .agg #[.int .i64 0, .int .i64 1]]) (by simp [results, Try.results43, go_sem, t0, t1, t2]) rfl ⟨rfl, ?_⟩
  exact (hk1.setCell (Nat.le_refl _) _).setCell (Nat.le_refl _) _
set_option maxHeartbeats 1000000 in
theorem hopperref06_Unframe.range1 (s : ByteArray) (k : Int) (w : World) (h0 : ¬ k < 0) (h1 : k > (s.size : Int)) :
    Calls Try.prog 43 #[.string s, .int .i64 k] w fun e w' => e = .returned (.tuple #[.string ⟨#[]⟩, .int .i64 0, .agg #[.int .i64 0, .int .i64 1]]) ∧ Below w.heap.size w w' := by
  have hu63 := Try.underlying63
  have c1 : decide (k < 0) = false := decide_eq_false h0
  have c2 : decide ((s.size : Int) < k) = true := decide_eq_true h1
  go_enter Try.func43, Try.ntmps43
  go_wp2_with fail
  refine (hopperref06_fault.calls 0 1 _ _ _ rfl).mono ?_
  rintro e W1 ⟨rfl, hb⟩
  obtain ⟨hc, hf⟩ := bcell hb
  obtain ⟨hk0, hk1⟩ := new_kept0 hb
  go_wp2
  obtain ⟨t0, t1, t2⟩ := two_cells hk0 (.int .i64 0) (.int .i64 1)
  refine bodyPost_ret (v := .tuple #[.string ⟨#[]⟩, .int .i64 0, .agg #[.int .i64 0, .int .i64 1]]) (by simp [results, Try.results43, go_sem, t0, t1, t2]) rfl ⟨rfl, ?_⟩
  exact (hk1.setCell (Nat.le_refl _) _).setCell (Nat.le_refl _) _
theorem unfour_lt {s : ByteArray} {n : Int} (h : hopperref06_unfour.f s = some n) : 0 ≤ n ∧ n < 4294967296 := by
  unfold hopperref06_unfour.f at h
  repeat' split at h
  all_goals first | (have := Option.some.inj h; omega) | (exact absurd h (by simp))
theorem hopperref06_Unframe.calls (k : Nat) (a0 : ByteArray) (a1 : Int) (r1 : ByteArray) (r2 : Int) (r3 : Int) (r4 : Int) (w : World) (h : hopperref06_Unframe.f k a0 a1 = some (r1, r2, r3, r4)) :
    Calls Try.prog 43 #[.string a0, .int .i64 a1] w fun e w' => e = .returned (.tuple #[.string r1, .int .i64 r2, .agg #[.int .i64 r3, .int .i64 r4]]) ∧ Below w.heap.size w w' := by
  unfold hopperref06_Unframe.f at h
  by_cases c1 : a1 < 0
  · rw [if_pos c1] at h; simp only [Option.some.injEq, Prod.mk.injEq] at h; obtain ⟨rfl, rfl, rfl, rfl⟩ := h
    exact hopperref06_Unframe.range0 a0 a1 w c1
  rw [if_neg c1] at h
  by_cases c2 : a1 > (a0.size : Int)
  · rw [if_pos c2] at h; simp only [Option.some.injEq, Prod.mk.injEq] at h; obtain ⟨rfl, rfl, rfl, rfl⟩ := h
    exact hopperref06_Unframe.range1 a0 a1 w c1 c2
  rw [if_neg c2] at h
  by_cases c3 : a0.size ≤ 9223372036854775000
  case neg => rw [if_neg c3] at h; exact absurd h (by simp)
  rw [if_pos c3] at h
  obtain ⟨j, rfl⟩ := Int.eq_ofNat_of_zero_le (show 0 ≤ a1 by omega)
  simp only [Int.toNat_natCast] at h
  have hk : j ≤ a0.size := by omega
  by_cases c4 : (a0.size : Int) - j < 4
  · rw [if_pos c4] at h; simp only [Option.some.injEq, Prod.mk.injEq] at h; obtain ⟨rfl, rfl, rfl, rfl⟩ := h
    exact hopperref06_Unframe.end0 a0 j w hk c3 c4
  rw [if_neg c4] at h
  obtain ⟨n, hg, h⟩ := Option.bind_eq_some_iff.mp h
  obtain ⟨n0, n1⟩ := unfour_lt hg
  by_cases c5 : n > 65536
  · rw [if_pos c5] at h; simp only [Option.some.injEq, Prod.mk.injEq] at h; obtain ⟨rfl, rfl, rfl, rfl⟩ := h
    exact hopperref06_Unframe.long a0 j w hk c3 n c4 hg c5 n1
  rw [if_neg c5, if_pos n0] at h
  by_cases c6 : (a0.size : Int) - j < 8 + n
  · rw [if_pos c6] at h; simp only [Option.some.injEq, Prod.mk.injEq] at h; obtain ⟨rfl, rfl, rfl, rfl⟩ := h
    exact hopperref06_Unframe.end1 a0 j w hk c3 n c4 hg c5 n0 c6
  rw [if_neg c6] at h
  obtain ⟨x, hx, h⟩ := Option.bind_eq_some_iff.mp h
  obtain ⟨y, hy, h⟩ := Option.bind_eq_some_iff.mp h
  refine (hopperref06_Unframe.sum k a0 j n x y w hk c3 c4 hg c5 n0 c6 hx hy).mono fun e w' ⟨he, hb⟩ => ⟨?_, hb⟩
  rw [he]
  by_cases c7 : x = y
  · rw [if_pos c7] at h ⊢; simp only [Option.some.injEq, Prod.mk.injEq] at h; obtain ⟨rfl, rfl, rfl, rfl⟩ := h; rfl
  · rw [if_neg c7] at h ⊢; simp only [Option.some.injEq, Prod.mk.injEq] at h; obtain ⟨rfl, rfl, rfl, rfl⟩ := h; rfl

end Go.Proofs.Ytmfbmagbpceomaa.HFrameBytes
