-- Written by a program of this session (wip/tools/handprint.py) out of the translation; hand-written parts among it. Lean checks it.
import Derived.Test.YtmfbmagbpceomaaHFrameBackx0
import Derived.Test.YtmfbmagbpceomaaHFrameBackx2
import Derived.Test.YtmfbmagbpceomaaHFrameBackx7
namespace Go.Proofs.Ytmfbmagbpceomaa.HFrameBack
open Go.RowKit Go.Proofs.YtmfbmagbpceomaaW.PrintWords Go.Proofs.YtmfbmagbpceomaaW.PrintLast Go.Proofs.YtmfbmagbpceomaaW.PrintMore
attribute [local go_sem] max2_int min2_int max_two min_two max_three min_three max_four min_four   -- for this text's walks alone
set_option linter.unusedVariables false
set_option linter.unusedSimpArgs false

/-! ### frame_Unframe: function 40 -/
/-- What Unframe tells. -/
def frame_Unframe.f (a0 : ByteArray) (a1 : Int) : Option (ByteArray × Int × Int × Int) :=
  if a1 < 0 then some (⟨#[]⟩, 0, 0, 1) else if a1 > (a0.size : Int) then some (⟨#[]⟩, 0, 0, 1) else if a0.size ≤ 9223372036854775000 then
    (if a0.size - a1.toNat < 4 then some (⟨#[]⟩, 0, a1, 61) else (frame_get.f (a0.extract a1.toNat a0.size)).bind fun n =>
      if n > 65536 then some (⟨#[]⟩, 0, a1, 2) else if 0 ≤ n then
        (if ((a0.size - a1.toNat : Nat) : Int) < 4 + n + 4 then some (⟨#[]⟩, 0, a1, 61) else
          (frame_Sum.f ((a0.extract a1.toNat a0.size).extract 0 (4 + n).toNat)).bind fun x =>
          (frame_get.f ((a0.extract a1.toNat a0.size).extract (4 + n).toNat (a0.size - a1.toNat))).bind fun y =>
          if x = y then some ((a0.extract a1.toNat a0.size).extract 4 (4 + n).toNat, a1 + (4 + n) + 4, 0, 0) else some (⟨#[]⟩, 0, a1, 60)) else none) else none
set_option maxHeartbeats 1000000 in
theorem frame_Unframe.sum (s : ByteArray) (k : Nat) (n x y : Int) (w : World) (hk : k ≤ s.size) (hs : s.size ≤ 9223372036854775000) (h4 : ¬ s.size - k < 4) (hg : frame_get.f (s.extract k s.size) = some n) (hn : ¬ n > 65536) (hn0 : 0 ≤ n) (hl : ¬ ((s.size - k : Nat) : Int) < 4 + n + 4)
    (hx : frame_Sum.f ((s.extract k s.size).extract 0 (4 + n).toNat) = some x) (hy : frame_get.f ((s.extract k s.size).extract (4 + n).toNat (s.size - k)) = some y) :
    Calls Try.prog 40 #[.string s, .int .i64 k] w fun e w' => e = .returned (if x = y then .tuple #[.string ((s.extract k s.size).extract 4 (4 + n).toNat), .int .i64 (k + (4 + n) + 4), .agg #[.int .i64 0, .int .i64 0]] else .tuple #[.string ⟨#[]⟩, .int .i64 0, .agg #[.int .i64 k, .int .i64 60]]) ∧ Below w.heap.size w w' := by
  have hu63 := Try.underlying63
  have HG := Lib.hid hg
  have HX := Lib.hid hx
  have HY := Lib.hid hy
  clear hg hx hy
  have c1 : decide ((k : Int) < 0) = false := decide_eq_false (by omega)
  have c2 : decide ((s.size : Int) < (k : Int)) = false := decide_eq_false (by omega)
  have hRs : (s.extract k s.size).size = s.size - k := by rw [ByteArray.size_extract]; omega
  have c5 : decide (65536 < n) = false := decide_eq_false (by omega)
  have HR := Lib.hid hRs
  clear hRs
  by_cases hxy : x = y
  · subst hxy
    rw [if_pos rfl]
    go_enter Try.func40, Try.ntmps40
    go_wp2_with fail
    refine (frame_get.calls _ n _ HG.out).mono ?_
    rintro e w' ⟨rfl, ⟨nd, rfl⟩⟩
    go_wp2_with fail
    generalize hR : s.extract k s.size = R at *
    have HRR := Lib.hid hR
    clear hR
    have b1 : (4 + n : Int) ≤ (R.size : Int) := by rw [HR.out]; omega
    have b0 : (0 : Int) ≤ 4 + n := by omega
    clear c1 c2 c5
    have HY' : Hid (frame_get.f (R.extract (4 + n).toNat R.size) = some x) := by rw [HR.out]; exact HY.out
    go_quiet ((with_reducible first | exact quiet_add (frame_Sum.calls _ x _ HX.out) | exact quiet_add (frame_get.calls _ x _ HY'.out) | exact quiet_one (frame_Sum.calls _ x _ HX.out) | exact quiet_one (frame_get.calls _ x _ HY'.out)))
    go_wp2
    refine bodyPost_ret (v := .tuple #[.string (R.extract 4 (4 + n).toNat), .int .i64 (k + (4 + n) + 4), .agg #[.int .i64 0, .int .i64 0]]) (by simp [results, Try.results40, go_sem]) rfl ⟨by rw [HRR.out], ?_⟩
    exact ((pw_below_drewN (below_alloc (Below.refl _ _) _) _).setCell (Nat.le_refl _) _).setCell (Nat.le_refl _) _
  · rw [if_neg hxy]
    go_enter Try.func40, Try.ntmps40
    go_wp2_with fail
    refine (frame_get.calls _ n _ HG.out).mono ?_
    rintro e w' ⟨rfl, ⟨nd, rfl⟩⟩
    go_wp2_with fail
    generalize hR : s.extract k s.size = R at *
    have HRR := Lib.hid hR
    clear hR
    have b1 : (4 + n : Int) ≤ (R.size : Int) := by rw [HR.out]; omega
    have b0 : (0 : Int) ≤ 4 + n := by omega
    have b2 : (x != y) = true := bne_iff_ne.2 hxy
    clear c1 c2 c5
    have HY' : Hid (frame_get.f (R.extract (4 + n).toNat R.size) = some y) := by rw [HR.out]; exact HY.out
    go_quiet ((with_reducible first | exact quiet_add (frame_Sum.calls _ x _ HX.out) | exact quiet_add (frame_get.calls _ y _ HY'.out) | exact quiet_one (frame_Sum.calls _ x _ HX.out) | exact quiet_one (frame_get.calls _ y _ HY'.out)))
    go_wp2
    refine bodyPost_ret (v := .tuple #[.string ⟨#[]⟩, .int .i64 0, .agg #[.int .i64 k, .int .i64 60]]) (by simp [results, Try.results40, go_sem]) rfl ⟨rfl, ?_⟩
    exact ((pw_below_drewN (below_alloc (Below.refl _ _) _) _).setCell (Nat.le_refl _) _).setCell (Nat.le_refl _) _
set_option maxHeartbeats 1000000 in
theorem frame_Unframe.end1 (s : ByteArray) (k : Nat) (n : Int) (w : World) (hk : k ≤ s.size) (hs : s.size ≤ 9223372036854775000) (h4 : ¬ s.size - k < 4) (hg : frame_get.f (s.extract k s.size) = some n) (hn : ¬ n > 65536) (hn0 : 0 ≤ n) (hl : ((s.size - k : Nat) : Int) < 4 + n + 4) :
    Calls Try.prog 40 #[.string s, .int .i64 k] w fun e w' => e = .returned (.tuple #[.string ⟨#[]⟩, .int .i64 0, .agg #[.int .i64 k, .int .i64 61]]) ∧ Below w.heap.size w w' := by
  have hu63 := Try.underlying63
  have HG := Lib.hid hg
  clear hg
  have c1 : decide ((k : Int) < 0) = false := decide_eq_false (by omega)
  have c2 : decide ((s.size : Int) < (k : Int)) = false := decide_eq_false (by omega)
  have c5 : decide (65536 < n) = false := decide_eq_false (by omega)
  go_enter Try.func40, Try.ntmps40
  go_wp2_with fail
  refine (frame_get.calls _ n _ HG.out).mono ?_
  rintro e w' ⟨rfl, ⟨nd, rfl⟩⟩
  go_wp2
  refine bodyPost_ret (v := .tuple #[.string ⟨#[]⟩, .int .i64 0, .agg #[.int .i64 k, .int .i64 61]]) (by simp [results, Try.results40, go_sem]) rfl ⟨rfl, ?_⟩
  exact ((pw_below_drewN (below_alloc (Below.refl _ _) _) _).setCell (Nat.le_refl _) _).setCell (Nat.le_refl _) _
set_option maxHeartbeats 1000000 in
theorem frame_Unframe.long (s : ByteArray) (k : Nat) (n : Int) (w : World) (hk : k ≤ s.size) (hs : s.size ≤ 9223372036854775000) (h4 : ¬ s.size - k < 4) (hg : frame_get.f (s.extract k s.size) = some n) (hn : n > 65536) (hn2 : n < 4294967296) :
    Calls Try.prog 40 #[.string s, .int .i64 k] w fun e w' => e = .returned (.tuple #[.string ⟨#[]⟩, .int .i64 0, .agg #[.int .i64 k, .int .i64 2]]) ∧ Below w.heap.size w w' := by
  have hu63 := Try.underlying63
  have HG := Lib.hid hg
  clear hg
  have c1 : decide ((k : Int) < 0) = false := decide_eq_false (by omega)
  have c2 : decide ((s.size : Int) < (k : Int)) = false := decide_eq_false (by omega)
  have c5 : decide (65536 < n) = true := decide_eq_true (by omega)
  go_enter Try.func40, Try.ntmps40
  go_wp2_with fail
  refine (frame_get.calls _ n _ HG.out).mono ?_
  rintro e w' ⟨rfl, ⟨nd, rfl⟩⟩
  go_wp2
  refine bodyPost_ret (v := .tuple #[.string ⟨#[]⟩, .int .i64 0, .agg #[.int .i64 k, .int .i64 2]]) (by simp [results, Try.results40, go_sem]) rfl ⟨rfl, ?_⟩
  exact ((pw_below_drewN (below_alloc (Below.refl _ _) _) _).setCell (Nat.le_refl _) _).setCell (Nat.le_refl _) _
set_option maxHeartbeats 1000000 in
theorem frame_Unframe.end0 (s : ByteArray) (k : Nat) (w : World) (hk : k ≤ s.size) (hs : s.size ≤ 9223372036854775000) (h4 : s.size - k < 4) :
    Calls Try.prog 40 #[.string s, .int .i64 k] w fun e w' => e = .returned (.tuple #[.string ⟨#[]⟩, .int .i64 0, .agg #[.int .i64 k, .int .i64 61]]) ∧ Below w.heap.size w w' := by
  have hu63 := Try.underlying63
  have c1 : decide ((k : Int) < 0) = false := decide_eq_false (by omega)
  have c2 : decide ((s.size : Int) < (k : Int)) = false := decide_eq_false (by omega)
  go_enter Try.func40, Try.ntmps40
  go_wp2
  refine bodyPost_ret (v := .tuple #[.string ⟨#[]⟩, .int .i64 0, .agg #[.int .i64 k, .int .i64 61]]) (by simp [results, Try.results40, go_sem]) rfl ⟨rfl, ?_⟩
  first | exact below_alloc (Below.refl _ _) _ | exact ((below_alloc (Below.refl _ _) _).setCell (Nat.le_refl _) _).setCell (Nat.le_refl _) _
set_option maxHeartbeats 1000000 in
theorem frame_Unframe.range (s : ByteArray) (k : Int) (w : World) (h : k < 0 ∨ k > (s.size : Int)) :
    Calls Try.prog 40 #[.string s, .int .i64 k] w fun e w' => e = .returned (.tuple #[.string ⟨#[]⟩, .int .i64 0, .agg #[.int .i64 0, .int .i64 1]]) ∧ Below w.heap.size w w' := by
  have hu63 := Try.underlying63
  by_cases h0 : k < 0
  · have c1 : decide (k < 0) = true := decide_eq_true h0
    clear h
    go_enter Try.func40, Try.ntmps40
    go_wp2
    refine bodyPost_ret (v := .tuple #[.string ⟨#[]⟩, .int .i64 0, .agg #[.int .i64 0, .int .i64 1]]) (by simp [results, Try.results40, go_sem]) rfl ⟨rfl, ?_⟩
    first | exact below_alloc (Below.refl _ _) _ | exact ((below_alloc (Below.refl _ _) _).setCell (Nat.le_refl _) _).setCell (Nat.le_refl _) _
  · have c1 : decide (k < 0) = false := decide_eq_false h0
    have c2 : decide ((s.size : Int) < k) = true := decide_eq_true (by omega)
    clear h
    go_enter Try.func40, Try.ntmps40
    go_wp2
    refine bodyPost_ret (v := .tuple #[.string ⟨#[]⟩, .int .i64 0, .agg #[.int .i64 0, .int .i64 1]]) (by simp [results, Try.results40, go_sem]) rfl ⟨rfl, ?_⟩
    first | exact below_alloc (Below.refl _ _) _ | exact ((below_alloc (Below.refl _ _) _).setCell (Nat.le_refl _) _).setCell (Nat.le_refl _) _
theorem get_lt {s : ByteArray} {n : Int} (h : frame_get.f s = some n) : 0 ≤ n ∧ n < 4294967296 := by
  unfold frame_get.f at h
  repeat' split at h
  all_goals first | (have := Option.some.inj h; subst this; unfold Go.bits; rw [IntKind.wrap_u32]; omega) | (exact absurd h (by simp))
theorem frame_Unframe.calls (a0 : ByteArray) (a1 : Int) (r1 : ByteArray) (r2 : Int) (r3 : Int) (r4 : Int) (w : World) (h : frame_Unframe.f a0 a1 = some (r1, r2, r3, r4)) :
    Calls Try.prog 40 #[.string a0, .int .i64 a1] w fun e w' => e = .returned (.tuple #[.string r1, .int .i64 r2, .agg #[.int .i64 r3, .int .i64 r4]]) ∧ Below w.heap.size w w' := by
  unfold frame_Unframe.f at h
  by_cases c1 : a1 < 0
  · rw [if_pos c1] at h; simp only [Option.some.injEq, Prod.mk.injEq] at h; obtain ⟨rfl, rfl, rfl, rfl⟩ := h
    exact frame_Unframe.range a0 a1 w (.inl c1)
  rw [if_neg c1] at h
  by_cases c2 : a1 > (a0.size : Int)
  · rw [if_pos c2] at h; simp only [Option.some.injEq, Prod.mk.injEq] at h; obtain ⟨rfl, rfl, rfl, rfl⟩ := h
    exact frame_Unframe.range a0 a1 w (.inr c2)
  rw [if_neg c2] at h
  by_cases c3 : a0.size ≤ 9223372036854775000
  case neg => rw [if_neg c3] at h; exact absurd h (by simp)
  rw [if_pos c3] at h
  obtain ⟨k, rfl⟩ := Int.eq_ofNat_of_zero_le (show 0 ≤ a1 by omega)
  simp only [Int.toNat_natCast] at h
  have hk : k ≤ a0.size := by omega
  by_cases c4 : a0.size - k < 4
  · rw [if_pos c4] at h; simp only [Option.some.injEq, Prod.mk.injEq] at h; obtain ⟨rfl, rfl, rfl, rfl⟩ := h
    exact frame_Unframe.end0 a0 k w hk c3 c4
  rw [if_neg c4] at h
  obtain ⟨n, hg, h⟩ := Option.bind_eq_some_iff.mp h
  obtain ⟨n0, n1⟩ := get_lt hg
  by_cases c5 : n > 65536
  · rw [if_pos c5] at h; simp only [Option.some.injEq, Prod.mk.injEq] at h; obtain ⟨rfl, rfl, rfl, rfl⟩ := h
    exact frame_Unframe.long a0 k n w hk c3 c4 hg c5 n1
  rw [if_neg c5, if_pos n0] at h
  by_cases c6 : ((a0.size - k : Nat) : Int) < 4 + n + 4
  · rw [if_pos c6] at h; simp only [Option.some.injEq, Prod.mk.injEq] at h; obtain ⟨rfl, rfl, rfl, rfl⟩ := h
    exact frame_Unframe.end1 a0 k n w hk c3 c4 hg c5 n0 c6
  rw [if_neg c6] at h
  obtain ⟨x, hx, h⟩ := Option.bind_eq_some_iff.mp h
  obtain ⟨y, hy, h⟩ := Option.bind_eq_some_iff.mp h
  refine (frame_Unframe.sum a0 k n x y w hk c3 c4 hg c5 n0 c6 hx hy).mono fun e w' ⟨he, hb⟩ => ⟨?_, hb⟩
  rw [he]
  by_cases c7 : x = y
  · rw [if_pos c7] at h ⊢; simp only [Option.some.injEq, Prod.mk.injEq] at h; obtain ⟨rfl, rfl, rfl, rfl⟩ := h; rfl
  · rw [if_neg c7] at h ⊢; simp only [Option.some.injEq, Prod.mk.injEq] at h; obtain ⟨rfl, rfl, rfl, rfl⟩ := h; rfl

end Go.Proofs.Ytmfbmagbpceomaa.HFrameBack
