-- Written by a program of this session (wip/tools/handprint.py) out of the translation; hand-written parts among it. Lean checks it.
import Derived.Test.YtmfbmagbpceomaaHFrameBytesx0
import Derived.Test.YtmfbmagbpceomaaHFrameBytesx9
import Derived.Test.YtmfbmagbpceomaaHFrameBytesx10
namespace Go.Proofs.Ytmfbmagbpceomaa.HFrameBytes
open Go.RowKit Go.Proofs.YtmfbmagbpceomaaW.PrintWords Go.Proofs.YtmfbmagbpceomaaW.PrintLast Go.Proofs.YtmfbmagbpceomaaW.PrintMore
attribute [local go_sem] max2_int min2_int max_two min_two max_three min_three max_four min_four   -- for this text's walks alone
set_option linter.unusedVariables false
set_option linter.unusedSimpArgs false

/-! ### hopperref06_Of: function 52 -/
def hopperref06_Of.f (k : Nat) (a0 : ByteArray) : Option (ByteArray) := (hopperref06_four.f (((a0.size : Int)) % 4294967296)).bind fun t128 => (if t128.size + a0.size ≤ 9223372036854775807 then ((hopperref06_Sum.f k (t128 ++ a0)).bind fun t129 => ((hopperref06_four.f t129).bind fun t130 => (if t128.size + a0.size + t130.size ≤ 9223372036854775807 then (some ((t128 ++ a0) ++ t130)) else (none)))) else (none))
theorem hopperref06_Of.mono : ∀ a0 k, LeO (hopperref06_Of.f k a0) (hopperref06_Of.f (k + 1) a0) := by
  intro a0 k
  unfold hopperref06_Of.f
  repeat' first
      | (with_reducible exact hopperref06_Sum.mono _ _)
      | (with_reducible exact LeO.refl _)
      | (with_reducible exact LeO.none _)
      | (with_reducible refine LeO.ite ?_ ?_)
      | (with_reducible refine LeO.bind ?_ (fun _ => ?_))
      | exact hopperref06_Sum.mono _ _
      | exact LeO.none _
      | refine LeO.ite ?_ ?_
      | refine LeO.bind ?_ (fun _ => ?_)
set_option maxHeartbeats 8000000 in
set_option maxRecDepth 100000 in
theorem hopperref06_Of.calls (k : Nat) (a0 : ByteArray) (r : ByteArray) (w : World) (h : hopperref06_Of.f k a0 = some r) :
    Calls Try.prog 52 #[.string a0] w fun e w' => e = .returned (.string r) ∧ Below w.heap.size w w' := by
  have HB := Aside0.mk (Below.refl w.heap.size w)
  have H : ((hopperref06_four.f (((a0.size : Int)) % 4294967296)).bind fun t128 => (if t128.size + a0.size ≤ 9223372036854775807 then ((hopperref06_Sum.f k (t128 ++ a0)).bind fun t129 => ((hopperref06_four.f t129).bind fun t130 => (if t128.size + a0.size + t130.size ≤ 9223372036854775807 then (some ((t128 ++ a0) ++ t130)) else (none)))) else (none))) = some r := h
  clear h
  replace H := Option.bind_eq_some_iff.mp H
  obtain ⟨t128, A20, H⟩ := H
  replace H : (if t128.size + a0.size ≤ 9223372036854775807 then ((hopperref06_Sum.f k (t128 ++ a0)).bind fun t129 => ((hopperref06_four.f t129).bind fun t130 => (if t128.size + a0.size + t130.size ≤ 9223372036854775807 then (some ((t128 ++ a0) ++ t130)) else (none)))) else (none)) = some r := H
  have A2 := Aside0.mk A20
  clear A20
  by_cases c3 : t128.size + a0.size ≤ 9223372036854775807
  · rw [if_pos c3] at H
    have c3b0 := eq_true c3
    have c3b1 : decide (t128.size + a0.size ≤ 9223372036854775807) = true := decide_eq_true c3
    try have c3b2 : (9223372036854775807 < t128.size + a0.size) = False := eq_false (Nat.not_lt.2 c3)
    replace H := Option.bind_eq_some_iff.mp H
    obtain ⟨t129, A40, H⟩ := H
    replace H : ((hopperref06_four.f t129).bind fun t130 => (if t128.size + a0.size + t130.size ≤ 9223372036854775807 then (some ((t128 ++ a0) ++ t130)) else (none))) = some r := H
    have A4 := Aside0.mk A40
    clear A40
    replace H := Option.bind_eq_some_iff.mp H
    obtain ⟨t130, A50, H⟩ := H
    replace H : (if t128.size + a0.size + t130.size ≤ 9223372036854775807 then (some ((t128 ++ a0) ++ t130)) else (none)) = some r := H
    have A5 := Aside0.mk A50
    clear A50
    by_cases c6 : t128.size + a0.size + t130.size ≤ 9223372036854775807
    · rw [if_pos c6] at H
      have c6b0 := eq_true c6
      have c6b1 : decide (t128.size + a0.size + t130.size ≤ 9223372036854775807) = true := decide_eq_true c6
      try have c6b2 : (9223372036854775807 < t128.size + a0.size + t130.size) = False := eq_false (Nat.not_lt.2 c6)
      obtain rfl := Option.some.inj H
      go_enter Try.func52, Try.ntmps52
      go_wp2_with (first | ((with_reducible refine gate_callee (f := 56) rfl ?_); refine goesL_ (some 7) rfl rfl Try.func56 (by kernel_rfl) rfl #[.int .u32 (((a0.size : Int)) % 4294967296)] rfl (by (try simp only [List.map_toArray, List.map_cons, List.map_nil]); first | done | rfl | (simp only [List.length_drop, List.length_take]; rfl)) ?_; (with_reducible refine (hopperref06_four.calls (((a0.size : Int)) % 4294967296) t128 _ A2.out).mono ?_); rintro e w7 ⟨rfl, hb⟩; refine ⟨_, rfl, ?_⟩; have n0_ := Aside0.mk (below_step (by repeat (first | (with_reducible first | exact HB.out | apply below_alloc | apply pw_below_drewN | apply below_drew1) | exact HB.out)) hb); clear HB; have HB := n0_; clear n0_; (try clear hb); (try clear hb2); (try clear hk); (try clear hi)) | ((with_reducible refine gate_callee (f := 42) rfl ?_); refine goesL_ (some 12) rfl rfl Try.func42 (by kernel_rfl) rfl #[.string (t128 ++ a0)] rfl (by (try simp only [List.map_toArray, List.map_cons, List.map_nil]); first | done | rfl | (simp only [List.length_drop, List.length_take]; rfl)) ?_; (with_reducible refine (hopperref06_Sum.calls k (t128 ++ a0) t129 _ A4.out).mono ?_); rintro e w' ⟨rfl, ⟨nd, rfl⟩⟩; refine ⟨_, rfl, ?_⟩) | ((with_reducible refine gate_callee (f := 56) rfl ?_); refine goesL_ (some 13) rfl rfl Try.func56 (by kernel_rfl) rfl #[.int .u32 t129] rfl (by (try simp only [List.map_toArray, List.map_cons, List.map_nil]); first | done | rfl | (simp only [List.length_drop, List.length_take]; rfl)) ?_; (with_reducible refine (hopperref06_four.calls t129 t130 _ A5.out).mono ?_); rintro e w8 ⟨rfl, hb⟩; refine ⟨_, rfl, ?_⟩; have n0_ := Aside0.mk (below_step (by repeat (first | (with_reducible first | exact HB.out | apply below_alloc | apply pw_below_drewN | apply below_drew1) | exact HB.out)) hb); clear HB; have HB := n0_; clear n0_; (try clear hb); (try clear hb2); (try clear hk); (try clear hi)))
      go_ret
      exact ⟨by first | rfl | (simp [errW_none, errW_some] <;> rfl) | (simp [*, errW_none, errW_some] <;> rfl), by repeat (first | (with_reducible first | exact HB.out | apply below_alloc | apply pw_below_drewN | apply below_drew1) | exact HB.out)⟩
    · rw [if_neg c6] at H
      exact absurd H (by simp)
  · rw [if_neg c3] at H
    exact absurd H (by simp)

end Go.Proofs.Ytmfbmagbpceomaa.HFrameBytes
