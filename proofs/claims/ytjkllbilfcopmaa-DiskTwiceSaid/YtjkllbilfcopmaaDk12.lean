import Derived.Test.YtjkllbilfcopmaaDk11
namespace Go.Proofs.Ytjkllbilfcopmaa.Dk
open Go.RowKit Go.Proofs.YtjkllbilfcopmaaW.PrintWords Go.Proofs.YtjkllbilfcopmaaW.PrintLast Go.Proofs.YtjkllbilfcopmaaW.PrintMore
set_option linter.unusedVariables false
set_option linter.unusedSimpArgs false
theorem wf_i64 {x : Int} (h : (Lit.int .i64 x).wf = true) : -9223372036854775808 ≤ x ∧ x ≤ 9223372036854775807 := by
  simp [Lit.wf, IntKind.min, IntKind.max, IntKind.bits, IntKind.signed] at h
  omega
/-- What is read behind the crash: a beginning, the safe bytes at least. -/
theorem safe_law (a b : ByteArray) (x : Int) : ∃ S : ByteArray, (if tail ⟨a ++ b, a.size⟩ = 0 then (⟨a ++ b, a.size⟩ : Fl) else torn ⟨a ++ b, a.size⟩ x).has = S ∧ a.size ≤ S.size ∧ S.size ≤ a.size + b.size ∧ (a ++ b).extract 0 S.size = S ∧ (x < 0 → S = a) := by
  have hz : (a ++ b).size = a.size + b.size := ByteArray.size_append
  have ht : tail ⟨a ++ b, a.size⟩ = (b.size : Int) := by unfold tail; show ((a ++ b).size : Int) - (a.size : Int) = _; omega
  rw [ht]
  refine ⟨_, rfl, ?_⟩
  by_cases h0 : (b.size : Int) = 0
  · rw [if_pos h0]
    show a.size ≤ (a ++ b).size ∧ (a ++ b).size ≤ a.size + b.size ∧ (a ++ b).extract 0 (a ++ b).size = a ++ b ∧ (x < 0 → a ++ b = a)
    have hb : b = ByteArray.empty := by
      apply ByteArray.ext
      rw [← Array.toList_inj]
      exact List.eq_nil_of_length_eq_zero (by rw [Array.length_toList]; exact (by omega : b.size = 0))
    refine ⟨by omega, by omega, ?_, fun _ => by rw [hb]; simp⟩
    exact ByteArray.extract_zero_size
  · rw [if_neg h0]
    have hl := torn_le (f := ⟨a ++ b, a.size⟩) ⟨by show (0 : Int) ≤ (a.size : Int); omega, by show (a.size : Int) ≤ ((a ++ b).size : Int); omega⟩ x
    obtain ⟨l1, l2, l3⟩ := hl
    simp only at l1 l2
    refine ⟨by omega, by omega, ?_, fun hx => ?_⟩
    · have e : (torn ⟨a ++ b, a.size⟩ x).has = (a ++ b).extract 0 (torn ⟨a ++ b, a.size⟩ x).safe.toNat := rfl
      rw [show (torn ⟨a ++ b, a.size⟩ x).has.size = (torn ⟨a ++ b, a.size⟩ x).safe.toNat by omega, ← e]
    · have e : torn ⟨a ++ b, a.size⟩ x = ⟨(a ++ b).extract 0 a.size, a.size⟩ := by
        unfold torn
        rw [ht, show max 0 x = 0 by omega, Int.zero_emod]
        simp
      rw [e]
      show (a ++ b).extract 0 a.size = a
      simp [ByteArray.extract_append]
set_option maxRecDepth 100000 in
set_option maxHeartbeats 4000000 in
theorem safe_walk (a b : ByteArray) (x : Int) (W : World) (ha : a.size ≤ 140737488351232) (hb : b.size ≤ 140737488351232) (hx : (Lit.int .i64 x).wf = true) : Calls Try.prog 3 #[.string a, .string b, .int .i64 x] W fun e W' => e = .returned (.bool true) ∧ Below W.heap.size W W' := by
  obtain ⟨hx1, hx2⟩ := wf_i64 hx
  clear hx
  go_enter Try.func3, Try.ntmps3
  go_wp2_with fail
  refine (new_at W W (Below.refl _ _)).mono ?_
  rintro e W1 ⟨g, b', rfl, hA⟩
  have HA := Lib.hid hA
  clear hA
  go_wp2_with fail
  refine (works_walk W1).mono ?_
  rintro e W2 ⟨rfl, hB⟩
  have HA2 := Lib.hid (HA.out.below hB)
  clear hB
  by_cases h1 : 262144 < a.size
  · have h1' : (262144 : Int) < (a.size : Int) := by omega
    go_wp2
    go_ret
    exact ⟨rfl, HA2.out.bel⟩
  · by_cases h2 : 262144 < a.size + b.size
    · have h1' : (a.size : Int) ≤ 262144 := by omega
      have h2' : (262144 : Int) - (a.size : Int) < (b.size : Int) := by omega
      go_wp2
      go_ret
      exact ⟨rfl, HA2.out.bel⟩
    · have h1' : (a.size : Int) ≤ 262144 := by omega
      have h2' : (b.size : Int) ≤ (262144 : Int) - (a.size : Int) := by omega
      have H1 := Lib.hid h1
      have H2 := Lib.hid h2
      clear h1 h2
      go_wp2_with fail
      refine (append_at HA2.out nA a (by decide) ha).mono ?_
      rw [app_new a (by have := H1.out; omega)]
      rintro e W3 ⟨rfl, hA⟩
      have HA3 := Lib.hid hA
      clear hA
      go_wp2_with fail
      refine (sync_at HA3.out nA (by decide)).mono ?_
      rw [sync_one]
      rintro e W4 ⟨rfl, hA⟩
      have HA4 := Lib.hid hA
      clear hA
      go_wp2_with fail
      refine (append_at HA4.out nA b (by decide) hb).mono ?_
      rw [app_one _ _ _ (by show a.size + b.size ≤ _; have := H2.out; omega)]
      rintro e W5 ⟨rfl, hA⟩
      have HA5 := Lib.hid hA
      clear hA
      go_wp2_with fail
      refine (crash_at (HA5.out.alloc (.cells #[.int .i64 x] 3)) (some ⟨W5.heap.size, 0, none⟩) [x] 1 (one_int HA5.out x) (Nat.le_refl _) (by decide) (by simp; omega)).mono ?_
      rw [crash_one]
      rintro e W6 ⟨rfl, hA, -⟩
      have HA6 := Lib.hid hA
      clear hA
      go_wp2_with fail
      refine (read_at HA6.out nA (by decide)).mono ?_
      rw [read_one]
      obtain ⟨S, hS, s1, s2, s3, s4⟩ := safe_law a b x
      rw [hS]
      rintro e W7 ⟨rfl, hA⟩
      have HA7 := Lib.hid hA
      have hz : (a ++ b).size = a.size + b.size := ByteArray.size_append
      have s1' : (a.size : Int) ≤ (S.size : Int) := by omega
      have s2' : (S.size : Int) ≤ (a.size : Int) + (b.size : Int) := by omega
      clear hA hS H1 H2 hz
      have hcat : ¬ 9223372036854775807 < a.size + b.size := by omega
      by_cases hx : x < 0
      · obtain rfl := s4 hx
        clear s4
        go_wp2
        go_ret
        exact ⟨rfl, HA7.out.bel⟩
      · have hx' : 0 ≤ x := by omega
        clear s4
        go_wp2
        go_ret
        exact ⟨rfl, HA7.out.bel⟩
end Go.Proofs.Ytjkllbilfcopmaa.Dk
