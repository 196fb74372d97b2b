import Derived.Test.YtdnmllodefbekaaDoorSha11
namespace Go.Proofs.YtdnmllodefbekaaDoor.Sha
open Go.RowKit Go.Lib Go.Proofs.YtdnmllodefbekaaDoorW.PrintWords Go.Proofs.YtdnmllodefbekaaDoorW.PrintLast Go.Proofs.YtdnmllodefbekaaDoorW.PrintMore
set_option linter.unusedVariables false
set_option linter.unusedSimpArgs false
theorem hexR_big (b : ByteArray) (h : 262144 < b.size) : hexR b = .tuple #[.string ⟨#[]⟩, .int .i64 2] := if_pos h
theorem hexR_small (b : ByteArray) (h : ¬ 262144 < b.size) : hexR b = .tuple #[.string (strOfNums (hexL (bytesOf b))), .int .i64 0] := if_neg h
set_option maxRecDepth 100000 in
set_option maxHeartbeats 8000000 in
theorem back_walk (b s : ByteArray) (w : World) (hL : Laid w) (h2 : 2 ≤ w.heap.size) :
    Calls Tryd.prog 6 #[.string b, .string s] w fun e w' => e = .returned (.bool true) ∧ Below w.heap.size w w' := by
  have HL := Aside0.mk hL
  clear hL
  go_enter Tryd.func6, Tryd.ntmps6
  go_wp2_with fail
  refine (works_walk _ HL.out h2).mono ?_
  rintro e w1 ⟨rfl, hB1⟩
  have HB1 := Aside0.mk hB1
  clear hB1
  go_wp2_with fail
  refine (hex_walk b _).mono ?_
  rintro e w2 ⟨rfl, hB2⟩
  have HB2 := Aside0.mk (below_step HB1.out hB2)
  clear hB2
  by_cases q : 262144 < b.size
  · rw [hexR_big b q]
    go_wp2_with fail
    refine (unhex_walk s _).mono ?_
    rintro e w3 ⟨rfl, hB3⟩
    have HB3 := Aside0.mk (below_step HB2.out hB3)
    clear hB3
    obtain ⟨R, hR⟩ : ∃ R, unR s = R := ⟨_, rfl⟩
    have hc := unR_two s
    rw [hR] at hc ⊢
    clear hR
    obtain ⟨Y, f⟩ := R
    rcases hc with ⟨rfl, rfl⟩ | ⟨rfl, hYs, hYb⟩
    · go_wp2
      go_ret
      exact ⟨rfl, HB3.out⟩
    · simp only at hYs hYb
      go_wp2_with fail
      refine (hex_walk Y _).mono ?_
      rw [hexR_small Y (by omega), hYb]
      rintro e w4 ⟨rfl, hB4⟩
      have HB4 := Aside0.mk (below_step HB3.out hB4)
      clear hB4
      go_wp2
      go_ret
      exact ⟨rfl, HB4.out⟩
  · rw [hexR_small b q]
    obtain ⟨X, hX⟩ : ∃ X, strOfNums (hexL (bytesOf b)) = X := ⟨_, rfl⟩
    have hXs : X.size = 2 * b.size := by rw [← hX, strOfNums_size', hexL_len, bytesOf_length]
    have hU : unR X = (b, 0) := by rw [← hX]; exact unR_hex b (by omega)
    rw [hX]
    clear hX
    go_wp2_with fail
    refine (unhex_walk X _).mono ?_
    rw [hU]
    rintro e w5 ⟨rfl, hB5⟩
    replace HB2 := Aside0.mk (below_step HB2.out hB5)
    clear hB5 hU
    go_wp2_with fail
    refine (unhex_walk s _).mono ?_
    rintro e w3 ⟨rfl, hB3⟩
    have HB3 := Aside0.mk (below_step HB2.out hB3)
    clear hB3
    obtain ⟨R, hR⟩ : ∃ R, unR s = R := ⟨_, rfl⟩
    have hc := unR_two s
    rw [hR] at hc ⊢
    clear hR
    obtain ⟨Y, f⟩ := R
    rcases hc with ⟨rfl, rfl⟩ | ⟨rfl, hYs, hYb⟩
    · go_wp2
      go_ret
      exact ⟨rfl, HB3.out⟩
    · simp only at hYs hYb
      go_wp2_with fail
      refine (hex_walk Y _).mono ?_
      rw [hexR_small Y (by omega), hYb]
      rintro e w4 ⟨rfl, hB4⟩
      have HB4 := Aside0.mk (below_step HB3.out hB4)
      clear hB4
      go_wp2
      go_ret
      exact ⟨rfl, HB4.out⟩
end Go.Proofs.YtdnmllodefbekaaDoor.Sha
