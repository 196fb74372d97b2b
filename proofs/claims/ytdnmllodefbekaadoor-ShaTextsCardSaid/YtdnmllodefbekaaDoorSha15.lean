import Derived.Test.YtdnmllodefbekaaDoorSha13
import Derived.Test.YtdnmllodefbekaaDoorSha14
namespace Go.Proofs.YtdnmllodefbekaaDoor.Sha
open Go.RowKit Go.Lib Go.Proofs.YtdnmllodefbekaaDoorW.PrintWords Go.Proofs.YtdnmllodefbekaaDoorW.PrintLast Go.Proofs.YtdnmllodefbekaaDoorW.PrintMore
set_option linter.unusedVariables false
set_option linter.unusedSimpArgs false
theorem toList_inj_ {a b : ByteArray} (h : a.toList = b.toList) : a = b := by
  rw [ByteArray.toList_eq, ByteArray.toList_eq] at h
  exact Go.WideShapes.bytes_inj h
theorem str_beq (a b : ByteArray) : decide (a = b) = (a.toList == b.toList) := by
  by_cases h : a = b
  · subst h; simp
  · have : (a.toList == b.toList) = false := by
      rw [Bool.eq_false_iff]
      intro hh
      have := eq_of_beq hh
      exact h (toList_inj_ this)
    rw [this]; simpa using h
set_option maxRecDepth 100000 in
set_option maxHeartbeats 8000000 in
theorem texts_walk (b s : ByteArray) (w : World) (hL : Laid w) (h2 : 2 ≤ w.heap.size) (hb : b.size ≤ 140737488351232) :
    Calls Tryd.prog 7 #[.string b, .string s] w fun e w' => e = .returned (.bool true) ∧ Below w.heap.size w w' := by
  have HL := Aside0.mk hL
  clear hL
  obtain ⟨X, e, hX⟩ : ∃ X e, hexR b = .tuple #[.string X, .int .i64 e] := by
    unfold hexR
    split
    · exact ⟨_, _, rfl⟩
    · exact ⟨_, _, rfl⟩
  obtain ⟨R, hR⟩ : ∃ R, unR s = R := ⟨_, rfl⟩
  obtain ⟨Y, f⟩ := R
  have hbs := str_beq b s
  have HX := Aside0.mk hX
  have HR := Aside0.mk hR
  clear hX hR
  go_enter Tryd.func7, Tryd.ntmps7
  go_wp2_with fail
  refine (hex_walk b _).mono ?_
  rw [HX.out]
  rintro e_ w1 ⟨rfl, hB1⟩
  have HB1 := Aside0.mk hB1
  clear hB1
  go_wp2_with fail
  refine (rhex_walk b _).mono ?_
  rw [HX.out]
  rintro e_ w2 ⟨rfl, hB2⟩
  have HB2 := Aside0.mk (below_step HB1.out hB2)
  clear hB2
  go_wp2_with fail
  refine (unhex_walk s _).mono ?_
  rw [HR.out]
  rintro e_ w3 ⟨rfl, hB3⟩
  have HB3 := Aside0.mk (below_step HB2.out hB3)
  clear hB3
  go_wp2_with fail
  refine (runhex_walk s _).mono ?_
  rw [HR.out]
  rintro e_ w4 ⟨rfl, hB4⟩
  have HB4 := Aside0.mk (below_step HB3.out hB4)
  clear hB4
  go_wp2_with fail
  refine (equal_walk b s _ hb).mono ?_
  rintro e_ w5 ⟨rfl, hD5⟩
  have HB5 := Aside0.mk (below_step HB4.out hD5.below)
  clear hD5
  go_wp2_with fail
  refine (equal_walk b b _ hb).mono ?_
  rw [decide_eq_true rfl]
  rintro e_ w6 ⟨rfl, hD6⟩
  have HB6 := Aside0.mk (below_step HB5.out hD6.below)
  clear hD6
  go_wp2_with fail
  refine (works_walk _ (HL.out.step HB6.out h2) (Nat.le_trans h2 HB6.out.size)).mono ?_
  rintro e_ w7 ⟨rfl, hB7⟩
  have HB7 := Aside0.mk (below_step HB6.out hB7)
  clear hB7
  go_wp2
  go_ret
  exact ⟨rfl, HB7.out⟩
end Go.Proofs.YtdnmllodefbekaaDoor.Sha
