import Derived.Test.YtdnmllodefbekaaDoorAu1
namespace Go.Proofs.YtdnmllodefbekaaDoor.Au
open Go.RowKit Go.Lib Go.Shelf Go.Proofs.YtdnmllodefbekaaDoor.Sha Go.Proofs.YtdnmllodefbekaaDoorW.PrintWords Go.Proofs.YtdnmllodefbekaaDoorW.PrintLast Go.Proofs.YtdnmllodefbekaaDoorW.PrintMore
set_option linter.unusedVariables false
set_option linter.unusedSimpArgs false
def chalB : ByteArray := ⟨#[99, 104, 97, 108, 108, 101, 110, 103, 101]⟩
def chalS (draw num : Int) : ByteArray := strOfNums (shaL (bytesOf (chalB ++ eightS draw ++ eightS (IntKind.u64.wrap num))))
def proofS (key name ch : ByteArray) : ByteArray := strOfNums (macL (bytesOf key) (bytesOf (name ++ ⟨#[0]⟩ ++ ch)))
theorem eightS_size (n : Int) : (eightS n).size = 8 := by unfold eightS; rw [strOfNums_size', eightL_len]
theorem chalS_size (a b : Int) : (chalS a b).size = 32 := by unfold chalS; rw [strOfNums_size', shaL_len]
theorem proofS_size (a b c : ByteArray) : (proofS a b c).size = 32 := by unfold proofS macL; rw [strOfNums_size', shaL_len]
set_option maxRecDepth 100000 in
theorem chal_walk (a b : Int) (h0 : 0 ≤ a) (h1 : a < 18446744073709551616) (w : World) (hL : Laid w) (h2 : 2 ≤ w.heap.size) : Calls Tryd.prog 28 #[.int .u64 a, .int .i64 b] w fun e w' => e = .returned (.string (chalS a b)) ∧ Below w.heap.size w w' := by
  have HL := Aside0.mk hL
  have HN := Aside0.mk (And.intro h0 h1)
  clear hL h0 h1
  obtain ⟨E, hE⟩ : ∃ E, eightS a = E := ⟨_, rfl⟩
  obtain ⟨F, hF⟩ : ∃ F, eightS (IntKind.u64.wrap b) = F := ⟨_, rfl⟩
  have s1 : E.size = 8 := by rw [← hE]; exact eightS_size _
  have s2 : F.size = 8 := by rw [← hF]; exact eightS_size _
  have HE := Aside0.mk hE
  have HF := Aside0.mk hF
  rw [show chalS a b = strOfNums (shaL (bytesOf (chalB ++ E ++ F))) from by unfold chalS; rw [hE, hF]]
  clear hE hF
  have hz1 : ¬ 9223372036854775807 < chalB.size + E.size := by rw [s1]; decide
  have hz2 : ¬ 9223372036854775807 < chalB.size + E.size + F.size := by rw [s1, s2]; decide
  go_enter Tryd.func28, Tryd.ntmps28
  go_wp2_with fail
  refine (eight_walk _ HN.out.1 HN.out.2 _).mono ?_
  rw [HE.out]
  rintro e w1 ⟨rfl, hB1⟩
  have HB1 := Aside0.mk hB1
  clear hB1
  go_wp2_with fail
  refine (eight_walk _ (by rw [IntKind.wrap_u64]; omega) (by rw [IntKind.wrap_u64]; omega) _).mono ?_
  rw [HF.out]
  rintro e w2 ⟨rfl, hB2⟩
  have HB2 := Aside0.mk (below_step HB1.out hB2)
  clear hB2
  go_wp2_with fail
  refine (sha_walk _ _ (HL.out.step HB2.out h2) (Nat.le_trans h2 HB2.out.size) ?_).mono ?_
  · simp only [ByteArray.size_append, s1, s2]; decide
  rintro e w3 ⟨rfl, hB3⟩
  have HB3 := Aside0.mk (below_step HB2.out hB3)
  clear hB3
  go_wp2
  go_ret
  exact ⟨rfl, HB3.out⟩
set_option maxRecDepth 100000 in
theorem proof_walk (key name ch : ByteArray) (w : World) (hL : Laid w) (h2 : 2 ≤ w.heap.size) (hk : key.size ≤ 1000000000) (hn : name.size ≤ 400000000) (hc : ch.size ≤ 400000000) : Calls Tryd.prog 29 #[.string key, .string name, .string ch] w fun e w' => e = .returned (.string (proofS key name ch)) ∧ Below w.heap.size w w' := by
  have HL := Aside0.mk hL
  clear hL
  have s0 : (⟨#[0]⟩ : ByteArray).size = 1 := rfl
  have hz1 : ¬ 9223372036854775807 < name.size + (⟨#[0]⟩ : ByteArray).size := by omega
  have hz2 : ¬ 9223372036854775807 < name.size + (⟨#[0]⟩ : ByteArray).size + ch.size := by omega
  go_enter Tryd.func29, Tryd.ntmps29
  go_wp2_with fail
  refine (mac_walk _ _ _ HL.out h2 hk ?_).mono ?_
  · simp only [ByteArray.size_append]; omega
  rintro e w3 ⟨rfl, hB3⟩
  have HB3 := Aside0.mk hB3
  clear hB3
  go_wp2
  go_ret
  exact ⟨rfl, HB3.out⟩
end Go.Proofs.YtdnmllodefbekaaDoor.Au
