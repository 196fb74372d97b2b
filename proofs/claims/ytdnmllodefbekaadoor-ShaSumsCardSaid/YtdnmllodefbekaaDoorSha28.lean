import Derived.Test.YtdnmllodefbekaaDoorHShaSumsx
import Derived.Test.YtdnmllodefbekaaDoorSha17
import Derived.Test.YtdnmllodefbekaaDoorSha27
namespace Go.Proofs.YtdnmllodefbekaaDoor.Sha
open Go.RowKit Go.Lib Go.Proofs.YtdnmllodefbekaaDoorW.PrintWords Go.Proofs.YtdnmllodefbekaaDoorW.PrintLast Go.Proofs.YtdnmllodefbekaaDoorW.PrintMore
open Go.Proofs.YtdnmllodefbekaaDoor.HShaSums
set_option linter.unusedVariables false
set_option linter.unusedSimpArgs false



set_option maxRecDepth 100000 in
set_option maxHeartbeats 4000000 in
theorem sums_walk (b key : ByteArray) (w : World) (hL : Laid w) (h2 : 2 ≤ w.heap.size) :
    Calls Tryd.prog 3 #[.string b, .string key] w fun e w' => e = .returned (.bool true) ∧ Below w.heap.size w w' := by
  have HL := Aside0.mk hL
  clear hL
  go_enter Tryd.func3, Tryd.ntmps3
  by_cases q1 : 100000 < b.size
  · have q1' : (100000 : Int) < (b.size : Int) := by omega
    go_wp2_with fail
    refine (works_walk _ HL.out h2).mono ?_
    rintro e w1 ⟨rfl, hB1⟩
    have HB1 := Aside0.mk hB1
    clear hB1
    go_wp2
    go_ret
    exact ⟨rfl, HB1.out⟩
  · have q1' : (b.size : Int) ≤ 100000 := by omega
    by_cases q2 : 100000 < key.size
    · have q2' : (100000 : Int) < (key.size : Int) := by omega
      go_wp2_with fail
      refine (works_walk _ HL.out h2).mono ?_
      rintro e w1 ⟨rfl, hB1⟩
      have HB1 := Aside0.mk hB1
      clear hB1
      go_wp2
      go_ret
      exact ⟨rfl, HB1.out⟩
    · have q2' : (key.size : Int) ≤ 100000 := by omega
      obtain ⟨K1, hK1⟩ := refsum_f b (by omega)
      obtain ⟨K2, hK2⟩ := refmac_f key b (by omega) (by omega)
      have HK := Aside0.mk (And.intro hK1 hK2)
      clear hK1 hK2
      go_wp2_with fail
      refine (sha_walk b _ HL.out h2 (by omega)).mono ?_
      rintro e w1 ⟨rfl, hB1⟩
      have HB1 := Aside0.mk hB1
      obtain ⟨S, hS⟩ : ∃ S, strOfNums (shaL (bytesOf b)) = S := ⟨_, rfl⟩
      rw [hS]
      have HS := Aside0.mk hS
      clear hB1 hS
      go_wp2_with fail
      refine (hopperref24_Sum.calls K1 b S w1 (by rw [← HS.out]; exact HK.out.1)).mono ?_
      rintro e w2 ⟨rfl, hB2⟩
      have HB2 := Aside0.mk (below_step HB1.out hB2)
      clear hB2
      go_wp2_with fail
      refine (mac_walk key b w2 (HL.out.step HB2.out h2) (Nat.le_trans h2 HB2.out.size) (by omega) (by omega)).mono ?_
      rintro e w3 ⟨rfl, hB3⟩
      have HB3 := Aside0.mk (below_step HB2.out hB3)
      obtain ⟨M, hM⟩ : ∃ M, strOfNums (macL (bytesOf key) (bytesOf b)) = M := ⟨_, rfl⟩
      rw [hM]
      have HM := Aside0.mk hM
      clear hB3 hM
      go_wp2_with fail
      refine (hopperref24_Mac.calls K2 key b M w3 (by rw [← HM.out]; exact HK.out.2)).mono ?_
      rintro e w4 ⟨rfl, hB4⟩
      have HB4 := Aside0.mk (below_step HB3.out hB4)
      clear hB4
      go_wp2_with fail
      refine (works_walk _ (HL.out.step HB4.out h2) (Nat.le_trans h2 HB4.out.size)).mono ?_
      rintro e w5 ⟨rfl, hB5⟩
      have HB5 := Aside0.mk (below_step HB4.out hB5)
      clear hB5
      go_wp2
      go_ret
      exact ⟨rfl, HB5.out⟩
end Go.Proofs.YtdnmllodefbekaaDoor.Sha
