import Derived.Test.YtdnmllodefbekaaDoorSha8
namespace Go.Proofs.YtdnmllodefbekaaDoor.Sha
open Go.RowKit Go.Lib Go.Proofs.YtdnmllodefbekaaDoorW.PrintWords Go.Proofs.YtdnmllodefbekaaDoorW.PrintLast Go.Proofs.YtdnmllodefbekaaDoorW.PrintMore
set_option linter.unusedVariables false
set_option linter.unusedSimpArgs false
theorem abc_ev : shaL [97, 98, 99] = [186, 120, 22, 191, 143, 1, 207, 234, 65, 65, 64, 222, 93, 174, 34, 35, 176, 3, 97, 163, 150, 23, 122, 156, 180, 16, 255, 97, 242, 0, 21, 173] := by decide +kernel
theorem mac_ev : macL [74, 101, 102, 101] [119, 104, 97, 116, 32, 100, 111, 32, 121, 97, 32, 119, 97, 110, 116, 32, 102, 111, 114, 32, 110, 111, 116, 104, 105, 110, 103, 63] = [91, 220, 193, 70, 191, 96, 117, 78, 106, 4, 36, 38, 8, 149, 117, 199, 90, 0, 63, 8, 157, 39, 57, 131, 157, 236, 88, 185, 100, 236, 56, 67] := by decide +kernel
theorem abc_hex : hexR (strOfNums (shaL (bytesOf ⟨#[97, 98, 99]⟩))) = .tuple #[.string ⟨#[98, 97, 55, 56, 49, 54, 98, 102, 56, 102, 48, 49, 99, 102, 101, 97, 52, 49, 52, 49, 52, 48, 100, 101, 53, 100, 97, 101, 50, 50, 50, 51, 98, 48, 48, 51, 54, 49, 97, 51, 57, 54, 49, 55, 55, 97, 57, 99, 98, 52, 49, 48, 102, 102, 54, 49, 102, 50, 48, 48, 49, 53, 97, 100]⟩, .int .i64 0] := by
  rw [show bytesOf ⟨#[97, 98, 99]⟩ = [97, 98, 99] from rfl, abc_ev]
  kernel_rfl
theorem mac_hex : hexR (strOfNums (macL (bytesOf ⟨#[74, 101, 102, 101]⟩) (bytesOf ⟨#[119, 104, 97, 116, 32, 100, 111, 32, 121, 97, 32, 119, 97, 110, 116, 32, 102, 111, 114, 32, 110, 111, 116, 104, 105, 110, 103, 63]⟩))) = .tuple #[.string ⟨#[53, 98, 100, 99, 99, 49, 52, 54, 98, 102, 54, 48, 55, 53, 52, 101, 54, 97, 48, 52, 50, 52, 50, 54, 48, 56, 57, 53, 55, 53, 99, 55, 53, 97, 48, 48, 51, 102, 48, 56, 57, 100, 50, 55, 51, 57, 56, 51, 57, 100, 101, 99, 53, 56, 98, 57, 54, 52, 101, 99, 51, 56, 52, 51]⟩, .int .i64 0] := by
  rw [show bytesOf ⟨#[74, 101, 102, 101]⟩ = [74, 101, 102, 101] from rfl, show bytesOf ⟨#[119, 104, 97, 116, 32, 100, 111, 32, 121, 97, 32, 119, 97, 110, 116, 32, 102, 111, 114, 32, 110, 111, 116, 104, 105, 110, 103, 63]⟩ = [119, 104, 97, 116, 32, 100, 111, 32, 121, 97, 32, 119, 97, 110, 116, 32, 102, 111, 114, 32, 110, 111, 116, 104, 105, 110, 103, 63] from rfl, mac_ev]
  kernel_rfl
theorem works_walk (w : World) (hL : Laid w) (h2 : 2 ≤ w.heap.size) :
    Calls Tryd.prog 12 #[] w fun e w' => e = .returned (.bool true) ∧ Below w.heap.size w w' := by
  have HL := Aside0.mk hL
  clear hL
  go_enter Tryd.func12, Tryd.ntmps12
  go_wp2_with fail
  refine (sha_walk _ _ HL.out h2 (by decide)).mono ?_
  rintro e w1 ⟨rfl, hB1⟩
  have HB1 := Aside0.mk hB1
  clear hB1
  go_wp2_with fail
  refine (hex_walk _ _).mono ?_
  rw [abc_hex]
  rintro e w2 ⟨rfl, hB2⟩
  have HB2 := Aside0.mk (below_step HB1.out hB2)
  clear hB2
  go_wp2_with fail
  refine (mac_walk _ _ _ (HL.out.step HB2.out h2) (Nat.le_trans h2 HB2.out.size) (by decide) (by decide)).mono ?_
  rintro e w3 ⟨rfl, hB3⟩
  have HB3 := Aside0.mk (below_step HB2.out hB3)
  clear hB3
  go_wp2_with fail
  refine (hex_walk _ _).mono ?_
  rw [mac_hex]
  rintro e w4 ⟨rfl, hB4⟩
  have HB4 := Aside0.mk (below_step HB3.out hB4)
  clear hB4
  go_wp2
  go_ret
  exact ⟨rfl, HB4.out⟩
end Go.Proofs.YtdnmllodefbekaaDoor.Sha
