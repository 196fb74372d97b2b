import Derived.Test.YtdnmllodefbekaaDoorAu5
namespace Go.Proofs.YtdnmllodefbekaaDoor.Au
open Go.RowKit Go.Lib Go.Shelf Go.Proofs.YtdnmllodefbekaaDoor.Sha Go.Proofs.YtdnmllodefbekaaDoorW.PrintWords Go.Proofs.YtdnmllodefbekaaDoorW.PrintLast Go.Proofs.YtdnmllodefbekaaDoorW.PrintMore
set_option linter.unusedVariables false
set_option linter.unusedSimpArgs false
theorem chal_ev : shaL [99, 104, 97, 108, 108, 101, 110, 103, 101, 5, 0, 0, 0, 0, 0, 0, 0, 0, 0, 0, 0, 0, 0, 0, 0] = [23, 156, 230, 165, 206, 89, 96, 92, 138, 124, 29, 221, 224, 20, 108, 145, 143, 138, 167, 192, 19, 102, 174, 44, 233, 98, 149, 159, 9, 231, 92, 221] := by decide +kernel
theorem mack_ev : macL [107] [97, 110, 110, 0, 23, 156, 230, 165, 206, 89, 96, 92, 138, 124, 29, 221, 224, 20, 108, 145, 143, 138, 167, 192, 19, 102, 174, 44, 233, 98, 149, 159, 9, 231, 92, 221] = [251, 122, 168, 113, 115, 105, 215, 247, 170, 19, 237, 238, 11, 154, 163, 36, 215, 240, 25, 98, 40, 148, 204, 213, 128, 143, 23, 93, 51, 248, 70, 114] := by decide +kernel
theorem macx_ev : macL [120] [97, 110, 110, 0, 23, 156, 230, 165, 206, 89, 96, 92, 138, 124, 29, 221, 224, 20, 108, 145, 143, 138, 167, 192, 19, 102, 174, 44, 233, 98, 149, 159, 9, 231, 92, 221] = [138, 4, 130, 22, 246, 157, 224, 27, 94, 103, 195, 241, 98, 22, 139, 130, 78, 78, 251, 0, 243, 62, 44, 159, 100, 232, 186, 147, 20, 186, 58, 84] := by decide +kernel
def annB : ByteArray := ⟨#[97, 110, 110]⟩
def bobB : ByteArray := ⟨#[98, 111, 98]⟩
theorem eightL_byte (n : Int) (k : Nat) : ∀ x ∈ eightL n k, 0 ≤ x ∧ x < 256 := fun x hx => by
  unfold eightL at hx
  obtain ⟨i, -, rfl⟩ := List.mem_map.1 hx
  unfold byteAt
  split <;> omega
theorem bytesOf_eight (n : Int) : bytesOf (eightS n) = eightL n 8 := bytesOf_strOfNums _ (eightL_byte n 8)
theorem chal_in : bytesOf (chalB ++ eightS 5 ++ eightS (IntKind.u64.wrap 0)) = [99, 104, 97, 108, 108, 101, 110, 103, 101, 5, 0, 0, 0, 0, 0, 0, 0, 0, 0, 0, 0, 0, 0, 0, 0] := by
  rw [bytesOf_append, bytesOf_append, bytesOf_eight, bytesOf_eight]
  decide +kernel
theorem bytesOf_chal : bytesOf (chalS 5 0) = [23, 156, 230, 165, 206, 89, 96, 92, 138, 124, 29, 221, 224, 20, 108, 145, 143, 138, 167, 192, 19, 102, 174, 44, 233, 98, 149, 159, 9, 231, 92, 221] := by
  unfold chalS
  rw [chal_in, bytesOf_shaL, chal_ev]
theorem mac_in : bytesOf (annB ++ ⟨#[0]⟩ ++ chalS 5 0) = [97, 110, 110, 0, 23, 156, 230, 165, 206, 89, 96, 92, 138, 124, 29, 221, 224, 20, 108, 145, 143, 138, 167, 192, 19, 102, 174, 44, 233, 98, 149, 159, 9, 231, 92, 221] := by
  rw [bytesOf_append, bytesOf_append, bytesOf_chal]
  decide +kernel
theorem proofs_ne : proofS ⟨#[120]⟩ annB (chalS 5 0) ≠ proofS ⟨#[107]⟩ annB (chalS 5 0) := by
  unfold proofS
  rw [mac_in, show bytesOf ⟨#[120]⟩ = [120] from rfl, show bytesOf ⟨#[107]⟩ = [107] from rfl, mack_ev, macx_ev]
  intro h
  have := congrArg bytesOf h
  rw [bytesOf_strOfNums _ (by decide), bytesOf_strOfNums _ (by decide)] at this
  revert this
  decide
def annM : Ks := [(annB.data.toList, ⟨#[107]⟩)]
theorem ann_put : put [] annB ⟨#[107]⟩ = (annM, 0) := by kernel_rfl
theorem ann_c1 : check annM annB (chalS 5 0) (proofS ⟨#[107]⟩ annB (chalS 5 0)) = 0 := by
  unfold check
  rw [show keyAt annM annB = ⟨#[107]⟩ from rfl, if_pos rfl, show there annM annB = true from rfl, if_pos rfl]
theorem ann_c2 : check annM annB (chalS 5 0) (proofS ⟨#[120]⟩ annB (chalS 5 0)) = 250 := by
  unfold check
  rw [show keyAt annM annB = ⟨#[107]⟩ from rfl, if_neg proofs_ne]
theorem ann_c3 (p : ByteArray) : check annM bobB (chalS 5 0) p = 250 := by
  unfold check
  rw [show there annM bobB = false from rfl]
  split <;> rfl
set_option maxRecDepth 100000 in
set_option maxHeartbeats 2000000 in
theorem works_walk (w : World) (hL : Laid w) (h2 : 2 ≤ w.heap.size) : Calls Tryd.prog 26 #[] w fun e w' => e = .returned (.bool true) ∧ Below w.heap.size w w' := by
  have HL := Aside0.mk hL
  have HS := Aside0.mk (chalS_size 5 0)
  have H1 := Aside0.mk ann_c1
  have H2 := Aside0.mk ann_c2
  have H3 := Aside0.mk (ann_c3 (proofS ⟨#[107]⟩ bobB (chalS 5 0)))
  have p1 := proofS_size ⟨#[107]⟩ annB (chalS 5 0)
  have p2 := proofS_size ⟨#[120]⟩ annB (chalS 5 0)
  have p3 := proofS_size ⟨#[107]⟩ bobB (chalS 5 0)
  obtain ⟨P1, e1⟩ : ∃ P, proofS ⟨#[107]⟩ annB (chalS 5 0) = P := ⟨_, rfl⟩
  obtain ⟨P2, e2⟩ : ∃ P, proofS ⟨#[120]⟩ annB (chalS 5 0) = P := ⟨_, rfl⟩
  obtain ⟨P3, e3⟩ : ∃ P, proofS ⟨#[107]⟩ bobB (chalS 5 0) = P := ⟨_, rfl⟩
  rw [e1] at H1 p1
  rw [e2] at H2 p2
  rw [e3] at H3 p3
  obtain ⟨C, eC⟩ : ∃ C, chalS 5 0 = C := ⟨_, rfl⟩
  rw [eC] at e1 e2 e3 HS H1 H2 H3
  have E1 := Aside0.mk e1
  have E2 := Aside0.mk e2
  have E3 := Aside0.mk e3
  have EC := Aside0.mk eC
  have hs := HS.out
  have hs' : (C.size : Int) = 32 := by omega
  clear e1 e2 e3 eC hL
  go_enter Tryd.func26, Tryd.ntmps26
  go_wp2_with fail
  refine (new_walk w).mono ?_
  rintro e w1 ⟨rfl, hI1, hB1⟩
  have HI1 := Aside0.mk hI1
  have HB1 := Aside0.mk hB1
  clear hI1 hB1
  go_wp2_with fail
  refine (put_walk _ _ _ _ HI1.out annB ⟨#[107]⟩ (by decide)).mono ?_
  rw [ann_put]
  rintro e w2 ⟨rfl, hI2, hF2⟩
  have HI2 := Aside0.mk hI2
  have HB2 := Aside0.mk (hF2.below HB1.out fun k hk => Nat.le_of_eq hk.symm)
  clear hI2 hF2
  go_wp2_with fail
  refine (chal_walk 5 0 (by decide) (by decide) _ (HL.out.step HB2.out h2) (Nat.le_trans h2 HB2.out.size)).mono ?_
  rw [EC.out]
  rintro e w3 ⟨rfl, hB3⟩
  have HI3 := Aside0.mk (HI2.out.below hB3)
  have HB3 := Aside0.mk (below_step HB2.out hB3)
  clear hB3
  go_wp2_with fail
  refine (proof_walk ⟨#[107]⟩ annB C _ (HL.out.step HB3.out h2) (Nat.le_trans h2 HB3.out.size) (by decide) (by decide) (by omega)).mono ?_
  rw [E1.out]
  rintro e w4 ⟨rfl, hB4⟩
  have HI4 := Aside0.mk (HI3.out.below hB4)
  have HB4 := Aside0.mk (below_step HB3.out hB4)
  clear hB4
  go_wp2_with fail
  refine (check_walk _ _ _ _ HI4.out (HL.out.step HB4.out h2) (Nat.le_trans h2 HB4.out.size) annB C P1 (by decide) (by omega) (by omega)).mono ?_
  rw [H1.out]
  rintro e w5 ⟨rfl, hB5⟩
  have HI5 := Aside0.mk (HI4.out.below hB5)
  have HB5 := Aside0.mk (below_step HB4.out hB5)
  clear hB5
  go_wp2_with fail
  refine (proof_walk ⟨#[120]⟩ annB C _ (HL.out.step HB5.out h2) (Nat.le_trans h2 HB5.out.size) (by decide) (by decide) (by omega)).mono ?_
  rw [E2.out]
  rintro e w6 ⟨rfl, hB6⟩
  have HI6 := Aside0.mk (HI5.out.below hB6)
  have HB6 := Aside0.mk (below_step HB5.out hB6)
  clear hB6
  go_wp2_with fail
  refine (check_walk _ _ _ _ HI6.out (HL.out.step HB6.out h2) (Nat.le_trans h2 HB6.out.size) annB C P2 (by decide) (by omega) (by omega)).mono ?_
  rw [H2.out]
  rintro e w7 ⟨rfl, hB7⟩
  have HI7 := Aside0.mk (HI6.out.below hB7)
  have HB7 := Aside0.mk (below_step HB6.out hB7)
  clear hB7
  go_wp2_with fail
  refine (proof_walk ⟨#[107]⟩ bobB C _ (HL.out.step HB7.out h2) (Nat.le_trans h2 HB7.out.size) (by decide) (by decide) (by omega)).mono ?_
  rw [E3.out]
  rintro e w8 ⟨rfl, hB8⟩
  have HI8 := Aside0.mk (HI7.out.below hB8)
  have HB8 := Aside0.mk (below_step HB7.out hB8)
  clear hB8
  go_wp2_with fail
  refine (check_walk _ _ _ _ HI8.out (HL.out.step HB8.out h2) (Nat.le_trans h2 HB8.out.size) bobB C P3 (by decide) (by omega) (by omega)).mono ?_
  rw [H3.out]
  rintro e w9 ⟨rfl, hB9⟩
  have HB9 := Aside0.mk (below_step HB8.out hB9)
  clear hB9
  go_wp2
  go_ret
  exact ⟨rfl, HB9.out⟩
end Go.Proofs.YtdnmllodefbekaaDoor.Au
