import Derived.Test.YtdnmllodefbekaaDoorAu9
namespace Go.Proofs.YtdnmllodefbekaaDoor.Au
open Go.RowKit Go.Lib Go.Shelf Go.Proofs.YtdnmllodefbekaaDoor.Sha Go.Proofs.YtdnmllodefbekaaDoorW.PrintWords Go.Proofs.YtdnmllodefbekaaDoorW.PrintLast Go.Proofs.YtdnmllodefbekaaDoorW.PrintMore
set_option linter.unusedVariables false
set_option linter.unusedSimpArgs false
set_option maxRecDepth 100000 in
set_option maxHeartbeats 4000000 in
theorem lets_good0 (n k : ByteArray) (d a : Int) (hd : 0 ≤ d ∧ d < 18446744073709551616) (w : World) (hL : Laid w) (h2 : 2 ≤ w.heap.size)
    (hn : nameOk n = true) (gk1 : 1 ≤ k.size) (gk2 : k.size ≤ 64) (c : Nat) (hc : wrap64 ((IntKind.u64.wrap a).tmod 32) = (c : Int)) (hcl : c < 32) :
    Calls Tryd.prog 9 #[.string n, .string k, .agg #[.int .u64 d, .int .i64 a, .int .u8 0]] w fun e w' => e = .returned (.bool true) ∧ Below w.heap.size w w' := by
  have HL := Aside0.mk hL
  have HD := Aside0.mk hd
  have hns := nameOk_size hn
  have HP1 := Aside0.mk (l_put n k hn gk1 gk2)
  have HT := Aside0.mk (l_take n k)
  obtain ⟨C, hC⟩ : ∃ C, chalS d a = C := ⟨_, rfl⟩
  have sC : C.size = 32 := by rw [← hC]; exact chalS_size _ _
  obtain ⟨P, hP⟩ : ∃ P, proofS k n C = P := ⟨_, rfl⟩
  have sP : P.size = 32 := by rw [← hP]; exact proofS_size _ _ _
  have sP' : (P.size : Int) = 32 := by omega
  have HC := Aside0.mk hC
  have HP := Aside0.mk hP
  have HK1 := Aside0.mk (show check [(n.data.toList, k)] n C P = 0 from by rw [l_check, hP, if_pos rfl])
  obtain ⟨P2, e2⟩ : ∃ P2, strOfNums ((bytesOf P).set c (Go.bits .xor .u8 (bt P (c : Int)) 1)) = P2 := ⟨_, rfl⟩
  have n2 := turned_ne P c 1 (by omega) (by first | exact hy | decide)
  have s2 : P2.size = 32 := by rw [← e2, strOfNums_size', List.length_set, bytesOf_length]; exact sP
  rw [e2] at n2
  have HE2 := Aside0.mk e2
  have HK2 := Aside0.mk (show check [(n.data.toList, k)] n C P2 = 250 from by rw [l_check, hP, if_neg n2])
  have s3 : (P.extract 0 c).size ≤ 32 := by simp; omega
  have HK3 := Aside0.mk (show check [(n.data.toList, k)] n C (P.extract 0 c) = 250 from by rw [l_check, hP, if_neg (cut_ne P c (by omega))])
  have HK4 := Aside0.mk (l_check0 n C P)
  have hcl' : (c : Int) < 32 := by omega
  have hcP : (c : Int) ≤ (P.size : Int) := by omega
  have hcP2 : (c : Int) < (P.size : Int) := by omega
  have hmn : n.size ≤ maxLen := by unfold maxLen; omega
  clear hL hd hC hP e2 n2 hn
  have HX0 := Aside0.mk (And.intro (y_new w d a 0) (below_alloc (Below.refl w.heap.size w) (.cells #[.int .u64 d, .int .i64 a, .int .u8 0] 48)))
  have hk0 : w.heap.size < (w.alloc (.cells #[.int .u64 d, .int .i64 a, .int .u8 0] 48)).heap.size := by simp
  go_enter Tryd.func9, Tryd.ntmps9
  go_wp2_with fail
  generalize (w.alloc (.cells #[.int .u64 d, .int .i64 a, .int .u8 0] 48)) = w0 at *
  obtain ⟨x0, x1, x2⟩ := HX0.out.1
  have HB0 := Aside0.mk HX0.out.2
  have hh0 := Aside0.mk hk0
  clear HX0 hk0
  go_quiet (fail)
  go_wp2_with fail
  refine (new_walk _).mono ?_
  rintro e w1 ⟨rfl, hI1, hB1⟩
  have HB1 := Aside0.mk (below_step (pw_below_drewN HB0.out nq) hB1)
  have HI1 := Aside0.mk hI1
  have hs0 : w.heap.size ≤ (w0.drewN nq).heap.size := (pw_below_drewN HB0.out nq).size
  clear hI1 hB1 x0 x1 x2
  generalize (w0.drewN nq).heap.size = s at *
  go_wp2_with fail
  refine (works_walk _ (HL.out.step HB1.out h2) (Nat.le_trans h2 HB1.out.size)).mono ?_
  rintro e w2 ⟨rfl, hB2⟩
  have HB2 := Aside0.mk (below_step HB1.out hB2)
  have HI2 := Aside0.mk (HI1.out.below hB2)
  clear hB2
  go_wp2_with fail
  refine (put_walk _ _ _ _ HI2.out n k hmn).mono ?_
  rw [HP1.out]
  rintro e w3 ⟨rfl, hI3, hF3⟩
  have HI3 := Aside0.mk hI3
  have HB3 := Aside0.mk (hF3.below HB2.out fun k hk => by unfold Only at hk; omega)
  clear hI3 hF3
  go_wp2_with fail
  refine (chal_walk d a HD.out.1 HD.out.2 _ (HL.out.step HB3.out h2) (Nat.le_trans h2 HB3.out.size)).mono ?_
  rw [HC.out]
  rintro e w4 ⟨rfl, hB4⟩
  have HB4 := Aside0.mk (below_step HB3.out hB4)
  have HI4 := Aside0.mk (HI3.out.below hB4)
  clear hB4
  go_wp2_with fail
  refine (proof_walk k n C _ (HL.out.step HB4.out h2) (Nat.le_trans h2 HB4.out.size) (by omega) (by omega) (by omega)).mono ?_
  rw [HP.out]
  rintro e w5 ⟨rfl, hB5⟩
  have HB5 := Aside0.mk (below_step HB4.out hB5)
  have HI5 := Aside0.mk (HI4.out.below hB5)
  clear hB5
  go_wp2_with fail
  refine (check_walk _ _ _ _ HI5.out (HL.out.step HB5.out h2) (Nat.le_trans h2 HB5.out.size) n C P (by omega) (by omega) (by omega)).mono ?_
  rw [HK1.out]
  rintro e w6 ⟨rfl, hB6⟩
  have HB6 := Aside0.mk (below_step HB5.out hB6)
  have HI6 := Aside0.mk (HI5.out.below hB6)
  clear hB6
  go_wp2_with (first | ((with_reducible refine gate_dst (N := 53) rfl ?_); refine bytes_step rfl 9 32 5 _ rfl P rfl Tryd.underlying9 Tryd.underlying32 Tryd.underlying5 (by omega) ?_; intro W7 cap hb7 hr7 hf7 hg7 hk7; have hcell := cell_of_reads hr7 (show c < P.size by omega); have hfz := hf7 c (by omega); have hcv : (convert 32 9 (.slice (some ⟨w6.heap.size, 0, none⟩) 32 cap)).run Tryd.prog (W7.setCell ⟨w6.heap.size, c, none⟩ (.int .u8 (Go.bits .xor .u8 (bt P (c : Int)) 1))) = .ok (.string P2) _ := (by have h_ := string_of_reads (P := Tryd.prog) (c := cap) Tryd.underlying32 Tryd.underlying5 Tryd.underlying9 (reads_set hr7 c (Go.bits .xor .u8 (bt P (c : Int)) 1) (by omega) hk7); rw [HE2.out, sP] at h_; exact h_); have HB8 := Aside0.mk (hb7.setCell (p := ⟨w6.heap.size, c, none⟩) (Nat.le_refl _) (.int .u8 (Go.bits .xor .u8 (bt P (c : Int)) 1))); clear hb7 hr7 hf7 hk7))
  refine (check_walk _ _ _ _ (HI6.out.below HB8.out) (HL.out.step (below_step HB6.out HB8.out) h2) (Nat.le_trans h2 (below_step HB6.out HB8.out).size) n C P2 (by omega) (by omega) (by omega)).mono ?_
  rw [HK2.out]
  rintro e w9 ⟨rfl, hB9⟩
  have HB9 := Aside0.mk (below_step (below_step HB6.out HB8.out) hB9)
  have HI9 := Aside0.mk ((HI6.out.below HB8.out).below hB9)
  clear hB9 hcell hfz hcv HB8
  go_wp2_with fail
  refine (check_walk _ _ _ _ HI9.out (HL.out.step HB9.out h2) (Nat.le_trans h2 HB9.out.size) n C (P.extract 0 c) (by omega) (by omega) (by omega)).mono ?_
  rw [HK3.out]
  rintro e w10 ⟨rfl, hB10⟩
  have HB10 := Aside0.mk (below_step HB9.out hB10)
  have HI10 := Aside0.mk (HI9.out.below hB10)
  clear hB10
  go_wp2_with fail
  refine (take_walk _ _ _ _ HI10.out n hmn).mono ?_
  rw [HT.out]
  rintro e w11 ⟨rfl, hI11, hF11⟩
  have HI11 := Aside0.mk hI11
  have HB11 := Aside0.mk (hF11.below HB10.out fun k hk => by unfold Only at hk; omega)
  clear hI11 hF11
  go_wp2_with fail
  refine (check_walk _ _ _ _ HI11.out (HL.out.step HB11.out h2) (Nat.le_trans h2 HB11.out.size) n C P (by omega) (by omega) (by omega)).mono ?_
  rw [HK4.out]
  rintro e w12 ⟨rfl, hB12⟩
  have HB12 := Aside0.mk (below_step HB11.out hB12)
  clear hB12
  go_wp2
  go_ret
  exact ⟨rfl, HB12.out⟩
set_option maxRecDepth 100000 in
set_option maxHeartbeats 4000000 in
theorem lets_bad (n k : ByteArray) (d a y : Int) (w : World) (hL : Laid w) (h2 : 2 ≤ w.heap.size) (hmn : n.size ≤ maxLen) (h : ¬ (nameOk n = true ∧ 1 ≤ k.size ∧ k.size ≤ 64)) :
    Calls Tryd.prog 9 #[.string n, .string k, .agg #[.int .u64 d, .int .i64 a, .int .u8 y]] w fun e w' => e = .returned (.bool true) ∧ Below w.heap.size w w' := by
  have HL := Aside0.mk hL
  have hp := (l_put_no n k h).2
  obtain ⟨r, hr⟩ : ∃ r, (put [] n k).2 = r := ⟨_, rfl⟩
  rw [hr] at hp
  have HP1 := Aside0.mk hr
  clear hL hr h
  have HX0 := Aside0.mk (And.intro (y_new w d a y) (below_alloc (Below.refl w.heap.size w) (.cells #[.int .u64 d, .int .i64 a, .int .u8 y] 48)))
  have hk0 : w.heap.size < (w.alloc (.cells #[.int .u64 d, .int .i64 a, .int .u8 y] 48)).heap.size := by simp
  rcases hp with rfl | rfl
  · go_enter Tryd.func9, Tryd.ntmps9
    go_wp2_with fail
    generalize (w.alloc (.cells #[.int .u64 d, .int .i64 a, .int .u8 y] 48)) = w0 at *
    obtain ⟨x0, x1, x2⟩ := HX0.out.1
    have HB0 := Aside0.mk HX0.out.2
    have hh0 := Aside0.mk hk0
    clear HX0 hk0
    go_quiet (fail)
    go_wp2_with fail
    refine (new_walk _).mono ?_
    rintro e w1 ⟨rfl, hI1, hB1⟩
    have HB1 := Aside0.mk (below_step (pw_below_drewN HB0.out nq) hB1)
    have HI1 := Aside0.mk hI1
    have hs0 : w.heap.size ≤ (w0.drewN nq).heap.size := (pw_below_drewN HB0.out nq).size
    clear hI1 hB1 x0 x1 x2
    generalize (w0.drewN nq).heap.size = s at *
    go_wp2_with fail
    refine (works_walk _ (HL.out.step HB1.out h2) (Nat.le_trans h2 HB1.out.size)).mono ?_
    rintro e w2 ⟨rfl, hB2⟩
    have HB2 := Aside0.mk (below_step HB1.out hB2)
    have HI2 := Aside0.mk (HI1.out.below hB2)
    clear hB2
    go_wp2_with fail
    refine (put_walk _ _ _ _ HI2.out n k hmn).mono ?_
    rw [HP1.out]
    rintro e w3 ⟨rfl, -, hF3⟩
    have HB3 := Aside0.mk (hF3.below HB2.out fun k hk => by unfold Only at hk; omega)
    clear hF3
    go_wp2
    go_ret
    exact ⟨rfl, HB3.out⟩
  · go_enter Tryd.func9, Tryd.ntmps9
    go_wp2_with fail
    generalize (w.alloc (.cells #[.int .u64 d, .int .i64 a, .int .u8 y] 48)) = w0 at *
    obtain ⟨x0, x1, x2⟩ := HX0.out.1
    have HB0 := Aside0.mk HX0.out.2
    have hh0 := Aside0.mk hk0
    clear HX0 hk0
    go_quiet (fail)
    go_wp2_with fail
    refine (new_walk _).mono ?_
    rintro e w1 ⟨rfl, hI1, hB1⟩
    have HB1 := Aside0.mk (below_step (pw_below_drewN HB0.out nq) hB1)
    have HI1 := Aside0.mk hI1
    have hs0 : w.heap.size ≤ (w0.drewN nq).heap.size := (pw_below_drewN HB0.out nq).size
    clear hI1 hB1 x0 x1 x2
    generalize (w0.drewN nq).heap.size = s at *
    go_wp2_with fail
    refine (works_walk _ (HL.out.step HB1.out h2) (Nat.le_trans h2 HB1.out.size)).mono ?_
    rintro e w2 ⟨rfl, hB2⟩
    have HB2 := Aside0.mk (below_step HB1.out hB2)
    have HI2 := Aside0.mk (HI1.out.below hB2)
    clear hB2
    go_wp2_with fail
    refine (put_walk _ _ _ _ HI2.out n k hmn).mono ?_
    rw [HP1.out]
    rintro e w3 ⟨rfl, -, hF3⟩
    have HB3 := Aside0.mk (hF3.below HB2.out fun k hk => by unfold Only at hk; omega)
    clear hF3
    go_wp2
    go_ret
    exact ⟨rfl, HB3.out⟩
theorem u8_range {n : Int} (h : (Lit.int .u8 n).wf = true) : 0 ≤ n ∧ n < 256 := by
  simp [Lit.wf, IntKind.min, IntKind.max, IntKind.bits, IntKind.signed] at h
  omega
theorem at_place (a : Int) : ∃ c : Nat, wrap64 ((IntKind.u64.wrap a).tmod 32) = (c : Int) ∧ c < 32 := by
  have h1 : 0 ≤ IntKind.u64.wrap a := by rw [IntKind.wrap_u64]; omega
  have h2 : (IntKind.u64.wrap a).tmod 32 = IntKind.u64.wrap a % 32 := Int.tmod_eq_emod_of_nonneg h1
  rw [h2]
  generalize IntKind.u64.wrap a = u at *
  refine ⟨(u % 32).toNat, ?_, by omega⟩
  unfold wrap64
  omega
theorem lets_walk (n k : ByteArray) (d a y : Int) (hd : 0 ≤ d ∧ d < 18446744073709551616) (hy : 0 ≤ y ∧ y < 256) (w : World) (hL : Laid w) (h2 : 2 ≤ w.heap.size) (hmn : n.size ≤ maxLen) :
    Calls Tryd.prog 9 #[.string n, .string k, .agg #[.int .u64 d, .int .i64 a, .int .u8 y]] w fun e w' => e = .returned (.bool true) ∧ Below w.heap.size w w' := by
  by_cases h : nameOk n = true ∧ 1 ≤ k.size ∧ k.size ≤ 64
  · obtain ⟨c, hc, hcl⟩ := at_place a
    by_cases hz : y = 0
    · subst hz
      exact lets_good0 n k d a hd w hL h2 h.1 h.2.1 h.2.2 c hc hcl
    · exact lets_good1 n k d a y hd ⟨by omega, hy.2⟩ (by simpa using hz) w hL h2 h.1 h.2.1 h.2.2 c hc hcl
  · exact lets_bad n k d a y w hL h2 hmn h
end Go.Proofs.YtdnmllodefbekaaDoor.Au
