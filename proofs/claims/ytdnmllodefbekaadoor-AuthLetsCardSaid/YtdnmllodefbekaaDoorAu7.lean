import Derived.Test.YtdnmllodefbekaaDoorAu6
import Derived.Deep.RegionHeld3
namespace Go.Proofs.YtdnmllodefbekaaDoor.Au
open Go.RowKit Go.Lib Go.Shelf Go.Proofs.YtdnmllodefbekaaDoor.Sha Go.Proofs.YtdnmllodefbekaaDoorW.PrintWords Go.Proofs.YtdnmllodefbekaaDoorW.PrintLast Go.Proofs.YtdnmllodefbekaaDoorW.PrintMore
set_option linter.unusedVariables false
set_option linter.unusedSimpArgs false
def aB : ByteArray := ⟨#[97]⟩
def bB : ByteArray := ⟨#[98]⟩
def kB : ByteArray := ⟨#[107]⟩
theorem o_put1 : put [] aB kB = ([(aB.data.toList, kB)], 0) := by kernel_rfl
theorem o_put2 (a : ByteArray) (h1 : 1 ≤ a.size) (h2 : a.size ≤ 64) : put [(aB.data.toList, kB)] aB a = ([(aB.data.toList, a)], 0) := by
  unfold put
  rw [show nameOk aB = true from by kernel_rfl, if_neg (by decide), if_neg (by omega), if_neg (by simp)]
  rfl
theorem o_put3 (a b : ByteArray) (h1 : 1 ≤ b.size) (h2 : b.size ≤ 64) : put [(aB.data.toList, a)] bB b = ([(aB.data.toList, a), (bB.data.toList, b)], 0) := by
  unfold put
  rw [show nameOk bB = true from by kernel_rfl, if_neg (by decide), if_neg (by omega), if_neg (by simp)]
  rfl
theorem o_check1 (a b c p : ByteArray) : check [(aB.data.toList, a), (bB.data.toList, b)] bB c p = if p = proofS b bB c then 0 else 250 := rfl
theorem o_check2 (a b c p : ByteArray) : check [(aB.data.toList, a), (bB.data.toList, b)] aB c p = if p = proofS a aB c then 0 else 250 := rfl
abbrev XAt (W : World) (k : Nat) (d o n : Int) : Prop := W.cell? ⟨k, 0, none⟩ = some (.int .u64 d) ∧ W.cell? ⟨k, 1, none⟩ = some (.int .u64 o) ∧ W.cell? ⟨k, 2, none⟩ = some (.int .i64 n)
theorem x_below {W W1 : World} {k : Nat} {d o n : Int} (h : XAt W k d o n) (hk : k < W.heap.size) (hb : Below W.heap.size W W1) : XAt W1 k d o n :=
  ⟨(hb.cell (p := ⟨k, 0, none⟩) hk).trans h.1, (hb.cell (p := ⟨k, 1, none⟩) hk).trans h.2.1, (hb.cell (p := ⟨k, 2, none⟩) hk).trans h.2.2⟩
theorem x_fr {W W1 : World} {k : Nat} {d o n : Int} {S : Nat → Prop} (h : XAt W k d o n) (hk : k < W.heap.size) (hf : Fr S W W1) (hs : ¬ S k) : XAt W1 k d o n := by
  have e := hf.block k hk hs
  have hc : ∀ i, W1.cell? ⟨k, i, none⟩ = W.cell? ⟨k, i, none⟩ := fun i => by
    unfold World.cell?
    simp only
    rw [e]
  exact ⟨(hc _).trans h.1, (hc _).trans h.2.1, (hc _).trans h.2.2⟩
theorem tl_ne {x y : ByteArray} (h : x ≠ y) : (x.toList == y.toList) = false := by
  rw [beq_eq_false_iff_ne]
  intro e
  rw [ByteArray.toList_eq, ByteArray.toList_eq] at e
  exact h (ByteArray.ext (Array.toList_inj.1 e))
theorem x_new (W : World) (d o n : Int) : XAt (W.alloc (.cells #[.int .u64 d, .int .u64 o, .int .i64 n] 39)) W.heap.size d o n := by
  have h := heap_alloc_new W (.cells #[.int .u64 d, .int .u64 o, .int .i64 n] 39)
  exact ⟨blk_cell h 0, blk_cell h 1, blk_cell h 2⟩
set_option maxRecDepth 100000 in
set_option maxHeartbeats 4000000 in
theorem others_good (a b : ByteArray) (d o n : Int) (hd : 0 ≤ d ∧ d < 18446744073709551616) (ho : 0 ≤ o ∧ o < 18446744073709551616) (w : World) (hL : Laid w) (h2 : 2 ≤ w.heap.size)
    (ga1 : 1 ≤ a.size) (ga2 : a.size ≤ 64) (gb1 : 1 ≤ b.size) (gb2 : b.size ≤ 64) :
    Calls Tryd.prog 8 #[.string a, .string b, .agg #[.int .u64 d, .int .u64 o, .int .i64 n]] w fun e w' => e = .returned (.bool true) ∧ Below w.heap.size w w' := by
  have HL := Aside0.mk hL
  have HD := Aside0.mk hd
  have HO := Aside0.mk ho
  have i1 : (1 : Int) ≤ (a.size : Int) := by omega
  have i2 : (a.size : Int) ≤ 64 := by omega
  have i3 : (1 : Int) ≤ (b.size : Int) := by omega
  have i4 : (b.size : Int) ≤ 64 := by omega
  have HP2 := Aside0.mk (o_put2 a ga1 ga2)
  have HP3 := Aside0.mk (o_put3 a b gb1 gb2)
  obtain ⟨C, hC⟩ : ∃ C, chalS d n = C := ⟨_, rfl⟩
  obtain ⟨D, hD⟩ : ∃ D, chalS o n = D := ⟨_, rfl⟩
  have sC : C.size = 32 := by rw [← hC]; exact chalS_size _ _
  have sD : D.size = 32 := by rw [← hD]; exact chalS_size _ _
  obtain ⟨P, hP⟩ : ∃ P, proofS a aB C = P := ⟨_, rfl⟩
  have sP : P.size = 32 := by rw [← hP]; exact proofS_size _ _ _
  obtain ⟨PB, hPB⟩ : ∃ P, proofS b bB C = P := ⟨_, rfl⟩
  obtain ⟨PD, hPD⟩ : ∃ P, proofS a aB D = P := ⟨_, rfl⟩
  have HC := Aside0.mk hC
  have HDD := Aside0.mk hD
  have HP := Aside0.mk hP
  have HPB := Aside0.mk hPB
  have HPD := Aside0.mk hPD
  have HQ := Aside0.mk (show C = D → P = PD from fun e => by rw [← hP, ← hPD, e])
  have HK1 := Aside0.mk (o_check1 a b C P)
  have HK2 := Aside0.mk (o_check2 a b D P)
  rw [hPB] at HK1
  rw [hPD] at HK2
  clear hL hd ho ga1 gb1 hC hD hP hPB hPD
  have HX0 := Aside0.mk (And.intro (x_new w d o n) (below_alloc (Below.refl w.heap.size w) (.cells #[.int .u64 d, .int .u64 o, .int .i64 n] 39)))
  have hk0 : w.heap.size < (w.alloc (.cells #[.int .u64 d, .int .u64 o, .int .i64 n] 39)).heap.size := by simp
  go_enter Tryd.func8, Tryd.ntmps8
  go_wp2_with fail
  generalize (w.alloc (.cells #[.int .u64 d, .int .u64 o, .int .i64 n] 39)) = w0 at *
  refine (new_walk _).mono ?_
  rintro e w1 ⟨rfl, hI1, hB1⟩
  have HX1 := Aside0.mk (x_below HX0.out.1 hk0 hB1)
  have HB1 := Aside0.mk (below_step HX0.out.2 hB1)
  have HI1 := Aside0.mk hI1
  have hk1 : w.heap.size < w1.heap.size := Nat.lt_of_lt_of_le hk0 hB1.size
  clear hI1 hB1
  generalize w0.heap.size = s at *
  go_wp2_with fail
  refine (works_walk _ (HL.out.step HB1.out h2) (Nat.le_trans h2 HB1.out.size)).mono ?_
  rintro e w2 ⟨rfl, hB2⟩
  have HX2 := Aside0.mk (x_below HX1.out hk1 hB2)
  have HB2 := Aside0.mk (below_step HB1.out hB2)
  have HI2 := Aside0.mk (HI1.out.below hB2)
  have hk2 : w.heap.size < w2.heap.size := Nat.lt_of_lt_of_le hk1 hB2.size
  clear hB2
  go_wp2_with fail
  refine (put_walk _ _ _ _ HI2.out aB kB (by decide)).mono ?_
  rw [o_put1]
  rintro e w3 ⟨rfl, hI3, hF3⟩
  have HI3 := Aside0.mk hI3
  have HX3 := Aside0.mk (x_fr HX2.out hk2 hF3 (by unfold Only; omega))
  have HB3 := Aside0.mk (hF3.below HB2.out fun k hk => by unfold Only at hk; omega)
  have hk3 : w.heap.size < w3.heap.size := Nat.lt_of_lt_of_le hk2 hF3.size
  clear hI3 hF3
  go_wp2_with fail
  refine (put_walk _ _ _ _ HI3.out aB a (by decide)).mono ?_
  rw [HP2.out]
  rintro e w4 ⟨rfl, hI4, hF4⟩
  have HI4 := Aside0.mk hI4
  have HX4 := Aside0.mk (x_fr HX3.out hk3 hF4 (by unfold Only; omega))
  have HB4 := Aside0.mk (hF4.below HB3.out fun k hk => by unfold Only at hk; omega)
  have hk4 : w.heap.size < w4.heap.size := Nat.lt_of_lt_of_le hk3 hF4.size
  clear hI4 hF4
  go_wp2_with fail
  refine (put_walk _ _ _ _ HI4.out bB b (by decide)).mono ?_
  rw [HP3.out]
  rintro e w5 ⟨rfl, hI5, hF5⟩
  have HI5 := Aside0.mk hI5
  have HX5 := Aside0.mk (x_fr HX4.out hk4 hF5 (by unfold Only; omega))
  have HB5 := Aside0.mk (hF5.below HB4.out fun k hk => by unfold Only at hk; omega)
  have hk5 : w.heap.size < w5.heap.size := Nat.lt_of_lt_of_le hk4 hF5.size
  clear hI5 hF5
  obtain ⟨x0, x1, x2⟩ := HX5.out
  have HR : Aside0 (∀ W1, Below w5.heap.size w5 W1 → Laid W1 ∧ 2 ≤ W1.heap.size) := ⟨fun W1 hb => ⟨(HL.out.step HB5.out h2).step hb (Nat.le_trans h2 HB5.out.size), Nat.le_trans (Nat.le_trans h2 HB5.out.size) hb.size⟩⟩
  have HY : Aside0 (∀ W1, Below w5.heap.size w5 W1 → XAt W1 w.heap.size d o n) := ⟨fun W1 hb => x_below ⟨x0, x1, x2⟩ hk5 hb⟩
  have hbr := below_drew (Below.refl w5.heap.size w5)
  go_wp2_with fail
  go_region_held3 (fun w' => w'.cell? ⟨w.heap.size, 0, none⟩ = some (.int .u64 d) ∧ w'.cell? ⟨w.heap.size, 1, none⟩ = some (.int .u64 o) ∧ w'.cell? ⟨w.heap.size, 2, none⟩ = some (.int .i64 n) ∧ Below w5.heap.size w5 w') (first | (simp [*]; done)) (first | (go_at_call_of 28 (Value.int .u64 d); refine (chal_walk d n HD.out.1 HD.out.2 _ (HR.out _ (by assumption)).1 (HR.out _ (by assumption)).2).mono ?_; rw [HC.out]; rintro e W1 ⟨rfl, hB⟩; have hb' : Below w5.heap.size w5 W1 := below_step (by assumption) hB; obtain ⟨y0, y1, y2⟩ := HY.out _ hb') | (go_at_call_of 28 (Value.int .u64 o); refine (chal_walk o n HO.out.1 HO.out.2 _ (HR.out _ (by assumption)).1 (HR.out _ (by assumption)).2).mono ?_; rw [HDD.out]; rintro e W1 ⟨rfl, hB⟩; have hb' : Below w5.heap.size w5 W1 := below_step (by assumption) hB; obtain ⟨y0, y1, y2⟩ := HY.out _ hb'))
  clear hbr x0 x1 x2
  have HB6 := Aside0.mk (below_step HB5.out hb')
  have HI6 := Aside0.mk (HI5.out.below hb')
  go_wp2_with fail
  refine (proof_walk a aB C _ (HL.out.step HB6.out h2) (Nat.le_trans h2 HB6.out.size) (by omega) (by decide) (by omega)).mono ?_
  rw [HP.out]
  rintro e w7 ⟨rfl, hB7⟩
  have HB7 := Aside0.mk (below_step HB6.out hB7)
  have HI7 := Aside0.mk (HI6.out.below hB7)
  clear hB7 hB hb' y0 y1 y2
  obtain ⟨V1, hV1⟩ : ∃ V, check [(aB.data.toList, a), (bB.data.toList, b)] bB C P = V := ⟨_, rfl⟩
  rw [hV1] at HK1
  go_wp2_with fail
  refine (check_walk _ _ _ _ HI7.out (HL.out.step HB7.out h2) (Nat.le_trans h2 HB7.out.size) bB C P (by decide) (by omega) (by omega)).mono ?_
  rw [hV1]
  rintro e w8 ⟨rfl, hB8⟩
  have HB8 := Aside0.mk (below_step HB7.out hB8)
  have HI8 := Aside0.mk (HI7.out.below hB8)
  clear hB8 hV1
  go_wp2_with fail
  refine (proof_walk b bB C _ (HL.out.step HB8.out h2) (Nat.le_trans h2 HB8.out.size) (by omega) (by decide) (by omega)).mono ?_
  rw [HPB.out]
  rintro e w9 ⟨rfl, hB9⟩
  have HB9 := Aside0.mk (below_step HB8.out hB9)
  have HI9 := Aside0.mk (HI8.out.below hB9)
  clear hB9
  obtain ⟨V2, hV2⟩ : ∃ V, check [(aB.data.toList, a), (bB.data.toList, b)] aB D P = V := ⟨_, rfl⟩
  rw [hV2] at HK2
  have HV2 := Aside0.mk hV2
  clear hV2
  by_cases q1 : P = PB
  · subst q1
    obtain rfl : V1 = 0 := by rw [HK1.out, if_pos rfl]
    by_cases q3 : C = D
    · have q2 := HQ.out q3
      subst q3
      subst q2
      obtain rfl : V2 = 0 := by rw [HK2.out, if_pos rfl]
      clear HQ
      go_wp2_with fail
      refine (check_walk _ _ _ _ HI9.out (HL.out.step HB9.out h2) (Nat.le_trans h2 HB9.out.size) aB C P (by decide) (by omega) (by omega)).mono ?_
      rw [HV2.out]
      rintro e w10 ⟨rfl, hB10⟩
      have HB10 := Aside0.mk (below_step HB9.out hB10)
      have HI10 := Aside0.mk (HI9.out.below hB10)
      clear hB10
      go_wp2_with fail
      refine (proof_walk a aB C _ (HL.out.step HB10.out h2) (Nat.le_trans h2 HB10.out.size) (by omega) (by decide) (by omega)).mono ?_
      rw [HPD.out]
      rintro e w11 ⟨rfl, hB11⟩
      have HB11 := Aside0.mk (below_step HB10.out hB11)
      have HI11 := Aside0.mk (HI10.out.below hB11)
      clear hB11
      go_wp2_with fail
      refine (check_walk _ _ _ _ HI11.out (HL.out.step HB11.out h2) (Nat.le_trans h2 HB11.out.size) aB C P (by decide) (by omega) (by omega)).mono ?_
      rw [HV2.out]
      rintro e w12 ⟨rfl, hB12⟩
      have HB12 := Aside0.mk (below_step HB11.out hB12)
      clear hB12
      go_wp2
      go_ret
      exact ⟨rfl, HB12.out⟩
    · have t3 := tl_ne q3
      by_cases q2 : P = PD
      · subst q2
        obtain rfl : V2 = 0 := by rw [HK2.out, if_pos rfl]
        go_wp2_with fail
        refine (check_walk _ _ _ _ HI9.out (HL.out.step HB9.out h2) (Nat.le_trans h2 HB9.out.size) aB D P (by decide) (by omega) (by omega)).mono ?_
        rw [HV2.out]
        rintro e w10 ⟨rfl, hB10⟩
        have HB10 := Aside0.mk (below_step HB9.out hB10)
        have HI10 := Aside0.mk (HI9.out.below hB10)
        clear hB10
        go_wp2_with fail
        refine (proof_walk a aB D _ (HL.out.step HB10.out h2) (Nat.le_trans h2 HB10.out.size) (by omega) (by decide) (by omega)).mono ?_
        rw [HPD.out]
        rintro e w11 ⟨rfl, hB11⟩
        have HB11 := Aside0.mk (below_step HB10.out hB11)
        have HI11 := Aside0.mk (HI10.out.below hB11)
        clear hB11
        go_wp2
        go_ret
        exact ⟨rfl, HB11.out⟩
      · obtain rfl : V2 = 250 := by rw [HK2.out, if_neg q2]
        have t2 := tl_ne q2
        clear q2
        go_wp2_with fail
        refine (check_walk _ _ _ _ HI9.out (HL.out.step HB9.out h2) (Nat.le_trans h2 HB9.out.size) aB D P (by decide) (by omega) (by omega)).mono ?_
        rw [HV2.out]
        rintro e w10 ⟨rfl, hB10⟩
        have HB10 := Aside0.mk (below_step HB9.out hB10)
        have HI10 := Aside0.mk (HI9.out.below hB10)
        clear hB10
        go_wp2_with fail
        refine (proof_walk a aB D _ (HL.out.step HB10.out h2) (Nat.le_trans h2 HB10.out.size) (by omega) (by decide) (by omega)).mono ?_
        rw [HPD.out]
        rintro e w11 ⟨rfl, hB11⟩
        have HB11 := Aside0.mk (below_step HB10.out hB11)
        have HI11 := Aside0.mk (HI10.out.below hB11)
        clear hB11
        go_wp2
        go_ret
        exact ⟨rfl, HB11.out⟩
  · obtain rfl : V1 = 250 := by rw [HK1.out, if_neg q1]
    have t1 := tl_ne q1
    clear q1
    by_cases q3 : C = D
    · have q2 := HQ.out q3
      subst q3
      subst q2
      obtain rfl : V2 = 0 := by rw [HK2.out, if_pos rfl]
      clear HQ
      go_wp2_with fail
      refine (check_walk _ _ _ _ HI9.out (HL.out.step HB9.out h2) (Nat.le_trans h2 HB9.out.size) aB C P (by decide) (by omega) (by omega)).mono ?_
      rw [HV2.out]
      rintro e w10 ⟨rfl, hB10⟩
      have HB10 := Aside0.mk (below_step HB9.out hB10)
      have HI10 := Aside0.mk (HI9.out.below hB10)
      clear hB10
      go_wp2_with fail
      refine (proof_walk a aB C _ (HL.out.step HB10.out h2) (Nat.le_trans h2 HB10.out.size) (by omega) (by decide) (by omega)).mono ?_
      rw [HPD.out]
      rintro e w11 ⟨rfl, hB11⟩
      have HB11 := Aside0.mk (below_step HB10.out hB11)
      have HI11 := Aside0.mk (HI10.out.below hB11)
      clear hB11
      go_wp2_with fail
      refine (check_walk _ _ _ _ HI11.out (HL.out.step HB11.out h2) (Nat.le_trans h2 HB11.out.size) aB C P (by decide) (by omega) (by omega)).mono ?_
      rw [HV2.out]
      rintro e w12 ⟨rfl, hB12⟩
      have HB12 := Aside0.mk (below_step HB11.out hB12)
      clear hB12
      go_wp2
      go_ret
      exact ⟨rfl, HB12.out⟩
    · have t3 := tl_ne q3
      by_cases q2 : P = PD
      · subst q2
        obtain rfl : V2 = 0 := by rw [HK2.out, if_pos rfl]
        go_wp2_with fail
        refine (check_walk _ _ _ _ HI9.out (HL.out.step HB9.out h2) (Nat.le_trans h2 HB9.out.size) aB D P (by decide) (by omega) (by omega)).mono ?_
        rw [HV2.out]
        rintro e w10 ⟨rfl, hB10⟩
        have HB10 := Aside0.mk (below_step HB9.out hB10)
        have HI10 := Aside0.mk (HI9.out.below hB10)
        clear hB10
        go_wp2_with fail
        refine (proof_walk a aB D _ (HL.out.step HB10.out h2) (Nat.le_trans h2 HB10.out.size) (by omega) (by decide) (by omega)).mono ?_
        rw [HPD.out]
        rintro e w11 ⟨rfl, hB11⟩
        have HB11 := Aside0.mk (below_step HB10.out hB11)
        have HI11 := Aside0.mk (HI10.out.below hB11)
        clear hB11
        go_wp2
        go_ret
        exact ⟨rfl, HB11.out⟩
      · obtain rfl : V2 = 250 := by rw [HK2.out, if_neg q2]
        have t2 := tl_ne q2
        clear q2
        go_wp2_with fail
        refine (check_walk _ _ _ _ HI9.out (HL.out.step HB9.out h2) (Nat.le_trans h2 HB9.out.size) aB D P (by decide) (by omega) (by omega)).mono ?_
        rw [HV2.out]
        rintro e w10 ⟨rfl, hB10⟩
        have HB10 := Aside0.mk (below_step HB9.out hB10)
        have HI10 := Aside0.mk (HI9.out.below hB10)
        clear hB10
        go_wp2_with fail
        refine (proof_walk a aB D _ (HL.out.step HB10.out h2) (Nat.le_trans h2 HB10.out.size) (by omega) (by decide) (by omega)).mono ?_
        rw [HPD.out]
        rintro e w11 ⟨rfl, hB11⟩
        have HB11 := Aside0.mk (below_step HB10.out hB11)
        have HI11 := Aside0.mk (HI10.out.below hB11)
        clear hB11
        go_wp2
        go_ret
        exact ⟨rfl, HB11.out⟩
end Go.Proofs.YtdnmllodefbekaaDoor.Au
