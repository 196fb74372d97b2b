import Derived.Test.YtdnmllodefbekaaDoorAu7
namespace Go.Proofs.YtdnmllodefbekaaDoor.Au
open Go.RowKit Go.Lib Go.Shelf Go.Proofs.YtdnmllodefbekaaDoor.Sha Go.Proofs.YtdnmllodefbekaaDoorW.PrintWords Go.Proofs.YtdnmllodefbekaaDoorW.PrintLast Go.Proofs.YtdnmllodefbekaaDoorW.PrintMore
set_option linter.unusedVariables false
set_option linter.unusedSimpArgs false
theorem u64_range {n : Int} (h : (Lit.int .u64 n).wf = true) : 0 ≤ n ∧ n < 18446744073709551616 := by
  simp [Lit.wf, IntKind.min, IntKind.max, IntKind.bits, IntKind.signed] at h
  omega
set_option maxRecDepth 100000 in
set_option maxHeartbeats 4000000 in
theorem others_walk (a b : ByteArray) (d o n : Int) (hd : 0 ≤ d ∧ d < 18446744073709551616) (ho : 0 ≤ o ∧ o < 18446744073709551616) (w : World) (hL : Laid w) (h2 : 2 ≤ w.heap.size) :
    Calls Tryd.prog 8 #[.string a, .string b, .agg #[.int .u64 d, .int .u64 o, .int .i64 n]] w fun e w' => e = .returned (.bool true) ∧ Below w.heap.size w w' := by
  by_cases g : 1 ≤ a.size ∧ a.size ≤ 64 ∧ 1 ≤ b.size ∧ b.size ≤ 64
  · exact others_good a b d o n hd ho w hL h2 g.1 g.2.1 g.2.2.1 g.2.2.2
  · have HL := Aside0.mk hL
    have HX0 := Aside0.mk (And.intro (x_new w d o n) (below_alloc (Below.refl w.heap.size w) (.cells #[.int .u64 d, .int .u64 o, .int .i64 n] 39)))
    have hk0 : w.heap.size < (w.alloc (.cells #[.int .u64 d, .int .u64 o, .int .i64 n] 39)).heap.size := by simp
    clear hL hd ho
    by_cases g1 : a.size < 1
    · have i1 : (a.size : Int) < 1 := by omega
      clear g g1
      go_enter Tryd.func8, Tryd.ntmps8
      go_wp2_with fail
      generalize (w.alloc (.cells #[.int .u64 d, .int .u64 o, .int .i64 n] 39)) = w0 at *
      refine (new_walk _).mono ?_
      rintro e w1 ⟨rfl, hI1, hB1⟩
      have HX1 := Aside0.mk (x_below HX0.out.1 hk0 hB1)
      have HB1 := Aside0.mk (below_step HX0.out.2 hB1)
      have HI1 := Aside0.mk hI1
      have hk1 : w.heap.size < w1.heap.size := Nat.lt_of_lt_of_le hk0 hB1.size
      clear hI1 hB1
      generalize w0.heap.size = s at *
      go_wp2_with fail
      refine (works_walk _ (HL.out.step HB1.out h2) (Nat.le_trans h2 HB1.out.size)).mono ?_
      rintro e w2 ⟨rfl, hB2⟩
      have HX2 := Aside0.mk (x_below HX1.out hk1 hB2)
      have HB2 := Aside0.mk (below_step HB1.out hB2)
      have HI2 := Aside0.mk (HI1.out.below hB2)
      have hk2 : w.heap.size < w2.heap.size := Nat.lt_of_lt_of_le hk1 hB2.size
      clear hB2
      go_wp2_with fail
      refine (put_walk _ _ _ _ HI2.out aB kB (by decide)).mono ?_
      rw [o_put1]
      rintro e w3 ⟨rfl, hI3, hF3⟩
      have HI3 := Aside0.mk hI3
      have HX3 := Aside0.mk (x_fr HX2.out hk2 hF3 (by unfold Only; omega))
      have HB3 := Aside0.mk (hF3.below HB2.out fun k hk => by unfold Only at hk; omega)
      have hk3 : w.heap.size < w3.heap.size := Nat.lt_of_lt_of_le hk2 hF3.size
      clear hI3 hF3
      go_wp2
      go_ret
      exact ⟨rfl, HB3.out⟩
    · by_cases g2 : 64 < a.size
      · have i1 : (64 : Int) < (a.size : Int) := by omega
        clear g g1 g2
        go_enter Tryd.func8, Tryd.ntmps8
        go_wp2_with fail
        generalize (w.alloc (.cells #[.int .u64 d, .int .u64 o, .int .i64 n] 39)) = w0 at *
        refine (new_walk _).mono ?_
        rintro e w1 ⟨rfl, hI1, hB1⟩
        have HX1 := Aside0.mk (x_below HX0.out.1 hk0 hB1)
        have HB1 := Aside0.mk (below_step HX0.out.2 hB1)
        have HI1 := Aside0.mk hI1
        have hk1 : w.heap.size < w1.heap.size := Nat.lt_of_lt_of_le hk0 hB1.size
        clear hI1 hB1
        generalize w0.heap.size = s at *
        go_wp2_with fail
        refine (works_walk _ (HL.out.step HB1.out h2) (Nat.le_trans h2 HB1.out.size)).mono ?_
        rintro e w2 ⟨rfl, hB2⟩
        have HX2 := Aside0.mk (x_below HX1.out hk1 hB2)
        have HB2 := Aside0.mk (below_step HB1.out hB2)
        have HI2 := Aside0.mk (HI1.out.below hB2)
        have hk2 : w.heap.size < w2.heap.size := Nat.lt_of_lt_of_le hk1 hB2.size
        clear hB2
        go_wp2_with fail
        refine (put_walk _ _ _ _ HI2.out aB kB (by decide)).mono ?_
        rw [o_put1]
        rintro e w3 ⟨rfl, hI3, hF3⟩
        have HI3 := Aside0.mk hI3
        have HX3 := Aside0.mk (x_fr HX2.out hk2 hF3 (by unfold Only; omega))
        have HB3 := Aside0.mk (hF3.below HB2.out fun k hk => by unfold Only at hk; omega)
        have hk3 : w.heap.size < w3.heap.size := Nat.lt_of_lt_of_le hk2 hF3.size
        clear hI3 hF3
        go_wp2
        go_ret
        exact ⟨rfl, HB3.out⟩
      · have i1 : ¬ (a.size : Int) < 1 := by omega
        have i2 : ¬ (64 : Int) < (a.size : Int) := by omega
        by_cases g3 : b.size < 1
        · have i3 : (b.size : Int) < 1 := by omega
          clear g g1 g2 g3
          go_enter Tryd.func8, Tryd.ntmps8
          go_wp2_with fail
          generalize (w.alloc (.cells #[.int .u64 d, .int .u64 o, .int .i64 n] 39)) = w0 at *
          refine (new_walk _).mono ?_
          rintro e w1 ⟨rfl, hI1, hB1⟩
          have HX1 := Aside0.mk (x_below HX0.out.1 hk0 hB1)
          have HB1 := Aside0.mk (below_step HX0.out.2 hB1)
          have HI1 := Aside0.mk hI1
          have hk1 : w.heap.size < w1.heap.size := Nat.lt_of_lt_of_le hk0 hB1.size
          clear hI1 hB1
          generalize w0.heap.size = s at *
          go_wp2_with fail
          refine (works_walk _ (HL.out.step HB1.out h2) (Nat.le_trans h2 HB1.out.size)).mono ?_
          rintro e w2 ⟨rfl, hB2⟩
          have HX2 := Aside0.mk (x_below HX1.out hk1 hB2)
          have HB2 := Aside0.mk (below_step HB1.out hB2)
          have HI2 := Aside0.mk (HI1.out.below hB2)
          have hk2 : w.heap.size < w2.heap.size := Nat.lt_of_lt_of_le hk1 hB2.size
          clear hB2
          go_wp2_with fail
          refine (put_walk _ _ _ _ HI2.out aB kB (by decide)).mono ?_
          rw [o_put1]
          rintro e w3 ⟨rfl, hI3, hF3⟩
          have HI3 := Aside0.mk hI3
          have HX3 := Aside0.mk (x_fr HX2.out hk2 hF3 (by unfold Only; omega))
          have HB3 := Aside0.mk (hF3.below HB2.out fun k hk => by unfold Only at hk; omega)
          have hk3 : w.heap.size < w3.heap.size := Nat.lt_of_lt_of_le hk2 hF3.size
          clear hI3 hF3
          go_wp2
          go_ret
          exact ⟨rfl, HB3.out⟩
        · have i3 : ¬ (b.size : Int) < 1 := by omega
          have i4 : (64 : Int) < (b.size : Int) := by omega
          clear g g1 g2 g3
          go_enter Tryd.func8, Tryd.ntmps8
          go_wp2_with fail
          generalize (w.alloc (.cells #[.int .u64 d, .int .u64 o, .int .i64 n] 39)) = w0 at *
          refine (new_walk _).mono ?_
          rintro e w1 ⟨rfl, hI1, hB1⟩
          have HX1 := Aside0.mk (x_below HX0.out.1 hk0 hB1)
          have HB1 := Aside0.mk (below_step HX0.out.2 hB1)
          have HI1 := Aside0.mk hI1
          have hk1 : w.heap.size < w1.heap.size := Nat.lt_of_lt_of_le hk0 hB1.size
          clear hI1 hB1
          generalize w0.heap.size = s at *
          go_wp2_with fail
          refine (works_walk _ (HL.out.step HB1.out h2) (Nat.le_trans h2 HB1.out.size)).mono ?_
          rintro e w2 ⟨rfl, hB2⟩
          have HX2 := Aside0.mk (x_below HX1.out hk1 hB2)
          have HB2 := Aside0.mk (below_step HB1.out hB2)
          have HI2 := Aside0.mk (HI1.out.below hB2)
          have hk2 : w.heap.size < w2.heap.size := Nat.lt_of_lt_of_le hk1 hB2.size
          clear hB2
          go_wp2_with fail
          refine (put_walk _ _ _ _ HI2.out aB kB (by decide)).mono ?_
          rw [o_put1]
          rintro e w3 ⟨rfl, hI3, hF3⟩
          have HI3 := Aside0.mk hI3
          have HX3 := Aside0.mk (x_fr HX2.out hk2 hF3 (by unfold Only; omega))
          have HB3 := Aside0.mk (hF3.below HB2.out fun k hk => by unfold Only at hk; omega)
          have hk3 : w.heap.size < w3.heap.size := Nat.lt_of_lt_of_le hk2 hF3.size
          clear hI3 hF3
          go_wp2
          go_ret
          exact ⟨rfl, HB3.out⟩
end Go.Proofs.YtdnmllodefbekaaDoor.Au
