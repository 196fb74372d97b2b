import Derived.Test.YtjkllbilfcopmaaDk12
namespace Go.Proofs.Ytjkllbilfcopmaa.Dk
open Go.RowKit Go.Proofs.YtjkllbilfcopmaaW.PrintWords Go.Proofs.YtjkllbilfcopmaaW.PrintLast Go.Proofs.YtjkllbilfcopmaaW.PrintMore
set_option linter.unusedVariables false
set_option linter.unusedSimpArgs false
/-- A number from 0 to n - 1. -/
def amongN (x n : Int) : Int := x % n
set_option maxHeartbeats 1000000 in
theorem among_walk (x n : Int) (W : World) (hx : (Lit.int .i64 x).wf = true) (hn : 1 ≤ n) (hn2 : n ≤ 1000) : Calls Try.prog 15 #[.int .i64 x, .int .i64 n] W fun e W' => e = .returned (.int .i64 (x % n)) ∧ W = W' := by
  obtain ⟨hx1, hx2⟩ := wf_i64 hx
  clear hx
  have hn0 : ¬ n = 0 := by omega
  have h1 := Int.tmod_lt_of_pos x (show 0 < n by omega)
  have h2 : -n < x.tmod n := by
    have := Int.tmod_lt_of_pos (-x) (show 0 < n by omega)
    rw [Int.neg_tmod] at this
    omega
  have h3 : (x.tmod n + n) % n = x % n := by
    rw [Int.add_emod_right]
    rcases Int.le_total 0 x with h | h
    · rw [Int.tmod_eq_emod_of_nonneg h, Int.emod_emod_of_dvd _ (Int.dvd_refl n)]
    · have e : x.tmod n = -((-x) % n) := by
        rw [← Int.tmod_eq_emod_of_nonneg (show 0 ≤ -x by omega), Int.neg_tmod]; omega
      rw [e]
      have := Int.emod_add_mul_ediv (-x) n
      have h5 : x = -((-x) % n) + n * (-((-x) / n)) := by
        have : -x = (-x) % n + n * ((-x) / n) := this.symm
        have h6 : n * (-((-x) / n)) = -(n * ((-x) / n)) := by rw [Int.mul_neg]
        omega
      conv => rhs; rw [h5]
      rw [Int.add_mul_emod_self_left]
  have H3 := Lib.hid h3
  clear h3
  go_enter Try.func15, Try.ntmps15
  go_wp2
  go_ret
  exact ⟨congrArg (fun z => Ending.returned (.int .i64 z)) H3.out, rfl⟩
set_option maxRecDepth 100000 in
set_option maxHeartbeats 4000000 in
theorem swap_walk (was will : ByteArray) (fz : Int) (A : Option Addr) (dr : List Int) (c : Nat) (W : World) (ha : was.size ≤ 140737488351232) (hb : will.size ≤ 140737488351232) (hx : (Lit.int .i64 fz).wf = true)
    (hA : ∀ S : Nat → Prop, (∀ k, S k → W.heap.size ≤ k) → IntsAt S W A dr) (hc : dr.length ≤ c) (hcm : c ≤ maxLen) (hdr : ∀ x ∈ dr, -9223372036854775808 ≤ x ∧ x ≤ 9223372036854775807) :
    Calls Try.prog 6 #[.string was, .string will, .agg #[.int .i64 fz, .slice A dr.length c]] W fun e W' => e = .returned (.bool true) ∧ Below W.heap.size W W' := by
  have HIA := Lib.hid hA
  have HDR := Lib.hid hdr
  have HX := Lib.hid hx
  clear hA hdr hx
  have hcm' : c ≤ 9223372036854775807 := by unfold maxLen at hcm; omega
  have HCM := Lib.hid hcm
  have HC := Lib.hid hc
  clear hcm
  go_enter Try.func6, Try.ntmps6
  have HBX := Lib.hid (below_alloc (Below.refl W.heap.size W) (.cells #[.int .i64 fz, .slice A dr.length c] 44))
  go_wp2_with fail
  refine (new_at (W.alloc (.cells #[.int .i64 fz, .slice A dr.length c] 44)) _ (Below.refl _ _)).mono ?_
  rintro e W1 ⟨g, b', rfl, hA⟩
  have HA := Lib.hid hA
  clear hA
  go_wp2_with fail
  refine (works_walk W1).mono ?_
  rintro e W2 ⟨rfl, hB⟩
  have HA2 := Lib.hid (HA.out.below hB)
  clear hB
  have hx0 := HA2.out.bel.block _ (show W.heap.size < (W.alloc (.cells #[.int .i64 fz, .slice A dr.length c] 44)).heap.size by simp)
  rw [heap_alloc_new] at hx0
  have x0 := (blk_cell hx0 0).trans (show _ = some (Value.int .i64 fz) from rfl)
  have x1 := (blk_cell hx0 1).trans (show _ = some (Value.slice A dr.length c) from rfl)
  clear hx0
  by_cases h1 : 262144 < was.size
  · have h1' : (262144 : Int) < (was.size : Int) := by omega
    go_wp2
    go_ret
    exact ⟨rfl, below_step HBX.out HA2.out.bel⟩
  · have h1' : (was.size : Int) ≤ 262144 := by omega
    by_cases h2 : 262144 < will.size
    · have h2' : (262144 : Int) < (will.size : Int) := by omega
      go_wp2
      go_ret
      exact ⟨rfl, below_step HBX.out HA2.out.bel⟩
    · have h2' : (will.size : Int) ≤ 262144 := by omega
      by_cases h3 : 4096 < dr.length
      · have h3' : (4096 : Int) < (dr.length : Int) := by omega
        go_wp2
        go_ret
        exact ⟨rfl, below_step HBX.out HA2.out.bel⟩
      · have h3' : (dr.length : Int) ≤ 4096 := by omega
        have H1 := Lib.hid (And.intro h1 (And.intro h2 h3))
        have HCR : Hid (∀ d : DS, (crash d dr).2 = 0) := Lib.hid fun d => (crash_two d dr).elim (fun h => h.1) (fun h => absurd h.2 h3)
        clear h1 h2 h3
        go_wp2_with fail
        refine (append_at HA2.out nA was (by decide) ha).mono ?_
        rw [app_new was (by have := H1.out.1; omega)]
        rintro e W3 ⟨rfl, hA⟩
        have HA3 := Lib.hid hA
        clear hA
        go_wp2_with fail
        refine (sync_at HA3.out nA (by decide)).mono ?_
        rw [sync_one]
        rintro e W4 ⟨rfl, hA⟩
        have HA4 := Lib.hid hA
        clear hA x0 x1
        have hx0 := HA4.out.bel.block _ (show W.heap.size < (W.alloc (.cells #[.int .i64 fz, .slice A dr.length c] 44)).heap.size by simp)
        rw [heap_alloc_new] at hx0
        have x0 := (blk_cell hx0 0).trans (show _ = some (Value.int .i64 fz) from rfl)
        have x1 := (blk_cell hx0 1).trans (show _ = some (Value.slice A dr.length c) from rfl)
        clear hx0
        go_wp2_with fail
        refine (among_walk fz 5 W4 HX.out (by decide) (by decide)).mono ?_
        rintro e w' ⟨rfl, rfl⟩
        obtain ⟨k, hk⟩ : ∃ k, fz % 5 = k := ⟨_, rfl⟩
        have hk0 : 0 ≤ k := by omega
        have hk5 : k < 5 := by omega
        rw [hk]
        clear hk
        go_wp2_with fail
        refine (fuse_at HA4.out k (by omega)).mono ?_
        rw [show fuse (One ⟨was, was.size⟩ false false 0) k = (⟨[(kA, safeF was)], true, false, k⟩, 0) from fuse_pos _ _ _ _ _ hk0]
        rintro e W5 ⟨rfl, hA⟩
        have HA5 := Lib.hid hA
        clear hA x0 x1
        have hx0 := HA5.out.bel.block _ (show W.heap.size < (W.alloc (.cells #[.int .i64 fz, .slice A dr.length c] 44)).heap.size by simp)
        rw [heap_alloc_new] at hx0
        have x0 := (blk_cell hx0 0).trans (show _ = some (Value.int .i64 fz) from rfl)
        have x1 := (blk_cell hx0 1).trans (show _ = some (Value.slice A dr.length c) from rfl)
        clear hx0
        go_wp2_with fail
        refine (append_at HA5.out nB will (by decide) hb).mono ?_
        rw [swap_append was will k (by have := H1.out.2.1; omega) hk0]
        by_cases q0 : k = 0
        · rw [if_pos q0]
          rintro e W6 ⟨rfl, hA⟩
          have HA6 := Lib.hid hA
          clear hA x0 x1 q0
          have hx0 := HA6.out.bel.block _ (show W.heap.size < (W.alloc (.cells #[.int .i64 fz, .slice A dr.length c] 44)).heap.size by simp)
          rw [heap_alloc_new] at hx0
          have x0 := (blk_cell hx0 0).trans (show _ = some (Value.int .i64 fz) from rfl)
          have x1 := (blk_cell hx0 1).trans (show _ = some (Value.slice A dr.length c) from rfl)
          clear hx0
          go_wp2_with fail
          refine (crash_at HA6.out A dr c ((HIA.out _ (fun k hk => Nat.le_trans (by simp) (HA6.out.two k hk))).fr (Fr.of_below (below_step HBX.out HA6.out.bel))) HC.out HCM.out HDR.out).mono ?_
          rw [HCR.out]
          rintro e W7 ⟨rfl, hA7, -⟩
          have HA7 := Lib.hid hA7
          clear hA7 x0 x1
          go_wp2_with fail
          refine (read_at HA7.out nA (by decide)).mono ?_
          rw [read_crash (f := safeF was) rfl (tail_safe _)]
          rintro e W8 ⟨rfl, hA8⟩
          have HA8 := Lib.hid hA8
          clear hA8
          simp only [safeF]
          go_wp2
          go_ret
          exact ⟨rfl, below_step HBX.out HA8.out.bel⟩
        · rw [if_neg q0]
          rintro e W6 ⟨rfl, hA⟩
          have HA6 := Lib.hid hA
          clear hA x0 x1
          go_wp2_with fail
          refine (sync_at HA6.out nB (by decide)).mono ?_
          rw [swap_sync was will (k - 1)]
          by_cases q1 : k - 1 = 0
          · rw [if_pos q1]
            rintro e W6b ⟨rfl, hA⟩
            have HA6b := Lib.hid hA
            clear hA q0 q1
            have hx0 := HA6b.out.bel.block _ (show W.heap.size < (W.alloc (.cells #[.int .i64 fz, .slice A dr.length c] 44)).heap.size by simp)
            rw [heap_alloc_new] at hx0
            have x0 := (blk_cell hx0 0).trans (show _ = some (Value.int .i64 fz) from rfl)
            have x1 := (blk_cell hx0 1).trans (show _ = some (Value.slice A dr.length c) from rfl)
            clear hx0
            go_wp2_with fail
            refine (crash_at HA6b.out A dr c ((HIA.out _ (fun k hk => Nat.le_trans (by simp) (HA6b.out.two k hk))).fr (Fr.of_below (below_step HBX.out HA6b.out.bel))) HC.out HCM.out HDR.out).mono ?_
            rw [HCR.out]
            rintro e W7 ⟨rfl, hA7, -⟩
            have HA7 := Lib.hid hA7
            clear hA7 x0 x1
            go_wp2_with fail
            refine (read_at HA7.out nA (by decide)).mono ?_
            rw [read_crash (f := safeF was) rfl (tail_safe _)]
            rintro e W8 ⟨rfl, hA8⟩
            have HA8 := Lib.hid hA8
            clear hA8
            simp only [safeF]
            go_wp2
            go_ret
            exact ⟨rfl, below_step HBX.out HA8.out.bel⟩
          · rw [if_neg q1]
            rintro e W6b ⟨rfl, hA⟩
            have HA6b := Lib.hid hA
            clear hA
            go_wp2_with fail
            refine (rename_at HA6b.out nB nA (by decide) (by decide)).mono ?_
            rw [swap_rename was will (k - 1 - 1)]
            by_cases q2 : k - 1 - 1 = 0
            · rw [if_pos q2]
              rintro e W6c ⟨rfl, hA⟩
              have HA6c := Lib.hid hA
              clear hA q0 q1 q2
              have hx0 := HA6c.out.bel.block _ (show W.heap.size < (W.alloc (.cells #[.int .i64 fz, .slice A dr.length c] 44)).heap.size by simp)
              rw [heap_alloc_new] at hx0
              have x0 := (blk_cell hx0 0).trans (show _ = some (Value.int .i64 fz) from rfl)
              have x1 := (blk_cell hx0 1).trans (show _ = some (Value.slice A dr.length c) from rfl)
              clear hx0
              go_wp2_with fail
              refine (crash_at HA6c.out A dr c ((HIA.out _ (fun k hk => Nat.le_trans (by simp) (HA6c.out.two k hk))).fr (Fr.of_below (below_step HBX.out HA6c.out.bel))) HC.out HCM.out HDR.out).mono ?_
              rw [HCR.out]
              rintro e W7 ⟨rfl, hA7, -⟩
              have HA7 := Lib.hid hA7
              clear hA7 x0 x1
              go_wp2_with fail
              refine (read_at HA7.out nA (by decide)).mono ?_
              rw [read_crash (f := safeF was) rfl (tail_safe _)]
              rintro e W8 ⟨rfl, hA8⟩
              have HA8 := Lib.hid hA8
              clear hA8
              simp only [safeF]
              go_wp2
              go_ret
              exact ⟨rfl, below_step HBX.out HA8.out.bel⟩
            · rw [if_neg q2]
              rintro e W6c ⟨rfl, hA⟩
              have HA6c := Lib.hid hA
              clear hA q0 q1 q2
              have hx0 := HA6c.out.bel.block _ (show W.heap.size < (W.alloc (.cells #[.int .i64 fz, .slice A dr.length c] 44)).heap.size by simp)
              rw [heap_alloc_new] at hx0
              have x0 := (blk_cell hx0 0).trans (show _ = some (Value.int .i64 fz) from rfl)
              have x1 := (blk_cell hx0 1).trans (show _ = some (Value.slice A dr.length c) from rfl)
              clear hx0
              go_wp2_with fail
              refine (crash_at HA6c.out A dr c ((HIA.out _ (fun k hk => Nat.le_trans (by simp) (HA6c.out.two k hk))).fr (Fr.of_below (below_step HBX.out HA6c.out.bel))) HC.out HCM.out HDR.out).mono ?_
              rw [HCR.out]
              rintro e W7 ⟨rfl, hA7, -⟩
              have HA7 := Lib.hid hA7
              clear hA7 x0 x1
              go_wp2_with fail
              refine (read_at HA7.out nA (by decide)).mono ?_
              rw [read_crash (f := safeF will) rfl (tail_safe _)]
              rintro e W8 ⟨rfl, hA8⟩
              have HA8 := Lib.hid hA8
              clear hA8
              simp only [safeF]
              go_wp2
              go_ret
              exact ⟨rfl, below_step HBX.out HA8.out.bel⟩
end Go.Proofs.Ytjkllbilfcopmaa.Dk
