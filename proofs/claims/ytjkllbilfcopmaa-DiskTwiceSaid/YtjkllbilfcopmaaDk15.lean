import Derived.Test.YtjkllbilfcopmaaDk14
namespace Go.Proofs.Ytjkllbilfcopmaa.Dk
open Go.RowKit Go.Proofs.YtjkllbilfcopmaaW.PrintWords Go.Proofs.YtjkllbilfcopmaaW.PrintLast Go.Proofs.YtjkllbilfcopmaaW.PrintMore
set_option linter.unusedVariables false
set_option linter.unusedSimpArgs false
theorem fu_start (n : Nat) : fuse new (n : Int) = (Fu 0 n, 0) := by
  unfold new
  rw [fuse_pos _ _ _ _ _ (by omega)]
  unfold Fu
  rw [show (n : Int) - (0 : Nat) = (n : Int) by omega]
  rfl
set_option maxRecDepth 100000 in
set_option maxHeartbeats 8000000 in
theorem fuses_walk (n0 bad0 : Int) (W : World) (hn : (Lit.int .i64 n0).wf = true) (hb : (Lit.int .i64 bad0).wf = true) : Calls Try.prog 4 #[.int .i64 n0, .int .i64 bad0] W fun e W' => e = .returned (.bool true) ∧ Below W.heap.size W W' := by
  have HN := Lib.hid hn
  have HB := Lib.hid hb
  clear hn hb
  go_enter Try.func4, Try.ntmps4
  go_wp2_with fail
  refine (new_at W W (Below.refl _ _)).mono ?_
  rintro e W1 ⟨g, b', rfl, hA⟩
  have HA := Lib.hid hA
  clear hA
  go_wp2_with fail
  refine (works_walk W1).mono ?_
  rintro e W2 ⟨rfl, hB⟩
  have HA2 := Lib.hid (HA.out.below hB)
  clear hB
  go_wp2_with fail
  refine (among_walk n0 50 _ HN.out (by decide) (by decide)).mono ?_
  rintro e w' ⟨rfl, rfl⟩
  go_wp2_with fail
  refine (among_walk bad0 3 _ HB.out (by decide) (by decide)).mono ?_
  rintro e w' ⟨rfl, rfl⟩
  obtain ⟨n, hn⟩ : ∃ n : Nat, n0 % 50 = (n : Int) := ⟨(n0 % 50).toNat, by omega⟩
  obtain ⟨bad, hbad⟩ : ∃ m : Nat, bad0 % 3 = (m : Int) := ⟨(bad0 % 3).toNat, by omega⟩
  have hn50 : n < 50 := by omega
  have hb3 : bad < 3 := by omega
  rw [hn, hbad]
  clear hn hbad
  go_wp2_with fail
  refine (fuse_at HA2.out (n : Int) (by omega)).mono ?_
  rw [show fuse new (n : Int) = (Fu 0 n, 0) from fu_start n]
  rintro e W3 ⟨rfl, hA⟩
  have HA3 := Lib.hid hA
  clear hA
  go_wp2_with fail
  go_loopg [24] (n + 1) (fun kq v24 w' => ∃ i : Nat, v24 = .int .i64 (i : Int) ∧ Hid (i + kq = n + 1 ∧ i ≤ n) ∧ Hid (At W w' g b' (Fu i n)))
  case atStart => exact ⟨0, rfl, Lib.hid ⟨by omega, Nat.zero_le _⟩, HA3⟩
  case round =>
    clear HA3
    obtain ⟨i, rfl, HI, HD⟩ := hrel
    obtain ⟨i1, i2⟩ := HI.out
    by_cases hi : i < n
    · obtain ⟨kq1, rfl⟩ : ∃ kq1, gk = kq1 + 1 := ⟨gk - 1, by omega⟩
      have hii : (i : Int) < (n : Int) := by omega
      go_wp2_with fail
      obtain ⟨wo, hwo⟩ : ∃ wo : World, wo = wr := ⟨_, rfl⟩
      subst hwo
      go_loopg [27] (bad + 1) (fun kp v27 w' => ∃ j : Nat, v27 = .int .i64 (j : Int) ∧ Hid (j + kp = bad + 1 ∧ j ≤ bad) ∧ Hid (At W w' g b' (Fu i n)))
      case atStart => exact ⟨0, rfl, Lib.hid ⟨by omega, Nat.zero_le _⟩, HD⟩
      case round =>
        clear HD
        obtain ⟨j, rfl, HJ, HD⟩ := hrel
        obtain ⟨j1, j2⟩ := HJ.out
        by_cases hj : j < bad
        · obtain ⟨kp1, rfl⟩ : ∃ kp1, gk = kp1 + 1 := ⟨gk - 1, by omega⟩
          have hjj : (j : Int) < (bad : Int) := by omega
          go_wp2_with fail
          refine (sync_at HD.out nNone (by decide)).mono ?_
          rw [fu_none]
          rintro e W4 ⟨rfl, hA⟩
          have HD4 := Lib.hid hA
          clear hA
          go_wp2_with fail
          refine (append_at HD4.out ByteArray.empty nX (by decide) (by decide)).mono ?_
          rw [append_bad]
          rintro e W5 ⟨rfl, hA⟩
          have HD5 := Lib.hid hA
          clear hA
          go_wp2_with fail
          go_roundg kp1
          case measure => omega
          case rel => exact ⟨j + 1, by go_num, Lib.hid ⟨by omega, by omega⟩, HD5⟩
        · have hjj : ¬ (j : Int) < (bad : Int) := by omega
          clear j1 j2 hj
          go_wp2_with fail
          refine (append_at HD.out nA nX (by decide) (by decide)).mono ?_
          rw [fu_append i n hi (by omega)]
          rintro e W6 ⟨rfl, hA⟩
          have HD6 := Lib.hid hA
          clear hA
          go_wp2_with fail
          go_roundg kq1
          case measure => omega
          case rel => exact ⟨i + 1, by go_num, Lib.hid ⟨by omega, by omega⟩, HD6⟩
    · have hie : i = n := by omega
      subst hie
      clear i1 i2 hi
      go_wp2_with fail
      have HST := Lib.hid (show ∃ d, At W wr g b' d ∧ (d = Fu i i ∨ d = FuD i) ∧ (0 < 0 → d = FuD i) from ⟨_, HD.out, .inl rfl, fun h => absurd h (by omega)⟩)
      clear HD
      go_loopg [42] 4 (fun kq v42 w' => ∃ r : Nat, v42 = .int .i64 (r : Int) ∧ Hid (r + kq = 4 ∧ r ≤ 3) ∧ Hid (∃ d, At W w' g b' d ∧ (d = Fu i i ∨ d = FuD i) ∧ (0 < r → d = FuD i)))
      case atStart => exact ⟨0, rfl, Lib.hid ⟨by omega, by omega⟩, HST⟩
      case round =>
        clear HST
        obtain ⟨r, rfl, HR, HD⟩ := hrel
        obtain ⟨d, hA0, hd, hd2⟩ := HD.out
        obtain ⟨r1, r2⟩ := HR.out
        have HA0 := Lib.hid hA0
        clear hA0 HD
        by_cases hr : r < 3
        · obtain ⟨kq1, rfl⟩ : ∃ kq1, gk = kq1 + 1 := ⟨gk - 1, by omega⟩
          have hrr : (r : Int) < 3 := by omega
          have hap : append d nA nX = (FuD i, 11) := by
            rcases hd with rfl | rfl
            · exact fu_out i (by omega)
            · exact fu_down i (by omega)
          have HAP := Lib.hid hap
          clear hap hd hd2
          go_wp2_with fail
          refine (append_at HA0.out nA nX (by decide) (by decide)).mono ?_
          rw [HAP.out]
          rintro e W4 ⟨rfl, hA⟩
          have HA4 := Lib.hid hA
          clear hA
          by_cases hi0 : 0 < i
          · have hi1 : (0 : Int) < (i : Int) := by omega
            have HS := Lib.hid (fu_sync i hi0)
            clear hi0
            go_wp2_with fail
            refine (sync_at HA4.out nA (by decide)).mono ?_
            rw [HS.out]
            rintro e W5 ⟨rfl, hA⟩
            have HA5 := Lib.hid (show ∃ d, At W W5 g b' d ∧ (d = Fu i i ∨ d = FuD i) ∧ (0 < r + 1 → d = FuD i) from ⟨_, hA, .inr rfl, fun _ => rfl⟩)
            clear hA
            go_wp2_with fail
            go_roundg kq1
            case measure => omega
            case rel => exact ⟨r + 1, by go_num, Lib.hid ⟨by omega, by omega⟩, HA5⟩
          · have hi1 : i = 0 := by omega
            subst hi1
            clear hi0
            have HA5 := Lib.hid (show ∃ d, At W W4 g b' d ∧ (d = Fu 0 0 ∨ d = FuD 0) ∧ (0 < r + 1 → d = FuD 0) from ⟨_, HA4.out, .inr rfl, fun _ => rfl⟩)
            go_wp2_with fail
            go_roundg kq1
            case measure => omega
            case rel => exact ⟨r + 1, by go_num, Lib.hid ⟨by omega, by omega⟩, HA5⟩
        · have hrr : ¬ (r : Int) < 3 := by omega
          obtain rfl := hd2 (by omega)
          clear hd r1 r2 hr hd2
          obtain ⟨m, hm1, hm2, hm3⟩ := fu_crash i
          have HM := Lib.hid hm1
          have HM2 := Lib.hid (fu_append_b hm2 hm3)
          have HM3 := Lib.hid (fu_sync_b m ⟨nX, 0⟩)
          clear hm1 hm2 hm3
          go_wp2_with fail
          refine (read_at HA0.out nA (by decide)).mono ?_
          by_cases hi0 : 0 < i
          · have hi1 : (0 : Int) < (i : Int) := by omega
            rw [fu_read i hi0]
            rintro e W4 ⟨rfl, hA⟩
            have HA4 := Lib.hid hA
            have hsz : ((xs i).size : Int) = (i : Int) := by rw [xs_size]
            have hszb : (((xs i).size : Int) != (i : Int)) = false := by rw [hsz]; simp
            clear hA hi0 hsz
            go_wp2_with fail
            refine (crash_at HA4.out none [] 0 (none_ints _ _) (Nat.le_refl _) (by decide) (by simp)).mono ?_
            rw [HM.out]
            rintro e W5 ⟨rfl, hA, -⟩
            have HA5 := Lib.hid hA
            clear hA
            go_wp2_with fail
            refine (append_at HA5.out nB nX (by decide) (by decide)).mono ?_
            rw [HM2.out]
            rintro e W6 ⟨rfl, hA⟩
            have HA6 := Lib.hid hA
            clear hA
            go_wp2_with fail
            refine (sync_at HA6.out nB (by decide)).mono ?_
            rw [HM3.out]
            rintro e W7 ⟨rfl, hA⟩
            have HA7 := Lib.hid hA
            clear hA
            go_wp2
            go_ret
            exact ⟨rfl, HA7.out.bel⟩
          · have hi1 : i = 0 := by omega
            subst hi1
            clear hi0
            rintro e W4 ⟨rfl, hA⟩
            have HA4 := Lib.hid hA
            clear hA
            go_wp2_with fail
            refine (crash_at HA4.out none [] 0 (none_ints _ _) (Nat.le_refl _) (by decide) (by simp)).mono ?_
            rw [HM.out]
            rintro e W5 ⟨rfl, hA, -⟩
            have HA5 := Lib.hid hA
            clear hA
            go_wp2_with fail
            refine (append_at HA5.out nB nX (by decide) (by decide)).mono ?_
            rw [HM2.out]
            rintro e W6 ⟨rfl, hA⟩
            have HA6 := Lib.hid hA
            clear hA
            go_wp2_with fail
            refine (sync_at HA6.out nB (by decide)).mono ?_
            rw [HM3.out]
            rintro e W7 ⟨rfl, hA⟩
            have HA7 := Lib.hid hA
            clear hA
            go_wp2
            go_ret
            exact ⟨rfl, HA7.out.bel⟩
end Go.Proofs.Ytjkllbilfcopmaa.Dk
