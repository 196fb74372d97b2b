import Derived.Test.YtdnmllodefbekaaDoorHShaSumsx
import Derived.Test.YtdnmllodefbekaaDoorSha17
import Derived.Test.YtdnmllodefbekaaDoorSha23b
namespace Go.Proofs.YtdnmllodefbekaaDoor.Sha
open Go.RowKit Go.Lib Go.Proofs.YtdnmllodefbekaaDoorW.PrintWords Go.Proofs.YtdnmllodefbekaaDoorW.PrintLast Go.Proofs.YtdnmllodefbekaaDoorW.PrintMore
open Go.Proofs.YtdnmllodefbekaaDoor.HShaSums
set_option linter.unusedVariables false
set_option linter.unusedSimpArgs false


theorem sched64 (bs : List Int) : Zt bs 64 = sched bs 64 := by unfold Zt; rw [Nat.sub_self]; simp
theorem bl2 (st ks ws v0 : List Int) (hz : ws.length = 64) (hk : ks.length = 64) (hs : st.length = 8) (hks : ks = KS) : ∀ (d t K : Nat), t + d = 64 → hopperref24_block.l2 (K + 1 + d) st ks ws (rounds ws st t) (t : Int) = hopperref24_block.l3 K st (rounds ws st 64) 0
  | 0, t, K, h => by
    obtain rfl : t = 64 := by omega
    show hopperref24_block.l2 (K + 1) _ _ _ _ _ = _
    rw [hopperref24_block.l2, if_neg (show ¬ ((64 : Nat) : Int) < 64 by omega)]
  | d + 1, t, K, h => by
    show hopperref24_block.l2 (K + 1 + d + 1) _ _ _ _ _ = _
    rw [bl2_step st ks ws _ t (K + 1 + d) (by omega) hz hk (rounds_len _ _ hs t)]
    have : rnd (rd ks t) (rd ws t) (rounds ws st t) = rounds ws st (t + 1) := by rw [hks]; rfl
    rw [this]
    exact bl2 st ks ws v0 hz hk hs hks d (t + 1) K (by omega)
theorem bl3_step (st v : List Int) (t K : Nat) (h2 : t < 8) (hs : st.length = 8) (hv : v.length = 8) : hopperref24_block.l3 (K + 1) st v (t : Int) = hopperref24_block.l3 K st (v.set t ((rd v t + rd st t) % 4294967296)) ((t + 1 : Nat) : Int) := by
  have c0 : (t : Int) < 8 := by omega
  have c1 : (0 : Int) ≤ (t : Int) := by omega
  have c2 : (t : Int) < (v.length : Int) := by omega
  have c3 : (t : Int) < (st.length : Int) := by omega
  have e4 := wadd t (by omega)
  rw [hopperref24_block.l3]
  simp only [e4, c0, c1, c2, c3, if_true, Int.toNat_natCast]
theorem bl3 (st v : List Int) (K : Nat) (hs : st.length = 8) (hv : v.length = 8) : hopperref24_block.l3 (K + 9) st v 0 = some (List.zipWith (fun s v => (s + v) % 4294967296) st v) := by
  obtain ⟨a, b, c, d, e, f, g, h, rfl⟩ := eight v hv
  obtain ⟨s0, s1, s2, s3, s4, s5, s6, s7, rfl⟩ := eight st hs
  have z0 := bl3_step [s0, s1, s2, s3, s4, s5, s6, s7] [a, b, c, d, e, f, g, h] 0 (K + 8) (by decide) rfl rfl
  have z1 := bl3_step [s0, s1, s2, s3, s4, s5, s6, s7] [(a + s0) % 4294967296, b, c, d, e, f, g, h] 1 (K + 7) (by decide) rfl rfl
  have z2 := bl3_step [s0, s1, s2, s3, s4, s5, s6, s7] [(a + s0) % 4294967296, (b + s1) % 4294967296, c, d, e, f, g, h] 2 (K + 6) (by decide) rfl rfl
  have z3 := bl3_step [s0, s1, s2, s3, s4, s5, s6, s7] [(a + s0) % 4294967296, (b + s1) % 4294967296, (c + s2) % 4294967296, d, e, f, g, h] 3 (K + 5) (by decide) rfl rfl
  have z4 := bl3_step [s0, s1, s2, s3, s4, s5, s6, s7] [(a + s0) % 4294967296, (b + s1) % 4294967296, (c + s2) % 4294967296, (d + s3) % 4294967296, e, f, g, h] 4 (K + 4) (by decide) rfl rfl
  have z5 := bl3_step [s0, s1, s2, s3, s4, s5, s6, s7] [(a + s0) % 4294967296, (b + s1) % 4294967296, (c + s2) % 4294967296, (d + s3) % 4294967296, (e + s4) % 4294967296, f, g, h] 5 (K + 3) (by decide) rfl rfl
  have z6 := bl3_step [s0, s1, s2, s3, s4, s5, s6, s7] [(a + s0) % 4294967296, (b + s1) % 4294967296, (c + s2) % 4294967296, (d + s3) % 4294967296, (e + s4) % 4294967296, (f + s5) % 4294967296, g, h] 6 (K + 2) (by decide) rfl rfl
  have z7 := bl3_step [s0, s1, s2, s3, s4, s5, s6, s7] [(a + s0) % 4294967296, (b + s1) % 4294967296, (c + s2) % 4294967296, (d + s3) % 4294967296, (e + s4) % 4294967296, (f + s5) % 4294967296, (g + s6) % 4294967296, h] 7 (K + 1) (by decide) rfl rfl
  refine z0.trans (z1.trans (z2.trans (z3.trans (z4.trans (z5.trans (z6.trans (z7.trans ?_)))))))
  show hopperref24_block.l3 (K + 1) _ _ ((8 : Nat) : Int) = _
  rw [hopperref24_block.l3, if_neg (by decide)]
  show some [(a + s0) % 4294967296, (b + s1) % 4294967296, (c + s2) % 4294967296, (d + s3) % 4294967296, (e + s4) % 4294967296, (f + s5) % 4294967296, (g + s6) % 4294967296, (h + s7) % 4294967296] = some [(s0 + a) % 4294967296, (s1 + b) % 4294967296, (s2 + c) % 4294967296, (s3 + d) % 4294967296, (s4 + e) % 4294967296, (s5 + f) % 4294967296, (s6 + g) % 4294967296, (s7 + h) % 4294967296]
  rw [Int.add_comm a, Int.add_comm b, Int.add_comm c, Int.add_comm d, Int.add_comm e, Int.add_comm f, Int.add_comm g, Int.add_comm h]
/-- The document's block is the program's. -/
theorem block_f (st bs : List Int) (hs : st.length = 8) (hb : bs.length = 64) (K : Nat) : hopperref24_block.f (K + 200) st KS bs = some (blk st bs) := by
  unfold hopperref24_block.f
  rw [if_pos (by decide)]
  have h0 := bl0 st KS bs hb 16 0 (K + 183) rfl
  have h1 := bl1 st KS bs hs 48 16 (K + 134) (by decide) rfl
  have h2 := bl2 st KS (sched bs 64) [] (sched_len _ _) rfl hs rfl 64 0 (K + 69) rfl
  have h3 := bl3 st (rounds (sched bs 64) st 64) (K + 60) hs (rounds_len _ _ hs _)
  have e0 : Zt bs 0 = List.replicate 64 0 := rfl
  rw [e0] at h0
  rw [sched64] at h1
  exact h0.trans (h1.trans (h2.trans h3))
end Go.Proofs.YtdnmllodefbekaaDoor.Sha
