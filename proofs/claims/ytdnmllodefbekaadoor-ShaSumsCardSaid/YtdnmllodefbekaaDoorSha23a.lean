import Derived.Test.YtdnmllodefbekaaDoorHShaSumsx
import Derived.Test.YtdnmllodefbekaaDoorSha17
namespace Go.Proofs.YtdnmllodefbekaaDoor.Sha
open Go.RowKit Go.Lib Go.Proofs.YtdnmllodefbekaaDoorW.PrintWords Go.Proofs.YtdnmllodefbekaaDoorW.PrintLast Go.Proofs.YtdnmllodefbekaaDoorW.PrintMore
open Go.Proofs.YtdnmllodefbekaaDoor.HShaSums
set_option linter.unusedVariables false
set_option linter.unusedSimpArgs false
theorem or_comm32 (a b : Int) : Go.bits .or .u32 a b = Go.bits .or .u32 b a := by
  unfold Go.bits
  simp only
  rw [BitVec.or_comm]
theorem turn_eq (x n m a b : Int) (h1 : 0 ≤ n) (h2 : IntKind.u64.wrap (32 - n) = m) (h3 : 0 ≤ m) (ha : (2 : Int) ^ min m.toNat IntKind.u32.bits = a) (hb : (2 : Int) ^ min n.toNat IntKind.u32.bits = b) : hopperref24_turn.f x n = some (ror a b x) := by
  unfold hopperref24_turn.f
  rw [if_pos h1, h2, if_pos h3]
  unfold shr shl ror
  rw [ha, hb, or_comm32, IntKind.wrap_u32]
theorem t2 (x : Int) : hopperref24_turn.f x 2 = some (ror 1073741824 4 x) := turn_eq x 2 30 _ _ (by decide) (by decide) (by decide) (by decide) (by decide)
theorem t6 (x : Int) : hopperref24_turn.f x 6 = some (ror 67108864 64 x) := turn_eq x 6 26 _ _ (by decide) (by decide) (by decide) (by decide) (by decide)
theorem t7 (x : Int) : hopperref24_turn.f x 7 = some (ror 33554432 128 x) := turn_eq x 7 25 _ _ (by decide) (by decide) (by decide) (by decide) (by decide)
theorem t11 (x : Int) : hopperref24_turn.f x 11 = some (ror 2097152 2048 x) := turn_eq x 11 21 _ _ (by decide) (by decide) (by decide) (by decide) (by decide)
theorem t13 (x : Int) : hopperref24_turn.f x 13 = some (ror 524288 8192 x) := turn_eq x 13 19 _ _ (by decide) (by decide) (by decide) (by decide) (by decide)
theorem t17 (x : Int) : hopperref24_turn.f x 17 = some (ror 32768 131072 x) := turn_eq x 17 15 _ _ (by decide) (by decide) (by decide) (by decide) (by decide)
theorem t18 (x : Int) : hopperref24_turn.f x 18 = some (ror 16384 262144 x) := turn_eq x 18 14 _ _ (by decide) (by decide) (by decide) (by decide) (by decide)
theorem t19 (x : Int) : hopperref24_turn.f x 19 = some (ror 8192 524288 x) := turn_eq x 19 13 _ _ (by decide) (by decide) (by decide) (by decide) (by decide)
theorem t22 (x : Int) : hopperref24_turn.f x 22 = some (ror 1024 4194304 x) := turn_eq x 22 10 _ _ (by decide) (by decide) (by decide) (by decide) (by decide)
theorem t25 (x : Int) : hopperref24_turn.f x 25 = some (ror 128 33554432 x) := turn_eq x 25 7 _ _ (by decide) (by decide) (by decide) (by decide) (by decide)
/-- The schedule as it stands behind t words. -/
def Zt (bs : List Int) (t : Nat) : List Int := sched bs t ++ List.replicate (64 - t) 0
theorem Zt_len (bs : List Int) (t : Nat) (h : t ≤ 64) : (Zt bs t).length = 64 := by unfold Zt; rw [List.length_append, sched_len, List.length_replicate]; omega
theorem Zt_rd (bs : List Int) (t i : Nat) (h : i < t) : rd (Zt bs t) (i : Int) = rd (sched bs t) (i : Int) := by
  unfold Zt rd
  rw [List.getD_eq_getElem?_getD, List.getD_eq_getElem?_getD, Int.toNat_natCast, List.getElem?_append_left (by rw [sched_len]; exact h)]
theorem Zt_set (bs : List Int) (t : Nat) (h : t < 64) (x : Int) (hx : sched bs (t + 1) = sched bs t ++ [x]) : (Zt bs t).set t x = Zt bs (t + 1) := by
  unfold Zt
  rw [hx, List.set_append, if_neg (by rw [sched_len]; omega), sched_len, Nat.sub_self, show 64 - t = (64 - (t + 1)) + 1 by omega, List.replicate_succ, List.set_cons_zero, List.append_assoc]
  rfl
theorem w64 (x : Int) (h0 : -9223372036854775808 ≤ x) (h1 : x ≤ 9223372036854775807) : wrap64 x = x := by unfold wrap64; omega
theorem bl0 (st ks bs : List Int) (hb : bs.length = 64) : ∀ (d t K : Nat), t + d = 16 → hopperref24_block.l0 (K + 1 + d) st ks bs (Zt bs t) (t : Int) = hopperref24_block.l1 K st ks (Zt bs 16) 16
  | 0, t, K, h => by
    obtain rfl : t = 16 := by omega
    show hopperref24_block.l0 (K + 1) _ _ _ _ _ = _
    rw [hopperref24_block.l0, if_neg (by decide)]
  | d + 1, t, K, h => by
    show hopperref24_block.l0 (K + 1 + d + 1) _ _ _ _ _ = _
    have e0 : wrap64 (4 * (t : Int)) = ((4 * t : Nat) : Int) := by rw [w64 _ (by omega) (by omega)]; omega
    have e1 : wrap64 (((4 * t : Nat) : Int) + 1) = ((4 * t + 1 : Nat) : Int) := by rw [w64 _ (by omega) (by omega)]; omega
    have e2 : wrap64 (((4 * t : Nat) : Int) + 2) = ((4 * t + 2 : Nat) : Int) := by rw [w64 _ (by omega) (by omega)]; omega
    have e3 : wrap64 (((4 * t : Nat) : Int) + 3) = ((4 * t + 3 : Nat) : Int) := by rw [w64 _ (by omega) (by omega)]; omega
    have e4 : wrap64 ((t : Int) + 1) = ((t + 1 : Nat) : Int) := by rw [w64 _ (by omega) (by omega)]; omega
    have hz := Zt_len bs t (by omega)
    rw [hopperref24_block.l0, e0, e1, e2, e3, e4, if_pos (by omega), if_pos (by omega), if_pos (by omega), if_pos (by omega), if_pos (by omega), if_pos (by omega), if_pos (by omega), if_pos (by omega), if_pos (by omega), if_pos (by omega), if_pos (by omega), Int.toNat_natCast]
    have := Zt_set bs t (by omega) (be4 (rd bs (4 * t : Nat)) (rd bs (4 * t + 1 : Nat)) (rd bs (4 * t + 2 : Nat)) (rd bs (4 * t + 3 : Nat))) (by rw [sched, if_pos (by omega)])
    unfold be4 at this
    rw [this]
    exact bl0 st ks bs hb d (t + 1) K (by omega)
end Go.Proofs.YtdnmllodefbekaaDoor.Sha
