import Derived.Test.YtdnmllodefbekaaDoorHShaSumsx
import Derived.Test.YtdnmllodefbekaaDoorSha17
import Derived.Test.YtdnmllodefbekaaDoorSha23a
namespace Go.Proofs.YtdnmllodefbekaaDoor.Sha
open Go.RowKit Go.Lib Go.Proofs.YtdnmllodefbekaaDoorW.PrintWords Go.Proofs.YtdnmllodefbekaaDoorW.PrintLast Go.Proofs.YtdnmllodefbekaaDoorW.PrintMore
open Go.Proofs.YtdnmllodefbekaaDoor.HShaSums
set_option linter.unusedVariables false
set_option linter.unusedSimpArgs false

theorem wsub (t k : Nat) (h : k ≤ t) (h2 : t ≤ 1000) : wrap64 ((t : Int) - (k : Int)) = ((t - k : Nat) : Int) := by rw [w64 _ (by omega) (by omega)]; omega
theorem wadd (t : Nat) (h2 : t ≤ 1000) : wrap64 ((t : Int) + 1) = ((t + 1 : Nat) : Int) := by rw [w64 _ (by omega) (by omega)]; omega
theorem bl1_step (st ks ws : List Int) (t K : Nat) (h1 : 16 ≤ t) (h2 : t < 64) (hz : ws.length = 64) : hopperref24_block.l1 (K + 1) st ks ws (t : Int) = hopperref24_block.l1 K st ks (ws.set t (nxt ws t)) ((t + 1 : Nat) : Int) := by
  have c0 : (t : Int) < 64 := by omega
  have c1 : (0 : Int) ≤ ((t - 15 : Nat) : Int) := by omega
  have c2 : ((t - 15 : Nat) : Int) < (ws.length : Int) := by omega
  have c3 : (0 : Int) ≤ ((t - 2 : Nat) : Int) := by omega
  have c4 : ((t - 2 : Nat) : Int) < (ws.length : Int) := by omega
  have c5 : (0 : Int) ≤ ((t - 7 : Nat) : Int) := by omega
  have c6 : ((t - 7 : Nat) : Int) < (ws.length : Int) := by omega
  have c7 : (0 : Int) ≤ ((t - 16 : Nat) : Int) := by omega
  have c8 : ((t - 16 : Nat) : Int) < (ws.length : Int) := by omega
  have c9 : (0 : Int) ≤ (t : Int) := by omega
  have c10 : (t : Int) < (ws.length : Int) := by omega
  have e0 := wsub t 15 (by omega) (by omega)
  have e1 := wsub t 2 (by clear e0; omega) (by clear e0; omega)
  have e2 := wsub t 7 (by clear e0 e1; omega) (by clear e0 e1; omega)
  have e3 := wsub t 16 (by clear e0 e1 e2; omega) (by clear e0 e1 e2; omega)
  have e4 := wadd t (by clear e0 e1 e2 e3; omega)
  rw [hopperref24_block.l1]
  unfold nxt smaW smaV
  simp only [Int.cast_ofNat_Int] at e0 e1 e2 e3
  simp only [e0, e1, e2, e3, e4, c0, c1, c2, c3, c4, c5, c6, c7, c8, c9, c10, if_true, t7, t18, t17, t19, Option.bind_some, Int.toNat_natCast]
theorem bl1 (st ks bs : List Int) (hs : st.length = 8) : ∀ (d t K : Nat), 16 ≤ t → t + d = 64 → hopperref24_block.l1 (K + 1 + d) st ks (Zt bs t) (t : Int) = hopperref24_block.l2 K st ks (Zt bs 64) st 0
  | 0, t, K, h1, h => by
    obtain rfl : t = 64 := by omega
    show hopperref24_block.l1 (K + 1) _ _ _ _ = _
    have hl : ([] : List Int).length + st.length < 35184372088832 := by rw [hs]; decide
    rw [hopperref24_block.l1, if_neg (show ¬ ((64 : Nat) : Int) < 64 by omega), Option.bind_some, if_pos hl, List.nil_append]
  | d + 1, t, K, h1, h => by
    show hopperref24_block.l1 (K + 1 + d + 1) _ _ _ _ = _
    rw [bl1_step st ks _ t (K + 1 + d) h1 (by omega) (Zt_len bs t (by omega))]
    have hx : sched bs (t + 1) = sched bs t ++ [nxt (sched bs t) t] := by rw [sched, if_neg (by omega)]
    have hn : nxt (Zt bs t) t = nxt (sched bs t) t := by
      unfold nxt
      rw [Zt_rd bs t _ (by omega), Zt_rd bs t _ (by omega), Zt_rd bs t _ (by omega), Zt_rd bs t _ (by omega)]
    rw [hn, Zt_set bs t (by omega) _ hx]
    exact bl1 st ks bs hs d (t + 1) K (by omega) (by omega)
/-- One round of the 64. -/
theorem bl2_step (st ks ws v : List Int) (t K : Nat) (h2 : t < 64) (hz : ws.length = 64) (hk : ks.length = 64) (hv : v.length = 8) : hopperref24_block.l2 (K + 1) st ks ws v (t : Int) = hopperref24_block.l2 K st ks ws (rnd (rd ks t) (rd ws t) v) ((t + 1 : Nat) : Int) := by
  obtain ⟨a, b, c, d, e, f, g, h, rfl⟩ := eight v hv
  have c0 : (t : Int) < 64 := by omega
  have c1 : (0 : Int) ≤ (t : Int) := by omega
  have c2 : (t : Int) < (ks.length : Int) := by omega
  have c3 : (t : Int) < (ws.length : Int) := by omega
  have e4 := wadd t (by omega)
  have r0 : rd [a, b, c, d, e, f, g, h] 0 = a := rfl
  have r1 : rd [a, b, c, d, e, f, g, h] 1 = b := rfl
  have r2 : rd [a, b, c, d, e, f, g, h] 2 = c := rfl
  have r3 : rd [a, b, c, d, e, f, g, h] 3 = d := rfl
  have r4 : rd [a, b, c, d, e, f, g, h] 4 = e := rfl
  have r5 : rd [a, b, c, d, e, f, g, h] 5 = f := rfl
  have r6 : rd [a, b, c, d, e, f, g, h] 6 = g := rfl
  have r7 : rd [a, b, c, d, e, f, g, h] 7 = h := rfl
  have l8 : (([a, b, c, d, e, f, g, h] : List Int).length : Int) = 8 := rfl
  rw [hopperref24_block.l2]
  simp only [e4, c0, c1, c2, c3, l8, r0, r1, r2, r3, r4, r5, r6, r7, if_true, t6, t11, t25, t2, t13, t22, Option.bind_some, show (0 : Int) < 8 by decide, show (4 : Int) < 8 by decide, show (7 : Int) < 8 by decide, show (5 : Int) < 8 by decide, show (6 : Int) < 8 by decide, show (1 : Int) < 8 by decide, show (2 : Int) < 8 by decide, show (3 : Int) < 8 by decide, rnd, tx, ty, bigE, bigA, ch, mj, Int.emod_add_emod, Int.add_emod_emod]
end Go.Proofs.YtdnmllodefbekaaDoor.Sha
