import Derived.Test.YtdnmllodefbekaaDoorHShaSumsx
import Derived.Test.YtdnmllodefbekaaDoorSha17
import Derived.Test.YtdnmllodefbekaaDoorSha24
import Derived.Test.YtdnmllodefbekaaDoorSha21
namespace Go.Proofs.YtdnmllodefbekaaDoor.Sha
open Go.RowKit Go.Lib Go.Proofs.YtdnmllodefbekaaDoorW.PrintWords Go.Proofs.YtdnmllodefbekaaDoorW.PrintLast Go.Proofs.YtdnmllodefbekaaDoorW.PrintMore
open Go.Proofs.YtdnmllodefbekaaDoor.HShaSums
set_option linter.unusedVariables false
set_option linter.unusedSimpArgs false


theorem up {α : Type} (f : Nat → Option α) (hm : ∀ k, LeO (f k) (f (k + 1))) {k : Nat} {r : α} (h : f k = some r) : ∀ n, f (k + n) = some r
  | 0 => h
  | n + 1 => hm _ _ (up f hm h n)
theorem square_f (t K : Nat) (h : t < 8) : hopperref24_square.f (K + 100) (rd PR t) = some (rd HS t) := by
  have e : ((PR.take 8).map (hopperref24_square.f 100))[t]? = (HS.map some)[t]? := by rw [square_ev]
  rw [List.getElem?_map, List.getElem?_map, List.getElem?_take, if_pos h] at e
  have hp : PR[t]? = some (rd PR t) := by
    have : t < PR.length := Nat.lt_of_lt_of_le h (by decide)
    simp [rd, List.getD_eq_getElem?_getD, this]
  have hh : HS[t]? = some (rd HS t) := by
    have : t < HS.length := h
    simp [rd, List.getD_eq_getElem?_getD, this]
  rw [hp, hh] at e
  have := up (fun k => hopperref24_square.f k (rd PR t)) (fun k => hopperref24_square.mono _ k) (Option.some.inj e) K
  rw [Nat.add_comm] at this
  exact this
theorem cube_f (t K : Nat) (h : t < 64) : hopperref24_cube.f (K + 100) (rd PR t) = some (rd KS t) := by
  have e : (PR.map (hopperref24_cube.f 100))[t]? = (KS.map some)[t]? := by rw [cube_ev]
  rw [List.getElem?_map, List.getElem?_map] at e
  have hp : PR[t]? = some (rd PR t) := by
    have : t < PR.length := h
    simp [rd, List.getD_eq_getElem?_getD, this]
  have hh : KS[t]? = some (rd KS t) := by
    have : t < KS.length := h
    simp [rd, List.getD_eq_getElem?_getD, this]
  rw [hp, hh] at e
  have := up (fun k => hopperref24_cube.f k (rd PR t)) (fun k => hopperref24_cube.mono _ k) (Option.some.inj e) K
  rw [Nat.add_comm] at this
  exact this
theorem take_rd (l : List Int) (t : Nat) (h : t < l.length) : l.take t ++ [rd l t] = l.take (t + 1) := by
  rw [List.take_succ_eq_append_getElem h]
  simp [rd, List.getD_eq_getElem?_getD, h]
theorem s0_lo (b : ByteArray) (t K : Nat) (h : t < 8) : hopperref24_Sum.l0 (K + 101) b PR (HS.take t) (KS.take t) (t : Int) = hopperref24_Sum.l0 (K + 100) b PR (HS.take (t + 1)) (KS.take (t + 1)) ((t + 1 : Nat) : Int) := by
  have c0 : (t : Int) < 64 := by omega
  have c1 : (t : Int) < 8 := by omega
  have c2 : (0 : Int) ≤ (t : Int) := by omega
  have c3 : (t : Int) < (PR.length : Int) := by have : PR.length = 64 := rfl; omega
  have c4 : (HS.take t).length < 35184372088832 := by rw [List.length_take]; omega
  have c5 : (KS.take t).length < 35184372088832 := by rw [List.length_take]; omega
  have e4 := wadd t (by omega)
  show hopperref24_Sum.l0 (K + 100 + 1) _ _ _ _ _ = _
  rw [hopperref24_Sum.l0]
  simp only [e4, c0, c1, c2, c3, c4, c5, if_true, square_f t K h, cube_f t K (by omega), Option.bind_some]
  rw [take_rd HS t h, take_rd KS t (Nat.lt_of_lt_of_le h (by decide))]
theorem s0_hi (b : ByteArray) (t K : Nat) (h8 : 8 ≤ t) (h : t < 64) : hopperref24_Sum.l0 (K + 101) b PR HS (KS.take t) (t : Int) = hopperref24_Sum.l0 (K + 100) b PR HS (KS.take (t + 1)) ((t + 1 : Nat) : Int) := by
  have c0 : (t : Int) < 64 := by omega
  have c1 : ¬ (t : Int) < 8 := by omega
  have c2 : (0 : Int) ≤ (t : Int) := by omega
  have c3 : (t : Int) < (PR.length : Int) := by have : PR.length = 64 := rfl; omega
  have c5 : (KS.take t).length < 35184372088832 := by rw [List.length_take]; omega
  have e4 := wadd t (by omega)
  show hopperref24_Sum.l0 (K + 100 + 1) _ _ _ _ _ = _
  rw [hopperref24_Sum.l0]
  simp only [e4, c0, c1, c2, c3, c5, if_true, if_false, cube_f t K h, Option.bind_some]
  rw [take_rd KS t h]
theorem s0_lo_all (b : ByteArray) : ∀ (d t K : Nat), t + d = 8 → hopperref24_Sum.l0 (K + 100 + d) b PR (HS.take t) (KS.take t) (t : Int) = hopperref24_Sum.l0 (K + 100) b PR HS (KS.take 8) ((8 : Nat) : Int)
  | 0, t, K, h => by obtain rfl : t = 8 := by omega
                     rfl
  | d + 1, t, K, h => by
    have e := s0_lo b t (K + d) (by omega)
    rw [show K + 100 + (d + 1) = K + d + 101 by omega, e, show K + d + 100 = K + 100 + d by omega]
    exact s0_lo_all b d (t + 1) K (by omega)
theorem s0_hi_all (b : ByteArray) (hb : b.size ≤ 1000000000) : ∀ (d t K : Nat), 8 ≤ t → t + d = 64 → hopperref24_Sum.l0 (K + 101 + d) b PR HS (KS.take t) (t : Int) = hopperref24_Sum.l1 (K + 100) b HS KS (bytesOf b ++ [128])
  | 0, t, K, h8, h => by
    obtain rfl : t = 64 := by omega
    show hopperref24_Sum.l0 (K + 100 + 1) _ _ _ _ _ = _
    have hl : (bytesOf b).length < 140737488355328 := by rw [bytesOf_length]; omega
    rw [hopperref24_Sum.l0, if_neg (show ¬ ((64 : Nat) : Int) < 64 by omega), Option.bind_some, if_pos hl]
    rfl
  | d + 1, t, K, h8, h => by
    have e := s0_hi b t (K + 1 + d) h8 (by omega)
    rw [show K + 101 + (d + 1) = K + 1 + d + 101 by omega, e, show K + 1 + d + 100 = K + 101 + d by omega]
    exact s0_hi_all b hb d (t + 1) K (by omega) (by omega)
def lenL (b : ByteArray) : Int := IntKind.u64.wrap ((IntKind.u64.wrap (b.size : Int)) * 8)
theorem s1_go (b : ByteArray) (st ks : List Int) : ∀ (z K : Nat) (xs : List Int), xs.length + z ≤ 2000000000 → (xs.length + z) % 64 = 56 → (∀ j, j < z → (xs.length + j) % 64 ≠ 56) → hopperref24_Sum.l1 (K + 1 + z) b st ks xs = hopperref24_Sum.l2 K st ks (xs ++ List.replicate z 0) (lenL b) 7
  | 0, K, xs, h1, h2, h3 => by
    show hopperref24_Sum.l1 (K + 1) _ _ _ _ = _
    rw [hopperref24_Sum.l1, if_pos (by omega)]
    simp [lenL]
  | z + 1, K, xs, h1, h2, h3 => by
    show hopperref24_Sum.l1 (K + 1 + z + 1) _ _ _ _ = _
    have h0 := h3 0 (by omega)
    rw [hopperref24_Sum.l1, if_neg (by omega), if_pos (by omega), s1_go b st ks z K (xs ++ [0]) (by rw [List.length_append]; simp; omega) (by rw [List.length_append]; simp; omega) (fun j hj => by rw [List.length_append]; have := h3 (j + 1) (by omega); simp; omega), List.append_assoc]
    rfl
theorem s2_step (st ks xs : List Int) (L j s a : Int) (K : Nat) (hj : 0 ≤ j) (hs : IntKind.u64.wrap (wrap64 (8 * j)) = s) (hs0 : 0 ≤ s) (ha : (2 : Int) ^ min s.toNat IntKind.u64.bits = a) (hx : xs.length ≤ 3000000000) (j' : Int) (hj' : wrap64 (j - 1) = j') :
    hopperref24_Sum.l2 (K + 1) st ks xs L j = hopperref24_Sum.l2 K st ks (xs ++ [L / a % 256]) L j' := by
  rw [hopperref24_Sum.l2, if_pos hj, hs, if_pos hs0, if_pos (by omega), hj']
  unfold shr
  rw [ha]
theorem s2_go (st ks xs : List Int) (L : Int) (K : Nat) (hx : xs.length ≤ 2000000000) : hopperref24_Sum.l2 (K + 9) st ks xs L 7 = hopperref24_Sum.l3 K st ks (xs ++ lenB L) 0 := by
  rw [s2_step st ks xs L 7 56 72057594037927936 (K + 8) (by decide) (by rw [w64 _ (by decide) (by decide)]; decide) (by decide) (by decide) (by omega) 6 ((w64 _ (by decide) (by decide)).trans (by decide)),
    s2_step st ks _ L 6 48 281474976710656 (K + 7) (by decide) (by rw [w64 _ (by decide) (by decide)]; decide) (by decide) (by decide) (by simp; omega) 5 ((w64 _ (by decide) (by decide)).trans (by decide)),
    s2_step st ks _ L 5 40 1099511627776 (K + 6) (by decide) (by rw [w64 _ (by decide) (by decide)]; decide) (by decide) (by decide) (by simp; omega) 4 ((w64 _ (by decide) (by decide)).trans (by decide)),
    s2_step st ks _ L 4 32 4294967296 (K + 5) (by decide) (by rw [w64 _ (by decide) (by decide)]; decide) (by decide) (by decide) (by simp; omega) 3 ((w64 _ (by decide) (by decide)).trans (by decide)),
    s2_step st ks _ L 3 24 16777216 (K + 4) (by decide) (by rw [w64 _ (by decide) (by decide)]; decide) (by decide) (by decide) (by simp; omega) 2 ((w64 _ (by decide) (by decide)).trans (by decide)),
    s2_step st ks _ L 2 16 65536 (K + 3) (by decide) (by rw [w64 _ (by decide) (by decide)]; decide) (by decide) (by decide) (by simp; omega) 1 ((w64 _ (by decide) (by decide)).trans (by decide)),
    s2_step st ks _ L 1 8 256 (K + 2) (by decide) (by rw [w64 _ (by decide) (by decide)]; decide) (by decide) (by decide) (by simp; omega) 0 ((w64 _ (by decide) (by decide)).trans (by decide)),
    s2_step st ks _ L 0 0 1 (K + 1) (by decide) (by rw [w64 _ (by decide) (by decide)]; decide) (by decide) (by decide) (by simp; omega) (-1) ((w64 _ (by decide) (by decide)).trans (by decide)), hopperref24_Sum.l2, if_neg (by decide)]
  unfold lenB
  simp
end Go.Proofs.YtdnmllodefbekaaDoor.Sha
