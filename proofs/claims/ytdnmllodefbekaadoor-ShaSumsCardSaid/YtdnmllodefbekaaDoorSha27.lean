import Derived.Test.YtdnmllodefbekaaDoorHShaSumsx
import Derived.Test.YtdnmllodefbekaaDoorSha17
import Derived.Test.YtdnmllodefbekaaDoorSha26
import Derived.Test.YtdnmllodefbekaaDoorSha9
namespace Go.Proofs.YtdnmllodefbekaaDoor.Sha
open Go.RowKit Go.Lib Go.Proofs.YtdnmllodefbekaaDoorW.PrintWords Go.Proofs.YtdnmllodefbekaaDoorW.PrintLast Go.Proofs.YtdnmllodefbekaaDoorW.PrintMore
open Go.Proofs.YtdnmllodefbekaaDoor.HShaSums
set_option linter.unusedVariables false
set_option linter.unusedSimpArgs false



/-- The padded key behind t bytes. -/
def Pz (src : List Int) (y : Int) (t : Nat) : List Int := ((src.take t).map fun x => Go.bits .xor .u8 x y) ++ List.replicate (64 - t) 0
theorem Pz_pre (src : List Int) (y : Int) (t : Nat) (hs : src.length = 64) (h : t ≤ 64) : ((src.take t).map fun x => Go.bits .xor .u8 x y).length = t := by
  rw [List.length_map, List.length_take]; omega
theorem Pz_len (src : List Int) (y : Int) (t : Nat) (hs : src.length = 64) (h : t ≤ 64) : (Pz src y t).length = 64 := by
  unfold Pz
  rw [List.length_append, Pz_pre src y t hs h, List.length_replicate]; omega
theorem Pz_set (src : List Int) (y : Int) (t : Nat) (v : Int) (hs : src.length = 64) (h : t < 64) : (Pz src y t).set t v = ((src.take t).map fun x => Go.bits .xor .u8 x y) ++ v :: List.replicate (63 - t) 0 := by
  unfold Pz
  rw [List.set_append, if_neg (by rw [Pz_pre src y t hs (by omega)]; omega), Pz_pre src y t hs (by omega), Nat.sub_self, show 64 - t = (63 - t) + 1 by omega, List.replicate_succ, List.set_cons_zero]
theorem Pz_next (src : List Int) (y : Int) (t : Nat) (hs : src.length = 64) (h : t < 64) : ((src.take t).map fun x => Go.bits .xor .u8 x y) ++ Go.bits .xor .u8 (rd src t) y :: List.replicate (63 - t) 0 = Pz src y (t + 1) := by
  unfold Pz
  rw [← take_rd src t (by omega), List.map_append, List.append_assoc, show 64 - (t + 1) = 63 - t by omega]
  rfl
theorem rd_mid (l m : List Int) (v : Int) (t : Nat) (h : l.length = t) : rd (l ++ v :: m) (t : Int) = v := by
  unfold rd
  rw [List.getD_eq_getElem?_getD, Int.toNat_natCast, List.getElem?_append_right (by omega), h, Nat.sub_self]
  rfl
theorem pad_step (key : ByteArray) (y : Int) (src : List Int) (hsrc : src = bytesOf key ++ List.replicate (64 - (bytesOf key).length) 0) (hk : key.size ≤ 64) (t K : Nat) (h : t < 64) :
    hopperref24_pad.l0 (K + 1) key y (Pz src y t) (t : Int) = hopperref24_pad.l0 K key y (Pz src y (t + 1)) ((t + 1 : Nat) : Int) := by
  have hs : src.length = 64 := by rw [hsrc, List.length_append, List.length_replicate, bytesOf_length]; omega
  have hpl := Pz_len src y t hs (by omega)
  have hpre := Pz_pre src y t hs (by omega)
  have c0 : (t : Int) < 64 := by omega
  have c2 : (0 : Int) ≤ (t : Int) := by omega
  have c3 : (t : Int) < ((Pz src y t).length : Int) := by omega
  by_cases hq : t < key.size
  · have c1 : (t : Int) < (key.size : Int) := by omega
    have hb : rd src (t : Int) = bt key (t : Int) := by
      rw [hsrc, ← rd_bytesOf]
      unfold rd
      rw [List.getD_eq_getElem?_getD, List.getD_eq_getElem?_getD, Int.toNat_natCast, List.getElem?_append_left (by rw [bytesOf_length]; exact hq)]
    have e4 := wadd t (by omega)
    rw [hopperref24_pad.l0]
    simp only [e4, c0, c1, c2, c3, if_true, Option.bind_some, Int.toNat_natCast]
    rw [Pz_set src y t _ hs h, rd_mid _ _ _ t hpre, List.set_append, if_neg (by omega), hpre, Nat.sub_self, List.set_cons_zero, ← hb, Pz_next src y t hs h]
  · have c1 : ¬ (t : Int) < (key.size : Int) := by omega
    have hb : rd src (t : Int) = 0 := by
      rw [hsrc]
      unfold rd
      rw [List.getD_eq_getElem?_getD, Int.toNat_natCast, List.getElem?_append_right (by rw [bytesOf_length]; omega), List.getElem?_replicate]
      split <;> rfl
    have hr : rd (Pz src y t) (t : Int) = 0 := by
      unfold Pz
      rw [show 64 - t = (63 - t) + 1 by omega, List.replicate_succ, rd_mid _ _ _ t hpre]
    have e4 := wadd t (by omega)
    rw [hopperref24_pad.l0]
    simp only [e4, c0, c1, c2, c3, if_true, if_false, Int.toNat_natCast]
    rw [hr, ← hb, Pz_set src y t _ hs h, Pz_next src y t hs h]
theorem pad_go (key : ByteArray) (y : Int) (src : List Int) (hsrc : src = bytesOf key ++ List.replicate (64 - (bytesOf key).length) 0) (hk : key.size ≤ 64) : ∀ (d t K : Nat), t + d = 64 → hopperref24_pad.l0 (K + 1 + d) key y (Pz src y t) (t : Int) = some (strOfNums (Pz src y 64))
  | 0, t, K, h => by
    obtain rfl : t = 64 := by omega
    show hopperref24_pad.l0 (K + 1) _ _ _ _ = _
    rw [hopperref24_pad.l0, if_neg (show ¬ ((64 : Nat) : Int) < 64 by omega)]
  | d + 1, t, K, h => by
    show hopperref24_pad.l0 (K + 1 + d + 1) _ _ _ _ = _
    rw [pad_step key y src hsrc hk t (K + 1 + d) (by omega)]
    exact pad_go key y src hsrc hk d (t + 1) K (by omega)
theorem pad_f (key : ByteArray) (y : Int) (hk : key.size ≤ 64) (K : Nat) : hopperref24_pad.f (K + 65) key y = some (strOfNums (padL (bytesOf key) y)) := by
  unfold hopperref24_pad.f
  rw [if_pos (by decide)]
  have h := pad_go key y _ rfl hk 64 0 K rfl
  have e : Pz (bytesOf key ++ List.replicate (64 - (bytesOf key).length) 0) y 64 = padL (bytesOf key) y := by
    unfold Pz padL
    rw [List.take_of_length_le (by rw [List.length_append, List.length_replicate, bytesOf_length]; omega)]
    simp
  rw [e] at h
  exact h
theorem refmac_j (key b : ByteArray) (hk : key.size ≤ 64) (hb : b.size ≤ 900000000) : ∃ K, ∀ n, hopperref24_Mac.j0 (K + n) key b = some (strOfNums (shaL (padL (bytesOf key) 92 ++ shaL (padL (bytesOf key) 54 ++ bytesOf b)))) := by
  have hp1 : (strOfNums (padL (bytesOf key) 54)).size = 64 := by rw [strOfNums_size', padL_len _ _ (by rw [bytesOf_length]; exact hk)]
  have hp2 : (strOfNums (padL (bytesOf key) 92)).size = 64 := by rw [strOfNums_size', padL_len _ _ (by rw [bytesOf_length]; exact hk)]
  obtain ⟨K1, h1⟩ := refsum_f (strOfNums (padL (bytesOf key) 54) ++ b) (by rw [ByteArray.size_append, hp1]; omega)
  rw [bytesOf_append, bytesOf_strOfNums _ (padL_byte _ _ (bytesOf_byte key) (.inr rfl))] at h1
  have hd : (strOfNums (shaL (padL (bytesOf key) 54 ++ bytesOf b))).size = 32 := by rw [strOfNums_size', shaL_len]
  obtain ⟨K2, h2⟩ := refsum_f (strOfNums (padL (bytesOf key) 92) ++ strOfNums (shaL (padL (bytesOf key) 54 ++ bytesOf b))) (by rw [ByteArray.size_append, hp2, hd]; omega)
  rw [bytesOf_append, bytesOf_shaL, bytesOf_strOfNums _ (padL_byte _ _ (bytesOf_byte key) (.inl rfl))] at h2
  refine ⟨K1 + K2 + 66, fun n => ?_⟩
  have g1 := up (fun k => hopperref24_Sum.f k (strOfNums (padL (bytesOf key) 54) ++ b)) (fun k => hopperref24_Sum.mono _ k) h1 (K2 + 65 + n)
  have g2 := up (fun k => hopperref24_Sum.f k (strOfNums (padL (bytesOf key) 92) ++ strOfNums (shaL (padL (bytesOf key) 54 ++ bytesOf b)))) (fun k => hopperref24_Sum.mono _ k) h2 (K1 + 65 + n)
  have g1 : hopperref24_Sum.f (K1 + (K2 + 65 + n)) _ = some _ := g1
  have g2 : hopperref24_Sum.f (K2 + (K1 + 65 + n)) _ = some _ := g2
  rw [show K1 + (K2 + 65 + n) = K1 + K2 + n + 65 by omega] at g1
  rw [show K2 + (K1 + 65 + n) = K1 + K2 + n + 65 by omega] at g2
  rw [show K1 + K2 + 66 + n = (K1 + K2 + n + 65) + 1 by omega, hopperref24_Mac.j0, pad_f key 92 hk (K1 + K2 + n), Option.bind_some, pad_f key 54 hk (K1 + K2 + n), Option.bind_some, if_pos (by rw [hp1]; omega), g1, Option.bind_some, if_pos (by rw [hp2, hd]; decide), g2, Option.bind_some]
theorem refmac_f (key b : ByteArray) (hk : key.size ≤ 1000000000) (hb : b.size ≤ 900000000) : ∃ K, hopperref24_Mac.f K key b = some (strOfNums (macL (bytesOf key) (bytesOf b))) := by
  unfold macL keyL
  by_cases q : 64 < key.size
  · rw [if_pos (by rw [bytesOf_length]; exact q)]
    obtain ⟨K1, h1⟩ := refsum_f key hk
    obtain ⟨K2, h2⟩ := refmac_j (strOfNums (shaL (bytesOf key))) b (by rw [strOfNums_size', shaL_len]; omega) hb
    rw [bytesOf_shaL] at h2
    refine ⟨K2 + K1, ?_⟩
    have g1 := up (fun k => hopperref24_Sum.f k key) (fun k => hopperref24_Sum.mono _ k) h1 K2
    have g1 : hopperref24_Sum.f (K1 + K2) key = some _ := g1
    unfold hopperref24_Mac.f
    rw [if_pos (by omega), show K2 + K1 = K1 + K2 by omega, g1, Option.bind_some, show K1 + K2 = K2 + K1 by omega]
    exact h2 K1
  · rw [if_neg (by rw [bytesOf_length]; exact q)]
    obtain ⟨K2, h2⟩ := refmac_j key b (by omega) hb
    refine ⟨K2 + 0, ?_⟩
    unfold hopperref24_Mac.f
    rw [if_neg (by omega)]
    exact h2 0
end Go.Proofs.YtdnmllodefbekaaDoor.Sha
