import Derived.Test.YtdnmllodefbekaaDoorHShaSumsx
import Derived.Test.YtdnmllodefbekaaDoorSha17
import Derived.Test.YtdnmllodefbekaaDoorSha25
import Derived.Test.YtdnmllodefbekaaDoorSha22
namespace Go.Proofs.YtdnmllodefbekaaDoor.Sha
open Go.RowKit Go.Lib Go.Proofs.YtdnmllodefbekaaDoorW.PrintWords Go.Proofs.YtdnmllodefbekaaDoorW.PrintLast Go.Proofs.YtdnmllodefbekaaDoorW.PrintMore
open Go.Proofs.YtdnmllodefbekaaDoor.HShaSums
set_option linter.unusedVariables false
set_option linter.unusedSimpArgs false



def blocks : Nat → List Int → List Int → List Int
  | 0, st, _ => st
  | n + 1, st, xs => blocks n (blk st (xs.take 64)) (xs.drop 64)
theorem absorb_blocks : ∀ (N k : Nat) (st xs : List Int), xs.length = 64 * N → N < k → (absorb k st xs).1 = blocks N st xs
  | 0, k + 1, st, xs, h, _ => by
    rw [absorb, if_neg (by omega)]; rfl
  | N + 1, k + 1, st, xs, h, hk => by
    rw [absorb, if_pos (by omega)]
    exact absorb_blocks N k _ _ (by rw [List.length_drop]; omega) (by omega)
theorem blocks_len : ∀ (N : Nat) (st xs : List Int), st.length = 8 → (blocks N st xs).length = 8
  | 0, _, _, h => h
  | N + 1, st, xs, h => blocks_len N _ _ (blk_len _ _ h)
theorem s3_go (bs : List Int) (hb : bs.length ≤ 2000000000) : ∀ (N p K : Nat) (st : List Int), st.length = 8 → bs.length = p + 64 * N → hopperref24_Sum.l3 (K + 201 + N) st KS bs (p : Int) = hopperref24_Sum.l4 (K + 200) (blocks N st (bs.drop p)) [] 0
  | 0, p, K, st, hs, h => by
    show hopperref24_Sum.l3 (K + 200 + 1) _ _ _ _ = _
    rw [hopperref24_Sum.l3, if_neg (by omega)]
    rfl
  | N + 1, p, K, st, hs, h => by
    have c0 : (p : Int) < (bs.length : Int) := by omega
    have c1 : (0 : Int) ≤ (p : Int) := by omega
    have c2 : (p : Int) ≤ ((p + 64 : Nat) : Int) := by omega
    have c3 : ((p + 64 : Nat) : Int) ≤ (bs.length : Int) := by omega
    have hcut : (bs.take (p + 64)).drop p = (bs.drop p).take 64 := by
      rw [List.drop_take]
      congr 1
      omega
    have hbl : ((bs.drop p).take 64).length = 64 := by rw [List.length_take, List.length_drop]; omega
    have hblk := block_f st ((bs.drop p).take 64) hs hbl (K + 1 + N)
    have hlen := blk_len st ((bs.drop p).take 64) hs
    have hdd : (bs.drop p).drop 64 = bs.drop (p + 64) := by rw [List.drop_drop]
    have hrec := s3_go bs hb N (p + 64) K (blk st ((bs.drop p).take 64)) hlen (by omega)
    have e4 : wrap64 ((p : Int) + 64) = ((p + 64 : Nat) : Int) := by rw [w64 _ (by omega) (by omega)]; omega
    rw [show K + 201 + (N + 1) = (K + 1 + N + 200) + 1 by omega, hopperref24_Sum.l3]
    simp only [e4, c0, c1, c2, c3, if_true, Int.toNat_natCast, hcut, hblk, Option.bind_some]
    rw [show K + 1 + N + 200 = K + 201 + N by omega, hrec]
    show _ = hopperref24_Sum.l4 (K + 200) (blocks N (blk st ((bs.drop p).take 64)) ((bs.drop p).drop 64)) [] 0
    rw [hdd]
theorem s4_step (st acc : List Int) (t K : Nat) (h : t < 8) (hs : st.length = 8) (ha : acc.length ≤ 1000) : hopperref24_Sum.l4 (K + 1) st acc (t : Int) = hopperref24_Sum.l4 K st (acc ++ wordB (rd st t)) ((t + 1 : Nat) : Int) := by
  have c0 : (t : Int) < 8 := by omega
  have c1 : (0 : Int) ≤ (t : Int) := by omega
  have c2 : (t : Int) < (st.length : Int) := by omega
  have c3 : acc.length + (wordB (rd st t)).length < 140737488355328 := by show acc.length + 4 < _; omega
  have e4 := wadd t (by omega)
  rw [hopperref24_Sum.l4]
  simp only [e4, c0, c1, c2, if_true, Option.bind_some]
  unfold wordB at c3 ⊢
  rw [if_pos c3]
theorem s4_go (st : List Int) (K : Nat) (hs : st.length = 8) : hopperref24_Sum.l4 (K + 9) st [] 0 = some (strOfNums (outL st)) := by
  obtain ⟨a, b, c, d, e, f, g, h, rfl⟩ := eight st hs
  refine (s4_step _ [] 0 (K + 8) (by decide) rfl (by decide)).trans ?_
  refine (s4_step _ _ 1 (K + 7) (by decide) rfl (by simp [wordB])).trans ?_
  refine (s4_step _ _ 2 (K + 6) (by decide) rfl (by simp [wordB])).trans ?_
  refine (s4_step _ _ 3 (K + 5) (by decide) rfl (by simp [wordB])).trans ?_
  refine (s4_step _ _ 4 (K + 4) (by decide) rfl (by simp [wordB])).trans ?_
  refine (s4_step _ _ 5 (K + 3) (by decide) rfl (by simp [wordB])).trans ?_
  refine (s4_step _ _ 6 (K + 2) (by decide) rfl (by simp [wordB])).trans ?_
  refine (s4_step _ _ 7 (K + 1) (by decide) rfl (by simp [wordB])).trans ?_
  rw [hopperref24_Sum.l4, if_neg (by decide)]
  rfl
theorem rest_mod : ∀ (k : Nat) (st xs : List Int), xs.length < k → (absorb k st xs).2.length = xs.length % 64
  | 0, _, _, h => by omega
  | k + 1, st, xs, h => by
    unfold absorb
    split
    · rw [rest_mod k _ _ (by rw [List.length_drop]; omega), List.length_drop]; omega
    · show xs.length = _; omega
/-- The digest by whole blocks of the padded bytes. -/
theorem shaL_blocks (xs : List Int) (N : Nat) (h : (xs ++ padS (xs.length % 64) (IntKind.u64.wrap (xs.length : Int))).length = 64 * N) : shaL xs = outL (blocks N HS (xs ++ padS (xs.length % 64) (IntKind.u64.wrap (xs.length : Int)))) := by
  have hr := rest_mod (xs.length + 1) HS xs (by omega)
  unfold shaL sumL
  rw [hr, ← absorb_cat (xs.length + 1) HS xs _ (by omega), absorb_blocks N _ HS _ h (by rw [List.length_append] at h; omega)]
theorem refsum_f (b : ByteArray) (hb : b.size ≤ 1000000000) : ∃ K, hopperref24_Sum.f K b = some (strOfNums (shaL (bytesOf b))) := by
  obtain ⟨z, hz⟩ : ∃ z, zs ((bytesOf b).length % 64) = z := ⟨_, rfl⟩
  have hl : (bytesOf b).length = b.size := bytesOf_length b
  have hz0 : z = (119 - (bytesOf b).length % 64) % 64 := hz.symm
  obtain ⟨N, hN⟩ : ∃ N, (bytesOf b).length + 1 + z + 8 = 64 * N := ⟨((bytesOf b).length + 1 + z + 8) / 64, by omega⟩
  have hL : lenL b = IntKind.u64.wrap (8 * IntKind.u64.wrap ((bytesOf b).length : Int)) := by unfold lenL; rw [hl, Int.mul_comm]
  have hall : (bytesOf b ++ [128] ++ List.replicate z 0) ++ lenB (lenL b) = bytesOf b ++ padS ((bytesOf b).length % 64) (IntKind.u64.wrap ((bytesOf b).length : Int)) := by
    unfold padS
    rw [hz, hL]
    simp
  have hlen : (bytesOf b ++ padS ((bytesOf b).length % 64) (IntKind.u64.wrap ((bytesOf b).length : Int))).length = 64 * N := by
    rw [← hall]
    simp [lenB]
    omega
  have hsha := shaL_blocks (bytesOf b) N hlen
  obtain ⟨ALL, hALL⟩ : ∃ ALL, bytesOf b ++ padS ((bytesOf b).length % 64) (IntKind.u64.wrap ((bytesOf b).length : Int)) = ALL := ⟨_, rfl⟩
  rw [hALL] at hall hlen hsha
  refine ⟨12276 + N + z, ?_⟩
  have hp := up (fun k => hopperref24_primes.f k 64) (fun k => hopperref24_primes.mono _ k) primes_ev (12276 + N + z - 11642)
  have hp' : hopperref24_primes.f (12276 + N + z) 64 = some PR := by
    rw [show 12276 + N + z = 11642 + (12276 + N + z - 11642) by omega]
    exact hp
  unfold hopperref24_Sum.f
  rw [hp', Option.bind_some]
  have a0 := s0_lo_all b 8 0 (12168 + N + z) rfl
  have a1 := s0_hi_all b hb 56 8 (12111 + N + z) (by decide) rfl
  have a2 := s1_go b HS KS z (12210 + N) (bytesOf b ++ [128]) (by simp; omega) (by simp; omega) (fun j hj => by simp; omega)
  have a3 := s2_go HS KS (bytesOf b ++ [128] ++ List.replicate z 0) (lenL b) (12201 + N) (by simp; omega)
  have a4 := s3_go ALL (by rw [hlen]; omega) N 0 12000 HS rfl (by omega)
  have a5 := s4_go (blocks N HS ALL) 12191 (blocks_len _ _ _ rfl)
  rw [hall] at a3
  rw [show 12168 + N + z + 100 + 8 = 12276 + N + z by omega] at a0
  rw [show 12111 + N + z + 101 + 56 = 12168 + N + z + 100 by omega, show 12111 + N + z + 100 = 12210 + N + 1 + z by omega] at a1
  rw [show 12201 + N + 9 = 12210 + N by omega] at a3
  rw [show 12000 + 201 + N = 12201 + N by omega] at a4
  rw [hsha]
  exact a0.trans (a1.trans (a2.trans (a3.trans (a4.trans a5))))
end Go.Proofs.YtdnmllodefbekaaDoor.Sha
