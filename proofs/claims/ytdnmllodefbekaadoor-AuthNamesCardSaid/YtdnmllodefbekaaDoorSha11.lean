import Derived.Test.YtdnmllodefbekaaDoorSha10
import Derived.Test.YtdnmllodefbekaaDoorPShaBackx1
namespace Go.Proofs.YtdnmllodefbekaaDoor.Sha
open Go.RowKit Go.Lib Go.Proofs.YtdnmllodefbekaaDoorW.PrintWords Go.Proofs.YtdnmllodefbekaaDoorW.PrintLast Go.Proofs.YtdnmllodefbekaaDoorW.PrintMore
set_option linter.unusedVariables false
set_option linter.unusedSimpArgs false
theorem digit_f (k : Nat) (c : Int) (h0 : 0 ≤ c) (h1 : c < 256) : PShaBack.sha_digit.f (k + 1) c = some (match dg c with | some x => (x, true) | none => (0, false)) := by
  unfold PShaBack.sha_digit.f dg
  by_cases q : c ≥ 48
  · rw [if_pos q]
    rw [PShaBack.sha_digit.j0]
    by_cases q1 : c ≤ 57
    · rw [if_pos (decide_eq_true q1), if_pos (And.intro q q1)]
      show some ((c - 48) % 256, true) = some (c - 48, true)
      rw [show (c - 48) % 256 = c - 48 by omega]
    · rw [if_neg (by rw [decide_eq_true_eq]; exact q1), if_neg (show ¬ (48 ≤ c ∧ c ≤ 57) by omega)]
      by_cases q2 : c ≥ 97
      · by_cases q3 : c ≤ 102
        · rw [if_pos q2, if_pos q3, if_pos (And.intro q2 q3)]
          show some (((c - 97) % 256 + 10) % 256, true) = some (c - 87, true)
          rw [show ((c - 97) % 256 + 10) % 256 = c - 87 by omega]
        · rw [if_pos q2, if_neg q3, if_neg (show ¬ (97 ≤ c ∧ c ≤ 102) by omega)]
      · rw [if_neg q2, if_neg (show ¬ (97 ≤ c ∧ c ≤ 102) by omega)]
  · rw [if_neg q, if_neg (show ¬ (48 ≤ c ∧ c ≤ 57) by omega), if_neg (show ¬ (97 ≤ c ∧ c ≤ 102) by omega)]
    rw [PShaBack.sha_digit.j0]
    rw [if_neg (show ¬ (false = true) by simp), if_neg (show ¬ c ≥ 97 by omega)]
theorem or_digits : ∀ x : Fin 16, ∀ y : Fin 16, bits .or .u8 (((x.val : Int) * 16) % 256) (y.val : Int) = (x.val : Int) * 16 + (y.val : Int) := by decide +kernel
theorem or_dig (x y : Int) (hx : 0 ≤ x ∧ x < 16) (hy : 0 ≤ y ∧ y < 16) : bits .or .u8 ((x * 16) % 256) y = x * 16 + y := by
  have := or_digits ⟨x.toNat, by omega⟩ ⟨y.toNat, by omega⟩
  simp only at this
  rw [Int.toNat_of_nonneg hx.1, Int.toNat_of_nonneg hy.1] at this
  exact this
theorem drop_two (l : List Int) (p : Nat) (h : p + 1 < l.length) : l.drop p = rd l p :: rd l (p + 1 : Nat) :: l.drop (p + 2) := by
  rw [List.drop_eq_getElem_cons (by omega), List.drop_eq_getElem_cons h]
  have h1 : p < l.length := by omega
  simp [rd, List.getD_eq_getElem?_getD, h, h1]
theorem l0_f (s : ByteArray) (hev : s.size % 2 = 0) (hs : s.size ≤ 524288) : ∀ (m p : Nat) (acc : List Int), p % 2 = 0 → p ≤ s.size → acc.length ≤ p → s.size < p + 2 * m →
    PShaBack.sha_Unhex.l0 (m + 1) s acc (p : Int) = some (match unh ((bytesOf s).drop p) with | some r => (strOfNums (acc ++ r), 0) | none => (⟨#[]⟩, 3))
  | 0, p, acc, h1, h2, h3, h4 => by omega
  | m + 1, p, acc, h1, h2, h3, h4 => by
    rw [PShaBack.sha_Unhex.l0]
    by_cases q : p < s.size
    · have hw : wrap64 ((p : Int) + 1) = ((p + 1 : Nat) : Int) := by unfold wrap64; omega
      have hw2 : wrap64 ((p : Int) + 2) = ((p + 2 : Nat) : Int) := by unfold wrap64; omega
      have hp1 : p + 1 < (bytesOf s).length := by rw [bytesOf_length]; omega
      have b1 := bt_range s (p : Nat)
      have b2 := bt_range s (p + 1 : Nat)
      rw [if_pos (by omega), if_pos (by omega), hw, hw2, digit_f _ _ b1.1 (by omega), drop_two _ _ hp1, unh, rd_bytesOf s p, rd_bytesOf s ((p + 1 : Nat) : Int)]
      simp only [Option.bind_some]
      rw [if_pos (by omega), if_pos (by omega), digit_f _ _ b2.1 (by omega)]
      simp only [Option.bind_some]
      rcases hx : dg (bt s (p : Nat)) with _ | x
      · simp
      · rcases hy : dg (bt s (p + 1 : Nat)) with _ | y
        · simp
        · simp only [if_true]
          have hx1 := (hexD_dg _ _ hx).2
          have hy1 := (hexD_dg _ _ hy).2
          rw [if_pos (by omega), or_dig x y hx1 hy1, l0_f s hev hs m (p + 2) (acc ++ [x * 16 + y]) (by omega) (by omega) (by simp; omega) (by omega)]
          rcases unh ((bytesOf s).drop (p + 2)) with _ | r
          · rfl
          · simp
    · rw [if_neg (by omega)]
      have : (bytesOf s).drop p = [] := List.drop_eq_nil_of_le (by rw [bytesOf_length]; omega)
      rw [this, unh]
      simp
theorem unhex_f (s : ByteArray) : PShaBack.sha_Unhex.f (s.size + 3) s = some (unR s) := by
  unfold PShaBack.sha_Unhex.f unR
  by_cases q : s.size % 2 = 0
  · rw [if_pos (by omega)]
    rw [PShaBack.sha_Unhex.j0]
    by_cases q2 : 524288 < s.size
    · rw [if_pos (by simp; omega), if_pos (.inr q2)]
    · rw [if_neg (by simp; omega), if_neg (by omega)]
      have := l0_f s q (by omega) (s.size + 1) 0 [] rfl (Nat.zero_le _) (Nat.le_refl _) (by omega)
      rw [show ((0 : Nat) : Int) = 0 from rfl] at this
      rw [this]
      rfl
  · rw [if_neg (by omega)]
    rw [PShaBack.sha_Unhex.j0]
    rw [if_pos rfl, if_pos (.inl q)]
theorem unhex_walk (s : ByteArray) (w : World) :
    Calls Tryd.prog 21 #[.string s] w fun e w' => e = .returned (.tuple #[.string (unR s).1, .int .i64 (unR s).2]) ∧ Below w.heap.size w w' :=
  PShaBack.sha_Unhex.calls (s.size + 3) s _ _ w (unhex_f s)
end Go.Proofs.YtdnmllodefbekaaDoor.Sha
