import Derived.Test.YtdnmllodefbekaaDoorSha10
namespace Go.Proofs.YtdnmllodefbekaaDoor.Sha
open Go.RowKit Go.Lib Go.Proofs.YtdnmllodefbekaaDoorW.PrintWords Go.Proofs.YtdnmllodefbekaaDoorW.PrintLast Go.Proofs.YtdnmllodefbekaaDoorW.PrintMore
set_option linter.unusedVariables false
set_option linter.unusedSimpArgs false
theorem absorb_fuel : ∀ (k m : Nat) (st xs : List Int), xs.length < k → xs.length < m → absorb k st xs = absorb m st xs
  | 0, _, _, _, h, _ => by omega
  | k + 1, 0, _, _, _, h => by omega
  | k + 1, m + 1, st, xs, hk, hm => by
    unfold absorb
    split
    · exact absorb_fuel k m _ _ (by rw [List.length_drop]; omega) (by rw [List.length_drop]; omega)
    · rfl
/-- What is written in pieces is absorbed as the whole. -/
theorem absorb_cat : ∀ (k : Nat) (st xs ys : List Int), xs.length < k → absorb (xs.length + ys.length + 1) st (xs ++ ys) = absorb (((absorb k st xs).2 ++ ys).length + 1) (absorb k st xs).1 ((absorb k st xs).2 ++ ys)
  | 0, _, _, _, h => by omega
  | k + 1, st, xs, ys, h => by
    by_cases q : 64 ≤ xs.length
    · have e : absorb (k + 1) st xs = absorb k (blk st (xs.take 64)) (xs.drop 64) := by
        rw [absorb, if_pos q]
      rw [e, absorb, if_pos (by rw [List.length_append]; omega), List.take_append_of_le_length q, List.drop_append_of_le_length q, ← absorb_cat k _ _ ys (by rw [List.length_drop]; omega)]
      exact absorb_fuel _ _ _ _ (by rw [List.length_append, List.length_drop]; omega) (by rw [List.length_append, List.length_drop]; omega)
    · have e : absorb (k + 1) st xs = (st, xs) := by
        rw [absorb, if_neg q]
      rw [e, List.length_append]
/-- The state behind all that was written. -/
def stOf (all : List Int) : List Int := (absorb (all.length + 1) HS all).1
def restOf (all : List Int) : List Int := (absorb (all.length + 1) HS all).2
theorem st_cat (all ys : List Int) : (absorb ((restOf all ++ ys).length + 1) (stOf all) (restOf all ++ ys)).1 = stOf (all ++ ys) := by
  unfold stOf restOf
  rw [← absorb_cat (all.length + 1) HS all ys (by omega), List.length_append]
theorem rest_cat (all ys : List Int) : (absorb ((restOf all ++ ys).length + 1) (stOf all) (restOf all ++ ys)).2 = restOf (all ++ ys) := by
  unfold stOf restOf
  rw [← absorb_cat (all.length + 1) HS all ys (by omega), List.length_append]
theorem rest_lt (all : List Int) : (restOf all).length < 64 := absorb_rest _ _ _ (Nat.lt_succ_self _)
theorem sum_all (all : List Int) : sumL (stOf all) (restOf all) (IntKind.u64.wrap (all.length : Int)) = shaL all := rfl
theorem wrap_cat (a b : Nat) : IntKind.u64.wrap (IntKind.u64.wrap (a : Int) + (b : Int)) = IntKind.u64.wrap ((a + b : Nat) : Int) := by
  simp only [IntKind.wrap_u64]; omega
end Go.Proofs.YtdnmllodefbekaaDoor.Sha
