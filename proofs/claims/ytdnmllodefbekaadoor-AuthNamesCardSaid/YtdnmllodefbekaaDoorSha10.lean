import Derived.Test.YtdnmllodefbekaaDoorSha9
namespace Go.Proofs.YtdnmllodefbekaaDoor.Sha
open Go.RowKit Go.Lib Go.Proofs.YtdnmllodefbekaaDoorW.PrintWords Go.Proofs.YtdnmllodefbekaaDoorW.PrintLast Go.Proofs.YtdnmllodefbekaaDoorW.PrintMore
set_option linter.unusedVariables false
set_option linter.unusedSimpArgs false
/-- A digit's value. -/
def dg (c : Int) : Option Int := if 48 ≤ c ∧ c ≤ 57 then some (c - 48) else if 97 ≤ c ∧ c ≤ 102 then some (c - 87) else none
def unh : List Int → Option (List Int)
  | [] => some []
  | [_] => none
  | a :: c :: l => match dg a, dg c with
    | some x, some y => (unh l).map fun r => (x * 16 + y) :: r
    | _, _ => none
theorem dg_hexD (v : Int) (h0 : 0 ≤ v) (h1 : v < 16) : dg (hexD v) = some v := by
  unfold dg hexD
  by_cases h : v < 10
  · rw [if_pos h, if_pos (by omega)]
    congr 1; omega
  · rw [if_neg h, if_neg (by omega), if_pos (by omega)]
    congr 1; omega
theorem hexD_dg (c x : Int) (h : dg c = some x) : hexD x = c ∧ 0 ≤ x ∧ x < 16 := by
  unfold dg at h
  unfold hexD
  split at h
  · injection h with h
    rw [if_pos (by omega)]; omega
  · split at h
    · injection h with h
      rw [if_neg (by omega)]; omega
    · exact absurd h (by simp)
theorem unh_hexL : ∀ l : List Int, (∀ x ∈ l, 0 ≤ x ∧ x < 256) → unh (hexL l) = some l
  | [], _ => rfl
  | x :: l, h => by
    have hx := h x (by simp)
    rw [hexL, unh, dg_hexD _ (by omega) (by omega), dg_hexD _ (by omega) (by omega), unh_hexL l fun y hy => h y (by simp [hy])]
    simp; omega
theorem hexL_unh : ∀ (s r : List Int), unh s = some r → hexL r = s ∧ ∀ x ∈ r, 0 ≤ x ∧ x < 256
  | [], r, h => by
    rw [unh] at h; injection h with h; subst h
    exact ⟨rfl, by simp⟩
  | [_], r, h => by simp [unh] at h
  | a :: c :: l, r, h => by
    rw [unh] at h
    split at h
    · rename_i x y hx hy
      obtain ⟨r1, hr, rfl⟩ := Option.map_eq_some_iff.1 h
      obtain ⟨h1, h2⟩ := hexL_unh l r1 hr
      obtain ⟨ha, ha0, ha1⟩ := hexD_dg a x hx
      obtain ⟨hc, hc0, hc1⟩ := hexD_dg c y hy
      refine ⟨?_, fun z hz => ?_⟩
      · rw [hexL, h1, show (x * 16 + y) / 16 = x by omega, show (x * 16 + y) % 16 = y by omega, ha, hc]
      · rcases List.mem_cons.1 hz with rfl | hz
        · omega
        · exact h2 z hz
    · exact absurd h (by simp)
theorem strOfNums_bytesOf (b : ByteArray) : strOfNums (bytesOf b) = b := by
  cases b with
  | mk d =>
    unfold strOfNums bytesOf
    congr 1
    apply Array.ext'
    simp [Function.comp_def]
theorem hexL_byte : ∀ (l : List Int), (∀ x ∈ l, 0 ≤ x ∧ x < 256) → ∀ x ∈ hexL l, 0 ≤ x ∧ x < 256
  | [], _, x, h => by simp [hexL] at h
  | y :: l, hl, x, h => by
    have hy := hl y (by simp)
    rw [hexL] at h
    rcases List.mem_cons.1 h with rfl | h
    · unfold hexD; split <;> omega
    rcases List.mem_cons.1 h with rfl | h
    · unfold hexD; split <;> omega
    · exact hexL_byte l (fun z hz => hl z (by simp [hz])) x h
/-- What Unhex answers. -/
def unR (s : ByteArray) : ByteArray × Int := if s.size % 2 ≠ 0 ∨ 524288 < s.size then (⟨#[]⟩, 3) else match unh (bytesOf s) with
  | some r => (strOfNums r, 0)
  | none => (⟨#[]⟩, 3)
theorem unR_hex (b : ByteArray) (h : b.size ≤ 262144) : unR (strOfNums (hexL (bytesOf b))) = (b, 0) := by
  unfold unR
  rw [strOfNums_size', hexL_len, bytesOf_length, if_neg (by omega), bytesOf_strOfNums _ (hexL_byte _ (bytesOf_byte b)), unh_hexL _ (bytesOf_byte b)]
  simp only [strOfNums_bytesOf]
theorem unR_two (s : ByteArray) : ((unR s).2 = 3 ∧ (unR s).1 = ⟨#[]⟩) ∨ ((unR s).2 = 0 ∧ (unR s).1.size ≤ 262144 ∧ strOfNums (hexL (bytesOf (unR s).1)) = s) := by
  unfold unR
  split
  · exact .inl ⟨rfl, rfl⟩
  · rename_i hs
    rcases hu : unh (bytesOf s) with _ | r
    · exact .inl ⟨rfl, rfl⟩
    · obtain ⟨h1, h2⟩ := hexL_unh _ _ hu
      refine .inr ⟨rfl, ?_, ?_⟩
      · show (strOfNums r).size ≤ 262144
        have := congrArg List.length h1
        rw [hexL_len, bytesOf_length] at this
        rw [strOfNums_size']; omega
      · show strOfNums (hexL (bytesOf (strOfNums r))) = s
        rw [bytesOf_strOfNums _ h2, h1, strOfNums_bytesOf]
end Go.Proofs.YtdnmllodefbekaaDoor.Sha
