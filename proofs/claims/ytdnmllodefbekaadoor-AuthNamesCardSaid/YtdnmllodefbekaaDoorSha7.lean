import Derived.Test.YtdnmllodefbekaaDoorSha5
import Derived.Test.YtdnmllodefbekaaDoorSha6
namespace Go.Proofs.YtdnmllodefbekaaDoor.Sha
open Go.RowKit Go.Lib Go.Proofs.YtdnmllodefbekaaDoorW.PrintWords Go.Proofs.YtdnmllodefbekaaDoorW.PrintLast Go.Proofs.YtdnmllodefbekaaDoorW.PrintMore
set_option linter.unusedVariables false
set_option linter.unusedSimpArgs false
def shaL (xs : List Int) : List Int := sumL (absorb (xs.length + 1) HS xs).1 (absorb (xs.length + 1) HS xs).2 (IntKind.u64.wrap (xs.length : Int))
theorem absorb_rest : ∀ (k : Nat) (st xs : List Int), xs.length < k → (absorb k st xs).2.length < 64
  | 0, _, _, h => by omega
  | k + 1, st, xs, h => by
    unfold absorb
    split
    · rename_i h1
      exact absorb_rest k _ _ (by rw [List.length_drop]; omega)
    · show xs.length < 64
      omega
theorem sha_walk (b : ByteArray) (w : World) (hL : Laid w) (h2 : 2 ≤ w.heap.size) (hb : b.size ≤ 1000000000) :
    Calls Tryd.prog 13 #[.string b] w fun e w' => e = .returned (.string (strOfNums (shaL (bytesOf b)))) ∧ Below w.heap.size w w' := by
  have HL := Aside0.mk hL
  clear hL
  go_enter Tryd.func13, Tryd.ntmps13
  go_wp2_with fail
  refine (new_walk w w HL.out (Below.refl _ _)).mono ?_
  rintro e w1 ⟨rfl, hI1, hB1⟩
  have HI := Aside0.mk (And.intro hI1 hB1)
  have hs1 := hB1.size
  clear hI1 hB1
  go_wp2_with fail
  refine (write_walk _ _ _ _ _ b w w1 HI.out.1 HL.out h2 HI.out.2 (by simp) hb).mono ?_
  rintro e w2 ⟨rfl, rv2, hI2, -, hB2⟩
  rw [List.nil_append, Int.zero_add] at hI2
  have HI2 := Aside0.mk (And.intro hI2 hB2)
  clear hI2 hB2
  go_wp2_with fail
  refine (sum_walk _ _ _ _ _ w w2 HI2.out.1 (HL.out.step HI2.out.2 h2) (Nat.le_trans h2 HI2.out.2.size) (absorb_rest _ _ _ (Nat.lt_succ_self _))).mono ?_
  rintro e w3 ⟨rfl, hB3⟩
  have HI3 := Aside0.mk (HI2.out.2.trans (hB3.mono HI2.out.2.size))
  clear hB3
  go_wp2
  go_ret
  exact ⟨by unfold shaL; rw [bytesOf_length]; rfl, HI3.out⟩
/-- The long key's digest. -/
def keyL (key : List Int) : List Int := if 64 < key.length then shaL key else key
def macL (key b : List Int) : List Int := shaL (padL (keyL key) 92 ++ shaL (padL (keyL key) 54 ++ b))
theorem outL_byte : ∀ (l : List Int), ∀ x ∈ outL l, 0 ≤ x ∧ x < 256
  | [], x, h => by simp [outL] at h
  | y :: l, x, h => by
    rw [outL] at h
    rcases List.mem_append.1 h with h | h
    · simp only [wordB, List.mem_cons, List.not_mem_nil, or_false] at h
      rcases h with rfl | rfl | rfl | rfl <;> omega
    · exact outL_byte l x h
theorem shaL_byte (xs : List Int) : ∀ x ∈ shaL xs, 0 ≤ x ∧ x < 256 := outL_byte _
theorem bytesOf_shaL (xs : List Int) : bytesOf (strOfNums (shaL xs)) = shaL xs := bytesOf_strOfNums _ (shaL_byte xs)
theorem absorb_len : ∀ (k : Nat) (st xs : List Int), st.length = 8 → (absorb k st xs).1.length = 8
  | 0, _, _, h => h
  | k + 1, st, xs, h => by
    unfold absorb
    split
    · exact absorb_len k _ _ (blk_len _ _ h)
    · exact h
theorem shaL_len (xs : List Int) : (shaL xs).length = 32 := by
  unfold shaL sumL
  rw [outL_len, absorb_len _ _ _ (absorb_len _ _ _ rfl)]
theorem padL_len (key : List Int) (y : Int) (h : key.length ≤ 64) : (padL key y).length = 64 := by
  unfold padL
  simp; omega
theorem bytesOf_append (a b : ByteArray) : bytesOf (a ++ b) = bytesOf a ++ bytesOf b := by simp [bytesOf, ByteArray.data_append]
theorem bytesOf_byte (b : ByteArray) : ∀ x ∈ bytesOf b, 0 ≤ x ∧ x < 256 := fun x hx => by
  unfold bytesOf at hx
  obtain ⟨u, -, rfl⟩ := List.mem_map.1 hx
  have := u.toNat_lt
  omega
theorem padL_byte (key : List Int) (y : Int) (hk : ∀ x ∈ key, 0 ≤ x ∧ x < 256) (hy : y = 92 ∨ y = 54) : ∀ x ∈ padL key y, 0 ≤ x ∧ x < 256 := fun x hx => by
  unfold padL at hx
  obtain ⟨z, -, rfl⟩ := List.mem_map.1 hx
  unfold bits
  simp only [IntKind.wrap_u8]
  omega
theorem mac_walk (key b : ByteArray) (w : World) (hL : Laid w) (h2 : 2 ≤ w.heap.size) (hk : key.size ≤ 1000000000) (hb : b.size ≤ 900000000) :
    Calls Tryd.prog 15 #[.string key, .string b] w fun e w' => e = .returned (.string (strOfNums (macL (bytesOf key) (bytesOf b)))) ∧ Below w.heap.size w w' := by
  have HL := Aside0.mk hL
  clear hL
  go_enter Tryd.func15, Tryd.ntmps15
  by_cases q1 : 64 < key.size
  · go_wp2_with fail
    refine (sha_walk _ _ HL.out h2 hk).mono ?_
    rintro e w1 ⟨rfl, hB1⟩
    have HB := Aside0.mk hB1
    obtain ⟨KK, hKK⟩ : ∃ KK, strOfNums (shaL (bytesOf key)) = KK := ⟨_, rfl⟩
    have hKb : (bytesOf KK).length ≤ 64 := by rw [← hKK, bytesOf_shaL, shaL_len]; omega
    have hK : KK.size ≤ 64 := by rw [bytesOf_length] at hKb; exact hKb
    have HE := Aside0.mk (show bytesOf KK = keyL (bytesOf key) from by unfold keyL; rw [if_pos (by rw [bytesOf_length]; exact q1), ← hKK, bytesOf_shaL])
    rw [hKK]
    clear hKK hB1
    go_wp2_with fail
    refine (padded_walk KK _ _ hK).mono ?_
    rintro e w2 ⟨rfl, hB2⟩
    have HB2 := Aside0.mk (below_step HB.out hB2)
    clear hB2
    go_wp2_with fail
    refine (padded_walk KK _ _ hK).mono ?_
    rintro e w3 ⟨rfl, hB3⟩
    have HB3 := Aside0.mk (below_step HB2.out hB3)
    clear hB3
    have hz1 : ¬ 9223372036854775807 < (strOfNums (padL (bytesOf KK) 54)).size + b.size := by rw [strOfNums_size', padL_len _ _ hKb]; omega
    go_wp2_with fail
    refine (sha_walk _ _ (HL.out.step HB3.out h2) (Nat.le_trans h2 HB3.out.size) (by simp only [ByteArray.size_append, strOfNums_size', padL_len _ _ hKb]; omega)).mono ?_
    rintro e w4 ⟨rfl, hB4⟩
    have HB4 := Aside0.mk (below_step HB3.out hB4)
    clear hB4 hz1
    obtain ⟨D, hD⟩ : ∃ D, strOfNums (shaL (bytesOf (strOfNums (padL (bytesOf KK) 54) ++ b))) = D := ⟨_, rfl⟩
    have hD2 : D.size = 32 := by rw [← hD, strOfNums_size', shaL_len]
    have hz2 : ¬ 9223372036854775807 < (strOfNums (padL (bytesOf KK) 92)).size + D.size := by rw [strOfNums_size', padL_len _ _ hKb]; omega
    rw [hD]
    have HD := Aside0.mk hD
    have HD2 := Aside0.mk hD2
    clear hD hD2
    go_wp2_with fail
    refine (sha_walk _ _ (HL.out.step HB4.out h2) (Nat.le_trans h2 HB4.out.size) (by simp only [ByteArray.size_append, strOfNums_size', padL_len _ _ hKb, HD2.out]; omega)).mono ?_
    rintro e w5 ⟨rfl, hB5⟩
    have HB5 := Aside0.mk (below_step HB4.out hB5)
    clear hB5
    go_wp2
    go_ret
    refine ⟨?_, HB5.out⟩
    unfold macL
    rw [← HD.out, ← HE.out, bytesOf_append, bytesOf_append, bytesOf_shaL, bytesOf_strOfNums _ (padL_byte _ _ (bytesOf_byte KK) (.inl rfl)), bytesOf_strOfNums _ (padL_byte _ _ (bytesOf_byte KK) (.inr rfl))]
    rfl
  · have hK : key.size ≤ 64 := by omega
    have hKb : (bytesOf key).length ≤ 64 := by rw [bytesOf_length]; exact hK
    have HE := Aside0.mk (show bytesOf key = keyL (bytesOf key) from by unfold keyL; rw [if_neg (by rw [bytesOf_length]; exact q1)])
    have HB := Aside0.mk (Below.refl w.heap.size w)
    go_wp2_with fail
    refine (padded_walk key _ _ hK).mono ?_
    rintro e w2 ⟨rfl, hB2⟩
    have HB2 := Aside0.mk (below_step HB.out hB2)
    clear hB2
    go_wp2_with fail
    refine (padded_walk key _ _ hK).mono ?_
    rintro e w3 ⟨rfl, hB3⟩
    have HB3 := Aside0.mk (below_step HB2.out hB3)
    clear hB3
    have hz1 : ¬ 9223372036854775807 < (strOfNums (padL (bytesOf key) 54)).size + b.size := by rw [strOfNums_size', padL_len _ _ hKb]; omega
    go_wp2_with fail
    refine (sha_walk _ _ (HL.out.step HB3.out h2) (Nat.le_trans h2 HB3.out.size) (by simp only [ByteArray.size_append, strOfNums_size', padL_len _ _ hKb]; omega)).mono ?_
    rintro e w4 ⟨rfl, hB4⟩
    have HB4 := Aside0.mk (below_step HB3.out hB4)
    clear hB4 hz1
    obtain ⟨D, hD⟩ : ∃ D, strOfNums (shaL (bytesOf (strOfNums (padL (bytesOf key) 54) ++ b))) = D := ⟨_, rfl⟩
    have hD2 : D.size = 32 := by rw [← hD, strOfNums_size', shaL_len]
    have hz2 : ¬ 9223372036854775807 < (strOfNums (padL (bytesOf key) 92)).size + D.size := by rw [strOfNums_size', padL_len _ _ hKb]; omega
    rw [hD]
    have HD := Aside0.mk hD
    have HD2 := Aside0.mk hD2
    clear hD hD2
    go_wp2_with fail
    refine (sha_walk _ _ (HL.out.step HB4.out h2) (Nat.le_trans h2 HB4.out.size) (by simp only [ByteArray.size_append, strOfNums_size', padL_len _ _ hKb, HD2.out]; omega)).mono ?_
    rintro e w5 ⟨rfl, hB5⟩
    have HB5 := Aside0.mk (below_step HB4.out hB5)
    clear hB5
    go_wp2
    go_ret
    refine ⟨?_, HB5.out⟩
    unfold macL
    rw [← HD.out, ← HE.out, bytesOf_append, bytesOf_append, bytesOf_shaL, bytesOf_strOfNums _ (padL_byte _ _ (bytesOf_byte key) (.inl rfl)), bytesOf_strOfNums _ (padL_byte _ _ (bytesOf_byte key) (.inr rfl))]
    rfl
end Go.Proofs.YtdnmllodefbekaaDoor.Sha
