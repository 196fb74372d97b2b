import Derived.Test.YtdnmllodefbekaaDoorSha17
namespace Go.Proofs.YtdnmllodefbekaaDoor.Sha
open Go.RowKit Go.Lib Go.Proofs.YtdnmllodefbekaaDoorW.PrintWords Go.Proofs.YtdnmllodefbekaaDoorW.PrintLast Go.Proofs.YtdnmllodefbekaaDoorW.PrintMore
set_option linter.unusedVariables false
set_option linter.unusedSimpArgs false
theorem row_not {w W : World} {g1 g2 : Nat} {rv1 rv2 : Value} {st1 rest1 st2 rest2 : List Int} {lg1 lg2 : Int} (h1 : IsH w W g1 rv1 st1 rest1 lg1) (h2 : IsH w W g2 rv2 st2 rest2 lg2) : ∀ k, rv1.ownBlock = some k → k ≠ g2 := fun k hk e => by
  obtain ⟨_, c, hc⟩ := q_typed h1.row k hk
  rw [e, h2.blk] at hc; injection hc with hc; injection hc with _ hc; exact absurd hc (by decide)
/-- A call upon one hash leaves the other. -/
theorem other_kept {w W W1 : World} {g1 g2 : Nat} {rv1 rv2 rv3 : Value} {st1 rest1 st2 rest2 : List Int} {lg1 lg2 : Int} (h1 : IsH w W g1 rv1 st1 rest1 lg1) (h2 : IsH w W g2 rv2 st2 rest2 lg2) (hK : HKept W W1 g1 rv1 rv3) (hg : g1 ≠ g2) (hd : ∀ k, rv1.ownBlock = some k → rv2.ownBlock ≠ some k) :
    IsH w W1 g2 rv2 st2 rest2 lg2 ∧ ∀ k, rv3.ownBlock = some k → rv2.ownBlock ≠ some k := by
  refine ⟨h2.kept hK.1 ?_ ?_, fun k hk hk2 => ?_⟩
  · rintro (e | e)
    · exact hg e.symm
    · exact row_not h1 h2 _ e rfl
  · rintro k hk (e | e)
    · exact row_not h2 h1 k hk e
    · exact hd k e hk
  · rcases hK.2 k hk with h | h
    · exact hd k h hk2
    · have := q_lt h2.row k hk2
      omega
structure Two (w W : World) (g1 g2 : Nat) (all : List Int) : Prop where
  two : ∃ rv1 rv2 st2 rest2 lg2, IsH w W g1 rv1 (stOf all) (restOf all) (IntKind.u64.wrap (all.length : Int)) ∧ IsH w W g2 rv2 st2 rest2 lg2 ∧ rest2.length < 64 ∧ ∀ k, rv1.ownBlock = some k → rv2.ownBlock ≠ some k
  ne : g1 ≠ g2
  below : Below w.heap.size w W
theorem Two.step {w W W1 : World} {g1 g2 : Nat} {all : List Int} (h : Two w W g1 g2 all) (hb : Below W.heap.size W W1) : Two w W1 g1 g2 all := by
  obtain ⟨⟨rv1, rv2, st2, rest2, lg2, a, b, c, d⟩, e, f⟩ := h
  exact ⟨⟨rv1, rv2, st2, rest2, lg2, a.below hb, b.below hb, c, d⟩, e, below_step f hb⟩
set_option maxRecDepth 100000 in
set_option maxHeartbeats 8000000 in
theorem pieces_walk (A : Option Addr) (l : List ByteArray) (c : Nat) (w : World) (h : Kd.C Kd.string w A l.length l) (hc : l.length ≤ c) (hL : Laid w) (h2 : 2 ≤ w.heap.size) :
    Calls Tryd.prog 4 #[.slice A l.length c] w fun e w' => e = .returned (.bool true) ∧ Below w.heap.size w w' := by
  have HC := Aside0.mk h
  have HL := Aside0.mk hL
  clear h hL
  go_enter Tryd.func4, Tryd.ntmps4
  go_wp2_with fail
  refine (works_walk _ HL.out h2).mono ?_
  rintro e w1 ⟨rfl, hB1⟩
  have HB1 := Aside0.mk hB1
  clear hB1
  go_wp2_with fail
  refine (new_walk w w1 (HL.out.step HB1.out h2) HB1.out).mono ?_
  rintro e w2 ⟨rfl, hI2, hb2⟩
  obtain ⟨g1, hg1⟩ : ∃ g1, w1.heap.size = g1 := ⟨_, rfl⟩
  have HB2 := Aside0.mk (below_step HB1.out hb2)
  rw [hg1] at hI2 ⊢
  have HI2 := Aside0.mk hI2
  clear hI2 hb2 hg1
  go_wp2_with fail
  refine (new_walk w w2 (HL.out.step HB2.out h2) HB2.out).mono ?_
  rintro e w3 ⟨rfl, hI3, hb3⟩
  obtain ⟨g2, hg2⟩ : ∃ g2, w2.heap.size = g2 := ⟨_, rfl⟩
  have hT : Two w w3 g1 g2 [] := by
    rw [hg2] at hI3
    exact ⟨⟨_, _, _, _, _, HI2.out.below hb3, hI3, by decide, fun k hk => by cases hk⟩, by have := blk_lt HI2.out.blk; omega, below_step HB2.out hb3⟩
  have HT := Aside0.mk hT
  rw [hg2]
  clear hT hI3 hb3 hg2 HI2 HB2
  go_wp2_with fail
  go_loopg [5, 6] 41 (fun kq v5 v6 w' => ∃ (i : Nat) (all : ByteArray), v6 = .int .i64 (i : Int) ∧ v5 = .string all ∧ Aside0 (i + kq = 41 ∧ i ≤ 40 ∧ all.size ≤ 3000 * i) ∧ Aside0 (Two w w' g1 g2 (bytesOf all)))
  case atStart => exact ⟨0, ⟨#[]⟩, rfl, rfl, ⟨rfl, Nat.zero_le _, Nat.le_refl _⟩, HT⟩
  case round =>
    obtain ⟨i, all, rfl, rfl, HI, HS⟩ := hrel
    clear HT
    obtain ⟨p1, p2, p3⟩ := HI.out
    by_cases q : i < l.length ∧ i < 40
    · obtain ⟨q1, q2⟩ := q
      obtain ⟨kq1, rfl⟩ : ∃ kq1, gk = kq1 + 1 := ⟨gk - 1, by omega⟩
      obtain ⟨ad, rfl, hx⟩ := Kd.at_string (Kd.C_below HC.out HS.out.below) (i : Int) (by omega) (by omega)
      obtain ⟨s, hs⟩ : ∃ s, rdOf ByteArray.empty l (i : Int) = s := ⟨_, rfl⟩
      rw [hs] at hx
      have q1' : (i : Int) < (l.length : Int) := by omega
      have q2' : (i : Int) < 40 := by omega
      have hs' := Aside0.mk hs
      clear p1 p2 p3 q1 q2 hs
      simp only [Int.toNat_natCast] at hx
      by_cases hbig : 3000 < s.size
      · go_wp2_with fail
        go_roundg kq1
        case measure => omega
        case rel => exact ⟨i + 1, all, by simp, rfl, ⟨by have := HI.out; omega, by have := HI.out; omega, by have := HI.out; omega⟩, HS⟩
      · obtain ⟨⟨rv1, rv2, st2, rest2, lg2, hI1, hI2, hr2, hd⟩, hne, hbel⟩ := HS.out
        have hz1 : ¬ 9223372036854775807 < 1 + s.size := by omega
        have hz2 : ¬ 9223372036854775807 < all.size + s.size := by have := HI.out; omega
        have HI1 := Aside0.mk hI1
        have HI2 := Aside0.mk (And.intro hI2 hr2)
        have HD := Aside0.mk (And.intro hd hne)
        have HB := Aside0.mk hbel
        clear hI1 hI2 hd hne hbel hr2 HS
        go_wp2_with fail
        refine (write_walk g1 rv1 _ _ _ s w wr HI1.out HL.out h2 HB.out (by have := rest_lt (bytesOf all); omega) (by omega)).mono ?_
        rintro e w4 ⟨rfl, rv3, hI3, hK3, hB3⟩
        rw [st_cat, rest_cat, ← bytesOf_length s, wrap_cat, ← List.length_append, ← bytesOf_append] at hI3
        obtain ⟨ho, hd3⟩ := other_kept HI1.out HI2.out.1 hK3 HD.out.2 HD.out.1
        obtain ⟨ad4, e4, hx4⟩ := Kd.at_string (Kd.C_below HC.out hB3) (i : Int) (by omega) (by omega)
        obtain rfl := Option.some.inj e4
        rw [hs'.out] at hx4
        simp only [Int.toNat_natCast] at hx4
        have HW := Aside0.mk (And.intro hI3 (And.intro ho (And.intro hd3 hB3)))
        clear hx hI3 ho hd3 hB3 hK3 HI1 HB e4
        go_wp2_with fail
        refine (write_walk g2 rv2 _ _ _ _ w w4 HW.out.2.1 HL.out h2 HW.out.2.2.2 (by have := HI2.out.2; omega) (by rw [ByteArray.size_append]; show 1 + s.size ≤ _; omega)).mono ?_
        rintro e w5 ⟨rfl, rv4, hI4, hK4, hB4⟩
        obtain ⟨ho4, hd4⟩ := other_kept HW.out.2.1 HW.out.1 hK4 (fun e => HD.out.2 e.symm) (fun k hk hk2 => HW.out.2.2.1 k hk2 hk)
        have HW2 := Aside0.mk (And.intro ho4 (And.intro hI4 (And.intro (fun (k : Nat) (hk : rv3.ownBlock = some k) (hk2 : rv4.ownBlock = some k) => hd4 k hk2 hk) hB4)))
        obtain ⟨ad5, e5, hx5⟩ := Kd.at_string (Kd.C_below HC.out hB4) (i : Int) (by omega) (by omega)
        obtain rfl := Option.some.inj e5
        rw [hs'.out] at hx5
        simp only [Int.toNat_natCast] at hx5
        clear hx4 ho4 hI4 hK4 hd4 hB4 HW HI2 e5
        go_wp2_with fail
        refine (sum_walk g1 rv3 _ _ _ w w5 HW2.out.1 (HL.out.step HW2.out.2.2.2 h2) (Nat.le_trans h2 HW2.out.2.2.2.size) (rest_lt _)).mono ?_
        rw [bytesOf_length, ← bytesOf_length, sum_all]
        rintro e w6 ⟨rfl, hB6⟩
        have HB6 := Aside0.mk (below_step HW2.out.2.2.2 hB6)
        have HT6 := Aside0.mk (Two.step ⟨⟨rv3, rv4, _, _, _, HW2.out.1, HW2.out.2.1, absorb_rest _ _ _ (Nat.lt_succ_self _), HW2.out.2.2.1⟩, HD.out.2, HW2.out.2.2.2⟩ hB6)
        obtain ⟨S, hS⟩ : ∃ S, strOfNums (shaL (bytesOf (all ++ s))) = S := ⟨_, rfl⟩
        have hS2 : S.size = 32 := by rw [← hS, strOfNums_size', shaL_len]
        have HS2 := Aside0.mk hS
        rw [hS]
        have hb1 : ((S.size : Int) != 32) = false := by rw [hS2]; rfl
        clear hS hB6 HW2 hx5 hS2
        go_wp2_with fail
        refine (sha_walk _ w6 (HL.out.step HB6.out h2) (Nat.le_trans h2 HB6.out.size) (by rw [ByteArray.size_append]; have := HI.out; omega)).mono ?_
        rw [HS2.out]
        rintro e w7 ⟨rfl, hB7⟩
        have HT7 := Aside0.mk (HT6.out.step hB7)
        clear hB7
        go_wp2_with fail
        go_roundg kq1
        case measure => omega
        case rel => exact ⟨i + 1, all ++ s, by simp, rfl, ⟨by have := HI.out; omega, by have := HI.out; omega, by rw [ByteArray.size_append]; have := HI.out; omega⟩, HT7⟩
    · obtain ⟨⟨rv1, rv2, st2, rest2, lg2, hI1, hI2, hr2, hd⟩, hne, hbel⟩ := HS.out
      have HI1 := Aside0.mk (And.intro hI1 hbel)
      clear hI1 hI2 hr2 hd hne hbel HS
      have q' : ¬ (i < l.length) ∨ ¬ (i < 40) := by omega
      by_cases q1 : i < l.length
      · have q2 : ¬ i < 40 := by omega
        have q1i : (i : Int) < (l.length : Int) := by omega
        have q2i : (40 : Int) ≤ (i : Int) := by omega
        clear p1 p2 p3 q q' q1 q2
        go_wp2_with fail
        refine (sum_walk g1 rv1 _ _ _ w wr HI1.out.1 (HL.out.step HI1.out.2 h2) (Nat.le_trans h2 HI1.out.2.size) (rest_lt _)).mono ?_
        rw [sum_all]
        rintro e w6 ⟨rfl, hB6⟩
        have HB6 := Aside0.mk (below_step HI1.out.2 hB6)
        clear hB6
        go_wp2_with fail
        refine (sha_walk all w6 (HL.out.step HB6.out h2) (Nat.le_trans h2 HB6.out.size) (by have := HI.out; omega)).mono ?_
        rintro e w7 ⟨rfl, hB7⟩
        have HB7 := Aside0.mk (below_step HB6.out hB7)
        clear hB7
        go_wp2
        go_ret
        exact ⟨rfl, HB7.out⟩
      · have q1i : (l.length : Int) ≤ (i : Int) := by omega
        clear p1 p2 p3 q q' q1
        go_wp2_with fail
        refine (sum_walk g1 rv1 _ _ _ w wr HI1.out.1 (HL.out.step HI1.out.2 h2) (Nat.le_trans h2 HI1.out.2.size) (rest_lt _)).mono ?_
        rw [sum_all]
        rintro e w6 ⟨rfl, hB6⟩
        have HB6 := Aside0.mk (below_step HI1.out.2 hB6)
        clear hB6
        go_wp2_with fail
        refine (sha_walk all w6 (HL.out.step HB6.out h2) (Nat.le_trans h2 HB6.out.size) (by have := HI.out; omega)).mono ?_
        rintro e w7 ⟨rfl, hB7⟩
        have HB7 := Aside0.mk (below_step HB6.out hB7)
        clear hB7
        go_wp2
        go_ret
        exact ⟨rfl, HB7.out⟩
end Go.Proofs.YtdnmllodefbekaaDoor.Sha
