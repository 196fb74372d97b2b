import Derived.Test.YtjehbnhjaogfkaaSc30
namespace Go.Proofs.Ytjehbnhjaogfkaa.Sc
open Go.RowKit Go.Lib Go.Maps Go.WideAt Go.WideShapes Go.Proofs.YtjehbnhjaogfkaaW.PrintWords Go.Proofs.YtjehbnhjaogfkaaW.PrintLast Go.Proofs.YtjehbnhjaogfkaaW.PrintMore
open Go.Proofs.Ytjehbnhjaogfkaa
set_option linter.unusedVariables false
set_option linter.unusedSimpArgs false
def rtext (s : RS) : List UInt8 × RS := rtake (rnum s).2 (rnum s).1
theorem rtake_b (s : RS) (n : Int) : (rtake s n).2.b.length ≤ s.b.length := by
  unfold rtake
  split
  · exact Nat.le_refl _
  · simp only [List.length_drop]; omega
theorem rnum_b (s : RS) : (rnum s).2.b.length ≤ s.b.length := rtake_b s 8
theorem rtext_b (s : RS) : (rtext s).2.b.length ≤ s.b.length := Nat.le_trans (rtake_b _ _) (rnum_b s)
theorem rtext_walk (W : World) (g : Nat) (s : RS) (h : Rd W g s) (hl : s.b.length ≤ 1000000000) :
    Calls Try.prog 77 #[.pointer (some ⟨g, 0, none⟩)] W fun e W' => e = .returned (.string (str (rtext s).1)) ∧ Rd W' g (rtext s).2 ∧ Fr (Only g) W W' := by
  have H := Aside0.mk h
  obtain ⟨n, hn⟩ : ∃ n, (rnum s).1 = n := ⟨_, rfl⟩
  have ht : rtext s = rtake (rnum s).2 n := by unfold rtext; rw [hn]
  have HT := Aside0.mk ht
  have HN := Aside0.mk hn
  have hb := rnum_b s
  clear h ht hn
  go_enter Try.func77, Try.ntmps77
  go_wp2_with (first
    | (go_at_call 103; refine (rnum_walk _ g s H.out hl).mono ?_; rw [HN.out]; rintro e w1 ⟨rfl, h1, hf1⟩; have H1 := Aside0.mk h1; have F1 := Aside0.mk hf1; clear h1 hf1)
    | (go_at_call 102; refine (take_walk _ g _ n H1.out (by omega)).mono ?_; rw [← HT.out]; rintro e w2 ⟨rfl, h2, hf2⟩; have H2 := Aside0.mk h2; have F2 := Aside0.mk (F1.out.trans hf2); clear h2 hf2))
  go_ret
  exact ⟨rfl, H2.out, F2.out⟩
theorem rplace_walk (W : World) (g : Nat) (s : RS) (h : Rd W g s) (hl : s.b.length ≤ 1000000000) :
    Calls Try.prog 79 #[.pointer (some ⟨g, 0, none⟩)] W fun e W' => e = .returned (.int .i64 (rnum s).1) ∧ Rd W' g (rnum s).2 ∧ Fr (Only g) W W' := by
  have H := Aside0.mk h
  clear h
  go_enter Try.func79, Try.ntmps79
  go_wp2_with (go_at_call 103; refine (rnum_walk _ g s H.out hl).mono ?_; rintro e w1 ⟨rfl, h1, hf1⟩; have H1 := Aside0.mk h1; have F1 := Aside0.mk hf1; clear h1 hf1)
  go_ret
  exact ⟨rfl, H1.out, F1.out⟩
/-- A flag. -/
def flagOf (t : List UInt8) (s1 : RS) : Bool × RS :=
  match t with
  | [] => (false, ⟨s1.b, true⟩)
  | c :: _ => if 1 < c.toNat then (false, ⟨s1.b, true⟩) else (decide (c.toNat = 1), s1)
def rflag (s : RS) : Bool × RS := flagOf (rtake s 1).1 (rtake s 1).2
theorem rtake_bad (s : RS) (n : Nat) (hn : 0 < n) : ((rtake s n).1 = [] ∧ (rtake s n).2.bad = true) ∨ ((rtake s n).1.length = n ∧ (rtake s n).2.bad = false) := by
  unfold rtake
  split
  · exact .inl ⟨rfl, rfl⟩
  · next h =>
    refine .inr ⟨?_, ?_⟩
    · simp only [List.length_take, Int.toNat_natCast]; omega
    · cases hb : s.bad <;> simp_all
theorem flagOf_b (t : List UInt8) (s1 : RS) : (flagOf t s1).2.b = s1.b := by
  unfold flagOf
  split
  · rfl
  · split <;> rfl
theorem rflag_b (s : RS) : (rflag s).2.b.length ≤ s.b.length := by
  have := rtake_b s 1
  unfold rflag
  rw [flagOf_b]
  exact this
set_option maxRecDepth 100000 in
theorem rflag_walk (W : World) (g : Nat) (s : RS) (h : Rd W g s) (hl : s.b.length ≤ 1000000000) :
    Calls Try.prog 101 #[.pointer (some ⟨g, 0, none⟩)] W fun e W' => e = .returned (.bool (rflag s).1) ∧ Rd W' g (rflag s).2 ∧ Fr (Only g) W W' := by
  have H := Aside0.mk h
  obtain ⟨t, ht⟩ : ∃ t, (rtake s 1).1 = t := ⟨_, rfl⟩
  obtain ⟨s1, hs1⟩ : ∃ s1, (rtake s 1).2 = s1 := ⟨_, rfl⟩
  have hc := rtake_bad s 1 (by decide)
  have hr : rflag s = flagOf t s1 := by unfold rflag; rw [ht, hs1]
  have e1 : ((1 : Nat) : Int) = 1 := rfl
  rw [e1, ht, hs1] at hc
  have HT := Aside0.mk ht
  have HS := Aside0.mk hs1
  clear h ht hs1
  rcases hc with ⟨rfl, hb⟩ | ⟨hl1, hb⟩
  · rw [hr]
    obtain ⟨b1, bad1⟩ := s1
    simp only at hb
    subst hb
    clear hr
    go_enter Try.func101, Try.ntmps101
    go_wp2_with (go_at_call 102; refine (take_walk _ g s 1 H.out hl).mono ?_; rw [HT.out, HS.out]; rintro e w1 ⟨rfl, h1, hf1⟩; have x1 : w1.cell? ⟨g, 1, none⟩ = some (.bool true) := (blk_cell h1 1).trans rfl; have f1 : w1.frozen? ⟨g, 1, none⟩ = false := blk_frozen h1 1; have H1 := Aside0.mk h1; have F1 := Aside0.mk hf1; have HE := Aside0.mk (show Rd (w1.setCell ⟨g, 1, none⟩ (.bool true)) g ⟨b1, true⟩ from blk_put h1 1 (.bool true) rfl); clear h1 hf1)
    go_ret
    exact ⟨rfl, HE.out, F1.out.trans (fr_set w1 g _ _)⟩
  · obtain ⟨c, rfl⟩ := List.length_eq_one_iff.1 hl1
    obtain ⟨b1, bad1⟩ := s1
    simp only at hb
    subst hb
    have hcl := c.toNat_lt
    have hs0 : str [c] = ⟨#[c]⟩ := rfl
    have hx : ∀ h, ((⟨#[c]⟩ : ByteArray)[0]'h) = c := fun h => rfl
    by_cases hc1 : 1 < c.toNat
    · have hr2 : rflag s = (false, ⟨b1, true⟩) := by rw [hr]; simp [flagOf, hc1]
      rw [hr2]
      have hci : (1 : Int) < (c.toNat : Int) := by omega
      clear hr hr2
      go_enter Try.func101, Try.ntmps101
      go_wp2_with (go_at_call 102; refine (take_walk _ g s 1 H.out hl).mono ?_; rw [HT.out, HS.out]; rintro e w1 ⟨rfl, h1, hf1⟩; have x1 : w1.cell? ⟨g, 1, none⟩ = some (.bool false) := (blk_cell h1 1).trans rfl; have f1 : w1.frozen? ⟨g, 1, none⟩ = false := blk_frozen h1 1; have H1 := Aside0.mk h1; have F1 := Aside0.mk hf1; have HE := Aside0.mk (show Rd (w1.setCell ⟨g, 1, none⟩ (.bool true)) g ⟨b1, true⟩ from blk_put h1 1 (.bool true) rfl); clear h1 hf1)
      go_ret
      exact ⟨rfl, HE.out, F1.out.trans (fr_set w1 g _ _)⟩
    · have hci : ¬ (1 : Int) < (c.toNat : Int) := by omega
      have hr2 : rflag s = (decide (c.toNat = 1), ⟨b1, false⟩) := by rw [hr]; simp [flagOf, hc1]
      rw [hr2]
      rcases (show c.toNat = 0 ∨ c.toNat = 1 by omega) with h01 | h01
      · have h01i : (c.toNat : Int) = 0 := by omega
        rw [h01]
        clear hr hr2
        go_enter Try.func101, Try.ntmps101
        go_wp2_with (go_at_call 102; refine (take_walk _ g s 1 H.out hl).mono ?_; rw [HT.out, HS.out]; rintro e w1 ⟨rfl, h1, hf1⟩; have x1 : w1.cell? ⟨g, 1, none⟩ = some (.bool false) := (blk_cell h1 1).trans rfl; have f1 : w1.frozen? ⟨g, 1, none⟩ = false := blk_frozen h1 1; have H1 := Aside0.mk h1; have F1 := Aside0.mk hf1; have HE := Aside0.mk (show Rd (w1.setCell ⟨g, 1, none⟩ (.bool false)) g ⟨b1, false⟩ from blk_put h1 1 (.bool false) rfl); clear h1 hf1)
        go_ret
        exact ⟨rfl, HE.out, F1.out.trans (fr_set w1 g _ _)⟩
      · have h01i : (c.toNat : Int) = 1 := by omega
        rw [h01]
        clear hr hr2
        go_enter Try.func101, Try.ntmps101
        go_wp2_with (go_at_call 102; refine (take_walk _ g s 1 H.out hl).mono ?_; rw [HT.out, HS.out]; rintro e w1 ⟨rfl, h1, hf1⟩; have x1 : w1.cell? ⟨g, 1, none⟩ = some (.bool false) := (blk_cell h1 1).trans rfl; have f1 : w1.frozen? ⟨g, 1, none⟩ = false := blk_frozen h1 1; have H1 := Aside0.mk h1; have F1 := Aside0.mk hf1; have HE := Aside0.mk (show Rd (w1.setCell ⟨g, 1, none⟩ (.bool false)) g ⟨b1, false⟩ from blk_put h1 1 (.bool false) rfl); clear h1 hf1)
        go_ret
        exact ⟨rfl, HE.out, F1.out.trans (fr_set w1 g _ _)⟩
end Go.Proofs.Ytjehbnhjaogfkaa.Sc
