/- Mb: the texts Sc30, Sc31, Sc32, Sc33, Sc34, Sc35, Sc36, one behind the other. -/
import Derived.Test.YtjehbnhjaogfkaaSc18
import Derived.Test.YtjehbnhjaogfkaaSc4
import Derived.Test.YtjehbnhjaogfkaaSc19
section
namespace Go.Proofs.Ytjehbnhjaogfkaa.Sc
open Go.RowKit Go.Lib Go.Maps Go.WideAt Go.WideShapes Go.Proofs.YtjehbnhjaogfkaaW.PrintWords Go.Proofs.YtjehbnhjaogfkaaW.PrintLast Go.Proofs.YtjehbnhjaogfkaaW.PrintMore
open Go.Proofs.Ytjehbnhjaogfkaa
set_option linter.unusedVariables false
set_option linter.unusedSimpArgs false
/-! The reader, plainly: what is left, and whether it is bad. -/
structure RS where
  b : List UInt8
  bad : Bool
def str (l : List UInt8) : ByteArray := ⟨l.toArray⟩
theorem str_list (l : List UInt8) : (str l).data.toList = l := rfl
theorem str_size (l : List UInt8) : (str l).size = l.length := by show l.toArray.size = l.length; simp
def rtake (s : RS) (n : Int) : List UInt8 × RS := if s.bad = true ∨ n < 0 ∨ (s.b.length : Int) < n then ([], ⟨s.b, true⟩) else (s.b.take n.toNat, ⟨s.b.drop n.toNat, s.bad⟩)
/-- The reader at block g. -/
def Rd (W : World) (g : Nat) (s : RS) : Prop := W.heap[g]? = some (.cells #[.string (str s.b), .bool s.bad] 107 (0, 0))
abbrev Only (g : Nat) : Nat → Prop := fun k => k = g
theorem ext_take (l : List UInt8) (n : Nat) : (str l).extract 0 n = str (l.take n) := by
  apply ba_ext
  simp [str, ByteArray.data_extract]
theorem ext_drop (l : List UInt8) (n : Nat) : (str l).extract n l.length = str (l.drop n) := by
  apply ba_ext
  simp [str, ByteArray.data_extract]
  rw [List.take_of_length_le (by simp)]
theorem fr_set (W : World) (g i : Nat) (v : Value) : Fr (Only g) W (W.setCell ⟨g, i, none⟩ v) := (Fr.refl (Only g) W).set (.inl rfl) v
theorem take_walk (W : World) (g : Nat) (s : RS) (n : Int) (h : Rd W g s) (hl : s.b.length ≤ 1000000000) :
    Calls Try.prog 102 #[.pointer (some ⟨g, 0, none⟩), .int .i64 n] W fun e W' => e = .returned (.string (str (rtake s n).1)) ∧ Rd W' g (rtake s n).2 ∧ Fr (Only g) W W' := by
  obtain ⟨b, bad⟩ := s
  have c0 : W.cell? ⟨g, 0, none⟩ = some (.string (str b)) := (blk_cell h 0).trans rfl
  have c1 : W.cell? ⟨g, 1, none⟩ = some (.bool bad) := (blk_cell h 1).trans rfl
  have f0 : W.frozen? ⟨g, 0, none⟩ = false := blk_frozen h 0
  have f1 : W.frozen? ⟨g, 1, none⟩ = false := blk_frozen h 1
  have hsz := str_size b
  have H := Aside0.mk h
  clear h
  simp only at hl
  by_cases hc : bad = true ∨ n < 0 ∨ (b.length : Int) < n
  · have e : rtake ⟨b, bad⟩ n = ([], ⟨b, true⟩) := if_pos hc
    rw [e]
    have HE := Aside0.mk (show Rd (W.setCell ⟨g, 1, none⟩ (.bool true)) g ⟨b, true⟩ from blk_put H.out 1 (.bool true) rfl)
    rcases hc with rfl | hc | hc
    · go_enter Try.func102, Try.ntmps102
      go_wp2_with fail
      go_ret
      exact ⟨rfl, HE.out, fr_set W g _ _⟩
    · cases bad with
      | true =>
        go_enter Try.func102, Try.ntmps102
        go_wp2_with fail
        go_ret
        exact ⟨rfl, HE.out, fr_set W g _ _⟩
      | false =>
        go_enter Try.func102, Try.ntmps102
        go_wp2_with fail
        go_ret
        exact ⟨rfl, HE.out, fr_set W g _ _⟩
    · cases bad with
      | true =>
        go_enter Try.func102, Try.ntmps102
        go_wp2_with fail
        go_ret
        exact ⟨rfl, HE.out, fr_set W g _ _⟩
      | false =>
        have hc0 : ¬ n < 0 := by omega
        go_enter Try.func102, Try.ntmps102
        go_wp2_with fail
        go_ret
        exact ⟨rfl, HE.out, fr_set W g _ _⟩
  · have e : rtake ⟨b, bad⟩ n = (b.take n.toNat, ⟨b.drop n.toNat, bad⟩) := if_neg hc
    rw [e]
    have hb : bad = false := by cases bad <;> simp_all
    subst hb
    obtain ⟨k, rfl⟩ := Int.eq_ofNat_of_zero_le (show 0 ≤ n by omega)
    have hk : k ≤ b.length := by omega
    have hc1 : ¬ (k : Int) < 0 := by omega
    have hc2 : ¬ (b.length : Int) < (k : Int) := by omega
    have HE := Aside0.mk (show Rd (W.setCell ⟨g, 0, none⟩ (.string (str (b.drop k)))) g ⟨b.drop k, false⟩ from blk_put H.out 0 (.string (str (b.drop k))) rfl)
    have HT := Aside0.mk (ext_take b k)
    have HD := Aside0.mk (ext_drop b k)
    clear hc e
    go_enter Try.func102, Try.ntmps102
    go_wp2_with fail
    rw [HT.out, HD.out]
    go_ret
    exact ⟨rfl, HE.out, fr_set W g _ _⟩
/-! Numbers. -/
def fromle : List UInt8 → Int
  | [] => 0
  | c :: r => (c.toNat : Int) + 256 * fromle r
def toI (u : Int) : Int := wrap64 u
def rnum (s : RS) : Int × RS := (toI (fromle (rtake s 8).1), (rtake s 8).2)
theorem rtake_len (s : RS) (n : Nat) : (rtake s n).1.length ≤ n := by
  unfold rtake
  split
  · simp
  · simp only [List.length_take, Int.toNat_natCast]; omega
theorem fromle_nn (l : List UInt8) : 0 ≤ fromle l ∧ fromle l < 256 ^ l.length := by
  induction l with
  | nil => exact ⟨Int.le_refl _, by decide⟩
  | cons c r ih =>
    have hc := c.toNat_lt
    rw [fromle, List.length_cons, Int.pow_succ]
    omega
theorem fromle_app (a b : List UInt8) : fromle (a ++ b) = fromle a + 256 ^ a.length * fromle b := by
  induction a with
  | nil => simp [fromle]
  | cons c r ih => rw [List.cons_append, fromle, fromle, ih, List.length_cons, Int.pow_succ, Int.mul_add, ← Int.add_assoc, ← Int.mul_assoc, Int.mul_comm 256 (256 ^ r.length)]
theorem fromle_take (l : List UInt8) (i : Nat) (h : i < l.length) : fromle (l.take (i + 1)) = fromle (l.take i) + 256 ^ i * ((l[i]).toNat : Int) := by
  rw [List.take_succ_eq_append_getElem h, fromle_app, List.length_take, Nat.min_eq_left (by omega)]
  simp [fromle]
theorem u64_w (n : Int) (h0 : 0 ≤ n) (h1 : n < 2 ^ 64) : IntKind.u64.wrap n = n := by rw [IntKind.wrap_u64]; omega
theorem or_shift (a : Int) (c : UInt8) (i : Nat) (h0 : 0 ≤ a) (h1 : a < 256 ^ i) (hi : i < 8) : bits .or .u64 a (IntKind.u64.wrap (IntKind.u64.wrap (c.toNat : Int) * 2 ^ (8 * i))) = a + 256 ^ i * (c.toNat : Int) := by
  obtain ⟨x, rfl⟩ := Int.eq_ofNat_of_zero_le h0
  have hc := c.toNat_lt
  have e1 : (256 : Int) ^ i = ((2 ^ (8 * i) : Nat) : Int) := by rw [show (256 : Int) = ((2 ^ 8 : Nat) : Int) from rfl, Nat.pow_mul, Int.natCast_pow (2 ^ 8) i]
  have hx : x < 2 ^ (8 * i) := by rw [e1] at h1; exact_mod_cast h1
  have hp : 2 ^ (8 * i) * 256 ≤ 2 ^ 64 := by
    have : 2 ^ (8 * i) * 256 = 2 ^ (8 * i + 8) := by rw [Nat.pow_add]
    rw [this]
    exact Nat.pow_le_pow_right (by decide) (by omega)
  have hcp : 2 ^ (8 * i) * c.toNat < 2 ^ 64 := Nat.lt_of_lt_of_le (Nat.mul_lt_mul_of_pos_left hc (Nat.two_pow_pos _)) hp
  have hxl : x < 2 ^ 64 := Nat.lt_of_lt_of_le hx (Nat.le_trans (Nat.le_mul_of_pos_right _ (by decide)) hp)
  have e2 : IntKind.u64.wrap (IntKind.u64.wrap (c.toNat : Int) * 2 ^ (8 * i)) = ((2 ^ (8 * i) * c.toNat : Nat) : Int) := by
    have h3 : IntKind.u64.wrap (c.toNat : Int) = (c.toNat : Int) := u64_w _ (by omega) (by omega)
    have h4 : (c.toNat : Int) * 2 ^ (8 * i) = ((2 ^ (8 * i) * c.toNat : Nat) : Int) := by rw [Int.natCast_mul, Int.natCast_pow, Int.mul_comm]; rfl
    rw [h3, h4]
    exact u64_w _ (by omega) (by exact_mod_cast hcp)
  rw [e2, (bits_nat .u64 64 (by decide) u64_w x _ hxl hcp).2, Nat.or_comm, ← Nat.two_pow_add_eq_or_of_lt hx, e1]
  rw [Int.natCast_add, Int.natCast_mul, Int.add_comm]
set_option maxRecDepth 100000 in
set_option maxHeartbeats 4000000 in
theorem rnum_walk (W : World) (g : Nat) (s : RS) (h : Rd W g s) (hl : s.b.length ≤ 1000000000) :
    Calls Try.prog 103 #[.pointer (some ⟨g, 0, none⟩)] W fun e W' => e = .returned (.int .i64 (rnum s).1) ∧ Rd W' g (rnum s).2 ∧ Fr (Only g) W W' := by
  have H := Aside0.mk h
  clear h
  obtain ⟨t, ht⟩ : ∃ t, (rtake s 8).1 = t := ⟨_, rfl⟩
  have hsz := str_size t
  have htl : t.length ≤ 8 := by rw [← ht]; exact rtake_len s 8
  have HT := Aside0.mk ht
  clear ht
  go_enter Try.func103, Try.ntmps103
  go_wp2_with (go_at_call 102; refine (take_walk _ g s 8 H.out hl).mono ?_; rw [HT.out]; rintro e w1 ⟨rfl, h1, hf1⟩; have hcv := Lib.run_convert_string_bytes w1 9 74 5 (str t) Try.underlying9 Try.underlying74 Try.underlying5; have H1 := Aside0.mk h1; have F1 := Aside0.mk hf1; clear h1 hf1)
  clear hcv
  have HB := Aside0.mk (bytes_below (Below.refl w1.heap.size w1) (Nat.le_refl _) 5 (str t))
  have HC := Aside0.mk (fun j hj => Lib.bytesWorld_cell w1 5 (str t) j hj)
  generalize Lib.bytesWorld w1 5 (str t) = w2 at *
  go_loopg [3, 10] (t.length + 1) (fun kq v3 v10 w' => ∃ i : Nat, v10 = .int .i64 (i : Int) ∧ v3 = .int .u64 (fromle (t.take i)) ∧ Aside0 (i + kq = t.length + 1 ∧ i ≤ t.length) ∧ w' = w2)
  case atStart => exact ⟨0, rfl, rfl, ⟨by omega, Nat.zero_le _⟩, rfl⟩
  case round =>
    obtain ⟨i, rfl, rfl, HJ, rfl⟩ := hrel
    by_cases hi : i < t.length
    · obtain ⟨kq1, rfl⟩ : ∃ kq1, gk = kq1 + 1 := ⟨gk - 1, by have := HJ.out; omega⟩
      have hii : (i : Int) < (t.length : Int) := by omega
      have x0 : wr.cell? ⟨w1.heap.size, i, none⟩ = some (.int .u8 ((t[i]).toNat : Int)) := by
        have h := HC.out i (by rw [hsz]; exact hi)
        rw [str_list, List.getD_eq_getElem?_getD, List.getElem?_eq_getElem hi] at h
        exact h
      obtain ⟨c, hc⟩ : ∃ c, t[i] = c := ⟨_, rfl⟩
      rw [hc] at x0
      obtain ⟨a, ha⟩ : ∃ a, fromle (t.take i) = a := ⟨_, rfl⟩
      rw [ha]
      have hor := or_shift a c i (by rw [← ha]; exact (fromle_nn _).1) (by rw [← ha]; have h := (fromle_nn (t.take i)).2; rwa [List.length_take, Nat.min_eq_left (by omega)] at h) (by omega)
      have hnx : fromle (t.take (i + 1)) = a + 256 ^ i * (c.toNat : Int) := by rw [fromle_take t i hi, ha, hc]
      have HN := Aside0.mk hnx
      have HI := Aside0.mk hi
      have HO := Aside0.mk hor
      clear hnx hi hor ha hc
      go_wp2_with fail
      go_roundg kq1
      case measure => have := HJ.out; omega
      case rel => exact ⟨i + 1, by go_num, by rw [HN.out, ← HO.out], ⟨by have := HJ.out; omega, by have := HI.out; omega⟩, rfl⟩
    · have hii : ¬ (i : Int) < (t.length : Int) := by omega
      have hil : i = t.length := by have := HJ.out; omega
      subst hil
      rw [List.take_length]
      go_wp2_with fail
      have hr : rnum s = (toI (fromle t), (rtake s 8).2) := by unfold rnum; rw [HT.out]
      have HRn := Aside0.mk hr
      clear hr
      go_ret
      rw [HRn.out]
      exact ⟨rfl, blk_below H1.out HB.out, F1.out.trans (Fr.of_below HB.out)⟩
end Go.Proofs.Ytjehbnhjaogfkaa.Sc
end

section
namespace Go.Proofs.Ytjehbnhjaogfkaa.Sc
open Go.RowKit Go.Lib Go.Maps Go.WideAt Go.WideShapes Go.Proofs.YtjehbnhjaogfkaaW.PrintWords Go.Proofs.YtjehbnhjaogfkaaW.PrintLast Go.Proofs.YtjehbnhjaogfkaaW.PrintMore
open Go.Proofs.Ytjehbnhjaogfkaa
set_option linter.unusedVariables false
set_option linter.unusedSimpArgs false
def rtext (s : RS) : List UInt8 × RS := rtake (rnum s).2 (rnum s).1
theorem rtake_b (s : RS) (n : Int) : (rtake s n).2.b.length ≤ s.b.length := by
  unfold rtake
  split
  · exact Nat.le_refl _
  · simp only [List.length_drop]; omega
theorem rnum_b (s : RS) : (rnum s).2.b.length ≤ s.b.length := rtake_b s 8
theorem rtext_b (s : RS) : (rtext s).2.b.length ≤ s.b.length := Nat.le_trans (rtake_b _ _) (rnum_b s)
theorem rtext_walk (W : World) (g : Nat) (s : RS) (h : Rd W g s) (hl : s.b.length ≤ 1000000000) :
    Calls Try.prog 77 #[.pointer (some ⟨g, 0, none⟩)] W fun e W' => e = .returned (.string (str (rtext s).1)) ∧ Rd W' g (rtext s).2 ∧ Fr (Only g) W W' := by
  have H := Aside0.mk h
  obtain ⟨n, hn⟩ : ∃ n, (rnum s).1 = n := ⟨_, rfl⟩
  have ht : rtext s = rtake (rnum s).2 n := by unfold rtext; rw [hn]
  have HT := Aside0.mk ht
  have HN := Aside0.mk hn
  have hb := rnum_b s
  clear h ht hn
  go_enter Try.func77, Try.ntmps77
  go_wp2_with (first
    | (go_at_call 103; refine (rnum_walk _ g s H.out hl).mono ?_; rw [HN.out]; rintro e w1 ⟨rfl, h1, hf1⟩; have H1 := Aside0.mk h1; have F1 := Aside0.mk hf1; clear h1 hf1)
    | (go_at_call 102; refine (take_walk _ g _ n H1.out (by omega)).mono ?_; rw [← HT.out]; rintro e w2 ⟨rfl, h2, hf2⟩; have H2 := Aside0.mk h2; have F2 := Aside0.mk (F1.out.trans hf2); clear h2 hf2))
  go_ret
  exact ⟨rfl, H2.out, F2.out⟩
theorem rplace_walk (W : World) (g : Nat) (s : RS) (h : Rd W g s) (hl : s.b.length ≤ 1000000000) :
    Calls Try.prog 79 #[.pointer (some ⟨g, 0, none⟩)] W fun e W' => e = .returned (.int .i64 (rnum s).1) ∧ Rd W' g (rnum s).2 ∧ Fr (Only g) W W' := by
  have H := Aside0.mk h
  clear h
  go_enter Try.func79, Try.ntmps79
  go_wp2_with (go_at_call 103; refine (rnum_walk _ g s H.out hl).mono ?_; rintro e w1 ⟨rfl, h1, hf1⟩; have H1 := Aside0.mk h1; have F1 := Aside0.mk hf1; clear h1 hf1)
  go_ret
  exact ⟨rfl, H1.out, F1.out⟩
/-- A flag. -/
def flagOf (t : List UInt8) (s1 : RS) : Bool × RS :=
  match t with
  | [] => (false, ⟨s1.b, true⟩)
  | c :: _ => if 1 < c.toNat then (false, ⟨s1.b, true⟩) else (decide (c.toNat = 1), s1)
def rflag (s : RS) : Bool × RS := flagOf (rtake s 1).1 (rtake s 1).2
theorem rtake_bad (s : RS) (n : Nat) (hn : 0 < n) : ((rtake s n).1 = [] ∧ (rtake s n).2.bad = true) ∨ ((rtake s n).1.length = n ∧ (rtake s n).2.bad = false) := by
  unfold rtake
  split
  · exact .inl ⟨rfl, rfl⟩
  · next h =>
    refine .inr ⟨?_, ?_⟩
    · simp only [List.length_take, Int.toNat_natCast]; omega
    · cases hb : s.bad <;> simp_all
theorem flagOf_b (t : List UInt8) (s1 : RS) : (flagOf t s1).2.b = s1.b := by
  unfold flagOf
  split
  · rfl
  · split <;> rfl
theorem rflag_b (s : RS) : (rflag s).2.b.length ≤ s.b.length := by
  have := rtake_b s 1
  unfold rflag
  rw [flagOf_b]
  exact this
set_option maxRecDepth 100000 in
theorem rflag_walk (W : World) (g : Nat) (s : RS) (h : Rd W g s) (hl : s.b.length ≤ 1000000000) :
    Calls Try.prog 101 #[.pointer (some ⟨g, 0, none⟩)] W fun e W' => e = .returned (.bool (rflag s).1) ∧ Rd W' g (rflag s).2 ∧ Fr (Only g) W W' := by
  have H := Aside0.mk h
  obtain ⟨t, ht⟩ : ∃ t, (rtake s 1).1 = t := ⟨_, rfl⟩
  obtain ⟨s1, hs1⟩ : ∃ s1, (rtake s 1).2 = s1 := ⟨_, rfl⟩
  have hc := rtake_bad s 1 (by decide)
  have hr : rflag s = flagOf t s1 := by unfold rflag; rw [ht, hs1]
  have e1 : ((1 : Nat) : Int) = 1 := rfl
  rw [e1, ht, hs1] at hc
  have HT := Aside0.mk ht
  have HS := Aside0.mk hs1
  clear h ht hs1
  rcases hc with ⟨rfl, hb⟩ | ⟨hl1, hb⟩
  · rw [hr]
    obtain ⟨b1, bad1⟩ := s1
    simp only at hb
    subst hb
    clear hr
    go_enter Try.func101, Try.ntmps101
    go_wp2_with (go_at_call 102; refine (take_walk _ g s 1 H.out hl).mono ?_; rw [HT.out, HS.out]; rintro e w1 ⟨rfl, h1, hf1⟩; have x1 : w1.cell? ⟨g, 1, none⟩ = some (.bool true) := (blk_cell h1 1).trans rfl; have f1 : w1.frozen? ⟨g, 1, none⟩ = false := blk_frozen h1 1; have H1 := Aside0.mk h1; have F1 := Aside0.mk hf1; have HE := Aside0.mk (show Rd (w1.setCell ⟨g, 1, none⟩ (.bool true)) g ⟨b1, true⟩ from blk_put h1 1 (.bool true) rfl); clear h1 hf1)
    go_ret
    exact ⟨rfl, HE.out, F1.out.trans (fr_set w1 g _ _)⟩
  · obtain ⟨c, rfl⟩ := List.length_eq_one_iff.1 hl1
    obtain ⟨b1, bad1⟩ := s1
    simp only at hb
    subst hb
    have hcl := c.toNat_lt
    have hs0 : str [c] = ⟨#[c]⟩ := rfl
    have hx : ∀ h, ((⟨#[c]⟩ : ByteArray)[0]'h) = c := fun h => rfl
    by_cases hc1 : 1 < c.toNat
    · have hr2 : rflag s = (false, ⟨b1, true⟩) := by rw [hr]; simp [flagOf, hc1]
      rw [hr2]
      have hci : (1 : Int) < (c.toNat : Int) := by omega
      clear hr hr2
      go_enter Try.func101, Try.ntmps101
      go_wp2_with (go_at_call 102; refine (take_walk _ g s 1 H.out hl).mono ?_; rw [HT.out, HS.out]; rintro e w1 ⟨rfl, h1, hf1⟩; have x1 : w1.cell? ⟨g, 1, none⟩ = some (.bool false) := (blk_cell h1 1).trans rfl; have f1 : w1.frozen? ⟨g, 1, none⟩ = false := blk_frozen h1 1; have H1 := Aside0.mk h1; have F1 := Aside0.mk hf1; have HE := Aside0.mk (show Rd (w1.setCell ⟨g, 1, none⟩ (.bool true)) g ⟨b1, true⟩ from blk_put h1 1 (.bool true) rfl); clear h1 hf1)
      go_ret
      exact ⟨rfl, HE.out, F1.out.trans (fr_set w1 g _ _)⟩
    · have hci : ¬ (1 : Int) < (c.toNat : Int) := by omega
      have hr2 : rflag s = (decide (c.toNat = 1), ⟨b1, false⟩) := by rw [hr]; simp [flagOf, hc1]
      rw [hr2]
      rcases (show c.toNat = 0 ∨ c.toNat = 1 by omega) with h01 | h01
      · have h01i : (c.toNat : Int) = 0 := by omega
        rw [h01]
        clear hr hr2
        go_enter Try.func101, Try.ntmps101
        go_wp2_with (go_at_call 102; refine (take_walk _ g s 1 H.out hl).mono ?_; rw [HT.out, HS.out]; rintro e w1 ⟨rfl, h1, hf1⟩; have x1 : w1.cell? ⟨g, 1, none⟩ = some (.bool false) := (blk_cell h1 1).trans rfl; have f1 : w1.frozen? ⟨g, 1, none⟩ = false := blk_frozen h1 1; have H1 := Aside0.mk h1; have F1 := Aside0.mk hf1; have HE := Aside0.mk (show Rd (w1.setCell ⟨g, 1, none⟩ (.bool false)) g ⟨b1, false⟩ from blk_put h1 1 (.bool false) rfl); clear h1 hf1)
        go_ret
        exact ⟨rfl, HE.out, F1.out.trans (fr_set w1 g _ _)⟩
      · have h01i : (c.toNat : Int) = 1 := by omega
        rw [h01]
        clear hr hr2
        go_enter Try.func101, Try.ntmps101
        go_wp2_with (go_at_call 102; refine (take_walk _ g s 1 H.out hl).mono ?_; rw [HT.out, HS.out]; rintro e w1 ⟨rfl, h1, hf1⟩; have x1 : w1.cell? ⟨g, 1, none⟩ = some (.bool false) := (blk_cell h1 1).trans rfl; have f1 : w1.frozen? ⟨g, 1, none⟩ = false := blk_frozen h1 1; have H1 := Aside0.mk h1; have F1 := Aside0.mk hf1; have HE := Aside0.mk (show Rd (w1.setCell ⟨g, 1, none⟩ (.bool false)) g ⟨b1, false⟩ from blk_put h1 1 (.bool false) rfl); clear h1 hf1)
        go_ret
        exact ⟨rfl, HE.out, F1.out.trans (fr_set w1 g _ _)⟩
end Go.Proofs.Ytjehbnhjaogfkaa.Sc
end

section
namespace Go.Proofs.Ytjehbnhjaogfkaa.Sc
open Go.RowKit Go.Lib Go.Maps Go.WideAt Go.WideShapes Go.Proofs.YtjehbnhjaogfkaaW.PrintWords Go.Proofs.YtjehbnhjaogfkaaW.PrintLast Go.Proofs.YtjehbnhjaogfkaaW.PrintMore
open Go.Proofs.Ytjehbnhjaogfkaa
set_option linter.unusedVariables false
set_option linter.unusedSimpArgs false
theorem Rd.lt {W : World} {g : Nat} {s : RS} (h : Rd W g s) : g < W.heap.size := blk_lt h
theorem Rd.below {W W1 : World} {g : Nat} {s : RS} (h : Rd W g s) (hb : Below W.heap.size W W1) : Rd W1 g s := blk_below h hb
theorem Rd.far {W : World} {g : Nat} {s : RS} (h : Rd W g s) {p : Addr} (hp : p.block ≠ g) (v : Value) : Rd (W.setCell p v) g s := (Below.heap_setCell W p v g (fun e => hp e.symm)).trans h
def rcol (s : RS) : Col × RS := (⟨str (rtext s).1, (rnum (rtext s).2).1⟩, (rnum (rtext s).2).2)
theorem rcol_b (s : RS) : (rcol s).2.b.length ≤ s.b.length := Nat.le_trans (rnum_b _) (rtext_b s)
theorem blk_set {w : World} {q t : Nat} {cs : Array Value} (h : w.heap[q]? = some (.cells cs t (0, 0))) (i : Nat) (v : Value) (hi : i < cs.size) : (w.setCell ⟨q, i, none⟩ v).heap[q]? = some (.cells (cs.setIfInBounds i v) t (0, 0)) := blk_put h i v rfl
set_option maxRecDepth 100000 in
set_option maxHeartbeats 2000000 in
theorem rcol_walk (W : World) (g : Nat) (s : RS) (h : Rd W g s) (hl : s.b.length ≤ 1000000000) :
    Calls Try.prog 75 #[.pointer (some ⟨g, 0, none⟩)] W fun e W' => e = .returned (.agg #[.string (rcol s).1.nm, .int .i64 (rcol s).1.kd]) ∧ Rd W' g (rcol s).2 ∧ Fr (Only g) W W' := by
  obtain ⟨q, hq⟩ : ∃ q, W.heap.size = q := ⟨_, rfl⟩
  have hgq : g ≠ q := by have := h.lt; omega
  have H := Aside0.mk (h.below (below_alloc (Below.refl _ W) (.cells #[.string ⟨#[]⟩, .int .i64 0] 32)))
  have HF := Aside0.mk ((Fr.refl (Only g) W).alloc (.cells #[.string ⟨#[]⟩, .int .i64 0] 32))
  have HBx := Aside0.mk (show (W.alloc (.cells #[.string ⟨#[]⟩, .int .i64 0] 32)).heap[q]? = some (.cells #[.string ⟨#[]⟩, .int .i64 0] 32 (0, 0)) from hq ▸ heap_alloc_new W _)
  have HQ := Aside0.mk hq
  obtain ⟨nm, hnm⟩ : ∃ nm, (rtext s).1 = nm := ⟨_, rfl⟩
  obtain ⟨s1, hs1⟩ : ∃ s1, (rtext s).2 = s1 := ⟨_, rfl⟩
  have hb1 := rtext_b s
  rw [hs1] at hb1
  have HE := Aside0.mk (show rcol s = (⟨str nm, (rnum s1).1⟩, (rnum s1).2) by unfold rcol; rw [hnm, hs1])
  rw [HE.out]
  have HN := Aside0.mk hnm
  have HS := Aside0.mk hs1
  clear h hnm hs1
  go_enter Try.func75, Try.ntmps75
  go_wp2_with fail
  clear hq
  have HL := Aside0.mk (blk_lt HBx.out)
  generalize W.alloc (.cells #[.string ⟨#[]⟩, .int .i64 0] 32) = w0 at *
  refine (rtext_walk w0 g s H.out hl).mono ?_
  rw [HN.out, HS.out]
  rintro e w1 ⟨rfl, h1, hf1⟩
  have hb2 : w1.heap[q]? = some (.cells #[.string ⟨#[]⟩, .int .i64 0] 32 (0, 0)) := (hf1.block q HL.out fun e => hgq e.symm).trans HBx.out
  have c0 := (blk_cell hb2 0).trans (show _ = some (Value.string ⟨#[]⟩) from rfl)
  have f0 := blk_frozen hb2 0
  have H1 := Aside0.mk (h1.far (p := ⟨q, 0, none⟩) (fun e => hgq e.symm) (.string (str nm)))
  have HB1 := Aside0.mk (show (w1.setCell ⟨q, 0, none⟩ (.string (str nm))).heap[q]? = some (.cells #[.string (str nm), .int .i64 0] 32 (0, 0)) from blk_put hb2 0 _ rfl)
  have HF1 := Aside0.mk ((HF.out.trans hf1).set (p := ⟨q, 0, none⟩) (.inr (Nat.le_of_eq HQ.out)) (.string (str nm)))
  clear h1 hf1 hb2
  go_wp2_with fail
  clear c0 f0
  generalize w1.setCell ⟨q, 0, none⟩ (.string (str nm)) = w2 at *
  refine (rplace_walk w2 g s1 H1.out (by omega)).mono ?_
  obtain ⟨k, hk⟩ : ∃ k, (rnum s1).1 = k := ⟨_, rfl⟩
  obtain ⟨s2, hs2⟩ : ∃ s2, (rnum s1).2 = s2 := ⟨_, rfl⟩
  rw [hk, hs2]
  have HK := Aside0.mk hk
  have HS2 := Aside0.mk hs2
  rintro e w3 ⟨rfl, h3, hf3⟩
  have hb4 : w3.heap[q]? = some (.cells #[.string (str nm), .int .i64 0] 32 (0, 0)) := (hf3.block q (blk_lt HB1.out) fun e => hgq e.symm).trans HB1.out
  have c0 := (blk_cell hb4 0).trans (show _ = some (Value.string (str nm)) from rfl)
  have c1 := (blk_cell hb4 1).trans (show _ = some (Value.int .i64 0) from rfl)
  have f0 := blk_frozen hb4 0
  have f1 := blk_frozen hb4 1
  have hb5 : (w3.setCell ⟨q, 1, none⟩ (.int .i64 k)).heap[q]? = some (.cells #[.string (str nm), .int .i64 k] 32 (0, 0)) := blk_put hb4 1 _ rfl
  have hb6 : ((w3.setCell ⟨q, 1, none⟩ (.int .i64 k)).setCell ⟨q, 0, none⟩ (.string (str nm))).heap[q]? = some (.cells #[.string (str nm), .int .i64 k] 32 (0, 0)) := blk_put hb5 0 _ rfl
  have hb7 : (((w3.setCell ⟨q, 1, none⟩ (.int .i64 k)).setCell ⟨q, 0, none⟩ (.string (str nm))).setCell ⟨q, 1, none⟩ (.int .i64 k)).heap[q]? = some (.cells #[.string (str nm), .int .i64 k] 32 (0, 0)) := blk_put hb6 1 _ rfl
  have HZ := Aside0.mk hb7
  have H7 := Aside0.mk (((h3.far (p := ⟨q, 1, none⟩) (fun e => hgq e.symm) (.int .i64 k)).far (p := ⟨q, 0, none⟩) (fun e => hgq e.symm) (.string (str nm))).far (p := ⟨q, 1, none⟩) (fun e => hgq e.symm) (.int .i64 k))
  have hle : W.heap.size ≤ q := Nat.le_of_eq HQ.out
  have HF7 := Aside0.mk ((((HF1.out.trans hf3).set (p := ⟨q, 1, none⟩) (.inr hle) (.int .i64 k)).set (p := ⟨q, 0, none⟩) (.inr hle) (.string (str nm))).set (p := ⟨q, 1, none⟩) (.inr hle) (.int .i64 k))
  clear h3 hf3 hb4 hb5 hb6 hb7 hk hs2
  go_wp2_with fail
  clear c0 c1 f0 f1
  generalize ((w3.setCell ⟨q, 1, none⟩ (.int .i64 k)).setCell ⟨q, 0, none⟩ (.string (str nm))).setCell ⟨q, 1, none⟩ (.int .i64 k) = w8 at *
  have z0 := (blk_cell HZ.out 0).trans (show _ = some (Value.string (str nm)) from rfl)
  have z1 := (blk_cell HZ.out 1).trans (show _ = some (Value.int .i64 k) from rfl)
  refine bodyPost_ret (v := .agg #[.string (str nm), .int .i64 k]) (by first | (go_simp; done) | (simp [results, Try.f75, go_sem, z0, z1]; done) | (simp [results, Try.f75, go_sem, z0, z1]; rfl)) rfl ?_
  rw [HK.out, HS2.out]
  exact ⟨rfl, H7.out, HF7.out⟩
theorem toI_range (u : Int) : -9223372036854775808 ≤ toI u ∧ toI u ≤ 9223372036854775807 := by unfold toI wrap64; omega
/-- A row of the call's own lives on where the reader goes on. -/
theorem R_only {α : Type} {d : Kd α} {e base g : Nat} {w w1 : World} {v : Value} {xs : List α} (h : d.R e w base (fun _ => True) v xs) (hf : Fr (Only g) w w1) (hg : g < base) : d.R e w1 base (fun _ => True) v xs :=
  Kd.R_mono (Kd.R_move (Kd.R_bound h) fun k hk => hf.block k hk.2.2.1 fun e => by have := hk.2.1; unfold Only at e; omega) fun _ _ => trivial
theorem rd_low {base g : Nat} {w w1 : World} {s : RS} (h : Rd w g s) (hb : Below base w w1) (hg : g < base) : Rd w1 g s := (hb.block g hg).trans h
theorem fr_low {g : Nat} {W w w1 : World} (h : Fr (Only g) W w) (hb : Below W.heap.size w w1) : Fr (Only g) W w1 :=
  ⟨hb.os.trans h.os, hb.tape.trans h.tape, hb.output.trans h.output, Nat.le_trans h.size hb.size, fun k hk hn => (hb.block k hk).trans (h.block k hk hn)⟩
/-- A list's members, one by one. -/
def rloop {α : Type} (each : RS → α × RS) : Nat → List α → RS → List α × RS
  | 0, acc, s => (acc, s)
  | k + 1, acc, s => if s.bad then (acc, s) else rloop each k (acc ++ [(each s).1]) (each s).2
def rlist {α : Type} (each : RS → α × RS) (s : RS) : List α × RS :=
  rloop each (rnum s).1.toNat [] ⟨(rnum s).2.b, (rnum s).2.bad || decide ((rnum s).1 < 0) || decide (4096 < (rnum s).1)⟩
set_option maxRecDepth 100000 in
set_option maxHeartbeats 4000000 in
theorem rlistC_walk (W : World) (g : Nat) (s : RS) (h : Rd W g s) (hl : s.b.length ≤ 1000000000) :
    Calls Try.prog 78 #[.pointer (some ⟨g, 0, none⟩), .func (.func 75) #[.pointer (some ⟨g, 0, none⟩)] #[]] W fun e W' => ∃ v, e = .returned v ∧ kcol.R 32 W' W.heap.size (fun _ => True) v (rlist rcol s).1 ∧ Rd W' g (rlist rcol s).2 ∧ Fr (Only g) W W' := by
  have H := Aside0.mk h
  have HL := Aside0.mk h.lt
  obtain ⟨n, hn⟩ : ∃ n, (rnum s).1 = n := ⟨_, rfl⟩
  obtain ⟨⟨b1, bad1⟩, hs1⟩ : ∃ s1, (rnum s).2 = s1 := ⟨_, rfl⟩
  have hb1 := rnum_b s
  rw [hs1] at hb1
  simp only at hb1
  obtain ⟨bd, hbd⟩ : ∃ bd, (bad1 || decide (n < 0) || decide (4096 < n)) = bd := ⟨_, rfl⟩
  obtain ⟨R, hR⟩ : ∃ R, rlist rcol s = R := ⟨_, rfl⟩
  have HR := Aside0.mk (show rloop rcol n.toNat [] ⟨b1, bd⟩ = R by rw [← hR]; unfold rlist; rw [hn, hs1, hbd])
  rw [hR]
  have HBd := Aside0.mk hbd
  have HN := Aside0.mk hn
  have HS := Aside0.mk hs1
  have HNR := Aside0.mk (show n ≤ 9223372036854775807 from by rw [← hn]; exact (toI_range _).2)
  clear h hn hs1 hbd hR
  go_enter Try.func78, Try.ntmps78
  go_upto_region 2 with (go_at_call 103; refine (rnum_walk _ g s H.out hl).mono ?_; rw [HN.out, HS.out]; rintro e w1 ⟨rfl, h1, hf1⟩; have x1 : w1.cell? ⟨g, 1, none⟩ = some (.bool bad1) := (blk_cell h1 1).trans rfl; have f1 : w1.frozen? ⟨g, 1, none⟩ = false := blk_frozen h1 1; have H1 := Aside0.mk h1; have F1 := Aside0.mk hf1; clear h1 hf1)
  have HP := Aside0.mk (fun x : Bool => (show Rd (w1.setCell ⟨g, 1, none⟩ (.bool x)) g ⟨b1, x⟩ from blk_put H1.out 1 (.bool x) rfl))
  have HW := Aside0.mk (fun x : Bool => (show Fr (Only g) W (w1.setCell ⟨g, 1, none⟩ (.bool x)) from F1.out.trans (fr_set w1 g 1 (.bool x))))
  go_cut [5] (fun v5 wd => v5 = .int .i64 n ∧ Aside0 (Rd wd g ⟨b1, bd⟩) ∧ Aside0 (Fr (Only g) W wd))
  case first =>
    cases bad1 with
    | true =>
      obtain rfl : bd = true := by rw [← HBd.out]; rfl
      go_wp2_with fail
      go_meet
      exact ⟨rfl, ⟨HP.out true⟩, ⟨HW.out true⟩⟩
    | false =>
      by_cases h0 : n < 0
      · obtain rfl : bd = true := by rw [← HBd.out]; simp [h0]
        go_wp2_with fail
        go_meet
        exact ⟨rfl, ⟨HP.out true⟩, ⟨HW.out true⟩⟩
      · by_cases h4 : 4096 < n
        · obtain rfl : bd = true := by rw [← HBd.out]; simp [h4]
          go_wp2_with fail
          go_meet
          exact ⟨rfl, ⟨HP.out true⟩, ⟨HW.out true⟩⟩
        · obtain rfl : bd = false := by rw [← HBd.out]; simp [h0, h4]
          go_wp2_with fail
          go_meet
          exact ⟨rfl, ⟨HP.out false⟩, ⟨HW.out false⟩⟩
  case rest =>
  obtain ⟨rfl, HR0, HF0⟩ := hcut
  clear x1 f1 H1 F1 HP HW
  have hn4 : bd = false → n ≤ 4096 := fun hb => by have h := HBd.out; rw [hb] at h; simp at h; omega
  have HN4 := Aside0.mk hn4
  clear hn4 HBd
  go_wp2_with fail
  go_loopg [5, 6] (n.toNat + 2) (fun kq v5 v6 w' => ∃ (m : Int) (acc : List Col) (s2 : RS), v5 = .int .i64 m ∧ Aside0 (kq = m.toNat + 2 ∧ m ≤ 9223372036854775807 ∧ acc.length + m.toNat ≤ n.toNat ∧ (s2.bad = false → n ≤ 4096) ∧ s2.b.length ≤ s.b.length) ∧ Aside0 (rloop rcol m.toNat acc s2 = R) ∧ Aside0 (kcol.R 32 w' W.heap.size (fun _ => True) v6 acc) ∧ Aside0 (Rd w' g s2) ∧ Aside0 (Fr (Only g) W w'))
  case atStart => exact ⟨n, [], ⟨b1, bd⟩, rfl, ⟨rfl, HNR.out, by simp, HN4.out, hb1⟩, HR, ⟨Kd.R_nil _ _ _ _ _⟩, HR0, HF0⟩
  case round =>
    clear HR HR0 HF0
    obtain ⟨m, acc, ⟨b2, bad2⟩, rfl, HJ, HR, HA, HRd, HF⟩ := hrel
    have x1 : wr.cell? ⟨g, 1, none⟩ = some (.bool bad2) := (blk_cell HRd.out 1).trans rfl
    have hws := HF.out.size
    by_cases hm : 0 < m
    · obtain ⟨k1, hk1⟩ : ∃ k1, m.toNat = k1 + 1 := ⟨m.toNat - 1, by omega⟩
      have hR := HR.out
      rw [hk1] at hR
      cases bad2 with
      | true =>
        have hR2 : (acc, (⟨b2, true⟩ : RS)) = R := by rw [← hR]; rfl
        obtain rfl := hR2
        clear hR
        go_wp2_with fail
        go_ret
        exact ⟨_, rfl, HA.out, HRd.out, HF.out⟩
      | false =>
        have hR2 : rloop rcol k1 (acc ++ [(rcol ⟨b2, false⟩).1]) (rcol ⟨b2, false⟩).2 = R := by rw [← hR]; rfl
        have HR2 := Aside0.mk hR2
        have HK1 := Aside0.mk hk1
        have hb := rcol_b ⟨b2, false⟩
        obtain ⟨x, hx⟩ : ∃ x, (rcol ⟨b2, false⟩).1 = x := ⟨_, rfl⟩
        obtain ⟨s3, hs3⟩ : ∃ s3, (rcol ⟨b2, false⟩).2 = s3 := ⟨_, rfl⟩
        have HX := Aside0.mk hx
        have HS3 := Aside0.mk hs3
        have HB3 := Aside0.mk hb
        clear hR hR2 hk1 hb hx hs3
        obtain ⟨kq1, rfl⟩ : ∃ kq1, gk = kq1 + 1 := ⟨gk - 1, by have := HJ.out; omega⟩
        go_wp2_with fail
        refine (rcol_walk wr g ⟨b2, false⟩ HRd.out (Nat.le_trans HJ.out.2.2.2.2 hl)).mono ?_
        rw [HX.out, HS3.out]
        rintro e w3 ⟨rfl, h3, hf3⟩
        have HA3 := Aside0.mk (R_only HA.out hf3 HL.out)
        have H3 := Aside0.mk h3
        have F3 := Aside0.mk (HF.out.trans hf3)
        have hw3 : W.heap.size ≤ w3.heap.size := F3.out.size
        clear h3 hf3 x1
        have hmw : wrap64 (m - 1) = m - 1 := by have := HJ.out.2.1; unfold wrap64; omega
        have hn6 : n ≤ 4096 := HJ.out.2.2.2.1 (by first | rfl | trivial)
        go_wp2_with ((with_reducible refine gate_builtin (b := .append) (xs := #[.tmp 35, .tmp 38]) rfl ?_); at_builtin; refine Kd.R_append kcol (w0 := w3) W.heap.size rfl (.tmp 35) (.tmp 38) 27 32 (.agg #[.string ⟨#[]⟩, .int .i64 0]) 24 rfl Try.underlying27 info32 rfl (show 0 < 2 from by decide) (by decide) _ acc x [.string x.nm, .int .i64 x.kd] (fun _ => True) (fun _ => False) rfl rfl (kcol_M.2 rfl) (fun _ h => h.elim) (fun _ _ => trivial) HA3.out (Below.refl _ _) hw3 (by have h1 := HJ.out.2.2.1; have h2 := HJ.out.2.2.2.1 (by first | rfl | trivial); omega) ?_; intro v4 w4 hr4 hb4 hg4 hat4; have HA4 := Aside0.mk hr4; have H4 := Aside0.mk (rd_low H3.out hb4 HL.out); have F4 := Aside0.mk (fr_low F3.out hb4); clear hr4 hb4 hg4 hat4)
        go_roundg kq1
        case measure => omega
        case rel => exact ⟨m - 1, acc ++ [x], s3, by go_num, ⟨by have h1 := HJ.out.1; have h2 := HK1.out; omega, by have := HJ.out.2.1; omega, by have h1 := HJ.out.2.2.1; have h2 := HK1.out; rw [List.length_append]; simp only [List.length_singleton]; omega, fun _ => hn6, by have h1 := HJ.out.2.2.2.2; have h2 := HB3.out; rw [HS3.out] at h2; exact Nat.le_trans h2 h1⟩, ⟨by have h2 := HK1.out; rw [show (m - 1).toNat = k1 by omega, ← HX.out, ← HS3.out]; exact HR2.out⟩, HA4, H4, F4⟩
    · have hR2 : (acc, (⟨b2, bad2⟩ : RS)) = R := by rw [← HR.out, show m.toNat = 0 by omega]; rfl
      obtain rfl := hR2
      go_wp2_with fail
      go_ret
      exact ⟨_, rfl, HA.out, HRd.out, HF.out⟩
end Go.Proofs.Ytjehbnhjaogfkaa.Sc
end

section
namespace Go.Proofs.Ytjehbnhjaogfkaa.Sc
open Go.RowKit Go.Lib Go.Maps Go.WideAt Go.WideShapes Go.Proofs.YtjehbnhjaogfkaaW.PrintWords Go.Proofs.YtjehbnhjaogfkaaW.PrintLast Go.Proofs.YtjehbnhjaogfkaaW.PrintMore
open Go.Proofs.Ytjehbnhjaogfkaa
set_option linter.unusedVariables false
set_option linter.unusedSimpArgs false
set_option maxRecDepth 100000 in
set_option maxHeartbeats 4000000 in
theorem rlistN_walk (W : World) (g : Nat) (s : RS) (h : Rd W g s) (hl : s.b.length ≤ 1000000000) :
    Calls Try.prog 100 #[.pointer (some ⟨g, 0, none⟩), .func (.func 79) #[.pointer (some ⟨g, 0, none⟩)] #[]] W fun e W' => ∃ v, e = .returned v ∧ (Kd.int .i64).R 3 W' W.heap.size (fun _ => True) v (rlist rnum s).1 ∧ Rd W' g (rlist rnum s).2 ∧ Fr (Only g) W W' := by
  have H := Aside0.mk h
  have HL := Aside0.mk h.lt
  obtain ⟨n, hn⟩ : ∃ n, (rnum s).1 = n := ⟨_, rfl⟩
  obtain ⟨⟨b1, bad1⟩, hs1⟩ : ∃ s1, (rnum s).2 = s1 := ⟨_, rfl⟩
  have hb1 := rnum_b s
  rw [hs1] at hb1
  simp only at hb1
  obtain ⟨bd, hbd⟩ : ∃ bd, (bad1 || decide (n < 0) || decide (4096 < n)) = bd := ⟨_, rfl⟩
  obtain ⟨R, hR⟩ : ∃ R, rlist rnum s = R := ⟨_, rfl⟩
  have HR := Aside0.mk (show rloop rnum n.toNat [] ⟨b1, bd⟩ = R by rw [← hR]; unfold rlist; rw [hn, hs1, hbd])
  rw [hR]
  have HBd := Aside0.mk hbd
  have HN := Aside0.mk hn
  have HS := Aside0.mk hs1
  have HNR := Aside0.mk (show n ≤ 9223372036854775807 from by rw [← hn]; exact (toI_range _).2)
  clear h hn hs1 hbd hR
  go_enter Try.func100, Try.ntmps100
  go_upto_region 2 with (go_at_call 103; refine (rnum_walk _ g s H.out hl).mono ?_; rw [HN.out, HS.out]; rintro e w1 ⟨rfl, h1, hf1⟩; have x1 : w1.cell? ⟨g, 1, none⟩ = some (.bool bad1) := (blk_cell h1 1).trans rfl; have f1 : w1.frozen? ⟨g, 1, none⟩ = false := blk_frozen h1 1; have H1 := Aside0.mk h1; have F1 := Aside0.mk hf1; clear h1 hf1)
  have HP := Aside0.mk (fun x : Bool => (show Rd (w1.setCell ⟨g, 1, none⟩ (.bool x)) g ⟨b1, x⟩ from blk_put H1.out 1 (.bool x) rfl))
  have HW := Aside0.mk (fun x : Bool => (show Fr (Only g) W (w1.setCell ⟨g, 1, none⟩ (.bool x)) from F1.out.trans (fr_set w1 g 1 (.bool x))))
  go_cut [5] (fun v5 wd => v5 = .int .i64 n ∧ Aside0 (Rd wd g ⟨b1, bd⟩) ∧ Aside0 (Fr (Only g) W wd))
  case first =>
    cases bad1 with
    | true =>
      obtain rfl : bd = true := by rw [← HBd.out]; rfl
      go_wp2_with fail
      go_meet
      exact ⟨rfl, ⟨HP.out true⟩, ⟨HW.out true⟩⟩
    | false =>
      by_cases h0 : n < 0
      · obtain rfl : bd = true := by rw [← HBd.out]; simp [h0]
        go_wp2_with fail
        go_meet
        exact ⟨rfl, ⟨HP.out true⟩, ⟨HW.out true⟩⟩
      · by_cases h4 : 4096 < n
        · obtain rfl : bd = true := by rw [← HBd.out]; simp [h4]
          go_wp2_with fail
          go_meet
          exact ⟨rfl, ⟨HP.out true⟩, ⟨HW.out true⟩⟩
        · obtain rfl : bd = false := by rw [← HBd.out]; simp [h0, h4]
          go_wp2_with fail
          go_meet
          exact ⟨rfl, ⟨HP.out false⟩, ⟨HW.out false⟩⟩
  case rest =>
  obtain ⟨rfl, HR0, HF0⟩ := hcut
  clear x1 f1 H1 F1 HP HW
  have hn4 : bd = false → n ≤ 4096 := fun hb => by have h := HBd.out; rw [hb] at h; simp at h; omega
  have HN4 := Aside0.mk hn4
  clear hn4 HBd
  go_wp2_with fail
  go_loopg [5, 6] (n.toNat + 2) (fun kq v5 v6 w' => ∃ (m : Int) (acc : List Int) (s2 : RS), v5 = .int .i64 m ∧ Aside0 (kq = m.toNat + 2 ∧ m ≤ 9223372036854775807 ∧ acc.length + m.toNat ≤ n.toNat ∧ (s2.bad = false → n ≤ 4096) ∧ s2.b.length ≤ s.b.length) ∧ Aside0 (rloop rnum m.toNat acc s2 = R) ∧ Aside0 ((Kd.int .i64).R 3 w' W.heap.size (fun _ => True) v6 acc) ∧ Aside0 (Rd w' g s2) ∧ Aside0 (Fr (Only g) W w'))
  case atStart => exact ⟨n, [], ⟨b1, bd⟩, rfl, ⟨rfl, HNR.out, by simp, HN4.out, hb1⟩, HR, ⟨Kd.R_nil _ _ _ _ _⟩, HR0, HF0⟩
  case round =>
    clear HR HR0 HF0
    obtain ⟨m, acc, ⟨b2, bad2⟩, rfl, HJ, HR, HA, HRd, HF⟩ := hrel
    have x1 : wr.cell? ⟨g, 1, none⟩ = some (.bool bad2) := (blk_cell HRd.out 1).trans rfl
    have hws := HF.out.size
    by_cases hm : 0 < m
    · obtain ⟨k1, hk1⟩ : ∃ k1, m.toNat = k1 + 1 := ⟨m.toNat - 1, by omega⟩
      have hR := HR.out
      rw [hk1] at hR
      cases bad2 with
      | true =>
        have hR2 : (acc, (⟨b2, true⟩ : RS)) = R := by rw [← hR]; rfl
        obtain rfl := hR2
        clear hR
        go_wp2_with fail
        go_ret
        exact ⟨_, rfl, HA.out, HRd.out, HF.out⟩
      | false =>
        have hR2 : rloop rnum k1 (acc ++ [(rnum ⟨b2, false⟩).1]) (rnum ⟨b2, false⟩).2 = R := by rw [← hR]; rfl
        have HR2 := Aside0.mk hR2
        have HK1 := Aside0.mk hk1
        have hb := rnum_b ⟨b2, false⟩
        obtain ⟨x, hx⟩ : ∃ x, (rnum ⟨b2, false⟩).1 = x := ⟨_, rfl⟩
        obtain ⟨s3, hs3⟩ : ∃ s3, (rnum ⟨b2, false⟩).2 = s3 := ⟨_, rfl⟩
        have HX := Aside0.mk hx
        have HS3 := Aside0.mk hs3
        have HB3 := Aside0.mk hb
        clear hR hR2 hk1 hb hx hs3
        obtain ⟨kq1, rfl⟩ : ∃ kq1, gk = kq1 + 1 := ⟨gk - 1, by have := HJ.out; omega⟩
        go_wp2_with fail
        refine (rplace_walk wr g ⟨b2, false⟩ HRd.out (Nat.le_trans HJ.out.2.2.2.2 hl)).mono ?_
        rw [HX.out, HS3.out]
        rintro e w3 ⟨rfl, h3, hf3⟩
        have HA3 := Aside0.mk (R_only HA.out hf3 HL.out)
        have H3 := Aside0.mk h3
        have F3 := Aside0.mk (HF.out.trans hf3)
        have hw3 : W.heap.size ≤ w3.heap.size := F3.out.size
        clear h3 hf3 x1
        have hmw : wrap64 (m - 1) = m - 1 := by have := HJ.out.2.1; unfold wrap64; omega
        have hn6 : n ≤ 4096 := HJ.out.2.2.2.1 (by first | rfl | trivial)
        go_wp2_with ((with_reducible refine gate_builtin (b := .append) (xs := #[.tmp 35, .tmp 38]) rfl ?_); at_builtin; refine Kd.R_append (Kd.int .i64) (w0 := w3) W.heap.size rfl (.tmp 35) (.tmp 38) 65 3 (.int .i64 0) 8 rfl Try.underlying65 info3 rfl (show 0 < 1 from by decide) (by decide) _ acc x [.int .i64 x] (fun _ => True) (fun _ => False) rfl rfl rfl (fun _ h => h.elim) (fun _ _ => trivial) HA3.out (Below.refl _ _) hw3 (by have h1 := HJ.out.2.2.1; have h2 := HJ.out.2.2.2.1 (by first | rfl | trivial); omega) ?_; intro v4 w4 hr4 hb4 hg4 hat4; have HA4 := Aside0.mk hr4; have H4 := Aside0.mk (rd_low H3.out hb4 HL.out); have F4 := Aside0.mk (fr_low F3.out hb4); clear hr4 hb4 hg4 hat4)
        go_roundg kq1
        case measure => omega
        case rel => exact ⟨m - 1, acc ++ [x], s3, by go_num, ⟨by have h1 := HJ.out.1; have h2 := HK1.out; omega, by have := HJ.out.2.1; omega, by have h1 := HJ.out.2.2.1; have h2 := HK1.out; rw [List.length_append]; simp only [List.length_singleton]; omega, fun _ => hn6, by have h1 := HJ.out.2.2.2.2; have h2 := HB3.out; rw [HS3.out] at h2; exact Nat.le_trans h2 h1⟩, ⟨by have h2 := HK1.out; rw [show (m - 1).toNat = k1 by omega, ← HX.out, ← HS3.out]; exact HR2.out⟩, HA4, H4, F4⟩
    · have hR2 : (acc, (⟨b2, bad2⟩ : RS)) = R := by rw [← HR.out, show m.toNat = 0 by omega]; rfl
      obtain rfl := hR2
      go_wp2_with fail
      go_ret
      exact ⟨_, rfl, HA.out, HRd.out, HF.out⟩
end Go.Proofs.Ytjehbnhjaogfkaa.Sc
end

section
namespace Go.Proofs.Ytjehbnhjaogfkaa.Sc
open Go.RowKit Go.Lib Go.Maps Go.WideAt Go.WideShapes Go.Proofs.YtjehbnhjaogfkaaW.PrintWords Go.Proofs.YtjehbnhjaogfkaaW.PrintLast Go.Proofs.YtjehbnhjaogfkaaW.PrintMore
open Go.Proofs.Ytjehbnhjaogfkaa
set_option linter.unusedVariables false
set_option linter.unusedSimpArgs false
theorem rloop_b {α : Type} {each : RS → α × RS} (he : ∀ s, (each s).2.b.length ≤ s.b.length) : ∀ (k : Nat) (acc : List α) (s : RS), (rloop each k acc s).2.b.length ≤ s.b.length
  | 0, _, _ => Nat.le_refl _
  | k + 1, acc, s => by
    rw [rloop]
    split
    · exact Nat.le_refl _
    · exact Nat.le_trans (rloop_b he k _ _) (he s)
theorem rlist_b {α : Type} {each : RS → α × RS} (he : ∀ s, (each s).2.b.length ≤ s.b.length) (s : RS) : (rlist each s).2.b.length ≤ s.b.length := Nat.le_trans (rloop_b he _ _ _) (rnum_b s)
def rfl' (s : RS) : Bool × RS := if s.bad then (false, s) else rflag s
theorem rfl'_b (s : RS) : (rfl' s).2.b.length ≤ s.b.length := by
  unfold rfl'
  split
  · exact Nat.le_refl _
  · exact rflag_b s
def rix (s : RS) : Ix × RS :=
  (⟨str (rtext s).1, (rlist rnum (rtext s).2).1, (rfl' (rlist rnum (rtext s).2).2).1⟩, (rfl' (rlist rnum (rtext s).2).2).2)
theorem rix_b (s : RS) : (rix s).2.b.length ≤ s.b.length := Nat.le_trans (rfl'_b _) (Nat.le_trans (rlist_b rnum_b _) (rtext_b s))
set_option maxRecDepth 100000 in
set_option maxHeartbeats 4000000 in
theorem rix_walk (W : World) (g : Nat) (s : RS) (h : Rd W g s) (hl : s.b.length ≤ 1000000000) :
    Calls Try.prog 76 #[.pointer (some ⟨g, 0, none⟩)] W fun e W' => ∃ A c, e = .returned (.agg #[.string (rix s).1.nm, .slice A (rix s).1.cols.length c, .bool (rix s).1.uq]) ∧ (Kd.int .i64).R 3 W' W.heap.size (fun _ => True) (.slice A (rix s).1.cols.length c) (rix s).1.cols ∧ Rd W' g (rix s).2 ∧ Fr (Only g) W W' := by
  obtain ⟨q, hq⟩ : ∃ q, W.heap.size = q := ⟨_, rfl⟩
  have hgq : g ≠ q := by have := h.lt; omega
  have H := Aside0.mk (h.below (below_alloc (Below.refl _ W) (.cells #[.string ⟨#[]⟩, .slice none 0 0, .bool false] 67)))
  have HF := Aside0.mk ((Fr.refl (Only g) W).alloc (.cells #[.string ⟨#[]⟩, .slice none 0 0, .bool false] 67))
  have HBx := Aside0.mk (show (W.alloc (.cells #[.string ⟨#[]⟩, .slice none 0 0, .bool false] 67)).heap[q]? = some (.cells #[.string ⟨#[]⟩, .slice none 0 0, .bool false] 67 (0, 0)) from hq ▸ heap_alloc_new W _)
  have HQ := Aside0.mk hq
  have HGl := Aside0.mk h.lt
  obtain ⟨nm, hnm⟩ : ∃ nm, (rtext s).1 = nm := ⟨_, rfl⟩
  obtain ⟨s1, hs1⟩ : ∃ s1, (rtext s).2 = s1 := ⟨_, rfl⟩
  have hb1 := rtext_b s
  rw [hs1] at hb1
  obtain ⟨cols, hcl⟩ : ∃ cols, (rlist rnum s1).1 = cols := ⟨_, rfl⟩
  obtain ⟨s2, hs2⟩ : ∃ s2, (rlist rnum s1).2 = s2 := ⟨_, rfl⟩
  have hb2 := rlist_b rnum_b s1
  rw [hs2] at hb2
  obtain ⟨u, hu⟩ : ∃ u, (rfl' s2).1 = u := ⟨_, rfl⟩
  obtain ⟨s3, hs3⟩ : ∃ s3, (rfl' s2).2 = s3 := ⟨_, rfl⟩
  have hE : rix s = (⟨str nm, cols, u⟩, s3) := by unfold rix; rw [hnm, hs1, hcl, hs2, hu, hs3]
  rw [hE]
  have HN := Aside0.mk hnm
  have HS1 := Aside0.mk hs1
  have HCl := Aside0.mk hcl
  have HS2 := Aside0.mk hs2
  have HU := Aside0.mk hu
  have HS3 := Aside0.mk hs3
  clear h hnm hs1 hcl hs2 hu hs3 hE
  go_enter Try.func76, Try.ntmps76
  go_wp2_with fail
  clear hq
  have HL := Aside0.mk (blk_lt HBx.out)
  generalize W.alloc (.cells #[.string ⟨#[]⟩, .slice none 0 0, .bool false] 67) = w0 at *
  refine (rtext_walk w0 g s H.out hl).mono ?_
  rw [HN.out, HS1.out]
  rintro e w1 ⟨rfl, h1, hf1⟩
  have hb2' : w1.heap[q]? = some (.cells #[.string ⟨#[]⟩, .slice none 0 0, .bool false] 67 (0, 0)) := (hf1.block q HL.out fun e => hgq e.symm).trans HBx.out
  have c0 := (blk_cell hb2' 0).trans (show _ = some (Value.string ⟨#[]⟩) from rfl)
  have f0 := blk_frozen hb2' 0
  have H1 := Aside0.mk (h1.far (p := ⟨q, 0, none⟩) (fun e => hgq e.symm) (.string (str nm)))
  have HB1 := Aside0.mk (show (w1.setCell ⟨q, 0, none⟩ (.string (str nm))).heap[q]? = some (.cells #[.string (str nm), .slice none 0 0, .bool false] 67 (0, 0)) from blk_put hb2' 0 _ rfl)
  have HF1 := Aside0.mk ((HF.out.trans hf1).set (p := ⟨q, 0, none⟩) (.inr (Nat.le_of_eq HQ.out)) (.string (str nm)))
  clear h1 hf1 hb2'
  go_wp2_with fail
  clear c0 f0
  generalize w1.setCell ⟨q, 0, none⟩ (.string (str nm)) = w2 at *
  refine (rlistN_walk w2 g s1 H1.out (by omega)).mono ?_
  rw [HCl.out, HS2.out]
  rintro e w3 ⟨v1, rfl, hr3, h3, hf3⟩
  obtain ⟨A, c, rfl⟩ := Kd.R_slice hr3
  have hq2 := blk_lt HB1.out
  have hb4 : w3.heap[q]? = some (.cells #[.string (str nm), .slice none 0 0, .bool false] 67 (0, 0)) := (hf3.block q hq2 fun e => hgq e.symm).trans HB1.out
  have c1 := (blk_cell hb4 1).trans (show _ = some (Value.slice none 0 0) from rfl)
  have f1 := blk_frozen hb4 1
  have hb5 : (w3.setCell ⟨q, 1, none⟩ (.slice A cols.length c)).heap[q]? = some (.cells #[.string (str nm), .slice A cols.length c, .bool false] 67 (0, 0)) := blk_put hb4 1 _ rfl
  have HB5 := Aside0.mk hb5
  have hgx : g ≠ q := hgq
  have H5 := Aside0.mk (h3.far (p := ⟨q, 1, none⟩) (fun e => hgq e.symm) (.slice A cols.length c))
  have hle : W.heap.size ≤ q := Nat.le_of_eq HQ.out
  have HF5 := Aside0.mk ((HF1.out.trans hf3).set (p := ⟨q, 1, none⟩) (.inr hle) (.slice A cols.length c))
  have HR5 := Aside0.mk (Kd.R_mono (Kd.R_far (ok := fun k => q + 1 ≤ k) (Kd.R_mono (Kd.R_bound hr3) fun k hk => by have := hk.2.1; omega) (p := ⟨q, 1, none⟩) (fun k hk => by simp; omega) (.slice A cols.length c)) (ok' := fun k => q + 1 ≤ k) (fun k hk => hk))
  have HW3 := Aside0.mk (show W.heap.size ≤ w2.heap.size by omega)
  clear h3 hf3 hb4 hb5 hr3
  go_upto_region 4 with fail
  clear c1 f1
  generalize w3.setCell ⟨q, 1, none⟩ (.slice A cols.length c) = w5 at *
  obtain ⟨b2, bad2⟩ := s2
  cases bad2 with
  | true =>
    have x1 : w5.cell? ⟨g, 1, none⟩ = some (.bool true) := (blk_cell H5.out 1).trans rfl
    obtain rfl : u = false := by rw [← HU.out]; rfl
    obtain rfl : s3 = ⟨b2, true⟩ := by rw [← HS3.out]; rfl
    have HBq := HB5
    have HRd := H5
    have HFr := HF5
    have HRr := HR5
    have c0 := (blk_cell HBq.out 0).trans (show _ = some (Value.string (str nm)) from rfl)
    have c1 := (blk_cell HBq.out 1).trans (show _ = some (Value.slice A cols.length c) from rfl)
    have c2 := (blk_cell HBq.out 2).trans (show _ = some (Value.bool false) from rfl)
    have f0 := blk_frozen HBq.out 0
    have f1 := blk_frozen HBq.out 1
    have f2 := blk_frozen HBq.out 2
    have hz1 : (w5.setCell ⟨q, 2, none⟩ (.bool false)).heap[q]? = some (.cells #[.string (str nm), .slice A cols.length c, .bool false] 67 (0, 0)) := blk_put HBq.out 2 _ rfl
    have hz2 : ((w5.setCell ⟨q, 2, none⟩ (.bool false)).setCell ⟨q, 0, none⟩ (.string (str nm))).heap[q]? = some (.cells #[.string (str nm), .slice A cols.length c, .bool false] 67 (0, 0)) := blk_put hz1 0 _ rfl
    have hz3 : (((w5.setCell ⟨q, 2, none⟩ (.bool false)).setCell ⟨q, 0, none⟩ (.string (str nm))).setCell ⟨q, 1, none⟩ (.slice A cols.length c)).heap[q]? = some (.cells #[.string (str nm), .slice A cols.length c, .bool false] 67 (0, 0)) := blk_put hz2 1 _ rfl
    have hz4 : ((((w5.setCell ⟨q, 2, none⟩ (.bool false)).setCell ⟨q, 0, none⟩ (.string (str nm))).setCell ⟨q, 1, none⟩ (.slice A cols.length c)).setCell ⟨q, 2, none⟩ (.bool false)).heap[q]? = some (.cells #[.string (str nm), .slice A cols.length c, .bool false] 67 (0, 0)) := blk_put hz3 2 _ rfl
    have HZ := Aside0.mk hz4
    have hne : ∀ k, q + 1 ≤ k → k ≠ q := fun k hk => by omega
    have HRd' := Aside0.mk ((((HRd.out.far (p := ⟨q, 2, none⟩) (fun e => hgq e.symm) (.bool false)).far (p := ⟨q, 0, none⟩) (fun e => hgq e.symm) (.string (str nm))).far (p := ⟨q, 1, none⟩) (fun e => hgq e.symm) (.slice A cols.length c)).far (p := ⟨q, 2, none⟩) (fun e => hgq e.symm) (.bool false))
    have HFr' := Aside0.mk ((((HFr.out.set (p := ⟨q, 2, none⟩) (.inr hle) (.bool false)).set (p := ⟨q, 0, none⟩) (.inr hle) (.string (str nm))).set (p := ⟨q, 1, none⟩) (.inr hle) (.slice A cols.length c)).set (p := ⟨q, 2, none⟩) (.inr hle) (.bool false))
    have HRr' := Aside0.mk (Kd.R_far (Kd.R_far (Kd.R_far (Kd.R_far HRr.out (p := ⟨q, 2, none⟩) hne (.bool false)) (p := ⟨q, 0, none⟩) hne (.string (str nm))) (p := ⟨q, 1, none⟩) hne (.slice A cols.length c)) (p := ⟨q, 2, none⟩) hne (.bool false))
    clear hz1 hz2 hz3 hz4 hne
    go_wp2_with fail
    clear c0 c1 c2 f0 f1 f2
    generalize ((((w5.setCell ⟨q, 2, none⟩ (.bool false)).setCell ⟨q, 0, none⟩ (.string (str nm))).setCell ⟨q, 1, none⟩ (.slice A cols.length c)).setCell ⟨q, 2, none⟩ (.bool false)) = w9 at *
    have z0 := (blk_cell HZ.out 0).trans (show _ = some (Value.string (str nm)) from rfl)
    have z1 := (blk_cell HZ.out 1).trans (show _ = some (Value.slice A cols.length c) from rfl)
    have z2 := (blk_cell HZ.out 2).trans (show _ = some (Value.bool false) from rfl)
    refine bodyPost_ret (v := .agg #[.string (str nm), .slice A cols.length c, .bool false]) (by first | (go_simp; done) | (simp [results, Try.f76, go_sem, z0, z1, z2]; done) | (simp [results, Try.f76, go_sem, z0, z1, z2]; rfl)) rfl ?_
    exact ⟨A, c, rfl, Kd.R_mono (Kd.R_lower HRr'.out HW3.out) (fun _ _ => trivial), HRd'.out, HFr'.out⟩
  | false =>
    have x1 : w5.cell? ⟨g, 1, none⟩ = some (.bool false) := (blk_cell H5.out 1).trans rfl
    have hu : (rflag ⟨b2, false⟩).1 = u := HU.out
    have hs3 : (rflag ⟨b2, false⟩).2 = s3 := HS3.out
    have HU2 := Aside0.mk hu
    have HS32 := Aside0.mk hs3
    have hb2l : b2.length ≤ s1.b.length := hb2
    clear hu hs3
    go_wp2_with fail
    refine (rflag_walk w5 g ⟨b2, false⟩ H5.out (by show b2.length ≤ _; omega)).mono ?_
    rw [HU2.out, HS32.out]
    rintro e w7 ⟨rfl, h7, hf7⟩
    have HBq := Aside0.mk ((hf7.block q (blk_lt HB5.out) fun e => hgq e.symm).trans HB5.out)
    have HRd := Aside0.mk h7
    have HFr := Aside0.mk (HF5.out.trans hf7)
    have HRr := Aside0.mk (Kd.R_mono (Kd.R_move (Kd.R_bound HR5.out) fun k hk => hf7.block k hk.2.2.1 fun e => by have := hk.1; have := HGl.out; unfold Only at e; omega) fun k hk => hk.1)
    clear h7 hf7 x1
    have c0 := (blk_cell HBq.out 0).trans (show _ = some (Value.string (str nm)) from rfl)
    have c1 := (blk_cell HBq.out 1).trans (show _ = some (Value.slice A cols.length c) from rfl)
    have c2 := (blk_cell HBq.out 2).trans (show _ = some (Value.bool false) from rfl)
    have f0 := blk_frozen HBq.out 0
    have f1 := blk_frozen HBq.out 1
    have f2 := blk_frozen HBq.out 2
    have hz1 : (w7.setCell ⟨q, 2, none⟩ (.bool u)).heap[q]? = some (.cells #[.string (str nm), .slice A cols.length c, .bool u] 67 (0, 0)) := blk_put HBq.out 2 _ rfl
    have hz2 : ((w7.setCell ⟨q, 2, none⟩ (.bool u)).setCell ⟨q, 0, none⟩ (.string (str nm))).heap[q]? = some (.cells #[.string (str nm), .slice A cols.length c, .bool u] 67 (0, 0)) := blk_put hz1 0 _ rfl
    have hz3 : (((w7.setCell ⟨q, 2, none⟩ (.bool u)).setCell ⟨q, 0, none⟩ (.string (str nm))).setCell ⟨q, 1, none⟩ (.slice A cols.length c)).heap[q]? = some (.cells #[.string (str nm), .slice A cols.length c, .bool u] 67 (0, 0)) := blk_put hz2 1 _ rfl
    have hz4 : ((((w7.setCell ⟨q, 2, none⟩ (.bool u)).setCell ⟨q, 0, none⟩ (.string (str nm))).setCell ⟨q, 1, none⟩ (.slice A cols.length c)).setCell ⟨q, 2, none⟩ (.bool u)).heap[q]? = some (.cells #[.string (str nm), .slice A cols.length c, .bool u] 67 (0, 0)) := blk_put hz3 2 _ rfl
    have HZ := Aside0.mk hz4
    have hne : ∀ k, q + 1 ≤ k → k ≠ q := fun k hk => by omega
    have HRd' := Aside0.mk ((((HRd.out.far (p := ⟨q, 2, none⟩) (fun e => hgq e.symm) (.bool u)).far (p := ⟨q, 0, none⟩) (fun e => hgq e.symm) (.string (str nm))).far (p := ⟨q, 1, none⟩) (fun e => hgq e.symm) (.slice A cols.length c)).far (p := ⟨q, 2, none⟩) (fun e => hgq e.symm) (.bool u))
    have HFr' := Aside0.mk ((((HFr.out.set (p := ⟨q, 2, none⟩) (.inr hle) (.bool u)).set (p := ⟨q, 0, none⟩) (.inr hle) (.string (str nm))).set (p := ⟨q, 1, none⟩) (.inr hle) (.slice A cols.length c)).set (p := ⟨q, 2, none⟩) (.inr hle) (.bool u))
    have HRr' := Aside0.mk (Kd.R_far (Kd.R_far (Kd.R_far (Kd.R_far HRr.out (p := ⟨q, 2, none⟩) hne (.bool u)) (p := ⟨q, 0, none⟩) hne (.string (str nm))) (p := ⟨q, 1, none⟩) hne (.slice A cols.length c)) (p := ⟨q, 2, none⟩) hne (.bool u))
    clear hz1 hz2 hz3 hz4 hne
    go_wp2_with fail
    clear c0 c1 c2 f0 f1 f2
    generalize ((((w7.setCell ⟨q, 2, none⟩ (.bool u)).setCell ⟨q, 0, none⟩ (.string (str nm))).setCell ⟨q, 1, none⟩ (.slice A cols.length c)).setCell ⟨q, 2, none⟩ (.bool u)) = w9 at *
    have z0 := (blk_cell HZ.out 0).trans (show _ = some (Value.string (str nm)) from rfl)
    have z1 := (blk_cell HZ.out 1).trans (show _ = some (Value.slice A cols.length c) from rfl)
    have z2 := (blk_cell HZ.out 2).trans (show _ = some (Value.bool u) from rfl)
    refine bodyPost_ret (v := .agg #[.string (str nm), .slice A cols.length c, .bool u]) (by first | (go_simp; done) | (simp [results, Try.f76, go_sem, z0, z1, z2]; done) | (simp [results, Try.f76, go_sem, z0, z1, z2]; rfl)) rfl ?_
    exact ⟨A, c, rfl, Kd.R_mono (Kd.R_lower HRr'.out HW3.out) (fun _ _ => trivial), HRd'.out, HFr'.out⟩
end Go.Proofs.Ytjehbnhjaogfkaa.Sc
end

section
namespace Go.Proofs.Ytjehbnhjaogfkaa.Sc
open Go.RowKit Go.Lib Go.Maps Go.WideAt Go.WideShapes Go.Proofs.YtjehbnhjaogfkaaW.PrintWords Go.Proofs.YtjehbnhjaogfkaaW.PrintLast Go.Proofs.YtjehbnhjaogfkaaW.PrintMore
open Go.Proofs.Ytjehbnhjaogfkaa
set_option linter.unusedVariables false
set_option linter.unusedSimpArgs false
set_option maxRecDepth 100000 in
set_option maxHeartbeats 4000000 in
theorem rlistX_walk (W : World) (g : Nat) (s : RS) (h : Rd W g s) (hl : s.b.length ≤ 1000000000) :
    Calls Try.prog 80 #[.pointer (some ⟨g, 0, none⟩), .func (.func 76) #[.pointer (some ⟨g, 0, none⟩)] #[]] W fun e W' => ∃ v, e = .returned v ∧ kix.R 67 W' W.heap.size (fun _ => True) v (rlist rix s).1 ∧ Rd W' g (rlist rix s).2 ∧ Fr (Only g) W W' := by
  have H := Aside0.mk h
  have HL := Aside0.mk h.lt
  obtain ⟨n, hn⟩ : ∃ n, (rnum s).1 = n := ⟨_, rfl⟩
  obtain ⟨⟨b1, bad1⟩, hs1⟩ : ∃ s1, (rnum s).2 = s1 := ⟨_, rfl⟩
  have hb1 := rnum_b s
  rw [hs1] at hb1
  simp only at hb1
  obtain ⟨bd, hbd⟩ : ∃ bd, (bad1 || decide (n < 0) || decide (4096 < n)) = bd := ⟨_, rfl⟩
  obtain ⟨R, hR⟩ : ∃ R, rlist rix s = R := ⟨_, rfl⟩
  have HR := Aside0.mk (show rloop rix n.toNat [] ⟨b1, bd⟩ = R by rw [← hR]; unfold rlist; rw [hn, hs1, hbd])
  rw [hR]
  have HBd := Aside0.mk hbd
  have HN := Aside0.mk hn
  have HS := Aside0.mk hs1
  have HNR := Aside0.mk (show n ≤ 9223372036854775807 from by rw [← hn]; exact (toI_range _).2)
  clear h hn hs1 hbd hR
  go_enter Try.func80, Try.ntmps80
  go_upto_region 2 with (go_at_call 103; refine (rnum_walk _ g s H.out hl).mono ?_; rw [HN.out, HS.out]; rintro e w1 ⟨rfl, h1, hf1⟩; have x1 : w1.cell? ⟨g, 1, none⟩ = some (.bool bad1) := (blk_cell h1 1).trans rfl; have f1 : w1.frozen? ⟨g, 1, none⟩ = false := blk_frozen h1 1; have H1 := Aside0.mk h1; have F1 := Aside0.mk hf1; clear h1 hf1)
  have HP := Aside0.mk (fun x : Bool => (show Rd (w1.setCell ⟨g, 1, none⟩ (.bool x)) g ⟨b1, x⟩ from blk_put H1.out 1 (.bool x) rfl))
  have HW := Aside0.mk (fun x : Bool => (show Fr (Only g) W (w1.setCell ⟨g, 1, none⟩ (.bool x)) from F1.out.trans (fr_set w1 g 1 (.bool x))))
  go_cut [5] (fun v5 wd => v5 = .int .i64 n ∧ Aside0 (Rd wd g ⟨b1, bd⟩) ∧ Aside0 (Fr (Only g) W wd))
  case first =>
    cases bad1 with
    | true =>
      obtain rfl : bd = true := by rw [← HBd.out]; rfl
      go_wp2_with fail
      go_meet
      exact ⟨rfl, ⟨HP.out true⟩, ⟨HW.out true⟩⟩
    | false =>
      by_cases h0 : n < 0
      · obtain rfl : bd = true := by rw [← HBd.out]; simp [h0]
        go_wp2_with fail
        go_meet
        exact ⟨rfl, ⟨HP.out true⟩, ⟨HW.out true⟩⟩
      · by_cases h4 : 4096 < n
        · obtain rfl : bd = true := by rw [← HBd.out]; simp [h4]
          go_wp2_with fail
          go_meet
          exact ⟨rfl, ⟨HP.out true⟩, ⟨HW.out true⟩⟩
        · obtain rfl : bd = false := by rw [← HBd.out]; simp [h0, h4]
          go_wp2_with fail
          go_meet
          exact ⟨rfl, ⟨HP.out false⟩, ⟨HW.out false⟩⟩
  case rest =>
  obtain ⟨rfl, HR0, HF0⟩ := hcut
  clear x1 f1 H1 F1 HP HW
  have hn4 : bd = false → n ≤ 4096 := fun hb => by have h := HBd.out; rw [hb] at h; simp at h; omega
  have HN4 := Aside0.mk hn4
  clear hn4 HBd
  go_wp2_with fail
  go_loopg [5, 6] (n.toNat + 2) (fun kq v5 v6 w' => ∃ (m : Int) (acc : List Ix) (s2 : RS), v5 = .int .i64 m ∧ Aside0 (kq = m.toNat + 2 ∧ m ≤ 9223372036854775807 ∧ acc.length + m.toNat ≤ n.toNat ∧ (s2.bad = false → n ≤ 4096) ∧ s2.b.length ≤ s.b.length) ∧ Aside0 (rloop rix m.toNat acc s2 = R) ∧ Aside0 (kix.R 67 w' W.heap.size (fun _ => True) v6 acc) ∧ Aside0 (Rd w' g s2) ∧ Aside0 (Fr (Only g) W w'))
  case atStart => exact ⟨n, [], ⟨b1, bd⟩, rfl, ⟨rfl, HNR.out, by simp, HN4.out, hb1⟩, HR, ⟨Kd.R_nil _ _ _ _ _⟩, HR0, HF0⟩
  case round =>
    clear HR HR0 HF0
    obtain ⟨m, acc, ⟨b2, bad2⟩, rfl, HJ, HR, HA, HRd, HF⟩ := hrel
    have x1 : wr.cell? ⟨g, 1, none⟩ = some (.bool bad2) := (blk_cell HRd.out 1).trans rfl
    have hws := HF.out.size
    by_cases hm : 0 < m
    · obtain ⟨k1, hk1⟩ : ∃ k1, m.toNat = k1 + 1 := ⟨m.toNat - 1, by omega⟩
      have hR := HR.out
      rw [hk1] at hR
      cases bad2 with
      | true =>
        have hR2 : (acc, (⟨b2, true⟩ : RS)) = R := by rw [← hR]; rfl
        obtain rfl := hR2
        clear hR
        go_wp2_with fail
        go_ret
        exact ⟨_, rfl, HA.out, HRd.out, HF.out⟩
      | false =>
        have hR2 : rloop rix k1 (acc ++ [(rix ⟨b2, false⟩).1]) (rix ⟨b2, false⟩).2 = R := by rw [← hR]; rfl
        have HR2 := Aside0.mk hR2
        have HK1 := Aside0.mk hk1
        have hb := rix_b ⟨b2, false⟩
        obtain ⟨x, hx⟩ : ∃ x, (rix ⟨b2, false⟩).1 = x := ⟨_, rfl⟩
        obtain ⟨s3, hs3⟩ : ∃ s3, (rix ⟨b2, false⟩).2 = s3 := ⟨_, rfl⟩
        have HX := Aside0.mk hx
        have HS3 := Aside0.mk hs3
        have HB3 := Aside0.mk hb
        clear hR hR2 hk1 hb hx hs3
        obtain ⟨kq1, rfl⟩ : ∃ kq1, gk = kq1 + 1 := ⟨gk - 1, by have := HJ.out; omega⟩
        go_wp2_with fail
        refine (rix_walk wr g ⟨b2, false⟩ HRd.out (Nat.le_trans HJ.out.2.2.2.2 hl)).mono ?_
        rw [HX.out, HS3.out]
        rintro e w3 ⟨Ax, cx, rfl, hri, h3, hf3⟩
        have HRi := Aside0.mk (Kd.R_lower (Kd.R_mono (Kd.R_bound hri) (ok' := fun k => wr.heap.size ≤ k) fun k hk => hk.2.1) hws)
        have HOw := Aside0.mk (fun k (hk : wr.heap.size ≤ k) => (⟨trivial, fun e => by obtain ⟨cells, hc⟩ := row_typed HA.out k e.symm; have := blk_lt hc; omega⟩ : True ∧ some k ≠ u6.ownBlock))
        clear hri
        have HA3 := Aside0.mk (R_only HA.out hf3 HL.out)
        have H3 := Aside0.mk h3
        have F3 := Aside0.mk (HF.out.trans hf3)
        have hw3 : W.heap.size ≤ w3.heap.size := F3.out.size
        clear h3 hf3 x1
        have hmw : wrap64 (m - 1) = m - 1 := by have := HJ.out.2.1; unfold wrap64; omega
        have hn6 : n ≤ 4096 := HJ.out.2.2.2.1 (by first | rfl | trivial)
        go_wp2_with ((with_reducible refine gate_builtin (b := .append) (xs := #[.tmp 35, .tmp 38]) rfl ?_); at_builtin; refine Kd.R_append kix (w0 := w3) W.heap.size rfl (.tmp 35) (.tmp 38) 28 67 (.agg #[.string ⟨#[]⟩, .slice none 0 0, .bool false]) 48 rfl Try.underlying28 info67 rfl (show 0 < 3 from by decide) (by decide) _ acc x [.string x.nm, .slice Ax x.cols.length cx, .bool x.uq] (fun _ => True) (fun k => wr.heap.size ≤ k) rfl rfl ⟨[.string x.nm], [.slice Ax x.cols.length cx, .bool x.uq], rfl, rfl, [.slice Ax x.cols.length cx], [.bool x.uq], rfl, ⟨_, rfl, HRi.out⟩, rfl⟩ HOw.out (fun _ _ => trivial) HA3.out (Below.refl _ _) hw3 (by have h1 := HJ.out.2.2.1; have h2 := HJ.out.2.2.2.1 (by first | rfl | trivial); omega) ?_; intro v4 w4 hr4 hb4 hg4 hat4; have HA4 := Aside0.mk hr4; have H4 := Aside0.mk (rd_low H3.out hb4 HL.out); have F4 := Aside0.mk (fr_low F3.out hb4); clear hr4 hb4 hg4 hat4)
        go_roundg kq1
        case measure => omega
        case rel => exact ⟨m - 1, acc ++ [x], s3, by go_num, ⟨by have h1 := HJ.out.1; have h2 := HK1.out; omega, by have := HJ.out.2.1; omega, by have h1 := HJ.out.2.2.1; have h2 := HK1.out; rw [List.length_append]; simp only [List.length_singleton]; omega, fun _ => hn6, by have h1 := HJ.out.2.2.2.2; have h2 := HB3.out; rw [HS3.out] at h2; exact Nat.le_trans h2 h1⟩, ⟨by have h2 := HK1.out; rw [show (m - 1).toNat = k1 by omega, ← HX.out, ← HS3.out]; exact HR2.out⟩, HA4, H4, F4⟩
    · have hR2 : (acc, (⟨b2, bad2⟩ : RS)) = R := by rw [← HR.out, show m.toNat = 0 by omega]; rfl
      obtain rfl := hR2
      go_wp2_with fail
      go_ret
      exact ⟨_, rfl, HA.out, HRd.out, HF.out⟩
end Go.Proofs.Ytjehbnhjaogfkaa.Sc
end

section
namespace Go.Proofs.Ytjehbnhjaogfkaa.Sc
open Go.RowKit Go.Lib Go.Maps Go.WideAt Go.WideShapes Go.Proofs.YtjehbnhjaogfkaaW.PrintWords Go.Proofs.YtjehbnhjaogfkaaW.PrintLast Go.Proofs.YtjehbnhjaogfkaaW.PrintMore
open Go.Proofs.Ytjehbnhjaogfkaa
set_option linter.unusedVariables false
set_option linter.unusedSimpArgs false
def rtab (s : RS) : Tb × RS :=
  let c := rlist rcol (rtext s).2
  let k := rnum c.2
  let x := rlist rix k.2
  (⟨str (rtext s).1, c.1, k.1, x.1⟩, x.2)
theorem rtab_b (s : RS) : (rtab s).2.b.length ≤ s.b.length := Nat.le_trans (rlist_b rix_b _) (Nat.le_trans (rnum_b _) (Nat.le_trans (rlist_b rcol_b _) (rtext_b s)))
/-- A row of the call's own, above q, lives on. -/
theorem R_up {α : Type} {d : Kd α} {e q g : Nat} {w w1 : World} {v : Value} {xs : List α} (h : d.R e w (q + 1) (fun k => q + 1 ≤ k) v xs) (hf : Fr (Only g) w w1) (hg : g < q + 1) : d.R e w1 (q + 1) (fun k => q + 1 ≤ k) v xs :=
  Kd.R_mono (Kd.R_move (Kd.R_bound h) fun k hk => hf.block k hk.2.2.1 fun e => by have := hk.1; unfold Only at e; omega) fun k hk => hk.1
theorem R_at {α : Type} {d : Kd α} {e q : Nat} {w : World} {v : Value} {xs : List α} (h : d.R e w (q + 1) (fun k => q + 1 ≤ k) v xs) (i : Nat) (u : Value) : d.R e (w.setCell ⟨q, i, none⟩ u) (q + 1) (fun k => q + 1 ≤ k) v xs := Kd.R_far h (p := ⟨q, i, none⟩) (fun k hk => by simp; omega) u
theorem R_in {α : Type} {d : Kd α} {e q base : Nat} {w : World} {v : Value} {xs : List α} (h : d.R e w base (fun _ => True) v xs) (hb : q + 1 ≤ base) : d.R e w (q + 1) (fun k => q + 1 ≤ k) v xs :=
  Kd.R_lower (Kd.R_mono (Kd.R_bound h) fun k hk => by have := hk.2.1; omega) hb
set_option maxRecDepth 100000 in
set_option maxHeartbeats 8000000 in
theorem rtab_walk (W : World) (g : Nat) (s : RS) (h : Rd W g s) (hl : s.b.length ≤ 1000000000) :
    Calls Try.prog 53 #[.pointer (some ⟨g, 0, none⟩)] W fun e W' => ∃ v, e = .returned v ∧ OwnTb (fun _ => True) W.heap.size W' v (rtab s).1 ∧ Rd W' g (rtab s).2 ∧ Fr (Only g) W W' := by
  obtain ⟨q, hq⟩ : ∃ q, W.heap.size = q := ⟨_, rfl⟩
  have hgq : g < q := by have := h.lt; omega
  have H := Aside0.mk (h.below (below_alloc (Below.refl _ W) (.cells #[.string ⟨#[]⟩, .slice none 0 0, .int .i64 0, .slice none 0 0] 30)))
  have HF := Aside0.mk ((Fr.refl (Only g) W).alloc (.cells #[.string ⟨#[]⟩, .slice none 0 0, .int .i64 0, .slice none 0 0] 30))
  have HX := Aside0.mk (show TbBox (W.alloc (.cells #[.string ⟨#[]⟩, .slice none 0 0, .int .i64 0, .slice none 0 0] 30)) q (.string ⟨#[]⟩) (.slice none 0 0) (.int .i64 0) (.slice none 0 0) from hq ▸ tbBox_made W _ _ _ _ _)
  have hle : W.heap.size ≤ q := Nat.le_of_eq hq
  have HQ := Aside0.mk hq
  obtain ⟨nm, hnm⟩ : ∃ nm, (rtext s).1 = nm := ⟨_, rfl⟩
  obtain ⟨s1, hs1⟩ : ∃ s1, (rtext s).2 = s1 := ⟨_, rfl⟩
  have hb1 := rtext_b s
  rw [hs1] at hb1
  obtain ⟨cols, hcl⟩ : ∃ cols, (rlist rcol s1).1 = cols := ⟨_, rfl⟩
  obtain ⟨s2, hs2⟩ : ∃ s2, (rlist rcol s1).2 = s2 := ⟨_, rfl⟩
  have hb2 := rlist_b rcol_b s1
  rw [hs2] at hb2
  obtain ⟨ky, hky⟩ : ∃ ky, (rnum s2).1 = ky := ⟨_, rfl⟩
  obtain ⟨s3, hs3⟩ : ∃ s3, (rnum s2).2 = s3 := ⟨_, rfl⟩
  have hb3 := rnum_b s2
  rw [hs3] at hb3
  obtain ⟨ixs, hix⟩ : ∃ ixs, (rlist rix s3).1 = ixs := ⟨_, rfl⟩
  obtain ⟨s4, hs4⟩ : ∃ s4, (rlist rix s3).2 = s4 := ⟨_, rfl⟩
  have hE : rtab s = (⟨str nm, cols, ky, ixs⟩, s4) := by unfold rtab; simp only; rw [hnm, hs1, hcl, hs2, hky, hs3, hix, hs4]
  rw [hE]
  have HN := Aside0.mk hnm
  have HS1 := Aside0.mk hs1
  have HCl := Aside0.mk hcl
  have HS2 := Aside0.mk hs2
  have HKy := Aside0.mk hky
  have HS3 := Aside0.mk hs3
  have HIx := Aside0.mk hix
  have HS4 := Aside0.mk hs4
  clear h hnm hs1 hcl hs2 hky hs3 hix hs4 hE
  go_enter Try.func53, Try.ntmps53
  go_wp2_with fail
  clear hq
  have hsz0 := HX.out.lt
  generalize W.alloc (.cells #[.string ⟨#[]⟩, .slice none 0 0, .int .i64 0, .slice none 0 0] 30) = w0 at *
  refine (rtext_walk w0 g s H.out hl).mono ?_
  rw [HN.out, HS1.out]
  rintro e w1 ⟨rfl, h1, hf1⟩
  have hx1 := HX.out.fr hf1 (fun e => by unfold Only at e; omega)
  have c0 := hx1.c0
  have f0 := hx1.fz 0
  have HX1 := Aside0.mk (hx1.set0 (.string (str nm)))
  have H1 := Aside0.mk (h1.far (p := ⟨q, 0, none⟩) (fun e => by simp at e; omega) (.string (str nm)))
  have HF1 := Aside0.mk ((HF.out.trans hf1).set (p := ⟨q, 0, none⟩) (.inr hle) (.string (str nm)))
  clear h1 hf1 hx1
  go_wp2_with fail
  clear c0 f0
  generalize w1.setCell ⟨q, 0, none⟩ (.string (str nm)) = w2 at *
  have hsz2 := HX1.out.lt
  refine (rlistC_walk w2 g s1 H1.out (by omega)).mono ?_
  rw [HCl.out, HS2.out]
  rintro e w3 ⟨v1, rfl, hr3, h3, hf3⟩
  obtain ⟨A, c, rfl⟩ := Kd.R_slice hr3
  have hx3 := HX1.out.fr hf3 (fun e => by unfold Only at e; omega)
  have c1 := hx3.c1
  have f1 := hx3.fz 1
  have HX3 := Aside0.mk (hx3.set1 (.slice A cols.length c))
  have H3 := Aside0.mk (h3.far (p := ⟨q, 1, none⟩) (fun e => by simp at e; omega) (.slice A cols.length c))
  have HF3 := Aside0.mk ((HF1.out.trans hf3).set (p := ⟨q, 1, none⟩) (.inr hle) (.slice A cols.length c))
  have HR3 := Aside0.mk (R_at (R_in hr3 hsz2) 1 (.slice A cols.length c))
  clear h3 hf3 hx3 hr3
  go_wp2_with fail
  clear c1 f1
  generalize w3.setCell ⟨q, 1, none⟩ (.slice A cols.length c) = w4 at *
  refine (rplace_walk w4 g s2 H3.out (by omega)).mono ?_
  rw [HKy.out, HS3.out]
  rintro e w5 ⟨rfl, h5, hf5⟩
  have hx5 := HX3.out.fr hf5 (fun e => by unfold Only at e; omega)
  have c2 := hx5.c2
  have f2 := hx5.fz 2
  have HX5 := Aside0.mk (hx5.set2 (.int .i64 ky))
  have H5 := Aside0.mk (h5.far (p := ⟨q, 2, none⟩) (fun e => by simp at e; omega) (.int .i64 ky))
  have HF5 := Aside0.mk ((HF3.out.trans hf5).set (p := ⟨q, 2, none⟩) (.inr hle) (.int .i64 ky))
  have HR5 := Aside0.mk (R_at (R_up HR3.out hf5 (by omega)) 2 (.int .i64 ky))
  clear h5 hf5 hx5
  go_wp2_with fail
  clear c2 f2
  generalize w5.setCell ⟨q, 2, none⟩ (.int .i64 ky) = w6 at *
  have hsz6 := HX5.out.lt
  refine (rlistX_walk w6 g s3 H5.out (by omega)).mono ?_
  rw [HIx.out, HS4.out]
  rintro e w7 ⟨v3, rfl, hr7, h7, hf7⟩
  obtain ⟨B, d, rfl⟩ := Kd.R_slice hr7
  have hx7 := HX5.out.fr hf7 (fun e => by unfold Only at e; omega)
  have c0 := hx7.c0
  have c1 := hx7.c1
  have c2 := hx7.c2
  have c3 := hx7.c3
  have f0 := hx7.fz 0
  have f1 := hx7.fz 1
  have f2 := hx7.fz 2
  have f3 := hx7.fz 3
  have HX8 := Aside0.mk (((((hx7.set3 (.slice B ixs.length d)).set0 (.string (str nm))).set1 (.slice A cols.length c)).set2 (.int .i64 ky)).set3 (.slice B ixs.length d))
  have H8 := Aside0.mk (((((h7.far (p := ⟨q, 3, none⟩) (fun e => by simp at e; omega) (.slice B ixs.length d)).far (p := ⟨q, 0, none⟩) (fun e => by simp at e; omega) (.string (str nm))).far (p := ⟨q, 1, none⟩) (fun e => by simp at e; omega) (.slice A cols.length c)).far (p := ⟨q, 2, none⟩) (fun e => by simp at e; omega) (.int .i64 ky)).far (p := ⟨q, 3, none⟩) (fun e => by simp at e; omega) (.slice B ixs.length d))
  have HF8 := Aside0.mk ((((((HF5.out.trans hf7).set (p := ⟨q, 3, none⟩) (.inr hle) (.slice B ixs.length d)).set (p := ⟨q, 0, none⟩) (.inr hle) (.string (str nm))).set (p := ⟨q, 1, none⟩) (.inr hle) (.slice A cols.length c)).set (p := ⟨q, 2, none⟩) (.inr hle) (.int .i64 ky)).set (p := ⟨q, 3, none⟩) (.inr hle) (.slice B ixs.length d))
  have HR8 := Aside0.mk (R_at (R_at (R_at (R_at (R_at (R_up HR5.out hf7 (by omega)) 3 (.slice B ixs.length d)) 0 (.string (str nm))) 1 (.slice A cols.length c)) 2 (.int .i64 ky)) 3 (.slice B ixs.length d))
  have HY8 := Aside0.mk (R_at (R_at (R_at (R_at (R_at (R_in hr7 hsz6) 3 (.slice B ixs.length d)) 0 (.string (str nm))) 1 (.slice A cols.length c)) 2 (.int .i64 ky)) 3 (.slice B ixs.length d))
  clear h7 hf7 hx7 hr7
  go_wp2_with fail
  clear c0 c1 c2 c3 f0 f1 f2 f3
  generalize ((((w7.setCell ⟨q, 3, none⟩ (.slice B ixs.length d)).setCell ⟨q, 0, none⟩ (.string (str nm))).setCell ⟨q, 1, none⟩ (.slice A cols.length c)).setCell ⟨q, 2, none⟩ (.int .i64 ky)).setCell ⟨q, 3, none⟩ (.slice B ixs.length d) = w9 at *
  have z0 := HX8.out.c0
  have z1 := HX8.out.c1
  have z2 := HX8.out.c2
  have z3 := HX8.out.c3
  refine bodyPost_ret (v := .agg #[.string (str nm), .slice A cols.length c, .int .i64 ky, .slice B ixs.length d]) (by first | (go_simp; done) | (simp [results, Try.f53, go_sem, z0, z1, z2, z3]; done) | (simp [results, Try.f53, go_sem, z0, z1, z2, z3]; rfl)) rfl ?_
  exact ⟨_, rfl, ⟨_, _, rfl, Kd.R_mono (Kd.R_lower HR8.out (by omega)) (fun _ _ => trivial), Kd.R_mono (Kd.R_lower HY8.out (by omega)) (fun _ _ => trivial)⟩, H8.out, HF8.out⟩
end Go.Proofs.Ytjehbnhjaogfkaa.Sc
end
