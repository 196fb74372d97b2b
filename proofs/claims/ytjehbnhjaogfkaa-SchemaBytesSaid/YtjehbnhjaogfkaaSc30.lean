import Derived.Test.YtjehbnhjaogfkaaSc18
namespace Go.Proofs.Ytjehbnhjaogfkaa.Sc
open Go.RowKit Go.Lib Go.Maps Go.WideAt Go.WideShapes Go.Proofs.YtjehbnhjaogfkaaW.PrintWords Go.Proofs.YtjehbnhjaogfkaaW.PrintLast Go.Proofs.YtjehbnhjaogfkaaW.PrintMore
open Go.Proofs.Ytjehbnhjaogfkaa
set_option linter.unusedVariables false
set_option linter.unusedSimpArgs false
/-! The reader, plainly: what is left, and whether it is bad. -/
structure RS where
  b : List UInt8
  bad : Bool
def str (l : List UInt8) : ByteArray := ⟨l.toArray⟩
theorem str_list (l : List UInt8) : (str l).data.toList = l := rfl
theorem str_size (l : List UInt8) : (str l).size = l.length := by show l.toArray.size = l.length; simp
def rtake (s : RS) (n : Int) : List UInt8 × RS := if s.bad = true ∨ n < 0 ∨ (s.b.length : Int) < n then ([], ⟨s.b, true⟩) else (s.b.take n.toNat, ⟨s.b.drop n.toNat, s.bad⟩)
/-- The reader at block g. -/
def Rd (W : World) (g : Nat) (s : RS) : Prop := W.heap[g]? = some (.cells #[.string (str s.b), .bool s.bad] 107 (0, 0))
abbrev Only (g : Nat) : Nat → Prop := fun k => k = g
theorem ext_take (l : List UInt8) (n : Nat) : (str l).extract 0 n = str (l.take n) := by
  apply ba_ext
  simp [str, ByteArray.data_extract]
theorem ext_drop (l : List UInt8) (n : Nat) : (str l).extract n l.length = str (l.drop n) := by
  apply ba_ext
  simp [str, ByteArray.data_extract]
  rw [List.take_of_length_le (by simp)]
theorem fr_set (W : World) (g i : Nat) (v : Value) : Fr (Only g) W (W.setCell ⟨g, i, none⟩ v) := (Fr.refl (Only g) W).set (.inl rfl) v
theorem take_walk (W : World) (g : Nat) (s : RS) (n : Int) (h : Rd W g s) (hl : s.b.length ≤ 1000000000) :
    Calls Try.prog 102 #[.pointer (some ⟨g, 0, none⟩), .int .i64 n] W fun e W' => e = .returned (.string (str (rtake s n).1)) ∧ Rd W' g (rtake s n).2 ∧ Fr (Only g) W W' := by
  obtain ⟨b, bad⟩ := s
  have c0 : W.cell? ⟨g, 0, none⟩ = some (.string (str b)) := (blk_cell h 0).trans rfl
  have c1 : W.cell? ⟨g, 1, none⟩ = some (.bool bad) := (blk_cell h 1).trans rfl
  have f0 : W.frozen? ⟨g, 0, none⟩ = false := blk_frozen h 0
  have f1 : W.frozen? ⟨g, 1, none⟩ = false := blk_frozen h 1
  have hsz := str_size b
  have H := Aside0.mk h
  clear h
  simp only at hl
  by_cases hc : bad = true ∨ n < 0 ∨ (b.length : Int) < n
  · have e : rtake ⟨b, bad⟩ n = ([], ⟨b, true⟩) := if_pos hc
    rw [e]
    have HE := Aside0.mk (show Rd (W.setCell ⟨g, 1, none⟩ (.bool true)) g ⟨b, true⟩ from blk_put H.out 1 (.bool true) rfl)
    rcases hc with rfl | hc | hc
    · go_enter Try.func102, Try.ntmps102
      go_wp2_with fail
      go_ret
      exact ⟨rfl, HE.out, fr_set W g _ _⟩
    · cases bad with
      | true =>
        go_enter Try.func102, Try.ntmps102
        go_wp2_with fail
        go_ret
        exact ⟨rfl, HE.out, fr_set W g _ _⟩
      | false =>
        go_enter Try.func102, Try.ntmps102
        go_wp2_with fail
        go_ret
        exact ⟨rfl, HE.out, fr_set W g _ _⟩
    · cases bad with
      | true =>
        go_enter Try.func102, Try.ntmps102
        go_wp2_with fail
        go_ret
        exact ⟨rfl, HE.out, fr_set W g _ _⟩
      | false =>
        have hc0 : ¬ n < 0 := by omega
        go_enter Try.func102, Try.ntmps102
        go_wp2_with fail
        go_ret
        exact ⟨rfl, HE.out, fr_set W g _ _⟩
  · have e : rtake ⟨b, bad⟩ n = (b.take n.toNat, ⟨b.drop n.toNat, bad⟩) := if_neg hc
    rw [e]
    have hb : bad = false := by cases bad <;> simp_all
    subst hb
    obtain ⟨k, rfl⟩ := Int.eq_ofNat_of_zero_le (show 0 ≤ n by omega)
    have hk : k ≤ b.length := by omega
    have hc1 : ¬ (k : Int) < 0 := by omega
    have hc2 : ¬ (b.length : Int) < (k : Int) := by omega
    have HE := Aside0.mk (show Rd (W.setCell ⟨g, 0, none⟩ (.string (str (b.drop k)))) g ⟨b.drop k, false⟩ from blk_put H.out 0 (.string (str (b.drop k))) rfl)
    have HT := Aside0.mk (ext_take b k)
    have HD := Aside0.mk (ext_drop b k)
    clear hc e
    go_enter Try.func102, Try.ntmps102
    go_wp2_with fail
    rw [HT.out, HD.out]
    go_ret
    exact ⟨rfl, HE.out, fr_set W g _ _⟩
/-! Numbers. -/
def fromle : List UInt8 → Int
  | [] => 0
  | c :: r => (c.toNat : Int) + 256 * fromle r
def toI (u : Int) : Int := wrap64 u
def rnum (s : RS) : Int × RS := (toI (fromle (rtake s 8).1), (rtake s 8).2)
theorem rtake_len (s : RS) (n : Nat) : (rtake s n).1.length ≤ n := by
  unfold rtake
  split
  · simp
  · simp only [List.length_take, Int.toNat_natCast]; omega
theorem fromle_nn (l : List UInt8) : 0 ≤ fromle l ∧ fromle l < 256 ^ l.length := by
  induction l with
  | nil => exact ⟨Int.le_refl _, by decide⟩
  | cons c r ih =>
    have hc := c.toNat_lt
    rw [fromle, List.length_cons, Int.pow_succ]
    omega
theorem fromle_app (a b : List UInt8) : fromle (a ++ b) = fromle a + 256 ^ a.length * fromle b := by
  induction a with
  | nil => simp [fromle]
  | cons c r ih => rw [List.cons_append, fromle, fromle, ih, List.length_cons, Int.pow_succ, Int.mul_add, ← Int.add_assoc, ← Int.mul_assoc, Int.mul_comm 256 (256 ^ r.length)]
theorem fromle_take (l : List UInt8) (i : Nat) (h : i < l.length) : fromle (l.take (i + 1)) = fromle (l.take i) + 256 ^ i * ((l[i]).toNat : Int) := by
  rw [List.take_succ_eq_append_getElem h, fromle_app, List.length_take, Nat.min_eq_left (by omega)]
  simp [fromle]
theorem u64_w (n : Int) (h0 : 0 ≤ n) (h1 : n < 2 ^ 64) : IntKind.u64.wrap n = n := by rw [IntKind.wrap_u64]; omega
theorem or_shift (a : Int) (c : UInt8) (i : Nat) (h0 : 0 ≤ a) (h1 : a < 256 ^ i) (hi : i < 8) : bits .or .u64 a (IntKind.u64.wrap (IntKind.u64.wrap (c.toNat : Int) * 2 ^ (8 * i))) = a + 256 ^ i * (c.toNat : Int) := by
  obtain ⟨x, rfl⟩ := Int.eq_ofNat_of_zero_le h0
  have hc := c.toNat_lt
  have e1 : (256 : Int) ^ i = ((2 ^ (8 * i) : Nat) : Int) := by rw [show (256 : Int) = ((2 ^ 8 : Nat) : Int) from rfl, Nat.pow_mul, Int.natCast_pow (2 ^ 8) i]
  have hx : x < 2 ^ (8 * i) := by rw [e1] at h1; exact_mod_cast h1
  have hp : 2 ^ (8 * i) * 256 ≤ 2 ^ 64 := by
    have : 2 ^ (8 * i) * 256 = 2 ^ (8 * i + 8) := by rw [Nat.pow_add]
    rw [this]
    exact Nat.pow_le_pow_right (by decide) (by omega)
  have hcp : 2 ^ (8 * i) * c.toNat < 2 ^ 64 := Nat.lt_of_lt_of_le (Nat.mul_lt_mul_of_pos_left hc (Nat.two_pow_pos _)) hp
  have hxl : x < 2 ^ 64 := Nat.lt_of_lt_of_le hx (Nat.le_trans (Nat.le_mul_of_pos_right _ (by decide)) hp)
  have e2 : IntKind.u64.wrap (IntKind.u64.wrap (c.toNat : Int) * 2 ^ (8 * i)) = ((2 ^ (8 * i) * c.toNat : Nat) : Int) := by
    have h3 : IntKind.u64.wrap (c.toNat : Int) = (c.toNat : Int) := u64_w _ (by omega) (by omega)
    have h4 : (c.toNat : Int) * 2 ^ (8 * i) = ((2 ^ (8 * i) * c.toNat : Nat) : Int) := by rw [Int.natCast_mul, Int.natCast_pow, Int.mul_comm]; rfl
    rw [h3, h4]
    exact u64_w _ (by omega) (by exact_mod_cast hcp)
  rw [e2, (bits_nat .u64 64 (by decide) u64_w x _ hxl hcp).2, Nat.or_comm, ← Nat.two_pow_add_eq_or_of_lt hx, e1]
  rw [Int.natCast_add, Int.natCast_mul, Int.add_comm]
set_option maxRecDepth 100000 in
set_option maxHeartbeats 4000000 in
theorem rnum_walk (W : World) (g : Nat) (s : RS) (h : Rd W g s) (hl : s.b.length ≤ 1000000000) :
    Calls Try.prog 103 #[.pointer (some ⟨g, 0, none⟩)] W fun e W' => e = .returned (.int .i64 (rnum s).1) ∧ Rd W' g (rnum s).2 ∧ Fr (Only g) W W' := by
  have H := Aside0.mk h
  clear h
  obtain ⟨t, ht⟩ : ∃ t, (rtake s 8).1 = t := ⟨_, rfl⟩
  have hsz := str_size t
  have htl : t.length ≤ 8 := by rw [← ht]; exact rtake_len s 8
  have HT := Aside0.mk ht
  clear ht
  go_enter Try.func103, Try.ntmps103
  go_wp2_with (go_at_call 102; refine (take_walk _ g s 8 H.out hl).mono ?_; rw [HT.out]; rintro e w1 ⟨rfl, h1, hf1⟩; have hcv := Lib.run_convert_string_bytes w1 9 74 5 (str t) Try.underlying9 Try.underlying74 Try.underlying5; have H1 := Aside0.mk h1; have F1 := Aside0.mk hf1; clear h1 hf1)
  clear hcv
  have HB := Aside0.mk (bytes_below (Below.refl w1.heap.size w1) (Nat.le_refl _) 5 (str t))
  have HC := Aside0.mk (fun j hj => Lib.bytesWorld_cell w1 5 (str t) j hj)
  generalize Lib.bytesWorld w1 5 (str t) = w2 at *
  go_loopg [3, 10] (t.length + 1) (fun kq v3 v10 w' => ∃ i : Nat, v10 = .int .i64 (i : Int) ∧ v3 = .int .u64 (fromle (t.take i)) ∧ Aside0 (i + kq = t.length + 1 ∧ i ≤ t.length) ∧ w' = w2)
  case atStart => exact ⟨0, rfl, rfl, ⟨by omega, Nat.zero_le _⟩, rfl⟩
  case round =>
    obtain ⟨i, rfl, rfl, HJ, rfl⟩ := hrel
    by_cases hi : i < t.length
    · obtain ⟨kq1, rfl⟩ : ∃ kq1, gk = kq1 + 1 := ⟨gk - 1, by have := HJ.out; omega⟩
      have hii : (i : Int) < (t.length : Int) := by omega
      have x0 : wr.cell? ⟨w1.heap.size, i, none⟩ = some (.int .u8 ((t[i]).toNat : Int)) := by
        have h := HC.out i (by rw [hsz]; exact hi)
        rw [str_list, List.getD_eq_getElem?_getD, List.getElem?_eq_getElem hi] at h
        exact h
      obtain ⟨c, hc⟩ : ∃ c, t[i] = c := ⟨_, rfl⟩
      rw [hc] at x0
      obtain ⟨a, ha⟩ : ∃ a, fromle (t.take i) = a := ⟨_, rfl⟩
      rw [ha]
      have hor := or_shift a c i (by rw [← ha]; exact (fromle_nn _).1) (by rw [← ha]; have h := (fromle_nn (t.take i)).2; rwa [List.length_take, Nat.min_eq_left (by omega)] at h) (by omega)
      have hnx : fromle (t.take (i + 1)) = a + 256 ^ i * (c.toNat : Int) := by rw [fromle_take t i hi, ha, hc]
      have HN := Aside0.mk hnx
      have HI := Aside0.mk hi
      have HO := Aside0.mk hor
      clear hnx hi hor ha hc
      go_wp2_with fail
      go_roundg kq1
      case measure => have := HJ.out; omega
      case rel => exact ⟨i + 1, by go_num, by rw [HN.out, ← HO.out], ⟨by have := HJ.out; omega, by have := HI.out; omega⟩, rfl⟩
    · have hii : ¬ (i : Int) < (t.length : Int) := by omega
      have hil : i = t.length := by have := HJ.out; omega
      subst hil
      rw [List.take_length]
      go_wp2_with fail
      have hr : rnum s = (toI (fromle t), (rtake s 8).2) := by unfold rnum; rw [HT.out]
      have HRn := Aside0.mk hr
      clear hr
      go_ret
      rw [HRn.out]
      exact ⟨rfl, blk_below H1.out HB.out, F1.out.trans (Fr.of_below HB.out)⟩
end Go.Proofs.Ytjehbnhjaogfkaa.Sc
