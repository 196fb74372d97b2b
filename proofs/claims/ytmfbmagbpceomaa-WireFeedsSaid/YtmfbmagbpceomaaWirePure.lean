import Derived.Test.YtmfbmagbpceomaaWireWorks
namespace Go.Proofs.Ytmfbmagbpceomaa.Wire
open Go.RowKit Go.Proofs.YtmfbmagbpceomaaW.PrintWords Go.Proofs.YtmfbmagbpceomaaW.PrintLast Go.Proofs.YtmfbmagbpceomaaW.PrintMore
set_option linter.unusedVariables false
set_option linter.unusedSimpArgs false
/-- Feed's loop, told by the bytes that are left. -/
def pr : Nat → List Int → List ByteArray × Int × List Int × Bool
  | 0, xs => ([], 0, xs, false)
  | k + 1, xs =>
    if xs.length < 4 then ([], 0, xs, false) else
    if 65536 < be4 (rd xs 0) (rd xs 1) (rd xs 2) (rd xs 3) then ([], 70, [], true) else
    if xs.length < 4 + (be4 (rd xs 0) (rd xs 1) (rd xs 2) (rd xs 3)).toNat then ([], 0, xs, false) else
    (strOfNums ((xs.drop 4).take (be4 (rd xs 0) (rd xs 1) (rd xs 2) (rd xs 3)).toNat) :: (pr k (xs.drop (4 + (be4 (rd xs 0) (rd xs 1) (rd xs 2) (rd xs 3)).toNat))).1, (pr k (xs.drop (4 + (be4 (rd xs 0) (rd xs 1) (rd xs 2) (rd xs 3)).toNat))).2)
theorem rd_drop (xs : List Int) (a b : Nat) : rd (xs.drop a) (b : Nat) = rd xs (a + b : Nat) := by
  unfold rd
  simp only [Int.toNat_natCast, List.getD_eq_getElem?_getD, List.getElem?_drop]
theorem fl_pr (all : List Int) : ∀ (k : Nat) (acc : List ByteArray) (at_ : Nat), at_ ≤ all.length → fl k all acc at_ = (acc ++ (pr k (all.drop at_)).1, (pr k (all.drop at_)).2) := by
  intro k
  induction k with
  | zero => intro acc at_ h; simp [fl, pr]
  | succ k ih =>
    intro acc at_ h
    unfold fl
    have e0 := rd_drop all at_ 0
    have e1 := rd_drop all at_ 1
    have e2 := rd_drop all at_ 2
    have e3 := rd_drop all at_ 3
    simp only [Nat.add_zero] at e0
    rw [← e0, ← e1, ← e2, ← e3]
    have hr := be4_range (rd (all.drop at_) (0 : Nat)) (rd (all.drop at_) (1 : Nat)) (rd (all.drop at_) (2 : Nat)) (rd (all.drop at_) (3 : Nat))
    have hp : pr (k + 1) (all.drop at_) = (let L := be4 (rd (all.drop at_) (0 : Nat)) (rd (all.drop at_) (1 : Nat)) (rd (all.drop at_) (2 : Nat)) (rd (all.drop at_) (3 : Nat));
      if (all.drop at_).length < 4 then ([], 0, all.drop at_, false) else if 65536 < L then ([], 70, [], true) else if (all.drop at_).length < 4 + L.toNat then ([], 0, all.drop at_, false) else
      (strOfNums (((all.drop at_).drop 4).take L.toNat) :: (pr k ((all.drop at_).drop (4 + L.toNat))).1, (pr k ((all.drop at_).drop (4 + L.toNat))).2)) := rfl
    rw [hp]
    generalize be4 (rd (all.drop at_) (0 : Nat)) (rd (all.drop at_) (1 : Nat)) (rd (all.drop at_) (2 : Nat)) (rd (all.drop at_) (3 : Nat)) = L at *
    simp only [List.length_drop, List.drop_drop]
    by_cases q1 : all.length < at_ + 4
    · rw [if_pos q1, if_pos (show all.length - at_ < 4 by omega)]; simp
    · rw [if_neg q1, if_neg (show ¬ all.length - at_ < 4 by omega)]
      by_cases q2 : 65536 < L
      · rw [if_pos q2, if_pos q2]; simp
      · rw [if_neg q2, if_neg q2]
        by_cases q3 : all.length < at_ + 4 + L.toNat
        · rw [if_pos q3, if_pos (show all.length - at_ < 4 + L.toNat by omega)]; simp
        · rw [if_neg q3, if_neg (show ¬ all.length - at_ < 4 + L.toNat by omega), ih _ _ (by omega)]
          simp [Nat.add_assoc]
/-- Four bytes of a length, the highest first. -/
def hd4 (n : Nat) : List Int := [((n / 16777216 % 256 : Nat) : Int), ((n / 65536 % 256 : Nat) : Int), ((n / 256 % 256 : Nat) : Int), ((n % 256 : Nat) : Int)]
def encL (s : ByteArray) : List Int := hd4 s.size ++ bytesOf s
def encs : List ByteArray → List Int
  | [] => []
  | s :: l => encL s ++ encs l
theorem u32w' (n : Int) (h0 : 0 ≤ n) (h1 : n < 2 ^ 32) : IntKind.u32.wrap n = n := by
  have hs : IntKind.u32.signed = false := rfl
  have e : (2 : Int) ^ IntKind.u32.bits = 4294967296 := rfl
  simp only [IntKind.wrap, hs, e, Bool.false_and, Bool.false_eq_true, if_false]
  omega
theorem or32_join (i : Nat) (hi : i ≤ 32) (x y : Int) (hx0 : 0 ≤ x) (hx : x < 2 ^ i) (hy0 : 0 ≤ y) (hy : y % 2 ^ i = 0) (hy1 : y < 4294967296) (hx1 : x < 4294967296) : Go.bits .or .u32 y x = y + x :=
  Go.bits_join .u32 32 (by decide) u32w' i y x hy0 hy (by omega) hx0 hx (by omega)
theorem be4_eq (a b c d : Int) (ha : 0 ≤ a ∧ a < 256) (hb : 0 ≤ b ∧ b < 256) (hc : 0 ≤ c ∧ c < 256) (hd : 0 ≤ d ∧ d < 256) : be4 a b c d = a * 16777216 + b * 65536 + c * 256 + d := by
  unfold be4
  rw [show a % 4294967296 * 16777216 % 4294967296 = a * 16777216 by omega, show b % 4294967296 * 65536 % 4294967296 = b * 65536 by omega, show c % 4294967296 * 256 % 4294967296 = c * 256 by omega, show d % 4294967296 = d by omega]
  rw [or32_join 24 (by decide) (b * 65536) (a * 16777216) (by omega) (by omega) (by omega) (by omega) (by omega) (by omega)]
  rw [or32_join 16 (by decide) (c * 256) _ (by omega) (by omega) (by omega) (by omega) (by omega) (by omega)]
  exact or32_join 8 (by decide) d _ (by omega) (by omega) (by omega) (by omega) (by omega) (by omega)
theorem be4_hd4 (n : Nat) (h : n < 4294967296) (xs : List Int) : be4 (rd (hd4 n ++ xs) 0) (rd (hd4 n ++ xs) 1) (rd (hd4 n ++ xs) 2) (rd (hd4 n ++ xs) 3) = n := by
  have e0 : rd (hd4 n ++ xs) 0 = ((n / 16777216 % 256 : Nat) : Int) := rfl
  have e1 : rd (hd4 n ++ xs) 1 = ((n / 65536 % 256 : Nat) : Int) := rfl
  have e2 : rd (hd4 n ++ xs) 2 = ((n / 256 % 256 : Nat) : Int) := rfl
  have e3 : rd (hd4 n ++ xs) 3 = ((n % 256 : Nat) : Int) := rfl
  rw [e0, e1, e2, e3, be4_eq _ _ _ _ (by omega) (by omega) (by omega) (by omega)]
  omega
theorem strOfNums_bytesOf (b : ByteArray) : strOfNums (bytesOf b) = b := by
  cases b with
  | mk d =>
    unfold strOfNums bytesOf
    congr 1
    apply Array.ext'
    simp [Function.comp_def]
theorem hd4_len (n : Nat) : (hd4 n).length = 4 := rfl
theorem encL_len (s : ByteArray) : (encL s).length = 4 + s.size := by simp [encL, hd4_len, bytesOf_length]
theorem pr_succ (k : Nat) (xs : List Int) : pr (k + 1) xs = if xs.length < 4 then ([], 0, xs, false) else
    if 65536 < be4 (rd xs 0) (rd xs 1) (rd xs 2) (rd xs 3) then ([], 70, [], true) else
    if xs.length < 4 + (be4 (rd xs 0) (rd xs 1) (rd xs 2) (rd xs 3)).toNat then ([], 0, xs, false) else
    (strOfNums ((xs.drop 4).take (be4 (rd xs 0) (rd xs 1) (rd xs 2) (rd xs 3)).toNat) :: (pr k (xs.drop (4 + (be4 (rd xs 0) (rd xs 1) (rd xs 2) (rd xs 3)).toNat))).1, (pr k (xs.drop (4 + (be4 (rd xs 0) (rd xs 1) (rd xs 2) (rd xs 3)).toNat))).2) := rfl
theorem pr_nil (k : Nat) : pr k [] = ([], 0, [], false) := by cases k <;> rfl
/-- A whole packet ahead. -/
theorem pr_cons (k : Nat) (s : ByteArray) (xs : List Int) (h : s.size ≤ 65536) : pr (k + 1) (encL s ++ xs) = (s :: (pr k xs).1, (pr k xs).2) := by
  have hb : be4 (rd (encL s ++ xs) 0) (rd (encL s ++ xs) 1) (rd (encL s ++ xs) 2) (rd (encL s ++ xs) 3) = s.size := by
    rw [encL, List.append_assoc]; exact be4_hd4 _ (by omega) _
  have hl : (encL s ++ xs).length = 4 + s.size + xs.length := by rw [List.length_append, encL_len]
  rw [pr_succ, hb, if_neg (by omega), if_neg (by omega), Int.toNat_natCast, if_neg (by omega)]
  have d1 : (encL s ++ xs).drop (4 + s.size) = xs := by rw [← encL_len s, List.drop_left]
  have d2 : ((encL s ++ xs).drop 4).take s.size = bytesOf s := by
    rw [encL, List.append_assoc, ← hd4_len s.size, List.drop_left, ← bytesOf_length s, List.take_left]
  rw [d1, d2, strOfNums_bytesOf]
/-- A packet that is not whole. -/
theorem pr_short (k : Nat) (s : ByteArray) (xs ys zs : List Int) (h : s.size ≤ 65536) (he : encL s ++ ys = xs ++ zs) (hx : xs.length < 4 + s.size) : pr k xs = ([], 0, xs, false) := by
  cases k with
  | zero => rfl
  | succ k =>
    rw [pr_succ]
    by_cases h4 : xs.length < 4
    · rw [if_pos h4]
    · obtain ⟨x, rfl⟩ : ∃ x, xs = hd4 s.size ++ x := by
        refine ⟨xs.drop 4, ?_⟩
        have e := congrArg (List.take 4) he
        rw [List.take_append_of_le_length (show 4 ≤ (encL s).length by rw [encL_len]; omega), encL, List.take_append_of_le_length (show 4 ≤ (hd4 s.size).length by rw [hd4_len]; omega), List.take_append_of_le_length (show 4 ≤ xs.length by omega), List.take_of_length_le (by rw [hd4_len]; omega)] at e
        rw [e, List.take_append_drop]
      rw [if_neg h4, be4_hd4 _ (by omega), if_neg (by omega), Int.toNat_natCast, if_pos hx]
/-- Whatever of good packets has come, the whole ones are given out, the rest is kept. -/
theorem pr_encs : ∀ (Bs : List ByteArray), (∀ s ∈ Bs, s.size ≤ 65536) → ∀ (xs rest : List Int), encs Bs = xs ++ rest → ∀ k, Bs.length < k →
    ∃ m kept, m ≤ Bs.length ∧ pr k xs = (Bs.take m, 0, kept, false) ∧ encs (Bs.drop m) = kept ++ rest ∧ (rest = [] → m = Bs.length ∧ kept = []) := by
  intro Bs
  induction Bs with
  | nil =>
    intro _ xs rest he k _
    have : xs = [] ∧ rest = [] := by simpa [encs] using he.symm
    obtain ⟨rfl, rfl⟩ := this
    exact ⟨0, [], Nat.le_refl _, by rw [pr_nil]; rfl, by simp [encs], fun _ => ⟨rfl, rfl⟩⟩
  | cons s Bs ih =>
    intro hs xs rest he k hk
    have h1 := hs s (by simp)
    rw [encs] at he
    by_cases hx : xs.length < 4 + s.size
    · refine ⟨0, xs, Nat.zero_le _, by rw [pr_short k s xs _ rest h1 he hx]; rfl, by simpa [encs] using he, fun h0 => ?_⟩
      have := congrArg List.length he
      rw [List.length_append, List.length_append, encL_len, h0] at this
      simp at this; omega
    · obtain ⟨x, rfl⟩ : ∃ x, xs = encL s ++ x := by
        refine ⟨xs.drop (4 + s.size), ?_⟩
        have e := congrArg (List.take (4 + s.size)) he
        rw [List.take_append_of_le_length (by rw [encL_len]; omega), List.take_append_of_le_length (by omega), List.take_of_length_le (by rw [encL_len]; omega)] at e
        rw [e, List.take_append_drop]
      rw [List.append_assoc] at he
      obtain ⟨k, rfl⟩ : ∃ k', k = k' + 1 := ⟨k - 1, by omega⟩
      obtain ⟨m, kept, a1, a2, a3, a4⟩ := ih (fun t ht => hs t (by simp [ht])) x rest (List.append_cancel_left he) k (by simp at hk; omega)
      refine ⟨m + 1, kept, by simp; omega, ?_, by simpa using a3, fun h0 => ?_⟩
      · rw [pr_cons k s x h1, a2]; rfl
      · obtain ⟨b1, b2⟩ := a4 h0
        exact ⟨by simp [b1], b2⟩
/-- Behind a length that is too great. -/
theorem pr_bad (n : Nat) (hn : 65536 < n) (hn2 : n < 4294967296) (ys : List Int) : ∀ (Bs : List ByteArray), (∀ s ∈ Bs, s.size ≤ 65536) → ∀ k, Bs.length < k → pr k (encs Bs ++ (hd4 n ++ ys)) = (Bs, 70, [], true) := by
  intro Bs
  induction Bs with
  | nil =>
    intro _ k hk
    obtain ⟨k, rfl⟩ : ∃ k', k = k' + 1 := ⟨k - 1, by omega⟩
    rw [encs, List.nil_append, pr_succ, be4_hd4 _ hn2, if_neg (by rw [List.length_append, hd4_len]; omega), if_pos (by omega)]
  | cons s Bs ih =>
    intro hs k hk
    obtain ⟨k, rfl⟩ : ∃ k', k = k' + 1 := ⟨k - 1, by omega⟩
    rw [encs, List.append_assoc, pr_cons k s _ (hs s (by simp)), ih (fun t ht => hs t (by simp [ht])) k (by simp at hk; omega)]
theorem feedF_pr (kept : List Int) (b : ByteArray) (hb : ¬ 262144 < b.size) : feedF kept false b = pr ((kept ++ bytesOf b).length + 1) (kept ++ bytesOf b) := by
  have : feedF kept false b = fl ((kept ++ bytesOf b).length + 1) (kept ++ bytesOf b) [] 0 := by simp [feedF, hb]
  rw [this, fl_pr _ _ _ _ (Nat.zero_le _)]
  simp
end Go.Proofs.Ytmfbmagbpceomaa.Wire
