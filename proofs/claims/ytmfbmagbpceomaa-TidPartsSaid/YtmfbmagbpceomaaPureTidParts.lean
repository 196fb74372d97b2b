/- Words are put together and taken apart as the document has it: any parts, any number. -/
import Derived.Test.YtmfbmagbpceomaaPTidPartsx2
namespace Go.Proofs.Ytmfbmagbpceomaa.Pure
open Go.RowKit Go.Proofs.Ytmfbmagbpceomaa.PTidParts Go.Proofs.YtmfbmagbpceomaaW.PrintWords Go.Proofs.YtmfbmagbpceomaaW.PrintLast Go.Proofs.YtmfbmagbpceomaaW.PrintMore
set_option linter.unusedVariables false
set_option linter.unusedSimpArgs false
/-! ### bits of 64-bit words -/
theorem u64w {n : Int} (h0 : 0 ≤ n) (h1 : n < 18446744073709551616) : IntKind.u64.wrap n = n := IntWalk.u64_in n ⟨h0, by omega⟩
theorem u64w' (n : Int) (h0 : 0 ≤ n) (h1 : n < 2 ^ 64) : IntKind.u64.wrap n = n := u64w h0 (by omega)
theorem and_nat (x y : Nat) (hx : x < 2 ^ 64) (hy : y < 2 ^ 64) : Go.bits .and .u64 x y = ((x &&& y : Nat) : Int) := (Go.bits_nat .u64 64 (by decide) u64w' x y hx hy).1
theorem or_nat (x y : Nat) (hx : x < 2 ^ 64) (hy : y < 2 ^ 64) : Go.bits .or .u64 x y = ((x ||| y : Nat) : Int) := (Go.bits_nat .u64 64 (by decide) u64w' x y hx hy).2
theorem and_one {w : Int} (h0 : 0 ≤ w) (h1 : w < 18446744073709551616) : Go.bits .and .u64 w 1 = w % 2 := by
  obtain ⟨n, rfl⟩ := Int.eq_ofNat_of_zero_le h0
  have e := and_nat n 1 (by omega) (by decide)
  have e2 : n &&& 1 = n % 2 := Nat.and_one_is_mod n
  rw [show ((1 : Int)) = ((1 : Nat) : Int) from rfl, e, e2]; omega
theorem and_two {w : Int} (h0 : 0 ≤ w) (h1 : w < 18446744073709551616) : Go.bits .and .u64 w 2 = w / 2 % 2 * 2 := by
  obtain ⟨n, rfl⟩ := Int.eq_ofNat_of_zero_le h0
  have e := and_nat n 2 (by omega) (by decide)
  have e2 : n &&& 2 = n / 2 % 2 * 2 := by
    have h1 : n &&& 2 ≤ 2 := Nat.and_le_right
    have h2 : (n &&& 2) % 2 ^ 2 = (n % 2 ^ 2) &&& (2 % 2 ^ 2) := Nat.and_mod_two_pow
    have h3 : n % 2 ^ 2 = 0 ∨ n % 2 ^ 2 = 1 ∨ n % 2 ^ 2 = 2 ∨ n % 2 ^ 2 = 3 := by omega
    rcases h3 with h | h | h | h <;> rw [h] at h2 <;> simp at h2 <;> omega
  rw [show ((2 : Int)) = ((2 : Nat) : Int) from rfl, e, e2]; omega
theorem and_four {w : Int} (h0 : 0 ≤ w) (h1 : w < 18446744073709551616) : Go.bits .and .u64 w 4 = w / 4 % 2 * 4 := by
  obtain ⟨n, rfl⟩ := Int.eq_ofNat_of_zero_le h0
  have e := and_nat n 4 (by omega) (by decide)
  have e2 : n &&& 4 = n / 4 % 2 * 4 := by
    have h1 : n &&& 4 ≤ 4 := Nat.and_le_right
    have h2 : (n &&& 4) % 2 ^ 3 = (n % 2 ^ 3) &&& (4 % 2 ^ 3) := Nat.and_mod_two_pow
    have h3 : n % 2 ^ 3 = 0 ∨ n % 2 ^ 3 = 1 ∨ n % 2 ^ 3 = 2 ∨ n % 2 ^ 3 = 3 ∨ n % 2 ^ 3 = 4 ∨ n % 2 ^ 3 = 5 ∨ n % 2 ^ 3 = 6 ∨ n % 2 ^ 3 = 7 := by omega
    rcases h3 with h | h | h | h | h | h | h | h <;> rw [h] at h2 <;> simp at h2 <;> omega
  rw [show ((4 : Int)) = ((4 : Nat) : Int) from rfl, e, e2]; omega
theorem and_seq {w : Int} (h0 : 0 ≤ w) (h1 : w < 18446744073709551616) : Go.bits .and .u64 w 1048575 = w % 1048576 := by
  have := Go.bits_mask .u64 64 (by decide) u64w' 20 (by decide) w h0 (by omega)
  rw [show ((2 : Int) ^ 20 - 1) = 1048575 from rfl] at this
  rw [this]; rfl
theorem number_eq {w : Int} (h0 : 0 ≤ w) (h1 : w < 18446744073709551616) : Go.bits .andNot .u64 w 7 = w - w % 8 := by
  obtain ⟨n, rfl⟩ := Int.eq_ofNat_of_zero_le h0
  have hn : n < 18446744073709551616 := by omega
  have e : Go.bits .andNot .u64 (n : Int) 7 = IntKind.u64.wrap (((BitVec.ofNat 64 n &&& ~~~(7#64)).toNat : Nat) : Int) := rfl
  have e2 : BitVec.ofNat 64 n &&& ~~~(7#64) = (BitVec.ofNat 64 n >>> 3) <<< 3 := by
    apply BitVec.eq_of_getLsbD_eq
    intro i hi
    simp only [BitVec.getLsbD_and, BitVec.getLsbD_not, BitVec.getLsbD_shiftLeft, BitVec.getLsbD_ushiftRight]
    by_cases h3 : i < 3
    · have : i = 0 ∨ i = 1 ∨ i = 2 := by omega
      rcases this with rfl | rfl | rfl <;> simp
    · have h7 : (7#64).getLsbD i = false := by
        have : (7#64).getLsbD i = (7 : Nat).testBit i := by simp [BitVec.getLsbD, hi]
        rw [this]; exact Nat.testBit_lt_two_pow (by
          have : 2 ^ 3 ≤ 2 ^ i := Nat.pow_le_pow_right (by decide) (by omega)
          omega)
      have h4 : 3 + (i - 3) = i := by omega
      rw [h7, h4]; simp [h3, hi]
  have e3 : ((BitVec.ofNat 64 n >>> 3) <<< 3).toNat = n / 8 * 8 := by
    rw [BitVec.toNat_shiftLeft, BitVec.toNat_ushiftRight, BitVec.toNat_ofNat, Nat.mod_eq_of_lt (show n < 2 ^ 64 by omega), Nat.shiftRight_eq_div_pow, Nat.shiftLeft_eq]
    rw [show (2 : Nat) ^ 3 = 8 from rfl]; omega
  rw [e, e2, e3, u64w (by omega) (by omega)]; omega
theorem or_flags (X : Nat) (hX : X * 8 + 8 ≤ 2 ^ 64) (l a b : Nat) (hl : l = 0 ∨ l = 1) (ha : a = 0 ∨ a = 2) (hb : b = 0 ∨ b = 4) :
    Go.bits .or .u64 (Go.bits .or .u64 (Go.bits .or .u64 ((X * 8 : Nat) : Int) (l : Int)) (a : Int)) (b : Int) = ((X * 8 + l + a + b : Nat) : Int) := by
  have hX' : X * 8 < 2 ^ 64 := by omega
  have hor : ∀ r, r < 8 → X * 8 ||| r = X * 8 + r := fun r hr => by
    have := Nat.two_pow_add_eq_or_of_lt (i := 3) (b := r) hr X
    rw [show 2 ^ 3 * X = X * 8 from by rw [show (2 : Nat) ^ 3 = 8 from rfl]; omega] at this
    exact this.symm
  have e1 : Go.bits .or .u64 ((X * 8 : Nat) : Int) (l : Int) = ((X * 8 ||| l : Nat) : Int) := or_nat _ _ hX' (by omega)
  have h1 : X * 8 ||| l < 2 ^ 64 := by rw [hor l (by omega)]; omega
  rw [e1, or_nat _ _ h1 (by omega)]
  have h2 : (X * 8 ||| l) ||| a < 2 ^ 64 := by
    rw [Nat.or_assoc]; rcases hl with rfl | rfl <;> rcases ha with rfl | rfl <;> (rw [hor _ (by decide)]; simp; omega)
  rw [or_nat _ _ h2 (by omega)]
  congr 1
  rw [Nat.or_assoc, Nat.or_assoc]
  rcases hl with rfl | rfl <;> rcases ha with rfl | rfl <;> rcases hb with rfl | rfl <;> (rw [hor _ (by decide)]; simp)

/-! ### a word -/
/-- The word of parts that may be. -/
def word (e s : Int) (l a b : Bool) : Int := e * 8388608 + s * 8 + (if l then 1 else 0) + (if a then 2 else 0) + (if b then 4 else 0)
def fitsP (e s : Int) : Prop := ¬ e < 0 ∧ ¬ e > 2147483648 ∧ ¬ s < 0 ∧ ¬ s > 1048575
instance (e s : Int) : Decidable (fitsP e s) := by unfold fitsP; infer_instance
theorem w64 {n : Int} (h0 : -9223372036854775808 ≤ n) (h1 : n ≤ 9223372036854775807) : wrap64 n = n := by unfold wrap64; omega
theorem flag_eq (b : Bool) (n : Int) : tid_flag.f b n = some (if b then n else 0) := by cases b <;> rfl
theorem pack_no (k : Nat) (e s : Int) (l a b : Bool) (h : ¬ fitsP e s) : tid_Pack.f (k + 1) e s l a b = some (0, 1) := by
  unfold tid_Pack.f
  unfold fitsP at h
  repeat' split
  all_goals simp only [tid_Pack.j0, if_true]
  rw [if_pos (decide_eq_true (by omega))]
theorem pack_yes (k : Nat) (e s : Int) (l a b : Bool) (h : fitsP e s) : tid_Pack.f (k + 1) e s l a b = some (word e s l a b, 0) := by
  unfold tid_Pack.f
  obtain ⟨h1, h2, h3, h4⟩ := h
  rw [if_neg h1, if_neg h2, if_neg h3, decide_eq_false h4]
  simp only [tid_Pack.j0]
  rw [if_neg (by decide)]
  simp only [flag_eq, Option.bind_some]
  rw [u64w (n := e) (by omega) (by omega), u64w (n := s) (by omega) (by omega), u64w (n := e * 8388608) (by omega) (by omega), u64w (n := s * 8) (by omega) (by omega)]
  obtain ⟨E, rfl⟩ := Int.eq_ofNat_of_zero_le (show 0 ≤ e by omega)
  obtain ⟨S, rfl⟩ := Int.eq_ofNat_of_zero_le (show 0 ≤ s by omega)
  have hj : Go.bits .or .u64 ((E : Int) * 8388608) ((S : Int) * 8) = (((E * 1048576 + S) * 8 : Nat) : Int) := by
    rw [Go.bits_join .u64 64 (by decide) u64w' 23 _ _ (by omega) (by omega) (by omega) (by omega) (by omega) (by omega)]; omega
  rw [hj]
  have := or_flags (E * 1048576 + S) (by omega) (if l then 1 else 0) (if a then 2 else 0) (if b then 4 else 0) (by cases l <;> simp) (by cases a <;> simp) (by cases b <;> simp)
  rw [show (if l = true then (1 : Int) else 0) = (((if l then 1 else 0 : Nat)) : Int) from by cases l <;> rfl,
    show (if a = true then (2 : Int) else 0) = (((if a then 2 else 0 : Nat)) : Int) from by cases a <;> rfl,
    show (if b = true then (4 : Int) else 0) = (((if b then 4 else 0 : Nat)) : Int) from by cases b <;> rfl, this]
  unfold word
  refine congrArg (fun x : Int => some (x, (0 : Int))) ?_
  cases l <;> cases a <;> cases b <;> simp only [if_true, if_false, Bool.false_eq_true] <;> omega
theorem unpack_no {w : Int} (h : w / 8388608 > 2147483648) : tid_Unpack.f w = some (0, 0, false, false, false, 90) := by unfold tid_Unpack.f; rw [if_pos h]
theorem unpack_yes {w : Int} (h0 : 0 ≤ w) (h : ¬ w / 8388608 > 2147483648) :
    tid_Unpack.f w = some (w / 8388608, w / 8 % 1048576, decide (w % 2 = 1), decide (w / 2 % 2 = 1), decide (w / 4 % 2 = 1), 0) := by
  unfold tid_Unpack.f
  have h1 : w < 18446744073709551616 := by omega
  rw [if_neg h, and_seq (by omega) (by omega), and_one h0 h1, and_two h0 h1, and_four h0 h1, w64 (by omega) (by omega), w64 (by omega) (by omega)]
  have e1 : decide (w % 2 > 0) = decide (w % 2 = 1) := by rw [decide_eq_decide]; omega
  have e2 : decide (w / 2 % 2 * 2 > 0) = decide (w / 2 % 2 = 1) := by rw [decide_eq_decide]; omega
  have e3 : decide (w / 4 % 2 * 4 > 0) = decide (w / 4 % 2 = 1) := by rw [decide_eq_decide]; omega
  rw [e1, e2, e3]
theorem word_parts (e s : Int) (l a b : Bool) (h : fitsP e s) :
    0 ≤ word e s l a b ∧ word e s l a b < 18446744073709551616 ∧ word e s l a b / 8388608 = e ∧ word e s l a b / 8 % 1048576 = s ∧ decide (word e s l a b % 2 = 1) = l ∧ decide (word e s l a b / 2 % 2 = 1) = a ∧ decide (word e s l a b / 4 % 2 = 1) = b := by
  obtain ⟨h1, h2, h3, h4⟩ := h
  unfold word
  refine ⟨?_, ?_, ?_, ?_, ?_, ?_, ?_⟩
  · cases l <;> cases a <;> cases b <;> simp <;> omega
  · cases l <;> cases a <;> cases b <;> simp <;> omega
  · cases l <;> cases a <;> cases b <;> simp <;> omega
  · cases l <;> cases a <;> cases b <;> simp <;> omega
  · cases l <;> cases a <;> cases b <;> simp <;> omega
  · cases l <;> cases a <;> cases b <;> simp <;> omega
  · cases l <;> cases a <;> cases b <;> simp <;> omega
/-! ### Next -/
/-- What the loop of Next tells of words, from what it has seen. -/
def nextFrom (e : Int) : List Int → Int → Bool → Int × Int
  | [], most, late => if late = true then (0, 1) else if fitsP e (most + 1) then (word e (most + 1) false false false, 0) else (0, 1)
  | w :: l, most, late => if w / 8388608 > 2147483648 then (0, 90) else nextFrom e l (if w / 8388608 = e then (if most < w / 8 % 1048576 then w / 8 % 1048576 else most) else most) (late || decide (w / 8388608 > e))
theorem mx_eq (a b : Int) : mx a b = if a < b then b else a := by unfold mx; rfl
theorem rd_drop (l : List Int) (i : Nat) (h : i < l.length) : l.drop i = rd l (i : Int) :: l.drop (i + 1) := by
  rw [List.drop_eq_getElem_cons h]; unfold rd; simp [h]
theorem next_loop (e : Int) (l : List Int) (hl : l.length < 9223372036854775807) (hw : ∀ x ∈ l, 0 ≤ x ∧ x < 18446744073709551616) (he : ¬ e < 0 ∧ ¬ e > 2147483648) (d : Nat) :
    ∀ (k i : Nat) (most : Int) (late : Bool), i + d = l.length → -1 ≤ most → most < 1048576 → d + 2 ≤ k → tid_Next.l0 k e most late l (l.length : Int) (i : Int) = some (nextFrom e (l.drop i) most late) := by
  induction d with
  | zero =>
    intro k i most late hi h0 h1 hk
    obtain ⟨k, rfl⟩ : ∃ m, k = m + 2 := ⟨k - 2, by omega⟩
    simp only [tid_Next.l0]
    rw [if_neg (by omega), List.drop_of_length_le (by omega)]
    unfold nextFrom
    cases late with
    | true => simp
    | false =>
      simp only [Bool.false_eq_true, if_false]
      rw [w64 (by omega) (by omega)]
      by_cases hf : fitsP e (most + 1)
      · rw [pack_yes _ _ _ _ _ _ hf, if_pos hf]; rfl
      · rw [pack_no _ _ _ _ _ _ hf, if_neg hf]; rfl
  | succ d ih =>
    intro k i most late hi h0 h1 hk
    obtain ⟨k, rfl⟩ : ∃ m, k = m + 1 := ⟨k - 1, by omega⟩
    have hlt : i < l.length := by omega
    have hm : rd l (i : Int) ∈ l := by unfold rd; simp [hlt]
    obtain ⟨w0, w1⟩ := hw _ hm
    rw [rd_drop l i hlt]
    simp only [tid_Next.l0]
    rw [if_pos (by omega), if_pos (by omega), if_pos (by omega)]
    generalize rd l (i : Int) = w at hm w0 w1
    have hi1 : wrap64 ((i : Int) + 1) = ((i + 1 : Nat) : Int) := by rw [w64 (by omega) (by omega)]; omega
    unfold nextFrom
    by_cases hb : w / 8388608 > 2147483648
    · rw [if_pos hb, unpack_no hb]; simp
    · rw [if_neg hb, unpack_yes w0 hb]
      simp only [Option.bind_some]
      rw [if_true, hi1]
      have hs : ∀ m : Int, -1 ≤ m → m < 1048576 → -1 ≤ mx m (w / 8 % 1048576) ∧ mx m (w / 8 % 1048576) < 1048576 := by intro m a b; unfold mx; omega
      have hmx : mx most (w / 8 % 1048576) = if most < w / 8 % 1048576 then w / 8 % 1048576 else most := rfl
      cases late with
      | true =>
        rw [if_pos rfl]
        by_cases hq : w / 8388608 = e
        · rw [if_pos hq, if_pos hq, ih _ _ _ _ (by omega) (hs _ h0 h1).1 (hs _ h0 h1).2 (by omega), hmx]; simp
        · rw [if_neg hq, if_neg hq, ih _ _ _ _ (by omega) h0 h1 (by omega)]; simp
      | false =>
        rw [if_neg (by decide)]
        by_cases hq : w / 8388608 = e
        · rw [if_pos hq, if_pos hq, ih _ _ _ _ (by omega) (hs _ h0 h1).1 (hs _ h0 h1).2 (by omega), hmx]; simp
        · rw [if_neg hq, if_neg hq, ih _ _ _ _ (by omega) h0 h1 (by omega)]; simp
theorem next_eq (e : Int) (l : List Int) (hl : l.length < 9223372036854775807) (hw : ∀ x ∈ l, 0 ≤ x ∧ x < 18446744073709551616) (k : Nat) (hk : l.length + 3 ≤ k) :
    tid_Next.f k e l = some (if e < 0 ∨ e > 2147483648 then (0, 1) else nextFrom e l (-1) false) := by
  obtain ⟨k, rfl⟩ : ∃ m, k = m + 1 := ⟨k - 1, by omega⟩
  unfold tid_Next.f
  by_cases h1 : e < 0
  · rw [if_pos h1, if_pos (.inl h1)]; simp only [tid_Next.j0, if_true]
  · rw [if_neg h1]
    by_cases h2 : e > 2147483648
    · rw [if_pos (.inr h2), decide_eq_true h2]; simp only [tid_Next.j0, if_true]
    · rw [if_neg (by omega), decide_eq_false h2]
      simp only [tid_Next.j0]
      rw [if_neg (by decide)]
      have := next_loop e l hl hw ⟨h1, h2⟩ l.length k 0 (-1) false (by omega) (by omega) (by omega) (by omega)
      simpa using this
theorem works_from (k : Nat) (hk : 10 ≤ k) : hopperlaw09_works.f k = some true := by
  obtain ⟨k, rfl⟩ : ∃ m, k = m + 1 := ⟨k - 1, by omega⟩
  have hp : fitsP 1 2 := ⟨by decide, by decide, by decide, by decide⟩
  have hw : ∀ x ∈ [(8388628 : Int)], 0 ≤ x ∧ x < 18446744073709551616 := by intro x hx; simp at hx; omega
  have n1 := next_eq 1 [8388628] (by decide) hw (k + 1) (by simp; omega)
  have n2 := next_eq 2 [8388628] (by decide) hw (k + 1) (by simp; omega)
  have n0 := next_eq 0 [8388628] (by decide) hw (k + 1) (by simp; omega)
  rw [show (if (1 : Int) < 0 ∨ (1 : Int) > 2147483648 then ((0, 1) : Int × Int) else nextFrom 1 [8388628] (-1) false) = (8388632, 0) from by decide] at n1
  rw [show (if (2 : Int) < 0 ∨ (2 : Int) > 2147483648 then ((0, 1) : Int × Int) else nextFrom 2 [8388628] (-1) false) = (16777216, 0) from by decide] at n2
  rw [show (if (0 : Int) < 0 ∨ (0 : Int) > 2147483648 then ((0, 1) : Int × Int) else nextFrom 0 [8388628] (-1) false) = (0, 1) from by decide] at n0
  unfold hopperlaw09_works.f
  rw [pack_yes _ _ _ _ _ _ hp, show word 1 2 false false true = 8388628 from by decide]
  simp only [Option.bind_some]
  rw [n1, n2, n0]
  rfl
theorem wf_u64 {x : Int} (h : (Lit.int .u64 x).wf = true) : 0 ≤ x ∧ x < 18446744073709551616 := by
  simp [Lit.wf, IntKind.min, IntKind.max, IntKind.bits, IntKind.signed] at h
  omega
/-! ### the document's Next -/
theorem epoch_eq {w : Int} (h0 : 0 ≤ w) (h1 : w < 18446744073709551616) : hopperref09_Epoch.f w = some (w / 8388608) := by
  unfold hopperref09_Epoch.f; rw [Int.tdiv_eq_ediv_of_nonneg h0, u64w (by omega) (by omega)]
theorem may_eq {w : Int} (h0 : 0 ≤ w) (h1 : w < 18446744073709551616) : hopperref09_May.f w = some (decide (w / 8388608 ≤ 2147483648)) := by
  unfold hopperref09_May.f; rw [epoch_eq h0 h1]; rfl
theorem seq_eq {w : Int} (h0 : 0 ≤ w) (h1 : w < 18446744073709551616) : hopperref09_Seq.f w = some (w / 8 % 1048576) := by
  unfold hopperref09_Seq.f; rw [Int.tdiv_eq_ediv_of_nonneg h0, u64w (by omega) (by omega), Int.tmod_eq_emod_of_nonneg (by omega), w64 (by omega) (by omega)]
theorem bit_eq (b : Bool) : hopperref09_bit.f b = some (if b then 1 else 0) := by cases b <;> rfl
theorem word_eq (e s : Int) (l a b : Bool) (h : fitsP e s) : hopperref09_Word.f e s l a b = some (word e s l a b) := by
  unfold hopperref09_Word.f
  simp only [bit_eq, Option.bind_some]
  obtain ⟨h1, h2, h3, h4⟩ := h
  simp only [IntKind.wrap_u64]
  unfold word
  congr 1
  cases l <;> cases a <;> cases b <;> simp only [if_true, if_false, Bool.false_eq_true, reduceIte] <;> omega
theorem unpack_any {w : Int} (h0 : 0 ≤ w) : ∃ a b c d e f, tid_Unpack.f w = some (a, b, c, d, e, f) := by
  by_cases h : w / 8388608 > 2147483648
  · exact ⟨_, _, _, _, _, _, unpack_no h⟩
  · exact ⟨_, _, _, _, _, _, unpack_yes h0 h⟩
theorem number_f {w : Int} (h0 : 0 ≤ w) (h1 : w < 18446744073709551616) : tid_Number.f w = some (w - w % 8) := by
  unfold tid_Number.f; rw [number_eq h0 h1]
theorem refnumber_f {w : Int} (h0 : 0 ≤ w) (h1 : w < 18446744073709551616) : hopperref09_Number.f w = some (w - w % 8) := by
  unfold hopperref09_Number.f; rw [Int.tmod_eq_emod_of_nonneg h0, u64w (by omega) (by omega)]
theorem refpack (e s : Int) (l a b : Bool) : hopperref09_Pack.f e s l a b = some (if fitsP e s then (word e s l a b, 0) else (0, 1)) := by
  unfold hopperref09_Pack.f
  by_cases hf : fitsP e s
  · rw [if_pos hf]
    obtain ⟨h1, h2, h3, h4⟩ := hf
    rw [if_neg h1, if_neg h2, if_neg h3, if_neg h4, word_eq _ _ _ _ _ ⟨h1, h2, h3, h4⟩]; rfl
  · rw [if_neg hf]
    unfold fitsP at hf
    repeat' split
    all_goals first | rfl | omega
theorem TidPartsP (e s : Int) (l a b : Bool) (w : Int) (h0 : 0 ≤ w) (h1 : w < 18446744073709551616) : hopperlaw09_TidParts.f 20 e s l a b w = some true := by
  have hp : tid_Pack.f 20 e s l a b = some (if fitsP e s then (word e s l a b, 0) else (0, 1)) := by
    by_cases hf : fitsP e s
    · rw [if_pos hf]; exact pack_yes 19 _ _ _ _ _ hf
    · rw [if_neg hf]; exact pack_no 19 _ _ _ _ _ hf
  unfold hopperlaw09_TidParts.f
  rw [hp, refpack, number_f h0 h1, refnumber_f h0 h1]
  simp only [Option.bind_some, if_true, bne_self_eq_false]
  simp only [hopperlaw09_TidParts.j0]
  rw [if_neg (by decide), may_eq h0 h1, epoch_eq h0 h1, seq_eq h0 h1, works_from _ (by omega)]
  simp only [Option.bind_some]
  by_cases hb : w / 8388608 > 2147483648
  · rw [unpack_no hb]
    simp only [Option.bind_some]
    rw [if_neg (by simp; omega)]
    simp
  · rw [unpack_yes h0 hb]
    simp only [Option.bind_some]
    rw [if_pos (by simp; omega), u64w (n := w / 8388608) (by omega) (by omega), Int.tmod_eq_emod_of_nonneg h0, Int.tdiv_eq_ediv_of_nonneg h0, Int.tdiv_eq_ediv_of_nonneg h0,
      u64w (n := w / 2) (by omega) (by omega), u64w (n := w / 4) (by omega) (by omega), Int.tmod_eq_emod_of_nonneg (a := w / 2) (by omega), Int.tmod_eq_emod_of_nonneg (a := w / 4) (by omega)]
    have hd : ∀ x : Int, (decide (x = 1) == (x == 1)) = true := fun x => by by_cases h : x = 1 <;> simp [h]
    simp only [hd, if_true]
theorem parts_walk (e s : Int) (l a b : Bool) (w : Int) (W : World) (hw : (Lit.int .u64 w).wf = true) :
    Calls Try.prog 6 #[.agg #[.int .i64 e, .int .i64 s, .bool l, .bool a, .bool b], .int .u64 w] W fun e W' => e = .returned (.bool true) ∧ Below W.heap.size W W' :=
  hopperlaw09_TidParts.calls 20 e s l a b w true W (TidPartsP e s l a b w (wf_u64 hw).1 (wf_u64 hw).2)
end Go.Proofs.Ytmfbmagbpceomaa.Pure
