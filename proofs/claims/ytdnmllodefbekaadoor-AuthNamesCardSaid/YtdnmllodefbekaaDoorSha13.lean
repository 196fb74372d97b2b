import Derived.Test.YtdnmllodefbekaaDoorSha12
import Derived.Test.YtdnmllodefbekaaDoorPShaTextsx2
namespace Go.Proofs.YtdnmllodefbekaaDoor.Sha
open Go.RowKit Go.Lib Go.Proofs.YtdnmllodefbekaaDoorW.PrintWords Go.Proofs.YtdnmllodefbekaaDoorW.PrintLast Go.Proofs.YtdnmllodefbekaaDoorW.PrintMore
set_option linter.unusedVariables false
set_option linter.unusedSimpArgs false
theorem rdigit_f (k : Nat) (c : Int) (h0 : 0 ≤ c) (h1 : c < 256) : PShaTexts.hopperref24_digit.f (k + 1) c = some (match dg c with | some x => x | none => -1) := by
  unfold PShaTexts.hopperref24_digit.f dg
  by_cases q : c ≥ 48
  · rw [if_pos q]
    rw [PShaTexts.hopperref24_digit.j0]
    by_cases q1 : c ≤ 57
    · rw [if_pos (decide_eq_true q1), if_pos (And.intro q q1)]
      show some ((c - 48) % 256) = some (c - 48)
      rw [show (c - 48) % 256 = c - 48 by omega]
    · rw [if_neg (by rw [decide_eq_true_eq]; exact q1), if_neg (show ¬ (48 ≤ c ∧ c ≤ 57) by omega)]
      by_cases q2 : c ≥ 97
      · by_cases q3 : c ≤ 102
        · rw [if_pos q2, if_pos q3, if_pos (And.intro q2 q3)]
          show some ((c - 97) % 256 + 10) = some (c - 87)
          rw [show (c - 97) % 256 + 10 = c - 87 by omega]
        · rw [if_pos q2, if_neg q3, if_neg (show ¬ (97 ≤ c ∧ c ≤ 102) by omega)]
      · rw [if_neg q2, if_neg (show ¬ (97 ≤ c ∧ c ≤ 102) by omega)]
  · rw [if_neg q, if_neg (show ¬ (48 ≤ c ∧ c ≤ 57) by omega), if_neg (show ¬ (97 ≤ c ∧ c ≤ 102) by omega)]
    rw [PShaTexts.hopperref24_digit.j0]
    rw [if_neg (show ¬ (false = true) by simp), if_neg (show ¬ c ≥ 97 by omega)]
theorem rl0_f (s : ByteArray) (hev : s.size % 2 = 0) (hs : s.size ≤ 524288) : ∀ (m p : Nat) (acc : List Int), p % 2 = 0 → p ≤ s.size → acc.length ≤ p → s.size < p + 2 * m →
    PShaTexts.hopperref24_Unhex.l0 (m + 1) s acc (p : Int) = some (match unh ((bytesOf s).drop p) with | some r => (strOfNums (acc ++ r), 0) | none => (⟨#[]⟩, 3))
  | 0, p, acc, h1, h2, h3, h4 => by omega
  | m + 1, p, acc, h1, h2, h3, h4 => by
    rw [PShaTexts.hopperref24_Unhex.l0]
    by_cases q : p < s.size
    · have hw : wrap64 ((p : Int) + 1) = ((p + 1 : Nat) : Int) := by unfold wrap64; omega
      have hw2 : wrap64 ((p : Int) + 2) = ((p + 2 : Nat) : Int) := by unfold wrap64; omega
      have hp1 : p + 1 < (bytesOf s).length := by rw [bytesOf_length]; omega
      have b1 := bt_range s (p : Nat)
      have b2 := bt_range s (p + 1 : Nat)
      rw [if_pos (by omega), if_pos (by omega), hw, hw2, rdigit_f _ _ b1.1 (by omega), drop_two _ _ hp1, unh, rd_bytesOf s p, rd_bytesOf s ((p + 1 : Nat) : Int)]
      simp only [Option.bind_some]
      rw [if_pos (by omega), if_pos (by omega), rdigit_f _ _ b2.1 (by omega)]
      simp only [Option.bind_some]
      rcases hx : dg (bt s (p : Nat)) with _ | x
      · simp
      · rcases hy : dg (bt s (p + 1 : Nat)) with _ | y
        · simp
        · have hx1 := (hexD_dg _ _ hx).2
          have hy1 := (hexD_dg _ _ hy).2
          have hv : wrap64 (wrap64 (16 * x) + y) % 256 = x * 16 + y := by unfold wrap64; omega
          simp only
          rw [if_neg (by omega), if_neg (by omega), if_pos (by omega), hv, rl0_f s hev hs m (p + 2) (acc ++ [x * 16 + y]) (by omega) (by omega) (by simp; omega) (by omega)]
          rcases unh ((bytesOf s).drop (p + 2)) with _ | r
          · rfl
          · simp
    · rw [if_neg (by omega)]
      have : (bytesOf s).drop p = [] := List.drop_eq_nil_of_le (by rw [bytesOf_length]; omega)
      rw [this, unh]
      simp
theorem runhex_f (s : ByteArray) : PShaTexts.hopperref24_Unhex.f (s.size + 3) s = some (unR s) := by
  unfold PShaTexts.hopperref24_Unhex.f unR
  by_cases q : s.size % 2 = 0
  · rw [if_pos (by omega)]
    rw [PShaTexts.hopperref24_Unhex.j0]
    by_cases q2 : 524288 < s.size
    · rw [if_pos (by simp; omega), if_pos (.inr q2)]
    · rw [if_neg (by simp; omega), if_neg (by omega)]
      have := rl0_f s q (by omega) (s.size + 1) 0 [] rfl (Nat.zero_le _) (Nat.le_refl _) (by omega)
      rw [show ((0 : Nat) : Int) = 0 from rfl] at this
      rw [this]
      rfl
  · rw [if_neg (by omega)]
    rw [PShaTexts.hopperref24_Unhex.j0]
    rw [if_pos rfl, if_pos (.inl q)]
theorem runhex_walk (s : ByteArray) (w : World) : Calls Tryd.prog 23 #[.string s] w fun e w' => e = .returned (.tuple #[.string (unR s).1, .int .i64 (unR s).2]) ∧ Below w.heap.size w w' :=
  PShaTexts.hopperref24_Unhex.calls (s.size + 3) s _ _ w (runhex_f s)
theorem or8 (x y : Int) (hx : 0 ≤ x ∧ x < 256) (hy : 0 ≤ y ∧ y < 256) : (bits .or .u8 x y = 0 ↔ x = 0 ∧ y = 0) ∧ 0 ≤ bits .or .u8 x y ∧ bits .or .u8 x y < 256 := by
  obtain ⟨a, rfl⟩ := Int.eq_ofNat_of_zero_le hx.1
  obtain ⟨b, rfl⟩ := Int.eq_ofNat_of_zero_le hy.1
  have e : bits .or .u8 (a : Int) (b : Int) = ((BitVec.ofNat 8 a ||| BitVec.ofNat 8 b).toNat : Int) := by
    unfold bits
    simp only [IntKind.wrap_u8, BitVec.ofInt_natCast]
    show ((BitVec.ofNat 8 a ||| BitVec.ofNat 8 b).toNat : Int) % 256 = _
    have := (BitVec.ofNat 8 a ||| BitVec.ofNat 8 b).isLt
    omega
  have hl := (BitVec.ofNat 8 a ||| BitVec.ofNat 8 b).isLt
  refine ⟨?_, by omega, by omega⟩
  rw [e, show ((BitVec.ofNat 8 a ||| BitVec.ofNat 8 b).toNat : Int) = 0 ↔ (BitVec.ofNat 8 a ||| BitVec.ofNat 8 b) = 0#8 from ⟨fun h => BitVec.eq_of_toNat_eq (by simpa using h), fun h => by rw [h]; rfl⟩, BitVec.or_eq_zero_iff]
  constructor
  · rintro ⟨h1, h2⟩
    have h1 := congrArg BitVec.toNat h1
    have h2 := congrArg BitVec.toNat h2
    simp at h1 h2
    omega
  · rintro ⟨h1, h2⟩
    have h1 : a = 0 := by omega
    have h2 : b = 0 := by omega
    subst h1; subst h2
    exact ⟨rfl, rfl⟩
theorem xor8 (x y : Int) (hx : 0 ≤ x ∧ x < 256) (hy : 0 ≤ y ∧ y < 256) : (bits .xor .u8 x y = 0 ↔ x = y) ∧ 0 ≤ bits .xor .u8 x y ∧ bits .xor .u8 x y < 256 := by
  obtain ⟨a, rfl⟩ := Int.eq_ofNat_of_zero_le hx.1
  obtain ⟨b, rfl⟩ := Int.eq_ofNat_of_zero_le hy.1
  have e : bits .xor .u8 (a : Int) (b : Int) = ((BitVec.ofNat 8 a ^^^ BitVec.ofNat 8 b).toNat : Int) := by
    unfold bits
    simp only [IntKind.wrap_u8, BitVec.ofInt_natCast]
    show ((BitVec.ofNat 8 a ^^^ BitVec.ofNat 8 b).toNat : Int) % 256 = _
    have := (BitVec.ofNat 8 a ^^^ BitVec.ofNat 8 b).isLt
    omega
  have hl := (BitVec.ofNat 8 a ^^^ BitVec.ofNat 8 b).isLt
  refine ⟨?_, by omega, by omega⟩
  rw [e, show ((BitVec.ofNat 8 a ^^^ BitVec.ofNat 8 b).toNat : Int) = 0 ↔ (BitVec.ofNat 8 a ^^^ BitVec.ofNat 8 b) = 0#8 from ⟨fun h => BitVec.eq_of_toNat_eq (by simpa using h), fun h => by rw [h]; rfl⟩, BitVec.xor_eq_zero_iff]
  constructor
  · intro h1
    have h1 := congrArg BitVec.toNat h1
    simp at h1
    omega
  · intro h1
    rw [show a = b by omega]
theorem eq_l0 (a b : ByteArray) (hab : a.size = b.size) (hs : a.size ≤ 140737488351232) : ∀ (m p : Nat) (acc : Int), p ≤ a.size → a.size < p + m + 1 → 0 ≤ acc ∧ acc < 256 →
    PShaTexts.sha_Equal.l0 (m + 1) a b acc (a.size : Int) (p : Int) = some (decide (acc = 0 ∧ (bytesOf a).drop p = (bytesOf b).drop p))
  | m, p, acc, h1, h2, h3 => by
    rw [PShaTexts.sha_Equal.l0]
    by_cases q : p < a.size
    · obtain ⟨m1, rfl⟩ : ∃ m1, m = m1 + 1 := ⟨m - 1, by omega⟩
      have hw : wrap64 ((p : Int) + 1) = ((p + 1 : Nat) : Int) := by unfold wrap64; omega
      have b1 := bt_range a (p : Nat)
      have b2 := bt_range b (p : Nat)
      have hx := xor8 (bt a (p : Nat)) (bt b (p : Nat)) ⟨b1.1, by omega⟩ ⟨b2.1, by omega⟩
      have ho := or8 acc _ h3 hx.2
      have ha : p < (bytesOf a).length := by rw [bytesOf_length]; omega
      have hb : p < (bytesOf b).length := by rw [bytesOf_length]; omega
      have ra := rd_bytesOf a p
      have rb := rd_bytesOf b p
      rw [if_pos (by omega), if_pos (by omega), if_pos (by omega), if_pos (by omega), hw, eq_l0 a b hab hs m1 (p + 1) _ (by omega) (by omega) ho.2]
      congr 1
      rw [decide_eq_decide, ho.1, hx.1, List.drop_eq_getElem_cons ha, List.drop_eq_getElem_cons hb, List.cons.injEq, and_assoc]
      have ea : (bytesOf a)[p] = bt a (p : Nat) := by rw [← ra]; simp [rd, List.getD_eq_getElem?_getD, ha]
      have eb : (bytesOf b)[p] = bt b (p : Nat) := by rw [← rb]; simp [rd, List.getD_eq_getElem?_getD, hb]
      rw [ea, eb]
    · rw [if_neg (by omega), List.drop_eq_nil_of_le (by rw [bytesOf_length]; omega), List.drop_eq_nil_of_le (by rw [bytesOf_length]; omega)]
      by_cases h0 : acc = 0 <;> simp [h0]
theorem equal_f (a b : ByteArray) (hs : a.size ≤ 140737488351232) : PShaTexts.sha_Equal.f (a.size + 1) a b = some (decide (a = b)) := by
  unfold PShaTexts.sha_Equal.f
  by_cases q : a.size = b.size
  · rw [if_pos (by omega)]
    have := eq_l0 a b q hs a.size 0 0 (Nat.zero_le _) (by omega) (by omega)
    rw [show ((0 : Nat) : Int) = 0 from rfl] at this
    rw [this]
    congr 1
    rw [decide_eq_decide]
    constructor
    · rintro ⟨-, h⟩
      rw [List.drop_zero, List.drop_zero] at h
      rw [← strOfNums_bytesOf a, h, strOfNums_bytesOf]
    · rintro rfl; exact ⟨rfl, rfl⟩
  · rw [if_neg (by omega)]
    congr 1
    symm
    rw [decide_eq_false_iff_not]
    rintro rfl; exact q rfl
theorem equal_walk (a b : ByteArray) (w : World) (hs : a.size ≤ 140737488351232) : Calls Tryd.prog 24 #[.string a, .string b] w fun e w' => e = .returned (.bool (decide (a = b))) ∧ Drawn0 w w' :=
  PShaTexts.sha_Equal.calls (a.size + 1) a b _ w (equal_f a b hs)
end Go.Proofs.YtdnmllodefbekaaDoor.Sha
