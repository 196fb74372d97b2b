/- The sum of bytes of which each is the difference, bit by bit, of two others' is that of their sums and of noughts: any two texts. -/
import Derived.Test.YtmfbmagbpceomaaHFrameSumsx2
namespace Go.Proofs.Ytmfbmagbpceomaa.Pure
open Go.RowKit Go.Proofs.Ytmfbmagbpceomaa.HFrameSums Go.Proofs.YtmfbmagbpceomaaW.PrintWords Go.Proofs.YtmfbmagbpceomaaW.PrintLast Go.Proofs.YtmfbmagbpceomaaW.PrintMore
set_option linter.unusedVariables false
set_option linter.unusedSimpArgs false
/-! ### the sum, in natural numbers -/
theorem u32w {n : Int} (h0 : 0 ≤ n) (h1 : n < 4294967296) : IntKind.u32.wrap n = n := by rw [IntKind.wrap_u32]; omega
theorem u32w' (n : Int) (h0 : 0 ≤ n) (h1 : n < 2 ^ 32) : IntKind.u32.wrap n = n := u32w h0 (by omega)
theorem and32_nat (x y : Nat) (hx : x < 2 ^ 32) (hy : y < 2 ^ 32) : Go.bits .and .u32 x y = ((x &&& y : Nat) : Int) := (Go.bits_nat .u32 32 (by decide) u32w' x y hx hy).1
theorem xor32_nat (x y : Nat) (hx : x < 2 ^ 32) (hy : y < 2 ^ 32) : Go.bits .xor .u32 x y = ((x ^^^ y : Nat) : Int) := by
  have h : x ^^^ y < 2 ^ 32 := Nat.xor_lt_two_pow hx hy
  show IntKind.u32.wrap ((BitVec.ofInt 32 (x : Int) ^^^ BitVec.ofInt 32 (y : Int)).toNat : Int) = _
  rw [BitVec.toNat_xor, BitVec.ofInt_natCast, BitVec.ofInt_natCast, BitVec.toNat_ofNat, BitVec.toNat_ofNat, Nat.mod_eq_of_lt hx, Nat.mod_eq_of_lt hy]
  exact u32w (by omega) (by omega)
theorem xor8_nat (x y : Nat) (hx : x < 2 ^ 8) (hy : y < 2 ^ 8) : Go.bits .xor .u8 x y = ((x ^^^ y : Nat) : Int) := by
  have h : x ^^^ y < 2 ^ 8 := Nat.xor_lt_two_pow hx hy
  show IntKind.u8.wrap ((BitVec.ofInt 8 (x : Int) ^^^ BitVec.ofInt 8 (y : Int)).toNat : Int) = _
  rw [BitVec.toNat_xor, BitVec.ofInt_natCast, BitVec.ofInt_natCast, BitVec.toNat_ofNat, BitVec.toNat_ofNat, Nat.mod_eq_of_lt hx, Nat.mod_eq_of_lt hy, IntKind.wrap_u8]
  omega
def nbit (x : Nat) : Nat := x / 2 ^^^ (if x % 2 = 1 then 3988292384 else 0)
def nbits : Nat → Nat → Nat
  | 0, x => x
  | n + 1, x => nbit (nbits n x)
def nbyte (x b : Nat) : Nat := nbits 8 (x ^^^ b)
def nall (l : List Nat) (x : Nat) : Nat := l.foldl nbyte x
theorem nbit_lt {x : Nat} (h : x < 2 ^ 32) : nbit x < 2 ^ 32 := by
  unfold nbit
  refine Nat.xor_lt_two_pow (by omega) ?_
  split <;> decide
theorem nbits_lt (n : Nat) {x : Nat} (h : x < 2 ^ 32) : nbits n x < 2 ^ 32 := by
  induction n with
  | zero => exact h
  | succ n ih => exact nbit_lt ih
theorem nbyte_lt {x b : Nat} (h : x < 2 ^ 32) (hb : b < 256) : nbyte x b < 2 ^ 32 := nbits_lt 8 (Nat.xor_lt_two_pow h (by omega))
theorem nall_lt (l : List Nat) : ∀ x, x < 2 ^ 32 → (∀ b ∈ l, b < 256) → nall l x < 2 ^ 32 := by
  induction l with
  | nil => intro x h _; exact h
  | cons b l ih => intro x h hb; exact ih _ (nbyte_lt h (hb b (by simp))) (fun c hc => hb c (List.mem_cons_of_mem _ hc))
theorem crcBit_nat {x : Nat} (h : x < 2 ^ 32) : crcBit (x : Int) = (nbit x : Nat) := by
  unfold crcBit nbit
  have e1 : Go.bits .and .u32 (x : Int) 1 = ((x % 2 : Nat) : Int) := by
    have := and32_nat x 1 h (by decide)
    rw [Nat.and_one_is_mod] at this
    exact this
  rw [e1]
  have e3 : (x : Int) / 2 = ((x / 2 : Nat) : Int) := by omega
  rw [e3]
  rcases Nat.mod_two_eq_zero_or_one x with h2 | h2
  · rw [h2]
    have e2 : -((0 : Nat) : Int) % 4294967296 = ((0 : Nat) : Int) := by decide
    rw [e2, show ((3988292384 : Int)) = ((3988292384 : Nat) : Int) from rfl, and32_nat _ _ (by decide) (by decide), xor32_nat _ _ (by omega) (by decide)]
    rfl
  · rw [h2]
    have e2 : -((1 : Nat) : Int) % 4294967296 = ((4294967295 : Nat) : Int) := by decide
    rw [e2, show ((3988292384 : Int)) = ((3988292384 : Nat) : Int) from rfl, and32_nat _ _ (by decide) (by decide), xor32_nat _ _ (by omega) (by decide)]
    rfl
theorem crcBits_nat (n : Nat) {x : Nat} (h : x < 2 ^ 32) : crcBits n (x : Int) = (nbits n x : Nat) := by
  induction n with
  | zero => rfl
  | succ n ih => unfold crcBits nbits; rw [ih, crcBit_nat (nbits_lt n h)]
theorem crcByte_nat {x : Nat} (h : x < 2 ^ 32) (b : UInt8) : crcByte (x : Int) b = (nbyte x b.toNat : Nat) := by
  unfold crcByte nbyte
  have hb := b.toNat_lt
  rw [xor32_nat _ _ h (by omega), crcBits_nat 8 (Nat.xor_lt_two_pow h (by omega))]
theorem crcFold_nat (l : List UInt8) : ∀ x : Nat, x < 2 ^ 32 → l.foldl crcByte (x : Int) = (nall (l.map UInt8.toNat) x : Nat) := by
  induction l with
  | nil => intro x _; rfl
  | cons b l ih =>
    intro x h
    simp only [List.foldl_cons, List.map_cons, nall]
    rw [crcByte_nat h, ih _ (nbyte_lt h (by have := b.toNat_lt; omega))]
    rfl
theorem crcAll_nat (l : List UInt8) : crcAll l = (nall (l.map UInt8.toNat) 4294967295 : Nat) := crcFold_nat l 4294967295 (by decide)
/-- The sum of bytes. -/
def nsum (l : List UInt8) : Nat := nall (l.map UInt8.toNat) 4294967295 ^^^ 4294967295
theorem nall_lt' (l : List UInt8) : nall (l.map UInt8.toNat) 4294967295 < 2 ^ 32 :=
  nall_lt _ _ (by decide) (fun b hb => by obtain ⟨c, _, rfl⟩ := List.mem_map.1 hb; have := c.toNat_lt; omega)
theorem nsum_lt (l : List UInt8) : nsum l < 2 ^ 32 := Nat.xor_lt_two_pow (nall_lt' l) (by decide)
theorem sum_eq (s : ByteArray) (h : s.size ≤ 9223372036854775807) : frame_Sum.f s = some ((nsum s.data.toList : Nat) : Int) := by
  unfold frame_Sum.f nsum
  rw [if_pos h, crcAll_nat]
  rw [show IntKind.u32.max = ((4294967295 : Nat) : Int) from by decide, xor32_nat _ _ (by decide) (nall_lt' _), Nat.xor_comm]
/-! ### it is linear -/
theorem nbit_xor (x y : Nat) : nbit (x ^^^ y) = nbit x ^^^ nbit y := by
  apply Nat.eq_of_testBit_eq
  intro i
  have key : ∀ z, (nbit z).testBit i = ((z.testBit (i + 1)) ^^ (z.testBit 0 && (3988292384 : Nat).testBit i)) := by
    intro z
    unfold nbit
    rw [Nat.testBit_xor, Nat.testBit_div_two]
    congr 1
    rw [Nat.testBit_zero]
    rcases Nat.mod_two_eq_zero_or_one z with h | h <;> simp [h]
  rw [key, Nat.testBit_xor (nbit x) (nbit y), key, key, Nat.testBit_xor, Nat.testBit_xor]
  cases x.testBit (i + 1) <;> cases y.testBit (i + 1) <;> cases x.testBit 0 <;> cases y.testBit 0 <;> cases (3988292384 : Nat).testBit i <;> rfl
theorem nbits_xor (n : Nat) (x y : Nat) : nbits n (x ^^^ y) = nbits n x ^^^ nbits n y := by
  induction n with
  | zero => rfl
  | succ n ih => unfold nbits; rw [ih, nbit_xor]
theorem nbyte_xor (x y a b : Nat) : nbyte (x ^^^ y) (a ^^^ b) = nbyte x a ^^^ nbyte y b := by
  unfold nbyte
  rw [← nbits_xor]
  congr 1
  rw [Nat.xor_assoc, Nat.xor_assoc]
  congr 1
  rw [← Nat.xor_assoc, Nat.xor_comm y a, Nat.xor_assoc]
theorem nall_xor (l m : List Nat) : ∀ x y, l.length = m.length → nall (List.zipWith (· ^^^ ·) l m) (x ^^^ y) = nall l x ^^^ nall m y := by
  induction l generalizing m with
  | nil => intro x y h; cases m with
    | nil => rfl
    | cons _ _ => simp at h
  | cons a l ih =>
    intro x y h
    cases m with
    | nil => simp at h
    | cons b m =>
      simp only [List.zipWith_cons_cons, nall, List.foldl_cons]
      rw [nbyte_xor]
      exact ih m _ _ (by simpa using h)
/-! ### the code's own lists -/
theorem nums_str (l : List Int) (h : ∀ x ∈ l, 0 ≤ x ∧ x < 256) : (strOfNums l).data.toList.map UInt8.toNat = l.map Int.toNat := by
  unfold strOfNums
  simp only [List.map_map]
  refine List.map_congr_left fun x hx => ?_
  have := h x hx
  simp only [Function.comp]
  rw [UInt8.toNat_ofNat']
  omega
theorem size_strOfNums (l : List Int) : (strOfNums l).size = l.length := by unfold strOfNums; simp [ByteArray.size]
theorem works_ok : hopperlaw06_works.f = some true := by decide +kernel
theorem sums_loop (a b : ByteArray) (hab : a.size = b.size) (ha : a.size ≤ 140737488351232) (d : Nat) : ∀ (k i : Nat) (x : List Int), i + d = a.size → d + 1 ≤ k → x.length = a.size → (∀ v ∈ x, 0 ≤ v ∧ v < 256) →
    x.take i = (List.zipWith (fun p q : UInt8 => ((p.toNat ^^^ q.toNat : Nat) : Int)) a.data.toList b.data.toList).take i →
    hopperlaw06_FrameSums.l0 k a b x (List.replicate a.size 0) a.size i = some true := by
  have hb : b.size ≤ 140737488351232 := by omega
  have hla : a.data.toList.length = a.size := by simp
  have hlb : b.data.toList.length = a.size := by simp; omega
  induction d with
  | zero =>
    intro k i x hi hk hx hv he
    obtain ⟨k, rfl⟩ : ∃ m, k = m + 1 := ⟨k - 1, by omega⟩
    simp only [hopperlaw06_FrameSums.l0]
    rw [if_neg (by omega)]
    have hx' : x = List.zipWith (fun p q : UInt8 => ((p.toNat ^^^ q.toNat : Nat) : Int)) a.data.toList b.data.toList := by
      have h1 : x.take i = x := List.take_of_length_le (by omega)
      rw [← h1, he]
      refine List.take_of_length_le ?_
      rw [List.length_zipWith, hla, hlb]; omega
    have hz : ∀ v ∈ List.replicate a.size (0 : Int), 0 ≤ v ∧ v < 256 := fun v h => by rw [List.eq_of_mem_replicate h]; omega
    rw [sum_eq _ (by rw [size_strOfNums]; omega), sum_eq a (by omega), sum_eq b (by omega), sum_eq _ (by rw [size_strOfNums, List.length_replicate]; omega)]
    simp only [Option.bind_some, Option.some.injEq]
    rw [xor32_nat _ _ (nsum_lt _) (nsum_lt _), xor32_nat _ _ (Nat.xor_lt_two_pow (nsum_lt _) (nsum_lt _)) (nsum_lt _), beq_iff_eq]
    congr 1
    unfold nsum
    rw [nums_str x hv, nums_str _ hz, hx']
    have e1 : (List.zipWith (fun p q : UInt8 => ((p.toNat ^^^ q.toNat : Nat) : Int)) a.data.toList b.data.toList).map Int.toNat = List.zipWith (· ^^^ ·) (List.zipWith (· ^^^ ·) (a.data.toList.map UInt8.toNat) (b.data.toList.map UInt8.toNat)) ((List.replicate a.size (0 : Int)).map Int.toNat) := by
      apply List.ext_getElem?
      intro j
      simp only [List.getElem?_map, List.getElem?_zipWith, List.map_replicate, List.getElem?_replicate]
      by_cases hj : j < a.size
      · have h1 : a.data.toList[j]? = some (a.data.toList[j]'(by omega)) := List.getElem?_eq_getElem _
        have h2 : b.data.toList[j]? = some (b.data.toList[j]'(by omega)) := List.getElem?_eq_getElem _
        rw [h1, h2]; simp [hj]
      · have h1 : a.data.toList[j]? = none := List.getElem?_eq_none (by omega)
        rw [h1]; simp
    rw [e1]
    have e2 := nall_xor (List.zipWith (· ^^^ ·) (a.data.toList.map UInt8.toNat) (b.data.toList.map UInt8.toNat)) ((List.replicate a.size (0 : Int)).map Int.toNat) (4294967295 ^^^ 4294967295) 4294967295 (by simp [hab])
    have e3 := nall_xor (a.data.toList.map UInt8.toNat) (b.data.toList.map UInt8.toNat) 4294967295 4294967295 (by simp [hab])
    rw [show ((4294967295 : Nat) ^^^ 4294967295) ^^^ 4294967295 = 4294967295 from by decide] at e2
    rw [e2, e3]
    generalize nall (a.data.toList.map UInt8.toNat) 4294967295 = p
    generalize nall (b.data.toList.map UInt8.toNat) 4294967295 = q
    generalize nall ((List.replicate a.size (0 : Int)).map Int.toNat) 4294967295 = r
    apply Nat.eq_of_testBit_eq
    intro j
    simp only [Nat.testBit_xor]
    cases p.testBit j <;> cases q.testBit j <;> cases r.testBit j <;> cases (4294967295 : Nat).testBit j <;> rfl
  | succ d ih =>
    intro k i x hi hk hx hv he
    obtain ⟨k, rfl⟩ : ∃ m, k = m + 1 := ⟨k - 1, by omega⟩
    have hia : i < a.size := by omega
    have hib : i < b.size := by omega
    simp only [hopperlaw06_FrameSums.l0]
    have hi1 : wrap64 ((i : Int) + 1) = ((i + 1 : Nat) : Int) := by unfold wrap64; omega
    rw [if_pos (by omega), if_pos (by omega), if_pos (by omega), if_pos (by omega), if_pos (by omega), hi1]
    have ba : bt a (i : Int) = (a[i].toNat : Nat) := by unfold bt; simp [hia]
    have bb : bt b (i : Int) = (b[i].toNat : Nat) := by unfold bt; simp [hib]
    have h8a := a[i].toNat_lt
    have h8b := b[i].toNat_lt
    rw [ba, bb, xor8_nat _ _ (by omega) (by omega), Int.toNat_natCast]
    refine ih _ _ _ (by omega) (by omega) (by simpa using hx) ?_ ?_
    · intro v hv2
      rcases List.mem_or_eq_of_mem_set hv2 with h | h
      · exact hv v h
      · have : a[i].toNat ^^^ b[i].toNat < 2 ^ 8 := Nat.xor_lt_two_pow (by omega) (by omega)
        omega
    · apply List.ext_getElem?
      intro j
      have hj := congrArg (fun l => l[j]?) he
      simp only [List.getElem?_take] at hj ⊢
      by_cases h1 : j < i + 1
      · rw [if_pos h1, if_pos h1]
        by_cases h2 : j < i
        · rw [if_pos h2, if_pos h2] at hj
          rw [List.getElem?_set_ne (by omega), hj]
        · obtain rfl : j = i := by omega
          rw [List.getElem?_set_self (by omega), List.getElem?_zipWith, List.getElem?_eq_getElem (by omega), List.getElem?_eq_getElem (by omega)]
          rfl
      · rw [if_neg h1, if_neg h1]
theorem FrameSums : hopperlaw06_FrameSums.Pure := by
  intro a b ha hb
  have hm : mn (a.size : Int) (b.size : Int) = ((min a.size b.size : Nat) : Int) := by unfold mn; split <;> omega
  refine ⟨min a.size b.size + 5, ?_⟩
  unfold hopperlaw06_FrameSums.f
  rw [works_ok]
  simp only [Option.bind_some, if_true]
  rw [hm, if_pos (by omega), if_pos (by omega), if_pos (by omega), if_pos (by omega), Int.toNat_natCast]
  have sa : (a.extract 0 (min a.size b.size)).size = min a.size b.size := by rw [ByteArray.size_extract]; omega
  have sb : (b.extract 0 (min a.size b.size)).size = min a.size b.size := by rw [ByteArray.size_extract]; omega
  have := sums_loop (a.extract 0 (min a.size b.size)) (b.extract 0 (min a.size b.size)) (by rw [sa, sb]) (by rw [sa]; omega) (min a.size b.size) (min a.size b.size + 5) 0 (List.replicate (min a.size b.size) 0)
    (by rw [sa]; omega) (by omega) (by rw [sa, List.length_replicate]) (fun v h => by rw [List.eq_of_mem_replicate h]; omega) (by simp)
  rw [sa] at this
  exact this
end Go.Proofs.Ytmfbmagbpceomaa.Pure
