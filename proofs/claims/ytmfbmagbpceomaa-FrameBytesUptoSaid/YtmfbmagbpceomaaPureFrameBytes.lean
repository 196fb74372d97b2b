/- Bytes are framed, summed, and found in frames, as the document has it: any bytes, any place. -/
import Derived.Test.YtmfbmagbpceomaaHFrameBytesx
namespace Go.Proofs.Ytmfbmagbpceomaa.Pure
open Go.RowKit Go.Proofs.Ytmfbmagbpceomaa.HFrameBytes Go.Proofs.YtmfbmagbpceomaaW.PrintWords Go.Proofs.YtmfbmagbpceomaaW.PrintLast Go.Proofs.YtmfbmagbpceomaaW.PrintMore
set_option linter.unusedVariables false
set_option linter.unusedSimpArgs false
/-! ### the sum, in natural numbers -/
theorem u32w {n : Int} (h0 : 0 ≤ n) (h1 : n < 4294967296) : IntKind.u32.wrap n = n := by rw [IntKind.wrap_u32]; omega
theorem u32w' (n : Int) (h0 : 0 ≤ n) (h1 : n < 2 ^ 32) : IntKind.u32.wrap n = n := u32w h0 (by omega)
theorem and32_nat (x y : Nat) (hx : x < 2 ^ 32) (hy : y < 2 ^ 32) : Go.bits .and .u32 x y = ((x &&& y : Nat) : Int) := (Go.bits_nat .u32 32 (by decide) u32w' x y hx hy).1
theorem xor32_nat (x y : Nat) (hx : x < 2 ^ 32) (hy : y < 2 ^ 32) : Go.bits .xor .u32 x y = ((x ^^^ y : Nat) : Int) := by
  have h : x ^^^ y < 2 ^ 32 := Nat.xor_lt_two_pow hx hy
  show IntKind.u32.wrap ((BitVec.ofInt 32 (x : Int) ^^^ BitVec.ofInt 32 (y : Int)).toNat : Int) = _
  rw [BitVec.toNat_xor, BitVec.ofInt_natCast, BitVec.ofInt_natCast, BitVec.toNat_ofNat, BitVec.toNat_ofNat, Nat.mod_eq_of_lt hx, Nat.mod_eq_of_lt hy]
  exact u32w (by omega) (by omega)
theorem xor8_nat (x y : Nat) (hx : x < 2 ^ 8) (hy : y < 2 ^ 8) : Go.bits .xor .u8 x y = ((x ^^^ y : Nat) : Int) := by
  have h : x ^^^ y < 2 ^ 8 := Nat.xor_lt_two_pow hx hy
  show IntKind.u8.wrap ((BitVec.ofInt 8 (x : Int) ^^^ BitVec.ofInt 8 (y : Int)).toNat : Int) = _
  rw [BitVec.toNat_xor, BitVec.ofInt_natCast, BitVec.ofInt_natCast, BitVec.toNat_ofNat, BitVec.toNat_ofNat, Nat.mod_eq_of_lt hx, Nat.mod_eq_of_lt hy, IntKind.wrap_u8]
  omega
def nbit (x : Nat) : Nat := x / 2 ^^^ (if x % 2 = 1 then 3988292384 else 0)
def nbits : Nat → Nat → Nat
  | 0, x => x
  | n + 1, x => nbit (nbits n x)
def nbyte (x b : Nat) : Nat := nbits 8 (x ^^^ b)
def nall (l : List Nat) (x : Nat) : Nat := l.foldl nbyte x
theorem nbit_lt {x : Nat} (h : x < 2 ^ 32) : nbit x < 2 ^ 32 := by
  unfold nbit
  refine Nat.xor_lt_two_pow (by omega) ?_
  split <;> decide
theorem nbits_lt (n : Nat) {x : Nat} (h : x < 2 ^ 32) : nbits n x < 2 ^ 32 := by
  induction n with
  | zero => exact h
  | succ n ih => exact nbit_lt ih
theorem nbyte_lt {x b : Nat} (h : x < 2 ^ 32) (hb : b < 256) : nbyte x b < 2 ^ 32 := nbits_lt 8 (Nat.xor_lt_two_pow h (by omega))
theorem nall_lt (l : List Nat) : ∀ x, x < 2 ^ 32 → (∀ b ∈ l, b < 256) → nall l x < 2 ^ 32 := by
  induction l with
  | nil => intro x h _; exact h
  | cons b l ih => intro x h hb; exact ih _ (nbyte_lt h (hb b (by simp))) (fun c hc => hb c (List.mem_cons_of_mem _ hc))
theorem crcBit_nat {x : Nat} (h : x < 2 ^ 32) : crcBit (x : Int) = (nbit x : Nat) := by
  unfold crcBit nbit
  have e1 : Go.bits .and .u32 (x : Int) 1 = ((x % 2 : Nat) : Int) := by
    have := and32_nat x 1 h (by decide)
    rw [Nat.and_one_is_mod] at this
    exact this
  rw [e1]
  have e3 : (x : Int) / 2 = ((x / 2 : Nat) : Int) := by omega
  rw [e3]
  rcases Nat.mod_two_eq_zero_or_one x with h2 | h2
  · rw [h2]
    have e2 : -((0 : Nat) : Int) % 4294967296 = ((0 : Nat) : Int) := by decide
    rw [e2, show ((3988292384 : Int)) = ((3988292384 : Nat) : Int) from rfl, and32_nat _ _ (by decide) (by decide), xor32_nat _ _ (by omega) (by decide)]
    rfl
  · rw [h2]
    have e2 : -((1 : Nat) : Int) % 4294967296 = ((4294967295 : Nat) : Int) := by decide
    rw [e2, show ((3988292384 : Int)) = ((3988292384 : Nat) : Int) from rfl, and32_nat _ _ (by decide) (by decide), xor32_nat _ _ (by omega) (by decide)]
    rfl
theorem crcBits_nat (n : Nat) {x : Nat} (h : x < 2 ^ 32) : crcBits n (x : Int) = (nbits n x : Nat) := by
  induction n with
  | zero => rfl
  | succ n ih => unfold crcBits nbits; rw [ih, crcBit_nat (nbits_lt n h)]
theorem crcByte_nat {x : Nat} (h : x < 2 ^ 32) (b : UInt8) : crcByte (x : Int) b = (nbyte x b.toNat : Nat) := by
  unfold crcByte nbyte
  have hb := b.toNat_lt
  rw [xor32_nat _ _ h (by omega), crcBits_nat 8 (Nat.xor_lt_two_pow h (by omega))]
theorem crcFold_nat (l : List UInt8) : ∀ x : Nat, x < 2 ^ 32 → l.foldl crcByte (x : Int) = (nall (l.map UInt8.toNat) x : Nat) := by
  induction l with
  | nil => intro x _; rfl
  | cons b l ih =>
    intro x h
    simp only [List.foldl_cons, List.map_cons, nall]
    rw [crcByte_nat h, ih _ (nbyte_lt h (by have := b.toNat_lt; omega))]
    rfl
theorem crcAll_nat (l : List UInt8) : crcAll l = (nall (l.map UInt8.toNat) 4294967295 : Nat) := crcFold_nat l 4294967295 (by decide)
/-- The sum of bytes. -/
def nsum (l : List UInt8) : Nat := nall (l.map UInt8.toNat) 4294967295 ^^^ 4294967295
theorem nall_lt' (l : List UInt8) : nall (l.map UInt8.toNat) 4294967295 < 2 ^ 32 :=
  nall_lt _ _ (by decide) (fun b hb => by obtain ⟨c, _, rfl⟩ := List.mem_map.1 hb; have := c.toNat_lt; omega)
theorem nsum_lt (l : List UInt8) : nsum l < 2 ^ 32 := Nat.xor_lt_two_pow (nall_lt' l) (by decide)
theorem sum_eq (s : ByteArray) (h : s.size ≤ 9223372036854775807) : frame_Sum.f s = some ((nsum s.data.toList : Nat) : Int) := by
  unfold frame_Sum.f nsum
  rw [if_pos h, crcAll_nat]
  rw [show IntKind.u32.max = ((4294967295 : Nat) : Int) from by decide, xor32_nat _ _ (by decide) (nall_lt' _), Nat.xor_comm]
/-! ### the frame, of both -/
theorem ba_ext {a b : ByteArray} (h : a.data.toList = b.data.toList) : a = b := by
  cases a; cases b; simp only [ByteArray.mk.injEq]; exact Array.toList_inj.1 h
theorem strOfNums_append (l m : List Int) : strOfNums (l ++ m) = strOfNums l ++ strOfNums m := by
  apply ba_ext; unfold strOfNums; simp [ByteArray.data_append]
theorem strOfNums_bytesOf (b : ByteArray) : strOfNums (bytesOf b) = b := by
  apply ba_ext
  unfold strOfNums bytesOf
  simp only [List.map_map]
  conv => rhs; rw [← List.map_id b.data.toList]
  refine List.map_congr_left fun x _ => ?_
  simp
theorem size_strOfNums (l : List Int) : (strOfNums l).size = l.length := by unfold strOfNums; simp [ByteArray.size]
/-- A number as four bytes, the lowest first. -/
def le4 (n : Nat) : List Int := [((n % 256 : Nat) : Int), ((n / 256 % 256 : Nat) : Int), ((n / 65536 % 256 : Nat) : Int), ((n / 16777216 % 256 : Nat) : Int)]
theorem put_eq (l : List Int) (n : Nat) (h : l.length < 140737488355000) : frame_put.f l (n : Int) = some (l ++ le4 n) := by
  unfold frame_put.f
  simp only [Option.bind_some]
  rw [if_pos (by simp; omega)]
  unfold le4
  have e1 : ((n : Int)) % 256 = ((n % 256 : Nat) : Int) := by omega
  have e2 : ((n : Int) / 256) % 256 = ((n / 256 % 256 : Nat) : Int) := by omega
  have e3 : ((n : Int) / 65536) % 256 = ((n / 65536 % 256 : Nat) : Int) := by omega
  have e4 : ((n : Int) / 16777216) % 256 = ((n / 16777216 % 256 : Nat) : Int) := by omega
  rw [e1, e2, e3, e4]
/-- The frame of bytes. -/
def frameOf (b : ByteArray) : ByteArray := strOfNums (le4 b.size) ++ b ++ strOfNums (le4 (nsum (strOfNums (le4 b.size) ++ b).data.toList))
theorem le4_len (n : Nat) : (le4 n).length = 4 := rfl
theorem bytesOf_len (b : ByteArray) : (bytesOf b).length = b.size := by unfold bytesOf; simp
theorem frame_eq (b : ByteArray) : frame_Frame.f b = some (if (b.size : Int) > 65536 then (⟨#[]⟩, 2) else (frameOf b, 0)) := by
  unfold frame_Frame.f
  by_cases h : (b.size : Int) > 65536
  · rw [if_pos h, if_pos h]
  · rw [if_neg h, if_neg h]
    have e1 : wrap64 (wrap64 (4 + (b.size : Int)) + 4) = (b.size : Int) + 8 := by unfold wrap64; omega
    have e2 : ((b.size : Int)) % 4294967296 = ((b.size : Nat) : Int) := by omega
    rw [e1, if_pos (by omega), if_pos (by omega), e2, put_eq [] b.size (by simp)]
    simp only [Option.bind_some, List.nil_append]
    rw [if_pos (by rw [le4_len]; omega), sum_eq _ (by rw [size_strOfNums, List.length_append, le4_len, bytesOf_len]; omega)]
    simp only [Option.bind_some]
    rw [put_eq _ _ (by rw [List.length_append, le4_len, bytesOf_len]; omega)]
    simp only [Option.bind_some]
    unfold frameOf
    rw [strOfNums_append, strOfNums_append, strOfNums_bytesOf]
/-! ### the document's sum and frame -/
theorem ref_bits (s : ByteArray) (d : Nat) : ∀ (k i j : Nat) (x : Nat), x < 2 ^ 32 → j + d = 8 → d + 1 ≤ k → i < 9223372036854775806 →
    hopperref06_Sum.l1 k s (x : Int) (i : Int) (j : Int) = hopperref06_Sum.l0 (k - d - 1) s ((nbits d x : Nat) : Int) ((i + 1 : Nat) : Int) := by
  induction d with
  | zero =>
    intro k i j x hx hj hk hi
    obtain ⟨k, rfl⟩ : ∃ m, k = m + 1 := ⟨k - 1, by omega⟩
    simp only [hopperref06_Sum.l1]
    rw [if_neg (by omega)]
    have : wrap64 ((i : Int) + 1) = ((i + 1 : Nat) : Int) := by unfold wrap64; omega
    rw [this]; rfl
  | succ d ih =>
    intro k i j x hx hj hk hi
    obtain ⟨k, rfl⟩ : ∃ m, k = m + 1 := ⟨k - 1, by omega⟩
    have hb := nbit_lt hx
    have hcomm : ∀ n y, nbits n (nbit y) = nbit (nbits n y) := by
      intro n y
      induction n with
      | zero => rfl
      | succ n ih => unfold nbits; rw [ih]
    have step : nbits (d + 1) x = nbits d (nbit x) := by rw [hcomm]; rfl
    simp only [hopperref06_Sum.l1]
    rw [if_pos (by omega), Int.tmod_eq_emod_of_nonneg (by omega), Int.tdiv_eq_ediv_of_nonneg (by omega)]
    have ej : wrap64 ((j : Int) + 1) = ((j + 1 : Nat) : Int) := by unfold wrap64; omega
    have ex : (x : Int) / 2 % 4294967296 = ((x / 2 : Nat) : Int) := by omega
    rw [ej, ex, step]
    by_cases h1 : x % 2 = 1
    · rw [if_pos (by omega), show ((3988292384 : Int)) = ((3988292384 : Nat) : Int) from rfl, xor32_nat _ _ (by omega) (by decide)]
      have : x / 2 ^^^ 3988292384 = nbit x := by unfold nbit; rw [if_pos h1]
      rw [this, ih k i (j + 1) (nbit x) hb (by omega) (by omega) hi]
      rw [show k + 1 - (d + 1) - 1 = k - d - 1 from by omega]
    · rw [if_neg (by omega)]
      have : x / 2 = nbit x := by unfold nbit; rw [if_neg h1, Nat.xor_zero]
      rw [this, ih k i (j + 1) (nbit x) hb (by omega) (by omega) hi]
      rw [show k + 1 - (d + 1) - 1 = k - d - 1 from by omega]
theorem ref_sum_loop (s : ByteArray) (hs : s.size ≤ 9223372036854775000) (d : Nat) : ∀ (k i x : Nat), x < 2 ^ 32 → i + d = s.size → 10 * d + 1 ≤ k →
    hopperref06_Sum.l0 k s (x : Int) (i : Int) = some (((nall ((s.data.toList.drop i).map UInt8.toNat) x ^^^ 4294967295 : Nat) : Nat) : Int) := by
  induction d with
  | zero =>
    intro k i x hx hi hk
    obtain ⟨k, rfl⟩ : ∃ m, k = m + 1 := ⟨k - 1, by omega⟩
    simp only [hopperref06_Sum.l0]
    rw [if_neg (by omega), List.drop_of_length_le (by simp; omega), show ((4294967295 : Int)) = ((4294967295 : Nat) : Int) from rfl, xor32_nat _ _ hx (by decide)]
    rfl
  | succ d ih =>
    intro k i x hx hi hk
    obtain ⟨k, rfl⟩ : ∃ m, k = m + 1 := ⟨k - 1, by omega⟩
    have hlt : i < s.size := by omega
    simp only [hopperref06_Sum.l0]
    have hbt : bt s (i : Int) % 4294967296 = ((s[i].toNat : Nat) : Int) := by
      have h8 := s[i].toNat_lt
      unfold bt; simp only [Int.toNat_natCast, hlt, dite_true]; omega
    have h8 := s[i].toNat_lt
    have hy : x ^^^ s[i].toNat < 2 ^ 32 := Nat.xor_lt_two_pow hx (by omega)
    rw [if_pos (by omega), if_pos (by omega), hbt, xor32_nat _ _ hx (by omega)]
    have := ref_bits s 8 k i 0 (x ^^^ s[i].toNat) hy (by omega) (by omega) (by omega)
    rw [show (((0 : Nat)) : Int) = 0 from rfl] at this
    rw [this, ih _ (i + 1) _ (nbits_lt 8 hy) (by omega) (by omega)]
    have hd : s.data.toList.drop i = s[i] :: s.data.toList.drop (i + 1) := by
      rw [List.drop_eq_getElem_cons (by simpa using hlt)]; rfl
    rw [hd]
    rfl
theorem refsum_eq (s : ByteArray) (hs : s.size ≤ 9223372036854775000) (k : Nat) (hk : 10 * s.size + 1 ≤ k) : hopperref06_Sum.f k s = some ((nsum s.data.toList : Nat) : Int) := by
  unfold hopperref06_Sum.f
  have := ref_sum_loop s hs s.size k 0 4294967295 (by decide) (by omega) hk
  simpa [nsum] using this
theorem four_eq (n : Nat) (h : n < 4294967296) : hopperref06_four.f (n : Int) = some (strOfNums (le4 n)) := by
  unfold hopperref06_four.f le4
  rw [Int.tmod_eq_emod_of_nonneg (by omega), Int.tdiv_eq_ediv_of_nonneg (by omega), Int.tdiv_eq_ediv_of_nonneg (by omega), Int.tdiv_eq_ediv_of_nonneg (by omega)]
  have e1 : ((n : Int)) % 256 % 256 = ((n % 256 : Nat) : Int) := by omega
  have e2 : ((n : Int) / 256) % 4294967296 % 256 = ((n / 256 % 256 : Nat) : Int) := by omega
  have e3 : ((n : Int) / 65536) % 4294967296 % 256 = ((n / 65536 % 256 : Nat) : Int) := by omega
  have e4 : ((n : Int) / 16777216) % 4294967296 % 256 = ((n / 16777216 % 256 : Nat) : Int) := by omega
  rw [e1, e2, e3, e4]
theorem ba_size_append (a b : ByteArray) : (a ++ b).size = a.size + b.size := ByteArray.size_append
theorem refframe_eq (b : ByteArray) (k : Nat) (hk : 10 * b.size + 50 ≤ k) : hopperref06_Frame.f k b = some (if (b.size : Int) > 65536 then (⟨#[]⟩, 2) else (frameOf b, 0)) := by
  unfold hopperref06_Frame.f
  by_cases h : (b.size : Int) > 65536
  · rw [if_pos h, if_pos h]
  · rw [if_neg h, if_neg h]
    unfold hopperref06_Of.f
    have e2 : ((b.size : Int)) % 4294967296 = ((b.size : Nat) : Int) := by omega
    have hz : (strOfNums (le4 b.size)).size = 4 := by rw [size_strOfNums, le4_len]
    rw [e2, four_eq _ (by omega)]
    simp only [Option.bind_some]
    rw [if_pos (by rw [hz]; omega), refsum_eq _ (by rw [ba_size_append, hz]; omega) k (by rw [ba_size_append, hz]; omega)]
    simp only [Option.bind_some]
    rw [four_eq _ (by have := nsum_lt (strOfNums (le4 b.size) ++ b).data.toList; omega)]
    simp only [Option.bind_some]
    rw [if_pos (by rw [hz, size_strOfNums, le4_len]; omega)]
    rfl
theorem or32_join (i : Nat) (hi : i ≤ 32) (x y : Int) (hx0 : 0 ≤ x) (hx : x < 2 ^ i) (hy0 : 0 ≤ y) (hy : y % 2 ^ i = 0) (hy1 : y < 4294967296) (hx1 : x < 4294967296) : Go.bits .or .u32 x y = y + x := by
  have hc : Go.bits .or .u32 x y = Go.bits .or .u32 y x := by
    unfold Go.bits; simp only [BitVec.or_comm]
  rw [hc]
  exact Go.bits_join .u32 32 (by decide) u32w' i y x hy0 hy (by omega) hx0 hx (by omega)
theorem get_unfour (s : ByteArray) : frame_get.f s = hopperref06_unfour.f s := by
  unfold frame_get.f hopperref06_unfour.f
  have hb : ∀ j : Int, 0 ≤ bt s j ∧ bt s j < 256 := by
    intro j; unfold bt; split
    · have := (s[j.toNat]).toNat_lt; omega
    · omega
  have h0 := hb 0; have h1 := hb 1; have h2 := hb 2; have h3 := hb 3
  generalize bt s 0 = a at *
  generalize bt s 1 = b at *
  generalize bt s 2 = c at *
  generalize bt s 3 = d at *
  have e1 : Go.bits .or .u32 (a % 4294967296) ((b % 4294967296 * 256) % 4294967296) = b * 256 + a := by
    rw [show a % 4294967296 = a from by omega, show b % 4294967296 * 256 % 4294967296 = b * 256 from by omega]
    exact or32_join 8 (by decide) a (b * 256) h0.1 (by omega) (by omega) (by omega) (by omega) (by omega)
  have e2 : Go.bits .or .u32 (b * 256 + a) ((c % 4294967296 * 65536) % 4294967296) = c * 65536 + (b * 256 + a) := by
    rw [show c % 4294967296 * 65536 % 4294967296 = c * 65536 from by omega]
    exact or32_join 16 (by decide) (b * 256 + a) (c * 65536) (by omega) (by omega) (by omega) (by omega) (by omega) (by omega)
  have e3 : Go.bits .or .u32 (c * 65536 + (b * 256 + a)) ((d % 4294967296 * 16777216) % 4294967296) = d * 16777216 + (c * 65536 + (b * 256 + a)) := by
    rw [show d % 4294967296 * 16777216 % 4294967296 = d * 16777216 from by omega]
    exact or32_join 24 (by decide) (c * 65536 + (b * 256 + a)) (d * 16777216) (by omega) (by omega) (by omega) (by omega) (by omega) (by omega)
  rw [e1, e2, e3]
  have e4 : d * 16777216 + (c * 65536 + (b * 256 + a)) = (((a % 4294967296 + b % 4294967296 * 256 % 4294967296) % 4294967296 + c % 4294967296 * 65536 % 4294967296) % 4294967296 + d % 4294967296 * 16777216 % 4294967296) % 4294967296 := by omega
  rw [e4]
/-! ### cuts of bytes -/
theorem extract_list (s : ByteArray) (a b : Nat) : (s.extract a b).data.toList = (s.data.toList.drop a).take (b - a) := by
  simp [List.extract_eq_take_drop]
theorem extract_extract (s : ByteArray) (k a b : Nat) (h : k + b ≤ s.size) : (s.extract k s.size).extract a b = s.extract (k + a) (k + b) := by
  apply ba_ext
  rw [extract_list, extract_list, extract_list, List.drop_take, List.take_take, List.drop_drop]
  congr 1; omega
theorem get_some (s : ByteArray) (h : 4 ≤ s.size) : ∃ n, frame_get.f s = some n := by
  unfold frame_get.f
  rw [if_pos (by omega), if_pos (by omega), if_pos (by omega), if_pos (by omega)]
  exact ⟨_, rfl⟩
/-- What an answer of Unframe is like: found, and the place behind; or a fault. -/
def Told (s : ByteArray) (a : Int) (r : ByteArray × Int × Int × Int) : Prop :=
  (r.2.2.2 = 0 ∧ r.2.2.1 = 0 ∧ 0 ≤ a ∧ a + 8 ≤ r.2.1 ∧ r.2.1 ≤ (s.size : Int)) ∨ r.2.2.2 ≠ 0
theorem unframe_some (s : ByteArray) (a : Int) (hs : s.size ≤ 9223372036854775000) : ∃ r, frame_Unframe.f s a = some r ∧ Told s a r := by
  unfold frame_Unframe.f
  by_cases h1 : a < 0
  · rw [if_pos h1]; exact ⟨_, rfl, .inr (by simp)⟩
  rw [if_neg h1]
  by_cases h2 : a > (s.size : Int)
  · rw [if_pos h2]; exact ⟨_, rfl, .inr (by simp)⟩
  rw [if_neg h2, if_pos hs]
  by_cases h3 : s.size - a.toNat < 4
  · rw [if_pos h3]; exact ⟨_, rfl, .inr (by simp)⟩
  rw [if_neg h3]
  obtain ⟨n, hn⟩ := get_some (s.extract a.toNat s.size) (by rw [ByteArray.size_extract]; omega)
  obtain ⟨n0, n1⟩ := get_lt hn
  rw [hn]
  simp only [Option.bind_some]
  by_cases h4 : n > 65536
  · rw [if_pos h4]; exact ⟨_, rfl, .inr (by simp)⟩
  rw [if_neg h4, if_pos n0]
  by_cases h5 : ((s.size - a.toNat : Nat) : Int) < 4 + n + 4
  · rw [if_pos h5]; exact ⟨_, rfl, .inr (by simp)⟩
  rw [if_neg h5, sum_eq _ (by rw [ByteArray.size_extract, ByteArray.size_extract]; omega)]
  obtain ⟨y, hy⟩ := get_some ((s.extract a.toNat s.size).extract (4 + n).toNat (s.size - a.toNat)) (by rw [ByteArray.size_extract, ByteArray.size_extract]; omega)
  simp only [Option.bind_some]
  rw [hy]
  simp only [Option.bind_some]
  by_cases h6 : ((nsum ((s.extract a.toNat s.size).extract 0 (4 + n).toNat).data.toList : Nat) : Int) = y
  · rw [if_pos h6]; exact ⟨_, rfl, .inl ⟨rfl, rfl, by omega, by simp only; omega, by simp only; omega⟩⟩
  · rw [if_neg h6]; exact ⟨_, rfl, .inr (by simp)⟩
/-! ### the document's Unframe is the code's -/
theorem bt_extract (s : ByteArray) (a b : Nat) (j : Int) (hj : 0 ≤ j) (h : (a : Int) + j < b) (hb : b ≤ s.size) : bt (s.extract a b) j = bt s ((a : Int) + j) := by
  obtain ⟨m, rfl⟩ := Int.eq_ofNat_of_zero_le hj
  unfold bt
  have h1 : m < (s.extract a b).size := by rw [ByteArray.size_extract]; omega
  have h2 : a + m < s.size := by omega
  have e : ((a : Int) + (m : Int)).toNat = a + m := by omega
  simp only [Int.toNat_natCast, e, h1, h2, dite_true]
  have : (s.extract a b)[m] = s[a + m] := by
    simp only [ByteArray.getElem_eq_getElem_data, ByteArray.data_extract, Array.getElem_extract]
  rw [this]
theorem unfour_ext (s t : ByteArray) (hs : 4 ≤ s.size) (ht : 4 ≤ t.size) (h : ∀ j : Int, 0 ≤ j → j < 4 → bt s j = bt t j) : hopperref06_unfour.f s = hopperref06_unfour.f t := by
  unfold hopperref06_unfour.f
  rw [if_pos (by omega), if_pos (by omega), if_pos (by omega), if_pos (by omega), if_pos (by omega), if_pos (by omega), if_pos (by omega), if_pos (by omega), h 0 (by omega) (by omega), h 1 (by omega) (by omega), h 2 (by omega) (by omega), h 3 (by omega) (by omega)]
theorem unframe_ref (s : ByteArray) (a : Int) (hs : s.size ≤ 9223372036854775000) (K : Nat) (hK : 10 * s.size + 50 ≤ K) : hopperref06_Unframe.f K s a = frame_Unframe.f s a := by
  unfold hopperref06_Unframe.f frame_Unframe.f
  by_cases h1 : a < 0
  · rw [if_pos h1, if_pos h1]
  rw [if_neg h1, if_neg h1]
  by_cases h2 : a > (s.size : Int)
  · rw [if_pos h2, if_pos h2]
  rw [if_neg h2, if_neg h2, if_pos hs, if_pos hs]
  by_cases h3 : s.size - a.toNat < 4
  · rw [if_pos h3, if_pos (by omega)]
  rw [if_neg h3, if_neg (by omega)]
  obtain ⟨k, rfl⟩ := Int.eq_ofNat_of_zero_le (show 0 ≤ a by omega)
  simp only [Int.toNat_natCast] at h3 ⊢
  have e1 : hopperref06_unfour.f (s.extract k (k + 4)) = frame_get.f (s.extract k s.size) := by
    rw [get_unfour]
    refine unfour_ext _ _ (by rw [ByteArray.size_extract]; omega) (by rw [ByteArray.size_extract]; omega) (fun j h0 h4 => ?_)
    rw [bt_extract _ _ _ _ h0 (by omega) (by omega), bt_extract _ _ _ _ h0 (by omega) (by omega)]
  rw [e1]
  obtain ⟨n, hn⟩ := get_some (s.extract k s.size) (by rw [ByteArray.size_extract]; omega)
  obtain ⟨n0, n1⟩ := get_lt hn
  rw [hn]
  simp only [Option.bind_some]
  by_cases h4 : n > 65536
  · rw [if_pos h4, if_pos h4]
  rw [if_neg h4, if_neg h4, if_pos n0, if_pos n0]
  by_cases h5 : ((s.size - k : Nat) : Int) < 4 + n + 4
  · rw [if_pos h5, if_pos (by omega)]
  rw [if_neg h5, if_neg (by omega)]
  have x1 : s.extract k ((k : Int) + 4 + n).toNat = (s.extract k s.size).extract 0 (4 + n).toNat := by
    rw [extract_extract _ _ _ _ (by omega)]; congr 1; omega
  have x2 : hopperref06_unfour.f (s.extract ((k : Int) + 4 + n).toNat ((k : Int) + 8 + n).toNat) = frame_get.f ((s.extract k s.size).extract (4 + n).toNat (s.size - k)) := by
    rw [get_unfour, extract_extract _ _ _ _ (by omega)]
    refine unfour_ext _ _ (by rw [ByteArray.size_extract]; omega) (by rw [ByteArray.size_extract]; omega) (fun j h0 h4 => ?_)
    rw [bt_extract _ _ _ _ h0 (by omega) (by omega), bt_extract _ _ _ _ h0 (by omega) (by omega)]
    congr 1; omega
  have x3 : s.extract (k + 4) ((k : Int) + 4 + n).toNat = (s.extract k s.size).extract 4 (4 + n).toNat := by
    rw [extract_extract _ _ _ _ (by omega)]; congr 1; omega
  rw [x1, x2, x3, refsum_eq _ (by rw [ByteArray.size_extract, ByteArray.size_extract]; omega) K (by rw [ByteArray.size_extract, ByteArray.size_extract]; omega), sum_eq _ (by rw [ByteArray.size_extract, ByteArray.size_extract]; omega)]
  rw [show (k : Int) + 8 + n = (k : Int) + (4 + n) + 4 from by omega]
/-! ### all frames -/
theorem frames_both (s : ByteArray) (hs : s.size ≤ 4398046511104) (d : Nat) : ∀ (k K : Nat) (l : List ByteArray) (a : Int), 0 ≤ a → a ≤ (s.size : Int) → ((s.size : Int) - a).toNat ≤ d → d + 2 ≤ k → 10 * s.size + d + 60 ≤ K → l.length + d < 8796093022208 →
    ∃ r, frame_Frames.l0 k s l a = some r ∧ hopperref06_Frames.l0 K s l a = some r := by
  induction d with
  | zero =>
    intro k K l a h0 h1 hd hk hK hl
    obtain ⟨k, rfl⟩ : ∃ m, k = m + 1 := ⟨k - 1, by omega⟩
    obtain ⟨K, rfl⟩ : ∃ m, K = m + 1 := ⟨K - 1, by omega⟩
    simp only [frame_Frames.l0, hopperref06_Frames.l0]
    rw [unframe_ref s a (by omega) K (by omega)]
    obtain ⟨r, hr, ht⟩ := unframe_some s a (by omega)
    rw [hr]
    simp only [Option.bind_some]
    rcases ht with ⟨_, _, _, h, h2⟩ | h
    · omega
    · rw [if_neg h, if_pos (by simp [h])]
      exact ⟨_, rfl, rfl⟩
  | succ d ih =>
    intro k K l a h0 h1 hd hk hK hl
    obtain ⟨k, rfl⟩ : ∃ m, k = m + 1 := ⟨k - 1, by omega⟩
    obtain ⟨K, rfl⟩ : ∃ m, K = m + 1 := ⟨K - 1, by omega⟩
    simp only [frame_Frames.l0, hopperref06_Frames.l0]
    rw [unframe_ref s a (by omega) K (by omega)]
    obtain ⟨r, hr, ht⟩ := unframe_some s a (by omega)
    rw [hr]
    simp only [Option.bind_some]
    rcases ht with ⟨h3, h4, h5, h6, h7⟩ | h
    · rw [if_pos h3, if_neg (by simp [h3, h4]), if_pos (by omega), if_pos (by omega)]
      exact ih k K _ _ (by omega) h7 (by omega) (by omega) (by omega) (by simp; omega)
    · rw [if_neg h, if_pos (by simp [h])]
      exact ⟨_, rfl, rfl⟩
theorem sametexts_loop (l : List ByteArray) (hl : l.length < 9223372036854775807) (d : Nat) : ∀ (k i : Nat), i + d = l.length → d + 1 ≤ k → hopperbook_SameTexts.l0 k l l (i : Int) = some true := by
  induction d with
  | zero => intro k i hi hk; obtain ⟨k, rfl⟩ : ∃ m, k = m + 1 := ⟨k - 1, by omega⟩; simp only [hopperbook_SameTexts.l0]; rw [if_neg (by omega)]
  | succ d ih =>
    intro k i hi hk
    obtain ⟨k, rfl⟩ : ∃ m, k = m + 1 := ⟨k - 1, by omega⟩
    simp only [hopperbook_SameTexts.l0]
    have hi1 : wrap64 ((i : Int) + 1) = ((i + 1 : Nat) : Int) := by unfold wrap64; omega
    rw [if_pos (by omega), if_pos (by omega), if_pos (by omega), if_true, hi1]
    exact ih _ _ (by omega) (by omega)
theorem sametexts_eq (l : List ByteArray) (hl : l.length < 9223372036854775807) (k : Nat) (hk : l.length + 1 ≤ k) : hopperbook_SameTexts.f k l l = some true := by
  unfold hopperbook_SameTexts.f
  rw [if_pos rfl]
  exact sametexts_loop l hl l.length k 0 (by omega) hk
theorem frames_len (s : ByteArray) (hs : s.size ≤ 4398046511104) (d : Nat) : ∀ (k : Nat) (l : List ByteArray) (a : Int) (r : List ByteArray × Int), 0 ≤ a → a ≤ (s.size : Int) → ((s.size : Int) - a).toNat ≤ d → frame_Frames.l0 k s l a = some r → r.1.length ≤ l.length + d := by
  induction d with
  | zero =>
    intro k l a r h0 h1 hd h
    cases k with
    | zero => simp [frame_Frames.l0] at h
    | succ k =>
      simp only [frame_Frames.l0] at h
      obtain ⟨q, hr, ht⟩ := unframe_some s a (by omega)
      rw [hr] at h
      simp only [Option.bind_some] at h
      rcases ht with ⟨_, _, _, h5, h6⟩ | h5
      · omega
      · rw [if_pos (by simp [h5])] at h
        obtain rfl := Option.some.inj h
        exact Nat.le_refl _
  | succ d ih =>
    intro k l a r h0 h1 hd h
    cases k with
    | zero => simp [frame_Frames.l0] at h
    | succ k =>
      simp only [frame_Frames.l0] at h
      obtain ⟨q, hr, ht⟩ := unframe_some s a (by omega)
      rw [hr] at h
      simp only [Option.bind_some] at h
      rcases ht with ⟨h3, h4, h5, h6, h7⟩ | h5
      · rw [if_neg (by simp [h3, h4])] at h
        by_cases hl : l.length < 8796093022208
        · rw [if_pos hl] at h
          have := ih k _ _ r (by omega) h7 (by omega) h
          simp at this; omega
        · rw [if_neg hl] at h; exact absurd h (by simp)
      · rw [if_pos (by simp [h5])] at h
        obtain rfl := Option.some.inj h
        simp
theorem works_ok : hopperlaw06_works.f = some true := by decide +kernel
theorem FrameBytesU (b : ByteArray) (a : Int) (hb : b.size ≤ 4398046511104) : ∃ k, hopperlaw06_FrameBytes.f k b a = some true := by
  refine ⟨12 * b.size + 200, ?_⟩
  unfold hopperlaw06_FrameBytes.f
  rw [frame_eq, refframe_eq _ _ (by omega), sum_eq b (by omega), refsum_eq b (by omega) _ (by omega)]
  simp only [Option.bind_some, if_true, bne_self_eq_false]
  obtain ⟨K, hK⟩ : ∃ K, 12 * b.size + 200 = K + 1 := ⟨12 * b.size + 199, by omega⟩
  rw [hK]
  simp only [hopperlaw06_FrameBytes.j0]
  rw [if_neg (by decide), unframe_ref b a (by omega) K (by omega)]
  obtain ⟨r, hr, _⟩ := unframe_some b a (by omega)
  obtain ⟨q, hq1, hq2⟩ := frames_both b hb b.size K K [] 0 (by omega) (by omega) (by omega) (by omega) (by omega) (by simp; omega)
  have hlen := frames_len b hb b.size K [] 0 q (by omega) (by omega) (by omega) hq1
  unfold frame_Frames.f hopperref06_Frames.f
  rw [hr, hq1, hq2]
  simp only [Option.bind_some, if_true, beq_self_eq_true, Bool.and_self]
  rw [sametexts_eq _ (by simp at hlen; omega) K (by simp at hlen; omega), works_ok]
  simp
theorem frameBytes_walk (b : ByteArray) (a : Int) (W : World) (hb : b.size ≤ 1048576) :
    Calls Try.prog 13 #[.string b, .int .i64 a] W fun e W' => e = .returned (.bool true) ∧ Below W.heap.size W W' := by
  obtain ⟨k, h⟩ := FrameBytesU b a (by omega)
  exact hopperlaw06_FrameBytes.calls k b a true W h
end Go.Proofs.Ytmfbmagbpceomaa.Pure
