/- A frame is found wherever it stands; many of them are, one behind the other: any texts. -/
import Derived.Test.YtmfbmagbpceomaaHFrameBackx
namespace Go.Proofs.Ytmfbmagbpceomaa.Pure
open Go.RowKit Go.Proofs.Ytmfbmagbpceomaa.HFrameBack Go.Proofs.YtmfbmagbpceomaaW.PrintWords Go.Proofs.YtmfbmagbpceomaaW.PrintLast Go.Proofs.YtmfbmagbpceomaaW.PrintMore
set_option linter.unusedVariables false
set_option linter.unusedSimpArgs false
/-! ### the sum, in natural numbers -/
theorem u32w {n : Int} (h0 : 0 ≤ n) (h1 : n < 4294967296) : IntKind.u32.wrap n = n := by rw [IntKind.wrap_u32]; omega
theorem u32w' (n : Int) (h0 : 0 ≤ n) (h1 : n < 2 ^ 32) : IntKind.u32.wrap n = n := u32w h0 (by omega)
theorem and32_nat (x y : Nat) (hx : x < 2 ^ 32) (hy : y < 2 ^ 32) : Go.bits .and .u32 x y = ((x &&& y : Nat) : Int) := (Go.bits_nat .u32 32 (by decide) u32w' x y hx hy).1
theorem xor32_nat (x y : Nat) (hx : x < 2 ^ 32) (hy : y < 2 ^ 32) : Go.bits .xor .u32 x y = ((x ^^^ y : Nat) : Int) := by
  have h : x ^^^ y < 2 ^ 32 := Nat.xor_lt_two_pow hx hy
  show IntKind.u32.wrap ((BitVec.ofInt 32 (x : Int) ^^^ BitVec.ofInt 32 (y : Int)).toNat : Int) = _
  rw [BitVec.toNat_xor, BitVec.ofInt_natCast, BitVec.ofInt_natCast, BitVec.toNat_ofNat, BitVec.toNat_ofNat, Nat.mod_eq_of_lt hx, Nat.mod_eq_of_lt hy]
  exact u32w (by omega) (by omega)
theorem xor8_nat (x y : Nat) (hx : x < 2 ^ 8) (hy : y < 2 ^ 8) : Go.bits .xor .u8 x y = ((x ^^^ y : Nat) : Int) := by
  have h : x ^^^ y < 2 ^ 8 := Nat.xor_lt_two_pow hx hy
  show IntKind.u8.wrap ((BitVec.ofInt 8 (x : Int) ^^^ BitVec.ofInt 8 (y : Int)).toNat : Int) = _
  rw [BitVec.toNat_xor, BitVec.ofInt_natCast, BitVec.ofInt_natCast, BitVec.toNat_ofNat, BitVec.toNat_ofNat, Nat.mod_eq_of_lt hx, Nat.mod_eq_of_lt hy, IntKind.wrap_u8]
  omega
def nbit (x : Nat) : Nat := x / 2 ^^^ (if x % 2 = 1 then 3988292384 else 0)
def nbits : Nat → Nat → Nat
  | 0, x => x
  | n + 1, x => nbit (nbits n x)
def nbyte (x b : Nat) : Nat := nbits 8 (x ^^^ b)
def nall (l : List Nat) (x : Nat) : Nat := l.foldl nbyte x
theorem nbit_lt {x : Nat} (h : x < 2 ^ 32) : nbit x < 2 ^ 32 := by
  unfold nbit
  refine Nat.xor_lt_two_pow (by omega) ?_
  split <;> decide
theorem nbits_lt (n : Nat) {x : Nat} (h : x < 2 ^ 32) : nbits n x < 2 ^ 32 := by
  induction n with
  | zero => exact h
  | succ n ih => exact nbit_lt ih
theorem nbyte_lt {x b : Nat} (h : x < 2 ^ 32) (hb : b < 256) : nbyte x b < 2 ^ 32 := nbits_lt 8 (Nat.xor_lt_two_pow h (by omega))
theorem nall_lt (l : List Nat) : ∀ x, x < 2 ^ 32 → (∀ b ∈ l, b < 256) → nall l x < 2 ^ 32 := by
  induction l with
  | nil => intro x h _; exact h
  | cons b l ih => intro x h hb; exact ih _ (nbyte_lt h (hb b (by simp))) (fun c hc => hb c (List.mem_cons_of_mem _ hc))
theorem crcBit_nat {x : Nat} (h : x < 2 ^ 32) : crcBit (x : Int) = (nbit x : Nat) := by
  unfold crcBit nbit
  have e1 : Go.bits .and .u32 (x : Int) 1 = ((x % 2 : Nat) : Int) := by
    have := and32_nat x 1 h (by decide)
    rw [Nat.and_one_is_mod] at this
    exact this
  rw [e1]
  have e3 : (x : Int) / 2 = ((x / 2 : Nat) : Int) := by omega
  rw [e3]
  rcases Nat.mod_two_eq_zero_or_one x with h2 | h2
  · rw [h2]
    have e2 : -((0 : Nat) : Int) % 4294967296 = ((0 : Nat) : Int) := by decide
    rw [e2, show ((3988292384 : Int)) = ((3988292384 : Nat) : Int) from rfl, and32_nat _ _ (by decide) (by decide), xor32_nat _ _ (by omega) (by decide)]
    rfl
  · rw [h2]
    have e2 : -((1 : Nat) : Int) % 4294967296 = ((4294967295 : Nat) : Int) := by decide
    rw [e2, show ((3988292384 : Int)) = ((3988292384 : Nat) : Int) from rfl, and32_nat _ _ (by decide) (by decide), xor32_nat _ _ (by omega) (by decide)]
    rfl
theorem crcBits_nat (n : Nat) {x : Nat} (h : x < 2 ^ 32) : crcBits n (x : Int) = (nbits n x : Nat) := by
  induction n with
  | zero => rfl
  | succ n ih => unfold crcBits nbits; rw [ih, crcBit_nat (nbits_lt n h)]
theorem crcByte_nat {x : Nat} (h : x < 2 ^ 32) (b : UInt8) : crcByte (x : Int) b = (nbyte x b.toNat : Nat) := by
  unfold crcByte nbyte
  have hb := b.toNat_lt
  rw [xor32_nat _ _ h (by omega), crcBits_nat 8 (Nat.xor_lt_two_pow h (by omega))]
theorem crcFold_nat (l : List UInt8) : ∀ x : Nat, x < 2 ^ 32 → l.foldl crcByte (x : Int) = (nall (l.map UInt8.toNat) x : Nat) := by
  induction l with
  | nil => intro x _; rfl
  | cons b l ih =>
    intro x h
    simp only [List.foldl_cons, List.map_cons, nall]
    rw [crcByte_nat h, ih _ (nbyte_lt h (by have := b.toNat_lt; omega))]
    rfl
theorem crcAll_nat (l : List UInt8) : crcAll l = (nall (l.map UInt8.toNat) 4294967295 : Nat) := crcFold_nat l 4294967295 (by decide)
/-- The sum of bytes. -/
def nsum (l : List UInt8) : Nat := nall (l.map UInt8.toNat) 4294967295 ^^^ 4294967295
theorem nall_lt' (l : List UInt8) : nall (l.map UInt8.toNat) 4294967295 < 2 ^ 32 :=
  nall_lt _ _ (by decide) (fun b hb => by obtain ⟨c, _, rfl⟩ := List.mem_map.1 hb; have := c.toNat_lt; omega)
theorem nsum_lt (l : List UInt8) : nsum l < 2 ^ 32 := Nat.xor_lt_two_pow (nall_lt' l) (by decide)
theorem sum_eq (s : ByteArray) (h : s.size ≤ 9223372036854775807) : frame_Sum.f s = some ((nsum s.data.toList : Nat) : Int) := by
  unfold frame_Sum.f nsum
  rw [if_pos h, crcAll_nat]
  rw [show IntKind.u32.max = ((4294967295 : Nat) : Int) from by decide, xor32_nat _ _ (by decide) (nall_lt' _), Nat.xor_comm]
/-! ### the frame, of both -/
theorem ba_ext {a b : ByteArray} (h : a.data.toList = b.data.toList) : a = b := by
  cases a; cases b; simp only [ByteArray.mk.injEq]; exact Array.toList_inj.1 h
theorem strOfNums_append (l m : List Int) : strOfNums (l ++ m) = strOfNums l ++ strOfNums m := by
  apply ba_ext; unfold strOfNums; simp [ByteArray.data_append]
theorem strOfNums_bytesOf (b : ByteArray) : strOfNums (bytesOf b) = b := by
  apply ba_ext
  unfold strOfNums bytesOf
  simp only [List.map_map]
  conv => rhs; rw [← List.map_id b.data.toList]
  refine List.map_congr_left fun x _ => ?_
  simp
theorem size_strOfNums (l : List Int) : (strOfNums l).size = l.length := by unfold strOfNums; simp [ByteArray.size]
/-- A number as four bytes, the lowest first. -/
def le4 (n : Nat) : List Int := [((n % 256 : Nat) : Int), ((n / 256 % 256 : Nat) : Int), ((n / 65536 % 256 : Nat) : Int), ((n / 16777216 % 256 : Nat) : Int)]
theorem put_eq (l : List Int) (n : Nat) (h : l.length < 140737488355000) : frame_put.f l (n : Int) = some (l ++ le4 n) := by
  unfold frame_put.f
  simp only [Option.bind_some]
  rw [if_pos (by simp; omega)]
  unfold le4
  have e1 : ((n : Int)) % 256 = ((n % 256 : Nat) : Int) := by omega
  have e2 : ((n : Int) / 256) % 256 = ((n / 256 % 256 : Nat) : Int) := by omega
  have e3 : ((n : Int) / 65536) % 256 = ((n / 65536 % 256 : Nat) : Int) := by omega
  have e4 : ((n : Int) / 16777216) % 256 = ((n / 16777216 % 256 : Nat) : Int) := by omega
  rw [e1, e2, e3, e4]
/-- The frame of bytes. -/
def frameOf (b : ByteArray) : ByteArray := strOfNums (le4 b.size) ++ b ++ strOfNums (le4 (nsum (strOfNums (le4 b.size) ++ b).data.toList))
theorem le4_len (n : Nat) : (le4 n).length = 4 := rfl
theorem bytesOf_len (b : ByteArray) : (bytesOf b).length = b.size := by unfold bytesOf; simp
theorem frame_eq (b : ByteArray) : frame_Frame.f b = some (if (b.size : Int) > 65536 then (⟨#[]⟩, 2) else (frameOf b, 0)) := by
  unfold frame_Frame.f
  by_cases h : (b.size : Int) > 65536
  · rw [if_pos h, if_pos h]
  · rw [if_neg h, if_neg h]
    have e1 : wrap64 (wrap64 (4 + (b.size : Int)) + 4) = (b.size : Int) + 8 := by unfold wrap64; omega
    have e2 : ((b.size : Int)) % 4294967296 = ((b.size : Nat) : Int) := by omega
    rw [e1, if_pos (by omega), if_pos (by omega), e2, put_eq [] b.size (by simp)]
    simp only [Option.bind_some, List.nil_append]
    rw [if_pos (by rw [le4_len]; omega), sum_eq _ (by rw [size_strOfNums, List.length_append, le4_len, bytesOf_len]; omega)]
    simp only [Option.bind_some]
    rw [put_eq _ _ (by rw [List.length_append, le4_len, bytesOf_len]; omega)]
    simp only [Option.bind_some]
    unfold frameOf
    rw [strOfNums_append, strOfNums_append, strOfNums_bytesOf]
/-- Four bytes as a number. -/
def hopperref06_unfour.f (a0 : ByteArray) : Option (Int) := if 0 < (a0.size : Int) then (if 1 < (a0.size : Int) then (if 2 < (a0.size : Int) then (if 3 < (a0.size : Int) then (some ((((((((bt a0 0) % 4294967296) + ((((bt a0 1) % 4294967296) * 256) % 4294967296)) % 4294967296) + ((((bt a0 2) % 4294967296) * 65536) % 4294967296)) % 4294967296) + ((((bt a0 3) % 4294967296) * 16777216) % 4294967296)) % 4294967296)) else (none)) else (none)) else (none)) else (none)
theorem or32_join (i : Nat) (hi : i ≤ 32) (x y : Int) (hx0 : 0 ≤ x) (hx : x < 2 ^ i) (hy0 : 0 ≤ y) (hy : y % 2 ^ i = 0) (hy1 : y < 4294967296) (hx1 : x < 4294967296) : Go.bits .or .u32 x y = y + x := by
  have hc : Go.bits .or .u32 x y = Go.bits .or .u32 y x := by
    unfold Go.bits; simp only [BitVec.or_comm]
  rw [hc]
  exact Go.bits_join .u32 32 (by decide) u32w' i y x hy0 hy (by omega) hx0 hx (by omega)
theorem get_unfour (s : ByteArray) : frame_get.f s = hopperref06_unfour.f s := by
  unfold frame_get.f hopperref06_unfour.f
  have hb : ∀ j : Int, 0 ≤ bt s j ∧ bt s j < 256 := by
    intro j; unfold bt; split
    · have := (s[j.toNat]).toNat_lt; omega
    · omega
  have h0 := hb 0; have h1 := hb 1; have h2 := hb 2; have h3 := hb 3
  generalize bt s 0 = a at *
  generalize bt s 1 = b at *
  generalize bt s 2 = c at *
  generalize bt s 3 = d at *
  have e1 : Go.bits .or .u32 (a % 4294967296) ((b % 4294967296 * 256) % 4294967296) = b * 256 + a := by
    rw [show a % 4294967296 = a from by omega, show b % 4294967296 * 256 % 4294967296 = b * 256 from by omega]
    exact or32_join 8 (by decide) a (b * 256) h0.1 (by omega) (by omega) (by omega) (by omega) (by omega)
  have e2 : Go.bits .or .u32 (b * 256 + a) ((c % 4294967296 * 65536) % 4294967296) = c * 65536 + (b * 256 + a) := by
    rw [show c % 4294967296 * 65536 % 4294967296 = c * 65536 from by omega]
    exact or32_join 16 (by decide) (b * 256 + a) (c * 65536) (by omega) (by omega) (by omega) (by omega) (by omega) (by omega)
  have e3 : Go.bits .or .u32 (c * 65536 + (b * 256 + a)) ((d % 4294967296 * 16777216) % 4294967296) = d * 16777216 + (c * 65536 + (b * 256 + a)) := by
    rw [show d % 4294967296 * 16777216 % 4294967296 = d * 16777216 from by omega]
    exact or32_join 24 (by decide) (c * 65536 + (b * 256 + a)) (d * 16777216) (by omega) (by omega) (by omega) (by omega) (by omega) (by omega)
  rw [e1, e2, e3]
  have e4 : d * 16777216 + (c * 65536 + (b * 256 + a)) = (((a % 4294967296 + b % 4294967296 * 256 % 4294967296) % 4294967296 + c % 4294967296 * 65536 % 4294967296) % 4294967296 + d % 4294967296 * 16777216 % 4294967296) % 4294967296 := by omega
  rw [e4]
/-! ### cuts of bytes -/
theorem extract_list (s : ByteArray) (a b : Nat) : (s.extract a b).data.toList = (s.data.toList.drop a).take (b - a) := by
  simp [List.extract_eq_take_drop]
theorem extract_extract (s : ByteArray) (k a b : Nat) (h : k + b ≤ s.size) : (s.extract k s.size).extract a b = s.extract (k + a) (k + b) := by
  apply ba_ext
  rw [extract_list, extract_list, extract_list, List.drop_take, List.take_take, List.drop_drop]
  congr 1; omega
theorem get_some (s : ByteArray) (h : 4 ≤ s.size) : ∃ n, frame_get.f s = some n := by
  unfold frame_get.f
  rw [if_pos (by omega), if_pos (by omega), if_pos (by omega), if_pos (by omega)]
  exact ⟨_, rfl⟩
/-- What an answer of Unframe is like: found, and the place behind; or a fault. -/
def Told (s : ByteArray) (a : Int) (r : ByteArray × Int × Int × Int) : Prop :=
  (r.2.2.2 = 0 ∧ r.2.2.1 = 0 ∧ 0 ≤ a ∧ a + 8 ≤ r.2.1 ∧ r.2.1 ≤ (s.size : Int)) ∨ r.2.2.2 ≠ 0
theorem unframe_some (s : ByteArray) (a : Int) (hs : s.size ≤ 9223372036854775000) : ∃ r, frame_Unframe.f s a = some r ∧ Told s a r := by
  unfold frame_Unframe.f
  by_cases h1 : a < 0
  · rw [if_pos h1]; exact ⟨_, rfl, .inr (by simp)⟩
  rw [if_neg h1]
  by_cases h2 : a > (s.size : Int)
  · rw [if_pos h2]; exact ⟨_, rfl, .inr (by simp)⟩
  rw [if_neg h2, if_pos hs]
  by_cases h3 : s.size - a.toNat < 4
  · rw [if_pos h3]; exact ⟨_, rfl, .inr (by simp)⟩
  rw [if_neg h3]
  obtain ⟨n, hn⟩ := get_some (s.extract a.toNat s.size) (by rw [ByteArray.size_extract]; omega)
  obtain ⟨n0, n1⟩ := get_lt hn
  rw [hn]
  simp only [Option.bind_some]
  by_cases h4 : n > 65536
  · rw [if_pos h4]; exact ⟨_, rfl, .inr (by simp)⟩
  rw [if_neg h4, if_pos n0]
  by_cases h5 : ((s.size - a.toNat : Nat) : Int) < 4 + n + 4
  · rw [if_pos h5]; exact ⟨_, rfl, .inr (by simp)⟩
  rw [if_neg h5, sum_eq _ (by rw [ByteArray.size_extract, ByteArray.size_extract]; omega)]
  obtain ⟨y, hy⟩ := get_some ((s.extract a.toNat s.size).extract (4 + n).toNat (s.size - a.toNat)) (by rw [ByteArray.size_extract, ByteArray.size_extract]; omega)
  simp only [Option.bind_some]
  rw [hy]
  simp only [Option.bind_some]
  by_cases h6 : ((nsum ((s.extract a.toNat s.size).extract 0 (4 + n).toNat).data.toList : Nat) : Int) = y
  · rw [if_pos h6]; exact ⟨_, rfl, .inl ⟨rfl, rfl, by omega, by simp only; omega, by simp only; omega⟩⟩
  · rw [if_neg h6]; exact ⟨_, rfl, .inr (by simp)⟩
theorem sametexts_loop (l : List ByteArray) (hl : l.length < 9223372036854775807) (d : Nat) : ∀ (k i : Nat), i + d = l.length → d + 1 ≤ k → hopperbook_SameTexts.l0 k l l (i : Int) = some true := by
  induction d with
  | zero => intro k i hi hk; obtain ⟨k, rfl⟩ : ∃ m, k = m + 1 := ⟨k - 1, by omega⟩; simp only [hopperbook_SameTexts.l0]; rw [if_neg (by omega)]
  | succ d ih =>
    intro k i hi hk
    obtain ⟨k, rfl⟩ : ∃ m, k = m + 1 := ⟨k - 1, by omega⟩
    simp only [hopperbook_SameTexts.l0]
    have hi1 : wrap64 ((i : Int) + 1) = ((i + 1 : Nat) : Int) := by unfold wrap64; omega
    rw [if_pos (by omega), if_pos (by omega), if_pos (by omega), if_true, hi1]
    exact ih _ _ (by omega) (by omega)
theorem sametexts_eq (l : List ByteArray) (hl : l.length < 9223372036854775807) (k : Nat) (hk : l.length + 1 ≤ k) : hopperbook_SameTexts.f k l l = some true := by
  unfold hopperbook_SameTexts.f
  rw [if_pos rfl]
  exact sametexts_loop l hl l.length k 0 (by omega) hk
/-! ### there and back -/
theorem bt_of_list {s : ByteArray} {j : Nat} {u : UInt8} (h : s.data.toList[j]? = some u) : bt s (j : Int) = (u.toNat : Int) := by
  obtain ⟨hl, he⟩ := List.getElem?_eq_some_iff.1 h
  have hs : j < s.size := by simpa using hl
  unfold bt
  simp only [Int.toNat_natCast, hs, dite_true]
  rw [← he]; rfl
theorem list_le4 (n : Nat) : (strOfNums (le4 n)).data.toList = [UInt8.ofNat (n % 256), UInt8.ofNat (n / 256 % 256), UInt8.ofNat (n / 65536 % 256), UInt8.ofNat (n / 16777216 % 256)] := by
  unfold strOfNums le4
  simp only [List.map_cons, List.map_nil, Int.toNat_natCast]
theorem list_append (a b : ByteArray) : (a ++ b).data.toList = a.data.toList ++ b.data.toList := by simp [ByteArray.data_append]
theorem len_list (s : ByteArray) : s.data.toList.length = s.size := by simp
theorem get_le4 (n : Nat) (h : n < 4294967296) (X : ByteArray) : frame_get.f (strOfNums (le4 n) ++ X) = some (n : Int) := by
  rw [get_unfour]
  have hsz : (strOfNums (le4 n) ++ X).size = 4 + X.size := by rw [ByteArray.size_append, size_strOfNums, le4_len]
  have hl : (strOfNums (le4 n) ++ X).data.toList = [UInt8.ofNat (n % 256), UInt8.ofNat (n / 256 % 256), UInt8.ofNat (n / 65536 % 256), UInt8.ofNat (n / 16777216 % 256)] ++ X.data.toList := by rw [list_append, list_le4]
  have b0 : bt (strOfNums (le4 n) ++ X) 0 = ((n % 256 : Nat) : Int) := by
    have := bt_of_list (s := strOfNums (le4 n) ++ X) (j := 0) (u := UInt8.ofNat (n % 256)) (by rw [hl]; rfl)
    rw [UInt8.toNat_ofNat'] at this
    rw [show ((0 : Nat) : Int) = 0 from rfl] at this
    rw [this]; omega
  have b1 : bt (strOfNums (le4 n) ++ X) 1 = ((n / 256 % 256 : Nat) : Int) := by
    have := bt_of_list (s := strOfNums (le4 n) ++ X) (j := 1) (u := UInt8.ofNat (n / 256 % 256)) (by rw [hl]; rfl)
    rw [UInt8.toNat_ofNat'] at this
    rw [show ((1 : Nat) : Int) = 1 from rfl] at this
    rw [this]; omega
  have b2 : bt (strOfNums (le4 n) ++ X) 2 = ((n / 65536 % 256 : Nat) : Int) := by
    have := bt_of_list (s := strOfNums (le4 n) ++ X) (j := 2) (u := UInt8.ofNat (n / 65536 % 256)) (by rw [hl]; rfl)
    rw [UInt8.toNat_ofNat'] at this
    rw [show ((2 : Nat) : Int) = 2 from rfl] at this
    rw [this]; omega
  have b3 : bt (strOfNums (le4 n) ++ X) 3 = ((n / 16777216 % 256 : Nat) : Int) := by
    have := bt_of_list (s := strOfNums (le4 n) ++ X) (j := 3) (u := UInt8.ofNat (n / 16777216 % 256)) (by rw [hl]; rfl)
    rw [UInt8.toNat_ofNat'] at this
    rw [show ((3 : Nat) : Int) = 3 from rfl] at this
    rw [this]; omega
  unfold hopperref06_unfour.f
  rw [if_pos (by omega), if_pos (by omega), if_pos (by omega), if_pos (by omega), b0, b1, b2, b3]
  congr 1; omega
theorem size_frame (b : ByteArray) : (frameOf b).size = b.size + 8 := by
  unfold frameOf; rw [ByteArray.size_append, ByteArray.size_append, size_strOfNums, size_strOfNums, le4_len, le4_len]; omega
/-- A frame is found wherever it stands, whatever stands behind it. -/
theorem unframe_at (A b B : ByteArray) (hb : b.size ≤ 65536) (hs : (A ++ frameOf b ++ B).size ≤ 9223372036854775000) :
    frame_Unframe.f (A ++ frameOf b ++ B) (A.size : Int) = some (b, (A.size : Int) + ((frameOf b).size : Int), 0, 0) := by
  have hsz : (A ++ frameOf b ++ B).size = A.size + (b.size + 8) + B.size := by rw [ByteArray.size_append, ByteArray.size_append, size_frame]
  have hrest : (A ++ frameOf b ++ B).extract A.size (A ++ frameOf b ++ B).size = frameOf b ++ B := by
    apply ba_ext
    rw [extract_list, list_append, list_append, list_append, List.append_assoc, List.drop_append_of_le_length (by rw [len_list]; omega), List.drop_of_length_le (by rw [len_list]; omega), List.nil_append]
    refine List.take_of_length_le ?_
    rw [List.length_append, len_list, len_list, size_frame, hsz]; omega
  have hlist : (frameOf b ++ B).data.toList = (strOfNums (le4 b.size)).data.toList ++ (b.data.toList ++ ((strOfNums (le4 (nsum (strOfNums (le4 b.size) ++ b).data.toList))).data.toList ++ B.data.toList)) := by
    unfold frameOf; rw [list_append, list_append, list_append, List.append_assoc, List.append_assoc]
  have h4 : (strOfNums (le4 b.size)).data.toList.length = 4 := by rw [list_le4]; rfl
  have hbl : b.data.toList.length = b.size := len_list b
  have e1 : (frameOf b ++ B).extract 0 (4 + b.size) = strOfNums (le4 b.size) ++ b := by
    apply ba_ext
    rw [extract_list, hlist, list_append, List.drop_zero, ← List.append_assoc, List.take_append_of_le_length (by rw [List.length_append, h4, hbl]; omega)]
    exact List.take_of_length_le (by rw [List.length_append, h4, hbl]; omega)
  have e2 : (frameOf b ++ B).extract (4 + b.size) (b.size + 8 + B.size) = strOfNums (le4 (nsum (strOfNums (le4 b.size) ++ b).data.toList)) ++ B := by
    apply ba_ext
    rw [extract_list, hlist, list_append, ← List.append_assoc, List.drop_append_of_le_length (by rw [List.length_append, h4, hbl]; omega), List.drop_of_length_le (by rw [List.length_append, h4, hbl]; omega), List.nil_append]
    refine List.take_of_length_le ?_
    rw [List.length_append, len_list, len_list, size_strOfNums, le4_len]; omega
  have e3 : (frameOf b ++ B).extract 4 (4 + b.size) = b := by
    apply ba_ext
    rw [extract_list, hlist, List.drop_append_of_le_length (by rw [h4]; omega), List.drop_of_length_le (by rw [h4]; omega), List.nil_append, List.take_append_of_le_length (by rw [hbl]; omega)]
    exact List.take_of_length_le (by rw [hbl]; omega)
  unfold frame_Unframe.f
  rw [if_neg (by omega), if_neg (by rw [hsz]; omega), if_pos hs, Int.toNat_natCast, if_neg (by rw [hsz]; omega), hrest]
  have hg : frame_get.f (frameOf b ++ B) = some ((b.size : Nat) : Int) := by
    have := get_le4 b.size (by omega) (b ++ strOfNums (le4 (nsum (strOfNums (le4 b.size) ++ b).data.toList)) ++ B)
    rw [← this]
    refine congrArg frame_get.f ?_
    apply ba_ext; unfold frameOf; simp only [list_append, List.append_assoc]
  rw [hg]
  simp only [Option.bind_some]
  rw [if_neg (by omega), if_pos (by omega), if_neg (by rw [hsz]; omega)]
  have t1 : (4 + (b.size : Int)).toNat = 4 + b.size := by omega
  have t2 : (A ++ frameOf b ++ B).size - A.size = b.size + 8 + B.size := by rw [hsz]; omega
  rw [t1, t2, e1, e2, e3, sum_eq _ (by rw [ByteArray.size_append, size_strOfNums, le4_len]; omega), get_le4 _ (by have := nsum_lt (strOfNums (le4 b.size) ++ b).data.toList; omega)]
  simp only [Option.bind_some]
  rw [if_true, size_frame]
  congr 2
  simp only [Prod.mk.injEq, and_true]; omega
def catF : List ByteArray → ByteArray
  | [] => ⟨#[]⟩
  | b :: l => frameOf b ++ catF l
theorem empty_app (a : ByteArray) : (⟨#[]⟩ : ByteArray) ++ a = a := by apply ba_ext; rw [list_append]; rfl
theorem app_empty (a : ByteArray) : a ++ (⟨#[]⟩ : ByteArray) = a := by apply ba_ext; rw [list_append]; simp
theorem app_assoc (a b c : ByteArray) : a ++ b ++ c = a ++ (b ++ c) := by apply ba_ext; simp only [list_append, List.append_assoc]
theorem catF_snoc (l : List ByteArray) (b : ByteArray) : catF (l ++ [b]) = catF l ++ frameOf b := by
  induction l with
  | nil => show frameOf b ++ (⟨#[]⟩ : ByteArray) = (⟨#[]⟩ : ByteArray) ++ frameOf b; rw [app_empty, empty_app]
  | cons c l ih => show frameOf c ++ catF (l ++ [b]) = frameOf c ++ catF l ++ frameOf b; rw [ih, app_assoc]
theorem catF_size (l : List ByteArray) (h : ∀ b ∈ l, b.size ≤ 65536) : (catF l).size ≤ 65544 * l.length := by
  induction l with
  | nil => exact Nat.zero_le _
  | cons b l ih =>
    have h1 := h b (by simp)
    have h2 := ih (fun c hc => h c (List.mem_cons_of_mem _ hc))
    show (frameOf b ++ catF l).size ≤ _
    rw [ByteArray.size_append, size_frame, List.length_cons]; omega
theorem frames_all (T : ByteArray) (hT : T.size ≤ 100) (l : List ByteArray) : ∀ (k : Nat) (P : ByteArray) (acc : List ByteArray), (∀ b ∈ l, b.size ≤ 65536) → l.length + 1 ≤ k → acc.length + l.length < 1000000 → P.size + 65544 * l.length ≤ 1000000000 → l.length ≤ 100 →
    (∀ Q : ByteArray, Q.size ≤ 2000000000 → ∃ r1 r2 r3 r4, frame_Unframe.f (Q ++ T) (Q.size : Int) = some (r1, r2, r3, r4) ∧ r4 ≠ 0) →
    frame_Frames.l0 k (P ++ catF l ++ T) acc (P.size : Int) = some (acc ++ l, ((P ++ catF l).size : Int)) := by
  induction l with
  | nil =>
    intro k P acc _ hk _ hP _ hend
    obtain ⟨k, rfl⟩ : ∃ m, k = m + 1 := ⟨k - 1, by omega⟩
    obtain ⟨r1, r2, r3, r4, hr, hne⟩ := hend P (by omega)
    simp only [frame_Frames.l0]
    have hc : P ++ catF [] = P := app_empty P
    rw [hc, hr]
    simp only [Option.bind_some]
    rw [if_pos (by simp [hne])]
    simp
  | cons b l ih =>
    intro k P acc hb hk ha hP hl hend
    obtain ⟨k, rfl⟩ : ∃ m, k = m + 1 := ⟨k - 1, by omega⟩
    simp only [List.length_cons] at hk ha hP hl
    have hbb := hb b (by simp)
    have hbl : ∀ c ∈ l, c.size ≤ 65536 := fun c hc => hb c (List.mem_cons_of_mem _ hc)
    have hcs := catF_size l hbl
    have hsplit : P ++ catF (b :: l) ++ T = P ++ frameOf b ++ (catF l ++ T) := by
      show P ++ (frameOf b ++ catF l) ++ T = _
      simp only [app_assoc]
    simp only [frame_Frames.l0]
    rw [hsplit, unframe_at P b (catF l ++ T) hbb (by rw [ByteArray.size_append, ByteArray.size_append, ByteArray.size_append, size_frame]; omega)]
    simp only [Option.bind_some]
    rw [if_neg (by simp), if_pos (by omega)]
    have := ih k (P ++ frameOf b) (acc ++ [b]) hbl (by omega) (by simp; omega) (by rw [ByteArray.size_append, size_frame]; omega) (by omega) hend
    rw [ByteArray.size_append, Int.natCast_add] at this
    have hsp2 : P ++ frameOf b ++ (catF l ++ T) = P ++ frameOf b ++ catF l ++ T := by simp only [app_assoc]
    rw [hsp2, this]
    have e1 : acc ++ [b] ++ l = acc ++ (b :: l) := by simp
    have e2 : P ++ frameOf b ++ catF l = P ++ catF (b :: l) := by show _ = P ++ (frameOf b ++ catF l); rw [app_assoc]
    rw [e1, e2]
theorem end_empty (Q : ByteArray) (hQ : Q.size ≤ 2000000000) : ∃ r1 r2 r3 r4, frame_Unframe.f (Q ++ (⟨#[]⟩ : ByteArray)) (Q.size : Int) = some (r1, r2, r3, r4) ∧ r4 ≠ 0 := by
  rw [app_empty]
  unfold frame_Unframe.f
  rw [if_neg (by omega), if_neg (by omega), if_pos (by omega), if_pos (by omega)]
  exact ⟨_, _, _, _, rfl, by decide⟩
theorem end_ff (Q : ByteArray) (hQ : Q.size ≤ 2000000000) : ∃ r1 r2 r3 r4, frame_Unframe.f (Q ++ (⟨#[255, 255, 255, 255]⟩ : ByteArray)) (Q.size : Int) = some (r1, r2, r3, r4) ∧ r4 ≠ 0 := by
  have hs : (Q ++ (⟨#[255, 255, 255, 255]⟩ : ByteArray)).size = Q.size + 4 := by rw [ByteArray.size_append]; rfl
  have hr : (Q ++ (⟨#[255, 255, 255, 255]⟩ : ByteArray)).extract Q.size (Q.size + 4) = (⟨#[255, 255, 255, 255]⟩ : ByteArray) := by
    apply ba_ext
    rw [extract_list, list_append, List.drop_append_of_le_length (by rw [len_list]; omega), List.drop_of_length_le (by rw [len_list]; omega), List.nil_append]
    refine List.take_of_length_le ?_
    show 4 ≤ _; omega
  unfold frame_Unframe.f
  rw [if_neg (by omega), if_neg (by rw [hs]; omega), if_pos (by rw [hs]; omega), Int.toNat_natCast, if_neg (by rw [hs]; omega), hs, hr]
  have hg : frame_get.f (⟨#[255, 255, 255, 255]⟩ : ByteArray) = some 4294967295 := by decide +kernel
  rw [hg]
  simp only [Option.bind_some]
  rw [if_pos (by omega)]
  exact ⟨_, _, _, _, rfl, by decide⟩
theorem works_ok : hopperlaw06_works.f = some true := by decide +kernel
def smalls (l : List ByteArray) : List ByteArray := l.filter fun b => decide (b.size ≤ 65536)
theorem smalls_small (l : List ByteArray) : ∀ b ∈ smalls l, b.size ≤ 65536 := fun b hb => by simpa using (List.mem_filter.1 hb).2
theorem smalls_len (l : List ByteArray) : (smalls l).length ≤ l.length := List.length_filter_le _ _
theorem rd_at (l : List ByteArray) (i : Nat) (h : i < l.length) : rdOf ByteArray.empty l (i : Int) = l[i] := by unfold rdOf; simp [h]
theorem back_loop (A B : ByteArray) (l : List ByteArray) (hA : A.size ≤ 140737488351232) (hB : B.size ≤ 140737488351232) (hl : l.length ≤ 30) (d : Nat) :
    ∀ (k i : Nat), i + d = l.length → 2 * d + 100 ≤ k → hopperlaw06_FrameBack.l0 k A B (catF (smalls (l.take i))) (smalls (l.take i)) l (l.length : Int) (i : Int) = some true := by
  induction d with
  | zero =>
    intro k i hi hk
    obtain ⟨k, rfl⟩ : ∃ m, k = m + 1 := ⟨k - 1, by omega⟩
    have hll := smalls_len (l.take i)
    have hss := smalls_small (l.take i)
    rw [List.length_take] at hll
    generalize smalls (l.take i) = S at hll hss
    have hcs := catF_size S hss
    simp only [hopperlaw06_FrameBack.l0]
    rw [if_neg (by omega)]
    have f1 := frames_all (⟨#[]⟩ : ByteArray) (by decide) S k (⟨#[]⟩ : ByteArray) [] hss (by omega) (by simp; omega) (by show 0 + _ ≤ _; omega) (by omega) end_empty
    have f2 := frames_all (⟨#[255, 255, 255, 255]⟩ : ByteArray) (by decide) S k (⟨#[]⟩ : ByteArray) [] hss (by omega) (by simp; omega) (by show 0 + _ ≤ _; omega) (by omega) end_ff
    rw [app_empty, empty_app, List.nil_append] at f1
    rw [empty_app, List.nil_append] at f2
    have g1 : frame_Frames.f k (catF S) = some (S, ((catF S).size : Int)) := f1
    have g2 : frame_Frames.f k (catF S ++ (⟨#[255, 255, 255, 255]⟩ : ByteArray)) = some (S, ((catF S).size : Int)) := f2
    rw [g1, g2]
    simp only [Option.bind_some]
    rw [if_pos (by omega), sametexts_eq S (by omega) k (by omega)]
    simp
  | succ d ih =>
    intro k i hi hk
    obtain ⟨k, rfl⟩ : ∃ m, k = m + 2 := ⟨k - 2, by omega⟩
    have hlt : i < l.length := by omega
    have hll := smalls_len (l.take i)
    have hss := smalls_small (l.take i)
    rw [List.length_take] at hll
    have hcs := catF_size (smalls (l.take i)) hss
    have hi1 : wrap64 ((i : Int) + 1) = ((i + 1 : Nat) : Int) := by unfold wrap64; omega
    have htake : l.take (i + 1) = l.take i ++ [l[i]] := List.take_succ_eq_append_getElem hlt
    simp only [hopperlaw06_FrameBack.l0]
    rw [if_pos (by omega), if_pos (by omega), if_pos (by omega), rd_at l i hlt, frame_eq]
    simp only [Option.bind_some]
    by_cases hb : l[i].size ≤ 65536
    · have hsm : smalls (l.take (i + 1)) = smalls (l.take i) ++ [l[i]] := by unfold smalls; rw [htake, List.filter_append]; simp [hb]
      rw [if_neg (show ¬ (l[i].size : Int) > 65536 by omega)]
      simp only [if_true]
      have hf := size_frame l[i]
      have hT : (A ++ frameOf l[i] ++ B).size ≤ 9223372036854775000 := by rw [ByteArray.size_append, ByteArray.size_append, hf]; omega
      rw [if_pos (by omega), if_pos (by omega), unframe_at A l[i] B hb hT]
      simp only [Option.bind_some, beq_self_eq_true, Bool.not_true, Bool.or_self, Bool.false_eq_true, if_false, if_true]
      have hw : wrap64 ((A.size : Int) + ((frameOf l[i]).size : Int)) = (A.size : Int) + ((frameOf l[i]).size : Int) := by unfold wrap64; omega
      rw [hw, if_pos rfl, if_pos (by omega), if_pos (by omega), hi1, ← catF_snoc, ← hsm]
      exact ih (k + 1) (i + 1) (by omega) (by omega)
    · have hsm : smalls (l.take (i + 1)) = smalls (l.take i) := by unfold smalls; rw [htake, List.filter_append]; simp [hb]
      rw [if_pos (show (l[i].size : Int) > 65536 by omega)]
      simp only [show ¬ ((2 : Int) = 0) from by decide, if_false]
      rw [if_neg (by omega)]
      have hz : ((⟨#[]⟩ : ByteArray).toList != ([] : List UInt8)) = false := by decide +kernel
      rw [hz]
      simp only [hopperlaw06_FrameBack.j1]
      rw [if_neg (by decide), hi1, ← hsm]
      exact ih _ _ (by omega) (by omega)
theorem FrameBackP (l : List ByteArray) (A B : ByteArray) (hA : A.size ≤ 140737488351232) (hB : B.size ≤ 140737488351232) : hopperlaw06_FrameBack.f 300 l A B = some true := by
  unfold hopperlaw06_FrameBack.f
  rw [works_ok]
  simp only [Option.bind_some, if_true]
  by_cases h : (l.length : Int) > 30
  · rw [if_pos h]
  · rw [if_neg h]
    exact back_loop A B l hA hB (by omega) l.length 300 0 (by omega) (by omega)
theorem frameBack_walk (A : Option Addr) (l : List ByteArray) (c : Nat) (a b : ByteArray) (W : World) (h : Kd.C Kd.string W A l.length l) (hc : l.length ≤ c) (ha : a.size ≤ 140737488351232) (hb : b.size ≤ 140737488351232) :
    Calls Try.prog 14 #[.slice A l.length c, .string a, .string b] W fun e W' => e = .returned (.bool true) ∧ Below W.heap.size W W' :=
  hopperlaw06_FrameBack.calls 300 A c l a b true W h hc (FrameBackP l a b ha hb)
end Go.Proofs.Ytmfbmagbpceomaa.Pure
