/- A frame that ends early is none, nor is one in which one byte behind the length is another one: any bytes, any place, any byte. -/
import Derived.Test.YtmfbmagbpceomaaWalkTorn
namespace Go.Proofs.Ytmfbmagbpceomaa.Pure
open Go.RowKit Go.Proofs.Ytmfbmagbpceomaa.HFrameTorn Go.Proofs.YtmfbmagbpceomaaW.PrintWords Go.Proofs.YtmfbmagbpceomaaW.PrintLast Go.Proofs.YtmfbmagbpceomaaW.PrintMore
set_option linter.unusedVariables false
set_option linter.unusedSimpArgs false
/-! ### the sum, in natural numbers -/
theorem u32w {n : Int} (h0 : 0 ≤ n) (h1 : n < 4294967296) : IntKind.u32.wrap n = n := by rw [IntKind.wrap_u32]; omega
theorem u32w' (n : Int) (h0 : 0 ≤ n) (h1 : n < 2 ^ 32) : IntKind.u32.wrap n = n := u32w h0 (by omega)
theorem and32_nat (x y : Nat) (hx : x < 2 ^ 32) (hy : y < 2 ^ 32) : Go.bits .and .u32 x y = ((x &&& y : Nat) : Int) := (Go.bits_nat .u32 32 (by decide) u32w' x y hx hy).1
theorem xor32_nat (x y : Nat) (hx : x < 2 ^ 32) (hy : y < 2 ^ 32) : Go.bits .xor .u32 x y = ((x ^^^ y : Nat) : Int) := by
  have h : x ^^^ y < 2 ^ 32 := Nat.xor_lt_two_pow hx hy
  show IntKind.u32.wrap ((BitVec.ofInt 32 (x : Int) ^^^ BitVec.ofInt 32 (y : Int)).toNat : Int) = _
  rw [BitVec.toNat_xor, BitVec.ofInt_natCast, BitVec.ofInt_natCast, BitVec.toNat_ofNat, BitVec.toNat_ofNat, Nat.mod_eq_of_lt hx, Nat.mod_eq_of_lt hy]
  exact u32w (by omega) (by omega)
theorem xor8_nat (x y : Nat) (hx : x < 2 ^ 8) (hy : y < 2 ^ 8) : Go.bits .xor .u8 x y = ((x ^^^ y : Nat) : Int) := by
  have h : x ^^^ y < 2 ^ 8 := Nat.xor_lt_two_pow hx hy
  show IntKind.u8.wrap ((BitVec.ofInt 8 (x : Int) ^^^ BitVec.ofInt 8 (y : Int)).toNat : Int) = _
  rw [BitVec.toNat_xor, BitVec.ofInt_natCast, BitVec.ofInt_natCast, BitVec.toNat_ofNat, BitVec.toNat_ofNat, Nat.mod_eq_of_lt hx, Nat.mod_eq_of_lt hy, IntKind.wrap_u8]
  omega
def nbit (x : Nat) : Nat := x / 2 ^^^ (if x % 2 = 1 then 3988292384 else 0)
def nbits : Nat → Nat → Nat
  | 0, x => x
  | n + 1, x => nbit (nbits n x)
def nbyte (x b : Nat) : Nat := nbits 8 (x ^^^ b)
def nall (l : List Nat) (x : Nat) : Nat := l.foldl nbyte x
theorem nbit_lt {x : Nat} (h : x < 2 ^ 32) : nbit x < 2 ^ 32 := by
  unfold nbit
  refine Nat.xor_lt_two_pow (by omega) ?_
  split <;> decide
theorem nbits_lt (n : Nat) {x : Nat} (h : x < 2 ^ 32) : nbits n x < 2 ^ 32 := by
  induction n with
  | zero => exact h
  | succ n ih => exact nbit_lt ih
theorem nbyte_lt {x b : Nat} (h : x < 2 ^ 32) (hb : b < 256) : nbyte x b < 2 ^ 32 := nbits_lt 8 (Nat.xor_lt_two_pow h (by omega))
theorem nall_lt (l : List Nat) : ∀ x, x < 2 ^ 32 → (∀ b ∈ l, b < 256) → nall l x < 2 ^ 32 := by
  induction l with
  | nil => intro x h _; exact h
  | cons b l ih => intro x h hb; exact ih _ (nbyte_lt h (hb b (by simp))) (fun c hc => hb c (List.mem_cons_of_mem _ hc))
theorem crcBit_nat {x : Nat} (h : x < 2 ^ 32) : crcBit (x : Int) = (nbit x : Nat) := by
  unfold crcBit nbit
  have e1 : Go.bits .and .u32 (x : Int) 1 = ((x % 2 : Nat) : Int) := by
    have := and32_nat x 1 h (by decide)
    rw [Nat.and_one_is_mod] at this
    exact this
  rw [e1]
  have e3 : (x : Int) / 2 = ((x / 2 : Nat) : Int) := by omega
  rw [e3]
  rcases Nat.mod_two_eq_zero_or_one x with h2 | h2
  · rw [h2]
    have e2 : -((0 : Nat) : Int) % 4294967296 = ((0 : Nat) : Int) := by decide
    rw [e2, show ((3988292384 : Int)) = ((3988292384 : Nat) : Int) from rfl, and32_nat _ _ (by decide) (by decide), xor32_nat _ _ (by omega) (by decide)]
    rfl
  · rw [h2]
    have e2 : -((1 : Nat) : Int) % 4294967296 = ((4294967295 : Nat) : Int) := by decide
    rw [e2, show ((3988292384 : Int)) = ((3988292384 : Nat) : Int) from rfl, and32_nat _ _ (by decide) (by decide), xor32_nat _ _ (by omega) (by decide)]
    rfl
theorem crcBits_nat (n : Nat) {x : Nat} (h : x < 2 ^ 32) : crcBits n (x : Int) = (nbits n x : Nat) := by
  induction n with
  | zero => rfl
  | succ n ih => unfold crcBits nbits; rw [ih, crcBit_nat (nbits_lt n h)]
theorem crcByte_nat {x : Nat} (h : x < 2 ^ 32) (b : UInt8) : crcByte (x : Int) b = (nbyte x b.toNat : Nat) := by
  unfold crcByte nbyte
  have hb := b.toNat_lt
  rw [xor32_nat _ _ h (by omega), crcBits_nat 8 (Nat.xor_lt_two_pow h (by omega))]
theorem crcFold_nat (l : List UInt8) : ∀ x : Nat, x < 2 ^ 32 → l.foldl crcByte (x : Int) = (nall (l.map UInt8.toNat) x : Nat) := by
  induction l with
  | nil => intro x _; rfl
  | cons b l ih =>
    intro x h
    simp only [List.foldl_cons, List.map_cons, nall]
    rw [crcByte_nat h, ih _ (nbyte_lt h (by have := b.toNat_lt; omega))]
    rfl
theorem crcAll_nat (l : List UInt8) : crcAll l = (nall (l.map UInt8.toNat) 4294967295 : Nat) := crcFold_nat l 4294967295 (by decide)
/-- The sum of bytes. -/
def nsum (l : List UInt8) : Nat := nall (l.map UInt8.toNat) 4294967295 ^^^ 4294967295
theorem nall_lt' (l : List UInt8) : nall (l.map UInt8.toNat) 4294967295 < 2 ^ 32 :=
  nall_lt _ _ (by decide) (fun b hb => by obtain ⟨c, _, rfl⟩ := List.mem_map.1 hb; have := c.toNat_lt; omega)
theorem nsum_lt (l : List UInt8) : nsum l < 2 ^ 32 := Nat.xor_lt_two_pow (nall_lt' l) (by decide)
theorem sum_eq (s : ByteArray) (h : s.size ≤ 9223372036854775807) : frame_Sum.f s = some ((nsum s.data.toList : Nat) : Int) := by
  unfold frame_Sum.f nsum
  rw [if_pos h, crcAll_nat]
  rw [show IntKind.u32.max = ((4294967295 : Nat) : Int) from by decide, xor32_nat _ _ (by decide) (nall_lt' _), Nat.xor_comm]
/-! ### the frame, of both -/
theorem ba_ext {a b : ByteArray} (h : a.data.toList = b.data.toList) : a = b := by
  cases a; cases b; simp only [ByteArray.mk.injEq]; exact Array.toList_inj.1 h
theorem strOfNums_append (l m : List Int) : strOfNums (l ++ m) = strOfNums l ++ strOfNums m := by
  apply ba_ext; unfold strOfNums; simp [ByteArray.data_append]
theorem strOfNums_bytesOf (b : ByteArray) : strOfNums (bytesOf b) = b := by
  apply ba_ext
  unfold strOfNums bytesOf
  simp only [List.map_map]
  conv => rhs; rw [← List.map_id b.data.toList]
  refine List.map_congr_left fun x _ => ?_
  simp
theorem size_strOfNums (l : List Int) : (strOfNums l).size = l.length := by unfold strOfNums; simp [ByteArray.size]
/-- A number as four bytes, the lowest first. -/
def le4 (n : Nat) : List Int := [((n % 256 : Nat) : Int), ((n / 256 % 256 : Nat) : Int), ((n / 65536 % 256 : Nat) : Int), ((n / 16777216 % 256 : Nat) : Int)]
theorem put_eq (l : List Int) (n : Nat) (h : l.length < 140737488355000) : frame_put.f l (n : Int) = some (l ++ le4 n) := by
  unfold frame_put.f
  simp only [Option.bind_some]
  rw [if_pos (by simp; omega)]
  unfold le4
  have e1 : ((n : Int)) % 256 = ((n % 256 : Nat) : Int) := by omega
  have e2 : ((n : Int) / 256) % 256 = ((n / 256 % 256 : Nat) : Int) := by omega
  have e3 : ((n : Int) / 65536) % 256 = ((n / 65536 % 256 : Nat) : Int) := by omega
  have e4 : ((n : Int) / 16777216) % 256 = ((n / 16777216 % 256 : Nat) : Int) := by omega
  rw [e1, e2, e3, e4]
/-- The frame of bytes. -/
def frameOf (b : ByteArray) : ByteArray := strOfNums (le4 b.size) ++ b ++ strOfNums (le4 (nsum (strOfNums (le4 b.size) ++ b).data.toList))
theorem le4_len (n : Nat) : (le4 n).length = 4 := rfl
theorem bytesOf_len (b : ByteArray) : (bytesOf b).length = b.size := by unfold bytesOf; simp
theorem frame_eq (b : ByteArray) : frame_Frame.f b = some (if (b.size : Int) > 65536 then (⟨#[]⟩, 2) else (frameOf b, 0)) := by
  unfold frame_Frame.f
  by_cases h : (b.size : Int) > 65536
  · rw [if_pos h, if_pos h]
  · rw [if_neg h, if_neg h]
    have e1 : wrap64 (wrap64 (4 + (b.size : Int)) + 4) = (b.size : Int) + 8 := by unfold wrap64; omega
    have e2 : ((b.size : Int)) % 4294967296 = ((b.size : Nat) : Int) := by omega
    rw [e1, if_pos (by omega), if_pos (by omega), e2, put_eq [] b.size (by simp)]
    simp only [Option.bind_some, List.nil_append]
    rw [if_pos (by rw [le4_len]; omega), sum_eq _ (by rw [size_strOfNums, List.length_append, le4_len, bytesOf_len]; omega)]
    simp only [Option.bind_some]
    rw [put_eq _ _ (by rw [List.length_append, le4_len, bytesOf_len]; omega)]
    simp only [Option.bind_some]
    unfold frameOf
    rw [strOfNums_append, strOfNums_append, strOfNums_bytesOf]
/-- Four bytes as a number. -/
def hopperref06_unfour.f (a0 : ByteArray) : Option (Int) := if 0 < (a0.size : Int) then (if 1 < (a0.size : Int) then (if 2 < (a0.size : Int) then (if 3 < (a0.size : Int) then (some ((((((((bt a0 0) % 4294967296) + ((((bt a0 1) % 4294967296) * 256) % 4294967296)) % 4294967296) + ((((bt a0 2) % 4294967296) * 65536) % 4294967296)) % 4294967296) + ((((bt a0 3) % 4294967296) * 16777216) % 4294967296)) % 4294967296)) else (none)) else (none)) else (none)) else (none)
theorem or32_join (i : Nat) (hi : i ≤ 32) (x y : Int) (hx0 : 0 ≤ x) (hx : x < 2 ^ i) (hy0 : 0 ≤ y) (hy : y % 2 ^ i = 0) (hy1 : y < 4294967296) (hx1 : x < 4294967296) : Go.bits .or .u32 x y = y + x := by
  have hc : Go.bits .or .u32 x y = Go.bits .or .u32 y x := by
    unfold Go.bits; simp only [BitVec.or_comm]
  rw [hc]
  exact Go.bits_join .u32 32 (by decide) u32w' i y x hy0 hy (by omega) hx0 hx (by omega)
theorem get_unfour (s : ByteArray) : frame_get.f s = hopperref06_unfour.f s := by
  unfold frame_get.f hopperref06_unfour.f
  have hb : ∀ j : Int, 0 ≤ bt s j ∧ bt s j < 256 := by
    intro j; unfold bt; split
    · have := (s[j.toNat]).toNat_lt; omega
    · omega
  have h0 := hb 0; have h1 := hb 1; have h2 := hb 2; have h3 := hb 3
  generalize bt s 0 = a at *
  generalize bt s 1 = b at *
  generalize bt s 2 = c at *
  generalize bt s 3 = d at *
  have e1 : Go.bits .or .u32 (a % 4294967296) ((b % 4294967296 * 256) % 4294967296) = b * 256 + a := by
    rw [show a % 4294967296 = a from by omega, show b % 4294967296 * 256 % 4294967296 = b * 256 from by omega]
    exact or32_join 8 (by decide) a (b * 256) h0.1 (by omega) (by omega) (by omega) (by omega) (by omega)
  have e2 : Go.bits .or .u32 (b * 256 + a) ((c % 4294967296 * 65536) % 4294967296) = c * 65536 + (b * 256 + a) := by
    rw [show c % 4294967296 * 65536 % 4294967296 = c * 65536 from by omega]
    exact or32_join 16 (by decide) (b * 256 + a) (c * 65536) (by omega) (by omega) (by omega) (by omega) (by omega) (by omega)
  have e3 : Go.bits .or .u32 (c * 65536 + (b * 256 + a)) ((d % 4294967296 * 16777216) % 4294967296) = d * 16777216 + (c * 65536 + (b * 256 + a)) := by
    rw [show d % 4294967296 * 16777216 % 4294967296 = d * 16777216 from by omega]
    exact or32_join 24 (by decide) (c * 65536 + (b * 256 + a)) (d * 16777216) (by omega) (by omega) (by omega) (by omega) (by omega) (by omega)
  rw [e1, e2, e3]
  have e4 : d * 16777216 + (c * 65536 + (b * 256 + a)) = (((a % 4294967296 + b % 4294967296 * 256 % 4294967296) % 4294967296 + c % 4294967296 * 65536 % 4294967296) % 4294967296 + d % 4294967296 * 16777216 % 4294967296) % 4294967296 := by omega
  rw [e4]
/-! ### cuts of bytes -/
theorem extract_list (s : ByteArray) (a b : Nat) : (s.extract a b).data.toList = (s.data.toList.drop a).take (b - a) := by
  simp [List.extract_eq_take_drop]
theorem extract_extract (s : ByteArray) (k a b : Nat) (h : k + b ≤ s.size) : (s.extract k s.size).extract a b = s.extract (k + a) (k + b) := by
  apply ba_ext
  rw [extract_list, extract_list, extract_list, List.drop_take, List.take_take, List.drop_drop]
  congr 1; omega
theorem get_some (s : ByteArray) (h : 4 ≤ s.size) : ∃ n, frame_get.f s = some n := by
  unfold frame_get.f
  rw [if_pos (by omega), if_pos (by omega), if_pos (by omega), if_pos (by omega)]
  exact ⟨_, rfl⟩
/-- What an answer of Unframe is like: found, and the place behind; or a fault. -/
def Told (s : ByteArray) (a : Int) (r : ByteArray × Int × Int × Int) : Prop :=
  (r.2.2.2 = 0 ∧ r.2.2.1 = 0 ∧ 0 ≤ a ∧ a + 8 ≤ r.2.1 ∧ r.2.1 ≤ (s.size : Int)) ∨ r.2.2.2 ≠ 0
theorem unframe_some (s : ByteArray) (a : Int) (hs : s.size ≤ 9223372036854775000) : ∃ r, frame_Unframe.f s a = some r ∧ Told s a r := by
  unfold frame_Unframe.f
  by_cases h1 : a < 0
  · rw [if_pos h1]; exact ⟨_, rfl, .inr (by simp)⟩
  rw [if_neg h1]
  by_cases h2 : a > (s.size : Int)
  · rw [if_pos h2]; exact ⟨_, rfl, .inr (by simp)⟩
  rw [if_neg h2, if_pos hs]
  by_cases h3 : s.size - a.toNat < 4
  · rw [if_pos h3]; exact ⟨_, rfl, .inr (by simp)⟩
  rw [if_neg h3]
  obtain ⟨n, hn⟩ := get_some (s.extract a.toNat s.size) (by rw [ByteArray.size_extract]; omega)
  obtain ⟨n0, n1⟩ := get_lt hn
  rw [hn]
  simp only [Option.bind_some]
  by_cases h4 : n > 65536
  · rw [if_pos h4]; exact ⟨_, rfl, .inr (by simp)⟩
  rw [if_neg h4, if_pos n0]
  by_cases h5 : ((s.size - a.toNat : Nat) : Int) < 4 + n + 4
  · rw [if_pos h5]; exact ⟨_, rfl, .inr (by simp)⟩
  rw [if_neg h5, sum_eq _ (by rw [ByteArray.size_extract, ByteArray.size_extract]; omega)]
  obtain ⟨y, hy⟩ := get_some ((s.extract a.toNat s.size).extract (4 + n).toNat (s.size - a.toNat)) (by rw [ByteArray.size_extract, ByteArray.size_extract]; omega)
  simp only [Option.bind_some]
  rw [hy]
  simp only [Option.bind_some]
  by_cases h6 : ((nsum ((s.extract a.toNat s.size).extract 0 (4 + n).toNat).data.toList : Nat) : Int) = y
  · rw [if_pos h6]; exact ⟨_, rfl, .inl ⟨rfl, rfl, by omega, by simp only; omega, by simp only; omega⟩⟩
  · rw [if_neg h6]; exact ⟨_, rfl, .inr (by simp)⟩
/-! ### there and back -/
theorem bt_of_list {s : ByteArray} {j : Nat} {u : UInt8} (h : s.data.toList[j]? = some u) : bt s (j : Int) = (u.toNat : Int) := by
  obtain ⟨hl, he⟩ := List.getElem?_eq_some_iff.1 h
  have hs : j < s.size := by simpa using hl
  unfold bt
  simp only [Int.toNat_natCast, hs, dite_true]
  rw [← he]; rfl
theorem list_le4 (n : Nat) : (strOfNums (le4 n)).data.toList = [UInt8.ofNat (n % 256), UInt8.ofNat (n / 256 % 256), UInt8.ofNat (n / 65536 % 256), UInt8.ofNat (n / 16777216 % 256)] := by
  unfold strOfNums le4
  simp only [List.map_cons, List.map_nil, Int.toNat_natCast]
theorem list_append (a b : ByteArray) : (a ++ b).data.toList = a.data.toList ++ b.data.toList := by simp [ByteArray.data_append]
theorem len_list (s : ByteArray) : s.data.toList.length = s.size := by simp
theorem get_le4 (n : Nat) (h : n < 4294967296) (X : ByteArray) : frame_get.f (strOfNums (le4 n) ++ X) = some (n : Int) := by
  rw [get_unfour]
  have hsz : (strOfNums (le4 n) ++ X).size = 4 + X.size := by rw [ByteArray.size_append, size_strOfNums, le4_len]
  have hl : (strOfNums (le4 n) ++ X).data.toList = [UInt8.ofNat (n % 256), UInt8.ofNat (n / 256 % 256), UInt8.ofNat (n / 65536 % 256), UInt8.ofNat (n / 16777216 % 256)] ++ X.data.toList := by rw [list_append, list_le4]
  have b0 : bt (strOfNums (le4 n) ++ X) 0 = ((n % 256 : Nat) : Int) := by
    have := bt_of_list (s := strOfNums (le4 n) ++ X) (j := 0) (u := UInt8.ofNat (n % 256)) (by rw [hl]; rfl)
    rw [UInt8.toNat_ofNat'] at this
    rw [show ((0 : Nat) : Int) = 0 from rfl] at this
    rw [this]; omega
  have b1 : bt (strOfNums (le4 n) ++ X) 1 = ((n / 256 % 256 : Nat) : Int) := by
    have := bt_of_list (s := strOfNums (le4 n) ++ X) (j := 1) (u := UInt8.ofNat (n / 256 % 256)) (by rw [hl]; rfl)
    rw [UInt8.toNat_ofNat'] at this
    rw [show ((1 : Nat) : Int) = 1 from rfl] at this
    rw [this]; omega
  have b2 : bt (strOfNums (le4 n) ++ X) 2 = ((n / 65536 % 256 : Nat) : Int) := by
    have := bt_of_list (s := strOfNums (le4 n) ++ X) (j := 2) (u := UInt8.ofNat (n / 65536 % 256)) (by rw [hl]; rfl)
    rw [UInt8.toNat_ofNat'] at this
    rw [show ((2 : Nat) : Int) = 2 from rfl] at this
    rw [this]; omega
  have b3 : bt (strOfNums (le4 n) ++ X) 3 = ((n / 16777216 % 256 : Nat) : Int) := by
    have := bt_of_list (s := strOfNums (le4 n) ++ X) (j := 3) (u := UInt8.ofNat (n / 16777216 % 256)) (by rw [hl]; rfl)
    rw [UInt8.toNat_ofNat'] at this
    rw [show ((3 : Nat) : Int) = 3 from rfl] at this
    rw [this]; omega
  unfold hopperref06_unfour.f
  rw [if_pos (by omega), if_pos (by omega), if_pos (by omega), if_pos (by omega), b0, b1, b2, b3]
  congr 1; omega
theorem size_frame (b : ByteArray) : (frameOf b).size = b.size + 8 := by
  unfold frameOf; rw [ByteArray.size_append, ByteArray.size_append, size_strOfNums, size_strOfNums, le4_len, le4_len]; omega
/-- A frame is found wherever it stands, whatever stands behind it. -/
theorem unframe_at (A b B : ByteArray) (hb : b.size ≤ 65536) (hs : (A ++ frameOf b ++ B).size ≤ 9223372036854775000) :
    frame_Unframe.f (A ++ frameOf b ++ B) (A.size : Int) = some (b, (A.size : Int) + ((frameOf b).size : Int), 0, 0) := by
  have hsz : (A ++ frameOf b ++ B).size = A.size + (b.size + 8) + B.size := by rw [ByteArray.size_append, ByteArray.size_append, size_frame]
  have hrest : (A ++ frameOf b ++ B).extract A.size (A ++ frameOf b ++ B).size = frameOf b ++ B := by
    apply ba_ext
    rw [extract_list, list_append, list_append, list_append, List.append_assoc, List.drop_append_of_le_length (by rw [len_list]; omega), List.drop_of_length_le (by rw [len_list]; omega), List.nil_append]
    refine List.take_of_length_le ?_
    rw [List.length_append, len_list, len_list, size_frame, hsz]; omega
  have hlist : (frameOf b ++ B).data.toList = (strOfNums (le4 b.size)).data.toList ++ (b.data.toList ++ ((strOfNums (le4 (nsum (strOfNums (le4 b.size) ++ b).data.toList))).data.toList ++ B.data.toList)) := by
    unfold frameOf; rw [list_append, list_append, list_append, List.append_assoc, List.append_assoc]
  have h4 : (strOfNums (le4 b.size)).data.toList.length = 4 := by rw [list_le4]; rfl
  have hbl : b.data.toList.length = b.size := len_list b
  have e1 : (frameOf b ++ B).extract 0 (4 + b.size) = strOfNums (le4 b.size) ++ b := by
    apply ba_ext
    rw [extract_list, hlist, list_append, List.drop_zero, ← List.append_assoc, List.take_append_of_le_length (by rw [List.length_append, h4, hbl]; omega)]
    exact List.take_of_length_le (by rw [List.length_append, h4, hbl]; omega)
  have e2 : (frameOf b ++ B).extract (4 + b.size) (b.size + 8 + B.size) = strOfNums (le4 (nsum (strOfNums (le4 b.size) ++ b).data.toList)) ++ B := by
    apply ba_ext
    rw [extract_list, hlist, list_append, ← List.append_assoc, List.drop_append_of_le_length (by rw [List.length_append, h4, hbl]; omega), List.drop_of_length_le (by rw [List.length_append, h4, hbl]; omega), List.nil_append]
    refine List.take_of_length_le ?_
    rw [List.length_append, len_list, len_list, size_strOfNums, le4_len]; omega
  have e3 : (frameOf b ++ B).extract 4 (4 + b.size) = b := by
    apply ba_ext
    rw [extract_list, hlist, List.drop_append_of_le_length (by rw [h4]; omega), List.drop_of_length_le (by rw [h4]; omega), List.nil_append, List.take_append_of_le_length (by rw [hbl]; omega)]
    exact List.take_of_length_le (by rw [hbl]; omega)
  unfold frame_Unframe.f
  rw [if_neg (by omega), if_neg (by rw [hsz]; omega), if_pos hs, Int.toNat_natCast, if_neg (by rw [hsz]; omega), hrest]
  have hg : frame_get.f (frameOf b ++ B) = some ((b.size : Nat) : Int) := by
    have := get_le4 b.size (by omega) (b ++ strOfNums (le4 (nsum (strOfNums (le4 b.size) ++ b).data.toList)) ++ B)
    rw [← this]
    refine congrArg frame_get.f ?_
    apply ba_ext; unfold frameOf; simp only [list_append, List.append_assoc]
  rw [hg]
  simp only [Option.bind_some]
  rw [if_neg (by omega), if_pos (by omega), if_neg (by rw [hsz]; omega)]
  have t1 : (4 + (b.size : Int)).toNat = 4 + b.size := by omega
  have t2 : (A ++ frameOf b ++ B).size - A.size = b.size + 8 + B.size := by rw [hsz]; omega
  rw [t1, t2, e1, e2, e3, sum_eq _ (by rw [ByteArray.size_append, size_strOfNums, le4_len]; omega), get_le4 _ (by have := nsum_lt (strOfNums (le4 b.size) ++ b).data.toList; omega)]
  simp only [Option.bind_some]
  rw [if_true, size_frame]
  congr 2
  simp only [Prod.mk.injEq, and_true]; omega
/-! ### one byte that is another one is found -/
theorem nbit_inj {x y : Nat} (hx : x < 2 ^ 32) (hy : y < 2 ^ 32) (h : nbit x = nbit y) : x = y := by
  have top : ∀ z, z < 2 ^ 32 → (nbit z).testBit 31 = decide (z % 2 = 1) := by
    intro z hz
    unfold nbit
    rw [Nat.testBit_xor, Nat.testBit_lt_two_pow (x := z / 2) (by omega)]
    by_cases h1 : z % 2 = 1
    · rw [if_pos h1, decide_eq_true h1]; decide
    · rw [if_neg h1, decide_eq_false h1]; simp
  have h2 : decide (x % 2 = 1) = decide (y % 2 = 1) := by rw [← top x hx, ← top y hy, h]
  have h3 : x / 2 = y / 2 := by
    unfold nbit at h
    by_cases h1 : x % 2 = 1
    · have h4 : y % 2 = 1 := by simpa [h1] using h2
      rw [if_pos h1, if_pos h4] at h
      have := congrArg (· ^^^ 3988292384) h
      simpa [Nat.xor_assoc] using this
    · have h4 : ¬ y % 2 = 1 := by simpa [h1] using h2
      rw [if_neg h1, if_neg h4] at h
      simpa using h
  have h5 : x % 2 = y % 2 := by
    by_cases h1 : x % 2 = 1
    · have h4 : y % 2 = 1 := by simpa [h1] using h2
      omega
    · have h4 : ¬ y % 2 = 1 := by simpa [h1] using h2
      omega
  omega
theorem nbits_inj (n : Nat) {x y : Nat} (hx : x < 2 ^ 32) (hy : y < 2 ^ 32) (h : nbits n x = nbits n y) : x = y := by
  induction n with
  | zero => exact h
  | succ n ih => exact ih (nbit_inj (nbits_lt n hx) (nbits_lt n hy) h)
theorem xor_cancel {a b c : Nat} (h : a ^^^ c = b ^^^ c) : a = b := by
  have := congrArg (· ^^^ c) h
  simpa [Nat.xor_assoc] using this
theorem nbyte_inj {x y b : Nat} (hx : x < 2 ^ 32) (hy : y < 2 ^ 32) (hb : b < 256) (h : nbyte x b = nbyte y b) : x = y :=
  xor_cancel (nbits_inj 8 (Nat.xor_lt_two_pow hx (by omega)) (Nat.xor_lt_two_pow hy (by omega)) h)
theorem nbyte_ne {x a b : Nat} (hx : x < 2 ^ 32) (ha : a < 256) (hb : b < 256) (h : a ≠ b) : nbyte x a ≠ nbyte x b := by
  intro e
  have := nbits_inj 8 (Nat.xor_lt_two_pow hx (by omega)) (Nat.xor_lt_two_pow hx (by omega)) e
  rw [Nat.xor_comm x a, Nat.xor_comm x b] at this
  exact h (xor_cancel this)
theorem nall_inj (l : List Nat) : ∀ x y, x < 2 ^ 32 → y < 2 ^ 32 → (∀ b ∈ l, b < 256) → nall l x = nall l y → x = y := by
  induction l with
  | nil => intro x y _ _ _ h; exact h
  | cons b l ih =>
    intro x y hx hy hb h
    have h8 := hb b (by simp)
    exact nbyte_inj hx hy h8 (ih _ _ (nbyte_lt hx h8) (nbyte_lt hy h8) (fun c hc => hb c (List.mem_cons_of_mem _ hc)) h)
theorem nall_append (p q : List Nat) (x : Nat) : nall (p ++ q) x = nall q (nall p x) := by unfold nall; rw [List.foldl_append]
theorem toNat_lt_all (l : List UInt8) : ∀ b ∈ l.map UInt8.toNat, b < 256 := fun b hb => by obtain ⟨c, _, rfl⟩ := List.mem_map.1 hb; exact c.toNat_lt
theorem nsum_ne (p q : List UInt8) (a b : UInt8) (h : a ≠ b) : nsum (p ++ a :: q) ≠ nsum (p ++ b :: q) := by
  intro e
  unfold nsum at e
  have e := xor_cancel e
  rw [List.map_append, List.map_append, nall_append, nall_append, List.map_cons, List.map_cons] at e
  have hp := nall_lt (p.map UInt8.toNat) 4294967295 (by decide) (toNat_lt_all p)
  have e2 : nbyte (nall (p.map UInt8.toNat) 4294967295) a.toNat = nbyte (nall (p.map UInt8.toNat) 4294967295) b.toNat :=
    nall_inj (q.map UInt8.toNat) _ _ (nbyte_lt hp a.toNat_lt) (nbyte_lt hp b.toNat_lt) (toNat_lt_all q) e
  exact nbyte_ne hp a.toNat_lt b.toNat_lt (fun hh => h (UInt8.toNat_inj.1 hh)) e2
/-- What four bytes are as a number. -/
theorem get_list (s : ByteArray) (a b c d : UInt8) (l : List UInt8) (h : s.data.toList = a :: b :: c :: d :: l) : frame_get.f s = some (((a.toNat + b.toNat * 256 + c.toNat * 65536 + d.toNat * 16777216 : Nat) : Nat) : Int) := by
  rw [get_unfour]
  have hsz : s.size = l.length + 4 := by rw [← len_list, h]; simp
  have b0 : bt s 0 = (a.toNat : Int) := bt_of_list (j := 0) (by rw [h]; rfl)
  have b1 : bt s 1 = (b.toNat : Int) := bt_of_list (j := 1) (by rw [h]; rfl)
  have b2 : bt s 2 = (c.toNat : Int) := bt_of_list (j := 2) (by rw [h]; rfl)
  have b3 : bt s 3 = (d.toNat : Int) := bt_of_list (j := 3) (by rw [h]; rfl)
  unfold hopperref06_unfour.f
  rw [if_pos (by omega), if_pos (by omega), if_pos (by omega), if_pos (by omega), b0, b1, b2, b3]
  have := a.toNat_lt; have := b.toNat_lt; have := c.toNat_lt; have := d.toNat_lt
  congr 1; omega
theorem frame_list (b : ByteArray) : (frameOf b).data.toList = (strOfNums (le4 b.size)).data.toList ++ (b.data.toList ++ (strOfNums (le4 (nsum (strOfNums (le4 b.size) ++ b).data.toList))).data.toList) := by
  unfold frameOf; rw [list_append, list_append, List.append_assoc]
theorem short_frame (b : ByteArray) (hb : b.size ≤ 65536) (c : Nat) (hc : c < (frameOf b).size) : frame_Unframe.f ((frameOf b).extract 0 c) 0 = some (⟨#[]⟩, 0, 0, 61) := by
  have hF := size_frame b
  have hs : ((frameOf b).extract 0 c).size = c := by rw [ByteArray.size_extract]; omega
  unfold frame_Unframe.f
  rw [if_neg (by omega), if_neg (by omega), if_pos (by omega), hs]
  simp only [show ((0 : Int).toNat) = 0 from rfl, Nat.sub_zero]
  by_cases h4 : c < 4
  · rw [if_pos h4]
  · rw [if_neg h4]
    have hg : frame_get.f (((frameOf b).extract 0 c).extract 0 c) = some ((b.size : Nat) : Int) := by
      have e : ((frameOf b).extract 0 c).extract 0 c = strOfNums (le4 b.size) ++ ((b ++ strOfNums (le4 (nsum (strOfNums (le4 b.size) ++ b).data.toList))).extract 0 (c - 4)) := by
        apply ba_ext
        rw [extract_list, extract_list, list_append, extract_list, list_append, frame_list, List.drop_zero, List.drop_zero, List.drop_zero, List.take_take, List.take_append, List.take_of_length_le (by rw [list_le4]; simp; omega)]
        rw [list_le4]; simp
      rw [e]; exact get_le4 b.size (by omega) _
    rw [hg]
    simp only [Option.bind_some]
    rw [if_neg (by omega), if_pos (by omega), if_pos (by omega)]
theorem set_list (l : List UInt8) (i : Nat) (v : UInt8) (h : i < l.length) : l.set i v = l.take i ++ v :: l.drop (i + 1) := by
  rw [List.set_eq_take_append_cons_drop, if_pos h]
/-- The bytes with one of them another one. -/
theorem torn_frame (b X : ByteArray) (hb : b.size ≤ 65536) (i : Nat) (v : UInt8) (h4 : 4 ≤ i) (hi : i < (frameOf b).size) (hX : X.data.toList = (frameOf b).data.toList.set i v) (hv : (frameOf b).data.toList[i]? ≠ some v) :
    frame_Unframe.f X 0 = some (⟨#[]⟩, 0, 0, 60) := by
  have hF := size_frame b
  have hXs : X.size = b.size + 8 := by rw [← len_list, hX, List.length_set, len_list, hF]
  have h4l : (strOfNums (le4 b.size)).data.toList.length = 4 := by rw [list_le4]; rfl
  generalize hS : nsum (strOfNums (le4 b.size) ++ b).data.toList = S at *
  have hSl : (strOfNums (le4 S)).data.toList.length = 4 := by rw [list_le4]; rfl
  have hbl : b.data.toList.length = b.size := len_list b
  have hfl : (frameOf b).data.toList = (strOfNums (le4 b.size)).data.toList ++ (b.data.toList ++ (strOfNums (le4 S)).data.toList) := by rw [frame_list, hS]
  have hSlt : S < 2 ^ 32 := by rw [← hS]; exact nsum_lt _
  have hdrop : X.extract 0 X.size = X := by
    apply ba_ext; rw [extract_list, List.drop_zero]; exact List.take_of_length_le (by rw [len_list]; omega)
  unfold frame_Unframe.f
  rw [if_neg (by omega), if_neg (by omega), if_pos (by omega)]
  simp only [show ((0 : Int).toNat) = 0 from rfl, Nat.sub_zero]
  rw [if_neg (by omega), hdrop]
  have hg : frame_get.f X = some ((b.size : Nat) : Int) := by
    have e : X.data.toList = UInt8.ofNat (b.size % 256) :: UInt8.ofNat (b.size / 256 % 256) :: UInt8.ofNat (b.size / 65536 % 256) :: UInt8.ofNat (b.size / 16777216 % 256) :: ((b.data.toList ++ (strOfNums (le4 S)).data.toList).set (i - 4) v) := by
      rw [hX, hfl, list_le4]
      obtain ⟨j, rfl⟩ : ∃ j, i = j + 4 := ⟨i - 4, by omega⟩
      simp
    rw [get_list X _ _ _ _ _ e]
    simp only [UInt8.toNat_ofNat']
    congr 1; omega
  rw [hg]
  simp only [Option.bind_some]
  rw [if_neg (by omega), if_pos (by omega), if_neg (by omega)]
  have t1 : (4 + (b.size : Int)).toNat = 4 + b.size := by omega
  rw [t1, hXs, sum_eq _ (by rw [ByteArray.size_extract]; omega)]
  have x1 : (X.extract 0 (4 + b.size)).data.toList = (X.data.toList).take (4 + b.size) := by rw [extract_list, List.drop_zero]; rfl
  have x2 : (X.extract (4 + b.size) (b.size + 8)).data.toList = (X.data.toList).drop (4 + b.size) := by
    rw [extract_list]; exact List.take_of_length_le (by rw [List.length_drop, len_list]; omega)
  have hbody : ((strOfNums (le4 b.size)).data.toList ++ b.data.toList).length = 4 + b.size := by rw [List.length_append, h4l, hbl]
  have hfl2 : (frameOf b).data.toList = ((strOfNums (le4 b.size)).data.toList ++ b.data.toList) ++ (strOfNums (le4 S)).data.toList := by rw [hfl, List.append_assoc]
  have hSb : nsum ((strOfNums (le4 b.size)).data.toList ++ b.data.toList) = S := by rw [← hS, list_append]
  simp only [Option.bind_some]
  by_cases hin : i < 4 + b.size
  · have e1 : X.data.toList = ((strOfNums (le4 b.size)).data.toList ++ b.data.toList).set i v ++ (strOfNums (le4 S)).data.toList := by
      rw [hX, hfl2, List.set_append_left _ _ (by rw [hbody]; exact hin)]
    have e2 : (X.extract (4 + b.size) (b.size + 8)).data.toList = (strOfNums (le4 S)).data.toList := by
      rw [x2, e1, List.drop_append_of_le_length (by rw [List.length_set, hbody]; omega), List.drop_of_length_le (by rw [List.length_set, hbody]; omega), List.nil_append]
    have e3 : (X.extract 0 (4 + b.size)).data.toList = ((strOfNums (le4 b.size)).data.toList ++ b.data.toList).set i v := by
      rw [x1, e1, List.take_append_of_le_length (by rw [List.length_set, hbody]; omega)]
      exact List.take_of_length_le (by rw [List.length_set, hbody]; omega)
    rw [e3, get_list _ _ _ _ _ [] (by rw [e2, list_le4])]
    simp only [Option.bind_some, UInt8.toNat_ofNat']
    have hne : nsum (((strOfNums (le4 b.size)).data.toList ++ b.data.toList).set i v) ≠ S := by
      rw [← hSb]
      generalize (strOfNums (le4 b.size)).data.toList ++ b.data.toList = B at *
      have hil : i < B.length := by omega
      have hBi : B = B.take i ++ B[i] :: B.drop (i + 1) := by
        conv => lhs; rw [← List.take_append_drop i B, List.drop_eq_getElem_cons hil]
      rw [set_list _ _ _ hil]
      intro e
      rw [show nsum B = nsum (B.take i ++ B[i] :: B.drop (i + 1)) from by rw [← hBi]] at e
      refine nsum_ne _ _ v B[i] (fun hh => ?_) e
      apply hv
      rw [hfl2, List.getElem?_append_left hil, List.getElem?_eq_getElem hil, hh]
    rw [if_neg (by omega)]
  · have e1 : X.data.toList = ((strOfNums (le4 b.size)).data.toList ++ b.data.toList) ++ ((strOfNums (le4 S)).data.toList).set (i - (4 + b.size)) v := by
      rw [hX, hfl2, List.set_append_right _ _ (by rw [hbody]; omega), hbody]
    have e2 : (X.extract (4 + b.size) (b.size + 8)).data.toList = ((strOfNums (le4 S)).data.toList).set (i - (4 + b.size)) v := by
      rw [x2, e1, List.drop_append_of_le_length (by rw [hbody]; omega), List.drop_of_length_le (by rw [hbody]; omega), List.nil_append]
    have e3 : (X.extract 0 (4 + b.size)).data.toList = (strOfNums (le4 b.size)).data.toList ++ b.data.toList := by
      rw [x1, e1, List.take_append_of_le_length (by rw [hbody]; omega)]
      exact List.take_of_length_le (by rw [hbody]; omega)
    have hvv : ((strOfNums (le4 S)).data.toList)[i - (4 + b.size)]? ≠ some v := by
      rw [hfl2, List.getElem?_append_right (by rw [hbody]; omega), hbody] at hv; exact hv
    rw [e3, hSb]
    rw [list_le4] at e2 hvv
    obtain ⟨j, hj⟩ : ∃ j, i - (4 + b.size) = j := ⟨_, rfl⟩
    rw [hj] at e2 hvv
    have hv8 := v.toNat_lt
    have hj4 : j = 0 ∨ j = 1 ∨ j = 2 ∨ j = 3 := by omega
    have un : ∀ m : Nat, some (UInt8.ofNat m) ≠ some v → m < 256 → v.toNat ≠ m := by
      intro m hm hl e
      apply hm
      rw [← e]; simp
    rcases hj4 with rfl | rfl | rfl | rfl
    · have := un (S % 256) (by simpa using hvv) (by omega)
      rw [get_list _ _ _ _ _ [] (by rw [e2]; rfl)]
      simp only [Option.bind_some, UInt8.toNat_ofNat']
      rw [if_neg (by omega)]
    · have := un (S / 256 % 256) (by simpa using hvv) (by omega)
      rw [get_list _ _ _ _ _ [] (by rw [e2]; rfl)]
      simp only [Option.bind_some, UInt8.toNat_ofNat']
      rw [if_neg (by omega)]
    · have := un (S / 65536 % 256) (by simpa using hvv) (by omega)
      rw [get_list _ _ _ _ _ [] (by rw [e2]; rfl)]
      simp only [Option.bind_some, UInt8.toNat_ofNat']
      rw [if_neg (by omega)]
    · have := un (S / 16777216 % 256) (by simpa using hvv) (by omega)
      rw [get_list _ _ _ _ _ [] (by rw [e2]; rfl)]
      simp only [Option.bind_some, UInt8.toNat_ofNat']
      rw [if_neg (by omega)]
theorem works_ok : hopperlaw06_works.f = some true := by decide +kernel
theorem xor_self_ne {a y : Nat} (hy : y ≠ 0) : a ^^^ y ≠ a := by
  intro e
  apply hy
  have := congrArg (a ^^^ ·) e
  simpa [← Nat.xor_assoc] using this
theorem torn_bytes (b : ByteArray) (hb : b.size ≤ 65536) (d : Nat) (hd : d + 4 < (frameOf b).size) (y : Nat) (hy : y ≠ 0) (hy2 : y < 256) :
    frame_Unframe.f (strOfNums ((bytesOf (frameOf b)).set (4 + d) (Go.bits .xor .u8 (bt (frameOf b) (4 + (d : Int))) (y : Int)))) 0 = some (⟨#[]⟩, 0, 0, 60) := by
  have hi : 4 + d < (frameOf b).size := by omega
  have hil : 4 + d < (frameOf b).data.toList.length := by rw [len_list]; exact hi
  have hbt : bt (frameOf b) (4 + (d : Int)) = (((frameOf b).data.toList[4 + d]).toNat : Int) := by
    have := bt_of_list (s := frameOf b) (j := 4 + d) (u := (frameOf b).data.toList[4 + d]) (List.getElem?_eq_getElem hil)
    rw [← this]; congr 1
  have h8 := ((frameOf b).data.toList[4 + d]).toNat_lt
  rw [hbt]
  generalize hu : (frameOf b).data.toList[4 + d] = u at *
  rw [xor8_nat _ _ (by omega) (by omega)]
  have hxl : u.toNat ^^^ y < 256 := Nat.xor_lt_two_pow (n := 8) (by omega) (by omega)
  refine torn_frame b _ hb (4 + d) (UInt8.ofNat (u.toNat ^^^ y)) (by omega) hi ?_ ?_
  · unfold strOfNums bytesOf
    simp only [List.map_set, List.map_map, Int.toNat_natCast]
    congr 1
    conv => rhs; rw [← List.map_id (frameOf b).data.toList]
    refine List.map_congr_left fun x _ => ?_
    simp
  · rw [List.getElem?_eq_getElem hil, hu]
    intro e
    have e2 := congrArg UInt8.toNat (Option.some.inj e)
    rw [UInt8.toNat_ofNat', Nat.mod_eq_of_lt (by omega)] at e2
    exact xor_self_ne hy e2.symm
theorem torn_all (b : ByteArray) (t y : Int) (W : World) (hy : (Lit.int .u8 y).wf = true) :
    Calls Try.prog 12 #[.string b, .int .i64 t, .int .u8 y] W fun e W' => e = .returned (.bool true) ∧ Below W.heap.size W W' := by
  have hy' : 0 ≤ y ∧ y ≤ 255 := by simp [Lit.wf, IntKind.min, IntKind.max, IntKind.bits, IntKind.signed] at hy; omega
  by_cases hb : b.size ≤ 65536
  · have hF := size_frame b
    have hf : frame_Frame.f b = some (frameOf b, 0) := by rw [frame_eq, if_neg (by omega)]
    have hu0 : 0 ≤ IntKind.u64.wrap t := by rw [IntKind.wrap_u64]; omega
    have hc : ∃ c : Nat, wrap64 ((IntKind.u64.wrap t).tmod ((frameOf b).size : Int)) = (c : Int) ∧ c < (frameOf b).size := by
      rw [Int.tmod_eq_emod_of_nonneg hu0]
      have h1 := Int.emod_nonneg (IntKind.u64.wrap t) (b := ((frameOf b).size : Int)) (by omega)
      have h2 := Int.emod_lt_of_pos (IntKind.u64.wrap t) (b := ((frameOf b).size : Int)) (by omega)
      refine ⟨((IntKind.u64.wrap t) % ((frameOf b).size : Int)).toNat, ?_, by omega⟩
      generalize (IntKind.u64.wrap t) % ((frameOf b).size : Int) = m at *
      unfold wrap64; omega
    have hd : ∃ d : Nat, wrap64 ((IntKind.u64.wrap t).tmod (((frameOf b).size : Int) - 4)) = (d : Int) ∧ d + 4 < (frameOf b).size := by
      rw [Int.tmod_eq_emod_of_nonneg hu0]
      have h1 := Int.emod_nonneg (IntKind.u64.wrap t) (b := ((frameOf b).size : Int) - 4) (by omega)
      have h2 := Int.emod_lt_of_pos (IntKind.u64.wrap t) (b := ((frameOf b).size : Int) - 4) (by omega)
      refine ⟨((IntKind.u64.wrap t) % (((frameOf b).size : Int) - 4)).toNat, ?_, by omega⟩
      generalize (IntKind.u64.wrap t) % (((frameOf b).size : Int) - 4) = m at *
      unfold wrap64; omega
    obtain ⟨c, hc1, hc2⟩ := hc
    obtain ⟨d, hd1, hd2⟩ := hd
    by_cases h0 : y = 0
    · subst h0
      exact torn_walk0 b (frameOf b) t c d W works_ok hf (by omega) (by omega) hc1 hc2 hd1 hd2 (short_frame b hb c hc2) (torn_bytes b hb d hd2 1 (by decide) (by decide))
    · obtain ⟨m, rfl⟩ := Int.eq_ofNat_of_zero_le hy'.1
      exact torn_walk b (frameOf b) t m c d W works_ok hf (by omega) (by omega) hc1 hc2 hd1 hd2 (beq_eq_false_iff_ne.2 h0) (short_frame b hb c hc2) (torn_bytes b hb d hd2 m (by omega) (by omega))
  · exact torn_long b t y W works_ok (by rw [frame_eq, if_pos (by omega)])
end Go.Proofs.Ytmfbmagbpceomaa.Pure
