import Derived.Test.YtmfbmagbpceomaaWirePure
import Derived.Test.YtmfbmagbpceomaaPWireBadx1
namespace Go.Proofs.Ytmfbmagbpceomaa.Wire
open Go.RowKit Go.Proofs.YtmfbmagbpceomaaW.PrintWords Go.Proofs.YtmfbmagbpceomaaW.PrintLast Go.Proofs.YtmfbmagbpceomaaW.PrintMore
set_option linter.unusedVariables false
set_option linter.unusedSimpArgs false
/-- The bodies that are taken: of the first n those that are not too long. -/
def taken (n m : Nat) (l : List ByteArray) : List ByteArray := (l.take n).filter fun s => decide (s.size ≤ m)
theorem taken_succ (m i : Nat) (l : List ByteArray) (h : i < l.length) : taken (i + 1) m l = if (l.getD i ByteArray.empty).size ≤ m then taken i m l ++ [l.getD i ByteArray.empty] else taken i m l := by
  unfold taken
  rw [List.take_succ_eq_append_getElem h, List.filter_append, List.getD_eq_getElem?_getD, List.getElem?_eq_getElem h]
  simp only [Option.getD_some, List.filter_cons, List.filter_nil]
  split <;> simp_all
theorem taken_len (n m : Nat) (l : List ByteArray) : (taken n m l).length ≤ n := by
  unfold taken
  exact Nat.le_trans (List.length_filter_le _ _) (by rw [List.length_take]; omega)
theorem taken_size (n m : Nat) (l : List ByteArray) : ∀ s ∈ taken n m l, s.size ≤ m := fun s hs => by
  unfold taken at hs
  simpa using (List.mem_filter.1 hs).2
theorem bytesOf_append (a b : ByteArray) : bytesOf (a ++ b) = bytesOf a ++ bytesOf b := by simp [bytesOf, ByteArray.data_append]
theorem encs_append (l : List ByteArray) (s : ByteArray) : encs (l ++ [s]) = encs l ++ encL s := by
  induction l with
  | nil => simp [encs]
  | cons x l ih => simp [encs, ih]
theorem encs_wsum (l : List ByteArray) : (encs l).length = wsum l := by
  induction l with
  | nil => rfl
  | cons x l ih => simp only [encs, wsum, List.length_append, encL_len, ih]
theorem wsum_bound (m : Nat) (l : List ByteArray) (h : ∀ s ∈ l, s.size ≤ m) : wsum l ≤ l.length * (4 + m) := by
  induction l with
  | nil => simp [wsum]
  | cons x l ih =>
    have h1 := h x (by simp)
    have h2 := ih fun s hs => h s (by simp [hs])
    simp only [wsum, List.length_cons, Nat.succ_mul]
    omega
theorem bytesOf_strOfNums (xs : List Int) (h : ∀ x ∈ xs, 0 ≤ x ∧ x < 256) : bytesOf (strOfNums xs) = xs := by
  unfold strOfNums bytesOf
  simp only [List.map_map]
  conv => rhs; rw [← List.map_id xs]
  refine List.map_congr_left fun x hx => ?_
  have := h x hx
  simp only [Function.comp_def, id]
  first | (simp [UInt8.toNat_ofNat]; omega) | (simp; omega)
theorem hd4_byte (n : Nat) : ∀ x ∈ hd4 n, 0 ≤ x ∧ x < 256 := fun x hx => by
  simp only [hd4, List.mem_cons, List.not_mem_nil, or_false] at hx
  rcases hx with rfl | rfl | rfl | rfl <;> omega
theorem hd4_int (n : Nat) (h : n < 4294967296) : ([((n : Int) / 16777216) % 256, ((n : Int) / 65536) % 256, ((n : Int) / 256) % 256, ((n : Int)) % 256] : List Int) = hd4 n := by
  unfold hd4
  congr 1 <;> omega
theorem packet_of (s : ByteArray) (h : s.size ≤ 65536) : PWireBad.wire_Packet.f s = some (strOfNums (hd4 s.size) ++ s, 0) := by
  unfold PWireBad.wire_Packet.f
  rw [if_neg (by omega), Option.bind_some, hd4_int _ (by omega), if_pos]
  rw [strOfNums_size, hd4_len]; omega
theorem bytesOf_packet (s : ByteArray) : bytesOf (strOfNums (hd4 s.size) ++ s) = encL s := by
  rw [bytesOf_append, bytesOf_strOfNums _ (hd4_byte _)]; rfl
theorem packet_size (s : ByteArray) : (strOfNums (hd4 s.size) ++ s).size = 4 + s.size := by
  rw [ByteArray.size_append, strOfNums_size, hd4_len]
theorem same_of (l : List ByteArray) (hl : l.length < 100000) : PWireBad.hopperbook_SameTexts.f 100000 l l = some true := by
  have loop : ∀ (d k i : Nat), i + d = l.length → d + 1 ≤ k → PWireBad.hopperbook_SameTexts.l0 k l l (i : Int) = some true := by
    intro d
    induction d with
    | zero => intro k i hi hk; obtain ⟨k, rfl⟩ : ∃ m, k = m + 1 := ⟨k - 1, by omega⟩; simp only [PWireBad.hopperbook_SameTexts.l0]; rw [if_neg (by omega)]
    | succ d ih =>
      intro k i hi hk
      obtain ⟨k, rfl⟩ : ∃ m, k = m + 1 := ⟨k - 1, by omega⟩
      simp only [PWireBad.hopperbook_SameTexts.l0]
      have hi1 : wrap64 ((i : Int) + 1) = ((i + 1 : Nat) : Int) := by unfold wrap64; omega
      rw [if_pos (by omega), if_pos (by omega), if_pos (by omega), if_true, hi1]
      exact ih _ _ (by omega) (by omega)
  unfold PWireBad.hopperbook_SameTexts.f
  rw [if_pos rfl]
  exact loop l.length 100000 0 (by omega) (by omega)
theorem same_calls (l : List ByteArray) (hl : l.length < 100000) (A B : Option Addr) (c d : Nat) (w : World) (h1 : Kd.C Kd.string w A l.length l) (hc : l.length ≤ c) (h2 : Kd.C Kd.string w B l.length l) (hd : l.length ≤ d) :
    Calls Try.prog 36 #[.slice A l.length c, .slice B l.length d] w fun e w' => e = .returned (.bool true) ∧ Drawn0 w w' :=
  PWireBad.hopperbook_SameTexts.calls 100000 A c l B d l true w h1 hc h2 hd (same_of l hl)
theorem packet_calls (s : ByteArray) (h : s.size ≤ 65536) (w : World) :
    Calls Try.prog 37 #[.string s] w fun e w' => e = .returned (.tuple #[.string (strOfNums (hd4 s.size) ++ s), .int .i64 0]) ∧ Below w.heap.size w w' :=
  PWireBad.wire_Packet.calls s _ _ w (packet_of s h)
end Go.Proofs.Ytmfbmagbpceomaa.Wire
