import Derived.Test.YtjkllbilfcopmaaProg
import Derived.Test.YtjkllbilfcopmaaDiskPure
import Derived.Test.YtjkllbilfcopmaaWMore
import Derived.LoopTactic
import Derived.WalkMore
import Derived.Lib.Hide
import Derived.WalkSpells
import Derived.WalkKit
import Derived.KernelRfl
import Derived.RowKit3
import Derived.Outline
namespace Go.Proofs.Ytjkllbilfcopmaa.Dk
open Go.RowKit Go.Proofs.YtjkllbilfcopmaaW.PrintWords Go.Proofs.YtjkllbilfcopmaaW.PrintLast Go.Proofs.YtjkllbilfcopmaaW.PrintMore
set_option linter.unusedVariables false
set_option linter.unusedSimpArgs false
theorem nameC_yes {c : UInt8} (h : (97 ≤ (c.toNat : Int) ∧ (c.toNat : Int) ≤ 122) ∨ (48 ≤ (c.toNat : Int) ∧ (c.toNat : Int) ≤ 57) ∨ (c.toNat : Int) = 46) : nameC c = true := by
  unfold nameC
  simp only [Bool.or_eq_true, Bool.and_eq_true, decide_eq_true_eq, beq_iff_eq, UInt8.le_iff_toNat_le, ← UInt8.toNat_inj]
  have e1 : (97 : UInt8).toNat = 97 := rfl
  have e2 : (122 : UInt8).toNat = 122 := rfl
  have e3 : (48 : UInt8).toNat = 48 := rfl
  have e4 : (57 : UInt8).toNat = 57 := rfl
  have e5 : (46 : UInt8).toNat = 46 := rfl
  omega
theorem nameC_no {c : UInt8} (h : ¬ ((97 ≤ (c.toNat : Int) ∧ (c.toNat : Int) ≤ 122) ∨ (48 ≤ (c.toNat : Int) ∧ (c.toNat : Int) ≤ 57) ∨ (c.toNat : Int) = 46)) : nameC c = false := by
  rw [Bool.eq_false_iff]
  intro hc
  apply h
  unfold nameC at hc
  simp only [Bool.or_eq_true, Bool.and_eq_true, decide_eq_true_eq, beq_iff_eq, UInt8.le_iff_toNat_le, ← UInt8.toNat_inj] at hc
  have e1 : (97 : UInt8).toNat = 97 := rfl
  have e2 : (122 : UInt8).toNat = 122 := rfl
  have e3 : (48 : UInt8).toNat = 48 := rfl
  have e4 : (57 : UInt8).toNat = 57 := rfl
  have e5 : (46 : UInt8).toNat = 46 := rfl
  omega
theorem all_no {l : List UInt8} {k : Nat} {m : List UInt8} {c : UInt8} (h : l.take (k + 1) = m ++ [c]) (hc : nameC c = false) : l.all nameC = false := by
  rw [List.all_eq_false]
  refine ⟨c, ?_, by simp [hc]⟩
  have : c ∈ l.take (k + 1) := by rw [h]; simp
  exact List.mem_of_mem_take this
theorem may_empty (w : World) : Calls Try.prog 24 #[.string ByteArray.empty] w fun e w' => e = .returned (.bool false) ∧ w = w' := by
  go_enter Try.func24, Try.ntmps24
  go_wp2
  go_ret
  exact ⟨rfl, rfl⟩
set_option maxHeartbeats 1000000 in
theorem may_walk (s : ByteArray) (w : World) (hs : s.size ≤ maxLen) : Calls Try.prog 24 #[.string s] w fun e w' => e = .returned (.bool (nameOk s)) ∧ w = w' := by
  unfold maxLen at hs
  by_cases h0 : s.data.toList = []
  · have : s = ByteArray.empty := ByteArray.ext (by rw [← Array.toList_inj, h0]; rfl)
    subst this
    exact may_empty w
  · have hz : 0 < s.size := by
      have := List.length_pos_iff.2 h0
      rw [Array.length_toList] at this
      exact this
    have h0' : s.toList.isEmpty = false := by rw [ByteArray.toList_eq]; simpa using h0
    go_enter Try.func24, Try.ntmps24
    by_cases h1 : 32 < s.size
    · have hN : nameOk s = false := by unfold nameOk; simp; omega
      rw [hN]
      have h1' : (32 : Int) < (s.size : Int) := by omega
      clear hN
      go_wp2
      go_ret
      exact ⟨rfl, rfl⟩
    · have h1' : (s.size : Int) ≤ 32 := by omega
      go_wp2_with fail
      have HN := Lib.hid (show nameOk s = s.data.toList.all nameC by
        unfold nameOk
        have e1 : s.data.toList.isEmpty = false := by simpa using h0
        have e2 : decide (s.size ≤ 32) = true := decide_eq_true (by omega)
        rw [e1, e2]; rfl)
      clear h0 h0'
      go_loop [3, 4, 14, 15, 16, 17, 18, 19, 20, 21, 22, 23, 24, 25, 26, 27, 28, 29, 30, 31, 32, 33, 34, 35] (fun _ _ i _ _ _ _ _ _ _ _ _ _ _ _ _ _ _ _ _ _ _ _ _ => ∃ k : Nat, k ≤ s.size ∧ i = .int .i64 k ∧ Hid ((s.data.toList.take k).all nameC = true)) (fun _ _ i _ _ _ _ _ _ _ _ _ _ _ _ _ _ _ _ _ _ _ _ _ => s.size - (intOf i).toNat)
      case atStart => exact ⟨0, Nat.zero_le _, rfl, Lib.hid rfl⟩
      case round =>
        obtain ⟨k, hk, rfl, HA⟩ := hrel
        by_cases hlt : k < s.size
        · have hts : s.data.toList.take (k + 1) = s.data.toList.take k ++ [s[k]] := by
            rw [List.take_succ_eq_append_getElem (by simpa using hlt)]; rfl
          have HT := Lib.hid hts
          clear hts
          go_wp2
          all_goals first
            | (refine ⟨⟨k + 1, by omega, by go_num, Lib.hid ?_⟩, by simp [intOf]; omega⟩
               rw [HT.out, List.all_append, HA.out, Bool.true_and, List.all_cons, List.all_nil, Bool.and_true]
               exact nameC_yes (by (try simp only [beq_iff_eq] at *); omega))
            | (go_ret
               refine ⟨?_, rfl⟩
               have hno := nameC_no (c := s[k]) (by (try simp only [beq_eq_false_iff_ne, ne_eq] at *); omega)
               rw [HN.out, all_no HT.out hno]
               rfl)
        · go_wp2
          go_ret
          refine ⟨?_, rfl⟩
          rw [HN.out]
          have := HA.out
          rw [List.take_of_length_le (by simp; omega)] at this
          rw [this]
          rfl
end Go.Proofs.Ytjkllbilfcopmaa.Dk
