import Derived.Test.YtjehbnhjaogfkaaSc0
import Derived.Lib.ConvBytes
namespace Go.Proofs.Ytjehbnhjaogfkaa.Sc
open Go.RowKit Go.Lib Go.Proofs.YtjehbnhjaogfkaaW.PrintWords Go.Proofs.YtjehbnhjaogfkaaW.PrintLast Go.Proofs.YtjehbnhjaogfkaaW.PrintMore
open Go.Proofs.Ytjehbnhjaogfkaa
set_option linter.unusedVariables false
set_option linter.unusedSimpArgs false
/-- The bytes of s lie at block g. -/
def BytesAt (W : World) (g : Nat) (s : ByteArray) : Prop := g < W.heap.size ∧ ∀ j, j < s.size → W.cell? ⟨g, j, none⟩ = some (.int .u8 ((s.data.toList.getD j 0).toNat : Int))
theorem BytesAt.below {W W1 : World} {g : Nat} {s : ByteArray} (h : BytesAt W g s) (hb : Below W.heap.size W W1) : BytesAt W1 g s :=
  ⟨Nat.lt_of_lt_of_le h.1 hb.size, fun j hj => (hb.cell (p := ⟨g, j, none⟩) h.1).trans (h.2 j hj)⟩
/-- '[]byte(s)' at the operation. -/
theorem step_conv {ops : Array Oper} {rest : List Oper} {o : Oper} {a : Act} {Q : Exit → Act → World → Prop} {W : World} (hgd : o.guard = none) (x : Operand) (ho : o.op = .convert 9 74 x) (s : ByteArray) (hx : a.eval x = .string s) (hsz : s.size ≤ maxLen)
    (h : ∀ (W1 : World) (cap : Nat), Below W.heap.size W W1 → BytesAt W1 W.heap.size s → s.size ≤ cap → wpList Try.prog ops Q rest (a.put o.dst (.slice (some ⟨W.heap.size, 0, none⟩) s.size cap)) W1) : wpList Try.prog ops Q (o :: rest) a W := by
  refine Kd.event_run hgd (v := .slice (some ⟨W.heap.size, 0, none⟩) s.size (grownCap W s.size 0 5)) (w1 := Lib.bytesWorld W 5 s) ?_ (h _ _ (bytes_below (Below.refl _ _) (Nat.le_refl _) 5 s) ⟨by rw [bytesWorld_size]; omega, fun j hj => bytesWorld_cell W 5 s j hj⟩ ?_)
  · simp [execOp, ho, hx, print_bytes 9 74 5 Try.underlying9 Try.underlying74 Try.underlying5 s W]
  · exact grownCap_ge W s.size 0 5
theorem nm1_walk (c : UInt8) (w : World) : Calls Try.prog 62 #[.int .u8 (c.toNat : Int)] w fun e w' => e = .returned (.bool (!nmC c)) ∧ w = w' := by
  have e : nmC c = (decide (97 ≤ (c.toNat : Int)) && decide ((c.toNat : Int) ≤ 122) || decide (48 ≤ (c.toNat : Int)) && decide ((c.toNat : Int) ≤ 57)) := by
    unfold nmC
    have e1 : (97 : UInt8).toNat = 97 := rfl
    have e2 : (122 : UInt8).toNat = 122 := rfl
    have e3 : (48 : UInt8).toNat = 48 := rfl
    have e4 : (57 : UInt8).toNat = 57 := rfl
    simp only [UInt8.le_iff_toNat_le, e1, e2, e3, e4]
    rw [Bool.eq_iff_iff]
    simp
    omega
  have hc := UInt8.toNat_lt c
  have h0 : (0 : Int) ≤ (c.toNat : Int) := by omega
  have h1 : (c.toNat : Int) < 256 := by omega
  rw [e]
  generalize (c.toNat : Int) = x at h0 h1
  clear e hc
  by_cases q1 : x < 97
  · by_cases q2 : x < 48
    · have e1 : (decide (97 ≤ x) && decide (x ≤ 122) || decide (48 ≤ x) && decide (x ≤ 57)) = false := by simp; omega
      rw [e1]
      go_enter Try.func62, Try.ntmps62
      go_wp2
      go_ret
      exact ⟨rfl, rfl⟩
    · by_cases q3 : 57 < x
      · have e1 : (decide (97 ≤ x) && decide (x ≤ 122) || decide (48 ≤ x) && decide (x ≤ 57)) = false := by simp; omega
        rw [e1]
        go_enter Try.func62, Try.ntmps62
        go_wp2
        go_ret
        exact ⟨rfl, rfl⟩
      · have e1 : (decide (97 ≤ x) && decide (x ≤ 122) || decide (48 ≤ x) && decide (x ≤ 57)) = true := by simp; omega
        rw [e1]
        go_enter Try.func62, Try.ntmps62
        go_wp2
        go_ret
        exact ⟨rfl, rfl⟩
  · by_cases q2 : 122 < x
    · have e1 : (decide (97 ≤ x) && decide (x ≤ 122) || decide (48 ≤ x) && decide (x ≤ 57)) = false := by simp; omega
      have q3 : 57 < x := by omega
      have q4 : ¬ x < 48 := by omega
      rw [e1]
      go_enter Try.func62, Try.ntmps62
      go_wp2
      go_ret
      exact ⟨rfl, rfl⟩
    · have e1 : (decide (97 ≤ x) && decide (x ≤ 122) || decide (48 ≤ x) && decide (x ≤ 57)) = true := by simp; omega
      rw [e1]
      go_enter Try.func62, Try.ntmps62
      go_wp2
      go_ret
      exact ⟨rfl, rfl⟩
def idxP (l : List UInt8) : Int := match l.findIdx? (fun c => !nmC c) with | some k => (k : Int) | none => -1
theorem idx_some {l : List UInt8} {j : Nat} (hj : j < l.length) (h1 : ∀ i (hi : i < l.length), i < j → nmC l[i] = true) (h2 : nmC l[j] = false) : idxP l = (j : Int) := by
  have : l.findIdx? (fun c => !nmC c) = some j := by
    rw [List.findIdx?_eq_some_iff_getElem]
    refine ⟨hj, by simp [h2], fun i hi => ?_⟩
    simp [h1 i (by omega) hi]
  unfold idxP
  rw [this]
theorem idx_none {l : List UInt8} (h1 : ∀ i (hi : i < l.length), nmC l[i] = true) : idxP l = -1 := by
  have : l.findIdx? (fun c => !nmC c) = none := by
    rw [List.findIdx?_eq_none_iff]
    intro x hx
    obtain ⟨i, hi, rfl⟩ := List.mem_iff_getElem.1 hx
    simp [h1 i hi]
  unfold idxP
  rw [this]
theorem idx_neg (l : List UInt8) : (decide (0 ≤ idxP l)) = !(l.all nmC) := by
  unfold idxP
  cases h : l.findIdx? (fun c => !nmC c) with
  | none =>
    rw [List.findIdx?_eq_none_iff] at h
    have : l.all nmC = true := by
      rw [List.all_eq_true]
      intro x hx
      simpa using h x hx
    rw [this]
    rfl
  | some k =>
    rw [List.findIdx?_eq_some_iff_getElem] at h
    obtain ⟨hk, h2, _⟩ := h
    have : l.all nmC = false := by
      rw [List.all_eq_false]
      exact ⟨_, List.getElem_mem hk, by simpa using h2⟩
    rw [this]
    simp
theorem idxP_le (l : List UInt8) : -1 ≤ idxP l ∧ idxP l ≤ l.length := by
  unfold idxP
  cases h : l.findIdx? (fun c => !nmC c) with
  | none => exact ⟨Int.le_refl _, by show (-1 : Int) ≤ _; omega⟩
  | some k =>
    rw [List.findIdx?_eq_some_iff_getElem] at h
    obtain ⟨hk, _⟩ := h
    exact ⟨by show (-1 : Int) ≤ (k : Int); omega, by show (k : Int) ≤ _; omega⟩
set_option maxRecDepth 100000 in
set_option maxHeartbeats 2000000 in
theorem index_walk (W : World) (g cap : Nat) (s : ByteArray) (h : BytesAt W g s) (hs : s.size ≤ 100) (hc : s.size ≤ cap) :
    Calls Try.prog 81 #[.slice (some ⟨g, 0, none⟩) s.size cap, .func (.func 62) #[] #[]] W fun e w' => e = .returned (.int .i64 (idxP s.data.toList)) ∧ W = w' := by
  have HB := Aside0.mk h
  have hl : s.data.toList.length = s.size := by rw [Array.length_toList]; rfl
  have HL := Aside0.mk hl
  clear h hl
  go_enter Try.func81, Try.ntmps81
  go_wp2_with fail
  go_loopg [8] (s.size + 1) (fun kq v8 w' => ∃ j : Nat, v8 = .int .i64 (j : Int) ∧ Aside0 (j + kq = s.size + 1 ∧ j ≤ s.size ∧ ∀ i (hi : i < s.data.toList.length), i < j → nmC s.data.toList[i] = true) ∧ w' = W)
  case atStart => exact ⟨0, rfl, ⟨by omega, Nat.zero_le _, fun i hi h => absurd h (Nat.not_lt_zero _)⟩, rfl⟩
  case round =>
    obtain ⟨j, rfl, HJ, rfl⟩ := hrel
    by_cases hj : j < s.size
    · obtain ⟨kq1, rfl⟩ : ∃ kq1, gk = kq1 + 1 := ⟨gk - 1, by have := HJ.out; omega⟩
      have hji : (j : Int) < (s.size : Int) := by omega
      have hjl : j < s.data.toList.length := by rw [HL.out]; exact hj
      have x0 := HB.out.2 j hj
      have e0 : s.data.toList.getD j 0 = s.data.toList[j] := by rw [List.getD_eq_getElem?_getD, List.getElem?_eq_getElem hjl]; rfl
      rw [e0] at x0
      have HJl := Aside0.mk hjl
      obtain ⟨c, hcc⟩ : ∃ c, s.data.toList[j] = c := ⟨_, rfl⟩
      rw [hcc] at x0
      have HC := Aside0.mk hcc
      have HHj := Aside0.mk hj
      clear e0 hcc
      cases hb : nmC c with
      | true =>
        have HBb := Aside0.mk hb
        clear hb
        go_wp2_with fail
        refine (nm1_walk c wr).mono ?_
        rw [HBb.out]
        rintro e w1 ⟨rfl, rfl⟩
        go_wp2_with fail
        go_roundg kq1
        case measure => have := HJ.out; omega
        case rel =>
          refine ⟨j + 1, by go_num, ⟨by have := HJ.out.1; omega, by have := HHj.out; omega, fun i hi hij => ?_⟩, rfl⟩
          by_cases he : i = j
          · subst he
            rw [HC.out]
            exact HBb.out
          · exact HJ.out.2.2 i hi (by omega)
      | false =>
        have HE := Aside0.mk (idx_some hjl HJ.out.2.2 (by rw [HC.out]; exact hb))
        have HBb := Aside0.mk hb
        clear hb
        go_wp2_with fail
        refine (nm1_walk c wr).mono ?_
        rw [HBb.out]
        rintro e w1 ⟨rfl, rfl⟩
        go_wp2_with fail
        go_ret
        rw [HE.out]
        exact ⟨rfl, rfl⟩
    · have hji : ¬ (j : Int) < (s.size : Int) := by omega
      have HE := Aside0.mk (idx_none (l := s.data.toList) fun i hi => HJ.out.2.2 i hi (by rw [HL.out] at hi; omega))
      go_wp2
      go_ret
      rw [HE.out]
      exact ⟨rfl, rfl⟩
theorem contains_walk (W : World) (g cap : Nat) (s : ByteArray) (h : BytesAt W g s) (hs : s.size ≤ 100) (hc : s.size ≤ cap) :
    Calls Try.prog 61 #[.slice (some ⟨g, 0, none⟩) s.size cap, .func (.func 62) #[] #[]] W fun e w' => e = .returned (.bool (!(s.data.toList.all nmC))) ∧ W = w' := by
  have HB := Aside0.mk h
  have HI := Aside0.mk (idx_neg s.data.toList)
  obtain ⟨k, hk⟩ : ∃ k, idxP s.data.toList = k := ⟨_, rfl⟩
  rw [hk] at HI
  have HK := Aside0.mk hk
  clear h hk
  go_enter Try.func61, Try.ntmps61
  go_wp2_with fail
  refine (index_walk W g cap s HB.out hs hc).mono ?_
  rw [HK.out]
  rintro e w1 ⟨rfl, rfl⟩
  go_wp2
  go_ret
  rw [← HI.out]
  exact ⟨rfl, rfl⟩
/-- May a name be? -/
theorem named_walk (s : ByteArray) (W : World) (hs : s.size ≤ 9223372036854775807) : Calls Try.prog 37 #[.string s] W fun e w' => e = .returned (.bool (nmOk s)) ∧ Below W.heap.size W w' := by
  by_cases h0 : s.data.toList = []
  · have e1 : nmOk s = false := by unfold nmOk; rw [h0]; rfl
    have e2 : s.toList = [] := by rw [ByteArray.toList_eq]; exact h0
    rw [e1]
    have e3 : s.toList.isEmpty = true := by rw [e2]; rfl
    clear h0 e1
    go_enter Try.func37, Try.ntmps37
    go_wp2
    go_ret
    exact ⟨rfl, Below.refl _ _⟩
  · have e2 : ¬ s.toList = [] := by rw [ByteArray.toList_eq]; exact h0
    have e3 : s.toList.isEmpty = false := by simpa using e2
    have e4 : s.data.toList.isEmpty = false := by simpa using h0
    by_cases h1 : 32 < s.size
    · have e1 : nmOk s = false := by unfold nmOk; rw [e4, decide_eq_false (by omega)]; rfl
      have h1' : (32 : Int) < (s.size : Int) := by omega
      rw [e1]
      clear h0 e1 e4 h1
      go_enter Try.func37, Try.ntmps37
      go_wp2
      go_ret
      exact ⟨rfl, Below.refl _ _⟩
    · have e1 : nmOk s = s.data.toList.all nmC := by unfold nmOk; rw [e4, decide_eq_true (by omega)]; rfl
      have h1' : ¬ (32 : Int) < (s.size : Int) := by omega
      rw [e1]
      clear h0 e1 e4
      go_enter Try.func37, Try.ntmps37
      go_wp2_with ((with_reducible refine gate_dst (N := 11) rfl ?_); refine step_conv rfl (.tmp 10) rfl s rfl (by unfold maxLen; omega) ?_; intro w1 cap hB hA hcap; have HB := Aside0.mk hB; have HA := Aside0.mk hA; have HC := Aside0.mk hcap; clear hB hA hcap)
      refine (contains_walk w1 W.heap.size cap s HA.out (by omega) HC.out).mono ?_
      rintro e w2 ⟨rfl, rfl⟩
      go_wp2
      go_ret
      exact ⟨by simp, HB.out⟩
end Go.Proofs.Ytjehbnhjaogfkaa.Sc
