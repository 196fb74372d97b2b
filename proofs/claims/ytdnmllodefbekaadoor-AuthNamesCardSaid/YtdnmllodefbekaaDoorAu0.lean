import Derived.Test.YtdnmllodefbekaaDoorFM
import Derived.Test.YtdnmllodefbekaaDoorLay
import Derived.Test.YtdnmllodefbekaaDoorSha13
import Derived.Maps.OwnSet
import Derived.BigQuiet
import Derived.StillTailTactics
import Derived.Carry
import Derived.Lib.Hide
namespace Go.Proofs.YtdnmllodefbekaaDoor.Au
open Go.RowKit Go.Lib Go.Shelf Go.Proofs.YtdnmllodefbekaaDoor.Sha Go.Proofs.YtdnmllodefbekaaDoorW.PrintWords Go.Proofs.YtdnmllodefbekaaDoorW.PrintLast Go.Proofs.YtdnmllodefbekaaDoorW.PrintMore
set_option linter.unusedVariables false
set_option linter.unusedSimpArgs false
/-- The bytes that a name may have. -/
def cutB : ByteArray := ⟨#[97, 98, 99, 100, 101, 102, 103, 104, 105, 106, 107, 108, 109, 110, 111, 112, 113, 114, 115, 116, 117, 118, 119, 120, 121, 122, 48, 49, 50, 51, 52, 53, 54, 55, 56, 57, 46]⟩
def nameOk (s : ByteArray) : Bool := !s.data.toList.isEmpty && decide (s.size ≤ 32) && (trimS s.data.toList cutB.data.toList).isEmpty
theorem may_empty (w : World) : Calls Tryd.prog 49 #[.string ⟨#[]⟩] w fun e w' => e = .returned (.bool false) ∧ Below w.heap.size w w' := by
  go_enter Tryd.func49, Tryd.ntmps49
  go_wp2
  go_ret
  exact ⟨rfl, Below.refl _ _⟩
theorem trim_walk (s : ByteArray) (w : World) (hs : s.size ≤ maxLen) : Calls Tryd.prog 60 #[.string s, .string cutB] w fun e w' => e = .returned (.string ⟨(trimS s.data.toList cutB.data.toList).toArray⟩) ∧ Below w.heap.size w w' :=
  Any.strings_Trim_laid Tryd.trim60 (by kernel_rfl) s cutB w (by unfold maxLen at hs; omega) (by decide) (ascii_of_all (by decide))
set_option maxHeartbeats 1000000 in
theorem may_walk (s : ByteArray) (w : World) (hs : s.size ≤ maxLen) : Calls Tryd.prog 49 #[.string s] w fun e w' => e = .returned (.bool (nameOk s)) ∧ Below w.heap.size w w' := by
  by_cases h0 : s.data.toList = []
  · have : s = ⟨#[]⟩ := ByteArray.ext (by rw [← Array.toList_inj, h0])
    subst this
    exact may_empty w
  · have hz : 0 < s.size := by
      have := List.length_pos_iff.2 h0
      rw [Array.length_toList] at this
      exact this
    have h0' : s.toList.isEmpty = false := by rw [ByteArray.toList_eq]; simpa using h0
    by_cases h1 : 32 < s.size
    · have hN : nameOk s = false := by unfold nameOk; simp; omega
      rw [hN]
      have h1' : (32 : Int) < (s.size : Int) := by omega
      clear hN
      go_enter Tryd.func49, Tryd.ntmps49
      go_wp2
      go_ret
      exact ⟨rfl, Below.refl _ _⟩
    · have h1' : (s.size : Int) ≤ 32 := by omega
      rw [show nameOk s = (trimS s.data.toList cutB.data.toList).isEmpty from by
        unfold nameOk
        have e1 : s.data.toList.isEmpty = false := by simpa using h0
        have e2 : decide (s.size ≤ 32) = true := decide_eq_true (by omega)
        rw [e1, e2]; rfl]
      have HT := Aside0.mk (trim_walk s w hs)
      generalize trimS s.data.toList cutB.data.toList = T at HT ⊢
      clear h0
      go_enter Tryd.func49, Tryd.ntmps49
      cases T with
      | nil =>
        go_wp2_with fail
        refine HT.out.mono ?_
        rintro e w1 ⟨rfl, hB⟩
        have HB := Aside0.mk hB
        clear hB HT
        go_wp2
        go_ret
        exact ⟨rfl, HB.out⟩
      | cons x l =>
        have hx : (⟨(x :: l).toArray⟩ : ByteArray).toList ≠ [] := by rw [ByteArray.toList_eq]; simp
        have HX := Aside0.mk hx
        generalize (⟨(x :: l).toArray⟩ : ByteArray) = r at HT HX
        clear hx
        go_wp2_with fail
        refine HT.out.mono ?_
        rintro e w1 ⟨rfl, hB⟩
        have HB := Aside0.mk hB
        have hx := HX.out
        clear hB HT
        go_wp2
        go_ret
        exact ⟨by simpa using hx, HB.out⟩
end Go.Proofs.YtdnmllodefbekaaDoor.Au
