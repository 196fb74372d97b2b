import Derived.Test.YtjehbnhjaogfkaaSc16
namespace Go.Proofs.Ytjehbnhjaogfkaa.Sc
open Go.RowKit Go.Lib Go.Proofs.YtjehbnhjaogfkaaW.PrintWords Go.Proofs.YtjehbnhjaogfkaaW.PrintLast Go.Proofs.YtjehbnhjaogfkaaW.PrintMore
open Go.Proofs.Ytjehbnhjaogfkaa
set_option linter.unusedVariables false
set_option linter.unusedSimpArgs false
/-- A row of texts that can be read. -/
def SAt (W : World) (A : Option Addr) (l : List ByteArray) : Prop := l.length ≤ maxLen ∧ ∀ j (h : j < l.length), ∃ ad, A = some ad ∧ W.cell? (ad.add j) = some (.string l[j])
theorem SAt.below {W W1 : World} {A : Option Addr} {l : List ByteArray} (h : SAt W A l) (hb : Below W.heap.size W W1) : SAt W1 A l :=
  ⟨h.1, fun j hj => by obtain ⟨ad, e, hc⟩ := h.2 j hj; exact ⟨ad, e, cell_below hb hc⟩⟩
theorem sAt_own {W : World} {base n : Nat} {v : Value} {l : List ByteArray} (h : W.ownsRow base 9 1 v n (l.map Value.string)) : ∃ A c, v = .slice A l.length c ∧ n = l.length ∧ SAt W A l := by
  have hn : l.length = n := by have := h.1; rw [List.length_map] at this; omega
  subst hn
  rcases h.2 with ⟨rfl, h0⟩ | ⟨g', cap, cur, rfl, -, -, h1, h2, -⟩
  · have e : l = [] := List.length_eq_zero_iff.1 h0
    subst e
    exact ⟨none, 0, rfl, rfl, by unfold maxLen; simp, fun j hj => absurd hj (by simp)⟩
  · exact ⟨_, cap, rfl, rfl, Nat.le_trans h1 h2, fun j hj => ⟨_, rfl, h.cells (g := g') rfl j _ (by rw [List.getElem?_map, List.getElem?_eq_getElem hj]; rfl)⟩⟩
set_option maxRecDepth 100000 in
set_option maxHeartbeats 4000000 in
/-- Two slices of the same texts are the same. -/
theorem sameT_walk (W : World) (A B : Option Addr) (l : List ByteArray) (c c' : Nat) (hA : SAt W A l) (hB : SAt W B l) :
    Calls Try.prog 12 #[.slice A l.length c, .slice B l.length c'] W fun e W' => e = .returned (.bool true) ∧ Below W.heap.size W W' := by
  have HA := Aside0.mk hA
  have HB := Aside0.mk hB
  have hlm : l.length ≤ 9223372036854775807 := by have := hA.1; unfold maxLen at this; omega
  clear hA hB
  go_enter Try.func12, Try.ntmps12
  go_wp2
  go_loopg [5] (l.length + 1) (fun kq v5 w' => ∃ j : Nat, v5 = .int .i64 (j : Int) ∧ Aside0 (j + kq = l.length + 1 ∧ j ≤ l.length) ∧ Aside0 (Below W.heap.size W w'))
  case atStart => exact ⟨0, rfl, ⟨by omega, Nat.zero_le _⟩, ⟨Below.refl _ _⟩⟩
  case round =>
    obtain ⟨j, rfl, HJ, HBl⟩ := hrel
    obtain ⟨j1, j2⟩ := HJ.out
    by_cases hj : j < l.length
    · obtain ⟨kq1, rfl⟩ : ∃ kq1, gk = kq1 + 1 := ⟨gk - 1, by omega⟩
      have hjj : (j : Int) < (l.length : Int) := by omega
      obtain ⟨ad, rfl, hc1⟩ := (HA.out.below HBl.out).2 j hj
      obtain ⟨ad2, rfl, hc2⟩ := (HB.out.below HBl.out).2 j hj
      go_wp2_with fail
      go_quiet (fail)
      go_wp2_with fail
      go_roundg kq1
      case measure => omega
      case rel => exact ⟨j + 1, by go_num, ⟨by omega, by omega⟩, ⟨pw_below_drewN HBl.out _⟩⟩
    · have hjj : ¬ (j : Int) < (l.length : Int) := by omega
      go_wp2
      go_ret
      exact ⟨rfl, HBl.out⟩
end Go.Proofs.Ytjehbnhjaogfkaa.Sc
