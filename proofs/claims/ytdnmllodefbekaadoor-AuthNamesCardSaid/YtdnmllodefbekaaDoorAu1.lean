import Derived.Test.YtdnmllodefbekaaDoorAu0
import Derived.Test.YtdnmllodefbekaaDoorSha6
namespace Go.Proofs.YtdnmllodefbekaaDoor.Au
open Go.RowKit Go.Lib Go.Shelf Go.Proofs.YtdnmllodefbekaaDoor.Sha Go.Proofs.YtdnmllodefbekaaDoorW.PrintWords Go.Proofs.YtdnmllodefbekaaDoorW.PrintLast Go.Proofs.YtdnmllodefbekaaDoorW.PrintMore
set_option linter.unusedVariables false
set_option linter.unusedSimpArgs false
def byteAt (n : Int) (i : Nat) : Int := n / 2 ^ (8 * i) % 256
def eightL (n : Int) (k : Nat) : List Int := (List.range 8).map fun i => if i < k then byteAt n i else 0
def eightS (n : Int) : ByteArray := strOfNums (eightL n 8)
theorem eightL_len (n : Int) (k : Nat) : (eightL n k).length = 8 := by simp [eightL]
theorem put_eight (n : Int) (t : Nat) (x : Int) (ht : t < 8) (hx : x = byteAt n t) : (nums .u8 (eightL n t)).toArray.setIfInBounds t (.int .u8 x) = (nums .u8 (eightL n (t + 1))).toArray := by
  subst hx
  unfold nums
  rw [List.setIfInBounds_toArray]
  congr 1
  apply List.ext_getElem (by simp [eightL])
  intro i h1 h2
  rw [List.getElem_set]
  split
  · rename_i e
    subst e
    simp [eightL]
  · rename_i e
    have : (i < t) ↔ (i < t + 1) := by omega
    simp [eightL, this]
set_option maxRecDepth 100000 in
set_option maxHeartbeats 4000000 in
theorem eight_walk (n : Int) (h0 : 0 ≤ n) (h1 : n < 18446744073709551616) (w : World) : Calls Tryd.prog 50 #[.int .u64 n] w fun e w' => e = .returned (.string (eightS n)) ∧ Below w.heap.size w w' := by
  have HN := Aside0.mk (And.intro h0 h1)
  clear h0 h1
  go_enter Tryd.func50, Tryd.ntmps50
  go_wp2_with fail
  have HW := Aside0.mk (show (w.alloc (.cells (nums .u8 (eightL n 0)).toArray 94)).heap[w.heap.size]? = some (.cells (nums .u8 (eightL n 0)).toArray 94 (0, 0)) ∧ Below w.heap.size w (w.alloc (.cells (nums .u8 (eightL n 0)).toArray 94)) from ⟨heap_alloc_new w _, below_alloc (Below.refl _ _) _⟩)
  go_loopg [5] 9 (fun kq v10 w' => ∃ t : Nat, v10 = .int .i64 (t : Int) ∧ Aside0 (t + kq = 9 ∧ t ≤ 8) ∧ Aside0 (w'.heap[w.heap.size]? = some (.cells (nums .u8 (eightL n t)).toArray 94 (0, 0)) ∧ Below w.heap.size w w'))
  case atStart => exact ⟨0, rfl, ⟨rfl, Nat.zero_le _⟩, HW⟩
  case round =>
    obtain ⟨t, rfl, HT, HV⟩ := hrel
    by_cases q1 : t < 8
    · obtain ⟨kq1, rfl⟩ : ∃ kq1, gk = kq1 + 1 := ⟨gk - 1, by have := HT.out; omega⟩
      have cz : ∀ i : Nat, i < 8 → _ := fun i hi => cell_nums HV.out.1 i (by rw [eightL_len]; exact hi)
      have fz := blk_frozen HV.out.1 t
      rcases (show t = 0 ∨ t = 1 ∨ t = 2 ∨ t = 3 ∨ t = 4 ∨ t = 5 ∨ t = 6 ∨ t = 7 by omega) with rfl | rfl | rfl | rfl | rfl | rfl | rfl | rfl
      · have cz := cz 0 (by omega)
        go_wp2
        go_roundg kq1
        case measure => omega
        case rel => exact ⟨1, rfl, ⟨by have := HT.out; omega, by omega⟩, ⟨blk_put HV.out.1 0 _ (put_eight n 0 _ (by decide) (by simp only [byteAt]; go_num)), below_set HV.out.2 (Nat.le_refl _)⟩⟩
      · have cz := cz 1 (by omega)
        go_wp2
        go_roundg kq1
        case measure => omega
        case rel => exact ⟨2, rfl, ⟨by have := HT.out; omega, by omega⟩, ⟨blk_put HV.out.1 1 _ (put_eight n 1 _ (by decide) (by simp only [byteAt]; go_num)), below_set HV.out.2 (Nat.le_refl _)⟩⟩
      · have cz := cz 2 (by omega)
        go_wp2
        go_roundg kq1
        case measure => omega
        case rel => exact ⟨3, rfl, ⟨by have := HT.out; omega, by omega⟩, ⟨blk_put HV.out.1 2 _ (put_eight n 2 _ (by decide) (by simp only [byteAt]; go_num)), below_set HV.out.2 (Nat.le_refl _)⟩⟩
      · have cz := cz 3 (by omega)
        go_wp2
        go_roundg kq1
        case measure => omega
        case rel => exact ⟨4, rfl, ⟨by have := HT.out; omega, by omega⟩, ⟨blk_put HV.out.1 3 _ (put_eight n 3 _ (by decide) (by simp only [byteAt]; go_num)), below_set HV.out.2 (Nat.le_refl _)⟩⟩
      · have cz := cz 4 (by omega)
        go_wp2
        go_roundg kq1
        case measure => omega
        case rel => exact ⟨5, rfl, ⟨by have := HT.out; omega, by omega⟩, ⟨blk_put HV.out.1 4 _ (put_eight n 4 _ (by decide) (by simp only [byteAt]; go_num)), below_set HV.out.2 (Nat.le_refl _)⟩⟩
      · have cz := cz 5 (by omega)
        go_wp2
        go_roundg kq1
        case measure => omega
        case rel => exact ⟨6, rfl, ⟨by have := HT.out; omega, by omega⟩, ⟨blk_put HV.out.1 5 _ (put_eight n 5 _ (by decide) (by simp only [byteAt]; go_num)), below_set HV.out.2 (Nat.le_refl _)⟩⟩
      · have cz := cz 6 (by omega)
        go_wp2
        go_roundg kq1
        case measure => omega
        case rel => exact ⟨7, rfl, ⟨by have := HT.out; omega, by omega⟩, ⟨blk_put HV.out.1 6 _ (put_eight n 6 _ (by decide) (by simp only [byteAt]; go_num)), below_set HV.out.2 (Nat.le_refl _)⟩⟩
      · have cz := cz 7 (by omega)
        go_wp2
        go_roundg kq1
        case measure => omega
        case rel => exact ⟨8, rfl, ⟨by have := HT.out; omega, by omega⟩, ⟨blk_put HV.out.1 7 _ (put_eight n 7 _ (by decide) (by simp only [byteAt]; go_num)), below_set HV.out.2 (Nat.le_refl _)⟩⟩
    · have q1' : ¬ (t : Int) < 8 := by omega
      obtain rfl : t = 8 := by have := HT.out; omega
      have hcv := string_of_reads (P := Tryd.prog) (c := 8) Tryd.underlying32 Tryd.underlying5 Tryd.underlying9 (row_reads HV.out.1 (by rw [eightL_len]))
      clear q1 q1'
      go_wp2
      go_ret
      exact ⟨rfl, HV.out.2⟩
end Go.Proofs.YtdnmllodefbekaaDoor.Au
