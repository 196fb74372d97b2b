import Derived.Test.YtjehbnhjaogfkaaSc39
namespace Go.Proofs.Ytjehbnhjaogfkaa.Sc
open Go.RowKit Go.Lib Go.Maps Go.WideAt Go.WideShapes Go.Proofs.YtjehbnhjaogfkaaW.PrintWords Go.Proofs.YtjehbnhjaogfkaaW.PrintLast Go.Proofs.YtjehbnhjaogfkaaW.PrintMore
open Go.Proofs.Ytjehbnhjaogfkaa
set_option linter.unusedVariables false
set_option linter.unusedSimpArgs false
set_option maxRecDepth 100000 in
set_option maxHeartbeats 4000000 in
theorem sameI_walk (W : World) (A B : Option Addr) (l : List Int) (c c' : Nat) (hA : (Kd.int .i64).C W A l.length l) (hB : (Kd.int .i64).C W B l.length l) (hl : l.length ≤ 140737488355328) :
    Calls Try.prog 35 #[.slice A l.length c, .slice B l.length c'] W fun e W' => e = .returned (.bool true) ∧ Below W.heap.size W W' := by
  have HA := Aside0.mk hA
  have HB := Aside0.mk hB
  clear hA hB
  go_enter Try.func35, Try.ntmps35
  go_wp2
  go_loopg [5] (l.length + 1) (fun kq v5 w' => ∃ j : Nat, v5 = .int .i64 (j : Int) ∧ Aside0 (j + kq = l.length + 1 ∧ j ≤ l.length) ∧ Aside0 (Below W.heap.size W w'))
  case atStart => exact ⟨0, rfl, ⟨by omega, Nat.zero_le _⟩, ⟨Below.refl _ _⟩⟩
  case round =>
    obtain ⟨j, rfl, HJ, HBl⟩ := hrel
    obtain ⟨j1, j2⟩ := HJ.out
    by_cases hj : j < l.length
    · obtain ⟨kq1, rfl⟩ : ∃ kq1, gk = kq1 + 1 := ⟨gk - 1, by omega⟩
      have hjj : (j : Int) < (l.length : Int) := by omega
      obtain ⟨ad, rfl, hc1⟩ := int_at (Kd.C_below HA.out HBl.out) j hj
      obtain ⟨ad2, rfl, hc2⟩ := int_at (Kd.C_below HB.out HBl.out) j hj
      go_wp2_with fail
      go_quiet (fail)
      go_wp2_with fail
      go_roundg kq1
      case measure => omega
      case rel => exact ⟨j + 1, by go_num, ⟨by omega, by omega⟩, ⟨pw_below_drewN HBl.out _⟩⟩
    · have hjj : ¬ (j : Int) < (l.length : Int) := by omega
      go_wp2
      go_ret
      exact ⟨rfl, HBl.out⟩
set_option maxRecDepth 100000 in
set_option maxHeartbeats 16000000 in
theorem sameTb_walk (W : World) (t : Tb) (A : Option Addr) (ca : Nat) (B : Option Addr) (cb : Nat) (C : Option Addr) (cc : Nat) (D : Option Addr) (cd : Nat) (hA : kcol.C W A t.cols.length t.cols) (hB : kix.C W B t.ixs.length t.ixs) (hC : kcol.C W C t.cols.length t.cols) (hD : kix.C W D t.ixs.length t.ixs)
    (hl : t.cols.length ≤ 140737488355328) (hl2 : t.ixs.length ≤ 140737488355328) (hl3 : ∀ x ∈ t.ixs, x.cols.length ≤ 140737488355328) :
    Calls Try.prog 18 #[.agg #[.string t.nm, .slice A t.cols.length ca, .int .i64 t.key, .slice B t.ixs.length cb], .agg #[.string t.nm, .slice C t.cols.length cc, .int .i64 t.key, .slice D t.ixs.length cd]] W fun e W' => e = .returned (.bool true) ∧ Below W.heap.size W W' := by
  obtain ⟨nm, cols, key, ixs⟩ := t
  simp only at hA hB hC hD hl hl2 hl3 ⊢
  obtain ⟨g, hg⟩ : ∃ g, W.heap.size = g := ⟨_, rfl⟩
  have HG := Aside0.mk hg
  have HA := Aside0.mk hA
  have HB := Aside0.mk hB
  have HC := Aside0.mk hC
  have HD := Aside0.mk hD
  have HL3 := Aside0.mk hl3
  have HX1 := Aside0.mk (show TbBox ((W.alloc (.cells #[.string nm, .slice A cols.length ca, .int .i64 key, .slice B ixs.length cb] 30)).alloc (.cells #[.string nm, .slice C cols.length cc, .int .i64 key, .slice D ixs.length cd] 30)) g (.string nm) (.slice A cols.length ca) (.int .i64 key) (.slice B ixs.length cb) from by
    rw [← hg]
    have h := tbBox_made W (.string nm) (.slice A cols.length ca) (.int .i64 key) (.slice B ixs.length cb) 30
    exact h.keep (below_alloc (Below.refl _ _) _) h.lt)
  have HX2 := Aside0.mk (show TbBox ((W.alloc (.cells #[.string nm, .slice A cols.length ca, .int .i64 key, .slice B ixs.length cb] 30)).alloc (.cells #[.string nm, .slice C cols.length cc, .int .i64 key, .slice D ixs.length cd] 30)) (g + 1) (.string nm) (.slice C cols.length cc) (.int .i64 key) (.slice D ixs.length cd) from by
    have h := tbBox_made (W.alloc (.cells #[.string nm, .slice A cols.length ca, .int .i64 key, .slice B ixs.length cb] 30)) (.string nm) (.slice C cols.length cc) (.int .i64 key) (.slice D ixs.length cd) 30
    have e : (W.alloc (.cells #[.string nm, .slice A cols.length ca, .int .i64 key, .slice B ixs.length cb] 30)).heap.size = g + 1 := by rw [← hg]; simp [World.alloc_eq]
    rw [e] at h
    exact h)
  have HW := Aside0.mk (show Below W.heap.size W ((W.alloc (.cells #[.string nm, .slice A cols.length ca, .int .i64 key, .slice B ixs.length cb] 30)).alloc (.cells #[.string nm, .slice C cols.length cc, .int .i64 key, .slice D ixs.length cd] 30)) from below_alloc (below_alloc (Below.refl _ _) _) _)
  clear hA hB hC hD hl3
  go_enter Try.func18, Try.ntmps18
  go_upto_region 3 with fail
  clear hg
  generalize (W.alloc (.cells #[.string nm, .slice A cols.length ca, .int .i64 key, .slice B ixs.length cb] 30)).alloc (.cells #[.string nm, .slice C cols.length cc, .int .i64 key, .slice D ixs.length cd] 30) = w0 at *
  go_wp2_with fail
  go_loopg [5] (cols.length + 1) (fun kq v5 w' => ∃ j : Nat, v5 = .int .i64 (j : Int) ∧ Aside0 (j + kq = cols.length + 1 ∧ j ≤ cols.length) ∧ Aside0 (Below w0.heap.size w0 w'))
  case atStart => exact ⟨0, rfl, ⟨by omega, Nat.zero_le _⟩, ⟨Below.refl _ _⟩⟩
  case round =>
    obtain ⟨j, rfl, HJ, HBl⟩ := hrel
    have hWr := step HW.out HBl.out
    have b1 := HX1.out.keep HBl.out HX1.out.lt
    have b2 := HX2.out.keep HBl.out HX2.out.lt
    have c1 := b1.c1
    have d1 := b2.c1
    by_cases hj : j < cols.length
    · obtain ⟨kq1, rfl⟩ : ∃ kq1, gk = kq1 + 1 := ⟨gk - 1, by have := HJ.out; omega⟩
      have hjj : (j : Int) < (cols.length : Int) := by omega
      obtain ⟨ad, rfl, x0, x1⟩ := col_at (Kd.C_below HA.out hWr) j hj
      obtain ⟨ad2, rfl, z0, z1⟩ := col_at (Kd.C_below HC.out hWr) j hj
      obtain ⟨x, hx⟩ : ∃ x, cols[j] = x := ⟨_, rfl⟩
      rw [hx] at x0 x1 z0 z1
      have y1 := far_cell x1
      have y2 := far_cell z1
      have HHj := Aside0.mk hj
      clear hx hj hWr b1 b2
      go_upto_region 6 with fail
      go_quiet (fail)
      go_wp2_with fail
      go_roundg kq1
      case measure => have := HJ.out; omega
      case rel => exact ⟨j + 1, by go_num, ⟨by have := HJ.out; omega, by have := HHj.out; omega⟩, ⟨pw_below_drewN HBl.out _⟩⟩
    · have hjj : ¬ (j : Int) < (cols.length : Int) := by omega
      have HWr := Aside0.mk hWr
      have HB1 := Aside0.mk b1
      have HB2 := Aside0.mk b2
      clear hWr b1 b2 hj HX1 HX2 HW HBl
      go_wp2_with fail
      clear c1 d1
      generalize wr = wp at *
      go_loopg [6] (ixs.length + 1) (fun kq v6 w' => ∃ j : Nat, v6 = .int .i64 (j : Int) ∧ Aside0 (j + kq = ixs.length + 1 ∧ j ≤ ixs.length) ∧ Aside0 (Below wp.heap.size wp w'))
      case atStart => exact ⟨0, rfl, ⟨by omega, Nat.zero_le _⟩, ⟨Below.refl _ _⟩⟩
      case round =>
        clear HJ
        obtain ⟨j, rfl, HJ, HBl⟩ := hrel
        have hWr := step HWr.out HBl.out
        have b1 := HB1.out.keep HBl.out HB1.out.lt
        have b2 := HB2.out.keep HBl.out HB2.out.lt
        have c3 := b1.c3
        have d3 := b2.c3
        by_cases hj : j < ixs.length
        · obtain ⟨kq1, rfl⟩ : ∃ kq1, gk = kq1 + 1 := ⟨gk - 1, by have := HJ.out; omega⟩
          have hjj : (j : Int) < (ixs.length : Int) := by omega
          obtain ⟨ad, B1, e1, rfl, x0, x1, x2, hle, hCa⟩ := ix_at HB.out j hj
          obtain ⟨ad2, B2, e2, rfl, z0, z1, z2, hle2, hCb⟩ := ix_at HD.out j hj
          have hx3 := HL3.out _ (List.getElem_mem hj)
          obtain ⟨x, hx⟩ : ∃ x, ixs[j] = x := ⟨_, rfl⟩
          rw [hx] at x0 x1 x2 z0 z1 z2 hle hle2 hCa hCb hx3
          replace x0 := cell_below hWr x0
          replace x1 := cell_below hWr x1
          replace x2 := cell_below hWr x2
          replace z0 := cell_below hWr z0
          replace z1 := cell_below hWr z1
          replace z2 := cell_below hWr z2
          have y1 := far_cell x1
          have y2 := far_cell x2
          have y3 := far_cell z1
          have y4 := far_cell z2
          have HHj := Aside0.mk hj
          have HCa := Aside0.mk hCa
          have HCb := Aside0.mk hCb
          have HX3 := Aside0.mk hx3
          have HWq := Aside0.mk hWr
          clear hx hj hWr b1 b2 hle hle2 hCa hCb hx3
          have a0 := fun o => cell_alloc o c3
          have b0 := fun o o' => cell_alloc o' (cell_alloc o c3)
          have a1 := fun o => cell_alloc o d3
          have b1 := fun o o' => cell_alloc o' (cell_alloc o d3)
          have a2 := fun o => cell_alloc o x0
          have b2 := fun o o' => cell_alloc o' (cell_alloc o x0)
          have a3 := fun o => cell_alloc o x1
          have b3 := fun o o' => cell_alloc o' (cell_alloc o x1)
          have a4 := fun o => cell_alloc o x2
          have b4 := fun o o' => cell_alloc o' (cell_alloc o x2)
          have a5 := fun o => cell_alloc o y1
          have b5 := fun o o' => cell_alloc o' (cell_alloc o y1)
          have a6 := fun o => cell_alloc o y2
          have b6 := fun o o' => cell_alloc o' (cell_alloc o y2)
          have a7 := fun o => cell_alloc o z0
          have b7 := fun o o' => cell_alloc o' (cell_alloc o z0)
          have a8 := fun o => cell_alloc o z1
          have b8 := fun o o' => cell_alloc o' (cell_alloc o z1)
          have a9 := fun o => cell_alloc o z2
          have b9 := fun o o' => cell_alloc o' (cell_alloc o z2)
          have a10 := fun o => cell_alloc o y3
          have b10 := fun o o' => cell_alloc o' (cell_alloc o y3)
          have a11 := fun o => cell_alloc o y4
          have b11 := fun o o' => cell_alloc o' (cell_alloc o y4)
          go_upto_region 11 with fail
          go_region
          all_goals (
            clear a0 b0 a1 b1 a2 b2 a3 b3 a4 b4 a5 b5 a6 b6 a7 b7 a8 b8 a9 b9 a10 b10 a11 b11 x0 x1 x2 y1 y2 z0 z1 z2 y3 y4 c3 d3
            go_wp2_with (go_at_call 35; refine (sameI_walk _ B1 B2 x.cols e1 e2 (Kd.C_below HCa.out (step HWq.out (below_drew (below_alloc (below_alloc (Below.refl _ _) _) _)))) (Kd.C_below HCb.out (step HWq.out (below_drew (below_alloc (below_alloc (Below.refl _ _) _) _)))) HX3.out).mono ?_; rintro e w5 ⟨rfl, hb5⟩; have HB5 := Aside0.mk (step (step HBl.out (below_drew (below_alloc (below_alloc (Below.refl _ _) _) _))) hb5); clear hb5)
            go_roundg kq1
            case measure => have := HJ.out; omega
            case rel => exact ⟨j + 1, by go_num, ⟨by have := HJ.out; omega, by have := HHj.out; omega⟩, HB5⟩)
        · have hjj : ¬ (j : Int) < (ixs.length : Int) := by omega
          go_wp2_with fail
          go_ret
          exact ⟨rfl, hWr⟩
end Go.Proofs.Ytjehbnhjaogfkaa.Sc
